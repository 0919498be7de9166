/- What two paths share. -/
import Derived.Test.YtpeojnknfonmlaaJ3
import Derived.Test.YtpeojnknfonmlaaJ4
set_option linter.unusedVariables false
set_option linter.unusedSimpArgs false
namespace Go.Proofs.Ytpeojnknfonmlaa
open Go.RowKit
attribute [local go_sem] w_lt_add w_le_of w_le_add max2_i min2_i
namespace LL
/-- the same step, field by field -/
def StepEq (a b : Step) : Prop := a.x = b.x ∧ a.y = b.y ∧ a.lo = b.lo ∧ a.hi = b.hi ∧ a.fr = b.fr ∧ a.by_ = b.by_ ∧ a.hold = b.hold
instance (a b : Step) : Decidable (StepEq a b) := inferInstanceAs (Decidable (_ ∧ _))
def KindEq (p q : Path) : Prop := p.q = q.q ∧ p.s = q.s
instance (p q : Path) : Decidable (KindEq p q) := inferInstanceAs (Decidable (_ ∧ _))
/-- how many first steps are the same, from place k on, d more at most -/
def lcp (p q : Path) : Nat → Nat → Nat
  | 0, _ => 0
  | d + 1, k => if k < q.steps.length ∧ StepEq (nth p.steps k) (nth q.steps k) then lcp p q d (k + 1) + 1 else 0
def shared (p q : Path) : Nat := if KindEq p q then lcp p q p.steps.length 0 else 0
/-- k are found to be the same -/
def shTo (p q : Path) (k : Nat) : Nat := k + lcp p q (p.steps.length - k) k
theorem shTo_zero {p q : Path} (h : KindEq p q) : shared p q = shTo p q 0 := by unfold shared shTo; rw [if_pos h]; simp
theorem shTo_more {p q : Path} {k : Nat} (h1 : k < p.steps.length) (h2 : k < q.steps.length) (h3 : StepEq (nth p.steps k) (nth q.steps k)) : shTo p q k = shTo p q (k + 1) := by
  unfold shTo
  obtain ⟨m, hm⟩ : ∃ m, p.steps.length - k = m + 1 := ⟨p.steps.length - k - 1, by omega⟩
  rw [hm, show p.steps.length - (k + 1) = m by omega, lcp, if_pos ⟨h2, h3⟩]; omega
theorem shTo_stop {p q : Path} {k : Nat} (h : ¬ (k < p.steps.length ∧ k < q.steps.length ∧ StepEq (nth p.steps k) (nth q.steps k))) : shTo p q k = k := by
  unfold shTo
  rcases Nat.lt_or_ge k p.steps.length with h1 | h1
  · obtain ⟨m, hm⟩ : ∃ m, p.steps.length - k = m + 1 := ⟨p.steps.length - k - 1, by omega⟩
    rw [hm, lcp, if_neg (fun h2 => h ⟨h1, h2⟩)]; rfl
  · rw [show p.steps.length - k = 0 by omega]; rfl
theorem shared_none {p q : Path} (h : ¬ KindEq p q) : shared p q = 0 := if_neg h
end LL
theorem eq_kind (p q : LL.Path) (w : World) : (if p.q = q.q then (if p.s = q.s then (Result.ok (Next.value (Value.bool true)) w) else Result.ok (Next.value (Value.bool false)) w) else Result.ok (Next.value (Value.bool false)) w) = Result.ok (Next.value (Value.bool (decide (LL.KindEq p q)))) w := by
  unfold LL.KindEq
  by_cases h1 : p.q = q.q <;> by_cases h2 : p.s = q.s <;> simp [h1, h2]
theorem eq_step (a b : LL.Step) (w : World) : (if a.x = b.x then if a.y = b.y then if a.lo = b.lo then if a.hi = b.hi then if a.fr = b.fr then if a.by_ = b.by_ then if a.hold = b.hold then Result.ok (Next.value (Value.bool true)) w
    else Result.ok (Next.value (Value.bool false)) w else Result.ok (Next.value (Value.bool false)) w else Result.ok (Next.value (Value.bool false)) w else Result.ok (Next.value (Value.bool false)) w else Result.ok (Next.value (Value.bool false)) w else Result.ok (Next.value (Value.bool false)) w else Result.ok (Next.value (Value.bool false)) w)
    = Result.ok (Next.value (Value.bool (decide (LL.StepEq a b)))) w := by
  unfold LL.StepEq
  by_cases h1 : a.x = b.x
  · by_cases h2 : a.y = b.y
    · by_cases h3 : a.lo = b.lo
      · by_cases h4 : a.hi = b.hi
        · by_cases h5 : a.fr = b.fr
          · by_cases h6 : a.by_ = b.by_
            · by_cases h7 : a.hold = b.hold <;> simp [h1, h2, h3, h4, h5, h6, h7]
            · simp [h1, h2, h3, h4, h5, h6]
          · simp [h1, h2, h3, h4, h5]
        · simp [h1, h2, h3, h4]
      · simp [h1, h2, h3]
    · simp [h1, h2]
  · simp [h1]
set_option maxRecDepth 100000 in
set_option maxHeartbeats 4000000 in
theorem impl_FlyShared_c (p q : LL.Path) (A B : Option Addr) (c d : Nat) (w : World) (h : RdS w A p.steps.length c p.steps) (h' : RdS w B q.steps.length d q.steps) : Calls Try.prog 56 #[.agg #[.int .i64 p.q, .int .i64 p.s, .slice A p.steps.length c, .int .i64 p.fr, .int .i64 p.by_], .agg #[.int .i64 q.q, .int .i64 q.s, .slice B q.steps.length d, .int .i64 q.fr, .int .i64 q.by_]] w fun e w' => e = .returned (.int .i64 (LL.shared p q)) ∧ Below w.heap.size w w' := by
  have hroom := h.room
  have hroom' := h'.room
  by_cases hK : LL.KindEq p q
  · go_enter Try.func56, Try.ntmps56
    go_wp2
    go_loopw [5] (fun i wr => ∃ k : Nat, k ≤ p.steps.length ∧ k ≤ q.steps.length ∧ i = .int .i64 k ∧ LL.Same (LL.shared p q) (LL.shTo p q k) ∧ Blk wr w.heap.size #[.int .i64 p.q, .int .i64 p.s, .slice A p.steps.length c, .int .i64 p.fr, .int .i64 p.by_] 43 ∧ Blk wr (w.heap.size + 1) #[.int .i64 q.q, .int .i64 q.s, .slice B q.steps.length d, .int .i64 q.fr, .int .i64 q.by_] 43 ∧ Below w.heap.size w wr) (fun i _ => p.steps.length - (intOf i).toNat)
    case atStart => exact ⟨0, Nat.zero_le _, Nat.zero_le _, rfl, LL.shTo_zero hK, (by repeat' (first | with_reducible assumption | with_reducible exact Blk.new _ _ _ | with_reducible exact Blk.new' _ _ (by first | (simp only [World.size_alloc, World.size_setCell, World.size_drew]; done) | (simp only [World.size_alloc, World.size_setCell, World.size_drew]; omega) | omega) | with_reducible refine Blk.a ?_ _ | with_reducible refine Blk.d ?_ | with_reducible refine Blk.dN ?_ _ | with_reducible refine Blk.s ?_ (by simp only [ne_eq]; omega) _ | with_reducible refine Blk.b ?_ (by with_reducible assumption))), (by repeat' (first | with_reducible assumption | with_reducible exact Blk.new _ _ _ | with_reducible exact Blk.new' _ _ (by first | (simp only [World.size_alloc, World.size_setCell, World.size_drew]; done) | (simp only [World.size_alloc, World.size_setCell, World.size_drew]; omega) | omega) | with_reducible refine Blk.a ?_ _ | with_reducible refine Blk.d ?_ | with_reducible refine Blk.dN ?_ _ | with_reducible refine Blk.s ?_ (by simp only [ne_eq]; omega) _ | with_reducible refine Blk.b ?_ (by with_reducible assumption))), (by repeat' (first | with_reducible exact Below.refl _ _ | with_reducible assumption | with_reducible refine b_alloc ?_ _ | with_reducible refine b_drewN ?_ _ | with_reducible refine b_drew ?_ | with_reducible refine b_set ?_ (by first | (simp only [World.size_setCell, World.size_alloc, World.size_drew]; omega) | (simp; done) | (simp; omega)) _ | with_reducible refine b_step ?_ (by with_reducible assumption)))⟩
    case round =>
      obtain ⟨k, hk, hk', rfl, hs, kP, kQ, hb⟩ := hrel
      obtain ⟨eP, fP, lP⟩ := kP.cells
      obtain ⟨eQ, fQ, lQ⟩ := kQ.cells
      obtain ⟨gc, gf, gl⟩ := bcell hb
      by_cases hkp : k < p.steps.length
      · by_cases hkq : k < q.steps.length
        · obtain ⟨b1, off1, rfl, hbw1⟩ := h.addr (by omega)
          obtain ⟨b2, off2, rfl, hbw2⟩ := h'.addr (by omega)
          obtain ⟨c0, c1, c2, c3, c4, c5, c6⟩ := h.S7 k hkp
          obtain ⟨d0, d1, d2, d3, d4, d5, d6⟩ := h'.S7 k hkq
          by_cases hE : LL.StepEq (LL.nth p.steps k) (LL.nth q.steps k)
          · go_wp2_with fail
            ((refine calm_b (by kernel_rfl) (by kernel_rfl) ?_); (repeat (first | ((apply sure_cons (hg := rfl)); (focus ((intro w' hS'); (obtain ⟨hcS, hfS, hlS⟩ := bcell hS'); (try simp only [World.size_setCell, World.size_alloc, World.size_drew] at hS' hcS hfS hlS); (go_simp); (try go_bits); (try ((first | rw [if_pos (by omega)] | rw [if_neg (by omega)]); go_simp)); (first | (with_reducible rfl) | (with_reducible exact rfl) | (with_reducible exact ⟨rfl, hS'⟩) | (first | (rw [eq_kind]; exact ⟨rfl, hS'⟩) | (rw [eq_step]; exact ⟨rfl, hS'⟩))))); (simp only [Act.put, List.setIfInBounds_toArray, List.set_cons_zero, List.set_cons_succ])) | ((apply sure_off (hg := rfl)); (simp only [Act.put, List.setIfInBounds_toArray, List.set_cons_zero, List.set_cons_succ])))); (refine sure_nil ?_))
            intro w9 hS9
            go_wp2_with fail
            go_roundw
            case rel => exact ⟨k + 1, by omega, by omega, by go_num, hs.trans (LL.shTo_more hkp hkq hE), kP.b hS9, kQ.b hS9, b_step hb hS9⟩
            case measure => simp [intOf]; omega
          · go_wp2_with fail
            ((refine calm_b (by kernel_rfl) (by kernel_rfl) ?_); (repeat (first | ((apply sure_cons (hg := rfl)); (focus ((intro w' hS'); (obtain ⟨hcS, hfS, hlS⟩ := bcell hS'); (try simp only [World.size_setCell, World.size_alloc, World.size_drew] at hS' hcS hfS hlS); (go_simp); (try go_bits); (try ((first | rw [if_pos (by omega)] | rw [if_neg (by omega)]); go_simp)); (first | (with_reducible rfl) | (with_reducible exact rfl) | (with_reducible exact ⟨rfl, hS'⟩) | (first | (rw [eq_kind]; exact ⟨rfl, hS'⟩) | (rw [eq_step]; exact ⟨rfl, hS'⟩))))); (simp only [Act.put, List.setIfInBounds_toArray, List.set_cons_zero, List.set_cons_succ])) | ((apply sure_off (hg := rfl)); (simp only [Act.put, List.setIfInBounds_toArray, List.set_cons_zero, List.set_cons_succ])))); (refine sure_nil ?_))
            intro w9 hS9
            go_wp2_with fail
            go_ret
            exact ⟨by rw [hs.out, LL.shTo_stop (fun h9 => hE h9.2.2)]; rfl, b_step hb hS9⟩
        · go_wp2_with fail
          ((refine calm_b (by kernel_rfl) (by kernel_rfl) ?_); (repeat (first | ((apply sure_cons (hg := rfl)); (focus ((intro w' hS'); (obtain ⟨hcS, hfS, hlS⟩ := bcell hS'); (try simp only [World.size_setCell, World.size_alloc, World.size_drew] at hS' hcS hfS hlS); (go_simp); (try go_bits); (try ((first | rw [if_pos (by omega)] | rw [if_neg (by omega)]); go_simp)); (first | (with_reducible rfl) | (with_reducible exact rfl) | (with_reducible exact ⟨rfl, hS'⟩) | (first | (rw [eq_kind]; exact ⟨rfl, hS'⟩) | (rw [eq_step]; exact ⟨rfl, hS'⟩))))); (simp only [Act.put, List.setIfInBounds_toArray, List.set_cons_zero, List.set_cons_succ])) | ((apply sure_off (hg := rfl)); (simp only [Act.put, List.setIfInBounds_toArray, List.set_cons_zero, List.set_cons_succ])))); (refine sure_nil ?_))
          intro w9 hS9
          go_wp2_with fail
          go_ret
          exact ⟨by rw [hs.out, LL.shTo_stop (fun h9 => hkq h9.2.1)]; rfl, b_step hb hS9⟩
      · go_wp2_with fail
        ((refine calm_b (by kernel_rfl) (by kernel_rfl) ?_); (repeat (first | ((apply sure_cons (hg := rfl)); (focus ((intro w' hS'); (obtain ⟨hcS, hfS, hlS⟩ := bcell hS'); (try simp only [World.size_setCell, World.size_alloc, World.size_drew] at hS' hcS hfS hlS); (go_simp); (try go_bits); (try ((first | rw [if_pos (by omega)] | rw [if_neg (by omega)]); go_simp)); (first | (with_reducible rfl) | (with_reducible exact rfl) | (with_reducible exact ⟨rfl, hS'⟩) | (first | (rw [eq_kind]; exact ⟨rfl, hS'⟩) | (rw [eq_step]; exact ⟨rfl, hS'⟩))))); (simp only [Act.put, List.setIfInBounds_toArray, List.set_cons_zero, List.set_cons_succ])) | ((apply sure_off (hg := rfl)); (simp only [Act.put, List.setIfInBounds_toArray, List.set_cons_zero, List.set_cons_succ])))); (refine sure_nil ?_))
        intro w9 hS9
        go_wp2_with fail
        go_ret
        exact ⟨by rw [hs.out, LL.shTo_stop (fun h9 => hkp h9.1)]; rfl, b_step hb hS9⟩
  · go_enter Try.func56, Try.ntmps56
    go_wp2
    go_loopw [5] (fun i wr => ∃ k : Nat, k ≤ p.steps.length ∧ k ≤ q.steps.length ∧ i = .int .i64 k ∧ k = 0 ∧ Blk wr w.heap.size #[.int .i64 p.q, .int .i64 p.s, .slice A p.steps.length c, .int .i64 p.fr, .int .i64 p.by_] 43 ∧ Blk wr (w.heap.size + 1) #[.int .i64 q.q, .int .i64 q.s, .slice B q.steps.length d, .int .i64 q.fr, .int .i64 q.by_] 43 ∧ Below w.heap.size w wr) (fun i _ => p.steps.length - (intOf i).toNat)
    case atStart => exact ⟨0, Nat.zero_le _, Nat.zero_le _, rfl, rfl, (by repeat' (first | with_reducible assumption | with_reducible exact Blk.new _ _ _ | with_reducible exact Blk.new' _ _ (by first | (simp only [World.size_alloc, World.size_setCell, World.size_drew]; done) | (simp only [World.size_alloc, World.size_setCell, World.size_drew]; omega) | omega) | with_reducible refine Blk.a ?_ _ | with_reducible refine Blk.d ?_ | with_reducible refine Blk.dN ?_ _ | with_reducible refine Blk.s ?_ (by simp only [ne_eq]; omega) _ | with_reducible refine Blk.b ?_ (by with_reducible assumption))), (by repeat' (first | with_reducible assumption | with_reducible exact Blk.new _ _ _ | with_reducible exact Blk.new' _ _ (by first | (simp only [World.size_alloc, World.size_setCell, World.size_drew]; done) | (simp only [World.size_alloc, World.size_setCell, World.size_drew]; omega) | omega) | with_reducible refine Blk.a ?_ _ | with_reducible refine Blk.d ?_ | with_reducible refine Blk.dN ?_ _ | with_reducible refine Blk.s ?_ (by simp only [ne_eq]; omega) _ | with_reducible refine Blk.b ?_ (by with_reducible assumption))), (by repeat' (first | with_reducible exact Below.refl _ _ | with_reducible assumption | with_reducible refine b_alloc ?_ _ | with_reducible refine b_drewN ?_ _ | with_reducible refine b_drew ?_ | with_reducible refine b_set ?_ (by first | (simp only [World.size_setCell, World.size_alloc, World.size_drew]; omega) | (simp; done) | (simp; omega)) _ | with_reducible refine b_step ?_ (by with_reducible assumption)))⟩
    case round =>
      obtain ⟨k, hk, hk', rfl, hs, kP, kQ, hb⟩ := hrel
      obtain ⟨eP, fP, lP⟩ := kP.cells
      obtain ⟨eQ, fQ, lQ⟩ := kQ.cells
      obtain ⟨gc, gf, gl⟩ := bcell hb
      subst hs
      by_cases hkp : 0 < p.steps.length
      · by_cases hkq : 0 < q.steps.length
        · obtain ⟨b1, off1, rfl, hbw1⟩ := h.addr (by omega)
          obtain ⟨b2, off2, rfl, hbw2⟩ := h'.addr (by omega)
          obtain ⟨c0, c1, c2, c3, c4, c5, c6⟩ := h.S7 0 hkp
          obtain ⟨d0, d1, d2, d3, d4, d5, d6⟩ := h'.S7 0 hkq
          simp only [Nat.zero_mul, Nat.add_zero] at c0 c1 c2 c3 c4 c5 c6 d0 d1 d2 d3 d4 d5 d6
          by_cases hE : LL.StepEq (LL.nth p.steps 0) (LL.nth q.steps 0)
          · go_wp2_with fail
            ((refine calm_b (by kernel_rfl) (by kernel_rfl) ?_); (repeat (first | ((apply sure_cons (hg := rfl)); (focus ((intro w' hS'); (obtain ⟨hcS, hfS, hlS⟩ := bcell hS'); (try simp only [World.size_setCell, World.size_alloc, World.size_drew] at hS' hcS hfS hlS); (go_simp); (try go_bits); (try ((first | rw [if_pos (by omega)] | rw [if_neg (by omega)]); go_simp)); (first | (with_reducible rfl) | (with_reducible exact rfl) | (with_reducible exact ⟨rfl, hS'⟩) | (first | (rw [eq_kind]; exact ⟨rfl, hS'⟩) | (rw [eq_step]; exact ⟨rfl, hS'⟩))))); (simp only [Act.put, List.setIfInBounds_toArray, List.set_cons_zero, List.set_cons_succ])) | ((apply sure_off (hg := rfl)); (simp only [Act.put, List.setIfInBounds_toArray, List.set_cons_zero, List.set_cons_succ])))); (refine sure_nil ?_))
            intro w9 hS9
            go_wp2_with fail
            go_ret
            exact ⟨by rw [LL.shared_none hK]; rfl, b_step hb hS9⟩
          · go_wp2_with fail
            ((refine calm_b (by kernel_rfl) (by kernel_rfl) ?_); (repeat (first | ((apply sure_cons (hg := rfl)); (focus ((intro w' hS'); (obtain ⟨hcS, hfS, hlS⟩ := bcell hS'); (try simp only [World.size_setCell, World.size_alloc, World.size_drew] at hS' hcS hfS hlS); (go_simp); (try go_bits); (try ((first | rw [if_pos (by omega)] | rw [if_neg (by omega)]); go_simp)); (first | (with_reducible rfl) | (with_reducible exact rfl) | (with_reducible exact ⟨rfl, hS'⟩) | (first | (rw [eq_kind]; exact ⟨rfl, hS'⟩) | (rw [eq_step]; exact ⟨rfl, hS'⟩))))); (simp only [Act.put, List.setIfInBounds_toArray, List.set_cons_zero, List.set_cons_succ])) | ((apply sure_off (hg := rfl)); (simp only [Act.put, List.setIfInBounds_toArray, List.set_cons_zero, List.set_cons_succ])))); (refine sure_nil ?_))
            intro w9 hS9
            go_wp2_with fail
            go_ret
            exact ⟨by rw [LL.shared_none hK]; rfl, b_step hb hS9⟩
        · go_wp2_with fail
          ((refine calm_b (by kernel_rfl) (by kernel_rfl) ?_); (repeat (first | ((apply sure_cons (hg := rfl)); (focus ((intro w' hS'); (obtain ⟨hcS, hfS, hlS⟩ := bcell hS'); (try simp only [World.size_setCell, World.size_alloc, World.size_drew] at hS' hcS hfS hlS); (go_simp); (try go_bits); (try ((first | rw [if_pos (by omega)] | rw [if_neg (by omega)]); go_simp)); (first | (with_reducible rfl) | (with_reducible exact rfl) | (with_reducible exact ⟨rfl, hS'⟩) | (first | (rw [eq_kind]; exact ⟨rfl, hS'⟩) | (rw [eq_step]; exact ⟨rfl, hS'⟩))))); (simp only [Act.put, List.setIfInBounds_toArray, List.set_cons_zero, List.set_cons_succ])) | ((apply sure_off (hg := rfl)); (simp only [Act.put, List.setIfInBounds_toArray, List.set_cons_zero, List.set_cons_succ])))); (refine sure_nil ?_))
          intro w9 hS9
          go_wp2_with fail
          go_ret
          exact ⟨by rw [LL.shared_none hK]; rfl, b_step hb hS9⟩
      · go_wp2_with fail
        ((refine calm_b (by kernel_rfl) (by kernel_rfl) ?_); (repeat (first | ((apply sure_cons (hg := rfl)); (focus ((intro w' hS'); (obtain ⟨hcS, hfS, hlS⟩ := bcell hS'); (try simp only [World.size_setCell, World.size_alloc, World.size_drew] at hS' hcS hfS hlS); (go_simp); (try go_bits); (try ((first | rw [if_pos (by omega)] | rw [if_neg (by omega)]); go_simp)); (first | (with_reducible rfl) | (with_reducible exact rfl) | (with_reducible exact ⟨rfl, hS'⟩) | (first | (rw [eq_kind]; exact ⟨rfl, hS'⟩) | (rw [eq_step]; exact ⟨rfl, hS'⟩))))); (simp only [Act.put, List.setIfInBounds_toArray, List.set_cons_zero, List.set_cons_succ])) | ((apply sure_off (hg := rfl)); (simp only [Act.put, List.setIfInBounds_toArray, List.set_cons_zero, List.set_cons_succ])))); (refine sure_nil ?_))
        intro w9 hS9
        go_wp2_with fail
        go_ret
        exact ⟨by rw [LL.shared_none hK]; rfl, b_step hb hS9⟩
set_option maxRecDepth 100000 in
set_option maxHeartbeats 4000000 in
theorem spec_FlyShared_c (p q : LL.Path) (A B : Option Addr) (c d : Nat) (w : World) (h : RdS w A p.steps.length c p.steps) (h' : RdS w B q.steps.length d q.steps) : Calls Try.prog 57 #[.agg #[.int .i64 p.q, .int .i64 p.s, .slice A p.steps.length c, .int .i64 p.fr, .int .i64 p.by_], .agg #[.int .i64 q.q, .int .i64 q.s, .slice B q.steps.length d, .int .i64 q.fr, .int .i64 q.by_]] w fun e w' => e = .returned (.int .i64 (LL.shared p q)) ∧ Below w.heap.size w w' := by
  have hroom := h.room
  have hroom' := h'.room
  by_cases hK : LL.KindEq p q
  · go_enter Try.func57, Try.ntmps57
    go_wp2
    go_loopw [5] (fun i wr => ∃ k : Nat, k ≤ p.steps.length ∧ k ≤ q.steps.length ∧ i = .int .i64 k ∧ LL.Same (LL.shared p q) (LL.shTo p q k) ∧ Blk wr w.heap.size #[.int .i64 p.q, .int .i64 p.s, .slice A p.steps.length c, .int .i64 p.fr, .int .i64 p.by_] 43 ∧ Blk wr (w.heap.size + 1) #[.int .i64 q.q, .int .i64 q.s, .slice B q.steps.length d, .int .i64 q.fr, .int .i64 q.by_] 43 ∧ Below w.heap.size w wr) (fun i _ => p.steps.length - (intOf i).toNat)
    case atStart => exact ⟨0, Nat.zero_le _, Nat.zero_le _, rfl, LL.shTo_zero hK, (by repeat' (first | with_reducible assumption | with_reducible exact Blk.new _ _ _ | with_reducible exact Blk.new' _ _ (by first | (simp only [World.size_alloc, World.size_setCell, World.size_drew]; done) | (simp only [World.size_alloc, World.size_setCell, World.size_drew]; omega) | omega) | with_reducible refine Blk.a ?_ _ | with_reducible refine Blk.d ?_ | with_reducible refine Blk.dN ?_ _ | with_reducible refine Blk.s ?_ (by simp only [ne_eq]; omega) _ | with_reducible refine Blk.b ?_ (by with_reducible assumption))), (by repeat' (first | with_reducible assumption | with_reducible exact Blk.new _ _ _ | with_reducible exact Blk.new' _ _ (by first | (simp only [World.size_alloc, World.size_setCell, World.size_drew]; done) | (simp only [World.size_alloc, World.size_setCell, World.size_drew]; omega) | omega) | with_reducible refine Blk.a ?_ _ | with_reducible refine Blk.d ?_ | with_reducible refine Blk.dN ?_ _ | with_reducible refine Blk.s ?_ (by simp only [ne_eq]; omega) _ | with_reducible refine Blk.b ?_ (by with_reducible assumption))), (by repeat' (first | with_reducible exact Below.refl _ _ | with_reducible assumption | with_reducible refine b_alloc ?_ _ | with_reducible refine b_drewN ?_ _ | with_reducible refine b_drew ?_ | with_reducible refine b_set ?_ (by first | (simp only [World.size_setCell, World.size_alloc, World.size_drew]; omega) | (simp; done) | (simp; omega)) _ | with_reducible refine b_step ?_ (by with_reducible assumption)))⟩
    case round =>
      obtain ⟨k, hk, hk', rfl, hs, kP, kQ, hb⟩ := hrel
      obtain ⟨eP, fP, lP⟩ := kP.cells
      obtain ⟨eQ, fQ, lQ⟩ := kQ.cells
      obtain ⟨gc, gf, gl⟩ := bcell hb
      by_cases hkp : k < p.steps.length
      · by_cases hkq : k < q.steps.length
        · obtain ⟨b1, off1, rfl, hbw1⟩ := h.addr (by omega)
          obtain ⟨b2, off2, rfl, hbw2⟩ := h'.addr (by omega)
          obtain ⟨c0, c1, c2, c3, c4, c5, c6⟩ := h.S7 k hkp
          obtain ⟨d0, d1, d2, d3, d4, d5, d6⟩ := h'.S7 k hkq
          by_cases hE : LL.StepEq (LL.nth p.steps k) (LL.nth q.steps k)
          · go_wp2_with fail
            ((refine calm_b (by kernel_rfl) (by kernel_rfl) ?_); (repeat (first | ((apply sure_cons (hg := rfl)); (focus ((intro w' hS'); (obtain ⟨hcS, hfS, hlS⟩ := bcell hS'); (try simp only [World.size_setCell, World.size_alloc, World.size_drew] at hS' hcS hfS hlS); (go_simp); (try go_bits); (try ((first | rw [if_pos (by omega)] | rw [if_neg (by omega)]); go_simp)); (first | (with_reducible rfl) | (with_reducible exact rfl) | (with_reducible exact ⟨rfl, hS'⟩) | (first | (rw [eq_kind]; exact ⟨rfl, hS'⟩) | (rw [eq_step]; exact ⟨rfl, hS'⟩))))); (simp only [Act.put, List.setIfInBounds_toArray, List.set_cons_zero, List.set_cons_succ])) | ((apply sure_off (hg := rfl)); (simp only [Act.put, List.setIfInBounds_toArray, List.set_cons_zero, List.set_cons_succ])))); (refine sure_nil ?_))
            intro w9 hS9
            go_wp2_with fail
            go_roundw
            case rel => exact ⟨k + 1, by omega, by omega, by go_num, hs.trans (LL.shTo_more hkp hkq hE), kP.b hS9, kQ.b hS9, b_step hb hS9⟩
            case measure => simp [intOf]; omega
          · go_wp2_with fail
            ((refine calm_b (by kernel_rfl) (by kernel_rfl) ?_); (repeat (first | ((apply sure_cons (hg := rfl)); (focus ((intro w' hS'); (obtain ⟨hcS, hfS, hlS⟩ := bcell hS'); (try simp only [World.size_setCell, World.size_alloc, World.size_drew] at hS' hcS hfS hlS); (go_simp); (try go_bits); (try ((first | rw [if_pos (by omega)] | rw [if_neg (by omega)]); go_simp)); (first | (with_reducible rfl) | (with_reducible exact rfl) | (with_reducible exact ⟨rfl, hS'⟩) | (first | (rw [eq_kind]; exact ⟨rfl, hS'⟩) | (rw [eq_step]; exact ⟨rfl, hS'⟩))))); (simp only [Act.put, List.setIfInBounds_toArray, List.set_cons_zero, List.set_cons_succ])) | ((apply sure_off (hg := rfl)); (simp only [Act.put, List.setIfInBounds_toArray, List.set_cons_zero, List.set_cons_succ])))); (refine sure_nil ?_))
            intro w9 hS9
            go_wp2_with fail
            go_ret
            exact ⟨by rw [hs.out, LL.shTo_stop (fun h9 => hE h9.2.2)]; rfl, b_step hb hS9⟩
        · go_wp2_with fail
          ((refine calm_b (by kernel_rfl) (by kernel_rfl) ?_); (repeat (first | ((apply sure_cons (hg := rfl)); (focus ((intro w' hS'); (obtain ⟨hcS, hfS, hlS⟩ := bcell hS'); (try simp only [World.size_setCell, World.size_alloc, World.size_drew] at hS' hcS hfS hlS); (go_simp); (try go_bits); (try ((first | rw [if_pos (by omega)] | rw [if_neg (by omega)]); go_simp)); (first | (with_reducible rfl) | (with_reducible exact rfl) | (with_reducible exact ⟨rfl, hS'⟩) | (first | (rw [eq_kind]; exact ⟨rfl, hS'⟩) | (rw [eq_step]; exact ⟨rfl, hS'⟩))))); (simp only [Act.put, List.setIfInBounds_toArray, List.set_cons_zero, List.set_cons_succ])) | ((apply sure_off (hg := rfl)); (simp only [Act.put, List.setIfInBounds_toArray, List.set_cons_zero, List.set_cons_succ])))); (refine sure_nil ?_))
          intro w9 hS9
          go_wp2_with fail
          go_ret
          exact ⟨by rw [hs.out, LL.shTo_stop (fun h9 => hkq h9.2.1)]; rfl, b_step hb hS9⟩
      · go_wp2_with fail
        ((refine calm_b (by kernel_rfl) (by kernel_rfl) ?_); (repeat (first | ((apply sure_cons (hg := rfl)); (focus ((intro w' hS'); (obtain ⟨hcS, hfS, hlS⟩ := bcell hS'); (try simp only [World.size_setCell, World.size_alloc, World.size_drew] at hS' hcS hfS hlS); (go_simp); (try go_bits); (try ((first | rw [if_pos (by omega)] | rw [if_neg (by omega)]); go_simp)); (first | (with_reducible rfl) | (with_reducible exact rfl) | (with_reducible exact ⟨rfl, hS'⟩) | (first | (rw [eq_kind]; exact ⟨rfl, hS'⟩) | (rw [eq_step]; exact ⟨rfl, hS'⟩))))); (simp only [Act.put, List.setIfInBounds_toArray, List.set_cons_zero, List.set_cons_succ])) | ((apply sure_off (hg := rfl)); (simp only [Act.put, List.setIfInBounds_toArray, List.set_cons_zero, List.set_cons_succ])))); (refine sure_nil ?_))
        intro w9 hS9
        go_wp2_with fail
        go_ret
        exact ⟨by rw [hs.out, LL.shTo_stop (fun h9 => hkp h9.1)]; rfl, b_step hb hS9⟩
  · go_enter Try.func57, Try.ntmps57
    go_wp2
    go_loopw [5] (fun i wr => ∃ k : Nat, k ≤ p.steps.length ∧ k ≤ q.steps.length ∧ i = .int .i64 k ∧ k = 0 ∧ Blk wr w.heap.size #[.int .i64 p.q, .int .i64 p.s, .slice A p.steps.length c, .int .i64 p.fr, .int .i64 p.by_] 43 ∧ Blk wr (w.heap.size + 1) #[.int .i64 q.q, .int .i64 q.s, .slice B q.steps.length d, .int .i64 q.fr, .int .i64 q.by_] 43 ∧ Below w.heap.size w wr) (fun i _ => p.steps.length - (intOf i).toNat)
    case atStart => exact ⟨0, Nat.zero_le _, Nat.zero_le _, rfl, rfl, (by repeat' (first | with_reducible assumption | with_reducible exact Blk.new _ _ _ | with_reducible exact Blk.new' _ _ (by first | (simp only [World.size_alloc, World.size_setCell, World.size_drew]; done) | (simp only [World.size_alloc, World.size_setCell, World.size_drew]; omega) | omega) | with_reducible refine Blk.a ?_ _ | with_reducible refine Blk.d ?_ | with_reducible refine Blk.dN ?_ _ | with_reducible refine Blk.s ?_ (by simp only [ne_eq]; omega) _ | with_reducible refine Blk.b ?_ (by with_reducible assumption))), (by repeat' (first | with_reducible assumption | with_reducible exact Blk.new _ _ _ | with_reducible exact Blk.new' _ _ (by first | (simp only [World.size_alloc, World.size_setCell, World.size_drew]; done) | (simp only [World.size_alloc, World.size_setCell, World.size_drew]; omega) | omega) | with_reducible refine Blk.a ?_ _ | with_reducible refine Blk.d ?_ | with_reducible refine Blk.dN ?_ _ | with_reducible refine Blk.s ?_ (by simp only [ne_eq]; omega) _ | with_reducible refine Blk.b ?_ (by with_reducible assumption))), (by repeat' (first | with_reducible exact Below.refl _ _ | with_reducible assumption | with_reducible refine b_alloc ?_ _ | with_reducible refine b_drewN ?_ _ | with_reducible refine b_drew ?_ | with_reducible refine b_set ?_ (by first | (simp only [World.size_setCell, World.size_alloc, World.size_drew]; omega) | (simp; done) | (simp; omega)) _ | with_reducible refine b_step ?_ (by with_reducible assumption)))⟩
    case round =>
      obtain ⟨k, hk, hk', rfl, hs, kP, kQ, hb⟩ := hrel
      obtain ⟨eP, fP, lP⟩ := kP.cells
      obtain ⟨eQ, fQ, lQ⟩ := kQ.cells
      obtain ⟨gc, gf, gl⟩ := bcell hb
      subst hs
      by_cases hkp : 0 < p.steps.length
      · by_cases hkq : 0 < q.steps.length
        · obtain ⟨b1, off1, rfl, hbw1⟩ := h.addr (by omega)
          obtain ⟨b2, off2, rfl, hbw2⟩ := h'.addr (by omega)
          obtain ⟨c0, c1, c2, c3, c4, c5, c6⟩ := h.S7 0 hkp
          obtain ⟨d0, d1, d2, d3, d4, d5, d6⟩ := h'.S7 0 hkq
          simp only [Nat.zero_mul, Nat.add_zero] at c0 c1 c2 c3 c4 c5 c6 d0 d1 d2 d3 d4 d5 d6
          by_cases hE : LL.StepEq (LL.nth p.steps 0) (LL.nth q.steps 0)
          · go_wp2_with fail
            ((refine calm_b (by kernel_rfl) (by kernel_rfl) ?_); (repeat (first | ((apply sure_cons (hg := rfl)); (focus ((intro w' hS'); (obtain ⟨hcS, hfS, hlS⟩ := bcell hS'); (try simp only [World.size_setCell, World.size_alloc, World.size_drew] at hS' hcS hfS hlS); (go_simp); (try go_bits); (try ((first | rw [if_pos (by omega)] | rw [if_neg (by omega)]); go_simp)); (first | (with_reducible rfl) | (with_reducible exact rfl) | (with_reducible exact ⟨rfl, hS'⟩) | (first | (rw [eq_kind]; exact ⟨rfl, hS'⟩) | (rw [eq_step]; exact ⟨rfl, hS'⟩))))); (simp only [Act.put, List.setIfInBounds_toArray, List.set_cons_zero, List.set_cons_succ])) | ((apply sure_off (hg := rfl)); (simp only [Act.put, List.setIfInBounds_toArray, List.set_cons_zero, List.set_cons_succ])))); (refine sure_nil ?_))
            intro w9 hS9
            go_wp2_with fail
            go_ret
            exact ⟨by rw [LL.shared_none hK]; rfl, b_step hb hS9⟩
          · go_wp2_with fail
            ((refine calm_b (by kernel_rfl) (by kernel_rfl) ?_); (repeat (first | ((apply sure_cons (hg := rfl)); (focus ((intro w' hS'); (obtain ⟨hcS, hfS, hlS⟩ := bcell hS'); (try simp only [World.size_setCell, World.size_alloc, World.size_drew] at hS' hcS hfS hlS); (go_simp); (try go_bits); (try ((first | rw [if_pos (by omega)] | rw [if_neg (by omega)]); go_simp)); (first | (with_reducible rfl) | (with_reducible exact rfl) | (with_reducible exact ⟨rfl, hS'⟩) | (first | (rw [eq_kind]; exact ⟨rfl, hS'⟩) | (rw [eq_step]; exact ⟨rfl, hS'⟩))))); (simp only [Act.put, List.setIfInBounds_toArray, List.set_cons_zero, List.set_cons_succ])) | ((apply sure_off (hg := rfl)); (simp only [Act.put, List.setIfInBounds_toArray, List.set_cons_zero, List.set_cons_succ])))); (refine sure_nil ?_))
            intro w9 hS9
            go_wp2_with fail
            go_ret
            exact ⟨by rw [LL.shared_none hK]; rfl, b_step hb hS9⟩
        · go_wp2_with fail
          ((refine calm_b (by kernel_rfl) (by kernel_rfl) ?_); (repeat (first | ((apply sure_cons (hg := rfl)); (focus ((intro w' hS'); (obtain ⟨hcS, hfS, hlS⟩ := bcell hS'); (try simp only [World.size_setCell, World.size_alloc, World.size_drew] at hS' hcS hfS hlS); (go_simp); (try go_bits); (try ((first | rw [if_pos (by omega)] | rw [if_neg (by omega)]); go_simp)); (first | (with_reducible rfl) | (with_reducible exact rfl) | (with_reducible exact ⟨rfl, hS'⟩) | (first | (rw [eq_kind]; exact ⟨rfl, hS'⟩) | (rw [eq_step]; exact ⟨rfl, hS'⟩))))); (simp only [Act.put, List.setIfInBounds_toArray, List.set_cons_zero, List.set_cons_succ])) | ((apply sure_off (hg := rfl)); (simp only [Act.put, List.setIfInBounds_toArray, List.set_cons_zero, List.set_cons_succ])))); (refine sure_nil ?_))
          intro w9 hS9
          go_wp2_with fail
          go_ret
          exact ⟨by rw [LL.shared_none hK]; rfl, b_step hb hS9⟩
      · go_wp2_with fail
        ((refine calm_b (by kernel_rfl) (by kernel_rfl) ?_); (repeat (first | ((apply sure_cons (hg := rfl)); (focus ((intro w' hS'); (obtain ⟨hcS, hfS, hlS⟩ := bcell hS'); (try simp only [World.size_setCell, World.size_alloc, World.size_drew] at hS' hcS hfS hlS); (go_simp); (try go_bits); (try ((first | rw [if_pos (by omega)] | rw [if_neg (by omega)]); go_simp)); (first | (with_reducible rfl) | (with_reducible exact rfl) | (with_reducible exact ⟨rfl, hS'⟩) | (first | (rw [eq_kind]; exact ⟨rfl, hS'⟩) | (rw [eq_step]; exact ⟨rfl, hS'⟩))))); (simp only [Act.put, List.setIfInBounds_toArray, List.set_cons_zero, List.set_cons_succ])) | ((apply sure_off (hg := rfl)); (simp only [Act.put, List.setIfInBounds_toArray, List.set_cons_zero, List.set_cons_succ])))); (refine sure_nil ?_))
        intro w9 hS9
        go_wp2_with fail
        go_ret
        exact ⟨by rw [LL.shared_none hK]; rfl, b_step hb hS9⟩
end Go.Proofs.Ytpeojnknfonmlaa
