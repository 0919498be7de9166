/- What is left of a path: FlyRest and FlySeen of the program. -/
import Derived.Test.YtkpnjnkfbhomgaaC4
set_option linter.unusedVariables false
set_option linter.unusedSimpArgs false
namespace Go.Proofs.Ytkpnjnkfbhomgaa
open Go.RowKit
attribute [local go_sem] w_lt_add w_le_of w_le_add max2_i min2_i ite_max ite_min
namespace LL
theorem rest_left {p : Path} {k : Nat} {en now : Int} (hP : PathOk p) (hk : k < p.steps.length) (h1 : now ≤ 10000) (h2 : 0 ≤ en) (h3 : en ≤ now) :
    (CanRest p k en now ↔ SpansOk (tlP p k (max (nth p.steps k).fr en) (min (nth p.steps k).by_ en) now)) ∧ restM p k en now = leftM p k (max (nth p.steps k).fr en) (min (nth p.steps k).by_ en) now := by
  have e : CanRest p k en now ↔ SpansOk (tlP p k (max (nth p.steps k).fr en) (min (nth p.steps k).by_ en) now) := ⟨fun h => h.2.2.2.2.2, fun h => ⟨hP, ⟨by omega, by omega⟩, h2, h3, h1, h⟩⟩
  refine ⟨e, ?_⟩
  unfold restM leftM
  by_cases h : CanRest p k en now
  · rw [if_pos h, if_pos (e.1 h)]; rfl
  · rw [if_neg h, if_neg (fun h9 => h (e.2 h9))]
theorem seen_left {p : Path} {k : Nat} {now : Int} (hP : PathOk p) (hS : SpansOk p) (hk : k < p.steps.length) (h1 : In now 0 10000) :
    (CanSeen p k now ↔ SpansOk (tlP p k (lo p k) (min (hi p k) now) now)) ∧ seenM p k now = leftM p k (lo p k) (min (hi p k) now) now := by
  have e : CanSeen p k now ↔ SpansOk (tlP p k (lo p k) (min (hi p k) now) now) := ⟨fun h => h.2.2.2.2, fun h => ⟨hP, ⟨by omega, by omega⟩, h1, hS, h⟩⟩
  refine ⟨e, ?_⟩
  unfold seenM leftM
  by_cases h : CanSeen p k now
  · rw [if_pos h, if_pos (e.1 h)]; rfl
  · rw [if_neg h, if_neg (fun h9 => h (e.2 h9))]
end LL
set_option maxRecDepth 100000 in
set_option maxHeartbeats 4000000 in
theorem impl_FlyRest_c (p : LL.Path) (A : Option Addr) (c : Nat) (st en now : Int) (w : World) (h : RdS w A p.steps.length c p.steps) : Calls Try.prog 128 #[.agg #[.int .i64 p.q, .int .i64 p.s, .slice A p.steps.length c, .int .i64 p.fr, .int .i64 p.by_], .int .i64 st, .int .i64 en, .int .i64 now] w (MkPB 146 w (LL.restM p st en now) (decide (LL.CanRest p st en now))) := by
  have hroom := h.room
  go_enter Try.func128, Try.ntmps128
  go_wp2_with fail
  refine calls_name (fun W => Below w.heap.size w W ∧ Blk W w.heap.size #[.int .i64 p.q, .int .i64 p.s, .slice A p.steps.length c, .int .i64 p.fr, .int .i64 p.by_] 44 ∧ Blk W (w.heap.size + 1) #[.int .i64 0, .int .i64 0, .slice none 0 0, .int .i64 0, .int .i64 0] 44) ⟨(by repeat' (first | with_reducible exact Below.refl _ _ | with_reducible assumption | with_reducible refine b_alloc ?_ _ | with_reducible refine b_drewN ?_ _ | with_reducible refine b_drew ?_ | with_reducible refine b_set ?_ (by first | (simp only [World.size_setCell, World.size_alloc, World.size_drew]; omega) | (simp; done) | (simp; omega)) _ | with_reducible refine b_step ?_ (by with_reducible assumption))), (by repeat' (first | with_reducible assumption | with_reducible exact Blk.new _ _ _ | with_reducible exact Blk.new' _ _ (by first | (simp only [World.size_alloc, World.size_setCell, World.size_drew]; done) | (simp only [World.size_alloc, World.size_setCell, World.size_drew]; omega) | omega) | with_reducible refine Blk.a ?_ _ | with_reducible refine Blk.d ?_ | with_reducible refine Blk.dN ?_ _ | with_reducible refine Blk.s ?_ (by simp only [ne_eq]; omega) _ | with_reducible refine Blk.b ?_ (by with_reducible assumption))), (by repeat' (first | with_reducible assumption | with_reducible exact Blk.new _ _ _ | with_reducible exact Blk.new' _ _ (by first | (simp only [World.size_alloc, World.size_setCell, World.size_drew]; done) | (simp only [World.size_alloc, World.size_setCell, World.size_drew]; omega) | omega) | with_reducible refine Blk.a ?_ _ | with_reducible refine Blk.d ?_ | with_reducible refine Blk.dN ?_ _ | with_reducible refine Blk.s ?_ (by simp only [ne_eq]; omega) _ | with_reducible refine Blk.b ?_ (by with_reducible assumption)))⟩ ?_
  rintro W1 ⟨hb, kP, kR⟩
  refine (impl_FlyPathOk_c p A c _ (h.mono hb)).mono ?_
  rintro e W2 ⟨rfl, hB⟩
  replace hb := b_step hb hB; replace kP := kP.b hB; replace kR := kR.b hB; clear hB
  by_cases hP : LL.PathOk p
  · rw [decide_eq_true hP]
    by_cases hG : LL.In st 0 (p.steps.length - 1) ∧ now ≤ 10000 ∧ 0 ≤ en ∧ en ≤ now
    · obtain ⟨hI, g1, g2, g3⟩ := hG
      obtain ⟨k, rfl⟩ : ∃ k : Nat, st = (k : Int) := ⟨st.toNat, by have := hI.1; omega⟩
      have hk : k < p.steps.length := by have := hI.2; have := hP.2.1.1; omega
      have hl := hP.2.1.2
      obtain ⟨hR1, hR2⟩ := LL.rest_left hP hk g1 g2 g3
      have HR1 := Lib.hid hR1
      have HR2 := Lib.hid hR2
      clear hR1 hR2
      obtain ⟨b, off, rfl, hbw⟩ := h.addr (by omega)
      obtain ⟨c0, c1, c2, c3, c4, c5, c6⟩ := h.S7 k hk
      obtain ⟨ekP, fkP, lkP⟩ := kP.cells; obtain ⟨ekR, fkR, lkR⟩ := kR.cells
      obtain ⟨gc, gf, gl⟩ := bcell hb
      go_wp2_with (go_at_call 60; refine (impl_in_c _ _ _ _).mono ?_; rintro e w' ⟨rfl, rfl⟩)
      refine calls_name (fun W => Below W2.heap.size W2 W) (by repeat' (first | with_reducible exact Below.refl _ _ | with_reducible assumption | with_reducible refine b_alloc ?_ _ | with_reducible refine b_drewN ?_ _ | with_reducible refine b_drew ?_ | with_reducible refine b_set ?_ (by first | (simp only [World.size_setCell, World.size_alloc, World.size_drew]; omega) | (simp; done) | (simp; omega)) _ | with_reducible refine b_step ?_ (by with_reducible assumption))) ?_; intro W3 hE; clear ekP fkP lkP ekR fkR lkR; replace hb := b_step hb hE; replace kP := kP.b hE; replace kR := kR.b hE; clear hE
      rw [Int.min_comm en (LL.nth p.steps k).by_]
      refine (impl_left_c p _ c k _ _ _ _ hP hk (by omega) (by omega) (by omega) g1 (h.mono hb)).mono ?_
      intro e W4 hM
      obtain ⟨A2, c2, rfl, hO, hOg, hB⟩ := hM.gop2
      have hO2 : ∀ j, Value.ownBlock (.slice A2 (LL.leftM p k (max (LL.nth p.steps k).fr en) (min (LL.nth p.steps k).by_ en) now).steps.length c2) = some j → w.heap.size + 1 < j := fun j hj => by have := hOg j hj; have := kR.cells.2.2; omega
      replace hb := b_step hb hB; replace kP := kP.b hB; replace kR := kR.b hB; clear hB
      clear hM hOg gc gf gl
      rw [← HR2.out] at hO hO2 ⊢
      rw [decide_eq_decide.2 HR1.out.symm]
      obtain ⟨ekP, fkP, lkP⟩ := kP.cells; obtain ⟨ekR, fkR, lkR⟩ := kR.cells
      go_wp2_with fail
      (refine bodyPost_ret (res_ct rfl _ [.int .i64 (LL.restM p k en now).q, .int .i64 (LL.restM p k en now).s, .slice A2 (LL.restM p k en now).steps.length c2, .int .i64 (LL.restM p k en now).fr, .int .i64 (LL.restM p k en now).by_] rfl _ rfl _ Try.underlying44 rfl (by kernel_rfl) (by simp only [CellsAt, and_true]; and_intros <;> go_simp)) rfl ?_)
      exact ⟨_, rfl, ((((hO.s _ (fun k hk => by have := hO2 k hk; simp only; omega)).s _ (fun k hk => by have := hO2 k hk; simp only; omega)).s _ (fun k hk => by have := hO2 k hk; simp only; omega)).s _ (fun k hk => by have := hO2 k hk; simp only; omega)).s _ (fun k hk => by have := hO2 k hk; simp only; omega), fun k hk => by have := hO2 k hk; omega, (by repeat' (first | with_reducible exact Below.refl _ _ | with_reducible assumption | with_reducible refine b_alloc ?_ _ | with_reducible refine b_drewN ?_ _ | with_reducible refine b_drew ?_ | with_reducible refine b_set ?_ (by first | (simp only [World.size_setCell, World.size_alloc, World.size_drew]; omega) | (simp; done) | (simp; omega)) _ | with_reducible refine b_step ?_ (by with_reducible assumption)))⟩
    · have hS : ¬ LL.CanRest p st en now := fun h9 => hG ⟨h9.2.1, h9.2.2.2.2.1, h9.2.2.1, h9.2.2.2.1⟩
      have HG := Lib.hid hG
      clear hG
      obtain ⟨ekP, fkP, lkP⟩ := kP.cells; obtain ⟨ekR, fkR, lkR⟩ := kR.cells
      by_cases hI : LL.In st 0 (p.steps.length - 1)
      · have h9 : ¬ (now ≤ 10000 ∧ 0 ≤ en ∧ en ≤ now) := fun h9 => HG.out ⟨hI, h9⟩
        have hl := hP.2.1.2
        have hl0 := hP.2.1.1
        have hnn : 0 ≤ (p.steps.length : Int) - 1 := by omega
        by_cases h10 : now ≤ 10000
        · by_cases h11 : 0 ≤ en
          · have h12 : now < en := by omega
            go_wp2_with (go_at_call 60; refine (impl_in_c _ _ _ _).mono ?_; rintro e w' ⟨rfl, rfl⟩)
            (refine bodyPost_ret (res_ct rfl _ [.int .i64 0, .int .i64 0, .slice none 0 0, .int .i64 0, .int .i64 0] rfl _ rfl _ Try.underlying44 rfl (by kernel_rfl) (by simp only [CellsAt, and_true]; and_intros <;> go_simp)) rfl ?_)
            rw [LL.restM_no hS, decide_eq_false hS]
            exact MkPB.none (by repeat' (first | with_reducible exact Below.refl _ _ | with_reducible assumption | with_reducible refine b_alloc ?_ _ | with_reducible refine b_drewN ?_ _ | with_reducible refine b_drew ?_ | with_reducible refine b_set ?_ (by first | (simp only [World.size_setCell, World.size_alloc, World.size_drew]; omega) | (simp; done) | (simp; omega)) _ | with_reducible refine b_step ?_ (by with_reducible assumption)))
          · go_wp2_with (go_at_call 60; refine (impl_in_c _ _ _ _).mono ?_; rintro e w' ⟨rfl, rfl⟩)
            (refine bodyPost_ret (res_ct rfl _ [.int .i64 0, .int .i64 0, .slice none 0 0, .int .i64 0, .int .i64 0] rfl _ rfl _ Try.underlying44 rfl (by kernel_rfl) (by simp only [CellsAt, and_true]; and_intros <;> go_simp)) rfl ?_)
            rw [LL.restM_no hS, decide_eq_false hS]
            exact MkPB.none (by repeat' (first | with_reducible exact Below.refl _ _ | with_reducible assumption | with_reducible refine b_alloc ?_ _ | with_reducible refine b_drewN ?_ _ | with_reducible refine b_drew ?_ | with_reducible refine b_set ?_ (by first | (simp only [World.size_setCell, World.size_alloc, World.size_drew]; omega) | (simp; done) | (simp; omega)) _ | with_reducible refine b_step ?_ (by with_reducible assumption)))
        · go_wp2_with (go_at_call 60; refine (impl_in_c _ _ _ _).mono ?_; rintro e w' ⟨rfl, rfl⟩)
          (refine bodyPost_ret (res_ct rfl _ [.int .i64 0, .int .i64 0, .slice none 0 0, .int .i64 0, .int .i64 0] rfl _ rfl _ Try.underlying44 rfl (by kernel_rfl) (by simp only [CellsAt, and_true]; and_intros <;> go_simp)) rfl ?_)
          rw [LL.restM_no hS, decide_eq_false hS]
          exact MkPB.none (by repeat' (first | with_reducible exact Below.refl _ _ | with_reducible assumption | with_reducible refine b_alloc ?_ _ | with_reducible refine b_drewN ?_ _ | with_reducible refine b_drew ?_ | with_reducible refine b_set ?_ (by first | (simp only [World.size_setCell, World.size_alloc, World.size_drew]; omega) | (simp; done) | (simp; omega)) _ | with_reducible refine b_step ?_ (by with_reducible assumption)))
      · have hl := hP.2.1.2
        have hl0 := hP.2.1.1
        go_wp2_with (go_at_call 60; refine (impl_in_c _ _ _ _).mono ?_; rintro e w' ⟨rfl, rfl⟩)
        (refine bodyPost_ret (res_ct rfl _ [.int .i64 0, .int .i64 0, .slice none 0 0, .int .i64 0, .int .i64 0] rfl _ rfl _ Try.underlying44 rfl (by kernel_rfl) (by simp only [CellsAt, and_true]; and_intros <;> go_simp)) rfl ?_)
        rw [LL.restM_no hS, decide_eq_false hS]
        exact MkPB.none (by repeat' (first | with_reducible exact Below.refl _ _ | with_reducible assumption | with_reducible refine b_alloc ?_ _ | with_reducible refine b_drewN ?_ _ | with_reducible refine b_drew ?_ | with_reducible refine b_set ?_ (by first | (simp only [World.size_setCell, World.size_alloc, World.size_drew]; omega) | (simp; done) | (simp; omega)) _ | with_reducible refine b_step ?_ (by with_reducible assumption)))
  · rw [decide_eq_false hP]
    obtain ⟨ekP, fkP, lkP⟩ := kP.cells; obtain ⟨ekR, fkR, lkR⟩ := kR.cells
    go_wp2_with fail
    (refine bodyPost_ret (res_ct rfl _ [.int .i64 0, .int .i64 0, .slice none 0 0, .int .i64 0, .int .i64 0] rfl _ rfl _ Try.underlying44 rfl (by kernel_rfl) (by simp only [CellsAt, and_true]; and_intros <;> go_simp)) rfl ?_)
    have hS : ¬ LL.CanRest p st en now := fun hS => hP hS.1
    rw [LL.restM_no hS, decide_eq_false hS]
    exact MkPB.none (by repeat' (first | with_reducible exact Below.refl _ _ | with_reducible assumption | with_reducible refine b_alloc ?_ _ | with_reducible refine b_drewN ?_ _ | with_reducible refine b_drew ?_ | with_reducible refine b_set ?_ (by first | (simp only [World.size_setCell, World.size_alloc, World.size_drew]; omega) | (simp; done) | (simp; omega)) _ | with_reducible refine b_step ?_ (by with_reducible assumption)))
end Go.Proofs.Ytkpnjnkfbhomgaa
