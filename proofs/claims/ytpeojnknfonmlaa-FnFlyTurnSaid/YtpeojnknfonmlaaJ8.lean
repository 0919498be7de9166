/- What is left of a path: FlyRest and FlySeen of the program. -/
import Derived.Test.YtpeojnknfonmlaaJ7

set_option linter.unusedVariables false
set_option linter.unusedSimpArgs false
namespace Go.Proofs.Ytpeojnknfonmlaa
open Go.RowKit
attribute [local go_sem] w_lt_add w_le_of w_le_add max2_i min2_i ite_max ite_min
namespace LL
theorem rest_left {p : Path} {k : Nat} {en now : Int} (hP : PathOk p) (hk : k < p.steps.length) (h1 : now ≤ 10000) (h2 : 0 ≤ en) (h3 : en ≤ now) :
    (CanRest p k en now ↔ SpansOk (tlP p k (max (nth p.steps k).fr en) (min (nth p.steps k).by_ en) now)) ∧ restM p k en now = leftM p k (max (nth p.steps k).fr en) (min (nth p.steps k).by_ en) now := by
  have e : CanRest p k en now ↔ SpansOk (tlP p k (max (nth p.steps k).fr en) (min (nth p.steps k).by_ en) now) := ⟨fun h => h.2.2.2.2.2, fun h => ⟨hP, ⟨by omega, by omega⟩, h2, h3, h1, h⟩⟩
  refine ⟨e, ?_⟩
  unfold restM leftM
  by_cases h : CanRest p k en now
  · rw [if_pos h, if_pos (e.1 h)]; rfl
  · rw [if_neg h, if_neg (fun h9 => h (e.2 h9))]
theorem seen_left {p : Path} {k : Nat} {now : Int} (hP : PathOk p) (hS : SpansOk p) (hk : k < p.steps.length) (h1 : In now 0 10000) :
    (CanSeen p k now ↔ SpansOk (tlP p k (lo p k) (min (hi p k) now) now)) ∧ seenM p k now = leftM p k (lo p k) (min (hi p k) now) now := by
  have e : CanSeen p k now ↔ SpansOk (tlP p k (lo p k) (min (hi p k) now) now) := ⟨fun h => h.2.2.2.2, fun h => ⟨hP, ⟨by omega, by omega⟩, h1, hS, h⟩⟩
  refine ⟨e, ?_⟩
  unfold seenM leftM
  by_cases h : CanSeen p k now
  · rw [if_pos h, if_pos (e.1 h)]; rfl
  · rw [if_neg h, if_neg (fun h9 => h (e.2 h9))]
end LL
set_option maxRecDepth 100000 in
set_option maxHeartbeats 4000000 in
theorem impl_FlyRest_c (p : LL.Path) (A : Option Addr) (c : Nat) (st en now : Int) (w : World) (h : RdS w A p.steps.length c p.steps) : Calls Try.prog 43 #[.agg #[.int .i64 p.q, .int .i64 p.s, .slice A p.steps.length c, .int .i64 p.fr, .int .i64 p.by_], .int .i64 st, .int .i64 en, .int .i64 now] w (MkPB 79 w (LL.restM p st en now) (decide (LL.CanRest p st en now))) := by
  have hroom := h.room
  go_enter Try.func43, Try.ntmps43
  go_wp2_with fail
  refine calls_name (fun W => Below w.heap.size w W ∧ Blk W w.heap.size #[.int .i64 p.q, .int .i64 p.s, .slice A p.steps.length c, .int .i64 p.fr, .int .i64 p.by_] 43 ∧ Blk W (w.heap.size + 1) #[.int .i64 0, .int .i64 0, .slice none 0 0, .int .i64 0, .int .i64 0] 43) ⟨(by repeat' (first | with_reducible exact Below.refl _ _ | with_reducible assumption | with_reducible refine b_alloc ?_ _ | with_reducible refine b_drewN ?_ _ | with_reducible refine b_drew ?_ | with_reducible refine b_set ?_ (by first | (simp only [World.size_setCell, World.size_alloc, World.size_drew]; omega) | (simp; done) | (simp; omega)) _ | with_reducible refine b_step ?_ (by with_reducible assumption))), (by repeat' (first | with_reducible assumption | with_reducible exact Blk.new _ _ _ | with_reducible exact Blk.new' _ _ (by first | (simp only [World.size_alloc, World.size_setCell, World.size_drew]; done) | (simp only [World.size_alloc, World.size_setCell, World.size_drew]; omega) | omega) | with_reducible refine Blk.a ?_ _ | with_reducible refine Blk.d ?_ | with_reducible refine Blk.dN ?_ _ | with_reducible refine Blk.s ?_ (by simp only [ne_eq]; omega) _ | with_reducible refine Blk.b ?_ (by with_reducible assumption))), (by repeat' (first | with_reducible assumption | with_reducible exact Blk.new _ _ _ | with_reducible exact Blk.new' _ _ (by first | (simp only [World.size_alloc, World.size_setCell, World.size_drew]; done) | (simp only [World.size_alloc, World.size_setCell, World.size_drew]; omega) | omega) | with_reducible refine Blk.a ?_ _ | with_reducible refine Blk.d ?_ | with_reducible refine Blk.dN ?_ _ | with_reducible refine Blk.s ?_ (by simp only [ne_eq]; omega) _ | with_reducible refine Blk.b ?_ (by with_reducible assumption)))⟩ ?_
  rintro W1 ⟨hb, kP, kR⟩
  refine (impl_FlyPathOk_c p A c _ (h.mono hb)).mono ?_
  rintro e W2 ⟨rfl, hB⟩
  replace hb := b_step hb hB; replace kP := kP.b hB; replace kR := kR.b hB; clear hB
  by_cases hP : LL.PathOk p
  · rw [decide_eq_true hP]
    by_cases hG : LL.In st 0 (p.steps.length - 1) ∧ now ≤ 10000 ∧ 0 ≤ en ∧ en ≤ now
    · obtain ⟨hI, g1, g2, g3⟩ := hG
      obtain ⟨k, rfl⟩ : ∃ k : Nat, st = (k : Int) := ⟨st.toNat, by have := hI.1; omega⟩
      have hk : k < p.steps.length := by have := hI.2; have := hP.2.1.1; omega
      have hl := hP.2.1.2
      obtain ⟨hR1, hR2⟩ := LL.rest_left hP hk g1 g2 g3
      have HR1 := Lib.hid hR1
      have HR2 := Lib.hid hR2
      clear hR1 hR2
      obtain ⟨b, off, rfl, hbw⟩ := h.addr (by omega)
      obtain ⟨c0, c1, c2, c3, c4, c5, c6⟩ := h.S7 k hk
      obtain ⟨ekP, fkP, lkP⟩ := kP.cells; obtain ⟨ekR, fkR, lkR⟩ := kR.cells
      obtain ⟨gc, gf, gl⟩ := bcell hb
      go_wp2_with (go_at_call 70; refine (impl_in_c _ _ _ _).mono ?_; rintro e w' ⟨rfl, rfl⟩)
      refine calls_name (fun W => Below W2.heap.size W2 W) (by repeat' (first | with_reducible exact Below.refl _ _ | with_reducible assumption | with_reducible refine b_alloc ?_ _ | with_reducible refine b_drewN ?_ _ | with_reducible refine b_drew ?_ | with_reducible refine b_set ?_ (by first | (simp only [World.size_setCell, World.size_alloc, World.size_drew]; omega) | (simp; done) | (simp; omega)) _ | with_reducible refine b_step ?_ (by with_reducible assumption))) ?_; intro W3 hE; clear ekP fkP lkP ekR fkR lkR; replace hb := b_step hb hE; replace kP := kP.b hE; replace kR := kR.b hE; clear hE
      rw [Int.min_comm en (LL.nth p.steps k).by_]
      refine (impl_left_c p _ c k _ _ _ _ hP hk (by omega) (by omega) (by omega) g1 (h.mono hb)).mono ?_
      intro e W4 hM
      obtain ⟨A2, c2, rfl, hO, hOg, hB⟩ := hM.gop2
      have hO2 : ∀ j, Value.ownBlock (.slice A2 (LL.leftM p k (max (LL.nth p.steps k).fr en) (min (LL.nth p.steps k).by_ en) now).steps.length c2) = some j → w.heap.size + 1 < j := fun j hj => by have := hOg j hj; have := kR.cells.2.2; omega
      replace hb := b_step hb hB; replace kP := kP.b hB; replace kR := kR.b hB; clear hB
      clear hM hOg gc gf gl
      rw [← HR2.out] at hO hO2 ⊢
      rw [decide_eq_decide.2 HR1.out.symm]
      obtain ⟨ekP, fkP, lkP⟩ := kP.cells; obtain ⟨ekR, fkR, lkR⟩ := kR.cells
      go_wp2_with fail
      (refine bodyPost_ret (res_ct rfl _ [.int .i64 (LL.restM p k en now).q, .int .i64 (LL.restM p k en now).s, .slice A2 (LL.restM p k en now).steps.length c2, .int .i64 (LL.restM p k en now).fr, .int .i64 (LL.restM p k en now).by_] rfl _ rfl _ Try.underlying43 rfl (by kernel_rfl) (by simp only [CellsAt, and_true]; and_intros <;> go_simp)) rfl ?_)
      exact ⟨_, rfl, ((((hO.s _ (fun k hk => by have := hO2 k hk; simp only; omega)).s _ (fun k hk => by have := hO2 k hk; simp only; omega)).s _ (fun k hk => by have := hO2 k hk; simp only; omega)).s _ (fun k hk => by have := hO2 k hk; simp only; omega)).s _ (fun k hk => by have := hO2 k hk; simp only; omega), fun k hk => by have := hO2 k hk; omega, (by repeat' (first | with_reducible exact Below.refl _ _ | with_reducible assumption | with_reducible refine b_alloc ?_ _ | with_reducible refine b_drewN ?_ _ | with_reducible refine b_drew ?_ | with_reducible refine b_set ?_ (by first | (simp only [World.size_setCell, World.size_alloc, World.size_drew]; omega) | (simp; done) | (simp; omega)) _ | with_reducible refine b_step ?_ (by with_reducible assumption)))⟩
    · have hS : ¬ LL.CanRest p st en now := fun h9 => hG ⟨h9.2.1, h9.2.2.2.2.1, h9.2.2.1, h9.2.2.2.1⟩
      have HG := Lib.hid hG
      clear hG
      obtain ⟨ekP, fkP, lkP⟩ := kP.cells; obtain ⟨ekR, fkR, lkR⟩ := kR.cells
      by_cases hI : LL.In st 0 (p.steps.length - 1)
      · have h9 : ¬ (now ≤ 10000 ∧ 0 ≤ en ∧ en ≤ now) := fun h9 => HG.out ⟨hI, h9⟩
        have hl := hP.2.1.2
        have hl0 := hP.2.1.1
        have hnn : 0 ≤ (p.steps.length : Int) - 1 := by omega
        by_cases h10 : now ≤ 10000
        · by_cases h11 : 0 ≤ en
          · have h12 : now < en := by omega
            go_wp2_with (go_at_call 70; refine (impl_in_c _ _ _ _).mono ?_; rintro e w' ⟨rfl, rfl⟩)
            (refine bodyPost_ret (res_ct rfl _ [.int .i64 0, .int .i64 0, .slice none 0 0, .int .i64 0, .int .i64 0] rfl _ rfl _ Try.underlying43 rfl (by kernel_rfl) (by simp only [CellsAt, and_true]; and_intros <;> go_simp)) rfl ?_)
            rw [LL.restM_no hS, decide_eq_false hS]
            exact MkPB.none (by repeat' (first | with_reducible exact Below.refl _ _ | with_reducible assumption | with_reducible refine b_alloc ?_ _ | with_reducible refine b_drewN ?_ _ | with_reducible refine b_drew ?_ | with_reducible refine b_set ?_ (by first | (simp only [World.size_setCell, World.size_alloc, World.size_drew]; omega) | (simp; done) | (simp; omega)) _ | with_reducible refine b_step ?_ (by with_reducible assumption)))
          · go_wp2_with (go_at_call 70; refine (impl_in_c _ _ _ _).mono ?_; rintro e w' ⟨rfl, rfl⟩)
            (refine bodyPost_ret (res_ct rfl _ [.int .i64 0, .int .i64 0, .slice none 0 0, .int .i64 0, .int .i64 0] rfl _ rfl _ Try.underlying43 rfl (by kernel_rfl) (by simp only [CellsAt, and_true]; and_intros <;> go_simp)) rfl ?_)
            rw [LL.restM_no hS, decide_eq_false hS]
            exact MkPB.none (by repeat' (first | with_reducible exact Below.refl _ _ | with_reducible assumption | with_reducible refine b_alloc ?_ _ | with_reducible refine b_drewN ?_ _ | with_reducible refine b_drew ?_ | with_reducible refine b_set ?_ (by first | (simp only [World.size_setCell, World.size_alloc, World.size_drew]; omega) | (simp; done) | (simp; omega)) _ | with_reducible refine b_step ?_ (by with_reducible assumption)))
        · go_wp2_with (go_at_call 70; refine (impl_in_c _ _ _ _).mono ?_; rintro e w' ⟨rfl, rfl⟩)
          (refine bodyPost_ret (res_ct rfl _ [.int .i64 0, .int .i64 0, .slice none 0 0, .int .i64 0, .int .i64 0] rfl _ rfl _ Try.underlying43 rfl (by kernel_rfl) (by simp only [CellsAt, and_true]; and_intros <;> go_simp)) rfl ?_)
          rw [LL.restM_no hS, decide_eq_false hS]
          exact MkPB.none (by repeat' (first | with_reducible exact Below.refl _ _ | with_reducible assumption | with_reducible refine b_alloc ?_ _ | with_reducible refine b_drewN ?_ _ | with_reducible refine b_drew ?_ | with_reducible refine b_set ?_ (by first | (simp only [World.size_setCell, World.size_alloc, World.size_drew]; omega) | (simp; done) | (simp; omega)) _ | with_reducible refine b_step ?_ (by with_reducible assumption)))
      · have hl := hP.2.1.2
        have hl0 := hP.2.1.1
        go_wp2_with (go_at_call 70; refine (impl_in_c _ _ _ _).mono ?_; rintro e w' ⟨rfl, rfl⟩)
        (refine bodyPost_ret (res_ct rfl _ [.int .i64 0, .int .i64 0, .slice none 0 0, .int .i64 0, .int .i64 0] rfl _ rfl _ Try.underlying43 rfl (by kernel_rfl) (by simp only [CellsAt, and_true]; and_intros <;> go_simp)) rfl ?_)
        rw [LL.restM_no hS, decide_eq_false hS]
        exact MkPB.none (by repeat' (first | with_reducible exact Below.refl _ _ | with_reducible assumption | with_reducible refine b_alloc ?_ _ | with_reducible refine b_drewN ?_ _ | with_reducible refine b_drew ?_ | with_reducible refine b_set ?_ (by first | (simp only [World.size_setCell, World.size_alloc, World.size_drew]; omega) | (simp; done) | (simp; omega)) _ | with_reducible refine b_step ?_ (by with_reducible assumption)))
  · rw [decide_eq_false hP]
    obtain ⟨ekP, fkP, lkP⟩ := kP.cells; obtain ⟨ekR, fkR, lkR⟩ := kR.cells
    go_wp2_with fail
    (refine bodyPost_ret (res_ct rfl _ [.int .i64 0, .int .i64 0, .slice none 0 0, .int .i64 0, .int .i64 0] rfl _ rfl _ Try.underlying43 rfl (by kernel_rfl) (by simp only [CellsAt, and_true]; and_intros <;> go_simp)) rfl ?_)
    have hS : ¬ LL.CanRest p st en now := fun hS => hP hS.1
    rw [LL.restM_no hS, decide_eq_false hS]
    exact MkPB.none (by repeat' (first | with_reducible exact Below.refl _ _ | with_reducible assumption | with_reducible refine b_alloc ?_ _ | with_reducible refine b_drewN ?_ _ | with_reducible refine b_drew ?_ | with_reducible refine b_set ?_ (by first | (simp only [World.size_setCell, World.size_alloc, World.size_drew]; omega) | (simp; done) | (simp; omega)) _ | with_reducible refine b_step ?_ (by with_reducible assumption)))
end Go.Proofs.Ytpeojnknfonmlaa

/- What is left of a path: the reference's helpers. -/
set_option linter.unusedVariables false
set_option linter.unusedSimpArgs false
namespace Go.Proofs.Ytpeojnknfonmlaa
open Go.RowKit
attribute [local go_sem] w_lt_add w_le_of w_le_add max2_i min2_i ite_max ite_min
section
variable {P : Program} {o : Oper} {a : Act} {W : World} {α : Type} {enc : α → List Value} {sz bytes e : Nat}
/-- append([]T{}, x...) as an operation of a region that draws its order -/
theorem ran_app {R : Value → World → Prop} (s x : Operand) (t : TypeId) (ho : o.op = .call { callee := .builtin .append, args := #[s, x], argTypes := #[t, t] }) (E : EncOk enc sz) (z : Value) (ht : P.underlying t = some (.slice e))
    (hinfo : (P.info? e).map (fun i => (i.zero, i.size, i.bytes)) = some (some z, sz, bytes)) (hz : z.cells.size = sz) (hb0 : 0 < bytes) {g : Nat} (hs : a.eval s = .slice (some ⟨g, 0, none⟩) 0 0) (HO : Own enc sz bytes e W (.slice (some ⟨g, 0, none⟩) 0 0) ([] : List α)) {A : Option Addr} {m c : Nat} {ys : List α} (hx : a.eval x = .slice A m c)
    (hR : Rd enc sz bytes W A m c ys) (h : ∀ v' w', Own enc sz bytes e w' v' ys → Below W.heap.size W w' → (v'.ownBlock = some g ∨ v'.ownBlock = some W.heap.size) → R v' w') : Ran P R W ((execOp a.eval o).run P W) := by
  obtain ⟨v', w', hrun, hO, hB, hat⟩ := run_app_fresh (P := P) t o.type E z ht hinfo hz hb0 HO hR
  unfold execOp
  simp only [ho, resolve, invoke, builtin, Sem.run_bind, Sem.run_pure, Result.andThen_ok, List.map_toArray, List.map_cons, List.map_nil, hs, hx, hrun]
  exact ⟨hB, h v' w' hO hB hat⟩
end
set_option maxRecDepth 100000 in
set_option maxHeartbeats 4000000 in
theorem spec_l7Tail_c (p : LL.Path) (A : Option Addr) (c : Nat) (k : Nat) (w : World) (hk : k < p.steps.length) (hl : p.steps.length ≤ 40) (h : RdS w A p.steps.length c p.steps) : Calls Try.prog 86 #[.agg #[.int .i64 p.q, .int .i64 p.s, .slice A p.steps.length c, .int .i64 p.fr, .int .i64 p.by_], .int .i64 k] w (MkP 79 w (LL.drP p k)) := by
  have hroom := h.room
  have hcap := h.cap
  obtain ⟨b, off, rfl, hbw⟩ := h.addr (by omega)
  have hl2 := LL.drP_len p k
  go_enter Try.func86, Try.ntmps86
  go_wp2_with fail
  refine wp_name (fun W => Below w.heap.size w W ∧ Blk W w.heap.size #[.int .i64 p.q, .int .i64 p.s, .slice (some ⟨b, off, none⟩) p.steps.length c, .int .i64 p.fr, .int .i64 p.by_] 43 ∧ Blk W (w.heap.size + 1) #[.int .i64 0, .int .i64 0, .slice none 0 0, .int .i64 0, .int .i64 0] 43) ⟨(by repeat' (first | with_reducible exact Below.refl _ _ | with_reducible assumption | with_reducible refine b_alloc ?_ _ | with_reducible refine b_drewN ?_ _ | with_reducible refine b_drew ?_ | with_reducible refine b_set ?_ (by first | (simp only [World.size_setCell, World.size_alloc, World.size_drew]; omega) | (simp; done) | (simp; omega)) _ | with_reducible refine b_step ?_ (by with_reducible assumption))), (by repeat' (first | with_reducible assumption | with_reducible exact Blk.new _ _ _ | with_reducible exact Blk.new' _ _ (by first | (simp only [World.size_alloc, World.size_setCell, World.size_drew]; done) | (simp only [World.size_alloc, World.size_setCell, World.size_drew]; omega) | omega) | with_reducible refine Blk.a ?_ _ | with_reducible refine Blk.d ?_ | with_reducible refine Blk.dN ?_ _ | with_reducible refine Blk.s ?_ (by simp only [ne_eq]; omega) _ | with_reducible refine Blk.b ?_ (by with_reducible assumption))), (by repeat' (first | with_reducible assumption | with_reducible exact Blk.new _ _ _ | with_reducible exact Blk.new' _ _ (by first | (simp only [World.size_alloc, World.size_setCell, World.size_drew]; done) | (simp only [World.size_alloc, World.size_setCell, World.size_drew]; omega) | omega) | with_reducible refine Blk.a ?_ _ | with_reducible refine Blk.d ?_ | with_reducible refine Blk.dN ?_ _ | with_reducible refine Blk.s ?_ (by simp only [ne_eq]; omega) _ | with_reducible refine Blk.b ?_ (by with_reducible assumption)))⟩ ?_
  rintro W1 ⟨hb, kP, kR⟩
  have hR1 := kR.cells.2.2
  obtain ⟨ekP, fkP, lkP⟩ := kP.cells
  obtain ⟨gc, gf, gl⟩ := bcell hb
  have HD := h.dropped k hk
  rw [hl2] at HD
  refine rel_tail_b 13 [(2, fun v W => ∃ g, v = .slice (some ⟨g, 0, none⟩) 0 0 ∧ Own stepC 7 56 79 W (.slice (some ⟨g, 0, none⟩) 0 0) [] ∧ W1.heap.size ≤ g), (7, fun v W => ∃ A9 c9, v = .slice A9 (p.steps.length - k) c9 ∧ Own stepC 7 56 79 W (.slice A9 (p.steps.length - k) c9) (LL.drP p k).steps ∧ (∀ j, Value.ownBlock (.slice A9 (p.steps.length - k) c9) = some j → W1.heap.size ≤ j))] (by kernel_rfl) (by kernel_rfl) ?_
  simp only [List.take_succ_cons, List.take_zero, List.drop_succ_cons, List.drop_zero]
  iterate 2 ((apply rel_plain (hR := rfl) (hF := fun _ => trivial) (hg := rfl)); (focus ((intro w' hL'); (obtain ⟨hcS, hfS, hlS⟩ := bcell hL'); (try simp only [World.size_setCell, World.size_alloc, World.size_drew] at hcS hfS hlS); (go_simp); (try go_bits); (try (first | (rw [if_pos (by omega)]; done) | (rw [if_neg (by omega)]; done) | (rw [if_pos (by omega)]; go_simp) | (rw [if_neg (by omega)]; go_simp))); (first | with_reducible rfl | exact rfl | skip))); (simp only [Act.put, List.setIfInBounds_toArray, List.set_cons_zero, List.set_cons_succ]))
  ((apply rel_told (hR := rfl) (hg := rfl)); (focus ((intro w' hL' hD'); (obtain ⟨hcS, hfS, hlS⟩ := bcell hL'); (try simp only [World.size_setCell, World.size_alloc, World.size_drew] at hcS hfS hlS); (go_simp); (try go_bits); (try (first | (rw [if_pos (by omega)]; done) | (rw [if_neg (by omega)]; done) | (rw [if_pos (by omega)]; go_simp) | (rw [if_neg (by omega)]; go_simp))); (refine ⟨b_alloc (Below.refl _ _) _, ?_⟩; ((repeat (first | (refine Tell.hit rfl ?_) | (refine Tell.skip rfl ?_))); exact ⟨_, rfl, Own.made' rfl, hL'.size⟩)))); (intro v' w0' hv'); (replace hv' := Tell.out hv' rfl); (obtain ⟨g, rfl, hgo, hg⟩ := hv'); (simp only [Act.put, List.setIfInBounds_toArray, List.set_cons_zero, List.set_cons_succ]))
  iterate 4 ((apply rel_plain (hR := rfl) (hF := fun _ => trivial) (hg := rfl)); (focus ((intro w' hL'); (obtain ⟨hcS, hfS, hlS⟩ := bcell hL'); (try simp only [World.size_setCell, World.size_alloc, World.size_drew] at hcS hfS hlS); (go_simp); (try go_bits); (try (first | (rw [if_pos (by omega)]; done) | (rw [if_neg (by omega)]; done) | (rw [if_pos (by omega)]; go_simp) | (rw [if_neg (by omega)]; go_simp))); (first | with_reducible rfl | exact rfl | skip))); (simp only [Act.put, List.setIfInBounds_toArray, List.set_cons_zero, List.set_cons_succ]))
  ((apply rel_told (hR := rfl) (hg := rfl)); (focus ((intro w' hL' hD'); ((obtain ⟨w8, hl8, g8, e8, hO8, hg8⟩ := Known.out (hD' ⟨2, .data⟩ (by simp) rfl) rfl); (injection e8 with e8; injection e8 with e8; injection e8 with e8; subst e8); (replace hO8 := hO8.b hl8); (refine ran_app (bytes := 56) (e := 79) _ _ _ rfl stepE (.agg (stepC LL.z0).toArray) Try.underlying41 (by kernel_rfl) rfl (by decide) rfl hO8 rfl (HD.mono (b_step hb hL')) ?_); (intro v' w'' hO' hB' hat); (obtain ⟨A', c', rfl, -⟩ := hO'.rd stepE); (rw [hl2] at hO' hat ⊢); ((repeat (first | (refine Tell.hit rfl ?_) | (refine Tell.skip rfl ?_))); exact ⟨A', c', rfl, hO', fun j hj => by have := hL'.size; rcases hat with h9 | h9 <;> (rw [h9] at hj; cases hj; omega)⟩)))); (intro v' w0' hv'); (replace hv' := Tell.out hv' rfl); (obtain ⟨A2, c2, rfl, -⟩ := hv'); (simp only [Act.put, List.setIfInBounds_toArray, List.set_cons_zero, List.set_cons_succ]))
  iterate 5 ((apply rel_plain (hR := rfl) (hF := fun _ => trivial) (hg := rfl)); (focus ((intro w' hL'); (obtain ⟨hcS, hfS, hlS⟩ := bcell hL'); (try simp only [World.size_setCell, World.size_alloc, World.size_drew] at hcS hfS hlS); (go_simp); (try go_bits); (try (first | (rw [if_pos (by omega)]; done) | (rw [if_neg (by omega)]; done) | (rw [if_pos (by omega)]; go_simp) | (rw [if_neg (by omega)]; go_simp))); (first | with_reducible rfl | exact rfl | skip))); (simp only [Act.put, List.setIfInBounds_toArray, List.set_cons_zero, List.set_cons_succ]))
  refine rel_nil ?_
  intro W2 hL2 hF2
  obtain ⟨w8, hl8, A8, c8, e8, hO8, hg8⟩ := Known.out (hF2 7) rfl
  injection e8 with e8 _ e9; subst e8 e9
  clear ekP fkP lkP
  clear gc gf gl
  replace hb := b_step hb hL2; replace kP := kP.b hL2; replace kR := kR.b hL2
  have hO := hO8.b hl8
  clear hF2 hl8 hO8 hL2
  have hO2 : ∀ j, Value.ownBlock (.slice A2 (p.steps.length - k) c2) = some j → w.heap.size + 1 < j := fun j hj => by have := hg8 j hj; omega
  obtain ⟨ekR, fkR, lkR⟩ := kR.cells
  go_wp2_with fail
  (refine bodyPost_ret (res_c rfl _ [.int .i64 p.q, .int .i64 p.s, .slice A2 (p.steps.length - k) c2, .int .i64 p.fr, .int .i64 p.by_] rfl _ Try.underlying43 rfl (by kernel_rfl) (by simp only [CellsAt, and_true]; and_intros <;> go_simp)) rfl ?_)
  exact ⟨_, rfl, ((((hO.s _ (fun k hk => by have := hO2 k hk; simp only; omega)).s _ (fun k hk => by have := hO2 k hk; simp only; omega)).s _ (fun k hk => by have := hO2 k hk; simp only; omega)).s _ (fun k hk => by have := hO2 k hk; simp only; omega)).s _ (fun k hk => by have := hO2 k hk; simp only; omega), fun k hk => by have := hO2 k hk; omega, (by repeat' (first | with_reducible exact Below.refl _ _ | with_reducible assumption | with_reducible refine b_alloc ?_ _ | with_reducible refine b_drewN ?_ _ | with_reducible refine b_drew ?_ | with_reducible refine b_set ?_ (by first | (simp only [World.size_setCell, World.size_alloc, World.size_drew]; omega) | (simp; done) | (simp; omega)) _ | with_reducible refine b_step ?_ (by with_reducible assumption)))⟩
namespace LL
/-- the first step is not left up to a tick -/
def aftP (p : Path) (now : Int) : Path := ⟨p.q, p.s, tab p.steps.length (upd (fun i => nth p.steps i) 1 (setW (nth p.steps 1) (max (nth p.steps 1).fr (now + 1)) (nth p.steps 1).by_)), if 1 < p.steps.length then p.fr else max p.fr (now + 1), p.by_⟩
theorem aftP_len (p : Path) (now : Int) : (aftP p now).steps.length = p.steps.length := tab_len _ _
theorem aftP_one (p : Path) (now : Int) (h : p.steps.length = 1) : (aftP p now).steps = p.steps := by
  unfold aftP
  rw [h]
  have := tab_self p.steps z0
  rw [h] at this
  rw [← this]
  exact tab_congr fun i hi => by
    obtain rfl : i = 0 := by omega
    simp [upd, nth, tab]
end LL
/-- a path whose steps lie in a row of the caller's was written to -/
def MkW (e : Nat) (w : World) (v : Value) (p : LL.Path) (en : Ending) (w' : World) : Prop := en = .returned (.agg #[.int .i64 p.q, .int .i64 p.s, v, .int .i64 p.fr, .int .i64 p.by_]) ∧ Own stepC 7 56 e w' v p.steps ∧ w.grownBy w' v.ownBlock
theorem gb_alloc {w W : World} {r : Option Nat} (h : w.grownBy W r) (o : Obj) : w.grownBy (W.alloc o) r := h.trans (World.grownBy_alloc W o r)
theorem gb_set {w W : World} {p : Addr} {r : Option Nat} (h : w.grownBy W r) (u : Value) (hr : r = some p.block ∨ w.heap.size ≤ p.block) : w.grownBy (W.setCell p u) r :=
  ⟨h.os, h.tape, h.output, by simpa using h.size, fun k hk hn => (Below.heap_setCell W p u k (fun e => by
    rcases hr with e1 | e1
    · exact hn (by rw [e1, e])
    · omega)).trans (h.block k hk hn)⟩
theorem gb_drew {w W : World} {r : Option Nat} (h : w.grownBy W r) : w.grownBy W.drew r := ⟨h.os, h.tape, h.output, h.size, h.block⟩
theorem gb_below {w W W' : World} {r : Option Nat} (h : w.grownBy W r) (hb : Below W.heap.size W W') : w.grownBy W' r := ⟨hb.os.trans h.os, hb.tape.trans h.tape, hb.output.trans h.output, Nat.le_trans h.size hb.size, fun k hk hn => (hb.block k (Nat.lt_of_lt_of_le hk h.size)).trans (h.block k hk hn)⟩
theorem below_gb {w W : World} (r : Option Nat) (hb : Below w.heap.size w W) : w.grownBy W r := ⟨hb.os, hb.tape, hb.output, hb.size, fun k hk _ => hb.block k hk⟩
theorem b_grownB {n : Nat} {w W w1 : World} {r : Option Nat} (h : Below n w W) (hg : W.grownBy w1 r) (hn : n ≤ W.heap.size) (hge : ∀ g, r = some g → n ≤ g) : Below n w w1 := h.grown hg hn hge
set_option maxRecDepth 100000 in
set_option maxHeartbeats 4000000 in
theorem spec_l7After_c (p : LL.Path) (A : Option Addr) (c : Nat) (now : Int) (w : World) (hn : 0 < p.steps.length) (hl : p.steps.length ≤ 40) (hn0 : 0 ≤ now) (hn1 : now ≤ 10000) (hO : Own stepC 7 56 79 w (.slice A p.steps.length c) p.steps) : Calls Try.prog 90 #[.agg #[.int .i64 p.q, .int .i64 p.s, .slice A p.steps.length c, .int .i64 p.fr, .int .i64 p.by_], .int .i64 now] w (MkW 79 w (.slice A p.steps.length c) (LL.aftP p now)) := by
  obtain ⟨g, rfl⟩ := hO.someA hn
  have hgl := (hO.row.lt _ rfl).2
  replace hO : Own stepC 7 56 79 w (.slice (some ⟨g, 0, none⟩) p.steps.length c) (LL.tab p.steps.length (fun i => LL.nth p.steps i)) := by
    show Own stepC 7 56 79 w (.slice (some ⟨g, 0, none⟩) p.steps.length c) (LL.tab p.steps.length fun i => p.steps.getD i LL.z0)
    rw [LL.tab_self]; exact hO
  simp only at hgl
  by_cases h1 : 1 < p.steps.length
  · have hfr : (LL.aftP p now).fr = p.fr := if_pos h1
    go_enter Try.func90, Try.ntmps90
    go_wp2_with fail
    refine wp_name (fun W => w.grownBy W (some g) ∧ Blk W w.heap.size #[.int .i64 p.q, .int .i64 p.s, .slice (some ⟨g, 0, none⟩) p.steps.length c, .int .i64 p.fr, .int .i64 p.by_] 43 ∧ Blk W (w.heap.size + 1) #[.int .i64 0, .int .i64 0, .slice none 0 0, .int .i64 0, .int .i64 0] 43 ∧ Own stepC 7 56 79 W (.slice (some ⟨g, 0, none⟩) p.steps.length c) (LL.tab p.steps.length (fun i => LL.nth p.steps i))) ⟨gb_alloc (gb_alloc (World.grownBy.refl _ _) _) _, (by repeat' (first | with_reducible assumption | with_reducible exact Blk.new _ _ _ | with_reducible exact Blk.new' _ _ (by first | (simp only [World.size_alloc, World.size_setCell, World.size_drew]; done) | (simp only [World.size_alloc, World.size_setCell, World.size_drew]; omega) | omega) | with_reducible refine Blk.a ?_ _ | with_reducible refine Blk.d ?_ | with_reducible refine Blk.dN ?_ _ | with_reducible refine Blk.s ?_ (by simp only [ne_eq]; omega) _ | with_reducible refine Blk.b ?_ (by with_reducible assumption))), (by repeat' (first | with_reducible assumption | with_reducible exact Blk.new _ _ _ | with_reducible exact Blk.new' _ _ (by first | (simp only [World.size_alloc, World.size_setCell, World.size_drew]; done) | (simp only [World.size_alloc, World.size_setCell, World.size_drew]; omega) | omega) | with_reducible refine Blk.a ?_ _ | with_reducible refine Blk.d ?_ | with_reducible refine Blk.dN ?_ _ | with_reducible refine Blk.s ?_ (by simp only [ne_eq]; omega) _ | with_reducible refine Blk.b ?_ (by with_reducible assumption))), (hO.a _).a _⟩ ?_
    rintro W1 ⟨hg, kP, kR, hO⟩
    have hO2 : ∀ k, Value.ownBlock (.slice (some ⟨g, 0, none⟩) p.steps.length c) = some k → k < w.heap.size := fun k hk => by injection hk with hk; simp only at hk; omega
    obtain ⟨ekP, fkP, lkP⟩ := kP.cells; obtain ⟨ekR, fkR, lkR⟩ := kR.cells
    obtain ⟨c4, c5, f0, gl⟩ := hO.St 1 h1
    ((refine calm_tail_b 12 (by kernel_rfl) (by kernel_rfl) ?_); (simp only [List.take_succ_cons, List.take_zero, List.drop_succ_cons, List.drop_zero]); (repeat ((apply sure_cons (hg := rfl)); (focus ((intro w' hS'); (obtain ⟨hcS, hfS, hlS⟩ := bcell hS'); (try simp only [World.size_setCell, World.size_alloc, World.size_drew] at hS' hcS hfS hlS); (go_simp); (try go_bits); (try ((first | rw [if_pos (by omega)] | rw [if_neg (by omega)]); go_simp)); (first | (with_reducible rfl) | (with_reducible exact rfl) | (with_reducible exact ⟨rfl, hS'⟩) | (go_at_call 87; go_loud (refine (spec_l1Max_c _ _ _).mono ?_); rintro e w'' ⟨rfl, hb⟩; (first | (subst hb; exact ⟨rfl, hS'⟩) | exact ⟨rfl, b_to hS' hb (by first | exact Nat.le_refl _ | (have h1 := hS'.size; (try simp only [World.size_setCell, World.size_alloc, World.size_drew] at h1); omega))⟩))))); (simp only [Act.put, List.setIfInBounds_toArray, List.set_cons_zero, List.set_cons_succ]))); (refine sure_nil ?_))
    intro W2 hS2
    clear ekP fkP lkP ekR fkR lkR
    clear c4 c5 f0 gl
    replace hg := gb_below hg hS2
    replace kP := kP.b hS2
    replace kR := kR.b hS2
    replace hO := hO.b hS2
    clear hS2
    obtain ⟨ekP, fkP, lkP⟩ := kP.cells; obtain ⟨ekR, fkR, lkR⟩ := kR.cells
    obtain ⟨c4, c5, f0, gl⟩ := hO.St 1 h1
    go_wp2_with fail
    (refine bodyPost_ret (res_c rfl _ [.int .i64 p.q, .int .i64 p.s, .slice (some ⟨g, 0, none⟩) p.steps.length c, .int .i64 p.fr, .int .i64 p.by_] rfl _ Try.underlying43 rfl (by kernel_rfl) (by simp only [CellsAt, and_true]; and_intros <;> go_simp)) rfl ?_)
    refine ⟨by rw [hfr]; rfl, ?_, gb_set (gb_set (gb_set (gb_set (gb_set (gb_set hg _ (.inl rfl)) _ (.inr (by simp only; omega))) _ (.inr (by simp only; omega))) _ (.inr (by simp only; omega))) _ (.inr (by simp only; omega))) _ (.inr (by simp only; omega))⟩
    exact (((((hO.updSt 1 h1 4 (x := .int .i64 (max (LL.nth p.steps 1).fr (now + 1))) (s := LL.setW (LL.nth p.steps 1) (max (LL.nth p.steps 1).fr (now + 1)) (LL.nth p.steps 1).by_) (by omega) rfl rfl).s _ (fun k hk => by have := hO2 k hk; simp only; omega)).s _ (fun k hk => by have := hO2 k hk; simp only; omega)).s _ (fun k hk => by have := hO2 k hk; simp only; omega)).s _ (fun k hk => by have := hO2 k hk; simp only; omega)).s _ (fun k hk => by have := hO2 k hk; simp only; omega)
  · have hfr : (LL.aftP p now).fr = max p.fr (now + 1) := if_neg h1
    have hst : LL.tab p.steps.length (fun i => LL.nth p.steps i) = (LL.aftP p now).steps := LL.tab_congr fun i hi => by
      obtain rfl : i = 0 := by omega
      rfl
    rw [hst] at hO
    go_enter Try.func90, Try.ntmps90
    go_wp2_with (go_at_call 87; refine (spec_l1Max_c _ _ _).mono ?_; rintro e w' ⟨rfl, rfl⟩)
    have hO2 : ∀ k, Value.ownBlock (.slice (some ⟨g, 0, none⟩) p.steps.length c) = some k → k < w.heap.size := fun k hk => by injection hk with hk; simp only at hk; omega
    (refine bodyPost_ret (res_c rfl _ [.int .i64 p.q, .int .i64 p.s, .slice (some ⟨g, 0, none⟩) p.steps.length c, .int .i64 (max p.fr (now + 1)), .int .i64 p.by_] rfl _ Try.underlying43 rfl (by kernel_rfl) (by simp only [CellsAt, and_true]; and_intros <;> go_simp)) rfl ?_)
    exact ⟨by rw [hfr]; rfl, (by repeat' (first | with_reducible assumption | with_reducible refine Own.s ?_ _ (fun k hk => by have := hO2 k hk; (try simp only); omega) | with_reducible refine Own.a ?_ _ | with_reducible refine Own.d ?_ | with_reducible refine Own.dN ?_ _ | with_reducible refine Own.b ?_ (by with_reducible assumption))), (by repeat' (first | with_reducible assumption | with_reducible exact World.grownBy.refl _ _ | with_reducible refine gb_set ?_ _ (by first | (exact .inl rfl) | (exact .inr (by first | (simp only; omega) | (simp; done) | (simp only [World.size_setCell, World.size_alloc, World.size_drew]; omega)))) | with_reducible refine gb_alloc ?_ _ | with_reducible refine gb_drew ?_))⟩
/-- a path, if there is a flight along it -/
def canV (p : LL.Path) (v : Value) : Value := if LL.SpansOk p then .agg #[.int .i64 p.q, .int .i64 p.s, v, .int .i64 p.fr, .int .i64 p.by_] else .agg #[.int .i64 0, .int .i64 0, .slice none 0 0, .int .i64 0, .int .i64 0]
theorem canV_yes {p : LL.Path} {v : Value} (h : LL.SpansOk p) : canV p v = .agg #[.int .i64 p.q, .int .i64 p.s, v, .int .i64 p.fr, .int .i64 p.by_] := if_pos h
theorem canV_no {p : LL.Path} {v : Value} (h : ¬ LL.SpansOk p) : canV p v = .agg #[.int .i64 0, .int .i64 0, .slice none 0 0, .int .i64 0, .int .i64 0] := if_neg h
set_option maxRecDepth 100000 in
set_option maxHeartbeats 4000000 in
theorem spec_l7Can_c (p : LL.Path) (A : Option Addr) (c : Nat) (w : World) (W : LL.Win p) (h : RdS w A p.steps.length c p.steps) : Calls Try.prog 89 #[.agg #[.int .i64 p.q, .int .i64 p.s, .slice A p.steps.length c, .int .i64 p.fr, .int .i64 p.by_]] w fun e w' => e = .returned (.tuple #[canV p (.slice A p.steps.length c), .bool (decide (LL.SpansOk p))]) ∧ Below w.heap.size w w' := by
  go_enter Try.func89, Try.ntmps89
  go_wp2_with fail
  refine calls_name (fun W => Below w.heap.size w W ∧ Blk W w.heap.size #[.int .i64 p.q, .int .i64 p.s, .slice A p.steps.length c, .int .i64 p.fr, .int .i64 p.by_] 43 ∧ Blk W (w.heap.size + 1) #[.int .i64 0, .int .i64 0, .slice none 0 0, .int .i64 0, .int .i64 0] 43) ⟨(by repeat' (first | with_reducible exact Below.refl _ _ | with_reducible assumption | with_reducible refine b_alloc ?_ _ | with_reducible refine b_drewN ?_ _ | with_reducible refine b_drew ?_ | with_reducible refine b_set ?_ (by first | (simp only [World.size_setCell, World.size_alloc, World.size_drew]; omega) | (simp; done) | (simp; omega)) _ | with_reducible refine b_step ?_ (by with_reducible assumption))), (by repeat' (first | with_reducible assumption | with_reducible exact Blk.new _ _ _ | with_reducible exact Blk.new' _ _ (by first | (simp only [World.size_alloc, World.size_setCell, World.size_drew]; done) | (simp only [World.size_alloc, World.size_setCell, World.size_drew]; omega) | omega) | with_reducible refine Blk.a ?_ _ | with_reducible refine Blk.d ?_ | with_reducible refine Blk.dN ?_ _ | with_reducible refine Blk.s ?_ (by simp only [ne_eq]; omega) _ | with_reducible refine Blk.b ?_ (by with_reducible assumption))), (by repeat' (first | with_reducible assumption | with_reducible exact Blk.new _ _ _ | with_reducible exact Blk.new' _ _ (by first | (simp only [World.size_alloc, World.size_setCell, World.size_drew]; done) | (simp only [World.size_alloc, World.size_setCell, World.size_drew]; omega) | omega) | with_reducible refine Blk.a ?_ _ | with_reducible refine Blk.d ?_ | with_reducible refine Blk.dN ?_ _ | with_reducible refine Blk.s ?_ (by simp only [ne_eq]; omega) _ | with_reducible refine Blk.b ?_ (by with_reducible assumption)))⟩ ?_
  rintro W1 ⟨hb, kP, kR⟩
  refine (spec_l4Spans_c p A c _ W (h.mono hb)).mono ?_
  intro e W2 hM
  obtain ⟨As, cs, rfl, -, -, hB⟩ := hM.go2 spanE
  replace hb := b_step hb hB; replace kP := kP.b hB; replace kR := kR.b hB; clear hB
  clear hM
  obtain ⟨ekP, fkP, lkP⟩ := kP.cells; obtain ⟨ekR, fkR, lkR⟩ := kR.cells
  by_cases hS : LL.SpansOk p
  · rw [decide_eq_true hS]
    go_wp2_with fail
    (refine bodyPost_ret (res_ct rfl _ [.int .i64 p.q, .int .i64 p.s, .slice A p.steps.length c, .int .i64 p.fr, .int .i64 p.by_] rfl _ rfl _ Try.underlying43 rfl (by kernel_rfl) (by simp only [CellsAt, and_true]; and_intros <;> go_simp)) rfl ?_)
    rw [canV_yes hS, decide_eq_true hS]
    exact ⟨rfl, (by repeat' (first | with_reducible exact Below.refl _ _ | with_reducible assumption | with_reducible refine b_alloc ?_ _ | with_reducible refine b_drewN ?_ _ | with_reducible refine b_drew ?_ | with_reducible refine b_set ?_ (by first | (simp only [World.size_setCell, World.size_alloc, World.size_drew]; omega) | (simp; done) | (simp; omega)) _ | with_reducible refine b_step ?_ (by with_reducible assumption)))⟩
  · rw [decide_eq_false hS]
    go_wp2_with fail
    (refine bodyPost_ret (res_ct rfl _ [.int .i64 0, .int .i64 0, .slice none 0 0, .int .i64 0, .int .i64 0] rfl _ rfl _ Try.underlying43 rfl (by kernel_rfl) (by simp only [CellsAt, and_true]; and_intros <;> go_simp)) rfl ?_)
    rw [canV_no hS, decide_eq_false hS]
    exact ⟨rfl, (by repeat' (first | with_reducible exact Below.refl _ _ | with_reducible assumption | with_reducible refine b_alloc ?_ _ | with_reducible refine b_drewN ?_ _ | with_reducible refine b_drew ?_ | with_reducible refine b_set ?_ (by first | (simp only [World.size_setCell, World.size_alloc, World.size_drew]; omega) | (simp; done) | (simp; omega)) _ | with_reducible refine b_step ?_ (by with_reducible assumption)))⟩
end Go.Proofs.Ytpeojnknfonmlaa

/- A path whose first entries are as they were: the reference's. -/
set_option linter.unusedVariables false
set_option linter.unusedSimpArgs false
namespace Go.Proofs.Ytpeojnknfonmlaa
open Go.RowKit
attribute [local go_sem] w_lt_add w_le_of w_le_add max2_i min2_i ite_max ite_min
theorem LL.hdFr_in {p : LL.Path} {f : List Int} {k : Nat} (h : k < p.steps.length) : LL.hdFr p f (k + 1) = LL.hdFr p f k := if_pos h
theorem LL.hdBy_in {p : LL.Path} {f : List Int} {k : Nat} (h : k < p.steps.length) : LL.hdBy p f (k + 1) = LL.hdBy p f k := if_pos h
theorem LL.hdFr_out {p : LL.Path} {f : List Int} {k : Nat} (h : ¬ k < p.steps.length) : LL.hdFr p f (k + 1) = max (LL.hdFr p f k) (LL.nthI f k) := if_neg h
theorem LL.hdBy_out {p : LL.Path} {f : List Int} {k : Nat} (h : ¬ k < p.steps.length) : LL.hdBy p f (k + 1) = min (LL.hdBy p f k) (LL.nthI f k) := if_neg h
theorem LL.mix_same (p : LL.Path) (f : List Int) (k : Nat) (h : ¬ k < p.steps.length) : LL.tab p.steps.length (LL.mix (LL.hdF p f) p.steps LL.z0 k) = LL.tab p.steps.length (LL.mix (LL.hdF p f) p.steps LL.z0 (k + 1)) := by
  rw [LL.mix_ge _ _ _ _ (by omega), LL.mix_ge _ _ _ _ (by omega)]
set_option maxRecDepth 100000 in
set_option maxHeartbeats 4000000 in
theorem spec_l6Held_c (p : LL.Path) (f : List Int) (A F : Option Addr) (c m : Nat) (w : World) (h : RdS w A p.steps.length c p.steps) (hF : RdI w F f.length m f) : Calls Try.prog 83 #[.agg #[.int .i64 p.q, .int .i64 p.s, .slice A p.steps.length c, .int .i64 p.fr, .int .i64 p.by_], .slice F f.length m] w (MkP 79 w (LL.hdP p f)) := by
  have hroom := h.room
  have hroom' := hF.room
  go_enter Try.func83, Try.ntmps83
  go_wp2_with fail
  refine calls_name (fun W => Below w.heap.size w W ∧ Blk W (w.heap.size + 1) #[.int .i64 0, .int .i64 0, .slice none 0 0, .int .i64 0, .int .i64 0] 43) ⟨(by repeat' (first | with_reducible exact Below.refl _ _ | with_reducible assumption | with_reducible refine b_alloc ?_ _ | with_reducible refine b_drewN ?_ _ | with_reducible refine b_drew ?_ | with_reducible refine b_set ?_ (by first | (simp only [World.size_setCell, World.size_alloc, World.size_drew]; omega) | (simp; done) | (simp; omega)) _ | with_reducible refine b_step ?_ (by with_reducible assumption))), (by repeat' (first | with_reducible assumption | with_reducible exact Blk.new _ _ _ | with_reducible exact Blk.new' _ _ (by first | (simp only [World.size_alloc, World.size_setCell, World.size_drew]; done) | (simp only [World.size_alloc, World.size_setCell, World.size_drew]; omega) | omega) | with_reducible refine Blk.a ?_ _ | with_reducible refine Blk.d ?_ | with_reducible refine Blk.dN ?_ _ | with_reducible refine Blk.s ?_ (by simp only [ne_eq]; omega) _ | with_reducible refine Blk.b ?_ (by with_reducible assumption)))⟩ ?_
  rintro W1 ⟨hb, kR⟩
  have hR1 := kR.cells.2.2
  refine (spec_l2Copy_c p A c _ (h.mono hb)).mono ?_
  intro e W4 hM
  obtain ⟨A2, c2, rfl, hO, hOg, hB⟩ := hM.gop
  have hO2 : ∀ k, Value.ownBlock (.slice A2 p.steps.length c2) = some k → w.heap.size + 1 < k := fun k hk => by have := hOg k hk; omega
  have hO3 : ∀ k, Value.ownBlock (.slice A2 p.steps.length c2) = some k → k < W4.heap.size := fun k hk => (hO.row.lt k hk).2
  replace hb := b_step hb hB; replace kR := kR.b hB; clear hB
  have hX0 : w.heap.size + 1 < W4.heap.size := kR.cells.2.2
  clear hM hOg
  go_wp2_with fail
  refine wp_name (fun W => Below w.heap.size w W ∧ Blk W (w.heap.size + 1) #[.int .i64 0, .int .i64 0, .slice none 0 0, .int .i64 0, .int .i64 0] 43 ∧ Blk W W4.heap.size #[.int .i64 p.q, .int .i64 p.s, .slice A2 p.steps.length c2, .int .i64 (LL.hdFr p f 0), .int .i64 (LL.hdBy p f 0)] 43 ∧ Own stepC 7 56 79 W (.slice A2 p.steps.length c2) (LL.tab p.steps.length (LL.mix (LL.hdF p f) p.steps LL.z0 0))) ⟨(by repeat' (first | with_reducible exact Below.refl _ _ | with_reducible assumption | with_reducible refine b_alloc ?_ _ | with_reducible refine b_drewN ?_ _ | with_reducible refine b_drew ?_ | with_reducible refine b_set ?_ (by first | (simp only [World.size_setCell, World.size_alloc, World.size_drew]; omega) | (simp; done) | (simp; omega)) _ | with_reducible refine b_step ?_ (by with_reducible assumption))), (by repeat' (first | with_reducible assumption | with_reducible exact Blk.new _ _ _ | with_reducible exact Blk.new' _ _ (by first | (simp only [World.size_alloc, World.size_setCell, World.size_drew]; done) | (simp only [World.size_alloc, World.size_setCell, World.size_drew]; omega) | omega) | with_reducible refine Blk.a ?_ _ | with_reducible refine Blk.d ?_ | with_reducible refine Blk.dN ?_ _ | with_reducible refine Blk.s ?_ (by simp only [ne_eq]; omega) _ | with_reducible refine Blk.b ?_ (by with_reducible assumption))), Blk.new _ _ _, by rw [LL.mix_zero]; exact hO.a _⟩ ?_
  clear hb kR hO
  rintro W5 ⟨hb, kR, kX, hO⟩
  generalize W4.heap.size = gx at kX hX0 hO3 ⊢
  go_loopw [6] (fun i wr => ∃ k : Nat, k ≤ f.length ∧ i = .int .i64 k ∧ Below w.heap.size w wr ∧ Blk wr (w.heap.size + 1) #[.int .i64 0, .int .i64 0, .slice none 0 0, .int .i64 0, .int .i64 0] 43 ∧ Blk wr gx #[.int .i64 p.q, .int .i64 p.s, .slice A2 p.steps.length c2, .int .i64 (LL.hdFr p f k), .int .i64 (LL.hdBy p f k)] 43 ∧ Own stepC 7 56 79 wr (.slice A2 p.steps.length c2) (LL.tab p.steps.length (LL.mix (LL.hdF p f) p.steps LL.z0 k))) (fun i _ => f.length - (intOf i).toNat)
  case atStart => exact ⟨0, Nat.zero_le _, rfl, hb, kR, kX, hO⟩
  case round =>
    clear hb kR kX hO
    obtain ⟨k, hk, rfl, hb, kR, kX, hO⟩ := hrel
    obtain ⟨ekX, fkX, lkX⟩ := kX.cells
    by_cases hlt : k < f.length
    · obtain ⟨b2, off2, rfl, hbw2⟩ := hF.addr (by omega)
      have c0 := hF.S1 k hlt
      obtain ⟨gc, gf, gl⟩ := bcell hb
      by_cases hkn : k < p.steps.length
      · rw [← LL.hdFr_in (f := f) hkn, ← LL.hdBy_in (f := f) hkn] at *
        generalize hfr : LL.hdFr p f (k + 1) = fr at *
        generalize hby : LL.hdBy p f (k + 1) = by_ at *
        have Hfr := Lib.hid hfr
        have Hby := Lib.hid hby
        clear hfr hby
        obtain ⟨g, rfl⟩ := hO.someA (by rw [LL.tab_len]; omega)
        have hgl := hO2 g rfl
        have hgl3 := hO3 g rfl
        have hSt := hO.St k hkn
        rw [LL.mix_here] at hSt
        obtain ⟨c4, c5, f0, gl2⟩ := hSt
        generalize hs : p.steps.getD k LL.z0 = s at c4 c5
        have Hs := Lib.hid hs
        clear hs
        go_wp2_with fail
        ((refine calm_tail_b 16 (by kernel_rfl) (by kernel_rfl) ?_); (simp only [List.take_succ_cons, List.take_zero, List.drop_succ_cons, List.drop_zero]); (repeat ((apply sure_cons (hg := rfl)); (focus ((intro w' hS'); (obtain ⟨hcS, hfS, hlS⟩ := bcell hS'); (try simp only [World.size_setCell, World.size_alloc, World.size_drew] at hS' hcS hfS hlS); (go_simp); (try go_bits); (try ((first | rw [if_pos (by omega)] | rw [if_neg (by omega)]); go_simp)); (first | (with_reducible rfl) | (with_reducible exact rfl) | (with_reducible exact ⟨rfl, hS'⟩) | (go_at_call 87; go_loud (refine (spec_l1Max_c _ _ _).mono ?_); rintro e w'' ⟨rfl, hb⟩; (first | (subst hb; exact ⟨rfl, hS'⟩) | exact ⟨rfl, b_to hS' hb (by first | exact Nat.le_refl _ | (have h1 := hS'.size; (try simp only [World.size_setCell, World.size_alloc, World.size_drew] at h1); omega))⟩))))); (simp only [Act.put, List.setIfInBounds_toArray, List.set_cons_zero, List.set_cons_succ]))); (refine sure_nil ?_))
        intro W6 hS6
        clear ekX fkX lkX
        clear c4 c5 f0 gl2 gc gf gl
        replace hb := b_step hb hS6; replace kR := kR.b hS6; replace kX := kX.b hS6; replace hO := hO.b hS6; clear hS6
        obtain ⟨ekX, fkX, lkX⟩ := kX.cells
        have hSt := hO.St k hkn
        rw [LL.mix_here, Hs.out] at hSt
        obtain ⟨c4, c5, f0, gl2⟩ := hSt
        go_wp2_with fail
        refine wp_name (fun W => Below w.heap.size w W ∧ Blk W (w.heap.size + 1) #[.int .i64 0, .int .i64 0, .slice none 0 0, .int .i64 0, .int .i64 0] 43 ∧ Blk W gx #[.int .i64 p.q, .int .i64 p.s, .slice (some ⟨g, 0, none⟩) p.steps.length c2, .int .i64 fr, .int .i64 by_] 43 ∧ Own stepC 7 56 79 W (.slice (some ⟨g, 0, none⟩) p.steps.length c2) (LL.tab p.steps.length (LL.upd (LL.mix (LL.hdF p f) p.steps LL.z0 k) k ⟨s.x, s.y, s.lo, s.hi, max s.fr (LL.nthI f k), s.by_, s.hold⟩))) ⟨b_set hb (by simp only; omega) _, kR.s (by simp only [ne_eq]; omega) _, kX.s (by simp only [ne_eq]; omega) _, hO.updSt k hkn 4 (x := .int .i64 (max s.fr (LL.nthI f k))) (s := ⟨s.x, s.y, s.lo, s.hi, max s.fr (LL.nthI f k), s.by_, s.hold⟩) (by omega) (by rw [LL.mix_here, Hs.out]; rfl) rfl⟩ ?_
        clear ekX fkX lkX
        clear hb kR kX hO c4 c5 f0 gl2
        rintro W7 ⟨hb, kR, kX, hO⟩
        obtain ⟨ekX, fkX, lkX⟩ := kX.cells
        obtain ⟨gc, gf, gl⟩ := bcell hb
        have hSt := hO.St k hkn
        rw [LL.upd_same] at hSt
        obtain ⟨c4, c5, f0, gl2⟩ := hSt
        ((refine calm_tail_b 16 (by kernel_rfl) (by kernel_rfl) ?_); (simp only [List.take_succ_cons, List.take_zero, List.drop_succ_cons, List.drop_zero]); (repeat ((apply sure_cons (hg := rfl)); (focus ((intro w' hS'); (obtain ⟨hcS, hfS, hlS⟩ := bcell hS'); (try simp only [World.size_setCell, World.size_alloc, World.size_drew] at hS' hcS hfS hlS); (go_simp); (try go_bits); (try ((first | rw [if_pos (by omega)] | rw [if_neg (by omega)]); go_simp)); (first | (with_reducible rfl) | (with_reducible exact rfl) | (with_reducible exact ⟨rfl, hS'⟩) | (go_at_call 88; go_loud (refine (spec_l1Min_c _ _ _).mono ?_); rintro e w'' ⟨rfl, hb⟩; (first | (subst hb; exact ⟨rfl, hS'⟩) | exact ⟨rfl, b_to hS' hb (by first | exact Nat.le_refl _ | (have h1 := hS'.size; (try simp only [World.size_setCell, World.size_alloc, World.size_drew] at h1); omega))⟩))))); (simp only [Act.put, List.setIfInBounds_toArray, List.set_cons_zero, List.set_cons_succ]))); (refine sure_nil ?_))
        intro W8 hS8
        clear ekX fkX lkX
        clear c4 c5 f0 gl2 gc gf gl
        replace hb := b_step hb hS8; replace kR := kR.b hS8; replace kX := kX.b hS8; replace hO := hO.b hS8; clear hS8
        obtain ⟨ekX, fkX, lkX⟩ := kX.cells
        have hSt := hO.St k hkn
        rw [LL.upd_same] at hSt
        obtain ⟨c4, c5, f0, gl2⟩ := hSt
        go_wp2_with fail
        go_roundw
        case rel =>
          have hs := Hs.out
          rw [← Hfr.out, ← Hby.out] at kX
          refine ⟨k + 1, by omega, by go_num, b_set hb (by simp only; omega) _, kR.s (by simp only [ne_eq]; omega) _, kX.s (by simp only [ne_eq]; omega) _, ?_⟩
          exact hO.updSt k hkn 5 (x := .int .i64 (min s.by_ (LL.nthI f k))) (s := LL.hdF p f k) (by omega) (by rw [LL.upd_same]; simp only [LL.hdF, LL.hdS, LL.nth, hs]; rfl) (by rw [LL.upd_upd, LL.mix_next])
        case measure => simp [intOf]; omega
      · rw [LL.mix_same p f k hkn] at hO
        generalize hfr : LL.hdFr p f k = fr at *
        generalize hby : LL.hdBy p f k = by_ at *
        have Hfr := Lib.hid hfr
        have Hby := Lib.hid hby
        clear hfr hby
        go_wp2_with fail
        ((refine calm_tail_b 8 (by kernel_rfl) (by kernel_rfl) ?_); (simp only [List.take_succ_cons, List.take_zero, List.drop_succ_cons, List.drop_zero]); (repeat ((apply sure_cons (hg := rfl)); (focus ((intro w' hS'); (obtain ⟨hcS, hfS, hlS⟩ := bcell hS'); (try simp only [World.size_setCell, World.size_alloc, World.size_drew] at hS' hcS hfS hlS); (go_simp); (try go_bits); (try ((first | rw [if_pos (by omega)] | rw [if_neg (by omega)]); go_simp)); (first | (with_reducible rfl) | (with_reducible exact rfl) | (with_reducible exact ⟨rfl, hS'⟩) | (go_at_call 87; go_loud (refine (spec_l1Max_c _ _ _).mono ?_); rintro e w'' ⟨rfl, hb⟩; (first | (subst hb; exact ⟨rfl, hS'⟩) | exact ⟨rfl, b_to hS' hb (by first | exact Nat.le_refl _ | (have h1 := hS'.size; (try simp only [World.size_setCell, World.size_alloc, World.size_drew] at h1); omega))⟩))))); (simp only [Act.put, List.setIfInBounds_toArray, List.set_cons_zero, List.set_cons_succ]))); (refine sure_nil ?_))
        intro W6 hS6
        clear ekX fkX lkX
        clear gc gf gl
        replace hb := b_step hb hS6; replace kR := kR.b hS6; replace kX := kX.b hS6; replace hO := hO.b hS6; clear hS6
        obtain ⟨ekX, fkX, lkX⟩ := kX.cells
        go_wp2_with fail
        refine wp_name (fun W => Below w.heap.size w W ∧ Blk W (w.heap.size + 1) #[.int .i64 0, .int .i64 0, .slice none 0 0, .int .i64 0, .int .i64 0] 43 ∧ Blk W gx #[.int .i64 p.q, .int .i64 p.s, .slice A2 p.steps.length c2, .int .i64 (max fr (LL.nthI f k)), .int .i64 by_] 43 ∧ Own stepC 7 56 79 W (.slice A2 p.steps.length c2) (LL.tab p.steps.length (LL.mix (LL.hdF p f) p.steps LL.z0 (k + 1)))) ⟨b_set hb (by simp only; omega) _, kR.s (by simp only [ne_eq]; omega) _, by simpa using kX.put 3 (.int .i64 (max fr (LL.nthI f k))), hO.s _ (fun k hk => by have := hO3 k hk; simp only; omega)⟩ ?_
        clear ekX fkX lkX
        clear hb kR kX hO
        rintro W7 ⟨hb, kR, kX, hO⟩
        obtain ⟨ekX, fkX, lkX⟩ := kX.cells
        obtain ⟨gc, gf, gl⟩ := bcell hb
        ((refine calm_tail_b 8 (by kernel_rfl) (by kernel_rfl) ?_); (simp only [List.take_succ_cons, List.take_zero, List.drop_succ_cons, List.drop_zero]); (repeat ((apply sure_cons (hg := rfl)); (focus ((intro w' hS'); (obtain ⟨hcS, hfS, hlS⟩ := bcell hS'); (try simp only [World.size_setCell, World.size_alloc, World.size_drew] at hS' hcS hfS hlS); (go_simp); (try go_bits); (try ((first | rw [if_pos (by omega)] | rw [if_neg (by omega)]); go_simp)); (first | (with_reducible rfl) | (with_reducible exact rfl) | (with_reducible exact ⟨rfl, hS'⟩) | (go_at_call 88; go_loud (refine (spec_l1Min_c _ _ _).mono ?_); rintro e w'' ⟨rfl, hb⟩; (first | (subst hb; exact ⟨rfl, hS'⟩) | exact ⟨rfl, b_to hS' hb (by first | exact Nat.le_refl _ | (have h1 := hS'.size; (try simp only [World.size_setCell, World.size_alloc, World.size_drew] at h1); omega))⟩))))); (simp only [Act.put, List.setIfInBounds_toArray, List.set_cons_zero, List.set_cons_succ]))); (refine sure_nil ?_))
        intro W8 hS8
        clear ekX fkX lkX
        clear gc gf gl
        replace hb := b_step hb hS8; replace kR := kR.b hS8; replace kX := kX.b hS8; replace hO := hO.b hS8; clear hS8
        obtain ⟨ekX, fkX, lkX⟩ := kX.cells
        go_wp2_with fail
        go_roundw
        case rel =>
          refine ⟨k + 1, by omega, by go_num, b_set hb (by simp only; omega) _, kR.s (by simp only [ne_eq]; omega) _, ?_, hO.s _ (fun k hk => by have := hO3 k hk; simp only; omega)⟩
          rw [LL.hdFr_out hkn, LL.hdBy_out hkn, Hfr.out, Hby.out]
          simpa using kX.put 4 (.int .i64 (min by_ (LL.nthI f k)))
        case measure => simp [intOf]; omega
    · obtain rfl : k = f.length := by omega
      obtain ⟨ekR, fkR, lkR⟩ := kR.cells
      go_wp2_with fail
      (refine bodyPost_ret (res_c rfl _ [.int .i64 p.q, .int .i64 p.s, .slice A2 p.steps.length c2, .int .i64 (LL.hdFr p f f.length), .int .i64 (LL.hdBy p f f.length)] rfl _ Try.underlying43 rfl (by kernel_rfl) (by simp only [CellsAt, and_true]; and_intros <;> go_simp)) rfl ?_)
      have hO' : Own stepC 7 56 79 wr (.slice A2 p.steps.length c2) (LL.hdP p f).steps := hO
      refine ⟨.slice A2 p.steps.length c2, rfl, (by repeat' (first | with_reducible assumption | with_reducible refine Own.s ?_ _ (fun k hk => by have := hO2 k hk; (try simp only); omega) | with_reducible refine Own.a ?_ _ | with_reducible refine Own.d ?_ | with_reducible refine Own.dN ?_ _ | with_reducible refine Own.b ?_ (by with_reducible assumption))), fun k hk => by have := hO2 k hk; omega, (by repeat' (first | with_reducible exact Below.refl _ _ | with_reducible assumption | with_reducible refine b_alloc ?_ _ | with_reducible refine b_drewN ?_ _ | with_reducible refine b_drew ?_ | with_reducible refine b_set ?_ (by first | (simp only [World.size_setCell, World.size_alloc, World.size_drew]; omega) | (simp; done) | (simp; omega)) _ | with_reducible refine b_step ?_ (by with_reducible assumption)))⟩
end Go.Proofs.Ytpeojnknfonmlaa
