/- What is left of a path for anybody who is there: the program's. -/
import Derived.Test.YtpeojnknfonmlaaJ8
set_option linter.unusedVariables false
set_option linter.unusedSimpArgs false
namespace Go.Proofs.Ytpeojnknfonmlaa
open Go.RowKit
attribute [local go_sem] w_lt_add w_le_of w_le_add max2_i min2_i ite_max ite_min
set_option maxRecDepth 100000 in
set_option maxHeartbeats 4000000 in
theorem impl_FlySeen_c (p : LL.Path) (A : Option Addr) (c : Nat) (st now : Int) (w : World) (h : RdS w A p.steps.length c p.steps) : Calls Try.prog 45 #[.agg #[.int .i64 p.q, .int .i64 p.s, .slice A p.steps.length c, .int .i64 p.fr, .int .i64 p.by_], .int .i64 st, .int .i64 now] w (MkPB 79 w (LL.seenM p st now) (decide (LL.CanSeen p st now))) := by
  have hroom := h.room
  go_enter Try.func45, Try.ntmps45
  go_wp2_with fail
  refine calls_name (fun W => Below w.heap.size w W ∧ Blk W w.heap.size #[.int .i64 p.q, .int .i64 p.s, .slice A p.steps.length c, .int .i64 p.fr, .int .i64 p.by_] 43 ∧ Blk W (w.heap.size + 1) #[.int .i64 0, .int .i64 0, .slice none 0 0, .int .i64 0, .int .i64 0] 43) ⟨(by repeat' (first | with_reducible exact Below.refl _ _ | with_reducible assumption | with_reducible refine b_alloc ?_ _ | with_reducible refine b_drewN ?_ _ | with_reducible refine b_drew ?_ | with_reducible refine b_set ?_ (by first | (simp only [World.size_setCell, World.size_alloc, World.size_drew]; omega) | (simp; done) | (simp; omega)) _ | with_reducible refine b_step ?_ (by with_reducible assumption))), (by repeat' (first | with_reducible assumption | with_reducible exact Blk.new _ _ _ | with_reducible exact Blk.new' _ _ (by first | (simp only [World.size_alloc, World.size_setCell, World.size_drew]; done) | (simp only [World.size_alloc, World.size_setCell, World.size_drew]; omega) | omega) | with_reducible refine Blk.a ?_ _ | with_reducible refine Blk.d ?_ | with_reducible refine Blk.dN ?_ _ | with_reducible refine Blk.s ?_ (by simp only [ne_eq]; omega) _ | with_reducible refine Blk.b ?_ (by with_reducible assumption))), (by repeat' (first | with_reducible assumption | with_reducible exact Blk.new _ _ _ | with_reducible exact Blk.new' _ _ (by first | (simp only [World.size_alloc, World.size_setCell, World.size_drew]; done) | (simp only [World.size_alloc, World.size_setCell, World.size_drew]; omega) | omega) | with_reducible refine Blk.a ?_ _ | with_reducible refine Blk.d ?_ | with_reducible refine Blk.dN ?_ _ | with_reducible refine Blk.s ?_ (by simp only [ne_eq]; omega) _ | with_reducible refine Blk.b ?_ (by with_reducible assumption)))⟩ ?_
  rintro W1 ⟨hb, kP, kR⟩
  refine (impl_FlyPathOk_c p A c _ (h.mono hb)).mono ?_
  rintro e W2 ⟨rfl, hB⟩
  replace hb := b_step hb hB; replace kP := kP.b hB; replace kR := kR.b hB; clear hB
  by_cases hP : LL.PathOk p
  · rw [decide_eq_true hP]
    by_cases hI : LL.In st 0 (p.steps.length - 1)
    · by_cases hN : LL.In now 0 10000
      · obtain ⟨k, rfl⟩ : ∃ k : Nat, st = (k : Int) := ⟨st.toNat, by have := hI.1; omega⟩
        have hk : k < p.steps.length := by have := hI.2; have := hP.2.1.1; omega
        have hl := hP.2.1.2
        obtain ⟨n0, n1⟩ := id hN
        obtain ⟨ekP, fkP, lkP⟩ := kP.cells; obtain ⟨ekR, fkR, lkR⟩ := kR.cells
        go_wp2_with (go_at_call 70; refine (impl_in_c _ _ _ _).mono ?_; rintro e w' ⟨rfl, rfl⟩)
        refine calls_name (fun W => Below W2.heap.size W2 W) (by repeat' (first | with_reducible exact Below.refl _ _ | with_reducible assumption | with_reducible refine b_alloc ?_ _ | with_reducible refine b_drewN ?_ _ | with_reducible refine b_drew ?_ | with_reducible refine b_set ?_ (by first | (simp only [World.size_setCell, World.size_alloc, World.size_drew]; omega) | (simp; done) | (simp; omega)) _ | with_reducible refine b_step ?_ (by with_reducible assumption))) ?_; intro W3 hE; clear ekP fkP lkP ekR fkR lkR; replace hb := b_step hb hE; replace kP := kP.b hE; replace kR := kR.b hE; clear hE
        refine (impl_FlySpans_c p A c _ (h.mono hb)).mono ?_
        intro e W4 hM
        by_cases hS0 : LL.SpansOk p
        · have hF : LL.Flies p := ⟨hP, hS0⟩
          rw [LL.spansM_yes hF, decide_eq_true hF] at hM
          obtain ⟨As, cs, rfl, hSp, -, hB⟩ := hM.go2 spanE
          replace hb := b_step hb hB; replace kP := kP.b hB; replace kR := kR.b hB; clear hB
          clear hM
          have hR4 := kR.cells.2.2
          obtain ⟨g, rfl⟩ := hSp.someA (by simp [LL.spans, LL.tab_len])
          have hlen : (LL.spans p).length = p.steps.length + 1 := LL.tab_len _ _
          have h2 := (hSp.rd_at' spanE).S2 k (by omega)
          rw [LL.spans_at p k (by omega)] at h2
          simp only [Nat.zero_add] at h2
          obtain ⟨e0, e1⟩ := h2
          have hgl := (hSp.row.lt _ rfl).2
          dsimp only at hgl
          have hlt2 : k < (LL.spans p).length := by omega
          have Hlen := Lib.hid hlen
          clear hlen
          obtain ⟨hR1, hR2⟩ := LL.seen_left hP hS0 hk hN
          have HR1 := Lib.hid hR1
          have HR2 := Lib.hid hR2
          clear hR1 hR2
          obtain ⟨ekP, fkP, lkP⟩ := kP.cells; obtain ⟨ekR, fkR, lkR⟩ := kR.cells
          go_wp2_with fail
          obtain ⟨gc, gf, gl⟩ := bcell hb
          have b1 := LL.lo_ge p k hk
          have b2 := LL.hi_le p k hk
          generalize hL : LL.lo p k = lw at *
          generalize hH : LL.hi p k = hw at *
          refine rel_tail_b 18 [(15, fun v W => ∃ A9 c9, v = .tuple #[.agg #[.int .i64 (LL.leftM p k lw (min now hw) now).q, .int .i64 (LL.leftM p k lw (min now hw) now).s, .slice A9 (LL.leftM p k lw (min now hw) now).steps.length c9, .int .i64 (LL.leftM p k lw (min now hw) now).fr, .int .i64 (LL.leftM p k lw (min now hw) now).by_], .bool (decide (LL.SpansOk (LL.tlP p k lw (min now hw) now)))] ∧ Own stepC 7 56 79 W (.slice A9 (LL.leftM p k lw (min now hw) now).steps.length c9) (LL.leftM p k lw (min now hw) now).steps ∧ (∀ j, Value.ownBlock (.slice A9 (LL.leftM p k lw (min now hw) now).steps.length c9) = some j → W4.heap.size ≤ j))] (by kernel_rfl) (by kernel_rfl) ?_
          simp only [List.take_succ_cons, List.take_zero, List.drop_succ_cons, List.drop_zero]
          iterate 15 ((apply rel_plain (hR := rfl) (hF := fun _ => trivial) (hg := rfl)); (focus ((intro w' hL'); (obtain ⟨hcS, hfS, hlS⟩ := bcell hL'); (try simp only [World.size_setCell, World.size_alloc, World.size_drew] at hcS hfS hlS); (go_simp); (try go_bits); (try (first | (rw [if_pos (by omega)]; done) | (rw [if_neg (by omega)]; done) | (rw [if_pos (by omega)]; go_simp) | (rw [if_neg (by omega)]; go_simp))); (first | with_reducible rfl | exact rfl | skip))); (simp only [Act.put, List.setIfInBounds_toArray, List.set_cons_zero, List.set_cons_succ]))
          ((apply rel_told (hR := rfl) (hg := rfl)); (focus ((intro w' hL' hD'); (obtain ⟨hcS, hfS, hlS⟩ := bcell hL'); (try simp only [World.size_setCell, World.size_alloc, World.size_drew] at hcS hfS hlS); (go_simp); (try go_bits); (try (first | (rw [if_pos (by omega)]; done) | (rw [if_neg (by omega)]; done) | (rw [if_pos (by omega)]; go_simp) | (rw [if_neg (by omega)]; go_simp))); ((go_at_call 85); (refine (impl_left_c p _ c k _ _ _ _ hP hk b1 (by omega) n0 n1 (h.mono (b_step hb hL'))).mono ?_); (intro e w'' hM); (obtain ⟨A2, c2, e2, hO2, hg2, hB⟩ := hM.gop2); (refine ⟨_, e2, hB, ?_⟩); ((repeat (first | (refine Tell.hit rfl ?_) | (refine Tell.skip rfl ?_))); exact ⟨A2, c2, rfl, hO2, fun k hk => Nat.le_trans hL'.size (hg2 k hk)⟩)))); (intro v' w0' hv'); (replace hv' := Tell.out hv' rfl); (obtain ⟨A2, c2, rfl, -⟩ := hv'); (simp only [Act.put, List.setIfInBounds_toArray, List.set_cons_zero, List.set_cons_succ]))
          ((apply rel_plain (hR := rfl) (hF := fun _ => trivial) (hg := rfl)); (focus ((intro w' hL'); (obtain ⟨hcS, hfS, hlS⟩ := bcell hL'); (try simp only [World.size_setCell, World.size_alloc, World.size_drew] at hcS hfS hlS); (go_simp); (try go_bits); (try (first | (rw [if_pos (by omega)]; done) | (rw [if_neg (by omega)]; done) | (rw [if_pos (by omega)]; go_simp) | (rw [if_neg (by omega)]; go_simp))); (first | with_reducible rfl | exact rfl | skip))); (simp only [Act.put, List.setIfInBounds_toArray, List.set_cons_zero, List.set_cons_succ]))
          ((apply rel_plain (hR := rfl) (hF := fun _ => trivial) (hg := rfl)); (focus ((intro w' hL'); (obtain ⟨hcS, hfS, hlS⟩ := bcell hL'); (try simp only [World.size_setCell, World.size_alloc, World.size_drew] at hcS hfS hlS); (go_simp); (try go_bits); (try (first | (rw [if_pos (by omega)]; done) | (rw [if_neg (by omega)]; done) | (rw [if_pos (by omega)]; go_simp) | (rw [if_neg (by omega)]; go_simp))); (first | with_reducible rfl | exact rfl | skip))); (simp only [Act.put, List.setIfInBounds_toArray, List.set_cons_zero, List.set_cons_succ]))
          refine rel_nil ?_
          intro W5 hL2 hF2
          obtain ⟨w8, hl8, A8, c8, e8, hO8, hg8⟩ := Known.out (hF2 15) rfl
          injection e8 with e8; injection e8 with e8; injection e8 with e8 _; injection e8 with e8; injection e8 with e8; injection e8 with e8 e9; injection e9 with e9 e10; injection e10 with e10 e11; injection e10 with e10 e12 e13; subst e10 e13
          clear ekP fkP lkP ekR fkR lkR
          replace hb := b_step hb hL2; replace kP := kP.b hL2; replace kR := kR.b hL2
          have hO := hO8.b hl8
          have hO2 : ∀ j, Value.ownBlock (.slice A2 (LL.leftM p k lw (min now hw) now).steps.length c2) = some j → w.heap.size + 1 < j := fun j hj => by have := hg8 j hj; omega
          clear hF2 hl8 hO8 hg8 gc gf gl hL2
          rw [Int.min_comm] at hO hO2 ⊢
          rw [← HR2.out] at hO hO2 ⊢
          have hdec : decide (LL.SpansOk (LL.tlP p k lw (min hw now) now)) = decide (LL.CanSeen p k now) := decide_eq_decide.2 HR1.out.symm
          rw [hdec]
          clear hdec
          obtain ⟨ekP, fkP, lkP⟩ := kP.cells; obtain ⟨ekR, fkR, lkR⟩ := kR.cells
          go_wp2_with fail
          (refine bodyPost_ret (res_ct rfl _ [.int .i64 (LL.seenM p k now).q, .int .i64 (LL.seenM p k now).s, .slice A2 (LL.seenM p k now).steps.length c2, .int .i64 (LL.seenM p k now).fr, .int .i64 (LL.seenM p k now).by_] rfl _ rfl _ Try.underlying43 rfl (by kernel_rfl) (by simp only [CellsAt, and_true]; and_intros <;> go_simp)) rfl ?_)
          exact ⟨_, rfl, ((((hO.s _ (fun k hk => by have := hO2 k hk; simp only; omega)).s _ (fun k hk => by have := hO2 k hk; simp only; omega)).s _ (fun k hk => by have := hO2 k hk; simp only; omega)).s _ (fun k hk => by have := hO2 k hk; simp only; omega)).s _ (fun k hk => by have := hO2 k hk; simp only; omega), fun k hk => by have := hO2 k hk; omega, (by repeat' (first | with_reducible exact Below.refl _ _ | with_reducible assumption | with_reducible refine b_alloc ?_ _ | with_reducible refine b_drewN ?_ _ | with_reducible refine b_drew ?_ | with_reducible refine b_set ?_ (by first | (simp only [World.size_setCell, World.size_alloc, World.size_drew]; omega) | (simp; done) | (simp; omega)) _ | with_reducible refine b_step ?_ (by with_reducible assumption)))⟩
        · have hS : ¬ LL.CanSeen p k now := fun h9 => hS0 h9.2.2.2.1
          have hF : ¬ LL.Flies p := fun h9 => hS0 h9.2
          rw [LL.spansM_no hF, decide_eq_false hF] at hM
          obtain ⟨As, cs, rfl, hSp, -, hB⟩ := hM.go2 spanE
          replace hb := b_step hb hB; replace kP := kP.b hB; replace kR := kR.b hB; clear hB
          clear hM
          obtain ⟨ekP, fkP, lkP⟩ := kP.cells; obtain ⟨ekR, fkR, lkR⟩ := kR.cells
          go_wp2_with fail
          (refine bodyPost_ret (res_ct rfl _ [.int .i64 0, .int .i64 0, .slice none 0 0, .int .i64 0, .int .i64 0] rfl _ rfl _ Try.underlying43 rfl (by kernel_rfl) (by simp only [CellsAt, and_true]; and_intros <;> go_simp)) rfl ?_)
          rw [LL.seenM_no hS, decide_eq_false hS]
          exact MkPB.none (by repeat' (first | with_reducible exact Below.refl _ _ | with_reducible assumption | with_reducible refine b_alloc ?_ _ | with_reducible refine b_drewN ?_ _ | with_reducible refine b_drew ?_ | with_reducible refine b_set ?_ (by first | (simp only [World.size_setCell, World.size_alloc, World.size_drew]; omega) | (simp; done) | (simp; omega)) _ | with_reducible refine b_step ?_ (by with_reducible assumption)))
      · have hS : ¬ LL.CanSeen p st now := fun h9 => hN h9.2.2.1
        have hl := hP.2.1.2
        obtain ⟨ekP, fkP, lkP⟩ := kP.cells; obtain ⟨ekR, fkR, lkR⟩ := kR.cells
        go_wp2_with (go_at_call 70; refine (impl_in_c _ _ _ _).mono ?_; rintro e w' ⟨rfl, rfl⟩)
        (refine bodyPost_ret (res_ct rfl _ [.int .i64 0, .int .i64 0, .slice none 0 0, .int .i64 0, .int .i64 0] rfl _ rfl _ Try.underlying43 rfl (by kernel_rfl) (by simp only [CellsAt, and_true]; and_intros <;> go_simp)) rfl ?_)
        rw [LL.seenM_no hS, decide_eq_false hS]
        exact MkPB.none (by repeat' (first | with_reducible exact Below.refl _ _ | with_reducible assumption | with_reducible refine b_alloc ?_ _ | with_reducible refine b_drewN ?_ _ | with_reducible refine b_drew ?_ | with_reducible refine b_set ?_ (by first | (simp only [World.size_setCell, World.size_alloc, World.size_drew]; omega) | (simp; done) | (simp; omega)) _ | with_reducible refine b_step ?_ (by with_reducible assumption)))
    · have hS : ¬ LL.CanSeen p st now := fun h9 => hI h9.2.1
      have hl := hP.2.1.2
      obtain ⟨ekP, fkP, lkP⟩ := kP.cells; obtain ⟨ekR, fkR, lkR⟩ := kR.cells
      go_wp2_with (go_at_call 70; refine (impl_in_c _ _ _ _).mono ?_; rintro e w' ⟨rfl, rfl⟩)
      (refine bodyPost_ret (res_ct rfl _ [.int .i64 0, .int .i64 0, .slice none 0 0, .int .i64 0, .int .i64 0] rfl _ rfl _ Try.underlying43 rfl (by kernel_rfl) (by simp only [CellsAt, and_true]; and_intros <;> go_simp)) rfl ?_)
      rw [LL.seenM_no hS, decide_eq_false hS]
      exact MkPB.none (by repeat' (first | with_reducible exact Below.refl _ _ | with_reducible assumption | with_reducible refine b_alloc ?_ _ | with_reducible refine b_drewN ?_ _ | with_reducible refine b_drew ?_ | with_reducible refine b_set ?_ (by first | (simp only [World.size_setCell, World.size_alloc, World.size_drew]; omega) | (simp; done) | (simp; omega)) _ | with_reducible refine b_step ?_ (by with_reducible assumption)))
  · rw [decide_eq_false hP]
    obtain ⟨ekP, fkP, lkP⟩ := kP.cells; obtain ⟨ekR, fkR, lkR⟩ := kR.cells
    go_wp2_with fail
    have hS : ¬ LL.CanSeen p st now := fun hS => hP hS.1
    (refine bodyPost_ret (res_ct rfl _ [.int .i64 0, .int .i64 0, .slice none 0 0, .int .i64 0, .int .i64 0] rfl _ rfl _ Try.underlying43 rfl (by kernel_rfl) (by simp only [CellsAt, and_true]; and_intros <;> go_simp)) rfl ?_)
    rw [LL.seenM_no hS, decide_eq_false hS]
    exact MkPB.none (by repeat' (first | with_reducible exact Below.refl _ _ | with_reducible assumption | with_reducible refine b_alloc ?_ _ | with_reducible refine b_drewN ?_ _ | with_reducible refine b_drew ?_ | with_reducible refine b_set ?_ (by first | (simp only [World.size_setCell, World.size_alloc, World.size_drew]; omega) | (simp; done) | (simp; omega)) _ | with_reducible refine b_step ?_ (by with_reducible assumption)))
end Go.Proofs.Ytpeojnknfonmlaa
