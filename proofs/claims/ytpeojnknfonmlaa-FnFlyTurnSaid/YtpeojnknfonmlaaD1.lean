/- Turning: FlyMayTurn of the program and of the reference. -/
import Derived.Test.YtpeojnknfonmlaaC6
import Derived.Test.YtpeojnknfonmlaaJ9
import Derived.Test.YtpeojnknfonmlaaX6
import Derived.Test.YtpeojnknfonmlaaJ4
set_option linter.unusedVariables false
set_option linter.unusedSimpArgs false
namespace Go.Proofs.Ytpeojnknfonmlaa
open Go.RowKit
attribute [local go_sem] w_lt_add w_le_of w_le_add max2_i min2_i ite_max ite_min
namespace LL
def MayTurn (p q : Path) (st now : Int) : Prop := CanSeen p st now ∧ PathOk q ∧ st < (shared p q : Int) ∧ CanRest q st (lo (snP p st now) 0) now ∧ CanRest q st (hi (snP p st now) 0) now
instance (p q : Path) (st now : Int) : Decidable (MayTurn p q st now) := inferInstanceAs (Decidable (_ ∧ _))
theorem CanSeen.flies {p : Path} {st now : Int} (h : CanSeen p st now) : Flies (snP p st now) := by
  obtain ⟨hP, hI, hN, hS, hS2⟩ := h
  obtain ⟨k, rfl⟩ : ∃ k : Nat, st = (k : Int) := ⟨st.toNat, by have := hI.1; omega⟩
  have hk : k < p.steps.length := by have := hI.2; have := hP.2.1.1; omega
  show Flies (tlP p k (lo p k) (min (hi p k) now) now)
  exact (tlP_flies hP hk (lo_ge p k hk) (by have := hi_le p k hk; omega)).2 hS2
end LL
set_option maxRecDepth 100000 in
set_option maxHeartbeats 4000000 in
theorem impl_FlyMayTurn_c (p q : LL.Path) (A B : Option Addr) (c d : Nat) (st now : Int) (w : World) (h : RdS w A p.steps.length c p.steps) (h' : RdS w B q.steps.length d q.steps) : Calls Try.prog 96 #[.agg #[.int .i64 p.q, .int .i64 p.s, .slice A p.steps.length c, .int .i64 p.fr, .int .i64 p.by_], .agg #[.int .i64 q.q, .int .i64 q.s, .slice B q.steps.length d, .int .i64 q.fr, .int .i64 q.by_], .int .i64 st, .int .i64 now] w fun e w' => e = .returned (.bool (decide (LL.MayTurn p q st now))) ∧ Below w.heap.size w w' := by
  have hroom := h.room
  have hroom' := h'.room
  go_enter Try.func96, Try.ntmps96
  go_wp2_with fail
  refine calls_name (fun W => Below w.heap.size w W ∧ Blk W w.heap.size #[.int .i64 p.q, .int .i64 p.s, .slice A p.steps.length c, .int .i64 p.fr, .int .i64 p.by_] 43 ∧ Blk W (w.heap.size + 1) #[.int .i64 q.q, .int .i64 q.s, .slice B q.steps.length d, .int .i64 q.fr, .int .i64 q.by_] 43) ⟨(by repeat' (first | with_reducible exact Below.refl _ _ | with_reducible assumption | with_reducible refine b_alloc ?_ _ | with_reducible refine b_drewN ?_ _ | with_reducible refine b_drew ?_ | with_reducible refine b_set ?_ (by first | (simp only [World.size_setCell, World.size_alloc, World.size_drew]; omega) | (simp; done) | (simp; omega)) _ | with_reducible refine b_step ?_ (by with_reducible assumption))), (by repeat' (first | with_reducible assumption | with_reducible exact Blk.new _ _ _ | with_reducible exact Blk.new' _ _ (by first | (simp only [World.size_alloc, World.size_setCell, World.size_drew]; done) | (simp only [World.size_alloc, World.size_setCell, World.size_drew]; omega) | omega) | with_reducible refine Blk.a ?_ _ | with_reducible refine Blk.d ?_ | with_reducible refine Blk.dN ?_ _ | with_reducible refine Blk.s ?_ (by simp only [ne_eq]; omega) _ | with_reducible refine Blk.b ?_ (by with_reducible assumption))), (by repeat' (first | with_reducible assumption | with_reducible exact Blk.new _ _ _ | with_reducible exact Blk.new' _ _ (by first | (simp only [World.size_alloc, World.size_setCell, World.size_drew]; done) | (simp only [World.size_alloc, World.size_setCell, World.size_drew]; omega) | omega) | with_reducible refine Blk.a ?_ _ | with_reducible refine Blk.d ?_ | with_reducible refine Blk.dN ?_ _ | with_reducible refine Blk.s ?_ (by simp only [ne_eq]; omega) _ | with_reducible refine Blk.b ?_ (by with_reducible assumption)))⟩ ?_
  rintro W1 ⟨hb, kP, kQ⟩
  refine (impl_FlySeen_c p A c st now _ (h.mono hb)).mono ?_
  intro e W2 hM
  by_cases hC : LL.CanSeen p st now
  · rw [LL.seenM_yes hC, decide_eq_true hC] at hM
    have hF := hC.flies
    obtain ⟨A1, c1, rfl, hX, -, hB⟩ := hM.gop2
    replace hb := b_step hb hB; replace kP := kP.b hB; replace kQ := kQ.b hB; clear hB
    clear hM
    obtain ⟨ekP, fkP, lkP⟩ := kP.cells; obtain ⟨ekQ, fkQ, lkQ⟩ := kQ.cells
    go_wp2_with fail
    refine calls_name (fun W => Below W2.heap.size W2 W ∧ Blk W W2.heap.size #[.int .i64 (LL.snP p st now).q, .int .i64 (LL.snP p st now).s, .slice A1 (LL.snP p st now).steps.length c1, .int .i64 (LL.snP p st now).fr, .int .i64 (LL.snP p st now).by_] 43) ⟨(by repeat' (first | with_reducible exact Below.refl _ _ | with_reducible assumption | with_reducible refine b_alloc ?_ _ | with_reducible refine b_drewN ?_ _ | with_reducible refine b_drew ?_ | with_reducible refine b_set ?_ (by first | (simp only [World.size_setCell, World.size_alloc, World.size_drew]; omega) | (simp; done) | (simp; omega)) _ | with_reducible refine b_step ?_ (by with_reducible assumption))), Blk.new _ _ _⟩ ?_
    rintro W3 ⟨hE, kX⟩
    clear ekP fkP lkP ekQ fkQ lkQ
    replace hb := b_step hb hE; replace kP := kP.b hE; replace kQ := kQ.b hE; replace hX := hX.b hE; clear hE
    generalize W2.heap.size = gx at *
    refine (impl_FlyPathOk_c q B d _ (h'.mono hb)).mono ?_
    rintro e W4 ⟨rfl, hB⟩
    replace hb := b_step hb hB; replace kP := kP.b hB; replace kQ := kQ.b hB; replace kX := kX.b hB; replace hX := hX.b hB; clear hB
    by_cases hQ : LL.PathOk q
    · rw [decide_eq_true hQ]
      obtain ⟨ekP, fkP, lkP⟩ := kP.cells; obtain ⟨ekQ, fkQ, lkQ⟩ := kQ.cells
      go_wp2_with fail
      refine calls_name (fun W => Below W4.heap.size W4 W) (by repeat' (first | with_reducible exact Below.refl _ _ | with_reducible assumption | with_reducible refine b_alloc ?_ _ | with_reducible refine b_drewN ?_ _ | with_reducible refine b_drew ?_ | with_reducible refine b_set ?_ (by first | (simp only [World.size_setCell, World.size_alloc, World.size_drew]; omega) | (simp; done) | (simp; omega)) _ | with_reducible refine b_step ?_ (by with_reducible assumption))) ?_; intro W5 hE; clear ekP fkP lkP ekQ fkQ lkQ; replace hb := b_step hb hE; replace kP := kP.b hE; replace kQ := kQ.b hE; replace kX := kX.b hE; replace hX := hX.b hE; clear hE
      refine (impl_FlyShared_c p q A B c d _ (h.mono hb) (h'.mono hb)).mono ?_
      rintro e W6 ⟨rfl, hB⟩
      replace hb := b_step hb hB; replace kP := kP.b hB; replace kQ := kQ.b hB; replace kX := kX.b hB; replace hX := hX.b hB; clear hB
      by_cases hSh : st < (LL.shared p q : Int)
      · have hq : p.steps.length * 56 ≤ 140737488351232 := hroom
        obtain ⟨ekX, fkX, lkX⟩ := kX.cells
        go_wp2_with fail
        refine calls_name (fun W => Below W6.heap.size W6 W) (by repeat' (first | with_reducible exact Below.refl _ _ | with_reducible assumption | with_reducible refine b_alloc ?_ _ | with_reducible refine b_drewN ?_ _ | with_reducible refine b_drew ?_ | with_reducible refine b_set ?_ (by first | (simp only [World.size_setCell, World.size_alloc, World.size_drew]; omega) | (simp; done) | (simp; omega)) _ | with_reducible refine b_step ?_ (by with_reducible assumption))) ?_; intro W7 hE; clear ekX fkX lkX; replace hb := b_step hb hE; replace kP := kP.b hE; replace kQ := kQ.b hE; replace hX := hX.b hE; clear hE
        refine (impl_FlySpans_c (LL.snP p st now) A1 c1 _ (hX.rd_at' stepE)).mono ?_
        intro e W8 hM
        rw [LL.spansM_yes hF, decide_eq_true hF] at hM
        obtain ⟨As, cs, rfl, hSp, -, hB⟩ := hM.go2 spanE
        replace hb := b_step hb hB; replace kP := kP.b hB; replace kQ := kQ.b hB; clear hB
        clear hM kX hX
        obtain ⟨gs, rfl⟩ := hSp.someA (by simp [LL.spans, LL.tab_len])
        have hlt2 : 0 < (LL.spans (LL.snP p st now)).length := by simp [LL.spans, LL.tab_len]
        have hIff : LL.MayTurn p q st now ↔ (LL.CanRest q st (LL.lo (LL.snP p st now) 0) now ∧ LL.CanRest q st (LL.hi (LL.snP p st now) 0) now) := ⟨fun h9 => h9.2.2.2, fun h9 => ⟨hC, hQ, hSh, h9⟩⟩
        have HIff := Lib.hid hIff
        clear hIff
        generalize hlen : (LL.spans (LL.snP p st now)).length = ln at *
        have Hlen := Lib.hid hlen
        clear hlen
        go_wp2_with fail
        obtain ⟨ekP, fkP, lkP⟩ := kP.cells; obtain ⟨ekQ, fkQ, lkQ⟩ := kQ.cells
        have h2 := (hSp.rd_at' spanE).S2 0 (by omega)
        rw [LL.spans_at _ 0 (by omega)] at h2
        obtain ⟨e0, e1⟩ := h2
        have hgs := (hSp.row.lt _ rfl).2
        dsimp only at hgs
        obtain ⟨gc, gf, gl⟩ := bcell hb
        refine rel_tailf_b 12 [10] [(7, fun v W => ∃ A9 c9, v = .tuple #[.agg #[.int .i64 (LL.restM q st (LL.lo (LL.snP p st now) 0) now).q, .int .i64 (LL.restM q st (LL.lo (LL.snP p st now) 0) now).s, .slice A9 (LL.restM q st (LL.lo (LL.snP p st now) 0) now).steps.length c9, .int .i64 (LL.restM q st (LL.lo (LL.snP p st now) 0) now).fr, .int .i64 (LL.restM q st (LL.lo (LL.snP p st now) 0) now).by_], .bool (decide (LL.CanRest q st (LL.lo (LL.snP p st now) 0) now))]), (11, fun v w' => ∃ g, v = .pointer (some ⟨g, 0, none⟩) ∧ W8.heap.size ≤ g ∧ Blk w' g #[.int .i64 0, .int .i64 0, .slice none 0 0, .int .i64 0, .int .i64 0] 43)] (by kernel_rfl) (by kernel_rfl) (by intro d9 v9 c9 a9 w9 h9; cases d9 <;> exact h9) ?_
        simp only [List.take_succ_cons, List.take_zero, List.drop_succ_cons, List.drop_zero]
        iterate 7 ((apply rel_plain (hR := rfl) (hF := fun _ => trivial) (hg := rfl)); (focus ((intro w' hL'); (obtain ⟨hcS, hfS, hlS⟩ := bcell hL'); (try simp only [World.size_setCell, World.size_alloc, World.size_drew] at hcS hfS hlS); (go_simp); (try go_bits); (try (first | (rw [if_pos (by omega)]; done) | (rw [if_neg (by omega)]; done) | (rw [if_pos (by omega)]; go_simp) | (rw [if_neg (by omega)]; go_simp))); (first | with_reducible rfl | exact rfl | skip))); (simp only [Act.put, List.setIfInBounds_toArray, List.set_cons_zero, List.set_cons_succ]))
        ((apply rel_told (hR := rfl) (hg := rfl)); (focus ((intro w' hL' hD'); (obtain ⟨hcS, hfS, hlS⟩ := bcell hL'); (try simp only [World.size_setCell, World.size_alloc, World.size_drew] at hcS hfS hlS); (go_simp); (try go_bits); (try (first | (rw [if_pos (by omega)]; done) | (rw [if_neg (by omega)]; done) | (rw [if_pos (by omega)]; go_simp) | (rw [if_neg (by omega)]; go_simp))); ((go_at_call 43); (refine (impl_FlyRest_c q B d st _ now _ (h'.mono (b_step hb hL'))).mono ?_); (intro e w'' hM); (obtain ⟨A2, c2, e2, hO2, hg2, hB⟩ := hM.gop2); (refine ⟨_, e2, hB, ?_⟩); ((repeat (first | (refine Tell.hit rfl ?_) | (refine Tell.skip rfl ?_))); exact ⟨A2, c2, rfl⟩)))); (intro v' w0' hv'); (replace hv' := Tell.out hv' rfl); (obtain ⟨A9, c9, rfl⟩ := hv'); (simp only [Act.put, List.setIfInBounds_toArray, List.set_cons_zero, List.set_cons_succ]))
        iterate 3 ((apply rel_plain (hR := rfl) (hF := fun _ => trivial) (hg := rfl)); (focus ((intro w' hL'); (obtain ⟨hcS, hfS, hlS⟩ := bcell hL'); (try simp only [World.size_setCell, World.size_alloc, World.size_drew] at hcS hfS hlS); (go_simp); (try go_bits); (try (first | (rw [if_pos (by omega)]; done) | (rw [if_neg (by omega)]; done) | (rw [if_pos (by omega)]; go_simp) | (rw [if_neg (by omega)]; go_simp))); (first | with_reducible rfl | exact rfl | skip))); (simp only [Act.put, List.setIfInBounds_toArray, List.set_cons_zero, List.set_cons_succ]))
        ((apply rel_told (hR := rfl) (hg := rfl)); (focus ((intro w' hL' hD'); (obtain ⟨hcS, hfS, hlS⟩ := bcell hL'); (try simp only [World.size_setCell, World.size_alloc, World.size_drew] at hcS hfS hlS); (go_simp); (try go_bits); (try (first | (rw [if_pos (by omega)]; done) | (rw [if_neg (by omega)]; done) | (rw [if_pos (by omega)]; go_simp) | (rw [if_neg (by omega)]; go_simp))); (refine ⟨b_alloc (Below.refl _ _) _, ?_⟩; ((repeat (first | (refine Tell.hit rfl ?_) | (refine Tell.skip rfl ?_))); exact ⟨_, rfl, hL'.size, Blk.new _ _ _⟩)))); (intro v' w0' hv'); (replace hv' := Tell.out hv' rfl); (obtain ⟨g, rfl, hgw, -⟩ := hv'); (simp only [Act.put, List.setIfInBounds_toArray, List.set_cons_zero, List.set_cons_succ]))
        refine rel_nil ?_
        intro W9 hL2 hF2
        obtain ⟨w0, hl0, g', hg', -, kG⟩ := Known.out (hF2 11) rfl
        cases hg'
        have hgG := kG.b hl0
        have hgl := hgG.cells.2.2
        have hSl := fun k hk => (hSp.row.lt k hk).2
        have hbs := hb.size
        have kPl := kP.cells.2.2
        have kQl := kQ.cells.2.2
        clear ekP fkP lkP ekQ fkQ lkQ
        clear e0 e1 hgs gc gf gl hF2 hl0 kG
        replace hb := b_step hb hL2; replace kP := kP.b hL2; replace kQ := kQ.b hL2; replace hSp := hSp.b hL2; clear hL2
        obtain ⟨ehgG, fhgG, lhgG⟩ := hgG.cells
        go_wp2_with fail
        refine wp_name (fun W => Below w.heap.size w W ∧ Blk W (w.heap.size + 1) #[.int .i64 q.q, .int .i64 q.s, .slice B q.steps.length d, .int .i64 q.fr, .int .i64 q.by_] 43 ∧ Own spanC 2 16 60 W (.slice (some ⟨gs, 0, none⟩) ln cs) (LL.spans (LL.snP p st now))) ⟨(by repeat' (first | with_reducible exact Below.refl _ _ | with_reducible assumption | with_reducible refine b_alloc ?_ _ | with_reducible refine b_drewN ?_ _ | with_reducible refine b_drew ?_ | with_reducible refine b_set ?_ (by first | (simp only [World.size_setCell, World.size_alloc, World.size_drew]; omega) | (simp; done) | (simp; omega)) _ | with_reducible refine b_step ?_ (by with_reducible assumption))), ((((kQ.s (by simp only [ne_eq]; omega) _).s (by simp only [ne_eq]; omega) _).s (by simp only [ne_eq]; omega) _).s (by simp only [ne_eq]; omega) _).s (by simp only [ne_eq]; omega) _, ((((hSp.s _ (fun k hk => by have := hSl k hk; simp only; omega)).s _ (fun k hk => by have := hSl k hk; simp only; omega)).s _ (fun k hk => by have := hSl k hk; simp only; omega)).s _ (fun k hk => by have := hSl k hk; simp only; omega)).s _ (fun k hk => by have := hSl k hk; simp only; omega)⟩ ?_
        clear hb kP kQ hSp hSl hgw hgl kPl kQl
        clear ehgG fhgG lhgG
        clear hgG
        rintro W10 ⟨hb, kQ, hSp⟩
        obtain ⟨ekQ, fkQ, lkQ⟩ := kQ.cells
        have h2 := (hSp.rd_at' spanE).S2 0 (by omega)
        rw [LL.spans_at _ 0 (by omega)] at h2
        obtain ⟨e0, e1⟩ := h2
        have hgs := (hSp.row.lt _ rfl).2
        dsimp only at hgs
        obtain ⟨gc, gf, gl⟩ := bcell hb
        refine rel_tailf_b 12 [10] [(7, fun v W => ∃ A9 c9, v = .tuple #[.agg #[.int .i64 (LL.restM q st (LL.hi (LL.snP p st now) 0) now).q, .int .i64 (LL.restM q st (LL.hi (LL.snP p st now) 0) now).s, .slice A9 (LL.restM q st (LL.hi (LL.snP p st now) 0) now).steps.length c9, .int .i64 (LL.restM q st (LL.hi (LL.snP p st now) 0) now).fr, .int .i64 (LL.restM q st (LL.hi (LL.snP p st now) 0) now).by_], .bool (decide (LL.CanRest q st (LL.hi (LL.snP p st now) 0) now))]), (11, fun v w' => ∃ g, v = .pointer (some ⟨g, 0, none⟩) ∧ W10.heap.size ≤ g ∧ Blk w' g #[.int .i64 0, .int .i64 0, .slice none 0 0, .int .i64 0, .int .i64 0] 43)] (by kernel_rfl) (by kernel_rfl) (by intro d9 v9 c9 a9 w9 h9; cases d9 <;> exact h9) ?_
        simp only [List.take_succ_cons, List.take_zero, List.drop_succ_cons, List.drop_zero]
        iterate 7 ((apply rel_plain (hR := rfl) (hF := fun _ => trivial) (hg := rfl)); (focus ((intro w' hL'); (obtain ⟨hcS, hfS, hlS⟩ := bcell hL'); (try simp only [World.size_setCell, World.size_alloc, World.size_drew] at hcS hfS hlS); (go_simp); (try go_bits); (try (first | (rw [if_pos (by omega)]; done) | (rw [if_neg (by omega)]; done) | (rw [if_pos (by omega)]; go_simp) | (rw [if_neg (by omega)]; go_simp))); (first | with_reducible rfl | exact rfl | skip))); (simp only [Act.put, List.setIfInBounds_toArray, List.set_cons_zero, List.set_cons_succ]))
        ((apply rel_told (hR := rfl) (hg := rfl)); (focus ((intro w' hL' hD'); (obtain ⟨hcS, hfS, hlS⟩ := bcell hL'); (try simp only [World.size_setCell, World.size_alloc, World.size_drew] at hcS hfS hlS); (go_simp); (try go_bits); (try (first | (rw [if_pos (by omega)]; done) | (rw [if_neg (by omega)]; done) | (rw [if_pos (by omega)]; go_simp) | (rw [if_neg (by omega)]; go_simp))); ((go_at_call 43); (refine (impl_FlyRest_c q B d st _ now _ (h'.mono (b_step hb hL'))).mono ?_); (intro e w'' hM); (obtain ⟨A2, c2, e2, hO2, hg2, hB⟩ := hM.gop2); (refine ⟨_, e2, hB, ?_⟩); ((repeat (first | (refine Tell.hit rfl ?_) | (refine Tell.skip rfl ?_))); exact ⟨A2, c2, rfl⟩)))); (intro v' w0' hv'); (replace hv' := Tell.out hv' rfl); (obtain ⟨A9, c9, rfl⟩ := hv'); (simp only [Act.put, List.setIfInBounds_toArray, List.set_cons_zero, List.set_cons_succ]))
        iterate 3 ((apply rel_plain (hR := rfl) (hF := fun _ => trivial) (hg := rfl)); (focus ((intro w' hL'); (obtain ⟨hcS, hfS, hlS⟩ := bcell hL'); (try simp only [World.size_setCell, World.size_alloc, World.size_drew] at hcS hfS hlS); (go_simp); (try go_bits); (try (first | (rw [if_pos (by omega)]; done) | (rw [if_neg (by omega)]; done) | (rw [if_pos (by omega)]; go_simp) | (rw [if_neg (by omega)]; go_simp))); (first | with_reducible rfl | exact rfl | skip))); (simp only [Act.put, List.setIfInBounds_toArray, List.set_cons_zero, List.set_cons_succ]))
        ((apply rel_told (hR := rfl) (hg := rfl)); (focus ((intro w' hL' hD'); (obtain ⟨hcS, hfS, hlS⟩ := bcell hL'); (try simp only [World.size_setCell, World.size_alloc, World.size_drew] at hcS hfS hlS); (go_simp); (try go_bits); (try (first | (rw [if_pos (by omega)]; done) | (rw [if_neg (by omega)]; done) | (rw [if_pos (by omega)]; go_simp) | (rw [if_neg (by omega)]; go_simp))); (refine ⟨b_alloc (Below.refl _ _) _, ?_⟩; ((repeat (first | (refine Tell.hit rfl ?_) | (refine Tell.skip rfl ?_))); exact ⟨_, rfl, hL'.size, Blk.new _ _ _⟩)))); (intro v' w0' hv'); (replace hv' := Tell.out hv' rfl); (obtain ⟨g, rfl, hgw, -⟩ := hv'); (simp only [Act.put, List.setIfInBounds_toArray, List.set_cons_zero, List.set_cons_succ]))
        refine rel_nil ?_
        intro W11 hL2 hF2
        obtain ⟨w0, hl0, g', hg', -, kG⟩ := Known.out (hF2 11) rfl
        cases hg'
        have hgG := kG.b hl0
        have hgl := hgG.cells.2.2
        have hSl := fun k hk => (hSp.row.lt k hk).2
        have hbs := hb.size
        have kQl := kQ.cells.2.2
        clear ekQ fkQ lkQ
        clear e0 e1 hgs gc gf gl hF2 hl0 kG
        replace hb := b_step hb hL2; replace kQ := kQ.b hL2; replace hSp := hSp.b hL2; clear hL2
        obtain ⟨ehgG, fhgG, lhgG⟩ := hgG.cells
        go_wp2_with fail
        all_goals go_ret
        all_goals refine ⟨rb ?_, (by repeat' (first | with_reducible exact Below.refl _ _ | with_reducible assumption | with_reducible refine b_alloc ?_ _ | with_reducible refine b_drewN ?_ _ | with_reducible refine b_drew ?_ | with_reducible refine b_set ?_ (by first | (simp only [World.size_setCell, World.size_alloc, World.size_drew]; omega) | (simp; done) | (simp; omega)) _ | with_reducible refine b_step ?_ (by with_reducible assumption)))⟩
        all_goals (have h8 := HIff.out; clear HIff Hlen hSp kQ hb hgG; first | (rw [Bool.eq_iff_iff]; simp_all) | simp_all)
      · have hMT : ¬ LL.MayTurn p q st now := fun h9 => hSh h9.2.2.1
        go_wp2_with fail
        go_ret
        exact ⟨rd_ (iff_of_false hMT (by simp)), (by repeat' (first | with_reducible exact Below.refl _ _ | with_reducible assumption | with_reducible refine b_alloc ?_ _ | with_reducible refine b_drewN ?_ _ | with_reducible refine b_drew ?_ | with_reducible refine b_set ?_ (by first | (simp only [World.size_setCell, World.size_alloc, World.size_drew]; omega) | (simp; done) | (simp; omega)) _ | with_reducible refine b_step ?_ (by with_reducible assumption)))⟩
    · have hMT : ¬ LL.MayTurn p q st now := fun h9 => hQ h9.2.1
      rw [decide_eq_false hQ]
      go_wp2_with fail
      go_ret
      exact ⟨rd_ (iff_of_false hMT (by simp)), (by repeat' (first | with_reducible exact Below.refl _ _ | with_reducible assumption | with_reducible refine b_alloc ?_ _ | with_reducible refine b_drewN ?_ _ | with_reducible refine b_drew ?_ | with_reducible refine b_set ?_ (by first | (simp only [World.size_setCell, World.size_alloc, World.size_drew]; omega) | (simp; done) | (simp; omega)) _ | with_reducible refine b_step ?_ (by with_reducible assumption)))⟩
  · have hMT : ¬ LL.MayTurn p q st now := fun h9 => hC h9.1
    rw [LL.seenM_no hC, decide_eq_false hC] at hM
    obtain ⟨A1, c1, rfl, hX, -, hB⟩ := hM.gop2
    replace hb := b_step hb hB; replace kP := kP.b hB; replace kQ := kQ.b hB; clear hB
    clear hM
    obtain ⟨ekP, fkP, lkP⟩ := kP.cells; obtain ⟨ekQ, fkQ, lkQ⟩ := kQ.cells
    go_wp2_with fail
    go_ret
    exact ⟨rd_ (iff_of_false hMT (by simp)), (by repeat' (first | with_reducible exact Below.refl _ _ | with_reducible assumption | with_reducible refine b_alloc ?_ _ | with_reducible refine b_drewN ?_ _ | with_reducible refine b_drew ?_ | with_reducible refine b_set ?_ (by first | (simp only [World.size_setCell, World.size_alloc, World.size_drew]; omega) | (simp; done) | (simp; omega)) _ | with_reducible refine b_step ?_ (by with_reducible assumption)))⟩
set_option maxRecDepth 100000 in
set_option maxHeartbeats 4000000 in
theorem spec_FlyMayTurn_c (p q : LL.Path) (A B : Option Addr) (c d : Nat) (st now : Int) (w : World) (h : RdS w A p.steps.length c p.steps) (h' : RdS w B q.steps.length d q.steps) : Calls Try.prog 109 #[.agg #[.int .i64 p.q, .int .i64 p.s, .slice A p.steps.length c, .int .i64 p.fr, .int .i64 p.by_], .agg #[.int .i64 q.q, .int .i64 q.s, .slice B q.steps.length d, .int .i64 q.fr, .int .i64 q.by_], .int .i64 st, .int .i64 now] w fun e w' => e = .returned (.bool (decide (LL.MayTurn p q st now))) ∧ Below w.heap.size w w' := by
  have hroom := h.room
  have hroom' := h'.room
  go_enter Try.func109, Try.ntmps109
  go_wp2_with fail
  refine calls_name (fun W => Below w.heap.size w W ∧ Blk W w.heap.size #[.int .i64 p.q, .int .i64 p.s, .slice A p.steps.length c, .int .i64 p.fr, .int .i64 p.by_] 43 ∧ Blk W (w.heap.size + 1) #[.int .i64 q.q, .int .i64 q.s, .slice B q.steps.length d, .int .i64 q.fr, .int .i64 q.by_] 43) ⟨(by repeat' (first | with_reducible exact Below.refl _ _ | with_reducible assumption | with_reducible refine b_alloc ?_ _ | with_reducible refine b_drewN ?_ _ | with_reducible refine b_drew ?_ | with_reducible refine b_set ?_ (by first | (simp only [World.size_setCell, World.size_alloc, World.size_drew]; omega) | (simp; done) | (simp; omega)) _ | with_reducible refine b_step ?_ (by with_reducible assumption))), (by repeat' (first | with_reducible assumption | with_reducible exact Blk.new _ _ _ | with_reducible exact Blk.new' _ _ (by first | (simp only [World.size_alloc, World.size_setCell, World.size_drew]; done) | (simp only [World.size_alloc, World.size_setCell, World.size_drew]; omega) | omega) | with_reducible refine Blk.a ?_ _ | with_reducible refine Blk.d ?_ | with_reducible refine Blk.dN ?_ _ | with_reducible refine Blk.s ?_ (by simp only [ne_eq]; omega) _ | with_reducible refine Blk.b ?_ (by with_reducible assumption))), (by repeat' (first | with_reducible assumption | with_reducible exact Blk.new _ _ _ | with_reducible exact Blk.new' _ _ (by first | (simp only [World.size_alloc, World.size_setCell, World.size_drew]; done) | (simp only [World.size_alloc, World.size_setCell, World.size_drew]; omega) | omega) | with_reducible refine Blk.a ?_ _ | with_reducible refine Blk.d ?_ | with_reducible refine Blk.dN ?_ _ | with_reducible refine Blk.s ?_ (by simp only [ne_eq]; omega) _ | with_reducible refine Blk.b ?_ (by with_reducible assumption)))⟩ ?_
  rintro W1 ⟨hb, kP, kQ⟩
  refine (spec_FlySeen_c p A c st now _ (h.mono hb)).mono ?_
  intro e W2 hM
  by_cases hC : LL.CanSeen p st now
  · rw [LL.seenM_yes hC, decide_eq_true hC] at hM
    have hF := hC.flies
    obtain ⟨A1, c1, rfl, hX, -, hB⟩ := hM.gop2
    replace hb := b_step hb hB; replace kP := kP.b hB; replace kQ := kQ.b hB; clear hB
    clear hM
    obtain ⟨ekP, fkP, lkP⟩ := kP.cells; obtain ⟨ekQ, fkQ, lkQ⟩ := kQ.cells
    go_wp2_with fail
    refine calls_name (fun W => Below W2.heap.size W2 W ∧ Blk W W2.heap.size #[.int .i64 (LL.snP p st now).q, .int .i64 (LL.snP p st now).s, .slice A1 (LL.snP p st now).steps.length c1, .int .i64 (LL.snP p st now).fr, .int .i64 (LL.snP p st now).by_] 43) ⟨(by repeat' (first | with_reducible exact Below.refl _ _ | with_reducible assumption | with_reducible refine b_alloc ?_ _ | with_reducible refine b_drewN ?_ _ | with_reducible refine b_drew ?_ | with_reducible refine b_set ?_ (by first | (simp only [World.size_setCell, World.size_alloc, World.size_drew]; omega) | (simp; done) | (simp; omega)) _ | with_reducible refine b_step ?_ (by with_reducible assumption))), Blk.new _ _ _⟩ ?_
    rintro W3 ⟨hE, kX⟩
    clear ekP fkP lkP ekQ fkQ lkQ
    replace hb := b_step hb hE; replace kP := kP.b hE; replace kQ := kQ.b hE; replace hX := hX.b hE; clear hE
    generalize W2.heap.size = gx at *
    refine (spec_FlyPathOk_c q B d _ (h'.mono hb)).mono ?_
    rintro e W4 ⟨rfl, hB⟩
    replace hb := b_step hb hB; replace kP := kP.b hB; replace kQ := kQ.b hB; replace kX := kX.b hB; replace hX := hX.b hB; clear hB
    by_cases hQ : LL.PathOk q
    · rw [decide_eq_true hQ]
      obtain ⟨ekP, fkP, lkP⟩ := kP.cells; obtain ⟨ekQ, fkQ, lkQ⟩ := kQ.cells
      go_wp2_with fail
      refine calls_name (fun W => Below W4.heap.size W4 W) (by repeat' (first | with_reducible exact Below.refl _ _ | with_reducible assumption | with_reducible refine b_alloc ?_ _ | with_reducible refine b_drewN ?_ _ | with_reducible refine b_drew ?_ | with_reducible refine b_set ?_ (by first | (simp only [World.size_setCell, World.size_alloc, World.size_drew]; omega) | (simp; done) | (simp; omega)) _ | with_reducible refine b_step ?_ (by with_reducible assumption))) ?_; intro W5 hE; clear ekP fkP lkP ekQ fkQ lkQ; replace hb := b_step hb hE; replace kP := kP.b hE; replace kQ := kQ.b hE; replace kX := kX.b hE; replace hX := hX.b hE; clear hE
      refine (spec_FlyShared_c p q A B c d _ (h.mono hb) (h'.mono hb)).mono ?_
      rintro e W6 ⟨rfl, hB⟩
      replace hb := b_step hb hB; replace kP := kP.b hB; replace kQ := kQ.b hB; replace kX := kX.b hB; replace hX := hX.b hB; clear hB
      by_cases hSh : st < (LL.shared p q : Int)
      · have hq : p.steps.length * 56 ≤ 140737488351232 := hroom
        obtain ⟨ekX, fkX, lkX⟩ := kX.cells
        go_wp2_with fail
        refine calls_name (fun W => Below W6.heap.size W6 W) (by repeat' (first | with_reducible exact Below.refl _ _ | with_reducible assumption | with_reducible refine b_alloc ?_ _ | with_reducible refine b_drewN ?_ _ | with_reducible refine b_drew ?_ | with_reducible refine b_set ?_ (by first | (simp only [World.size_setCell, World.size_alloc, World.size_drew]; omega) | (simp; done) | (simp; omega)) _ | with_reducible refine b_step ?_ (by with_reducible assumption))) ?_; intro W7 hE; clear ekX fkX lkX; replace hb := b_step hb hE; replace kP := kP.b hE; replace kQ := kQ.b hE; replace hX := hX.b hE; clear hE
        refine (spec_l4Spans_c (LL.snP p st now) A1 c1 _ hF.1.win (hX.rd_at' stepE)).mono ?_
        intro e W8 hM
        rw [LL.spansR_yes hF.2, decide_eq_true hF.2] at hM
        obtain ⟨As, cs, rfl, hSp, -, hB⟩ := hM.go2 spanE
        replace hb := b_step hb hB; replace kP := kP.b hB; replace kQ := kQ.b hB; clear hB
        clear hM kX hX
        obtain ⟨gs, rfl⟩ := hSp.someA (by simp [LL.spans, LL.tab_len])
        have hlt2 : 0 < (LL.spans (LL.snP p st now)).length := by simp [LL.spans, LL.tab_len]
        have hIff : LL.MayTurn p q st now ↔ (LL.CanRest q st (LL.lo (LL.snP p st now) 0) now ∧ LL.CanRest q st (LL.hi (LL.snP p st now) 0) now) := ⟨fun h9 => h9.2.2.2, fun h9 => ⟨hC, hQ, hSh, h9⟩⟩
        have HIff := Lib.hid hIff
        clear hIff
        generalize hlen : (LL.spans (LL.snP p st now)).length = ln at *
        have Hlen := Lib.hid hlen
        clear hlen
        go_wp2_with fail
        obtain ⟨ekP, fkP, lkP⟩ := kP.cells; obtain ⟨ekQ, fkQ, lkQ⟩ := kQ.cells
        have h2 := (hSp.rd_at' spanE).S2 0 (by omega)
        rw [LL.spans_at _ 0 (by omega)] at h2
        obtain ⟨e0, e1⟩ := h2
        have hgs := (hSp.row.lt _ rfl).2
        dsimp only at hgs
        obtain ⟨gc, gf, gl⟩ := bcell hb
        refine rel_tailf_b 12 [10] [(7, fun v W => ∃ A9 c9, v = .tuple #[.agg #[.int .i64 (LL.restM q st (LL.lo (LL.snP p st now) 0) now).q, .int .i64 (LL.restM q st (LL.lo (LL.snP p st now) 0) now).s, .slice A9 (LL.restM q st (LL.lo (LL.snP p st now) 0) now).steps.length c9, .int .i64 (LL.restM q st (LL.lo (LL.snP p st now) 0) now).fr, .int .i64 (LL.restM q st (LL.lo (LL.snP p st now) 0) now).by_], .bool (decide (LL.CanRest q st (LL.lo (LL.snP p st now) 0) now))]), (11, fun v w' => ∃ g, v = .pointer (some ⟨g, 0, none⟩) ∧ W8.heap.size ≤ g ∧ Blk w' g #[.int .i64 0, .int .i64 0, .slice none 0 0, .int .i64 0, .int .i64 0] 43)] (by kernel_rfl) (by kernel_rfl) (by intro d9 v9 c9 a9 w9 h9; cases d9 <;> exact h9) ?_
        simp only [List.take_succ_cons, List.take_zero, List.drop_succ_cons, List.drop_zero]
        iterate 7 ((apply rel_plain (hR := rfl) (hF := fun _ => trivial) (hg := rfl)); (focus ((intro w' hL'); (obtain ⟨hcS, hfS, hlS⟩ := bcell hL'); (try simp only [World.size_setCell, World.size_alloc, World.size_drew] at hcS hfS hlS); (go_simp); (try go_bits); (try (first | (rw [if_pos (by omega)]; done) | (rw [if_neg (by omega)]; done) | (rw [if_pos (by omega)]; go_simp) | (rw [if_neg (by omega)]; go_simp))); (first | with_reducible rfl | exact rfl | skip))); (simp only [Act.put, List.setIfInBounds_toArray, List.set_cons_zero, List.set_cons_succ]))
        ((apply rel_told (hR := rfl) (hg := rfl)); (focus ((intro w' hL' hD'); (obtain ⟨hcS, hfS, hlS⟩ := bcell hL'); (try simp only [World.size_setCell, World.size_alloc, World.size_drew] at hcS hfS hlS); (go_simp); (try go_bits); (try (first | (rw [if_pos (by omega)]; done) | (rw [if_neg (by omega)]; done) | (rw [if_pos (by omega)]; go_simp) | (rw [if_neg (by omega)]; go_simp))); ((go_at_call 44); (refine (spec_FlyRest_c q B d st _ now _ (h'.mono (b_step hb hL'))).mono ?_); (intro e w'' hM); (obtain ⟨A2, c2, e2, hO2, hg2, hB⟩ := hM.gop2); (refine ⟨_, e2, hB, ?_⟩); ((repeat (first | (refine Tell.hit rfl ?_) | (refine Tell.skip rfl ?_))); exact ⟨A2, c2, rfl⟩)))); (intro v' w0' hv'); (replace hv' := Tell.out hv' rfl); (obtain ⟨A9, c9, rfl⟩ := hv'); (simp only [Act.put, List.setIfInBounds_toArray, List.set_cons_zero, List.set_cons_succ]))
        iterate 3 ((apply rel_plain (hR := rfl) (hF := fun _ => trivial) (hg := rfl)); (focus ((intro w' hL'); (obtain ⟨hcS, hfS, hlS⟩ := bcell hL'); (try simp only [World.size_setCell, World.size_alloc, World.size_drew] at hcS hfS hlS); (go_simp); (try go_bits); (try (first | (rw [if_pos (by omega)]; done) | (rw [if_neg (by omega)]; done) | (rw [if_pos (by omega)]; go_simp) | (rw [if_neg (by omega)]; go_simp))); (first | with_reducible rfl | exact rfl | skip))); (simp only [Act.put, List.setIfInBounds_toArray, List.set_cons_zero, List.set_cons_succ]))
        ((apply rel_told (hR := rfl) (hg := rfl)); (focus ((intro w' hL' hD'); (obtain ⟨hcS, hfS, hlS⟩ := bcell hL'); (try simp only [World.size_setCell, World.size_alloc, World.size_drew] at hcS hfS hlS); (go_simp); (try go_bits); (try (first | (rw [if_pos (by omega)]; done) | (rw [if_neg (by omega)]; done) | (rw [if_pos (by omega)]; go_simp) | (rw [if_neg (by omega)]; go_simp))); (refine ⟨b_alloc (Below.refl _ _) _, ?_⟩; ((repeat (first | (refine Tell.hit rfl ?_) | (refine Tell.skip rfl ?_))); exact ⟨_, rfl, hL'.size, Blk.new _ _ _⟩)))); (intro v' w0' hv'); (replace hv' := Tell.out hv' rfl); (obtain ⟨g, rfl, hgw, -⟩ := hv'); (simp only [Act.put, List.setIfInBounds_toArray, List.set_cons_zero, List.set_cons_succ]))
        refine rel_nil ?_
        intro W9 hL2 hF2
        obtain ⟨w0, hl0, g', hg', -, kG⟩ := Known.out (hF2 11) rfl
        cases hg'
        have hgG := kG.b hl0
        have hgl := hgG.cells.2.2
        have hSl := fun k hk => (hSp.row.lt k hk).2
        have hbs := hb.size
        have kPl := kP.cells.2.2
        have kQl := kQ.cells.2.2
        clear ekP fkP lkP ekQ fkQ lkQ
        clear e0 e1 hgs gc gf gl hF2 hl0 kG
        replace hb := b_step hb hL2; replace kP := kP.b hL2; replace kQ := kQ.b hL2; replace hSp := hSp.b hL2; clear hL2
        obtain ⟨ehgG, fhgG, lhgG⟩ := hgG.cells
        go_wp2_with fail
        refine wp_name (fun W => Below w.heap.size w W ∧ Blk W (w.heap.size + 1) #[.int .i64 q.q, .int .i64 q.s, .slice B q.steps.length d, .int .i64 q.fr, .int .i64 q.by_] 43 ∧ Own spanC 2 16 60 W (.slice (some ⟨gs, 0, none⟩) ln cs) (LL.spans (LL.snP p st now))) ⟨(by repeat' (first | with_reducible exact Below.refl _ _ | with_reducible assumption | with_reducible refine b_alloc ?_ _ | with_reducible refine b_drewN ?_ _ | with_reducible refine b_drew ?_ | with_reducible refine b_set ?_ (by first | (simp only [World.size_setCell, World.size_alloc, World.size_drew]; omega) | (simp; done) | (simp; omega)) _ | with_reducible refine b_step ?_ (by with_reducible assumption))), ((((kQ.s (by simp only [ne_eq]; omega) _).s (by simp only [ne_eq]; omega) _).s (by simp only [ne_eq]; omega) _).s (by simp only [ne_eq]; omega) _).s (by simp only [ne_eq]; omega) _, ((((hSp.s _ (fun k hk => by have := hSl k hk; simp only; omega)).s _ (fun k hk => by have := hSl k hk; simp only; omega)).s _ (fun k hk => by have := hSl k hk; simp only; omega)).s _ (fun k hk => by have := hSl k hk; simp only; omega)).s _ (fun k hk => by have := hSl k hk; simp only; omega)⟩ ?_
        clear hb kP kQ hSp hSl hgw hgl kPl kQl
        clear ehgG fhgG lhgG
        clear hgG
        rintro W10 ⟨hb, kQ, hSp⟩
        obtain ⟨ekQ, fkQ, lkQ⟩ := kQ.cells
        have h2 := (hSp.rd_at' spanE).S2 0 (by omega)
        rw [LL.spans_at _ 0 (by omega)] at h2
        obtain ⟨e0, e1⟩ := h2
        have hgs := (hSp.row.lt _ rfl).2
        dsimp only at hgs
        obtain ⟨gc, gf, gl⟩ := bcell hb
        refine rel_tailf_b 12 [10] [(7, fun v W => ∃ A9 c9, v = .tuple #[.agg #[.int .i64 (LL.restM q st (LL.hi (LL.snP p st now) 0) now).q, .int .i64 (LL.restM q st (LL.hi (LL.snP p st now) 0) now).s, .slice A9 (LL.restM q st (LL.hi (LL.snP p st now) 0) now).steps.length c9, .int .i64 (LL.restM q st (LL.hi (LL.snP p st now) 0) now).fr, .int .i64 (LL.restM q st (LL.hi (LL.snP p st now) 0) now).by_], .bool (decide (LL.CanRest q st (LL.hi (LL.snP p st now) 0) now))]), (11, fun v w' => ∃ g, v = .pointer (some ⟨g, 0, none⟩) ∧ W10.heap.size ≤ g ∧ Blk w' g #[.int .i64 0, .int .i64 0, .slice none 0 0, .int .i64 0, .int .i64 0] 43)] (by kernel_rfl) (by kernel_rfl) (by intro d9 v9 c9 a9 w9 h9; cases d9 <;> exact h9) ?_
        simp only [List.take_succ_cons, List.take_zero, List.drop_succ_cons, List.drop_zero]
        iterate 7 ((apply rel_plain (hR := rfl) (hF := fun _ => trivial) (hg := rfl)); (focus ((intro w' hL'); (obtain ⟨hcS, hfS, hlS⟩ := bcell hL'); (try simp only [World.size_setCell, World.size_alloc, World.size_drew] at hcS hfS hlS); (go_simp); (try go_bits); (try (first | (rw [if_pos (by omega)]; done) | (rw [if_neg (by omega)]; done) | (rw [if_pos (by omega)]; go_simp) | (rw [if_neg (by omega)]; go_simp))); (first | with_reducible rfl | exact rfl | skip))); (simp only [Act.put, List.setIfInBounds_toArray, List.set_cons_zero, List.set_cons_succ]))
        ((apply rel_told (hR := rfl) (hg := rfl)); (focus ((intro w' hL' hD'); (obtain ⟨hcS, hfS, hlS⟩ := bcell hL'); (try simp only [World.size_setCell, World.size_alloc, World.size_drew] at hcS hfS hlS); (go_simp); (try go_bits); (try (first | (rw [if_pos (by omega)]; done) | (rw [if_neg (by omega)]; done) | (rw [if_pos (by omega)]; go_simp) | (rw [if_neg (by omega)]; go_simp))); ((go_at_call 44); (refine (spec_FlyRest_c q B d st _ now _ (h'.mono (b_step hb hL'))).mono ?_); (intro e w'' hM); (obtain ⟨A2, c2, e2, hO2, hg2, hB⟩ := hM.gop2); (refine ⟨_, e2, hB, ?_⟩); ((repeat (first | (refine Tell.hit rfl ?_) | (refine Tell.skip rfl ?_))); exact ⟨A2, c2, rfl⟩)))); (intro v' w0' hv'); (replace hv' := Tell.out hv' rfl); (obtain ⟨A9, c9, rfl⟩ := hv'); (simp only [Act.put, List.setIfInBounds_toArray, List.set_cons_zero, List.set_cons_succ]))
        iterate 3 ((apply rel_plain (hR := rfl) (hF := fun _ => trivial) (hg := rfl)); (focus ((intro w' hL'); (obtain ⟨hcS, hfS, hlS⟩ := bcell hL'); (try simp only [World.size_setCell, World.size_alloc, World.size_drew] at hcS hfS hlS); (go_simp); (try go_bits); (try (first | (rw [if_pos (by omega)]; done) | (rw [if_neg (by omega)]; done) | (rw [if_pos (by omega)]; go_simp) | (rw [if_neg (by omega)]; go_simp))); (first | with_reducible rfl | exact rfl | skip))); (simp only [Act.put, List.setIfInBounds_toArray, List.set_cons_zero, List.set_cons_succ]))
        ((apply rel_told (hR := rfl) (hg := rfl)); (focus ((intro w' hL' hD'); (obtain ⟨hcS, hfS, hlS⟩ := bcell hL'); (try simp only [World.size_setCell, World.size_alloc, World.size_drew] at hcS hfS hlS); (go_simp); (try go_bits); (try (first | (rw [if_pos (by omega)]; done) | (rw [if_neg (by omega)]; done) | (rw [if_pos (by omega)]; go_simp) | (rw [if_neg (by omega)]; go_simp))); (refine ⟨b_alloc (Below.refl _ _) _, ?_⟩; ((repeat (first | (refine Tell.hit rfl ?_) | (refine Tell.skip rfl ?_))); exact ⟨_, rfl, hL'.size, Blk.new _ _ _⟩)))); (intro v' w0' hv'); (replace hv' := Tell.out hv' rfl); (obtain ⟨g, rfl, hgw, -⟩ := hv'); (simp only [Act.put, List.setIfInBounds_toArray, List.set_cons_zero, List.set_cons_succ]))
        refine rel_nil ?_
        intro W11 hL2 hF2
        obtain ⟨w0, hl0, g', hg', -, kG⟩ := Known.out (hF2 11) rfl
        cases hg'
        have hgG := kG.b hl0
        have hgl := hgG.cells.2.2
        have hSl := fun k hk => (hSp.row.lt k hk).2
        have hbs := hb.size
        have kQl := kQ.cells.2.2
        clear ekQ fkQ lkQ
        clear e0 e1 hgs gc gf gl hF2 hl0 kG
        replace hb := b_step hb hL2; replace kQ := kQ.b hL2; replace hSp := hSp.b hL2; clear hL2
        obtain ⟨ehgG, fhgG, lhgG⟩ := hgG.cells
        go_wp2_with fail
        all_goals go_ret
        all_goals refine ⟨rb ?_, (by repeat' (first | with_reducible exact Below.refl _ _ | with_reducible assumption | with_reducible refine b_alloc ?_ _ | with_reducible refine b_drewN ?_ _ | with_reducible refine b_drew ?_ | with_reducible refine b_set ?_ (by first | (simp only [World.size_setCell, World.size_alloc, World.size_drew]; omega) | (simp; done) | (simp; omega)) _ | with_reducible refine b_step ?_ (by with_reducible assumption)))⟩
        all_goals (have h8 := HIff.out; clear HIff Hlen hSp kQ hb hgG; first | (rw [Bool.eq_iff_iff]; simp_all) | simp_all)
      · have hMT : ¬ LL.MayTurn p q st now := fun h9 => hSh h9.2.2.1
        go_wp2_with fail
        go_ret
        exact ⟨rd_ (iff_of_false hMT (by simp)), (by repeat' (first | with_reducible exact Below.refl _ _ | with_reducible assumption | with_reducible refine b_alloc ?_ _ | with_reducible refine b_drewN ?_ _ | with_reducible refine b_drew ?_ | with_reducible refine b_set ?_ (by first | (simp only [World.size_setCell, World.size_alloc, World.size_drew]; omega) | (simp; done) | (simp; omega)) _ | with_reducible refine b_step ?_ (by with_reducible assumption)))⟩
    · have hMT : ¬ LL.MayTurn p q st now := fun h9 => hQ h9.2.1
      rw [decide_eq_false hQ]
      go_wp2_with fail
      go_ret
      exact ⟨rd_ (iff_of_false hMT (by simp)), (by repeat' (first | with_reducible exact Below.refl _ _ | with_reducible assumption | with_reducible refine b_alloc ?_ _ | with_reducible refine b_drewN ?_ _ | with_reducible refine b_drew ?_ | with_reducible refine b_set ?_ (by first | (simp only [World.size_setCell, World.size_alloc, World.size_drew]; omega) | (simp; done) | (simp; omega)) _ | with_reducible refine b_step ?_ (by with_reducible assumption)))⟩
  · have hMT : ¬ LL.MayTurn p q st now := fun h9 => hC h9.1
    rw [LL.seenM_no hC, decide_eq_false hC] at hM
    obtain ⟨A1, c1, rfl, hX, -, hB⟩ := hM.gop2
    replace hb := b_step hb hB; replace kP := kP.b hB; replace kQ := kQ.b hB; clear hB
    clear hM
    obtain ⟨ekP, fkP, lkP⟩ := kP.cells; obtain ⟨ekQ, fkQ, lkQ⟩ := kQ.cells
    go_wp2_with fail
    go_ret
    exact ⟨rd_ (iff_of_false hMT (by simp)), (by repeat' (first | with_reducible exact Below.refl _ _ | with_reducible assumption | with_reducible refine b_alloc ?_ _ | with_reducible refine b_drewN ?_ _ | with_reducible refine b_drew ?_ | with_reducible refine b_set ?_ (by first | (simp only [World.size_setCell, World.size_alloc, World.size_drew]; omega) | (simp; done) | (simp; omega)) _ | with_reducible refine b_step ?_ (by with_reducible assumption)))⟩
end Go.Proofs.Ytpeojnknfonmlaa
