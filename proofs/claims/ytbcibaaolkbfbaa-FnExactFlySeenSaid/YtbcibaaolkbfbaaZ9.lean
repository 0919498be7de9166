/- The exact laws that hand back memory, walked. -/
import Derived.Test.YtbcibaaolkbfbaaC9
import Derived.Test.YtbcibaaolkbfbaaC6
set_option linter.unusedVariables false
set_option linter.unusedSimpArgs false
namespace Go.Proofs.Ytbcibaaolkbfbaa
open Go.RowKit
attribute [local go_sem] w_lt_add w_le_of w_le_add max2_i min2_i
set_option maxRecDepth 100000 in
set_option maxHeartbeats 4000000 in
theorem FnExactFlyRest_c (p : LL.Path) (A : Option Addr) (c : Nat) (i : Int) (j : Int) (k : Int) (w : World) (h : RdS w A p.steps.length c p.steps) : Calls Try.prog 12 #[.agg #[.int .i64 p.q, .int .i64 p.s, .slice A p.steps.length c, .int .i64 p.fr, .int .i64 p.by_], .int .i64 i, .int .i64 j, .int .i64 k] w fun e w' => e = .returned (.bool true) ∧ Below w.heap.size w w' := by
  have hroom := h.room
  have hn : p.steps.length ≤ 140737488355328 := by omega
  go_enter Try.func12, Try.ntmps12
  go_wp2_with fail
  refine calls_name (fun W => Below w.heap.size w W ∧ Blk W w.heap.size #[.int .i64 p.q, .int .i64 p.s, .slice A p.steps.length c, .int .i64 p.fr, .int .i64 p.by_] 26) ⟨(by repeat' (first | with_reducible exact Below.refl _ _ | with_reducible assumption | with_reducible refine b_alloc ?_ _ | with_reducible refine b_drewN ?_ _ | with_reducible refine b_drew ?_ | with_reducible refine b_set ?_ (by first | (simp only [World.size_setCell, World.size_alloc, World.size_drew]; omega) | (simp; done) | (simp; omega)) _ | with_reducible refine b_step ?_ (by with_reducible assumption))), (by repeat' (first | with_reducible assumption | with_reducible exact Blk.new _ _ _ | with_reducible exact Blk.new' _ _ (by first | (simp only [World.size_alloc, World.size_setCell, World.size_drew]; done) | (simp only [World.size_alloc, World.size_setCell, World.size_drew]; omega) | omega) | with_reducible refine Blk.a ?_ _ | with_reducible refine Blk.d ?_ | with_reducible refine Blk.dN ?_ _ | with_reducible refine Blk.s ?_ (by simp only [ne_eq]; omega) _ | with_reducible refine Blk.b ?_ (by with_reducible assumption)))⟩ ?_
  rintro W1 ⟨hE, kP⟩
  have hb : Below w.heap.size w W1 := hE
  have zW1 := (hE).size
  clear hE
  have kPl := kP.cells.2.2
  refine (szFlyPath_c _ _ _ _ _ _ _ _ _ (by decide) (by decide) hn).mono ?_
  rintro e W2 ⟨rfl, hB⟩
  replace hb := b_step hb hB
  replace kP := kP.b hB
  have zW2 := (hB).size
  clear hB
  by_cases hs : LL.sz 1048576 p.steps.length < 0
  · go_wp2_with fail
    go_ret
    exact ⟨rfl, (by repeat' (first | with_reducible exact Below.refl _ _ | with_reducible assumption | with_reducible refine b_alloc ?_ _ | with_reducible refine b_drewN ?_ _ | with_reducible refine b_drew ?_ | with_reducible refine b_set ?_ (by first | (simp only [World.size_setCell, World.size_alloc, World.size_drew]; omega) | (simp; done) | (simp; omega)) _ | with_reducible refine b_step ?_ (by with_reducible assumption)))⟩
  have hs1 : decide (LL.sz 1048576 p.steps.length < 0) = false := by simpa using hs
  clear hs
  obtain ⟨ekP, fkP, lkP⟩ := kP.cells
  go_wp2_with fail
  refine calls_name (fun W => Below W2.heap.size W2 W) (by repeat' (first | with_reducible exact Below.refl _ _ | with_reducible assumption | with_reducible refine b_alloc ?_ _ | with_reducible refine b_drewN ?_ _ | with_reducible refine b_drew ?_ | with_reducible refine b_set ?_ (by first | (simp only [World.size_setCell, World.size_alloc, World.size_drew]; omega) | (simp; done) | (simp; omega)) _ | with_reducible refine b_step ?_ (by with_reducible assumption))) ?_
  intro W3 hE
  clear ekP fkP lkP
  replace hb := b_step hb hE
  replace kP := kP.b hE
  have zW3 := (hE).size
  clear hE
  refine (toFlyPath_c p A c _ (h.mono hb)).mono ?_
  intro e W4 hM
  obtain ⟨A1, c1, rfl, hO1, hO1g, hB⟩ := hM.gop
  replace hb := b_step hb hB
  replace kP := kP.b hB
  have zW4 := (hB).size
  clear hB
  have hO1l := fun k hk => (hO1.row.lt k hk).2
  obtain ⟨ekP, fkP, lkP⟩ := kP.cells
  go_wp2_with fail
  refine calls_name (fun W => Below W4.heap.size W4 W) (by repeat' (first | with_reducible exact Below.refl _ _ | with_reducible assumption | with_reducible refine b_alloc ?_ _ | with_reducible refine b_drewN ?_ _ | with_reducible refine b_drew ?_ | with_reducible refine b_set ?_ (by first | (simp only [World.size_setCell, World.size_alloc, World.size_drew]; omega) | (simp; done) | (simp; omega)) _ | with_reducible refine b_step ?_ (by with_reducible assumption))) ?_
  intro W5 hE
  clear ekP fkP lkP
  replace hb := b_step hb hE
  replace kP := kP.b hE
  replace hO1 := hO1.b hE
  have zW5 := (hE).size
  clear hE
  refine (spec_FlyRest_c p A1 c1 i j k _ (hO1.rd_at' stepE)).mono ?_
  intro e W6 hM
  obtain ⟨Aw, cw, rfl, hW, hWg, hB⟩ := hM.gop2
  replace hb := b_step hb hB
  replace kP := kP.b hB
  replace hO1 := hO1.b hB
  have zW6 := (hB).size
  clear hB
  have hWl := fun k hk => (hW.row.lt k hk).2
  obtain ⟨ekP, fkP, lkP⟩ := kP.cells
  go_wp2_with fail
  refine calls_name (fun W => Below W6.heap.size W6 W ∧ Blk W W6.heap.size #[.int .i64 (LL.restM p i j k).q, .int .i64 (LL.restM p i j k).s, .slice Aw (LL.restM p i j k).steps.length cw, .int .i64 (LL.restM p i j k).fr, .int .i64 (LL.restM p i j k).by_] 33) ⟨(by repeat' (first | with_reducible exact Below.refl _ _ | with_reducible assumption | with_reducible refine b_alloc ?_ _ | with_reducible refine b_drewN ?_ _ | with_reducible refine b_drew ?_ | with_reducible refine b_set ?_ (by first | (simp only [World.size_setCell, World.size_alloc, World.size_drew]; omega) | (simp; done) | (simp; omega)) _ | with_reducible refine b_step ?_ (by with_reducible assumption))), Blk.new _ _ _⟩ ?_
  rintro W7 ⟨hE, kW⟩
  clear ekP fkP lkP
  replace hb := b_step hb hE
  replace kP := kP.b hE
  replace hO1 := hO1.b hE
  replace hW := hW.b hE
  have zW7 := (hE).size
  clear hE
  have kWl := kW.cells.2.2
  refine (toFlyPath_c p A c _ (h.mono hb)).mono ?_
  intro e W8 hM
  obtain ⟨Ax, cx, rfl, hX, hXg, hB⟩ := hM.gop
  replace hb := b_step hb hB
  replace kP := kP.b hB
  replace hO1 := hO1.b hB
  replace hW := hW.b hB
  replace kW := kW.b hB
  have zW8 := (hB).size
  clear hB
  have hXl := fun k hk => (hX.row.lt k hk).2
  obtain ⟨ekP, fkP, lkP⟩ := kP.cells
  obtain ⟨ekW, fkW, lkW⟩ := kW.cells
  go_wp2_with fail
  refine calls_name (fun W => Below W8.heap.size W8 W ∧ Blk W W8.heap.size #[.int .i64 p.q, .int .i64 p.s, .slice Ax p.steps.length cx, .int .i64 p.fr, .int .i64 p.by_] 33) ⟨(by repeat' (first | with_reducible exact Below.refl _ _ | with_reducible assumption | with_reducible refine b_alloc ?_ _ | with_reducible refine b_drewN ?_ _ | with_reducible refine b_drew ?_ | with_reducible refine b_set ?_ (by first | (simp only [World.size_setCell, World.size_alloc, World.size_drew]; omega) | (simp; done) | (simp; omega)) _ | with_reducible refine b_step ?_ (by with_reducible assumption))), Blk.new _ _ _⟩ ?_
  rintro W9 ⟨hE, kX⟩
  clear ekP fkP lkP ekW fkW lkW
  replace hb := b_step hb hE
  replace kP := kP.b hE
  replace hO1 := hO1.b hE
  replace hW := hW.b hE
  replace kW := kW.b hE
  replace hX := hX.b hE
  have zW9 := (hE).size
  clear hE
  have kXl := kX.cells.2.2
  refine (impl_FlyRest_c p Ax cx i j k _ (hX.rd_at' stepE)).mono ?_
  intro e W10 hM
  obtain ⟨Ag, cg, rfl, hG, hGg, hB⟩ := hM.gop2
  replace hb := b_step hb hB
  replace kP := kP.b hB
  replace hO1 := hO1.b hB
  replace hW := hW.b hB
  replace kW := kW.b hB
  replace hX := hX.b hB
  replace kX := kX.b hB
  have zW10 := (hB).size
  clear hB
  have hGl := fun k hk => (hG.row.lt k hk).2
  obtain ⟨ekP, fkP, lkP⟩ := kP.cells
  obtain ⟨ekW, fkW, lkW⟩ := kW.cells
  obtain ⟨ekX, fkX, lkX⟩ := kX.cells
  go_wp2_with fail
  refine calls_name (fun W => Below W10.heap.size W10 W ∧ Blk W W10.heap.size #[.int .i64 (LL.restM p i j k).q, .int .i64 (LL.restM p i j k).s, .slice Ag (LL.restM p i j k).steps.length cg, .int .i64 (LL.restM p i j k).fr, .int .i64 (LL.restM p i j k).by_] 33) ⟨(by repeat' (first | with_reducible exact Below.refl _ _ | with_reducible assumption | with_reducible refine b_alloc ?_ _ | with_reducible refine b_drewN ?_ _ | with_reducible refine b_drew ?_ | with_reducible refine b_set ?_ (by first | (simp only [World.size_setCell, World.size_alloc, World.size_drew]; omega) | (simp; done) | (simp; omega)) _ | with_reducible refine b_step ?_ (by with_reducible assumption))), Blk.new _ _ _⟩ ?_
  rintro W11 ⟨hE, kG⟩
  clear ekP fkP lkP ekW fkW lkW ekX fkX lkX
  replace hb := b_step hb hE
  replace kP := kP.b hE
  replace hO1 := hO1.b hE
  replace hW := hW.b hE
  replace kW := kW.b hE
  replace hX := hX.b hE
  replace kX := kX.b hE
  replace hG := hG.b hE
  have zW11 := (hE).size
  clear hE
  have kGl := kG.cells.2.2
  refine (eqFlyPath_c (LL.restM p i j k) _ _ _ _ _ (hG.rd_at' stepE) (hW.rd_at' stepE)).mono ?_
  rintro e W12 ⟨rfl, hB⟩
  replace hb := b_step hb hB
  replace kP := kP.b hB
  replace hO1 := hO1.b hB
  replace hW := hW.b hB
  replace kW := kW.b hB
  replace hX := hX.b hB
  replace kX := kX.b hB
  replace hG := hG.b hB
  replace kG := kG.b hB
  have zW12 := (hB).size
  clear hB
  obtain ⟨ekP, fkP, lkP⟩ := kP.cells
  obtain ⟨ekW, fkW, lkW⟩ := kW.cells
  obtain ⟨ekX, fkX, lkX⟩ := kX.cells
  obtain ⟨ekG, fkG, lkG⟩ := kG.cells
  go_wp2_with fail
  refine wp_name (fun W => Below W12.heap.size W12 W) (by repeat' (first | with_reducible exact Below.refl _ _ | with_reducible assumption | with_reducible refine b_alloc ?_ _ | with_reducible refine b_drewN ?_ _ | with_reducible refine b_drew ?_ | with_reducible refine b_set ?_ (by first | (simp only [World.size_setCell, World.size_alloc, World.size_drew]; omega) | (simp; done) | (simp; omega)) _ | with_reducible refine b_step ?_ (by with_reducible assumption))) ?_
  intro W13 hE
  clear ekP fkP lkP ekW fkW lkW ekX fkX lkX ekG fkG lkG
  replace hb := b_step hb hE
  replace kP := kP.b hE
  replace hO1 := hO1.b hE
  replace hW := hW.b hE
  replace kW := kW.b hE
  replace hX := hX.b hE
  replace kX := kX.b hE
  replace hG := hG.b hE
  replace kG := kG.b hE
  have zW13 := (hE).size
  clear hE
  obtain ⟨ekP, fkP, lkP⟩ := kP.cells
  obtain ⟨ekW, fkW, lkW⟩ := kW.cells
  obtain ⟨ekX, fkX, lkX⟩ := kX.cells
  obtain ⟨ekG, fkG, lkG⟩ := kG.cells
  refine rel_b [(2, fun v W => ∃ A9 c9, v = .agg #[.int .i64 p.q, .int .i64 p.s, .slice A9 p.steps.length c9, .int .i64 p.fr, .int .i64 p.by_] ∧ Own stepC 7 56 79 W (.slice A9 p.steps.length c9) p.steps), (3, fun v _ => v = .bool true)] (by kernel_rfl) (by kernel_rfl) ?_
  ((apply rel_plain (hR := rfl) (hF := fun _ => trivial) (hg := rfl)); (focus ((intro w' hL'); (obtain ⟨hcS, hfS, hlS⟩ := bcell hL'); (try simp only [World.size_setCell, World.size_alloc, World.size_drew] at hcS hfS hlS); (go_simp); (try go_bits); (try (first | (rw [if_pos (by omega)]; done) | (rw [if_neg (by omega)]; done) | (rw [if_pos (by omega)]; go_simp) | (rw [if_neg (by omega)]; go_simp))); (first | with_reducible rfl | exact rfl | skip))); (simp only [Act.put, List.setIfInBounds_toArray, List.set_cons_zero, List.set_cons_succ]))
  ((apply rel_plain (hR := rfl) (hF := fun _ => trivial) (hg := rfl)); (focus ((intro w' hL'); (obtain ⟨hcS, hfS, hlS⟩ := bcell hL'); (try simp only [World.size_setCell, World.size_alloc, World.size_drew] at hcS hfS hlS); (go_simp); (try go_bits); (try (first | (rw [if_pos (by omega)]; done) | (rw [if_neg (by omega)]; done) | (rw [if_pos (by omega)]; go_simp) | (rw [if_neg (by omega)]; go_simp))); (first | with_reducible rfl | exact rfl | skip))); (simp only [Act.put, List.setIfInBounds_toArray, List.set_cons_zero, List.set_cons_succ]))
  ((apply rel_told (hR := rfl) (hg := rfl)); (focus ((intro w' hL' hD'); (obtain ⟨hcS, hfS, hlS⟩ := bcell hL'); (try simp only [World.size_setCell, World.size_alloc, World.size_drew] at hcS hfS hlS); (go_simp); (try go_bits); (try (first | (rw [if_pos (by omega)]; done) | (rw [if_neg (by omega)]; done) | (rw [if_pos (by omega)]; go_simp) | (rw [if_neg (by omega)]; go_simp))); ((go_at_call 17); (refine (toFlyPath_c p A c _ (h.mono (b_step hb hL'))).mono ?_); (intro e w'' hM); (obtain ⟨A2, c2, rfl, hO2, -, hB⟩ := hM.gop); (refine ⟨_, rfl, hB, ?_⟩); ((repeat (first | (refine Tell.hit rfl ?_) | (refine Tell.skip rfl ?_))); exact ⟨A2, c2, rfl, hO2⟩)))); (intro v' w0' hv'); (replace hv' := Tell.out hv' rfl); (obtain ⟨A2, c2, rfl, -⟩ := hv'); (simp only [Act.put, List.setIfInBounds_toArray, List.set_cons_zero, List.set_cons_succ]))
  ((apply rel_told (hR := rfl) (hg := rfl)); (focus ((intro w' hL' hD'); (obtain ⟨hcS, hfS, hlS⟩ := bcell hL'); (try simp only [World.size_setCell, World.size_alloc, World.size_drew] at hcS hfS hlS); (go_simp); (try go_bits); (try (first | (rw [if_pos (by omega)]; done) | (rw [if_neg (by omega)]; done) | (rw [if_pos (by omega)]; go_simp) | (rw [if_neg (by omega)]; go_simp))); ((obtain ⟨w8, hl8, A8, c8, e8, hO8⟩ := Known.out (hD' ⟨2, .data⟩ (by simp) rfl) rfl); (injection e8 with e8; injection e8 with e8; injection e8 with e8 e9; injection e9 with e9 e10; injection e10 with e10 e11; injection e10 with e10 e12 e13; subst e10 e13); (replace hO8 := hO8.b hl8); ((go_at_call 20); (refine (eqFlyPath_c p _ _ _ _ _ ((hX.b hL').rd_at' stepE) (hO8.rd_at' stepE)).mono ?_); (rintro e w'' ⟨rfl, hb''⟩); (refine ⟨_, rfl, ?_, ?_⟩); (focus (first | exact hb'' | (subst hb''; exact Le.refl _))); ((repeat (first | (refine Tell.hit rfl ?_) | (refine Tell.skip rfl ?_))); exact rfl))))); (intro v' w0' hv'); (replace hv' := Tell.out hv' rfl); (obtain rfl := hv'); (simp only [Act.put, List.setIfInBounds_toArray, List.set_cons_zero, List.set_cons_succ]))
  ((apply rel_plain (hR := rfl) (hF := fun _ => trivial) (hg := rfl)); (focus ((intro w' hL'); (obtain ⟨hcS, hfS, hlS⟩ := bcell hL'); (try simp only [World.size_setCell, World.size_alloc, World.size_drew] at hcS hfS hlS); (go_simp); (try go_bits); (try (first | (rw [if_pos (by omega)]; done) | (rw [if_neg (by omega)]; done) | (rw [if_pos (by omega)]; go_simp) | (rw [if_neg (by omega)]; go_simp))); (first | with_reducible rfl | exact rfl | skip))); (simp only [Act.put, List.setIfInBounds_toArray, List.set_cons_zero, List.set_cons_succ]))
  refine rel_nil ?_
  intro W14 hE hF9
  clear hF9
  clear ekP fkP lkP ekW fkW lkW ekX fkX lkX ekG fkG lkG
  replace hb := b_step hb hE
  replace kP := kP.b hE
  replace hO1 := hO1.b hE
  replace hW := hW.b hE
  replace kW := kW.b hE
  replace hX := hX.b hE
  replace kX := kX.b hE
  replace hG := hG.b hE
  replace kG := kG.b hE
  have zW14 := (hE).size
  clear hE
  obtain ⟨ekP, fkP, lkP⟩ := kP.cells
  obtain ⟨ekW, fkW, lkW⟩ := kW.cells
  obtain ⟨ekX, fkX, lkX⟩ := kX.cells
  obtain ⟨ekG, fkG, lkG⟩ := kG.cells
  go_wp2_with fail
  refine calls_name (fun W => Below W14.heap.size W14 W) (by repeat' (first | with_reducible exact Below.refl _ _ | with_reducible assumption | with_reducible refine b_alloc ?_ _ | with_reducible refine b_drewN ?_ _ | with_reducible refine b_drew ?_ | with_reducible refine b_set ?_ (by first | (simp only [World.size_setCell, World.size_alloc, World.size_drew]; omega) | (simp; done) | (simp; omega)) _ | with_reducible refine b_step ?_ (by with_reducible assumption))) ?_
  intro W15 hE
  clear ekP fkP lkP ekW fkW lkW ekX fkX lkX ekG fkG lkG
  replace hb := b_step hb hE
  replace kP := kP.b hE
  replace hO1 := hO1.b hE
  replace hW := hW.b hE
  replace kW := kW.b hE
  replace hX := hX.b hE
  replace kX := kX.b hE
  replace hG := hG.b hE
  replace kG := kG.b hE
  have zW15 := (hE).size
  clear hE
  refine (markFlyPath_c p Ax cx 1 (by decide) (by decide) _ hX).mono ?_
  rintro e W16 ⟨rfl, hX', hg⟩
  replace kP := kP.grown hg (fun e9 => by have h8 := hXl _ e9; have h9 := hXg _ e9; have h7 := kPl; omega)
  replace hO1 := hO1.grown hg (own_ne hO1l hXg (by omega))
  replace hW := hW.grown hg (own_ne hWl hXg (by omega))
  replace kW := kW.grown hg (fun e9 => by have h8 := hXl _ e9; have h9 := hXg _ e9; have h7 := kWl; omega)
  replace kX := kX.grown hg (fun e9 => by have h8 := hXl _ e9; have h9 := hXg _ e9; have h7 := kXl; omega)
  replace hG := hG.grown hg (own_ne' hGg hXl (by omega))
  replace kG := kG.grown hg (fun e9 => by have h8 := hXl _ e9; have h9 := hXg _ e9; have h7 := kGl; omega)
  replace hb := b_grown' hb hg hb.size (fun k hk => by have := hXg k hk; omega)
  have zW16 := hg.size
  clear hX hg
  obtain ⟨ekP, fkP, lkP⟩ := kP.cells
  obtain ⟨ekW, fkW, lkW⟩ := kW.cells
  obtain ⟨ekX, fkX, lkX⟩ := kX.cells
  obtain ⟨ekG, fkG, lkG⟩ := kG.cells
  go_wp2_with fail
  refine calls_name (fun W => Below W16.heap.size W16 W) (by repeat' (first | with_reducible exact Below.refl _ _ | with_reducible assumption | with_reducible refine b_alloc ?_ _ | with_reducible refine b_drewN ?_ _ | with_reducible refine b_drew ?_ | with_reducible refine b_set ?_ (by first | (simp only [World.size_setCell, World.size_alloc, World.size_drew]; omega) | (simp; done) | (simp; omega)) _ | with_reducible refine b_step ?_ (by with_reducible assumption))) ?_
  intro W17 hE
  clear ekP fkP lkP ekW fkW lkW ekX fkX lkX ekG fkG lkG
  replace hb := b_step hb hE
  replace kP := kP.b hE
  replace hO1 := hO1.b hE
  replace hW := hW.b hE
  replace kW := kW.b hE
  replace kX := kX.b hE
  replace hG := hG.b hE
  replace kG := kG.b hE
  have zW17 := (hE).size
  clear hE
  refine (eqFlyPath_c (LL.restM p i j k) _ _ _ _ _ (hG.rd_at' stepE) (hW.rd_at' stepE)).mono ?_
  rintro e W18 ⟨rfl, hB⟩
  replace hb := b_step hb hB
  replace kP := kP.b hB
  replace hO1 := hO1.b hB
  replace hW := hW.b hB
  replace kW := kW.b hB
  replace kX := kX.b hB
  replace hG := hG.b hB
  replace kG := kG.b hB
  have zW18 := (hB).size
  clear hB
  obtain ⟨ekP, fkP, lkP⟩ := kP.cells
  obtain ⟨ekW, fkW, lkW⟩ := kW.cells
  obtain ⟨ekX, fkX, lkX⟩ := kX.cells
  obtain ⟨ekG, fkG, lkG⟩ := kG.cells
  go_wp2_with fail
  refine calls_name (fun W => Below W18.heap.size W18 W) (by repeat' (first | with_reducible exact Below.refl _ _ | with_reducible assumption | with_reducible refine b_alloc ?_ _ | with_reducible refine b_drewN ?_ _ | with_reducible refine b_drew ?_ | with_reducible refine b_set ?_ (by first | (simp only [World.size_setCell, World.size_alloc, World.size_drew]; omega) | (simp; done) | (simp; omega)) _ | with_reducible refine b_step ?_ (by with_reducible assumption))) ?_
  intro W19 hE
  clear ekP fkP lkP ekW fkW lkW ekX fkX lkX ekG fkG lkG
  replace hb := b_step hb hE
  replace kP := kP.b hE
  replace hO1 := hO1.b hE
  replace hW := hW.b hE
  replace kW := kW.b hE
  replace kX := kX.b hE
  replace hG := hG.b hE
  replace kG := kG.b hE
  have zW19 := (hE).size
  clear hE
  refine (markFlyPath_c (LL.restM p i j k) Ag cg 1 (by decide) (by decide) _ hG).mono ?_
  rintro e W20 ⟨rfl, hG', hg⟩
  replace kP := kP.grown hg (fun e9 => by have h8 := hGl _ e9; have h9 := hGg _ e9; have h7 := kPl; omega)
  replace hO1 := hO1.grown hg (own_ne hO1l hGg (by omega))
  replace hW := hW.grown hg (own_ne hWl hGg (by omega))
  replace kW := kW.grown hg (fun e9 => by have h8 := hGl _ e9; have h9 := hGg _ e9; have h7 := kWl; omega)
  replace kX := kX.grown hg (fun e9 => by have h8 := hGl _ e9; have h9 := hGg _ e9; have h7 := kXl; omega)
  replace kG := kG.grown hg (fun e9 => by have h8 := hGl _ e9; have h9 := hGg _ e9; have h7 := kGl; omega)
  replace hb := b_grown' hb hg hb.size (fun k hk => by have := hGg k hk; omega)
  have zW20 := hg.size
  clear hG hg
  obtain ⟨ekP, fkP, lkP⟩ := kP.cells
  obtain ⟨ekW, fkW, lkW⟩ := kW.cells
  obtain ⟨ekX, fkX, lkX⟩ := kX.cells
  obtain ⟨ekG, fkG, lkG⟩ := kG.cells
  go_wp2_with fail
  refine calls_name (fun W => Below W20.heap.size W20 W) (by repeat' (first | with_reducible exact Below.refl _ _ | with_reducible assumption | with_reducible refine b_alloc ?_ _ | with_reducible refine b_drewN ?_ _ | with_reducible refine b_drew ?_ | with_reducible refine b_set ?_ (by first | (simp only [World.size_setCell, World.size_alloc, World.size_drew]; omega) | (simp; done) | (simp; omega)) _ | with_reducible refine b_step ?_ (by with_reducible assumption))) ?_
  intro W21 hE
  clear ekP fkP lkP ekW fkW lkW ekX fkX lkX ekG fkG lkG
  replace hb := b_step hb hE
  replace kP := kP.b hE
  replace hO1 := hO1.b hE
  replace hW := hW.b hE
  replace kW := kW.b hE
  replace kX := kX.b hE
  replace kG := kG.b hE
  replace hG' := hG'.b hE
  have zW21 := (hE).size
  clear hE
  refine (heldFlyPath_c (LL.restM p i j k) Ag cg 1 (by decide) (by decide) _ (hG'.rd_at' stepE)).mono ?_
  rintro e W22 ⟨rfl, hB⟩
  replace hb := b_step hb hB
  replace kP := kP.b hB
  replace hO1 := hO1.b hB
  replace hW := hW.b hB
  replace kW := kW.b hB
  replace kX := kX.b hB
  replace kG := kG.b hB
  replace hG' := hG'.b hB
  have zW22 := (hB).size
  clear hB
  obtain ⟨ekP, fkP, lkP⟩ := kP.cells
  obtain ⟨ekW, fkW, lkW⟩ := kW.cells
  obtain ⟨ekX, fkX, lkX⟩ := kX.cells
  obtain ⟨ekG, fkG, lkG⟩ := kG.cells
  go_wp2_with fail
  refine calls_name (fun W => Below W22.heap.size W22 W) (by repeat' (first | with_reducible exact Below.refl _ _ | with_reducible assumption | with_reducible refine b_alloc ?_ _ | with_reducible refine b_drewN ?_ _ | with_reducible refine b_drew ?_ | with_reducible refine b_set ?_ (by first | (simp only [World.size_setCell, World.size_alloc, World.size_drew]; omega) | (simp; done) | (simp; omega)) _ | with_reducible refine b_step ?_ (by with_reducible assumption))) ?_
  intro W23 hE
  clear ekP fkP lkP ekW fkW lkW ekX fkX lkX ekG fkG lkG
  replace hb := b_step hb hE
  replace kP := kP.b hE
  replace hO1 := hO1.b hE
  replace hW := hW.b hE
  replace kW := kW.b hE
  replace kX := kX.b hE
  replace kG := kG.b hE
  replace hG' := hG'.b hE
  have zW23 := (hE).size
  clear hE
  refine (toFlyPath_c p A c _ (h.mono hb)).mono ?_
  intro e W24 hM
  obtain ⟨A3, c3, rfl, hO3, hO3g, hB⟩ := hM.gop
  replace hb := b_step hb hB
  replace kP := kP.b hB
  replace hO1 := hO1.b hB
  replace hW := hW.b hB
  replace kW := kW.b hB
  replace kX := kX.b hB
  replace kG := kG.b hB
  replace hG' := hG'.b hB
  have zW24 := (hB).size
  clear hB
  have hO3l := fun k hk => (hO3.row.lt k hk).2
  obtain ⟨ekP, fkP, lkP⟩ := kP.cells
  obtain ⟨ekW, fkW, lkW⟩ := kW.cells
  obtain ⟨ekX, fkX, lkX⟩ := kX.cells
  obtain ⟨ekG, fkG, lkG⟩ := kG.cells
  go_wp2_with fail
  refine calls_name (fun W => Below W24.heap.size W24 W) (by repeat' (first | with_reducible exact Below.refl _ _ | with_reducible assumption | with_reducible refine b_alloc ?_ _ | with_reducible refine b_drewN ?_ _ | with_reducible refine b_drew ?_ | with_reducible refine b_set ?_ (by first | (simp only [World.size_setCell, World.size_alloc, World.size_drew]; omega) | (simp; done) | (simp; omega)) _ | with_reducible refine b_step ?_ (by with_reducible assumption))) ?_
  intro W25 hE
  clear ekP fkP lkP ekW fkW lkW ekX fkX lkX ekG fkG lkG
  replace hb := b_step hb hE
  replace kP := kP.b hE
  replace hO1 := hO1.b hE
  replace hW := hW.b hE
  replace kW := kW.b hE
  replace kX := kX.b hE
  replace kG := kG.b hE
  replace hG' := hG'.b hE
  replace hO3 := hO3.b hE
  have zW25 := (hE).size
  clear hE
  refine (impl_FlyRest_c p A3 c3 i j k _ (hO3.rd_at' stepE)).mono ?_
  intro e W26 hM
  obtain ⟨Ah, ch, rfl, hH, hHg, hB⟩ := hM.gop2
  replace hb := b_step hb hB
  replace kP := kP.b hB
  replace hO1 := hO1.b hB
  replace hW := hW.b hB
  replace kW := kW.b hB
  replace kX := kX.b hB
  replace kG := kG.b hB
  replace hG' := hG'.b hB
  replace hO3 := hO3.b hB
  have zW26 := (hB).size
  clear hB
  have hHl := fun k hk => (hH.row.lt k hk).2
  obtain ⟨ekP, fkP, lkP⟩ := kP.cells
  obtain ⟨ekW, fkW, lkW⟩ := kW.cells
  obtain ⟨ekX, fkX, lkX⟩ := kX.cells
  obtain ⟨ekG, fkG, lkG⟩ := kG.cells
  go_wp2_with fail
  refine calls_name (fun W => Below W26.heap.size W26 W ∧ Blk W W26.heap.size #[.int .i64 (LL.restM p i j k).q, .int .i64 (LL.restM p i j k).s, .slice Ah (LL.restM p i j k).steps.length ch, .int .i64 (LL.restM p i j k).fr, .int .i64 (LL.restM p i j k).by_] 33) ⟨(by repeat' (first | with_reducible exact Below.refl _ _ | with_reducible assumption | with_reducible refine b_alloc ?_ _ | with_reducible refine b_drewN ?_ _ | with_reducible refine b_drew ?_ | with_reducible refine b_set ?_ (by first | (simp only [World.size_setCell, World.size_alloc, World.size_drew]; omega) | (simp; done) | (simp; omega)) _ | with_reducible refine b_step ?_ (by with_reducible assumption))), Blk.new _ _ _⟩ ?_
  rintro W27 ⟨hE, kH⟩
  clear ekP fkP lkP ekW fkW lkW ekX fkX lkX ekG fkG lkG
  replace hb := b_step hb hE
  replace kP := kP.b hE
  replace hO1 := hO1.b hE
  replace hW := hW.b hE
  replace kW := kW.b hE
  replace kX := kX.b hE
  replace kG := kG.b hE
  replace hG' := hG'.b hE
  replace hO3 := hO3.b hE
  replace hH := hH.b hE
  have zW27 := (hE).size
  clear hE
  have kHl := kH.cells.2.2
  refine (eqFlyPath_c (LL.restM p i j k) _ _ _ _ _ (hH.rd_at' stepE) (hW.rd_at' stepE)).mono ?_
  rintro e W28 ⟨rfl, hB⟩
  replace hb := b_step hb hB
  replace kP := kP.b hB
  replace hO1 := hO1.b hB
  replace hW := hW.b hB
  replace kW := kW.b hB
  replace kX := kX.b hB
  replace kG := kG.b hB
  replace hG' := hG'.b hB
  replace hO3 := hO3.b hB
  replace hH := hH.b hB
  replace kH := kH.b hB
  have zW28 := (hB).size
  clear hB
  obtain ⟨ekP, fkP, lkP⟩ := kP.cells
  obtain ⟨ekW, fkW, lkW⟩ := kW.cells
  obtain ⟨ekX, fkX, lkX⟩ := kX.cells
  obtain ⟨ekG, fkG, lkG⟩ := kG.cells
  obtain ⟨ekH, fkH, lkH⟩ := kH.cells
  go_wp2_with fail
  refine calls_name (fun W => Below W28.heap.size W28 W) (by repeat' (first | with_reducible exact Below.refl _ _ | with_reducible assumption | with_reducible refine b_alloc ?_ _ | with_reducible refine b_drewN ?_ _ | with_reducible refine b_drew ?_ | with_reducible refine b_set ?_ (by first | (simp only [World.size_setCell, World.size_alloc, World.size_drew]; omega) | (simp; done) | (simp; omega)) _ | with_reducible refine b_step ?_ (by with_reducible assumption))) ?_
  intro W29 hE
  clear ekP fkP lkP ekW fkW lkW ekX fkX lkX ekG fkG lkG ekH fkH lkH
  replace hb := b_step hb hE
  replace kP := kP.b hE
  replace hO1 := hO1.b hE
  replace hW := hW.b hE
  replace kW := kW.b hE
  replace kX := kX.b hE
  replace kG := kG.b hE
  replace hG' := hG'.b hE
  replace hO3 := hO3.b hE
  replace hH := hH.b hE
  replace kH := kH.b hE
  have zW29 := (hE).size
  clear hE
  refine (heldFlyPath_c (LL.restM p i j k) Ag cg 1 (by decide) (by decide) _ (hG'.rd_at' stepE)).mono ?_
  rintro e W30 ⟨rfl, hB⟩
  replace hb := b_step hb hB
  replace kP := kP.b hB
  replace hO1 := hO1.b hB
  replace hW := hW.b hB
  replace kW := kW.b hB
  replace kX := kX.b hB
  replace kG := kG.b hB
  replace hG' := hG'.b hB
  replace hO3 := hO3.b hB
  replace hH := hH.b hB
  replace kH := kH.b hB
  have zW30 := (hB).size
  clear hB
  obtain ⟨ekP, fkP, lkP⟩ := kP.cells
  obtain ⟨ekW, fkW, lkW⟩ := kW.cells
  obtain ⟨ekX, fkX, lkX⟩ := kX.cells
  obtain ⟨ekG, fkG, lkG⟩ := kG.cells
  obtain ⟨ekH, fkH, lkH⟩ := kH.cells
  go_wp2_with fail
  go_ret
  exact ⟨rfl, (by repeat' (first | with_reducible exact Below.refl _ _ | with_reducible assumption | with_reducible refine b_alloc ?_ _ | with_reducible refine b_drewN ?_ _ | with_reducible refine b_drew ?_ | with_reducible refine b_set ?_ (by first | (simp only [World.size_setCell, World.size_alloc, World.size_drew]; omega) | (simp; done) | (simp; omega)) _ | with_reducible refine b_step ?_ (by with_reducible assumption)))⟩
set_option maxRecDepth 100000 in
set_option maxHeartbeats 4000000 in
theorem FnExactFlySeen_c (p : LL.Path) (A : Option Addr) (c : Nat) (i : Int) (k : Int) (w : World) (h : RdS w A p.steps.length c p.steps) : Calls Try.prog 9 #[.agg #[.int .i64 p.q, .int .i64 p.s, .slice A p.steps.length c, .int .i64 p.fr, .int .i64 p.by_], .int .i64 i, .int .i64 k] w fun e w' => e = .returned (.bool true) ∧ Below w.heap.size w w' := by
  have hroom := h.room
  have hn : p.steps.length ≤ 140737488355328 := by omega
  go_enter Try.func9, Try.ntmps9
  go_wp2_with fail
  refine calls_name (fun W => Below w.heap.size w W ∧ Blk W w.heap.size #[.int .i64 p.q, .int .i64 p.s, .slice A p.steps.length c, .int .i64 p.fr, .int .i64 p.by_] 26) ⟨(by repeat' (first | with_reducible exact Below.refl _ _ | with_reducible assumption | with_reducible refine b_alloc ?_ _ | with_reducible refine b_drewN ?_ _ | with_reducible refine b_drew ?_ | with_reducible refine b_set ?_ (by first | (simp only [World.size_setCell, World.size_alloc, World.size_drew]; omega) | (simp; done) | (simp; omega)) _ | with_reducible refine b_step ?_ (by with_reducible assumption))), (by repeat' (first | with_reducible assumption | with_reducible exact Blk.new _ _ _ | with_reducible exact Blk.new' _ _ (by first | (simp only [World.size_alloc, World.size_setCell, World.size_drew]; done) | (simp only [World.size_alloc, World.size_setCell, World.size_drew]; omega) | omega) | with_reducible refine Blk.a ?_ _ | with_reducible refine Blk.d ?_ | with_reducible refine Blk.dN ?_ _ | with_reducible refine Blk.s ?_ (by simp only [ne_eq]; omega) _ | with_reducible refine Blk.b ?_ (by with_reducible assumption)))⟩ ?_
  rintro W1 ⟨hE, kP⟩
  have hb : Below w.heap.size w W1 := hE
  have zW1 := (hE).size
  clear hE
  have kPl := kP.cells.2.2
  refine (szFlyPath_c _ _ _ _ _ _ _ _ _ (by decide) (by decide) hn).mono ?_
  rintro e W2 ⟨rfl, hB⟩
  replace hb := b_step hb hB
  replace kP := kP.b hB
  have zW2 := (hB).size
  clear hB
  by_cases hs : LL.sz 1048576 p.steps.length < 0
  · go_wp2_with fail
    go_ret
    exact ⟨rfl, (by repeat' (first | with_reducible exact Below.refl _ _ | with_reducible assumption | with_reducible refine b_alloc ?_ _ | with_reducible refine b_drewN ?_ _ | with_reducible refine b_drew ?_ | with_reducible refine b_set ?_ (by first | (simp only [World.size_setCell, World.size_alloc, World.size_drew]; omega) | (simp; done) | (simp; omega)) _ | with_reducible refine b_step ?_ (by with_reducible assumption)))⟩
  have hs1 : decide (LL.sz 1048576 p.steps.length < 0) = false := by simpa using hs
  clear hs
  obtain ⟨ekP, fkP, lkP⟩ := kP.cells
  go_wp2_with fail
  refine calls_name (fun W => Below W2.heap.size W2 W) (by repeat' (first | with_reducible exact Below.refl _ _ | with_reducible assumption | with_reducible refine b_alloc ?_ _ | with_reducible refine b_drewN ?_ _ | with_reducible refine b_drew ?_ | with_reducible refine b_set ?_ (by first | (simp only [World.size_setCell, World.size_alloc, World.size_drew]; omega) | (simp; done) | (simp; omega)) _ | with_reducible refine b_step ?_ (by with_reducible assumption))) ?_
  intro W3 hE
  clear ekP fkP lkP
  replace hb := b_step hb hE
  replace kP := kP.b hE
  have zW3 := (hE).size
  clear hE
  refine (toFlyPath_c p A c _ (h.mono hb)).mono ?_
  intro e W4 hM
  obtain ⟨A1, c1, rfl, hO1, hO1g, hB⟩ := hM.gop
  replace hb := b_step hb hB
  replace kP := kP.b hB
  have zW4 := (hB).size
  clear hB
  have hO1l := fun k hk => (hO1.row.lt k hk).2
  obtain ⟨ekP, fkP, lkP⟩ := kP.cells
  go_wp2_with fail
  refine calls_name (fun W => Below W4.heap.size W4 W) (by repeat' (first | with_reducible exact Below.refl _ _ | with_reducible assumption | with_reducible refine b_alloc ?_ _ | with_reducible refine b_drewN ?_ _ | with_reducible refine b_drew ?_ | with_reducible refine b_set ?_ (by first | (simp only [World.size_setCell, World.size_alloc, World.size_drew]; omega) | (simp; done) | (simp; omega)) _ | with_reducible refine b_step ?_ (by with_reducible assumption))) ?_
  intro W5 hE
  clear ekP fkP lkP
  replace hb := b_step hb hE
  replace kP := kP.b hE
  replace hO1 := hO1.b hE
  have zW5 := (hE).size
  clear hE
  refine (spec_FlySeen_c p A1 c1 i k _ (hO1.rd_at' stepE)).mono ?_
  intro e W6 hM
  obtain ⟨Aw, cw, rfl, hW, hWg, hB⟩ := hM.gop2
  replace hb := b_step hb hB
  replace kP := kP.b hB
  replace hO1 := hO1.b hB
  have zW6 := (hB).size
  clear hB
  have hWl := fun k hk => (hW.row.lt k hk).2
  obtain ⟨ekP, fkP, lkP⟩ := kP.cells
  go_wp2_with fail
  refine calls_name (fun W => Below W6.heap.size W6 W ∧ Blk W W6.heap.size #[.int .i64 (LL.seenM p i k).q, .int .i64 (LL.seenM p i k).s, .slice Aw (LL.seenM p i k).steps.length cw, .int .i64 (LL.seenM p i k).fr, .int .i64 (LL.seenM p i k).by_] 33) ⟨(by repeat' (first | with_reducible exact Below.refl _ _ | with_reducible assumption | with_reducible refine b_alloc ?_ _ | with_reducible refine b_drewN ?_ _ | with_reducible refine b_drew ?_ | with_reducible refine b_set ?_ (by first | (simp only [World.size_setCell, World.size_alloc, World.size_drew]; omega) | (simp; done) | (simp; omega)) _ | with_reducible refine b_step ?_ (by with_reducible assumption))), Blk.new _ _ _⟩ ?_
  rintro W7 ⟨hE, kW⟩
  clear ekP fkP lkP
  replace hb := b_step hb hE
  replace kP := kP.b hE
  replace hO1 := hO1.b hE
  replace hW := hW.b hE
  have zW7 := (hE).size
  clear hE
  have kWl := kW.cells.2.2
  refine (toFlyPath_c p A c _ (h.mono hb)).mono ?_
  intro e W8 hM
  obtain ⟨Ax, cx, rfl, hX, hXg, hB⟩ := hM.gop
  replace hb := b_step hb hB
  replace kP := kP.b hB
  replace hO1 := hO1.b hB
  replace hW := hW.b hB
  replace kW := kW.b hB
  have zW8 := (hB).size
  clear hB
  have hXl := fun k hk => (hX.row.lt k hk).2
  obtain ⟨ekP, fkP, lkP⟩ := kP.cells
  obtain ⟨ekW, fkW, lkW⟩ := kW.cells
  go_wp2_with fail
  refine calls_name (fun W => Below W8.heap.size W8 W ∧ Blk W W8.heap.size #[.int .i64 p.q, .int .i64 p.s, .slice Ax p.steps.length cx, .int .i64 p.fr, .int .i64 p.by_] 33) ⟨(by repeat' (first | with_reducible exact Below.refl _ _ | with_reducible assumption | with_reducible refine b_alloc ?_ _ | with_reducible refine b_drewN ?_ _ | with_reducible refine b_drew ?_ | with_reducible refine b_set ?_ (by first | (simp only [World.size_setCell, World.size_alloc, World.size_drew]; omega) | (simp; done) | (simp; omega)) _ | with_reducible refine b_step ?_ (by with_reducible assumption))), Blk.new _ _ _⟩ ?_
  rintro W9 ⟨hE, kX⟩
  clear ekP fkP lkP ekW fkW lkW
  replace hb := b_step hb hE
  replace kP := kP.b hE
  replace hO1 := hO1.b hE
  replace hW := hW.b hE
  replace kW := kW.b hE
  replace hX := hX.b hE
  have zW9 := (hE).size
  clear hE
  have kXl := kX.cells.2.2
  refine (impl_FlySeen_c p Ax cx i k _ (hX.rd_at' stepE)).mono ?_
  intro e W10 hM
  obtain ⟨Ag, cg, rfl, hG, hGg, hB⟩ := hM.gop2
  replace hb := b_step hb hB
  replace kP := kP.b hB
  replace hO1 := hO1.b hB
  replace hW := hW.b hB
  replace kW := kW.b hB
  replace hX := hX.b hB
  replace kX := kX.b hB
  have zW10 := (hB).size
  clear hB
  have hGl := fun k hk => (hG.row.lt k hk).2
  obtain ⟨ekP, fkP, lkP⟩ := kP.cells
  obtain ⟨ekW, fkW, lkW⟩ := kW.cells
  obtain ⟨ekX, fkX, lkX⟩ := kX.cells
  go_wp2_with fail
  refine calls_name (fun W => Below W10.heap.size W10 W ∧ Blk W W10.heap.size #[.int .i64 (LL.seenM p i k).q, .int .i64 (LL.seenM p i k).s, .slice Ag (LL.seenM p i k).steps.length cg, .int .i64 (LL.seenM p i k).fr, .int .i64 (LL.seenM p i k).by_] 33) ⟨(by repeat' (first | with_reducible exact Below.refl _ _ | with_reducible assumption | with_reducible refine b_alloc ?_ _ | with_reducible refine b_drewN ?_ _ | with_reducible refine b_drew ?_ | with_reducible refine b_set ?_ (by first | (simp only [World.size_setCell, World.size_alloc, World.size_drew]; omega) | (simp; done) | (simp; omega)) _ | with_reducible refine b_step ?_ (by with_reducible assumption))), Blk.new _ _ _⟩ ?_
  rintro W11 ⟨hE, kG⟩
  clear ekP fkP lkP ekW fkW lkW ekX fkX lkX
  replace hb := b_step hb hE
  replace kP := kP.b hE
  replace hO1 := hO1.b hE
  replace hW := hW.b hE
  replace kW := kW.b hE
  replace hX := hX.b hE
  replace kX := kX.b hE
  replace hG := hG.b hE
  have zW11 := (hE).size
  clear hE
  have kGl := kG.cells.2.2
  refine (eqFlyPath_c (LL.seenM p i k) _ _ _ _ _ (hG.rd_at' stepE) (hW.rd_at' stepE)).mono ?_
  rintro e W12 ⟨rfl, hB⟩
  replace hb := b_step hb hB
  replace kP := kP.b hB
  replace hO1 := hO1.b hB
  replace hW := hW.b hB
  replace kW := kW.b hB
  replace hX := hX.b hB
  replace kX := kX.b hB
  replace hG := hG.b hB
  replace kG := kG.b hB
  have zW12 := (hB).size
  clear hB
  obtain ⟨ekP, fkP, lkP⟩ := kP.cells
  obtain ⟨ekW, fkW, lkW⟩ := kW.cells
  obtain ⟨ekX, fkX, lkX⟩ := kX.cells
  obtain ⟨ekG, fkG, lkG⟩ := kG.cells
  go_wp2_with fail
  refine wp_name (fun W => Below W12.heap.size W12 W) (by repeat' (first | with_reducible exact Below.refl _ _ | with_reducible assumption | with_reducible refine b_alloc ?_ _ | with_reducible refine b_drewN ?_ _ | with_reducible refine b_drew ?_ | with_reducible refine b_set ?_ (by first | (simp only [World.size_setCell, World.size_alloc, World.size_drew]; omega) | (simp; done) | (simp; omega)) _ | with_reducible refine b_step ?_ (by with_reducible assumption))) ?_
  intro W13 hE
  clear ekP fkP lkP ekW fkW lkW ekX fkX lkX ekG fkG lkG
  replace hb := b_step hb hE
  replace kP := kP.b hE
  replace hO1 := hO1.b hE
  replace hW := hW.b hE
  replace kW := kW.b hE
  replace hX := hX.b hE
  replace kX := kX.b hE
  replace hG := hG.b hE
  replace kG := kG.b hE
  have zW13 := (hE).size
  clear hE
  obtain ⟨ekP, fkP, lkP⟩ := kP.cells
  obtain ⟨ekW, fkW, lkW⟩ := kW.cells
  obtain ⟨ekX, fkX, lkX⟩ := kX.cells
  obtain ⟨ekG, fkG, lkG⟩ := kG.cells
  refine rel_b [(2, fun v W => ∃ A9 c9, v = .agg #[.int .i64 p.q, .int .i64 p.s, .slice A9 p.steps.length c9, .int .i64 p.fr, .int .i64 p.by_] ∧ Own stepC 7 56 79 W (.slice A9 p.steps.length c9) p.steps), (3, fun v _ => v = .bool true)] (by kernel_rfl) (by kernel_rfl) ?_
  ((apply rel_plain (hR := rfl) (hF := fun _ => trivial) (hg := rfl)); (focus ((intro w' hL'); (obtain ⟨hcS, hfS, hlS⟩ := bcell hL'); (try simp only [World.size_setCell, World.size_alloc, World.size_drew] at hcS hfS hlS); (go_simp); (try go_bits); (try (first | (rw [if_pos (by omega)]; done) | (rw [if_neg (by omega)]; done) | (rw [if_pos (by omega)]; go_simp) | (rw [if_neg (by omega)]; go_simp))); (first | with_reducible rfl | exact rfl | skip))); (simp only [Act.put, List.setIfInBounds_toArray, List.set_cons_zero, List.set_cons_succ]))
  ((apply rel_plain (hR := rfl) (hF := fun _ => trivial) (hg := rfl)); (focus ((intro w' hL'); (obtain ⟨hcS, hfS, hlS⟩ := bcell hL'); (try simp only [World.size_setCell, World.size_alloc, World.size_drew] at hcS hfS hlS); (go_simp); (try go_bits); (try (first | (rw [if_pos (by omega)]; done) | (rw [if_neg (by omega)]; done) | (rw [if_pos (by omega)]; go_simp) | (rw [if_neg (by omega)]; go_simp))); (first | with_reducible rfl | exact rfl | skip))); (simp only [Act.put, List.setIfInBounds_toArray, List.set_cons_zero, List.set_cons_succ]))
  ((apply rel_told (hR := rfl) (hg := rfl)); (focus ((intro w' hL' hD'); (obtain ⟨hcS, hfS, hlS⟩ := bcell hL'); (try simp only [World.size_setCell, World.size_alloc, World.size_drew] at hcS hfS hlS); (go_simp); (try go_bits); (try (first | (rw [if_pos (by omega)]; done) | (rw [if_neg (by omega)]; done) | (rw [if_pos (by omega)]; go_simp) | (rw [if_neg (by omega)]; go_simp))); ((go_at_call 17); (refine (toFlyPath_c p A c _ (h.mono (b_step hb hL'))).mono ?_); (intro e w'' hM); (obtain ⟨A2, c2, rfl, hO2, -, hB⟩ := hM.gop); (refine ⟨_, rfl, hB, ?_⟩); ((repeat (first | (refine Tell.hit rfl ?_) | (refine Tell.skip rfl ?_))); exact ⟨A2, c2, rfl, hO2⟩)))); (intro v' w0' hv'); (replace hv' := Tell.out hv' rfl); (obtain ⟨A2, c2, rfl, -⟩ := hv'); (simp only [Act.put, List.setIfInBounds_toArray, List.set_cons_zero, List.set_cons_succ]))
  ((apply rel_told (hR := rfl) (hg := rfl)); (focus ((intro w' hL' hD'); (obtain ⟨hcS, hfS, hlS⟩ := bcell hL'); (try simp only [World.size_setCell, World.size_alloc, World.size_drew] at hcS hfS hlS); (go_simp); (try go_bits); (try (first | (rw [if_pos (by omega)]; done) | (rw [if_neg (by omega)]; done) | (rw [if_pos (by omega)]; go_simp) | (rw [if_neg (by omega)]; go_simp))); ((obtain ⟨w8, hl8, A8, c8, e8, hO8⟩ := Known.out (hD' ⟨2, .data⟩ (by simp) rfl) rfl); (injection e8 with e8; injection e8 with e8; injection e8 with e8 e9; injection e9 with e9 e10; injection e10 with e10 e11; injection e10 with e10 e12 e13; subst e10 e13); (replace hO8 := hO8.b hl8); ((go_at_call 20); (refine (eqFlyPath_c p _ _ _ _ _ ((hX.b hL').rd_at' stepE) (hO8.rd_at' stepE)).mono ?_); (rintro e w'' ⟨rfl, hb''⟩); (refine ⟨_, rfl, ?_, ?_⟩); (focus (first | exact hb'' | (subst hb''; exact Le.refl _))); ((repeat (first | (refine Tell.hit rfl ?_) | (refine Tell.skip rfl ?_))); exact rfl))))); (intro v' w0' hv'); (replace hv' := Tell.out hv' rfl); (obtain rfl := hv'); (simp only [Act.put, List.setIfInBounds_toArray, List.set_cons_zero, List.set_cons_succ]))
  ((apply rel_plain (hR := rfl) (hF := fun _ => trivial) (hg := rfl)); (focus ((intro w' hL'); (obtain ⟨hcS, hfS, hlS⟩ := bcell hL'); (try simp only [World.size_setCell, World.size_alloc, World.size_drew] at hcS hfS hlS); (go_simp); (try go_bits); (try (first | (rw [if_pos (by omega)]; done) | (rw [if_neg (by omega)]; done) | (rw [if_pos (by omega)]; go_simp) | (rw [if_neg (by omega)]; go_simp))); (first | with_reducible rfl | exact rfl | skip))); (simp only [Act.put, List.setIfInBounds_toArray, List.set_cons_zero, List.set_cons_succ]))
  refine rel_nil ?_
  intro W14 hE hF9
  clear hF9
  clear ekP fkP lkP ekW fkW lkW ekX fkX lkX ekG fkG lkG
  replace hb := b_step hb hE
  replace kP := kP.b hE
  replace hO1 := hO1.b hE
  replace hW := hW.b hE
  replace kW := kW.b hE
  replace hX := hX.b hE
  replace kX := kX.b hE
  replace hG := hG.b hE
  replace kG := kG.b hE
  have zW14 := (hE).size
  clear hE
  obtain ⟨ekP, fkP, lkP⟩ := kP.cells
  obtain ⟨ekW, fkW, lkW⟩ := kW.cells
  obtain ⟨ekX, fkX, lkX⟩ := kX.cells
  obtain ⟨ekG, fkG, lkG⟩ := kG.cells
  go_wp2_with fail
  refine calls_name (fun W => Below W14.heap.size W14 W) (by repeat' (first | with_reducible exact Below.refl _ _ | with_reducible assumption | with_reducible refine b_alloc ?_ _ | with_reducible refine b_drewN ?_ _ | with_reducible refine b_drew ?_ | with_reducible refine b_set ?_ (by first | (simp only [World.size_setCell, World.size_alloc, World.size_drew]; omega) | (simp; done) | (simp; omega)) _ | with_reducible refine b_step ?_ (by with_reducible assumption))) ?_
  intro W15 hE
  clear ekP fkP lkP ekW fkW lkW ekX fkX lkX ekG fkG lkG
  replace hb := b_step hb hE
  replace kP := kP.b hE
  replace hO1 := hO1.b hE
  replace hW := hW.b hE
  replace kW := kW.b hE
  replace hX := hX.b hE
  replace kX := kX.b hE
  replace hG := hG.b hE
  replace kG := kG.b hE
  have zW15 := (hE).size
  clear hE
  refine (markFlyPath_c p Ax cx 1 (by decide) (by decide) _ hX).mono ?_
  rintro e W16 ⟨rfl, hX', hg⟩
  replace kP := kP.grown hg (fun e9 => by have h8 := hXl _ e9; have h9 := hXg _ e9; have h7 := kPl; omega)
  replace hO1 := hO1.grown hg (own_ne hO1l hXg (by omega))
  replace hW := hW.grown hg (own_ne hWl hXg (by omega))
  replace kW := kW.grown hg (fun e9 => by have h8 := hXl _ e9; have h9 := hXg _ e9; have h7 := kWl; omega)
  replace kX := kX.grown hg (fun e9 => by have h8 := hXl _ e9; have h9 := hXg _ e9; have h7 := kXl; omega)
  replace hG := hG.grown hg (own_ne' hGg hXl (by omega))
  replace kG := kG.grown hg (fun e9 => by have h8 := hXl _ e9; have h9 := hXg _ e9; have h7 := kGl; omega)
  replace hb := b_grown' hb hg hb.size (fun k hk => by have := hXg k hk; omega)
  have zW16 := hg.size
  clear hX hg
  obtain ⟨ekP, fkP, lkP⟩ := kP.cells
  obtain ⟨ekW, fkW, lkW⟩ := kW.cells
  obtain ⟨ekX, fkX, lkX⟩ := kX.cells
  obtain ⟨ekG, fkG, lkG⟩ := kG.cells
  go_wp2_with fail
  refine calls_name (fun W => Below W16.heap.size W16 W) (by repeat' (first | with_reducible exact Below.refl _ _ | with_reducible assumption | with_reducible refine b_alloc ?_ _ | with_reducible refine b_drewN ?_ _ | with_reducible refine b_drew ?_ | with_reducible refine b_set ?_ (by first | (simp only [World.size_setCell, World.size_alloc, World.size_drew]; omega) | (simp; done) | (simp; omega)) _ | with_reducible refine b_step ?_ (by with_reducible assumption))) ?_
  intro W17 hE
  clear ekP fkP lkP ekW fkW lkW ekX fkX lkX ekG fkG lkG
  replace hb := b_step hb hE
  replace kP := kP.b hE
  replace hO1 := hO1.b hE
  replace hW := hW.b hE
  replace kW := kW.b hE
  replace kX := kX.b hE
  replace hG := hG.b hE
  replace kG := kG.b hE
  have zW17 := (hE).size
  clear hE
  refine (eqFlyPath_c (LL.seenM p i k) _ _ _ _ _ (hG.rd_at' stepE) (hW.rd_at' stepE)).mono ?_
  rintro e W18 ⟨rfl, hB⟩
  replace hb := b_step hb hB
  replace kP := kP.b hB
  replace hO1 := hO1.b hB
  replace hW := hW.b hB
  replace kW := kW.b hB
  replace kX := kX.b hB
  replace hG := hG.b hB
  replace kG := kG.b hB
  have zW18 := (hB).size
  clear hB
  obtain ⟨ekP, fkP, lkP⟩ := kP.cells
  obtain ⟨ekW, fkW, lkW⟩ := kW.cells
  obtain ⟨ekX, fkX, lkX⟩ := kX.cells
  obtain ⟨ekG, fkG, lkG⟩ := kG.cells
  go_wp2_with fail
  refine calls_name (fun W => Below W18.heap.size W18 W) (by repeat' (first | with_reducible exact Below.refl _ _ | with_reducible assumption | with_reducible refine b_alloc ?_ _ | with_reducible refine b_drewN ?_ _ | with_reducible refine b_drew ?_ | with_reducible refine b_set ?_ (by first | (simp only [World.size_setCell, World.size_alloc, World.size_drew]; omega) | (simp; done) | (simp; omega)) _ | with_reducible refine b_step ?_ (by with_reducible assumption))) ?_
  intro W19 hE
  clear ekP fkP lkP ekW fkW lkW ekX fkX lkX ekG fkG lkG
  replace hb := b_step hb hE
  replace kP := kP.b hE
  replace hO1 := hO1.b hE
  replace hW := hW.b hE
  replace kW := kW.b hE
  replace kX := kX.b hE
  replace hG := hG.b hE
  replace kG := kG.b hE
  have zW19 := (hE).size
  clear hE
  refine (markFlyPath_c (LL.seenM p i k) Ag cg 1 (by decide) (by decide) _ hG).mono ?_
  rintro e W20 ⟨rfl, hG', hg⟩
  replace kP := kP.grown hg (fun e9 => by have h8 := hGl _ e9; have h9 := hGg _ e9; have h7 := kPl; omega)
  replace hO1 := hO1.grown hg (own_ne hO1l hGg (by omega))
  replace hW := hW.grown hg (own_ne hWl hGg (by omega))
  replace kW := kW.grown hg (fun e9 => by have h8 := hGl _ e9; have h9 := hGg _ e9; have h7 := kWl; omega)
  replace kX := kX.grown hg (fun e9 => by have h8 := hGl _ e9; have h9 := hGg _ e9; have h7 := kXl; omega)
  replace kG := kG.grown hg (fun e9 => by have h8 := hGl _ e9; have h9 := hGg _ e9; have h7 := kGl; omega)
  replace hb := b_grown' hb hg hb.size (fun k hk => by have := hGg k hk; omega)
  have zW20 := hg.size
  clear hG hg
  obtain ⟨ekP, fkP, lkP⟩ := kP.cells
  obtain ⟨ekW, fkW, lkW⟩ := kW.cells
  obtain ⟨ekX, fkX, lkX⟩ := kX.cells
  obtain ⟨ekG, fkG, lkG⟩ := kG.cells
  go_wp2_with fail
  refine calls_name (fun W => Below W20.heap.size W20 W) (by repeat' (first | with_reducible exact Below.refl _ _ | with_reducible assumption | with_reducible refine b_alloc ?_ _ | with_reducible refine b_drewN ?_ _ | with_reducible refine b_drew ?_ | with_reducible refine b_set ?_ (by first | (simp only [World.size_setCell, World.size_alloc, World.size_drew]; omega) | (simp; done) | (simp; omega)) _ | with_reducible refine b_step ?_ (by with_reducible assumption))) ?_
  intro W21 hE
  clear ekP fkP lkP ekW fkW lkW ekX fkX lkX ekG fkG lkG
  replace hb := b_step hb hE
  replace kP := kP.b hE
  replace hO1 := hO1.b hE
  replace hW := hW.b hE
  replace kW := kW.b hE
  replace kX := kX.b hE
  replace kG := kG.b hE
  replace hG' := hG'.b hE
  have zW21 := (hE).size
  clear hE
  refine (heldFlyPath_c (LL.seenM p i k) Ag cg 1 (by decide) (by decide) _ (hG'.rd_at' stepE)).mono ?_
  rintro e W22 ⟨rfl, hB⟩
  replace hb := b_step hb hB
  replace kP := kP.b hB
  replace hO1 := hO1.b hB
  replace hW := hW.b hB
  replace kW := kW.b hB
  replace kX := kX.b hB
  replace kG := kG.b hB
  replace hG' := hG'.b hB
  have zW22 := (hB).size
  clear hB
  obtain ⟨ekP, fkP, lkP⟩ := kP.cells
  obtain ⟨ekW, fkW, lkW⟩ := kW.cells
  obtain ⟨ekX, fkX, lkX⟩ := kX.cells
  obtain ⟨ekG, fkG, lkG⟩ := kG.cells
  go_wp2_with fail
  refine calls_name (fun W => Below W22.heap.size W22 W) (by repeat' (first | with_reducible exact Below.refl _ _ | with_reducible assumption | with_reducible refine b_alloc ?_ _ | with_reducible refine b_drewN ?_ _ | with_reducible refine b_drew ?_ | with_reducible refine b_set ?_ (by first | (simp only [World.size_setCell, World.size_alloc, World.size_drew]; omega) | (simp; done) | (simp; omega)) _ | with_reducible refine b_step ?_ (by with_reducible assumption))) ?_
  intro W23 hE
  clear ekP fkP lkP ekW fkW lkW ekX fkX lkX ekG fkG lkG
  replace hb := b_step hb hE
  replace kP := kP.b hE
  replace hO1 := hO1.b hE
  replace hW := hW.b hE
  replace kW := kW.b hE
  replace kX := kX.b hE
  replace kG := kG.b hE
  replace hG' := hG'.b hE
  have zW23 := (hE).size
  clear hE
  refine (toFlyPath_c p A c _ (h.mono hb)).mono ?_
  intro e W24 hM
  obtain ⟨A3, c3, rfl, hO3, hO3g, hB⟩ := hM.gop
  replace hb := b_step hb hB
  replace kP := kP.b hB
  replace hO1 := hO1.b hB
  replace hW := hW.b hB
  replace kW := kW.b hB
  replace kX := kX.b hB
  replace kG := kG.b hB
  replace hG' := hG'.b hB
  have zW24 := (hB).size
  clear hB
  have hO3l := fun k hk => (hO3.row.lt k hk).2
  obtain ⟨ekP, fkP, lkP⟩ := kP.cells
  obtain ⟨ekW, fkW, lkW⟩ := kW.cells
  obtain ⟨ekX, fkX, lkX⟩ := kX.cells
  obtain ⟨ekG, fkG, lkG⟩ := kG.cells
  go_wp2_with fail
  refine calls_name (fun W => Below W24.heap.size W24 W) (by repeat' (first | with_reducible exact Below.refl _ _ | with_reducible assumption | with_reducible refine b_alloc ?_ _ | with_reducible refine b_drewN ?_ _ | with_reducible refine b_drew ?_ | with_reducible refine b_set ?_ (by first | (simp only [World.size_setCell, World.size_alloc, World.size_drew]; omega) | (simp; done) | (simp; omega)) _ | with_reducible refine b_step ?_ (by with_reducible assumption))) ?_
  intro W25 hE
  clear ekP fkP lkP ekW fkW lkW ekX fkX lkX ekG fkG lkG
  replace hb := b_step hb hE
  replace kP := kP.b hE
  replace hO1 := hO1.b hE
  replace hW := hW.b hE
  replace kW := kW.b hE
  replace kX := kX.b hE
  replace kG := kG.b hE
  replace hG' := hG'.b hE
  replace hO3 := hO3.b hE
  have zW25 := (hE).size
  clear hE
  refine (impl_FlySeen_c p A3 c3 i k _ (hO3.rd_at' stepE)).mono ?_
  intro e W26 hM
  obtain ⟨Ah, ch, rfl, hH, hHg, hB⟩ := hM.gop2
  replace hb := b_step hb hB
  replace kP := kP.b hB
  replace hO1 := hO1.b hB
  replace hW := hW.b hB
  replace kW := kW.b hB
  replace kX := kX.b hB
  replace kG := kG.b hB
  replace hG' := hG'.b hB
  replace hO3 := hO3.b hB
  have zW26 := (hB).size
  clear hB
  have hHl := fun k hk => (hH.row.lt k hk).2
  obtain ⟨ekP, fkP, lkP⟩ := kP.cells
  obtain ⟨ekW, fkW, lkW⟩ := kW.cells
  obtain ⟨ekX, fkX, lkX⟩ := kX.cells
  obtain ⟨ekG, fkG, lkG⟩ := kG.cells
  go_wp2_with fail
  refine calls_name (fun W => Below W26.heap.size W26 W ∧ Blk W W26.heap.size #[.int .i64 (LL.seenM p i k).q, .int .i64 (LL.seenM p i k).s, .slice Ah (LL.seenM p i k).steps.length ch, .int .i64 (LL.seenM p i k).fr, .int .i64 (LL.seenM p i k).by_] 33) ⟨(by repeat' (first | with_reducible exact Below.refl _ _ | with_reducible assumption | with_reducible refine b_alloc ?_ _ | with_reducible refine b_drewN ?_ _ | with_reducible refine b_drew ?_ | with_reducible refine b_set ?_ (by first | (simp only [World.size_setCell, World.size_alloc, World.size_drew]; omega) | (simp; done) | (simp; omega)) _ | with_reducible refine b_step ?_ (by with_reducible assumption))), Blk.new _ _ _⟩ ?_
  rintro W27 ⟨hE, kH⟩
  clear ekP fkP lkP ekW fkW lkW ekX fkX lkX ekG fkG lkG
  replace hb := b_step hb hE
  replace kP := kP.b hE
  replace hO1 := hO1.b hE
  replace hW := hW.b hE
  replace kW := kW.b hE
  replace kX := kX.b hE
  replace kG := kG.b hE
  replace hG' := hG'.b hE
  replace hO3 := hO3.b hE
  replace hH := hH.b hE
  have zW27 := (hE).size
  clear hE
  have kHl := kH.cells.2.2
  refine (eqFlyPath_c (LL.seenM p i k) _ _ _ _ _ (hH.rd_at' stepE) (hW.rd_at' stepE)).mono ?_
  rintro e W28 ⟨rfl, hB⟩
  replace hb := b_step hb hB
  replace kP := kP.b hB
  replace hO1 := hO1.b hB
  replace hW := hW.b hB
  replace kW := kW.b hB
  replace kX := kX.b hB
  replace kG := kG.b hB
  replace hG' := hG'.b hB
  replace hO3 := hO3.b hB
  replace hH := hH.b hB
  replace kH := kH.b hB
  have zW28 := (hB).size
  clear hB
  obtain ⟨ekP, fkP, lkP⟩ := kP.cells
  obtain ⟨ekW, fkW, lkW⟩ := kW.cells
  obtain ⟨ekX, fkX, lkX⟩ := kX.cells
  obtain ⟨ekG, fkG, lkG⟩ := kG.cells
  obtain ⟨ekH, fkH, lkH⟩ := kH.cells
  go_wp2_with fail
  refine calls_name (fun W => Below W28.heap.size W28 W) (by repeat' (first | with_reducible exact Below.refl _ _ | with_reducible assumption | with_reducible refine b_alloc ?_ _ | with_reducible refine b_drewN ?_ _ | with_reducible refine b_drew ?_ | with_reducible refine b_set ?_ (by first | (simp only [World.size_setCell, World.size_alloc, World.size_drew]; omega) | (simp; done) | (simp; omega)) _ | with_reducible refine b_step ?_ (by with_reducible assumption))) ?_
  intro W29 hE
  clear ekP fkP lkP ekW fkW lkW ekX fkX lkX ekG fkG lkG ekH fkH lkH
  replace hb := b_step hb hE
  replace kP := kP.b hE
  replace hO1 := hO1.b hE
  replace hW := hW.b hE
  replace kW := kW.b hE
  replace kX := kX.b hE
  replace kG := kG.b hE
  replace hG' := hG'.b hE
  replace hO3 := hO3.b hE
  replace hH := hH.b hE
  replace kH := kH.b hE
  have zW29 := (hE).size
  clear hE
  refine (heldFlyPath_c (LL.seenM p i k) Ag cg 1 (by decide) (by decide) _ (hG'.rd_at' stepE)).mono ?_
  rintro e W30 ⟨rfl, hB⟩
  replace hb := b_step hb hB
  replace kP := kP.b hB
  replace hO1 := hO1.b hB
  replace hW := hW.b hB
  replace kW := kW.b hB
  replace kX := kX.b hB
  replace kG := kG.b hB
  replace hG' := hG'.b hB
  replace hO3 := hO3.b hB
  replace hH := hH.b hB
  replace kH := kH.b hB
  have zW30 := (hB).size
  clear hB
  obtain ⟨ekP, fkP, lkP⟩ := kP.cells
  obtain ⟨ekW, fkW, lkW⟩ := kW.cells
  obtain ⟨ekX, fkX, lkX⟩ := kX.cells
  obtain ⟨ekG, fkG, lkG⟩ := kG.cells
  obtain ⟨ekH, fkH, lkH⟩ := kH.cells
  go_wp2_with fail
  go_ret
  exact ⟨rfl, (by repeat' (first | with_reducible exact Below.refl _ _ | with_reducible assumption | with_reducible refine b_alloc ?_ _ | with_reducible refine b_drewN ?_ _ | with_reducible refine b_drew ?_ | with_reducible refine b_set ?_ (by first | (simp only [World.size_setCell, World.size_alloc, World.size_drew]; omega) | (simp; done) | (simp; omega)) _ | with_reducible refine b_step ?_ (by with_reducible assumption)))⟩
end Go.Proofs.Ytbcibaaolkbfbaa
