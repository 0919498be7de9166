/- The exact laws that hand back memory, walked. -/
import Derived.Test.YtbcibaaolkbfbaaD3
import Derived.Test.YtbcibaaolkbfbaaK2
set_option linter.unusedVariables false
set_option linter.unusedSimpArgs false
namespace Go.Proofs.Ytbcibaaolkbfbaa
open Go.RowKit
attribute [local go_sem] w_lt_add w_le_of w_le_add max2_i min2_i
set_option maxRecDepth 100000 in
set_option maxHeartbeats 4000000 in
theorem FnExactFlyNext_c (p : LL.Path) (A : Option Addr) (c : Nat) (f : List Int) (F : Option Addr) (m : Nat) (w : World) (h : RdS w A p.steps.length c p.steps) (hf : RdI w F f.length m f) : Calls Try.prog 8 #[.agg #[.int .i64 p.q, .int .i64 p.s, .slice A p.steps.length c, .int .i64 p.fr, .int .i64 p.by_], .slice F f.length m] w fun e w' => e = .returned (.bool true) ∧ Below w.heap.size w w' := by
  have hrp := h.room
  have hnp : p.steps.length ≤ 140737488355328 := by omega
  have hrf := hf.room
  have hnf : f.length ≤ 140737488355328 := by omega
  by_cases hLf : 1048576 < f.length
  · have hL1 : decide ((1048576 : Int) < (f.length : Int)) = true := by simp; omega
    go_enter Try.func8, Try.ntmps8
    go_wp2_with fail
    go_ret
    exact ⟨rfl, (by repeat' (first | with_reducible exact Below.refl _ _ | with_reducible assumption | with_reducible refine b_alloc ?_ _ | with_reducible refine b_drewN ?_ _ | with_reducible refine b_drew ?_ | with_reducible refine b_set ?_ (by first | (simp only [World.size_setCell, World.size_alloc, World.size_drew]; omega) | (simp; done) | (simp; omega)) _ | with_reducible refine b_step ?_ (by with_reducible assumption)))⟩
  have hL1 : decide ((1048576 : Int) < (f.length : Int)) = false := by simp; omega
  clear hLf
  go_enter Try.func8, Try.ntmps8
  go_wp2_with fail
  refine calls_name (fun W => Below w.heap.size w W ∧ Blk W w.heap.size #[.int .i64 p.q, .int .i64 p.s, .slice A p.steps.length c, .int .i64 p.fr, .int .i64 p.by_] 26) ⟨(by repeat' (first | with_reducible exact Below.refl _ _ | with_reducible assumption | with_reducible refine b_alloc ?_ _ | with_reducible refine b_drewN ?_ _ | with_reducible refine b_drew ?_ | with_reducible refine b_set ?_ (by first | (simp only [World.size_setCell, World.size_alloc, World.size_drew]; omega) | (simp; done) | (simp; omega)) _ | with_reducible refine b_step ?_ (by with_reducible assumption))), (by repeat' (first | with_reducible assumption | with_reducible exact Blk.new _ _ _ | with_reducible exact Blk.new' _ _ (by first | (simp only [World.size_alloc, World.size_setCell, World.size_drew]; done) | (simp only [World.size_alloc, World.size_setCell, World.size_drew]; omega) | omega) | with_reducible refine Blk.a ?_ _ | with_reducible refine Blk.d ?_ | with_reducible refine Blk.dN ?_ _ | with_reducible refine Blk.s ?_ (by simp only [ne_eq]; omega) _ | with_reducible refine Blk.b ?_ (by with_reducible assumption)))⟩ ?_
  rintro W1 ⟨hE, kP⟩
  have hb : Below w.heap.size w W1 := hE
  have zW1 := (hE).size
  clear hE
  have kPl := kP.cells.2.2
  refine (szFlyPath_c _ _ _ _ _ _ _ _ _ (by decide) (by decide) hnp).mono ?_
  rintro e W2 ⟨rfl, hB⟩
  replace hb := b_step hb hB
  replace kP := kP.b hB
  have zW2 := (hB).size
  clear hB
  by_cases hsp : (LL.sz 1048576 p.steps.length) < 0
  · go_wp2_with fail
    go_ret
    exact ⟨rfl, (by repeat' (first | with_reducible exact Below.refl _ _ | with_reducible assumption | with_reducible refine b_alloc ?_ _ | with_reducible refine b_drewN ?_ _ | with_reducible refine b_drew ?_ | with_reducible refine b_set ?_ (by first | (simp only [World.size_setCell, World.size_alloc, World.size_drew]; omega) | (simp; done) | (simp; omega)) _ | with_reducible refine b_step ?_ (by with_reducible assumption)))⟩
  have hs1p : decide ((LL.sz 1048576 p.steps.length) < 0) = false := by simpa using hsp
  have hs2p : (LL.sz 1048576 p.steps.length) ≤ 1048576 := Int.le_trans (LL.sz_le (by omega) _) (by omega)
  obtain ⟨ekP, fkP, lkP⟩ := kP.cells
  go_wp2_with fail
  refine calls_name (fun W => Below W2.heap.size W2 W) (by repeat' (first | with_reducible exact Below.refl _ _ | with_reducible assumption | with_reducible refine b_alloc ?_ _ | with_reducible refine b_drewN ?_ _ | with_reducible refine b_drew ?_ | with_reducible refine b_set ?_ (by first | (simp only [World.size_setCell, World.size_alloc, World.size_drew]; omega) | (simp; done) | (simp; omega)) _ | with_reducible refine b_step ?_ (by with_reducible assumption))) ?_
  intro W3 hE
  clear ekP fkP lkP
  replace hb := b_step hb hE
  replace kP := kP.b hE
  have zW3 := (hE).size
  clear hE
  refine (toFlyPath_c p A c _ (h.mono hb)).mono ?_
  intro e W4 hM
  obtain ⟨A1p, c1p, rfl, hO1p, hO1pg, hB⟩ := hM.gop
  replace hb := b_step hb hB
  replace kP := kP.b hB
  have zW4 := (hB).size
  clear hB
  have hO1pl := fun k hk => (hO1p.row.lt k hk).2
  obtain ⟨ekP, fkP, lkP⟩ := kP.cells
  go_wp2_with fail
  refine calls_name (fun W => Below W4.heap.size W4 W) (by repeat' (first | with_reducible exact Below.refl _ _ | with_reducible assumption | with_reducible refine b_alloc ?_ _ | with_reducible refine b_drewN ?_ _ | with_reducible refine b_drew ?_ | with_reducible refine b_set ?_ (by first | (simp only [World.size_setCell, World.size_alloc, World.size_drew]; omega) | (simp; done) | (simp; omega)) _ | with_reducible refine b_step ?_ (by with_reducible assumption))) ?_
  intro W5 hE
  clear ekP fkP lkP
  replace hb := b_step hb hE
  replace kP := kP.b hE
  replace hO1p := hO1p.b hE
  have zW5 := (hE).size
  clear hE
  refine (toIntS_c f F m _ (hf.mono hb)).mono ?_
  intro e W6 hM
  obtain ⟨A1f, c1f, rfl, hO1f, hO1fg, hB⟩ := hM.go intE
  replace hb := b_step hb hB
  replace kP := kP.b hB
  replace hO1p := hO1p.b hB
  have zW6 := (hB).size
  clear hB
  have hO1fl := fun k hk => (hO1f.row.lt k hk).2
  obtain ⟨ekP, fkP, lkP⟩ := kP.cells
  go_wp2_with fail
  refine calls_name (fun W => Below W6.heap.size W6 W) (by repeat' (first | with_reducible exact Below.refl _ _ | with_reducible assumption | with_reducible refine b_alloc ?_ _ | with_reducible refine b_drewN ?_ _ | with_reducible refine b_drew ?_ | with_reducible refine b_set ?_ (by first | (simp only [World.size_setCell, World.size_alloc, World.size_drew]; omega) | (simp; done) | (simp; omega)) _ | with_reducible refine b_step ?_ (by with_reducible assumption))) ?_
  intro W7 hE
  clear ekP fkP lkP
  replace hb := b_step hb hE
  replace kP := kP.b hE
  replace hO1p := hO1p.b hE
  replace hO1f := hO1f.b hE
  have zW7 := (hE).size
  clear hE
  refine (spec_FlyNext_c p f A1p A1f c1p c1f _ (hO1p.rd_at' stepE) (hO1f.rd_at' intE)).mono ?_
  rintro e W8 ⟨rfl, hB⟩
  replace hb := b_step hb hB
  replace kP := kP.b hB
  replace hO1p := hO1p.b hB
  replace hO1f := hO1f.b hB
  have zW8 := (hB).size
  clear hB
  obtain ⟨ekP, fkP, lkP⟩ := kP.cells
  go_wp2_with fail
  refine calls_name (fun W => Below W8.heap.size W8 W ∧ Blk W W8.heap.size #[.int .i64 (LL.nextLo p f), .int .i64 (LL.nextHi p f)] 52) ⟨(by repeat' (first | with_reducible exact Below.refl _ _ | with_reducible assumption | with_reducible refine b_alloc ?_ _ | with_reducible refine b_drewN ?_ _ | with_reducible refine b_drew ?_ | with_reducible refine b_set ?_ (by first | (simp only [World.size_setCell, World.size_alloc, World.size_drew]; omega) | (simp; done) | (simp; omega)) _ | with_reducible refine b_step ?_ (by with_reducible assumption))), Blk.new _ _ _⟩ ?_
  rintro W9 ⟨hE, kW⟩
  clear ekP fkP lkP
  replace hb := b_step hb hE
  replace kP := kP.b hE
  replace hO1p := hO1p.b hE
  replace hO1f := hO1f.b hE
  have zW9 := (hE).size
  clear hE
  have kWl := kW.cells.2.2
  refine (toFlyPath_c p A c _ (h.mono hb)).mono ?_
  intro e W10 hM
  obtain ⟨Axp, cxp, rfl, hXp, hXpg, hB⟩ := hM.gop
  replace hb := b_step hb hB
  replace kP := kP.b hB
  replace hO1p := hO1p.b hB
  replace hO1f := hO1f.b hB
  replace kW := kW.b hB
  have zW10 := (hB).size
  clear hB
  have hXpl := fun k hk => (hXp.row.lt k hk).2
  obtain ⟨ekP, fkP, lkP⟩ := kP.cells
  obtain ⟨ekW, fkW, lkW⟩ := kW.cells
  go_wp2_with fail
  refine calls_name (fun W => Below W10.heap.size W10 W ∧ Blk W W10.heap.size #[.int .i64 p.q, .int .i64 p.s, .slice Axp p.steps.length cxp, .int .i64 p.fr, .int .i64 p.by_] 33) ⟨(by repeat' (first | with_reducible exact Below.refl _ _ | with_reducible assumption | with_reducible refine b_alloc ?_ _ | with_reducible refine b_drewN ?_ _ | with_reducible refine b_drew ?_ | with_reducible refine b_set ?_ (by first | (simp only [World.size_setCell, World.size_alloc, World.size_drew]; omega) | (simp; done) | (simp; omega)) _ | with_reducible refine b_step ?_ (by with_reducible assumption))), Blk.new _ _ _⟩ ?_
  rintro W11 ⟨hE, kXp⟩
  clear ekP fkP lkP ekW fkW lkW
  replace hb := b_step hb hE
  replace kP := kP.b hE
  replace hO1p := hO1p.b hE
  replace hO1f := hO1f.b hE
  replace kW := kW.b hE
  replace hXp := hXp.b hE
  have zW11 := (hE).size
  clear hE
  have kXpl := kXp.cells.2.2
  refine (toIntS_c f F m _ (hf.mono hb)).mono ?_
  intro e W12 hM
  obtain ⟨Axf, cxf, rfl, hXf, hXfg, hB⟩ := hM.go intE
  replace hb := b_step hb hB
  replace kP := kP.b hB
  replace hO1p := hO1p.b hB
  replace hO1f := hO1f.b hB
  replace kW := kW.b hB
  replace hXp := hXp.b hB
  replace kXp := kXp.b hB
  have zW12 := (hB).size
  clear hB
  have hXfl := fun k hk => (hXf.row.lt k hk).2
  obtain ⟨ekP, fkP, lkP⟩ := kP.cells
  obtain ⟨ekW, fkW, lkW⟩ := kW.cells
  obtain ⟨ekXp, fkXp, lkXp⟩ := kXp.cells
  go_wp2_with fail
  refine calls_name (fun W => Below W12.heap.size W12 W) (by repeat' (first | with_reducible exact Below.refl _ _ | with_reducible assumption | with_reducible refine b_alloc ?_ _ | with_reducible refine b_drewN ?_ _ | with_reducible refine b_drew ?_ | with_reducible refine b_set ?_ (by first | (simp only [World.size_setCell, World.size_alloc, World.size_drew]; omega) | (simp; done) | (simp; omega)) _ | with_reducible refine b_step ?_ (by with_reducible assumption))) ?_
  intro W13 hE
  clear ekP fkP lkP ekW fkW lkW ekXp fkXp lkXp
  replace hb := b_step hb hE
  replace kP := kP.b hE
  replace hO1p := hO1p.b hE
  replace hO1f := hO1f.b hE
  replace kW := kW.b hE
  replace hXp := hXp.b hE
  replace kXp := kXp.b hE
  replace hXf := hXf.b hE
  have zW13 := (hE).size
  clear hE
  refine (impl_FlyNext_c p f Axp Axf cxp cxf _ (hXp.rd_at' stepE) (hXf.rd_at' intE)).mono ?_
  rintro e W14 ⟨rfl, hB⟩
  replace hb := b_step hb hB
  replace kP := kP.b hB
  replace hO1p := hO1p.b hB
  replace hO1f := hO1f.b hB
  replace kW := kW.b hB
  replace hXp := hXp.b hB
  replace kXp := kXp.b hB
  replace hXf := hXf.b hB
  have zW14 := (hB).size
  clear hB
  obtain ⟨ekP, fkP, lkP⟩ := kP.cells
  obtain ⟨ekW, fkW, lkW⟩ := kW.cells
  obtain ⟨ekXp, fkXp, lkXp⟩ := kXp.cells
  go_wp2_with fail
  refine calls_name (fun W => Below W14.heap.size W14 W ∧ Blk W W14.heap.size #[.int .i64 (LL.nextLo p f), .int .i64 (LL.nextHi p f)] 52) ⟨(by repeat' (first | with_reducible exact Below.refl _ _ | with_reducible assumption | with_reducible refine b_alloc ?_ _ | with_reducible refine b_drewN ?_ _ | with_reducible refine b_drew ?_ | with_reducible refine b_set ?_ (by first | (simp only [World.size_setCell, World.size_alloc, World.size_drew]; omega) | (simp; done) | (simp; omega)) _ | with_reducible refine b_step ?_ (by with_reducible assumption))), Blk.new _ _ _⟩ ?_
  rintro W15 ⟨hE, kG⟩
  clear ekP fkP lkP ekW fkW lkW ekXp fkXp lkXp
  replace hb := b_step hb hE
  replace kP := kP.b hE
  replace hO1p := hO1p.b hE
  replace hO1f := hO1f.b hE
  replace kW := kW.b hE
  replace hXp := hXp.b hE
  replace kXp := kXp.b hE
  replace hXf := hXf.b hE
  have zW15 := (hE).size
  clear hE
  have kGl := kG.cells.2.2
  refine (eqFlySpan_c ⟨LL.nextLo p f, LL.nextHi p f⟩ _).mono ?_
  rintro e W16 ⟨rfl, hB⟩
  replace hb := b_step hb hB
  replace kP := kP.b hB
  replace hO1p := hO1p.b hB
  replace hO1f := hO1f.b hB
  replace kW := kW.b hB
  replace hXp := hXp.b hB
  replace kXp := kXp.b hB
  replace hXf := hXf.b hB
  replace kG := kG.b hB
  have zW16 := (hB).size
  clear hB
  obtain ⟨ekP, fkP, lkP⟩ := kP.cells
  obtain ⟨ekW, fkW, lkW⟩ := kW.cells
  obtain ⟨ekXp, fkXp, lkXp⟩ := kXp.cells
  obtain ⟨ekG, fkG, lkG⟩ := kG.cells
  go_wp2_with fail
  refine wp_name (fun W => Below W16.heap.size W16 W) (by repeat' (first | with_reducible exact Below.refl _ _ | with_reducible assumption | with_reducible refine b_alloc ?_ _ | with_reducible refine b_drewN ?_ _ | with_reducible refine b_drew ?_ | with_reducible refine b_set ?_ (by first | (simp only [World.size_setCell, World.size_alloc, World.size_drew]; omega) | (simp; done) | (simp; omega)) _ | with_reducible refine b_step ?_ (by with_reducible assumption))) ?_
  intro W17 hE
  clear ekP fkP lkP ekW fkW lkW ekXp fkXp lkXp ekG fkG lkG
  replace hb := b_step hb hE
  replace kP := kP.b hE
  replace hO1p := hO1p.b hE
  replace hO1f := hO1f.b hE
  replace kW := kW.b hE
  replace hXp := hXp.b hE
  replace kXp := kXp.b hE
  replace hXf := hXf.b hE
  replace kG := kG.b hE
  have zW17 := (hE).size
  clear hE
  obtain ⟨ekP, fkP, lkP⟩ := kP.cells
  obtain ⟨ekW, fkW, lkW⟩ := kW.cells
  obtain ⟨ekXp, fkXp, lkXp⟩ := kXp.cells
  obtain ⟨ekG, fkG, lkG⟩ := kG.cells
  refine rel_b [(2, fun v W => ∃ A9 c9, v = .agg #[.int .i64 p.q, .int .i64 p.s, .slice A9 p.steps.length c9, .int .i64 p.fr, .int .i64 p.by_] ∧ Own stepC 7 56 79 W (.slice A9 p.steps.length c9) p.steps), (3, fun v _ => v = .bool true)] (by kernel_rfl) (by kernel_rfl) ?_
  ((apply rel_plain (hR := rfl) (hF := fun _ => trivial) (hg := rfl)); (focus ((intro w' hL'); (obtain ⟨hcS, hfS, hlS⟩ := bcell hL'); (try simp only [World.size_setCell, World.size_alloc, World.size_drew] at hcS hfS hlS); (go_simp); (try go_bits); (try (first | (rw [if_pos (by omega)]; done) | (rw [if_neg (by omega)]; done) | (rw [if_pos (by omega)]; go_simp) | (rw [if_neg (by omega)]; go_simp))); (first | with_reducible rfl | exact rfl | skip))); (simp only [Act.put, List.setIfInBounds_toArray, List.set_cons_zero, List.set_cons_succ]))
  ((apply rel_plain (hR := rfl) (hF := fun _ => trivial) (hg := rfl)); (focus ((intro w' hL'); (obtain ⟨hcS, hfS, hlS⟩ := bcell hL'); (try simp only [World.size_setCell, World.size_alloc, World.size_drew] at hcS hfS hlS); (go_simp); (try go_bits); (try (first | (rw [if_pos (by omega)]; done) | (rw [if_neg (by omega)]; done) | (rw [if_pos (by omega)]; go_simp) | (rw [if_neg (by omega)]; go_simp))); (first | with_reducible rfl | exact rfl | skip))); (simp only [Act.put, List.setIfInBounds_toArray, List.set_cons_zero, List.set_cons_succ]))
  ((apply rel_told (hR := rfl) (hg := rfl)); (focus ((intro w' hL' hD'); (obtain ⟨hcS, hfS, hlS⟩ := bcell hL'); (try simp only [World.size_setCell, World.size_alloc, World.size_drew] at hcS hfS hlS); (go_simp); (try go_bits); (try (first | (rw [if_pos (by omega)]; done) | (rw [if_neg (by omega)]; done) | (rw [if_pos (by omega)]; go_simp) | (rw [if_neg (by omega)]; go_simp))); ((go_at_call 17); (refine (toFlyPath_c p A c _ (h.mono (b_step hb hL'))).mono ?_); (intro e w'' hM); (obtain ⟨A2, c2, rfl, hO2, -, hB⟩ := hM.gop); (refine ⟨_, rfl, hB, ?_⟩); ((repeat (first | (refine Tell.hit rfl ?_) | (refine Tell.skip rfl ?_))); exact ⟨A2, c2, rfl, hO2⟩)))); (intro v' w0' hv'); (replace hv' := Tell.out hv' rfl); (obtain ⟨A2p, c2p, rfl, -⟩ := hv'); (simp only [Act.put, List.setIfInBounds_toArray, List.set_cons_zero, List.set_cons_succ]))
  ((apply rel_told (hR := rfl) (hg := rfl)); (focus ((intro w' hL' hD'); (obtain ⟨hcS, hfS, hlS⟩ := bcell hL'); (try simp only [World.size_setCell, World.size_alloc, World.size_drew] at hcS hfS hlS); (go_simp); (try go_bits); (try (first | (rw [if_pos (by omega)]; done) | (rw [if_neg (by omega)]; done) | (rw [if_pos (by omega)]; go_simp) | (rw [if_neg (by omega)]; go_simp))); ((obtain ⟨w8, hl8, A8, c8, e8, hO8⟩ := Known.out (hD' ⟨2, .data⟩ (by simp) rfl) rfl); (injection e8 with e8; injection e8 with e8; injection e8 with e8 e8a; injection e8a with e8a e8b; injection e8b with e8b e8c; injection e8b with e8b e8d e8f; subst e8b e8f); (replace hO8 := hO8.b hl8); ((go_at_call 20); (refine (eqFlyPath_c p _ _ _ _ _ ((hXp.b hL').rd_at' stepE) (hO8.rd_at' stepE)).mono ?_); (rintro e w'' ⟨rfl, hb''⟩); (refine ⟨_, rfl, ?_, ?_⟩); (focus (first | exact hb'' | (subst hb''; exact Le.refl _))); ((repeat (first | (refine Tell.hit rfl ?_) | (refine Tell.skip rfl ?_))); exact rfl))))); (intro v' w0' hv'); (replace hv' := Tell.out hv' rfl); (obtain rfl := hv'); (simp only [Act.put, List.setIfInBounds_toArray, List.set_cons_zero, List.set_cons_succ]))
  ((apply rel_plain (hR := rfl) (hF := fun _ => trivial) (hg := rfl)); (focus ((intro w' hL'); (obtain ⟨hcS, hfS, hlS⟩ := bcell hL'); (try simp only [World.size_setCell, World.size_alloc, World.size_drew] at hcS hfS hlS); (go_simp); (try go_bits); (try (first | (rw [if_pos (by omega)]; done) | (rw [if_neg (by omega)]; done) | (rw [if_pos (by omega)]; go_simp) | (rw [if_neg (by omega)]; go_simp))); (first | with_reducible rfl | exact rfl | skip))); (simp only [Act.put, List.setIfInBounds_toArray, List.set_cons_zero, List.set_cons_succ]))
  refine rel_nil ?_
  intro W18 hE hF9
  clear hF9
  clear ekP fkP lkP ekW fkW lkW ekXp fkXp lkXp ekG fkG lkG
  replace hb := b_step hb hE
  replace kP := kP.b hE
  replace hO1p := hO1p.b hE
  replace hO1f := hO1f.b hE
  replace kW := kW.b hE
  replace hXp := hXp.b hE
  replace kXp := kXp.b hE
  replace hXf := hXf.b hE
  replace kG := kG.b hE
  have zW18 := (hE).size
  clear hE
  obtain ⟨ekP, fkP, lkP⟩ := kP.cells
  obtain ⟨ekW, fkW, lkW⟩ := kW.cells
  obtain ⟨ekXp, fkXp, lkXp⟩ := kXp.cells
  obtain ⟨ekG, fkG, lkG⟩ := kG.cells
  go_wp2_with fail
  refine calls_name (fun W => Below W18.heap.size W18 W) (by repeat' (first | with_reducible exact Below.refl _ _ | with_reducible assumption | with_reducible refine b_alloc ?_ _ | with_reducible refine b_drewN ?_ _ | with_reducible refine b_drew ?_ | with_reducible refine b_set ?_ (by first | (simp only [World.size_setCell, World.size_alloc, World.size_drew]; omega) | (simp; done) | (simp; omega)) _ | with_reducible refine b_step ?_ (by with_reducible assumption))) ?_
  intro W19 hE
  clear ekP fkP lkP ekW fkW lkW ekXp fkXp lkXp ekG fkG lkG
  replace hb := b_step hb hE
  replace kP := kP.b hE
  replace hO1p := hO1p.b hE
  replace hO1f := hO1f.b hE
  replace kW := kW.b hE
  replace hXp := hXp.b hE
  replace kXp := kXp.b hE
  replace hXf := hXf.b hE
  replace kG := kG.b hE
  have zW19 := (hE).size
  clear hE
  refine (toIntS_c f F m _ (hf.mono hb)).mono ?_
  intro e W20 hM
  obtain ⟨A3, c3, rfl, hO3, hO3g, hB⟩ := hM.go intE
  replace hb := b_step hb hB
  replace kP := kP.b hB
  replace hO1p := hO1p.b hB
  replace hO1f := hO1f.b hB
  replace kW := kW.b hB
  replace hXp := hXp.b hB
  replace kXp := kXp.b hB
  replace hXf := hXf.b hB
  replace kG := kG.b hB
  have zW20 := (hB).size
  clear hB
  have hO3l := fun k hk => (hO3.row.lt k hk).2
  obtain ⟨ekP, fkP, lkP⟩ := kP.cells
  obtain ⟨ekW, fkW, lkW⟩ := kW.cells
  obtain ⟨ekXp, fkXp, lkXp⟩ := kXp.cells
  obtain ⟨ekG, fkG, lkG⟩ := kG.cells
  go_wp2_with fail
  refine calls_name (fun W => Below W20.heap.size W20 W) (by repeat' (first | with_reducible exact Below.refl _ _ | with_reducible assumption | with_reducible refine b_alloc ?_ _ | with_reducible refine b_drewN ?_ _ | with_reducible refine b_drew ?_ | with_reducible refine b_set ?_ (by first | (simp only [World.size_setCell, World.size_alloc, World.size_drew]; omega) | (simp; done) | (simp; omega)) _ | with_reducible refine b_step ?_ (by with_reducible assumption))) ?_
  intro W21 hE
  clear ekP fkP lkP ekW fkW lkW ekXp fkXp lkXp ekG fkG lkG
  replace hb := b_step hb hE
  replace kP := kP.b hE
  replace hO1p := hO1p.b hE
  replace hO1f := hO1f.b hE
  replace kW := kW.b hE
  replace hXp := hXp.b hE
  replace kXp := kXp.b hE
  replace hXf := hXf.b hE
  replace kG := kG.b hE
  replace hO3 := hO3.b hE
  have zW21 := (hE).size
  clear hE
  refine (eqIntS_c f _ _ _ _ _ (hXf.rd_at' intE) (hO3.rd_at' intE)).mono ?_
  rintro e W22 ⟨rfl, hB⟩
  replace hb := b_step hb hB
  replace kP := kP.b hB
  replace hO1p := hO1p.b hB
  replace hO1f := hO1f.b hB
  replace kW := kW.b hB
  replace hXp := hXp.b hB
  replace kXp := kXp.b hB
  replace hXf := hXf.b hB
  replace kG := kG.b hB
  replace hO3 := hO3.b hB
  have zW22 := (hB).size
  clear hB
  obtain ⟨ekP, fkP, lkP⟩ := kP.cells
  obtain ⟨ekW, fkW, lkW⟩ := kW.cells
  obtain ⟨ekXp, fkXp, lkXp⟩ := kXp.cells
  obtain ⟨ekG, fkG, lkG⟩ := kG.cells
  go_wp2_with fail
  go_ret
  exact ⟨rfl, (by repeat' (first | with_reducible exact Below.refl _ _ | with_reducible assumption | with_reducible refine b_alloc ?_ _ | with_reducible refine b_drewN ?_ _ | with_reducible refine b_drew ?_ | with_reducible refine b_set ?_ (by first | (simp only [World.size_setCell, World.size_alloc, World.size_drew]; omega) | (simp; done) | (simp; omega)) _ | with_reducible refine b_step ?_ (by with_reducible assumption)))⟩
end Go.Proofs.Ytbcibaaolkbfbaa
