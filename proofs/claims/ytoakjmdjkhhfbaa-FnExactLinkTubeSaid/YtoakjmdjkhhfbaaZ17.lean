/- Exact laws, walked. -/
import Derived.Test.YtoakjmdjkhhfbaaK3
import Derived.Test.YtoakjmdjkhhfbaaP5
set_option linter.unusedVariables false
set_option linter.unusedSimpArgs false
namespace Go.Proofs.Ytoakjmdjkhhfbaa
open Go.RowKit
attribute [local go_sem] w_lt_add w_le_of w_le_add max2_i min2_i
set_option maxRecDepth 100000 in
set_option maxHeartbeats 4000000 in
theorem FnExactLinkTube_c (s : ByteArray) (p : LL.Path) (Ap : Option Addr) (cp : Nat) (t : Int) (w : World) (hss : s.size ≤ 9223372036854775807) (hp : RdS w Ap p.steps.length cp p.steps) : Calls Try.prog 9 #[.string s, .agg #[.int .i64 p.q, .int .i64 p.s, .slice Ap p.steps.length cp, .int .i64 p.fr, .int .i64 p.by_], .int .i64 t] w fun e w' => e = .returned (.bool true) ∧ Below w.heap.size w w' := by
  have hrp := hp.room
  have hnp : p.steps.length ≤ 140737488355328 := by omega
  by_cases hLs : 1048576 < s.size
  · have hL1 : decide ((1048576 : Int) < (s.size : Int)) = true := by simp; omega
    go_enter Try.func9, Try.ntmps9
    go_wp2_with fail
    go_ret
    exact ⟨rfl, (by repeat' (first | with_reducible exact Below.refl _ _ | with_reducible assumption | with_reducible refine b_alloc ?_ _ | with_reducible refine b_drewN ?_ _ | with_reducible refine b_drew ?_ | with_reducible refine b_set ?_ (by first | (simp only [World.size_setCell, World.size_alloc, World.size_drew]; omega) | (simp; done) | (simp; omega)) _ | with_reducible refine b_step ?_ (by with_reducible assumption)))⟩
  have hL1s : decide ((1048576 : Int) < (s.size : Int)) = false := by simp; omega
  have hL2s : (s.size : Int) ≤ 1048576 := by omega
  clear hLs
  go_enter Try.func9, Try.ntmps9
  go_wp2_with fail
  refine calls_name (fun W => Below w.heap.size w W ∧ Blk W w.heap.size #[.int .i64 p.q, .int .i64 p.s, .slice Ap p.steps.length cp, .int .i64 p.fr, .int .i64 p.by_] 51) ⟨(by repeat' (first | with_reducible exact Below.refl _ _ | with_reducible assumption | with_reducible refine b_alloc ?_ _ | with_reducible refine b_drewN ?_ _ | with_reducible refine b_drew ?_ | with_reducible refine b_set ?_ (by first | (simp only [World.size_setCell, World.size_alloc, World.size_drew]; omega) | (simp; done) | (simp; omega)) _ | with_reducible refine b_step ?_ (by with_reducible assumption))), (by repeat' (first | with_reducible assumption | with_reducible exact Blk.new _ _ _ | with_reducible exact Blk.new' _ _ (by first | (simp only [World.size_alloc, World.size_setCell, World.size_drew]; done) | (simp only [World.size_alloc, World.size_setCell, World.size_drew]; omega) | omega) | with_reducible refine Blk.a ?_ _ | with_reducible refine Blk.d ?_ | with_reducible refine Blk.dN ?_ _ | with_reducible refine Blk.s ?_ (by simp only [ne_eq]; omega) _ | with_reducible refine Blk.b ?_ (by with_reducible assumption)))⟩ ?_
  rintro W1 ⟨hE, kPp⟩
  have hb : Below w.heap.size w W1 := hE
  have zW1 := (hE).size
  clear hE
  have kPpl := kPp.cells.2.2
  refine (szFlyPath_c _ _ _ _ _ _ _ _ _ (by decide) (by decide) hnp).mono ?_
  rintro e W2 ⟨rfl, hB⟩
  replace hb := b_step hb hB
  replace kPp := kPp.b hB
  have zW2 := (hB).size
  clear hB
  by_cases hsp : (LL.sz 1048576 p.steps.length) < 0
  · go_wp2_with fail
    go_ret
    exact ⟨rfl, (by repeat' (first | with_reducible exact Below.refl _ _ | with_reducible assumption | with_reducible refine b_alloc ?_ _ | with_reducible refine b_drewN ?_ _ | with_reducible refine b_drew ?_ | with_reducible refine b_set ?_ (by first | (simp only [World.size_setCell, World.size_alloc, World.size_drew]; omega) | (simp; done) | (simp; omega)) _ | with_reducible refine b_step ?_ (by with_reducible assumption)))⟩
  have hmp := LL.sz_ge hsp
  have hs1p : decide ((LL.sz 1048576 p.steps.length) < 0) = false := by simpa using hsp
  clear hsp
  have hlr : (LL.cutL s (LL.tubeM p) t).length ≤ (LL.tubeM p).length := by unfold LL.cutL; split <;> first | exact LL.cutTo_len _ _ _ | simp
  have hlq := LL.tubeM_len p
  obtain ⟨ekPp, fkPp, lkPp⟩ := kPp.cells
  go_wp2_with fail
  refine calls_name (fun W => Below W2.heap.size W2 W) (by repeat' (first | with_reducible exact Below.refl _ _ | with_reducible assumption | with_reducible refine b_alloc ?_ _ | with_reducible refine b_drewN ?_ _ | with_reducible refine b_drew ?_ | with_reducible refine b_set ?_ (by first | (simp only [World.size_setCell, World.size_alloc, World.size_drew]; omega) | (simp; done) | (simp; omega)) _ | with_reducible refine b_step ?_ (by with_reducible assumption))) ?_
  intro W3 hE
  clear ekPp fkPp lkPp
  replace hb := b_step hb hE
  replace kPp := kPp.b hE
  have zW3 := (hE).size
  clear hE
  refine (toFlyPath_c p Ap cp _ (hp.mono hb)).mono ?_
  intro e W4 hM
  obtain ⟨Ap1, cp1, rfl, hOp1, hOp1g, hB⟩ := hM.gop
  replace hb := b_step hb hB
  replace kPp := kPp.b hB
  have zW4 := (hB).size
  clear hB
  have hOp1l := fun k hk => (hOp1.row.lt k hk).2
  obtain ⟨ekPp, fkPp, lkPp⟩ := kPp.cells
  go_wp2_with fail
  refine calls_name (fun W => Below W4.heap.size W4 W) (by repeat' (first | with_reducible exact Below.refl _ _ | with_reducible assumption | with_reducible refine b_alloc ?_ _ | with_reducible refine b_drewN ?_ _ | with_reducible refine b_drew ?_ | with_reducible refine b_set ?_ (by first | (simp only [World.size_setCell, World.size_alloc, World.size_drew]; omega) | (simp; done) | (simp; omega)) _ | with_reducible refine b_step ?_ (by with_reducible assumption))) ?_
  intro W5 hE
  clear ekPp fkPp lkPp
  replace hb := b_step hb hE
  replace kPp := kPp.b hE
  replace hOp1 := hOp1.b hE
  have zW5 := (hE).size
  clear hE
  refine (spec_LinkTube_c s p Ap1 cp1 t hss _ (hOp1.rd_at' stepE)).mono ?_
  intro e W6 hM
  obtain ⟨Aw, cw, rfl, hW, hWg, hB⟩ := hM
  replace hb := b_step hb hB
  replace kPp := kPp.b hB
  replace hOp1 := hOp1.b hB
  have zW6 := (hB).size
  clear hB
  have hWl := fun k hk => (hW.row.lt k hk).2
  obtain ⟨ekPp, fkPp, lkPp⟩ := kPp.cells
  go_wp2_with fail
  refine calls_name (fun W => Below W6.heap.size W6 W ∧ Blk W W6.heap.size #[.string (LL.cutN s (LL.tubeM p)), .slice Aw (LL.cutL s (LL.tubeM p) t).length cw] 39) ⟨(by repeat' (first | with_reducible exact Below.refl _ _ | with_reducible assumption | with_reducible refine b_alloc ?_ _ | with_reducible refine b_drewN ?_ _ | with_reducible refine b_drew ?_ | with_reducible refine b_set ?_ (by first | (simp only [World.size_setCell, World.size_alloc, World.size_drew]; omega) | (simp; done) | (simp; omega)) _ | with_reducible refine b_step ?_ (by with_reducible assumption))), Blk.new _ _ _⟩ ?_
  rintro W7 ⟨hE, kW⟩
  clear ekPp fkPp lkPp
  replace hb := b_step hb hE
  replace kPp := kPp.b hE
  replace hOp1 := hOp1.b hE
  replace hW := hW.b hE
  have zW7 := (hE).size
  clear hE
  have kWl := kW.cells.2.2
  refine (toFlyPath_c p Ap cp _ (hp.mono hb)).mono ?_
  intro e W8 hM
  obtain ⟨Axp, cxp, rfl, hXp, hXpg, hB⟩ := hM.gop
  replace hb := b_step hb hB
  replace kPp := kPp.b hB
  replace hOp1 := hOp1.b hB
  replace hW := hW.b hB
  replace kW := kW.b hB
  have zW8 := (hB).size
  clear hB
  have hXpl := fun k hk => (hXp.row.lt k hk).2
  obtain ⟨ekPp, fkPp, lkPp⟩ := kPp.cells
  obtain ⟨ekW, fkW, lkW⟩ := kW.cells
  go_wp2_with fail
  refine calls_name (fun W => Below W8.heap.size W8 W ∧ Blk W W8.heap.size #[.int .i64 p.q, .int .i64 p.s, .slice Axp p.steps.length cxp, .int .i64 p.fr, .int .i64 p.by_] 59) ⟨(by repeat' (first | with_reducible exact Below.refl _ _ | with_reducible assumption | with_reducible refine b_alloc ?_ _ | with_reducible refine b_drewN ?_ _ | with_reducible refine b_drew ?_ | with_reducible refine b_set ?_ (by first | (simp only [World.size_setCell, World.size_alloc, World.size_drew]; omega) | (simp; done) | (simp; omega)) _ | with_reducible refine b_step ?_ (by with_reducible assumption))), Blk.new _ _ _⟩ ?_
  rintro W9 ⟨hE, kXp⟩
  clear ekPp fkPp lkPp ekW fkW lkW
  replace hb := b_step hb hE
  replace kPp := kPp.b hE
  replace hOp1 := hOp1.b hE
  replace hW := hW.b hE
  replace kW := kW.b hE
  replace hXp := hXp.b hE
  have zW9 := (hE).size
  clear hE
  have kXpl := kXp.cells.2.2
  refine (impl_LinkTube_c s p Axp cxp t hss _ (hXp.rd_at' stepE)).mono ?_
  intro e W10 hM
  obtain ⟨Ag, cg, rfl, hG, hGg, hB⟩ := hM
  replace hb := b_step hb hB
  replace kPp := kPp.b hB
  replace hOp1 := hOp1.b hB
  replace hW := hW.b hB
  replace kW := kW.b hB
  replace hXp := hXp.b hB
  replace kXp := kXp.b hB
  have zW10 := (hB).size
  clear hB
  have hGl := fun k hk => (hG.row.lt k hk).2
  obtain ⟨ekPp, fkPp, lkPp⟩ := kPp.cells
  obtain ⟨ekW, fkW, lkW⟩ := kW.cells
  obtain ⟨ekXp, fkXp, lkXp⟩ := kXp.cells
  go_wp2_with fail
  refine calls_name (fun W => Below W10.heap.size W10 W ∧ Blk W W10.heap.size #[.string (LL.cutN s (LL.tubeM p)), .slice Ag (LL.cutL s (LL.tubeM p) t).length cg] 39) ⟨(by repeat' (first | with_reducible exact Below.refl _ _ | with_reducible assumption | with_reducible refine b_alloc ?_ _ | with_reducible refine b_drewN ?_ _ | with_reducible refine b_drew ?_ | with_reducible refine b_set ?_ (by first | (simp only [World.size_setCell, World.size_alloc, World.size_drew]; omega) | (simp; done) | (simp; omega)) _ | with_reducible refine b_step ?_ (by with_reducible assumption))), Blk.new _ _ _⟩ ?_
  rintro W11 ⟨hE, kG⟩
  clear ekPp fkPp lkPp ekW fkW lkW ekXp fkXp lkXp
  replace hb := b_step hb hE
  replace kPp := kPp.b hE
  replace hOp1 := hOp1.b hE
  replace hW := hW.b hE
  replace kW := kW.b hE
  replace hXp := hXp.b hE
  replace kXp := kXp.b hE
  replace hG := hG.b hE
  have zW11 := (hE).size
  clear hE
  have kGl := kG.cells.2.2
  refine (eqProbeTube_c (LL.cutN s (LL.tubeM p)) (LL.cutL s (LL.tubeM p) t) _ _ _ _ _ (hG.rd_at' boxE) (hW.rd_at' boxE)).mono ?_
  rintro e W12 ⟨rfl, hB⟩
  replace hb := b_step hb hB
  replace kPp := kPp.b hB
  replace hOp1 := hOp1.b hB
  replace hW := hW.b hB
  replace kW := kW.b hB
  replace hXp := hXp.b hB
  replace kXp := kXp.b hB
  replace hG := hG.b hB
  replace kG := kG.b hB
  have zW12 := (hB).size
  clear hB
  obtain ⟨ekPp, fkPp, lkPp⟩ := kPp.cells
  obtain ⟨ekW, fkW, lkW⟩ := kW.cells
  obtain ⟨ekXp, fkXp, lkXp⟩ := kXp.cells
  obtain ⟨ekG, fkG, lkG⟩ := kG.cells
  go_wp2_with fail
  refine wp_name (fun W => Below W12.heap.size W12 W) (by repeat' (first | with_reducible exact Below.refl _ _ | with_reducible assumption | with_reducible refine b_alloc ?_ _ | with_reducible refine b_drewN ?_ _ | with_reducible refine b_drew ?_ | with_reducible refine b_set ?_ (by first | (simp only [World.size_setCell, World.size_alloc, World.size_drew]; omega) | (simp; done) | (simp; omega)) _ | with_reducible refine b_step ?_ (by with_reducible assumption))) ?_
  intro W13 hE
  clear ekPp fkPp lkPp ekW fkW lkW ekXp fkXp lkXp ekG fkG lkG
  replace hb := b_step hb hE
  replace kPp := kPp.b hE
  replace hOp1 := hOp1.b hE
  replace hW := hW.b hE
  replace kW := kW.b hE
  replace hXp := hXp.b hE
  replace kXp := kXp.b hE
  replace hG := hG.b hE
  replace kG := kG.b hE
  have zW13 := (hE).size
  clear hE
  obtain ⟨ekPp, fkPp, lkPp⟩ := kPp.cells
  obtain ⟨ekW, fkW, lkW⟩ := kW.cells
  obtain ⟨ekXp, fkXp, lkXp⟩ := kXp.cells
  obtain ⟨ekG, fkG, lkG⟩ := kG.cells
  refine rel_b [(2, fun v W => ∃ A9 c9, v = .agg #[.int .i64 p.q, .int .i64 p.s, .slice A9 p.steps.length c9, .int .i64 p.fr, .int .i64 p.by_] ∧ Own stepC 7 56 178 W (.slice A9 p.steps.length c9) p.steps), (3, fun v _ => v = .bool true)] (by kernel_rfl) (by kernel_rfl) ?_
  ((apply rel_plain (hR := rfl) (hF := fun _ => trivial) (hg := rfl)); (focus ((intro w' hL'); (obtain ⟨hcS, hfS, hlS⟩ := bcell hL'); (try simp only [World.size_setCell, World.size_alloc, World.size_drew] at hcS hfS hlS); (go_simp); (try go_bits); (try (first | (rw [if_pos (by omega)]; done) | (rw [if_neg (by omega)]; done) | (rw [if_pos (by omega)]; go_simp) | (rw [if_neg (by omega)]; go_simp))); (first | with_reducible rfl | exact rfl | skip))); (simp only [Act.put, List.setIfInBounds_toArray, List.set_cons_zero, List.set_cons_succ]))
  ((apply rel_plain (hR := rfl) (hF := fun _ => trivial) (hg := rfl)); (focus ((intro w' hL'); (obtain ⟨hcS, hfS, hlS⟩ := bcell hL'); (try simp only [World.size_setCell, World.size_alloc, World.size_drew] at hcS hfS hlS); (go_simp); (try go_bits); (try (first | (rw [if_pos (by omega)]; done) | (rw [if_neg (by omega)]; done) | (rw [if_pos (by omega)]; go_simp) | (rw [if_neg (by omega)]; go_simp))); (first | with_reducible rfl | exact rfl | skip))); (simp only [Act.put, List.setIfInBounds_toArray, List.set_cons_zero, List.set_cons_succ]))
  ((apply rel_told (hR := rfl) (hg := rfl)); (focus ((intro w' hL' hD'); (obtain ⟨hcS, hfS, hlS⟩ := bcell hL'); (try simp only [World.size_setCell, World.size_alloc, World.size_drew] at hcS hfS hlS); (go_simp); (try go_bits); (try (first | (rw [if_pos (by omega)]; done) | (rw [if_neg (by omega)]; done) | (rw [if_pos (by omega)]; go_simp) | (rw [if_neg (by omega)]; go_simp))); ((go_at_call 44); (refine (toFlyPath_c p Ap cp _ (hp.mono (b_step hb hL'))).mono ?_); (intro e w'' hM); (obtain ⟨A2, c2, rfl, hO2, hO2g, hB⟩ := hM.gop); (refine ⟨_, rfl, hB, ?_⟩); ((repeat (first | (refine Tell.hit rfl ?_) | (refine Tell.skip rfl ?_))); exact ⟨A2, c2, rfl, hO2⟩)))); (intro v' w0' hv'); (replace hv' := Tell.out hv' rfl); (obtain ⟨A2p, c2p, rfl, -⟩ := hv'); (simp only [Act.put, List.setIfInBounds_toArray, List.set_cons_zero, List.set_cons_succ]))
  ((apply rel_told (hR := rfl) (hg := rfl)); (focus ((intro w' hL' hD'); (obtain ⟨hcS, hfS, hlS⟩ := bcell hL'); (try simp only [World.size_setCell, World.size_alloc, World.size_drew] at hcS hfS hlS); (go_simp); (try go_bits); (try (first | (rw [if_pos (by omega)]; done) | (rw [if_neg (by omega)]; done) | (rw [if_pos (by omega)]; go_simp) | (rw [if_neg (by omega)]; go_simp))); ((obtain ⟨w8, hl8, A8, c8, e8, hO8⟩ := Known.out (hD' ⟨2, .data⟩ (by simp) rfl) rfl); (injection e8 with e8; injection e8 with e8; injection e8 with e8 e8a; injection e8a with e8a e8b; injection e8b with e8b e8c; injection e8b with e8b e8d e8f; subst e8b e8f); (replace hO8 := hO8.b hl8); ((go_at_call 46); (refine (eqFlyPath_c p _ _ _ _ _ ((hXp.b hL').rd_at' stepE) (hO8.rd_at' stepE)).mono ?_); (rintro e w'' ⟨rfl, hb''⟩); (refine ⟨_, rfl, ?_, ?_⟩); (focus (first | exact hb'' | (subst hb''; exact Le.refl _))); ((repeat (first | (refine Tell.hit rfl ?_) | (refine Tell.skip rfl ?_))); exact rfl))))); (intro v' w0' hv'); (replace hv' := Tell.out hv' rfl); (obtain rfl := hv'); (simp only [Act.put, List.setIfInBounds_toArray, List.set_cons_zero, List.set_cons_succ]))
  ((apply rel_plain (hR := rfl) (hF := fun _ => trivial) (hg := rfl)); (focus ((intro w' hL'); (obtain ⟨hcS, hfS, hlS⟩ := bcell hL'); (try simp only [World.size_setCell, World.size_alloc, World.size_drew] at hcS hfS hlS); (go_simp); (try go_bits); (try (first | (rw [if_pos (by omega)]; done) | (rw [if_neg (by omega)]; done) | (rw [if_pos (by omega)]; go_simp) | (rw [if_neg (by omega)]; go_simp))); (first | with_reducible rfl | exact rfl | skip))); (simp only [Act.put, List.setIfInBounds_toArray, List.set_cons_zero, List.set_cons_succ]))
  refine rel_nil ?_
  intro W14 hE hF9
  clear hF9
  clear ekPp fkPp lkPp ekW fkW lkW ekXp fkXp lkXp ekG fkG lkG
  replace hb := b_step hb hE
  replace kPp := kPp.b hE
  replace hOp1 := hOp1.b hE
  replace hW := hW.b hE
  replace kW := kW.b hE
  replace hXp := hXp.b hE
  replace kXp := kXp.b hE
  replace hG := hG.b hE
  replace kG := kG.b hE
  have zW14 := (hE).size
  clear hE
  obtain ⟨ekPp, fkPp, lkPp⟩ := kPp.cells
  obtain ⟨ekW, fkW, lkW⟩ := kW.cells
  obtain ⟨ekXp, fkXp, lkXp⟩ := kXp.cells
  obtain ⟨ekG, fkG, lkG⟩ := kG.cells
  go_wp2_with fail
  refine calls_name (fun W => Below W14.heap.size W14 W) (by repeat' (first | with_reducible exact Below.refl _ _ | with_reducible assumption | with_reducible refine b_alloc ?_ _ | with_reducible refine b_drewN ?_ _ | with_reducible refine b_drew ?_ | with_reducible refine b_set ?_ (by first | (simp only [World.size_setCell, World.size_alloc, World.size_drew]; omega) | (simp; done) | (simp; omega)) _ | with_reducible refine b_step ?_ (by with_reducible assumption))) ?_
  intro W15 hE
  clear ekPp fkPp lkPp ekW fkW lkW ekXp fkXp lkXp ekG fkG lkG
  replace hb := b_step hb hE
  replace kPp := kPp.b hE
  replace hOp1 := hOp1.b hE
  replace hW := hW.b hE
  replace kW := kW.b hE
  replace hXp := hXp.b hE
  replace kXp := kXp.b hE
  replace hG := hG.b hE
  replace kG := kG.b hE
  have zW15 := (hE).size
  clear hE
  refine (markFlyPath_c p Axp cxp _ (by omega) (by omega) _ hXp).mono ?_
  rintro e W16 ⟨rfl, hXpm, hg⟩
  replace hg := GrownS.of hg
  replace kPp := kPp.gS hg (fun h2 => by have h5 := hXpl _ h2; have h6 := hXpg _ h2; have h7 := kPpl; omega)
  replace hOp1 := hOp1.gS hg (fun k h1 h2 => by have h3 := hOp1l k h1; have h4 := hOp1g k h1; have h5 := hXpl k h2; have h6 := hXpg k h2; omega)
  replace hW := hW.gS hg (fun k h1 h2 => by have h3 := hWl k h1; have h4 := hWg k h1; have h5 := hXpl k h2; have h6 := hXpg k h2; omega)
  replace kW := kW.gS hg (fun h2 => by have h5 := hXpl _ h2; have h6 := hXpg _ h2; have h7 := kWl; omega)
  replace kXp := kXp.gS hg (fun h2 => by have h5 := hXpl _ h2; have h6 := hXpg _ h2; have h7 := kXpl; omega)
  replace hG := hG.gS hg (fun k h1 h2 => by have h3 := hGl k h1; have h4 := hGg k h1; have h5 := hXpl k h2; have h6 := hXpg k h2; omega)
  replace kG := kG.gS hg (fun h2 => by have h5 := hXpl _ h2; have h6 := hXpg _ h2; have h7 := kGl; omega)
  replace hb := b_gS hb hg hb.size (fun k hk => by have := hXpg k hk; omega)
  have zW16 := hg.size
  clear hXp hg
  clear hXpm
  obtain ⟨ekPp, fkPp, lkPp⟩ := kPp.cells
  obtain ⟨ekW, fkW, lkW⟩ := kW.cells
  obtain ⟨ekXp, fkXp, lkXp⟩ := kXp.cells
  obtain ⟨ekG, fkG, lkG⟩ := kG.cells
  go_wp2_with fail
  refine calls_name (fun W => Below W16.heap.size W16 W) (by repeat' (first | with_reducible exact Below.refl _ _ | with_reducible assumption | with_reducible refine b_alloc ?_ _ | with_reducible refine b_drewN ?_ _ | with_reducible refine b_drew ?_ | with_reducible refine b_set ?_ (by first | (simp only [World.size_setCell, World.size_alloc, World.size_drew]; omega) | (simp; done) | (simp; omega)) _ | with_reducible refine b_step ?_ (by with_reducible assumption))) ?_
  intro W17 hE
  clear ekPp fkPp lkPp ekW fkW lkW ekXp fkXp lkXp ekG fkG lkG
  replace hb := b_step hb hE
  replace kPp := kPp.b hE
  replace hOp1 := hOp1.b hE
  replace hW := hW.b hE
  replace kW := kW.b hE
  replace kXp := kXp.b hE
  replace hG := hG.b hE
  replace kG := kG.b hE
  have zW17 := (hE).size
  clear hE
  refine (eqProbeTube_c (LL.cutN s (LL.tubeM p)) (LL.cutL s (LL.tubeM p) t) _ _ _ _ _ (hG.rd_at' boxE) (hW.rd_at' boxE)).mono ?_
  rintro e W18 ⟨rfl, hB⟩
  replace hb := b_step hb hB
  replace kPp := kPp.b hB
  replace hOp1 := hOp1.b hB
  replace hW := hW.b hB
  replace kW := kW.b hB
  replace kXp := kXp.b hB
  replace hG := hG.b hB
  replace kG := kG.b hB
  have zW18 := (hB).size
  clear hB
  obtain ⟨ekPp, fkPp, lkPp⟩ := kPp.cells
  obtain ⟨ekW, fkW, lkW⟩ := kW.cells
  obtain ⟨ekXp, fkXp, lkXp⟩ := kXp.cells
  obtain ⟨ekG, fkG, lkG⟩ := kG.cells
  go_wp2_with fail
  refine calls_name (fun W => Below W18.heap.size W18 W) (by repeat' (first | with_reducible exact Below.refl _ _ | with_reducible assumption | with_reducible refine b_alloc ?_ _ | with_reducible refine b_drewN ?_ _ | with_reducible refine b_drew ?_ | with_reducible refine b_set ?_ (by first | (simp only [World.size_setCell, World.size_alloc, World.size_drew]; omega) | (simp; done) | (simp; omega)) _ | with_reducible refine b_step ?_ (by with_reducible assumption))) ?_
  intro W19 hE
  clear ekPp fkPp lkPp ekW fkW lkW ekXp fkXp lkXp ekG fkG lkG
  replace hb := b_step hb hE
  replace kPp := kPp.b hE
  replace hOp1 := hOp1.b hE
  replace hW := hW.b hE
  replace kW := kW.b hE
  replace kXp := kXp.b hE
  replace hG := hG.b hE
  replace kG := kG.b hE
  have zW19 := (hE).size
  clear hE
  refine (markProbeTube_c (LL.cutN s (LL.tubeM p)) (LL.cutL s (LL.tubeM p) t) Ag cg _ (by omega) (by omega) _ hG).mono ?_
  rintro e W20 ⟨rfl, hGm, hg⟩
  replace hg := GrownS.of hg
  replace kPp := kPp.gS hg (fun h2 => by have h5 := hGl _ h2; have h6 := hGg _ h2; have h7 := kPpl; omega)
  replace hOp1 := hOp1.gS hg (fun k h1 h2 => by have h3 := hOp1l k h1; have h4 := hOp1g k h1; have h5 := hGl k h2; have h6 := hGg k h2; omega)
  replace hW := hW.gS hg (fun k h1 h2 => by have h3 := hWl k h1; have h4 := hWg k h1; have h5 := hGl k h2; have h6 := hGg k h2; omega)
  replace kW := kW.gS hg (fun h2 => by have h5 := hGl _ h2; have h6 := hGg _ h2; have h7 := kWl; omega)
  replace kXp := kXp.gS hg (fun h2 => by have h5 := hGl _ h2; have h6 := hGg _ h2; have h7 := kXpl; omega)
  replace kG := kG.gS hg (fun h2 => by have h5 := hGl _ h2; have h6 := hGg _ h2; have h7 := kGl; omega)
  replace hb := b_gS hb hg hb.size (fun k hk => by have := hGg k hk; omega)
  have zW20 := hg.size
  clear hG hg
  obtain ⟨ekPp, fkPp, lkPp⟩ := kPp.cells
  obtain ⟨ekW, fkW, lkW⟩ := kW.cells
  obtain ⟨ekXp, fkXp, lkXp⟩ := kXp.cells
  obtain ⟨ekG, fkG, lkG⟩ := kG.cells
  go_wp2_with fail
  refine calls_name (fun W => Below W20.heap.size W20 W) (by repeat' (first | with_reducible exact Below.refl _ _ | with_reducible assumption | with_reducible refine b_alloc ?_ _ | with_reducible refine b_drewN ?_ _ | with_reducible refine b_drew ?_ | with_reducible refine b_set ?_ (by first | (simp only [World.size_setCell, World.size_alloc, World.size_drew]; omega) | (simp; done) | (simp; omega)) _ | with_reducible refine b_step ?_ (by with_reducible assumption))) ?_
  intro W21 hE
  clear ekPp fkPp lkPp ekW fkW lkW ekXp fkXp lkXp ekG fkG lkG
  replace hb := b_step hb hE
  replace kPp := kPp.b hE
  replace hOp1 := hOp1.b hE
  replace hW := hW.b hE
  replace kW := kW.b hE
  replace kXp := kXp.b hE
  replace kG := kG.b hE
  replace hGm := hGm.b hE
  have zW21 := (hE).size
  clear hE
  refine (heldProbeTube_c (LL.cutN s (LL.tubeM p)) (LL.cutL s (LL.tubeM p) t) Ag cg _ (by omega) (by omega) _ (hGm.rd_at' boxE)).mono ?_
  rintro e W22 ⟨rfl, hB⟩
  replace hb := b_step hb hB
  replace kPp := kPp.b hB
  replace hOp1 := hOp1.b hB
  replace hW := hW.b hB
  replace kW := kW.b hB
  replace kXp := kXp.b hB
  replace kG := kG.b hB
  replace hGm := hGm.b hB
  have zW22 := (hB).size
  clear hB
  obtain ⟨ekPp, fkPp, lkPp⟩ := kPp.cells
  obtain ⟨ekW, fkW, lkW⟩ := kW.cells
  obtain ⟨ekXp, fkXp, lkXp⟩ := kXp.cells
  obtain ⟨ekG, fkG, lkG⟩ := kG.cells
  go_wp2_with fail
  refine calls_name (fun W => Below W22.heap.size W22 W) (by repeat' (first | with_reducible exact Below.refl _ _ | with_reducible assumption | with_reducible refine b_alloc ?_ _ | with_reducible refine b_drewN ?_ _ | with_reducible refine b_drew ?_ | with_reducible refine b_set ?_ (by first | (simp only [World.size_setCell, World.size_alloc, World.size_drew]; omega) | (simp; done) | (simp; omega)) _ | with_reducible refine b_step ?_ (by with_reducible assumption))) ?_
  intro W23 hE
  clear ekPp fkPp lkPp ekW fkW lkW ekXp fkXp lkXp ekG fkG lkG
  replace hb := b_step hb hE
  replace kPp := kPp.b hE
  replace hOp1 := hOp1.b hE
  replace hW := hW.b hE
  replace kW := kW.b hE
  replace kXp := kXp.b hE
  replace kG := kG.b hE
  replace hGm := hGm.b hE
  have zW23 := (hE).size
  clear hE
  refine (toFlyPath_c p Ap cp _ (hp.mono hb)).mono ?_
  intro e W24 hM
  obtain ⟨Ap2, cp2, rfl, hOp2, hOp2g, hB⟩ := hM.gop
  replace hb := b_step hb hB
  replace kPp := kPp.b hB
  replace hOp1 := hOp1.b hB
  replace hW := hW.b hB
  replace kW := kW.b hB
  replace kXp := kXp.b hB
  replace kG := kG.b hB
  replace hGm := hGm.b hB
  have zW24 := (hB).size
  clear hB
  have hOp2l := fun k hk => (hOp2.row.lt k hk).2
  obtain ⟨ekPp, fkPp, lkPp⟩ := kPp.cells
  obtain ⟨ekW, fkW, lkW⟩ := kW.cells
  obtain ⟨ekXp, fkXp, lkXp⟩ := kXp.cells
  obtain ⟨ekG, fkG, lkG⟩ := kG.cells
  go_wp2_with fail
  refine calls_name (fun W => Below W24.heap.size W24 W) (by repeat' (first | with_reducible exact Below.refl _ _ | with_reducible assumption | with_reducible refine b_alloc ?_ _ | with_reducible refine b_drewN ?_ _ | with_reducible refine b_drew ?_ | with_reducible refine b_set ?_ (by first | (simp only [World.size_setCell, World.size_alloc, World.size_drew]; omega) | (simp; done) | (simp; omega)) _ | with_reducible refine b_step ?_ (by with_reducible assumption))) ?_
  intro W25 hE
  clear ekPp fkPp lkPp ekW fkW lkW ekXp fkXp lkXp ekG fkG lkG
  replace hb := b_step hb hE
  replace kPp := kPp.b hE
  replace hOp1 := hOp1.b hE
  replace hW := hW.b hE
  replace kW := kW.b hE
  replace kXp := kXp.b hE
  replace kG := kG.b hE
  replace hGm := hGm.b hE
  replace hOp2 := hOp2.b hE
  have zW25 := (hE).size
  clear hE
  refine (impl_LinkTube_c s p Ap2 cp2 t hss _ (hOp2.rd_at' stepE)).mono ?_
  intro e W26 hM
  obtain ⟨Ah, ch, rfl, hH, hHg, hB⟩ := hM
  replace hb := b_step hb hB
  replace kPp := kPp.b hB
  replace hOp1 := hOp1.b hB
  replace hW := hW.b hB
  replace kW := kW.b hB
  replace kXp := kXp.b hB
  replace kG := kG.b hB
  replace hGm := hGm.b hB
  replace hOp2 := hOp2.b hB
  have zW26 := (hB).size
  clear hB
  have hHl := fun k hk => (hH.row.lt k hk).2
  obtain ⟨ekPp, fkPp, lkPp⟩ := kPp.cells
  obtain ⟨ekW, fkW, lkW⟩ := kW.cells
  obtain ⟨ekXp, fkXp, lkXp⟩ := kXp.cells
  obtain ⟨ekG, fkG, lkG⟩ := kG.cells
  go_wp2_with fail
  refine calls_name (fun W => Below W26.heap.size W26 W ∧ Blk W W26.heap.size #[.string (LL.cutN s (LL.tubeM p)), .slice Ah (LL.cutL s (LL.tubeM p) t).length ch] 39) ⟨(by repeat' (first | with_reducible exact Below.refl _ _ | with_reducible assumption | with_reducible refine b_alloc ?_ _ | with_reducible refine b_drewN ?_ _ | with_reducible refine b_drew ?_ | with_reducible refine b_set ?_ (by first | (simp only [World.size_setCell, World.size_alloc, World.size_drew]; omega) | (simp; done) | (simp; omega)) _ | with_reducible refine b_step ?_ (by with_reducible assumption))), Blk.new _ _ _⟩ ?_
  rintro W27 ⟨hE, kH⟩
  clear ekPp fkPp lkPp ekW fkW lkW ekXp fkXp lkXp ekG fkG lkG
  replace hb := b_step hb hE
  replace kPp := kPp.b hE
  replace hOp1 := hOp1.b hE
  replace hW := hW.b hE
  replace kW := kW.b hE
  replace kXp := kXp.b hE
  replace kG := kG.b hE
  replace hGm := hGm.b hE
  replace hOp2 := hOp2.b hE
  replace hH := hH.b hE
  have zW27 := (hE).size
  clear hE
  have kHl := kH.cells.2.2
  refine (eqProbeTube_c (LL.cutN s (LL.tubeM p)) (LL.cutL s (LL.tubeM p) t) _ _ _ _ _ (hH.rd_at' boxE) (hW.rd_at' boxE)).mono ?_
  rintro e W28 ⟨rfl, hB⟩
  replace hb := b_step hb hB
  replace kPp := kPp.b hB
  replace hOp1 := hOp1.b hB
  replace hW := hW.b hB
  replace kW := kW.b hB
  replace kXp := kXp.b hB
  replace kG := kG.b hB
  replace hGm := hGm.b hB
  replace hOp2 := hOp2.b hB
  replace hH := hH.b hB
  replace kH := kH.b hB
  have zW28 := (hB).size
  clear hB
  obtain ⟨ekPp, fkPp, lkPp⟩ := kPp.cells
  obtain ⟨ekW, fkW, lkW⟩ := kW.cells
  obtain ⟨ekXp, fkXp, lkXp⟩ := kXp.cells
  obtain ⟨ekG, fkG, lkG⟩ := kG.cells
  obtain ⟨ekH, fkH, lkH⟩ := kH.cells
  go_wp2_with fail
  refine calls_name (fun W => Below W28.heap.size W28 W) (by repeat' (first | with_reducible exact Below.refl _ _ | with_reducible assumption | with_reducible refine b_alloc ?_ _ | with_reducible refine b_drewN ?_ _ | with_reducible refine b_drew ?_ | with_reducible refine b_set ?_ (by first | (simp only [World.size_setCell, World.size_alloc, World.size_drew]; omega) | (simp; done) | (simp; omega)) _ | with_reducible refine b_step ?_ (by with_reducible assumption))) ?_
  intro W29 hE
  clear ekPp fkPp lkPp ekW fkW lkW ekXp fkXp lkXp ekG fkG lkG ekH fkH lkH
  replace hb := b_step hb hE
  replace kPp := kPp.b hE
  replace hOp1 := hOp1.b hE
  replace hW := hW.b hE
  replace kW := kW.b hE
  replace kXp := kXp.b hE
  replace kG := kG.b hE
  replace hGm := hGm.b hE
  replace hOp2 := hOp2.b hE
  replace hH := hH.b hE
  replace kH := kH.b hE
  have zW29 := (hE).size
  clear hE
  refine (heldProbeTube_c (LL.cutN s (LL.tubeM p)) (LL.cutL s (LL.tubeM p) t) Ag cg _ (by omega) (by omega) _ (hGm.rd_at' boxE)).mono ?_
  rintro e W30 ⟨rfl, hB⟩
  replace hb := b_step hb hB
  replace kPp := kPp.b hB
  replace hOp1 := hOp1.b hB
  replace hW := hW.b hB
  replace kW := kW.b hB
  replace kXp := kXp.b hB
  replace kG := kG.b hB
  replace hGm := hGm.b hB
  replace hOp2 := hOp2.b hB
  replace hH := hH.b hB
  replace kH := kH.b hB
  have zW30 := (hB).size
  clear hB
  obtain ⟨ekPp, fkPp, lkPp⟩ := kPp.cells
  obtain ⟨ekW, fkW, lkW⟩ := kW.cells
  obtain ⟨ekXp, fkXp, lkXp⟩ := kXp.cells
  obtain ⟨ekG, fkG, lkG⟩ := kG.cells
  obtain ⟨ekH, fkH, lkH⟩ := kH.cells
  go_wp2_with fail
  go_ret
  exact ⟨rfl, (by repeat' (first | with_reducible exact Below.refl _ _ | with_reducible assumption | with_reducible refine b_alloc ?_ _ | with_reducible refine b_drewN ?_ _ | with_reducible refine b_drew ?_ | with_reducible refine b_set ?_ (by first | (simp only [World.size_setCell, World.size_alloc, World.size_drew]; omega) | (simp; done) | (simp; omega)) _ | with_reducible refine b_step ?_ (by with_reducible assumption)))⟩
end Go.Proofs.Ytoakjmdjkhhfbaa
