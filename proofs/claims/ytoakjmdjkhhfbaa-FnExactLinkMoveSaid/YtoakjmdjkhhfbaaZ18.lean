/- Exact laws, walked. -/
import Derived.Test.YtoakjmdjkhhfbaaE3
set_option linter.unusedVariables false
set_option linter.unusedSimpArgs false
namespace Go.Proofs.Ytoakjmdjkhhfbaa
open Go.RowKit
attribute [local go_sem] w_lt_add w_le_of w_le_add max2_i min2_i
set_option maxRecDepth 100000 in
set_option maxHeartbeats 4000000 in
theorem FnExactLinkMove_c (x : LL.Craft) (Ax : Option Addr) (cx : Nat) (Fx : Option Addr) (mx : Nat) (t : Int) (w : World) (hx : RdS w Ax x.path.steps.length cx x.path.steps) (hfx : RdI w Fx x.flown.length mx x.flown) (hzx : x.name.size ≤ 9223372036854775807) : Calls Try.prog 10 #[.agg #[.string x.name, .int .i64 x.number, .int .i64 x.no, .int .i64 x.path.q, .int .i64 x.path.s, .slice Ax x.path.steps.length cx, .int .i64 x.path.fr, .int .i64 x.path.by_, .slice Fx x.flown.length mx], .int .i64 t] w fun e w' => e = .returned (.bool true) ∧ Below w.heap.size w w' := by
  have hrx := hx.room
  have hnx : x.path.steps.length ≤ 140737488355328 := by omega
  have hqx := hfx.room
  have hvx : x.flown.length ≤ 140737488355328 := by omega
  go_enter Try.func10, Try.ntmps10
  go_wp2_with fail
  refine calls_name (fun W => Below w.heap.size w W ∧ Blk W w.heap.size #[.string x.name, .int .i64 x.number, .int .i64 x.no, .int .i64 x.path.q, .int .i64 x.path.s, .slice Ax x.path.steps.length cx, .int .i64 x.path.fr, .int .i64 x.path.by_, .slice Fx x.flown.length mx] 67) ⟨(by repeat' (first | with_reducible exact Below.refl _ _ | with_reducible assumption | with_reducible refine b_alloc ?_ _ | with_reducible refine b_drewN ?_ _ | with_reducible refine b_drew ?_ | with_reducible refine b_set ?_ (by first | (simp only [World.size_setCell, World.size_alloc, World.size_drew]; omega) | (simp; done) | (simp; omega)) _ | with_reducible refine b_step ?_ (by with_reducible assumption))), (by repeat' (first | with_reducible assumption | with_reducible exact Blk.new _ _ _ | with_reducible exact Blk.new' _ _ (by first | (simp only [World.size_alloc, World.size_setCell, World.size_drew]; done) | (simp only [World.size_alloc, World.size_setCell, World.size_drew]; omega) | omega) | with_reducible refine Blk.a ?_ _ | with_reducible refine Blk.d ?_ | with_reducible refine Blk.dN ?_ _ | with_reducible refine Blk.s ?_ (by simp only [ne_eq]; omega) _ | with_reducible refine Blk.b ?_ (by with_reducible assumption)))⟩ ?_
  rintro W1 ⟨hE, kPx⟩
  have hb : Below w.heap.size w W1 := hE
  have zW1 := (hE).size
  clear hE
  have kPxl := kPx.cells.2.2
  refine (szLinkCraft_c x _ _ _ _ _ _ (by decide) (by decide) hzx hnx hvx).mono ?_
  rintro e W2 ⟨rfl, hB⟩
  replace hb := b_step hb hB
  replace kPx := kPx.b hB
  have zW2 := (hB).size
  clear hB
  by_cases hsx : (LL.szC 1048576 x.name.size x.path.steps.length x.flown.length) < 0
  · go_wp2_with fail
    go_ret
    exact ⟨rfl, (by repeat' (first | with_reducible exact Below.refl _ _ | with_reducible assumption | with_reducible refine b_alloc ?_ _ | with_reducible refine b_drewN ?_ _ | with_reducible refine b_drew ?_ | with_reducible refine b_set ?_ (by first | (simp only [World.size_setCell, World.size_alloc, World.size_drew]; omega) | (simp; done) | (simp; omega)) _ | with_reducible refine b_step ?_ (by with_reducible assumption)))⟩
  have hs1x : decide ((LL.szC 1048576 x.name.size x.path.steps.length x.flown.length) < 0) = false := by simpa using hsx
  clear hsx
  have hlr : (LL.movedC x t).path.steps.length = x.path.steps.length := rfl
  obtain ⟨ekPx, fkPx, lkPx⟩ := kPx.cells
  go_wp2_with fail
  refine calls_name (fun W => Below W2.heap.size W2 W) (by repeat' (first | with_reducible exact Below.refl _ _ | with_reducible assumption | with_reducible refine b_alloc ?_ _ | with_reducible refine b_drewN ?_ _ | with_reducible refine b_drew ?_ | with_reducible refine b_set ?_ (by first | (simp only [World.size_setCell, World.size_alloc, World.size_drew]; omega) | (simp; done) | (simp; omega)) _ | with_reducible refine b_step ?_ (by with_reducible assumption))) ?_
  intro W3 hE
  clear ekPx fkPx lkPx
  replace hb := b_step hb hE
  replace kPx := kPx.b hE
  have zW3 := (hE).size
  clear hE
  refine (toLinkCraft_c x Ax cx Fx mx _ (hx.mono hb) (hfx.mono hb)).mono ?_
  intro e W4 hM
  obtain ⟨Ax1, cx1, Fx1, mx1, rfl, hOx1, hOx1g, hB⟩ := hM
  replace hb := b_step hb hB
  replace kPx := kPx.b hB
  have zW4 := (hB).size
  clear hB
  have hOx1l := hOx1.lt
  obtain ⟨ekPx, fkPx, lkPx⟩ := kPx.cells
  go_wp2_with fail
  refine calls_name (fun W => Below W4.heap.size W4 W) (by repeat' (first | with_reducible exact Below.refl _ _ | with_reducible assumption | with_reducible refine b_alloc ?_ _ | with_reducible refine b_drewN ?_ _ | with_reducible refine b_drew ?_ | with_reducible refine b_set ?_ (by first | (simp only [World.size_setCell, World.size_alloc, World.size_drew]; omega) | (simp; done) | (simp; omega)) _ | with_reducible refine b_step ?_ (by with_reducible assumption))) ?_
  intro W5 hE
  clear ekPx fkPx lkPx
  replace hb := b_step hb hE
  replace kPx := kPx.b hE
  replace hOx1 := hOx1.b hE
  have zW5 := (hE).size
  clear hE
  refine (spec_LinkMove_c x Ax1 Fx1 cx1 mx1 t hzx _ (hOx1.p.rd_at' stepE) (hOx1.f.rd_at' intE)).mono ?_
  intro e W6 hM
  obtain ⟨Aw, cw, Fw, mw, rfl, hW, hWg, hB⟩ := hM
  replace hb := b_step hb hB
  replace kPx := kPx.b hB
  replace hOx1 := hOx1.b hB
  have zW6 := (hB).size
  clear hB
  have hWl := hW.lt
  obtain ⟨ekPx, fkPx, lkPx⟩ := kPx.cells
  go_wp2_with fail
  refine calls_name (fun W => Below W6.heap.size W6 W ∧ Blk W W6.heap.size #[.string (LL.movedC x t).name, .int .i64 (LL.movedC x t).number, .int .i64 (LL.movedC x t).no, .int .i64 (LL.movedC x t).path.q, .int .i64 (LL.movedC x t).path.s, .slice Aw (LL.movedC x t).path.steps.length cw, .int .i64 (LL.movedC x t).path.fr, .int .i64 (LL.movedC x t).path.by_, .slice Fw (LL.movedC x t).flown.length mw] 71) ⟨(by repeat' (first | with_reducible exact Below.refl _ _ | with_reducible assumption | with_reducible refine b_alloc ?_ _ | with_reducible refine b_drewN ?_ _ | with_reducible refine b_drew ?_ | with_reducible refine b_set ?_ (by first | (simp only [World.size_setCell, World.size_alloc, World.size_drew]; omega) | (simp; done) | (simp; omega)) _ | with_reducible refine b_step ?_ (by with_reducible assumption))), Blk.new _ _ _⟩ ?_
  rintro W7 ⟨hE, kW⟩
  clear ekPx fkPx lkPx
  replace hb := b_step hb hE
  replace kPx := kPx.b hE
  replace hOx1 := hOx1.b hE
  replace hW := hW.b hE
  have zW7 := (hE).size
  clear hE
  have kWl := kW.cells.2.2
  refine (toLinkCraft_c x Ax cx Fx mx _ (hx.mono hb) (hfx.mono hb)).mono ?_
  intro e W8 hM
  obtain ⟨Axx, cxx, Fxx, mxx, rfl, hXx, hXxg, hB⟩ := hM
  replace hb := b_step hb hB
  replace kPx := kPx.b hB
  replace hOx1 := hOx1.b hB
  replace hW := hW.b hB
  replace kW := kW.b hB
  have zW8 := (hB).size
  clear hB
  have hXxl := hXx.lt
  obtain ⟨ekPx, fkPx, lkPx⟩ := kPx.cells
  obtain ⟨ekW, fkW, lkW⟩ := kW.cells
  go_wp2_with fail
  refine calls_name (fun W => Below W8.heap.size W8 W ∧ Blk W W8.heap.size #[.string x.name, .int .i64 x.number, .int .i64 x.no, .int .i64 x.path.q, .int .i64 x.path.s, .slice Axx x.path.steps.length cxx, .int .i64 x.path.fr, .int .i64 x.path.by_, .slice Fxx x.flown.length mxx] 71) ⟨(by repeat' (first | with_reducible exact Below.refl _ _ | with_reducible assumption | with_reducible refine b_alloc ?_ _ | with_reducible refine b_drewN ?_ _ | with_reducible refine b_drew ?_ | with_reducible refine b_set ?_ (by first | (simp only [World.size_setCell, World.size_alloc, World.size_drew]; omega) | (simp; done) | (simp; omega)) _ | with_reducible refine b_step ?_ (by with_reducible assumption))), Blk.new _ _ _⟩ ?_
  rintro W9 ⟨hE, kXx⟩
  clear ekPx fkPx lkPx ekW fkW lkW
  replace hb := b_step hb hE
  replace kPx := kPx.b hE
  replace hOx1 := hOx1.b hE
  replace hW := hW.b hE
  replace kW := kW.b hE
  replace hXx := hXx.b hE
  have zW9 := (hE).size
  clear hE
  have kXxl := kXx.cells.2.2
  refine (impl_LinkMove_c x Axx Fxx cxx mxx t hzx _ (hXx.p.rd_at' stepE) (hXx.f.rd_at' intE)).mono ?_
  intro e W10 hM
  obtain ⟨Ag, cg, Fg, mg, rfl, hG, hGg, hB⟩ := hM
  replace hb := b_step hb hB
  replace kPx := kPx.b hB
  replace hOx1 := hOx1.b hB
  replace hW := hW.b hB
  replace kW := kW.b hB
  replace hXx := hXx.b hB
  replace kXx := kXx.b hB
  have zW10 := (hB).size
  clear hB
  have hGl := hG.lt
  obtain ⟨ekPx, fkPx, lkPx⟩ := kPx.cells
  obtain ⟨ekW, fkW, lkW⟩ := kW.cells
  obtain ⟨ekXx, fkXx, lkXx⟩ := kXx.cells
  go_wp2_with fail
  refine calls_name (fun W => Below W10.heap.size W10 W ∧ Blk W W10.heap.size #[.string (LL.movedC x t).name, .int .i64 (LL.movedC x t).number, .int .i64 (LL.movedC x t).no, .int .i64 (LL.movedC x t).path.q, .int .i64 (LL.movedC x t).path.s, .slice Ag (LL.movedC x t).path.steps.length cg, .int .i64 (LL.movedC x t).path.fr, .int .i64 (LL.movedC x t).path.by_, .slice Fg (LL.movedC x t).flown.length mg] 71) ⟨(by repeat' (first | with_reducible exact Below.refl _ _ | with_reducible assumption | with_reducible refine b_alloc ?_ _ | with_reducible refine b_drewN ?_ _ | with_reducible refine b_drew ?_ | with_reducible refine b_set ?_ (by first | (simp only [World.size_setCell, World.size_alloc, World.size_drew]; omega) | (simp; done) | (simp; omega)) _ | with_reducible refine b_step ?_ (by with_reducible assumption))), Blk.new _ _ _⟩ ?_
  rintro W11 ⟨hE, kG⟩
  clear ekPx fkPx lkPx ekW fkW lkW ekXx fkXx lkXx
  replace hb := b_step hb hE
  replace kPx := kPx.b hE
  replace hOx1 := hOx1.b hE
  replace hW := hW.b hE
  replace kW := kW.b hE
  replace hXx := hXx.b hE
  replace kXx := kXx.b hE
  replace hG := hG.b hE
  have zW11 := (hE).size
  clear hE
  have kGl := kG.cells.2.2
  refine (eqLinkCraft_c (LL.movedC x t) _ _ _ _ _ _ _ _ _ hG hW).mono ?_
  rintro e W12 ⟨rfl, hB⟩
  replace hb := b_step hb hB
  replace kPx := kPx.b hB
  replace hOx1 := hOx1.b hB
  replace hW := hW.b hB
  replace kW := kW.b hB
  replace hXx := hXx.b hB
  replace kXx := kXx.b hB
  replace hG := hG.b hB
  replace kG := kG.b hB
  have zW12 := (hB).size
  clear hB
  obtain ⟨ekPx, fkPx, lkPx⟩ := kPx.cells
  obtain ⟨ekW, fkW, lkW⟩ := kW.cells
  obtain ⟨ekXx, fkXx, lkXx⟩ := kXx.cells
  obtain ⟨ekG, fkG, lkG⟩ := kG.cells
  go_wp2_with fail
  refine wp_name (fun W => Below W12.heap.size W12 W) (by repeat' (first | with_reducible exact Below.refl _ _ | with_reducible assumption | with_reducible refine b_alloc ?_ _ | with_reducible refine b_drewN ?_ _ | with_reducible refine b_drew ?_ | with_reducible refine b_set ?_ (by first | (simp only [World.size_setCell, World.size_alloc, World.size_drew]; omega) | (simp; done) | (simp; omega)) _ | with_reducible refine b_step ?_ (by with_reducible assumption))) ?_
  intro W13 hE
  clear ekPx fkPx lkPx ekW fkW lkW ekXx fkXx lkXx ekG fkG lkG
  replace hb := b_step hb hE
  replace kPx := kPx.b hE
  replace hOx1 := hOx1.b hE
  replace hW := hW.b hE
  replace kW := kW.b hE
  replace hXx := hXx.b hE
  replace kXx := kXx.b hE
  replace hG := hG.b hE
  replace kG := kG.b hE
  have zW13 := (hE).size
  clear hE
  obtain ⟨ekPx, fkPx, lkPx⟩ := kPx.cells
  obtain ⟨ekW, fkW, lkW⟩ := kW.cells
  obtain ⟨ekXx, fkXx, lkXx⟩ := kXx.cells
  obtain ⟨ekG, fkG, lkG⟩ := kG.cells
  refine rel_b [(2, fun v W => ∃ A9 c9 F9 m9, v = .agg #[.string x.name, .int .i64 x.number, .int .i64 x.no, .int .i64 x.path.q, .int .i64 x.path.s, .slice A9 x.path.steps.length c9, .int .i64 x.path.fr, .int .i64 x.path.by_, .slice F9 x.flown.length m9] ∧ OwnCr W x A9 c9 F9 m9), (3, fun v _ => v = .bool true)] (by kernel_rfl) (by kernel_rfl) ?_
  ((apply rel_plain (hR := rfl) (hF := fun _ => trivial) (hg := rfl)); (focus ((intro w' hL'); (obtain ⟨hcS, hfS, hlS⟩ := bcell hL'); (try simp only [World.size_setCell, World.size_alloc, World.size_drew] at hcS hfS hlS); (go_simp); (try go_bits); (try (first | (rw [if_pos (by omega)]; done) | (rw [if_neg (by omega)]; done) | (rw [if_pos (by omega)]; go_simp) | (rw [if_neg (by omega)]; go_simp))); (first | with_reducible rfl | exact rfl | skip))); (simp only [Act.put, List.setIfInBounds_toArray, List.set_cons_zero, List.set_cons_succ]))
  ((apply rel_plain (hR := rfl) (hF := fun _ => trivial) (hg := rfl)); (focus ((intro w' hL'); (obtain ⟨hcS, hfS, hlS⟩ := bcell hL'); (try simp only [World.size_setCell, World.size_alloc, World.size_drew] at hcS hfS hlS); (go_simp); (try go_bits); (try (first | (rw [if_pos (by omega)]; done) | (rw [if_neg (by omega)]; done) | (rw [if_pos (by omega)]; go_simp) | (rw [if_neg (by omega)]; go_simp))); (first | with_reducible rfl | exact rfl | skip))); (simp only [Act.put, List.setIfInBounds_toArray, List.set_cons_zero, List.set_cons_succ]))
  ((apply rel_told (hR := rfl) (hg := rfl)); (focus ((intro w' hL' hD'); (obtain ⟨hcS, hfS, hlS⟩ := bcell hL'); (try simp only [World.size_setCell, World.size_alloc, World.size_drew] at hcS hfS hlS); (go_simp); (try go_bits); (try (first | (rw [if_pos (by omega)]; done) | (rw [if_neg (by omega)]; done) | (rw [if_pos (by omega)]; go_simp) | (rw [if_neg (by omega)]; go_simp))); ((go_at_call 37); (refine (toLinkCraft_c x Ax cx Fx mx _ (hx.mono (b_step hb hL')) (hfx.mono (b_step hb hL'))).mono ?_); (intro e w'' hM); (obtain ⟨A2, c2, F2, m2, rfl, hO2, hO2g, hB⟩ := hM); (refine ⟨_, rfl, hB, ?_⟩); ((repeat (first | (refine Tell.hit rfl ?_) | (refine Tell.skip rfl ?_))); exact ⟨A2, c2, F2, m2, rfl, hO2⟩)))); (intro v' w0' hv'); (replace hv' := Tell.out hv' rfl); (obtain ⟨A2x, c2x, F2x, m2x, rfl, -⟩ := hv'); (simp only [Act.put, List.setIfInBounds_toArray, List.set_cons_zero, List.set_cons_succ]))
  ((apply rel_told (hR := rfl) (hg := rfl)); (focus ((intro w' hL' hD'); (obtain ⟨hcS, hfS, hlS⟩ := bcell hL'); (try simp only [World.size_setCell, World.size_alloc, World.size_drew] at hcS hfS hlS); (go_simp); (try go_bits); (try (first | (rw [if_pos (by omega)]; done) | (rw [if_neg (by omega)]; done) | (rw [if_pos (by omega)]; go_simp) | (rw [if_neg (by omega)]; go_simp))); ((obtain ⟨w8, hl8, A8, c8, F8, m8, e8, hO8⟩ := Known.out (hD' ⟨2, .data⟩ (by simp) rfl) rfl); (simp at e8; obtain ⟨⟨rfl, rfl⟩, rfl, rfl⟩ := e8); (replace hO8 := hO8.b hl8); ((go_at_call 39); (refine (eqLinkCraft_c x _ _ _ _ _ _ _ _ _ (hXx.b hL') hO8).mono ?_); (rintro e w'' ⟨rfl, hb''⟩); (refine ⟨_, rfl, ?_, ?_⟩); (focus (first | exact hb'' | (subst hb''; exact Le.refl _))); ((repeat (first | (refine Tell.hit rfl ?_) | (refine Tell.skip rfl ?_))); exact rfl))))); (intro v' w0' hv'); (replace hv' := Tell.out hv' rfl); (obtain rfl := hv'); (simp only [Act.put, List.setIfInBounds_toArray, List.set_cons_zero, List.set_cons_succ]))
  ((apply rel_plain (hR := rfl) (hF := fun _ => trivial) (hg := rfl)); (focus ((intro w' hL'); (obtain ⟨hcS, hfS, hlS⟩ := bcell hL'); (try simp only [World.size_setCell, World.size_alloc, World.size_drew] at hcS hfS hlS); (go_simp); (try go_bits); (try (first | (rw [if_pos (by omega)]; done) | (rw [if_neg (by omega)]; done) | (rw [if_pos (by omega)]; go_simp) | (rw [if_neg (by omega)]; go_simp))); (first | with_reducible rfl | exact rfl | skip))); (simp only [Act.put, List.setIfInBounds_toArray, List.set_cons_zero, List.set_cons_succ]))
  refine rel_nil ?_
  intro W14 hE hF9
  clear hF9
  clear ekPx fkPx lkPx ekW fkW lkW ekXx fkXx lkXx ekG fkG lkG
  replace hb := b_step hb hE
  replace kPx := kPx.b hE
  replace hOx1 := hOx1.b hE
  replace hW := hW.b hE
  replace kW := kW.b hE
  replace hXx := hXx.b hE
  replace kXx := kXx.b hE
  replace hG := hG.b hE
  replace kG := kG.b hE
  have zW14 := (hE).size
  clear hE
  obtain ⟨ekPx, fkPx, lkPx⟩ := kPx.cells
  obtain ⟨ekW, fkW, lkW⟩ := kW.cells
  obtain ⟨ekXx, fkXx, lkXx⟩ := kXx.cells
  obtain ⟨ekG, fkG, lkG⟩ := kG.cells
  go_wp2_with fail
  refine calls_name (fun W => Below W14.heap.size W14 W) (by repeat' (first | with_reducible exact Below.refl _ _ | with_reducible assumption | with_reducible refine b_alloc ?_ _ | with_reducible refine b_drewN ?_ _ | with_reducible refine b_drew ?_ | with_reducible refine b_set ?_ (by first | (simp only [World.size_setCell, World.size_alloc, World.size_drew]; omega) | (simp; done) | (simp; omega)) _ | with_reducible refine b_step ?_ (by with_reducible assumption))) ?_
  intro W15 hE
  clear ekPx fkPx lkPx ekW fkW lkW ekXx fkXx lkXx ekG fkG lkG
  replace hb := b_step hb hE
  replace kPx := kPx.b hE
  replace hOx1 := hOx1.b hE
  replace hW := hW.b hE
  replace kW := kW.b hE
  replace hXx := hXx.b hE
  replace kXx := kXx.b hE
  replace hG := hG.b hE
  replace kG := kG.b hE
  have zW15 := (hE).size
  clear hE
  refine (markLinkCraft_c x Axx cxx Fxx mxx _ (by omega) (by omega) _ hXx).mono ?_
  rintro e W16 ⟨rfl, hXxm, hg⟩
  replace kPx := kPx.gS hg (fun h2 => by have h5 := hXxl _ h2; have h6 := hXxg _ h2; have h7 := kPxl; omega)
  replace hOx1 := hOx1.gS hg (fun k h1 h2 => by have h3 := hOx1l k h1; have h4 := hOx1g k h1; have h5 := hXxl k h2; have h6 := hXxg k h2; omega)
  replace hW := hW.gS hg (fun k h1 h2 => by have h3 := hWl k h1; have h4 := hWg k h1; have h5 := hXxl k h2; have h6 := hXxg k h2; omega)
  replace kW := kW.gS hg (fun h2 => by have h5 := hXxl _ h2; have h6 := hXxg _ h2; have h7 := kWl; omega)
  replace kXx := kXx.gS hg (fun h2 => by have h5 := hXxl _ h2; have h6 := hXxg _ h2; have h7 := kXxl; omega)
  replace hG := hG.gS hg (fun k h1 h2 => by have h3 := hGl k h1; have h4 := hGg k h1; have h5 := hXxl k h2; have h6 := hXxg k h2; omega)
  replace kG := kG.gS hg (fun h2 => by have h5 := hXxl _ h2; have h6 := hXxg _ h2; have h7 := kGl; omega)
  replace hb := b_gS hb hg hb.size (fun k hk => by have := hXxg k hk; omega)
  have zW16 := hg.size
  clear hXx hg
  clear hXxm
  obtain ⟨ekPx, fkPx, lkPx⟩ := kPx.cells
  obtain ⟨ekW, fkW, lkW⟩ := kW.cells
  obtain ⟨ekXx, fkXx, lkXx⟩ := kXx.cells
  obtain ⟨ekG, fkG, lkG⟩ := kG.cells
  go_wp2_with fail
  refine calls_name (fun W => Below W16.heap.size W16 W) (by repeat' (first | with_reducible exact Below.refl _ _ | with_reducible assumption | with_reducible refine b_alloc ?_ _ | with_reducible refine b_drewN ?_ _ | with_reducible refine b_drew ?_ | with_reducible refine b_set ?_ (by first | (simp only [World.size_setCell, World.size_alloc, World.size_drew]; omega) | (simp; done) | (simp; omega)) _ | with_reducible refine b_step ?_ (by with_reducible assumption))) ?_
  intro W17 hE
  clear ekPx fkPx lkPx ekW fkW lkW ekXx fkXx lkXx ekG fkG lkG
  replace hb := b_step hb hE
  replace kPx := kPx.b hE
  replace hOx1 := hOx1.b hE
  replace hW := hW.b hE
  replace kW := kW.b hE
  replace kXx := kXx.b hE
  replace hG := hG.b hE
  replace kG := kG.b hE
  have zW17 := (hE).size
  clear hE
  refine (eqLinkCraft_c (LL.movedC x t) _ _ _ _ _ _ _ _ _ hG hW).mono ?_
  rintro e W18 ⟨rfl, hB⟩
  replace hb := b_step hb hB
  replace kPx := kPx.b hB
  replace hOx1 := hOx1.b hB
  replace hW := hW.b hB
  replace kW := kW.b hB
  replace kXx := kXx.b hB
  replace hG := hG.b hB
  replace kG := kG.b hB
  have zW18 := (hB).size
  clear hB
  obtain ⟨ekPx, fkPx, lkPx⟩ := kPx.cells
  obtain ⟨ekW, fkW, lkW⟩ := kW.cells
  obtain ⟨ekXx, fkXx, lkXx⟩ := kXx.cells
  obtain ⟨ekG, fkG, lkG⟩ := kG.cells
  go_wp2_with fail
  refine calls_name (fun W => Below W18.heap.size W18 W) (by repeat' (first | with_reducible exact Below.refl _ _ | with_reducible assumption | with_reducible refine b_alloc ?_ _ | with_reducible refine b_drewN ?_ _ | with_reducible refine b_drew ?_ | with_reducible refine b_set ?_ (by first | (simp only [World.size_setCell, World.size_alloc, World.size_drew]; omega) | (simp; done) | (simp; omega)) _ | with_reducible refine b_step ?_ (by with_reducible assumption))) ?_
  intro W19 hE
  clear ekPx fkPx lkPx ekW fkW lkW ekXx fkXx lkXx ekG fkG lkG
  replace hb := b_step hb hE
  replace kPx := kPx.b hE
  replace hOx1 := hOx1.b hE
  replace hW := hW.b hE
  replace kW := kW.b hE
  replace kXx := kXx.b hE
  replace hG := hG.b hE
  replace kG := kG.b hE
  have zW19 := (hE).size
  clear hE
  refine (markLinkCraft_c (LL.movedC x t) Ag cg Fg mg _ (by omega) (by omega) _ hG).mono ?_
  rintro e W20 ⟨rfl, hGm, hg⟩
  replace kPx := kPx.gS hg (fun h2 => by have h5 := hGl _ h2; have h6 := hGg _ h2; have h7 := kPxl; omega)
  replace hOx1 := hOx1.gS hg (fun k h1 h2 => by have h3 := hOx1l k h1; have h4 := hOx1g k h1; have h5 := hGl k h2; have h6 := hGg k h2; omega)
  replace hW := hW.gS hg (fun k h1 h2 => by have h3 := hWl k h1; have h4 := hWg k h1; have h5 := hGl k h2; have h6 := hGg k h2; omega)
  replace kW := kW.gS hg (fun h2 => by have h5 := hGl _ h2; have h6 := hGg _ h2; have h7 := kWl; omega)
  replace kXx := kXx.gS hg (fun h2 => by have h5 := hGl _ h2; have h6 := hGg _ h2; have h7 := kXxl; omega)
  replace kG := kG.gS hg (fun h2 => by have h5 := hGl _ h2; have h6 := hGg _ h2; have h7 := kGl; omega)
  replace hb := b_gS hb hg hb.size (fun k hk => by have := hGg k hk; omega)
  have zW20 := hg.size
  clear hG hg
  obtain ⟨hGma, hGmb⟩ := hGm
  obtain ⟨ekPx, fkPx, lkPx⟩ := kPx.cells
  obtain ⟨ekW, fkW, lkW⟩ := kW.cells
  obtain ⟨ekXx, fkXx, lkXx⟩ := kXx.cells
  obtain ⟨ekG, fkG, lkG⟩ := kG.cells
  go_wp2_with fail
  refine calls_name (fun W => Below W20.heap.size W20 W) (by repeat' (first | with_reducible exact Below.refl _ _ | with_reducible assumption | with_reducible refine b_alloc ?_ _ | with_reducible refine b_drewN ?_ _ | with_reducible refine b_drew ?_ | with_reducible refine b_set ?_ (by first | (simp only [World.size_setCell, World.size_alloc, World.size_drew]; omega) | (simp; done) | (simp; omega)) _ | with_reducible refine b_step ?_ (by with_reducible assumption))) ?_
  intro W21 hE
  clear ekPx fkPx lkPx ekW fkW lkW ekXx fkXx lkXx ekG fkG lkG
  replace hb := b_step hb hE
  replace kPx := kPx.b hE
  replace hOx1 := hOx1.b hE
  replace hW := hW.b hE
  replace kW := kW.b hE
  replace kXx := kXx.b hE
  replace kG := kG.b hE
  replace hGma := hGma.b hE
  replace hGmb := hGmb.b hE
  have zW21 := (hE).size
  clear hE
  refine (heldLinkCraft_c (LL.movedC x t) Ag cg Fg mg _ (by omega) (by omega) _ (hGma.rd_at' stepE) (hGmb.rd_at' intE)).mono ?_
  rintro e W22 ⟨rfl, hB⟩
  replace hb := b_step hb hB
  replace kPx := kPx.b hB
  replace hOx1 := hOx1.b hB
  replace hW := hW.b hB
  replace kW := kW.b hB
  replace kXx := kXx.b hB
  replace kG := kG.b hB
  replace hGma := hGma.b hB
  replace hGmb := hGmb.b hB
  have zW22 := (hB).size
  clear hB
  obtain ⟨ekPx, fkPx, lkPx⟩ := kPx.cells
  obtain ⟨ekW, fkW, lkW⟩ := kW.cells
  obtain ⟨ekXx, fkXx, lkXx⟩ := kXx.cells
  obtain ⟨ekG, fkG, lkG⟩ := kG.cells
  go_wp2_with fail
  refine calls_name (fun W => Below W22.heap.size W22 W) (by repeat' (first | with_reducible exact Below.refl _ _ | with_reducible assumption | with_reducible refine b_alloc ?_ _ | with_reducible refine b_drewN ?_ _ | with_reducible refine b_drew ?_ | with_reducible refine b_set ?_ (by first | (simp only [World.size_setCell, World.size_alloc, World.size_drew]; omega) | (simp; done) | (simp; omega)) _ | with_reducible refine b_step ?_ (by with_reducible assumption))) ?_
  intro W23 hE
  clear ekPx fkPx lkPx ekW fkW lkW ekXx fkXx lkXx ekG fkG lkG
  replace hb := b_step hb hE
  replace kPx := kPx.b hE
  replace hOx1 := hOx1.b hE
  replace hW := hW.b hE
  replace kW := kW.b hE
  replace kXx := kXx.b hE
  replace kG := kG.b hE
  replace hGma := hGma.b hE
  replace hGmb := hGmb.b hE
  have zW23 := (hE).size
  clear hE
  refine (toLinkCraft_c x Ax cx Fx mx _ (hx.mono hb) (hfx.mono hb)).mono ?_
  intro e W24 hM
  obtain ⟨Ax2, cx2, Fx2, mx2, rfl, hOx2, hOx2g, hB⟩ := hM
  replace hb := b_step hb hB
  replace kPx := kPx.b hB
  replace hOx1 := hOx1.b hB
  replace hW := hW.b hB
  replace kW := kW.b hB
  replace kXx := kXx.b hB
  replace kG := kG.b hB
  replace hGma := hGma.b hB
  replace hGmb := hGmb.b hB
  have zW24 := (hB).size
  clear hB
  have hOx2l := hOx2.lt
  obtain ⟨ekPx, fkPx, lkPx⟩ := kPx.cells
  obtain ⟨ekW, fkW, lkW⟩ := kW.cells
  obtain ⟨ekXx, fkXx, lkXx⟩ := kXx.cells
  obtain ⟨ekG, fkG, lkG⟩ := kG.cells
  go_wp2_with fail
  refine calls_name (fun W => Below W24.heap.size W24 W) (by repeat' (first | with_reducible exact Below.refl _ _ | with_reducible assumption | with_reducible refine b_alloc ?_ _ | with_reducible refine b_drewN ?_ _ | with_reducible refine b_drew ?_ | with_reducible refine b_set ?_ (by first | (simp only [World.size_setCell, World.size_alloc, World.size_drew]; omega) | (simp; done) | (simp; omega)) _ | with_reducible refine b_step ?_ (by with_reducible assumption))) ?_
  intro W25 hE
  clear ekPx fkPx lkPx ekW fkW lkW ekXx fkXx lkXx ekG fkG lkG
  replace hb := b_step hb hE
  replace kPx := kPx.b hE
  replace hOx1 := hOx1.b hE
  replace hW := hW.b hE
  replace kW := kW.b hE
  replace kXx := kXx.b hE
  replace kG := kG.b hE
  replace hGma := hGma.b hE
  replace hGmb := hGmb.b hE
  replace hOx2 := hOx2.b hE
  have zW25 := (hE).size
  clear hE
  refine (impl_LinkMove_c x Ax2 Fx2 cx2 mx2 t hzx _ (hOx2.p.rd_at' stepE) (hOx2.f.rd_at' intE)).mono ?_
  intro e W26 hM
  obtain ⟨Ah, ch, Fh, mh, rfl, hH, hHg, hB⟩ := hM
  replace hb := b_step hb hB
  replace kPx := kPx.b hB
  replace hOx1 := hOx1.b hB
  replace hW := hW.b hB
  replace kW := kW.b hB
  replace kXx := kXx.b hB
  replace kG := kG.b hB
  replace hGma := hGma.b hB
  replace hGmb := hGmb.b hB
  replace hOx2 := hOx2.b hB
  have zW26 := (hB).size
  clear hB
  have hHl := hH.lt
  obtain ⟨ekPx, fkPx, lkPx⟩ := kPx.cells
  obtain ⟨ekW, fkW, lkW⟩ := kW.cells
  obtain ⟨ekXx, fkXx, lkXx⟩ := kXx.cells
  obtain ⟨ekG, fkG, lkG⟩ := kG.cells
  go_wp2_with fail
  refine calls_name (fun W => Below W26.heap.size W26 W ∧ Blk W W26.heap.size #[.string (LL.movedC x t).name, .int .i64 (LL.movedC x t).number, .int .i64 (LL.movedC x t).no, .int .i64 (LL.movedC x t).path.q, .int .i64 (LL.movedC x t).path.s, .slice Ah (LL.movedC x t).path.steps.length ch, .int .i64 (LL.movedC x t).path.fr, .int .i64 (LL.movedC x t).path.by_, .slice Fh (LL.movedC x t).flown.length mh] 71) ⟨(by repeat' (first | with_reducible exact Below.refl _ _ | with_reducible assumption | with_reducible refine b_alloc ?_ _ | with_reducible refine b_drewN ?_ _ | with_reducible refine b_drew ?_ | with_reducible refine b_set ?_ (by first | (simp only [World.size_setCell, World.size_alloc, World.size_drew]; omega) | (simp; done) | (simp; omega)) _ | with_reducible refine b_step ?_ (by with_reducible assumption))), Blk.new _ _ _⟩ ?_
  rintro W27 ⟨hE, kH⟩
  clear ekPx fkPx lkPx ekW fkW lkW ekXx fkXx lkXx ekG fkG lkG
  replace hb := b_step hb hE
  replace kPx := kPx.b hE
  replace hOx1 := hOx1.b hE
  replace hW := hW.b hE
  replace kW := kW.b hE
  replace kXx := kXx.b hE
  replace kG := kG.b hE
  replace hGma := hGma.b hE
  replace hGmb := hGmb.b hE
  replace hOx2 := hOx2.b hE
  replace hH := hH.b hE
  have zW27 := (hE).size
  clear hE
  have kHl := kH.cells.2.2
  refine (eqLinkCraft_c (LL.movedC x t) _ _ _ _ _ _ _ _ _ hH hW).mono ?_
  rintro e W28 ⟨rfl, hB⟩
  replace hb := b_step hb hB
  replace kPx := kPx.b hB
  replace hOx1 := hOx1.b hB
  replace hW := hW.b hB
  replace kW := kW.b hB
  replace kXx := kXx.b hB
  replace kG := kG.b hB
  replace hGma := hGma.b hB
  replace hGmb := hGmb.b hB
  replace hOx2 := hOx2.b hB
  replace hH := hH.b hB
  replace kH := kH.b hB
  have zW28 := (hB).size
  clear hB
  obtain ⟨ekPx, fkPx, lkPx⟩ := kPx.cells
  obtain ⟨ekW, fkW, lkW⟩ := kW.cells
  obtain ⟨ekXx, fkXx, lkXx⟩ := kXx.cells
  obtain ⟨ekG, fkG, lkG⟩ := kG.cells
  obtain ⟨ekH, fkH, lkH⟩ := kH.cells
  go_wp2_with fail
  refine calls_name (fun W => Below W28.heap.size W28 W) (by repeat' (first | with_reducible exact Below.refl _ _ | with_reducible assumption | with_reducible refine b_alloc ?_ _ | with_reducible refine b_drewN ?_ _ | with_reducible refine b_drew ?_ | with_reducible refine b_set ?_ (by first | (simp only [World.size_setCell, World.size_alloc, World.size_drew]; omega) | (simp; done) | (simp; omega)) _ | with_reducible refine b_step ?_ (by with_reducible assumption))) ?_
  intro W29 hE
  clear ekPx fkPx lkPx ekW fkW lkW ekXx fkXx lkXx ekG fkG lkG ekH fkH lkH
  replace hb := b_step hb hE
  replace kPx := kPx.b hE
  replace hOx1 := hOx1.b hE
  replace hW := hW.b hE
  replace kW := kW.b hE
  replace kXx := kXx.b hE
  replace kG := kG.b hE
  replace hGma := hGma.b hE
  replace hGmb := hGmb.b hE
  replace hOx2 := hOx2.b hE
  replace hH := hH.b hE
  replace kH := kH.b hE
  have zW29 := (hE).size
  clear hE
  refine (heldLinkCraft_c (LL.movedC x t) Ag cg Fg mg _ (by omega) (by omega) _ (hGma.rd_at' stepE) (hGmb.rd_at' intE)).mono ?_
  rintro e W30 ⟨rfl, hB⟩
  replace hb := b_step hb hB
  replace kPx := kPx.b hB
  replace hOx1 := hOx1.b hB
  replace hW := hW.b hB
  replace kW := kW.b hB
  replace kXx := kXx.b hB
  replace kG := kG.b hB
  replace hGma := hGma.b hB
  replace hGmb := hGmb.b hB
  replace hOx2 := hOx2.b hB
  replace hH := hH.b hB
  replace kH := kH.b hB
  have zW30 := (hB).size
  clear hB
  obtain ⟨ekPx, fkPx, lkPx⟩ := kPx.cells
  obtain ⟨ekW, fkW, lkW⟩ := kW.cells
  obtain ⟨ekXx, fkXx, lkXx⟩ := kXx.cells
  obtain ⟨ekG, fkG, lkG⟩ := kG.cells
  obtain ⟨ekH, fkH, lkH⟩ := kH.cells
  go_wp2_with fail
  go_ret
  exact ⟨rfl, (by repeat' (first | with_reducible exact Below.refl _ _ | with_reducible assumption | with_reducible refine b_alloc ?_ _ | with_reducible refine b_drewN ?_ _ | with_reducible refine b_drew ?_ | with_reducible refine b_set ?_ (by first | (simp only [World.size_setCell, World.size_alloc, World.size_drew]; omega) | (simp; done) | (simp; omega)) _ | with_reducible refine b_step ?_ (by with_reducible assumption)))⟩
end Go.Proofs.Ytoakjmdjkhhfbaa
