/- Exact laws, walked. -/
import Derived.Test.YtkpnjnkfbhomgaaE4
import Derived.Test.YtkpnjnkfbhomgaaE5
import Derived.Test.YtkpnjnkfbhomgaaU2
set_option linter.unusedVariables false
set_option linter.unusedSimpArgs false
namespace Go.Proofs.Ytkpnjnkfbhomgaa
open Go.RowKit
attribute [local go_sem] w_lt_add w_le_of w_le_add max2_i min2_i
set_option maxRecDepth 100000 in
set_option maxHeartbeats 4000000 in
theorem FnExactLinkTake_c (x : LL.Craft) (Ax : Option Addr) (cx : Nat) (Fx : Option Addr) (mx : Nat) (y : LL.Word) (Ay : Option Addr) (cy : Nat) (t : Int) (w : World) (hx : RdS w Ax x.path.steps.length cx x.path.steps) (hfx : RdI w Fx x.flown.length mx x.flown) (hzx : x.name.size ≤ 9223372036854775807) (hy : RdS w Ay y.path.steps.length cy y.path.steps) (hzy : y.name.size ≤ 9223372036854775807) : Calls Try.prog 9 #[.agg #[.string x.name, .int .i64 x.number, .int .i64 x.no, .int .i64 x.path.q, .int .i64 x.path.s, .slice Ax x.path.steps.length cx, .int .i64 x.path.fr, .int .i64 x.path.by_, .slice Fx x.flown.length mx], .agg #[.int .i64 y.kind, .string y.name, .int .i64 y.number, .int .i64 y.path.q, .int .i64 y.path.s, .slice Ay y.path.steps.length cy, .int .i64 y.path.fr, .int .i64 y.path.by_], .int .i64 t] w fun e w' => e = .returned (.bool true) ∧ Below w.heap.size w w' := by
  have hrx := hx.room
  have hnx : x.path.steps.length ≤ 140737488355328 := by omega
  have hqx := hfx.room
  have hvx : x.flown.length ≤ 140737488355328 := by omega
  have hry := hy.room
  have hny : y.path.steps.length ≤ 140737488355328 := by omega
  go_enter Try.func9, Try.ntmps9
  go_wp2_with fail
  refine calls_name (fun W => Below w.heap.size w W ∧ Blk W w.heap.size #[.string x.name, .int .i64 x.number, .int .i64 x.no, .int .i64 x.path.q, .int .i64 x.path.s, .slice Ax x.path.steps.length cx, .int .i64 x.path.fr, .int .i64 x.path.by_, .slice Fx x.flown.length mx] 71 ∧ Blk W (w.heap.size + 1) #[.int .i64 y.kind, .string y.name, .int .i64 y.number, .int .i64 y.path.q, .int .i64 y.path.s, .slice Ay y.path.steps.length cy, .int .i64 y.path.fr, .int .i64 y.path.by_] 58) ⟨(by repeat' (first | with_reducible exact Below.refl _ _ | with_reducible assumption | with_reducible refine b_alloc ?_ _ | with_reducible refine b_drewN ?_ _ | with_reducible refine b_drew ?_ | with_reducible refine b_set ?_ (by first | (simp only [World.size_setCell, World.size_alloc, World.size_drew]; omega) | (simp; done) | (simp; omega)) _ | with_reducible refine b_step ?_ (by with_reducible assumption))), (by repeat' (first | with_reducible assumption | with_reducible exact Blk.new _ _ _ | with_reducible exact Blk.new' _ _ (by first | (simp only [World.size_alloc, World.size_setCell, World.size_drew]; done) | (simp only [World.size_alloc, World.size_setCell, World.size_drew]; omega) | omega) | with_reducible refine Blk.a ?_ _ | with_reducible refine Blk.d ?_ | with_reducible refine Blk.dN ?_ _ | with_reducible refine Blk.s ?_ (by simp only [ne_eq]; omega) _ | with_reducible refine Blk.b ?_ (by with_reducible assumption))), (by repeat' (first | with_reducible assumption | with_reducible exact Blk.new _ _ _ | with_reducible exact Blk.new' _ _ (by first | (simp only [World.size_alloc, World.size_setCell, World.size_drew]; done) | (simp only [World.size_alloc, World.size_setCell, World.size_drew]; omega) | omega) | with_reducible refine Blk.a ?_ _ | with_reducible refine Blk.d ?_ | with_reducible refine Blk.dN ?_ _ | with_reducible refine Blk.s ?_ (by simp only [ne_eq]; omega) _ | with_reducible refine Blk.b ?_ (by with_reducible assumption)))⟩ ?_
  rintro W1 ⟨hE, kPx, kPy⟩
  have hb : Below w.heap.size w W1 := hE
  have zW1 := (hE).size
  clear hE
  have kPxl := kPx.cells.2.2
  have kPyl := kPy.cells.2.2
  refine (szLinkCraft_c x _ _ _ _ _ _ (by decide) (by decide) hzx hnx hvx).mono ?_
  rintro e W2 ⟨rfl, hB⟩
  replace hb := b_step hb hB
  replace kPx := kPx.b hB
  replace kPy := kPy.b hB
  have zW2 := (hB).size
  clear hB
  by_cases hsx : (LL.szC 1048576 x.name.size x.path.steps.length x.flown.length) < 0
  · go_wp2_with fail
    go_ret
    exact ⟨rfl, (by repeat' (first | with_reducible exact Below.refl _ _ | with_reducible assumption | with_reducible refine b_alloc ?_ _ | with_reducible refine b_drewN ?_ _ | with_reducible refine b_drew ?_ | with_reducible refine b_set ?_ (by first | (simp only [World.size_setCell, World.size_alloc, World.size_drew]; omega) | (simp; done) | (simp; omega)) _ | with_reducible refine b_step ?_ (by with_reducible assumption)))⟩
  have hs1x : decide ((LL.szC 1048576 x.name.size x.path.steps.length x.flown.length) < 0) = false := by simpa using hsx
  have hs2x : (LL.szC 1048576 x.name.size x.path.steps.length x.flown.length) ≤ 1048576 := Int.le_trans (LL.szC_le (by omega) _ _ _) (by omega)
  have hs3x : 0 ≤ (LL.szC 1048576 x.name.size x.path.steps.length x.flown.length) := by omega
  clear hsx
  obtain ⟨ekPx, fkPx, lkPx⟩ := kPx.cells
  obtain ⟨ekPy, fkPy, lkPy⟩ := kPy.cells
  go_wp2_with fail
  refine calls_name (fun W => Below W2.heap.size W2 W) (by repeat' (first | with_reducible exact Below.refl _ _ | with_reducible assumption | with_reducible refine b_alloc ?_ _ | with_reducible refine b_drewN ?_ _ | with_reducible refine b_drew ?_ | with_reducible refine b_set ?_ (by first | (simp only [World.size_setCell, World.size_alloc, World.size_drew]; omega) | (simp; done) | (simp; omega)) _ | with_reducible refine b_step ?_ (by with_reducible assumption))) ?_
  intro W3 hE
  clear ekPx fkPx lkPx ekPy fkPy lkPy
  replace hb := b_step hb hE
  replace kPx := kPx.b hE
  replace kPy := kPy.b hE
  have zW3 := (hE).size
  clear hE
  refine (szLinkWord_c y _ _ _ _ (by omega) (by omega) hzy hny).mono ?_
  rintro e W4 ⟨rfl, hB⟩
  replace hb := b_step hb hB
  replace kPx := kPx.b hB
  replace kPy := kPy.b hB
  have zW4 := (hB).size
  clear hB
  by_cases hsy : (LL.szT (LL.szC 1048576 x.name.size x.path.steps.length x.flown.length) y.name.size y.path.steps.length) < 0
  · go_wp2_with fail
    go_ret
    exact ⟨rfl, (by repeat' (first | with_reducible exact Below.refl _ _ | with_reducible assumption | with_reducible refine b_alloc ?_ _ | with_reducible refine b_drewN ?_ _ | with_reducible refine b_drew ?_ | with_reducible refine b_set ?_ (by first | (simp only [World.size_setCell, World.size_alloc, World.size_drew]; omega) | (simp; done) | (simp; omega)) _ | with_reducible refine b_step ?_ (by with_reducible assumption)))⟩
  have hs1y : decide ((LL.szT (LL.szC 1048576 x.name.size x.path.steps.length x.flown.length) y.name.size y.path.steps.length) < 0) = false := by simpa using hsy
  have hs2y : (LL.szT (LL.szC 1048576 x.name.size x.path.steps.length x.flown.length) y.name.size y.path.steps.length) ≤ 1048576 := Int.le_trans (LL.szT_le (by omega) _ _) (by omega)
  have hs3y : 0 ≤ (LL.szT (LL.szC 1048576 x.name.size x.path.steps.length x.flown.length) y.name.size y.path.steps.length) := by omega
  clear hsy
  have hlr := LL.takeC_len x y t
  have hlf := LL.takeC_fl x y t
  have hlw := LL.takeW_len x y t
  obtain ⟨ekPx, fkPx, lkPx⟩ := kPx.cells
  obtain ⟨ekPy, fkPy, lkPy⟩ := kPy.cells
  go_wp2_with fail
  refine wp_name (fun W => Below W4.heap.size W4 W) (by repeat' (first | with_reducible exact Below.refl _ _ | with_reducible assumption | with_reducible refine b_alloc ?_ _ | with_reducible refine b_drewN ?_ _ | with_reducible refine b_drew ?_ | with_reducible refine b_set ?_ (by first | (simp only [World.size_setCell, World.size_alloc, World.size_drew]; omega) | (simp; done) | (simp; omega)) _ | with_reducible refine b_step ?_ (by with_reducible assumption))) ?_
  intro W5 hE
  clear ekPx fkPx lkPx ekPy fkPy lkPy
  replace hb := b_step hb hE
  replace kPx := kPx.b hE
  replace kPy := kPy.b hE
  have zW5 := (hE).size
  clear hE
  obtain ⟨ekPx, fkPx, lkPx⟩ := kPx.cells
  obtain ⟨ekPy, fkPy, lkPy⟩ := kPy.cells
  refine rel_tailf_b 12 [8, 9] [(1, fun v W => ∃ A9x c9x F9x m9x, v = .agg #[.string x.name, .int .i64 x.number, .int .i64 x.no, .int .i64 x.path.q, .int .i64 x.path.s, .slice A9x x.path.steps.length c9x, .int .i64 x.path.fr, .int .i64 x.path.by_, .slice F9x x.flown.length m9x] ∧ OwnCr W x A9x c9x F9x m9x), (3, fun v W => ∃ A9y c9y, v = .agg #[.int .i64 y.kind, .string y.name, .int .i64 y.number, .int .i64 y.path.q, .int .i64 y.path.s, .slice A9y y.path.steps.length c9y, .int .i64 y.path.fr, .int .i64 y.path.by_] ∧ OwnP W A9y c9y y.path), (5, fun v W => ∃ Aw cw Fw mw Aw2 cw2, v = .tuple #[.agg #[.string (LL.takeC x y t).name, .int .i64 (LL.takeC x y t).number, .int .i64 (LL.takeC x y t).no, .int .i64 (LL.takeC x y t).path.q, .int .i64 (LL.takeC x y t).path.s, .slice Aw (LL.takeC x y t).path.steps.length cw, .int .i64 (LL.takeC x y t).path.fr, .int .i64 (LL.takeC x y t).path.by_, .slice Fw (LL.takeC x y t).flown.length mw], .agg #[.int .i64 (LL.takeW x y t).kind, .string (LL.takeW x y t).name, .int .i64 (LL.takeW x y t).number, .int .i64 (LL.takeW x y t).path.q, .int .i64 (LL.takeW x y t).path.s, .slice Aw2 (LL.takeW x y t).path.steps.length cw2, .int .i64 (LL.takeW x y t).path.fr, .int .i64 (LL.takeW x y t).path.by_], .bool (decide (LL.CanTake x y t))] ∧ OwnCr W (LL.takeC x y t) Aw cw Fw mw ∧ (∀ j, FpC (LL.takeC x y t) Aw cw Fw mw j → W5.heap.size ≤ j) ∧ OwnP W Aw2 cw2 (LL.takeW x y t).path ∧ (∀ j, Value.ownBlock (.slice Aw2 (LL.takeW x y t).path.steps.length cw2) = some j → W5.heap.size ≤ j)), (10, fun v W => ∃ g, v = .pointer (some ⟨g, 0, none⟩) ∧ W5.heap.size ≤ g ∧ Blk W g #[.string ⟨#[]⟩, .int .i64 0, .int .i64 0, .int .i64 0, .int .i64 0, .slice none 0 0, .int .i64 0, .int .i64 0, .slice none 0 0] 74), (11, fun v W => ∃ g, v = .pointer (some ⟨g, 0, none⟩) ∧ W5.heap.size ≤ g ∧ Blk W g #[.int .i64 0, .string ⟨#[]⟩, .int .i64 0, .int .i64 0, .int .i64 0, .slice none 0 0, .int .i64 0, .int .i64 0] 46)] (by kernel_rfl) (by kernel_rfl) (by intro d9 v9 c9 a9 w9 h9; cases d9 <;> exact h9) ?_
  simp only [List.take_succ_cons, List.take_zero, List.drop_succ_cons, List.drop_zero]
  ((apply rel_plain (hR := rfl) (hF := fun _ => trivial) (hg := rfl)); (focus ((intro w' hL'); (obtain ⟨hcS, hfS, hlS⟩ := bcell hL'); (try simp only [World.size_setCell, World.size_alloc, World.size_drew] at hcS hfS hlS); (go_simp); (try go_bits); (try (first | (rw [if_pos (by omega)]; done) | (rw [if_neg (by omega)]; done) | (rw [if_pos (by omega)]; go_simp) | (rw [if_neg (by omega)]; go_simp))); (first | with_reducible rfl | exact rfl | skip))); (simp only [Act.put, List.setIfInBounds_toArray, List.set_cons_zero, List.set_cons_succ]))
  ((apply rel_told (hR := rfl) (hg := rfl)); (focus ((intro w' hL' hD'); (obtain ⟨hcS, hfS, hlS⟩ := bcell hL'); (try simp only [World.size_setCell, World.size_alloc, World.size_drew] at hcS hfS hlS); (go_simp); (try go_bits); (try (first | (rw [if_pos (by omega)]; done) | (rw [if_neg (by omega)]; done) | (rw [if_pos (by omega)]; go_simp) | (rw [if_neg (by omega)]; go_simp))); ((go_at_call 41); (refine (toLinkCraft_c x Ax cx Fx mx _ (hx.mono (b_step hb hL')) (hfx.mono (b_step hb hL'))).mono ?_); (intro e w'' hM); (obtain ⟨A2x, c2x, F2x, m2x, rfl, hO2, hO2g, hB⟩ := hM); (refine ⟨_, rfl, hB, ?_⟩); ((repeat (first | (refine Tell.hit rfl ?_) | (refine Tell.skip rfl ?_))); exact ⟨A2x, c2x, F2x, m2x, rfl, hO2⟩)))); (intro v' w0' hv'); (replace hv' := Tell.out hv' rfl); (obtain ⟨A2xx, c2xx, F2xx, m2xx, rfl, -⟩ := hv'); (simp only [Act.put, List.setIfInBounds_toArray, List.set_cons_zero, List.set_cons_succ]))
  ((apply rel_plain (hR := rfl) (hF := fun _ => trivial) (hg := rfl)); (focus ((intro w' hL'); (obtain ⟨hcS, hfS, hlS⟩ := bcell hL'); (try simp only [World.size_setCell, World.size_alloc, World.size_drew] at hcS hfS hlS); (go_simp); (try go_bits); (try (first | (rw [if_pos (by omega)]; done) | (rw [if_neg (by omega)]; done) | (rw [if_pos (by omega)]; go_simp) | (rw [if_neg (by omega)]; go_simp))); (first | with_reducible rfl | exact rfl | skip))); (simp only [Act.put, List.setIfInBounds_toArray, List.set_cons_zero, List.set_cons_succ]))
  ((apply rel_told (hR := rfl) (hg := rfl)); (focus ((intro w' hL' hD'); (obtain ⟨hcS, hfS, hlS⟩ := bcell hL'); (try simp only [World.size_setCell, World.size_alloc, World.size_drew] at hcS hfS hlS); (go_simp); (try go_bits); (try (first | (rw [if_pos (by omega)]; done) | (rw [if_neg (by omega)]; done) | (rw [if_pos (by omega)]; go_simp) | (rw [if_neg (by omega)]; go_simp))); ((go_at_call 29); (refine (toLinkWord_c y Ay cy _ (hy.mono (b_step hb hL'))).mono ?_); (intro e w'' hM); (obtain ⟨A2y, c2y, rfl, hO2, hO2g, hB⟩ := hM); (refine ⟨_, rfl, hB, ?_⟩); ((repeat (first | (refine Tell.hit rfl ?_) | (refine Tell.skip rfl ?_))); exact ⟨A2y, c2y, rfl, hO2⟩)))); (intro v' w0' hv'); (replace hv' := Tell.out hv' rfl); (obtain ⟨A2yy, c2yy, rfl, -⟩ := hv'); (simp only [Act.put, List.setIfInBounds_toArray, List.set_cons_zero, List.set_cons_succ]))
  ((apply rel_plain (hR := rfl) (hF := fun _ => trivial) (hg := rfl)); (focus ((intro w' hL'); (obtain ⟨hcS, hfS, hlS⟩ := bcell hL'); (try simp only [World.size_setCell, World.size_alloc, World.size_drew] at hcS hfS hlS); (go_simp); (try go_bits); (try (first | (rw [if_pos (by omega)]; done) | (rw [if_neg (by omega)]; done) | (rw [if_pos (by omega)]; go_simp) | (rw [if_neg (by omega)]; go_simp))); (first | with_reducible rfl | exact rfl | skip))); (simp only [Act.put, List.setIfInBounds_toArray, List.set_cons_zero, List.set_cons_succ]))
  ((apply rel_told (hR := rfl) (hg := rfl)); (focus ((intro w' hL' hD'); (obtain ⟨hcS, hfS, hlS⟩ := bcell hL'); (try simp only [World.size_setCell, World.size_alloc, World.size_drew] at hcS hfS hlS); (go_simp); (try go_bits); (try (first | (rw [if_pos (by omega)]; done) | (rw [if_neg (by omega)]; done) | (rw [if_pos (by omega)]; go_simp) | (rw [if_neg (by omega)]; go_simp))); ((obtain ⟨w8x, hl8x, A8x, c8x, F8x, m8x, e8, hO8x⟩ := Known.out (hD' ⟨1, .data⟩ (by simp) rfl) rfl); (simp at e8; obtain ⟨⟨rfl, rfl⟩, rfl, rfl⟩ := e8); (replace hO8x := hO8x.b hl8x); (obtain ⟨w8y, hl8y, A8y, c8y, e8, hO8y⟩ := Known.out (hD' ⟨3, .data⟩ (by simp) rfl) rfl); (simp at e8; obtain ⟨rfl, rfl⟩ := e8); (replace hO8y := hO8y.b hl8y); (go_at_call 40); (refine (spec_LinkTake_c x y _ _ _ _ _ _ t hzx hzy _ (hO8x.p.rd_at' stepE) (hO8x.f.rd_at' intE) (hO8y.rd_at' stepE)).mono ?_); (intro e w'' hM); (obtain ⟨Au, cu, Fu, mu, Au2, cu2, rfl, hU0, hU1, hU0g, hU1g, hU0d, hB⟩ := hM); (refine ⟨_, rfl, hB, ?_⟩); ((repeat (first | (refine Tell.hit rfl ?_) | (refine Tell.skip rfl ?_))); exact ⟨Au, cu, Fu, mu, Au2, cu2, rfl, hU0, fun j hj => by have := hL'.size; have := hU0g j hj; omega, hU1, fun j hj => by have := hL'.size; have := hU1g j hj; omega⟩)))); (intro v' w0' hv'); (replace hv' := Tell.out hv' rfl); (obtain ⟨Aw, cw, Fw, mw, Aw2, cw2, rfl, -⟩ := hv'); (simp only [Act.put, List.setIfInBounds_toArray, List.set_cons_zero, List.set_cons_succ]))
  iterate 4 ((apply rel_plain (hR := rfl) (hF := fun _ => trivial) (hg := rfl)); (focus ((intro w' hL'); (obtain ⟨hcS, hfS, hlS⟩ := bcell hL'); (try simp only [World.size_setCell, World.size_alloc, World.size_drew] at hcS hfS hlS); (go_simp); (try go_bits); (try (first | (rw [if_pos (by omega)]; done) | (rw [if_neg (by omega)]; done) | (rw [if_pos (by omega)]; go_simp) | (rw [if_neg (by omega)]; go_simp))); (first | with_reducible rfl | exact rfl | skip))); (simp only [Act.put, List.setIfInBounds_toArray, List.set_cons_zero, List.set_cons_succ]))
  ((apply rel_told (hR := rfl) (hg := rfl)); (focus ((intro w' hL' hD'); (obtain ⟨hcS, hfS, hlS⟩ := bcell hL'); (try simp only [World.size_setCell, World.size_alloc, World.size_drew] at hcS hfS hlS); (go_simp); (try go_bits); (try (first | (rw [if_pos (by omega)]; done) | (rw [if_neg (by omega)]; done) | (rw [if_pos (by omega)]; go_simp) | (rw [if_neg (by omega)]; go_simp))); (refine ⟨b_alloc (Below.refl _ _) _, ?_⟩; ((repeat (first | (refine Tell.hit rfl ?_) | (refine Tell.skip rfl ?_))); exact ⟨_, rfl, hL'.size, Blk.new _ _ _⟩)))); (intro v' w0' hv'); (replace hv' := Tell.out hv' rfl); (obtain ⟨gw0, rfl, hgw0, -⟩ := hv'); (simp only [Act.put, List.setIfInBounds_toArray, List.set_cons_zero, List.set_cons_succ]))
  ((apply rel_told (hR := rfl) (hg := rfl)); (focus ((intro w' hL' hD'); (obtain ⟨hcS, hfS, hlS⟩ := bcell hL'); (try simp only [World.size_setCell, World.size_alloc, World.size_drew] at hcS hfS hlS); (go_simp); (try go_bits); (try (first | (rw [if_pos (by omega)]; done) | (rw [if_neg (by omega)]; done) | (rw [if_pos (by omega)]; go_simp) | (rw [if_neg (by omega)]; go_simp))); (refine ⟨b_alloc (Below.refl _ _) _, ?_⟩; ((repeat (first | (refine Tell.hit rfl ?_) | (refine Tell.skip rfl ?_))); exact ⟨_, rfl, hL'.size, Blk.new _ _ _⟩)))); (intro v' w0' hv'); (replace hv' := Tell.out hv' rfl); (obtain ⟨gw1, rfl, hgw1, -⟩ := hv'); (simp only [Act.put, List.setIfInBounds_toArray, List.set_cons_zero, List.set_cons_succ]))
  refine rel_nil ?_
  intro W6 hE hF9
  obtain ⟨wR, hlR, Awz, cwz, Fwz, mwz, Aw2z, cw2z, eR, hW, hWg, hW2, hW2g⟩ := Known.out (hF9 5) rfl
  simp at eR
  obtain ⟨⟨⟨rfl, rfl⟩, rfl, rfl⟩, rfl, rfl⟩ := eR
  replace hW := hW.b hlR
  replace hW2 := hW2.b hlR
  obtain ⟨w90, hl90, g90, e90, hgzw0, kW0⟩ := Known.out (hF9 10) rfl
  cases e90
  replace kW0 := kW0.b hl90
  obtain ⟨w91, hl91, g91, e91, hgzw1, kW1⟩ := Known.out (hF9 11) rfl
  cases e91
  replace kW1 := kW1.b hl91
  clear hF9
  clear ekPx fkPx lkPx ekPy fkPy lkPy
  replace hb := b_step hb hE
  replace kPx := kPx.b hE
  replace kPy := kPy.b hE
  have zW6 := (hE).size
  clear hE
  have hgw01 : gw0 ≠ gw1 := kW0.neT kW1 (by decide)
  have hdw00 := hW.neB kW0 (by decide) (by decide)
  have hdw10 := hW2.neB kW0 (by decide)
  have hlw0 := kW0.cells.2.2
  have hdw01 := hW.neB kW1 (by decide) (by decide)
  have hdw11 := hW2.neB kW1 (by decide)
  have hlw1 := kW1.cells.2.2
  obtain ⟨ekW0, fkW0, lkW0⟩ := kW0.cells
  obtain ⟨ekW1, fkW1, lkW1⟩ := kW1.cells
  obtain ⟨ekPx, fkPx, lkPx⟩ := kPx.cells
  obtain ⟨ekPy, fkPy, lkPy⟩ := kPy.cells
  go_wp2_with fail
  refine calls_name (fun W => GrownS W6 W (fun k => k = gw0 ∨ k = gw1) ∧ Blk W gw0 #[.string (LL.takeC x y t).name, .int .i64 (LL.takeC x y t).number, .int .i64 (LL.takeC x y t).no, .int .i64 (LL.takeC x y t).path.q, .int .i64 (LL.takeC x y t).path.s, .slice Aw (LL.takeC x y t).path.steps.length cw, .int .i64 (LL.takeC x y t).path.fr, .int .i64 (LL.takeC x y t).path.by_, .slice Fw (LL.takeC x y t).flown.length mw] 74 ∧ Blk W gw1 #[.int .i64 (LL.takeW x y t).kind, .string (LL.takeW x y t).name, .int .i64 (LL.takeW x y t).number, .int .i64 (LL.takeW x y t).path.q, .int .i64 (LL.takeW x y t).path.s, .slice Aw2 (LL.takeW x y t).path.steps.length cw2, .int .i64 (LL.takeW x y t).path.fr, .int .i64 (LL.takeW x y t).path.by_] 46) ⟨(by repeat' (first | with_reducible exact GrownS.refl _ _ | with_reducible refine gS_set ?_ (by first | exact rfl | exact Or.inl rfl | exact Or.inr rfl | exact Or.inr (Or.inl rfl) | exact Or.inr (Or.inr rfl)) _ | with_reducible refine gS_drew ?_ | with_reducible refine gS_alloc ?_ _)), (by simpa using (((((((((((((((((kW0.put 0 (.string (LL.takeC x y t).name)).put 1 (.int .i64 (LL.takeC x y t).number)).put 2 (.int .i64 (LL.takeC x y t).no)).put 3 (.int .i64 (LL.takeC x y t).path.q)).put 4 (.int .i64 (LL.takeC x y t).path.s)).put 5 (.slice Aw (LL.takeC x y t).path.steps.length cw)).put 6 (.int .i64 (LL.takeC x y t).path.fr)).put 7 (.int .i64 (LL.takeC x y t).path.by_)).put 8 (.slice Fw (LL.takeC x y t).flown.length mw)).s (p := ⟨gw1, 0, none⟩) (by simp only [ne_eq]; omega) (.int .i64 (LL.takeW x y t).kind)).s (p := ⟨gw1, 1, none⟩) (by simp only [ne_eq]; omega) (.string (LL.takeW x y t).name)).s (p := ⟨gw1, 2, none⟩) (by simp only [ne_eq]; omega) (.int .i64 (LL.takeW x y t).number)).s (p := ⟨gw1, 3, none⟩) (by simp only [ne_eq]; omega) (.int .i64 (LL.takeW x y t).path.q)).s (p := ⟨gw1, 4, none⟩) (by simp only [ne_eq]; omega) (.int .i64 (LL.takeW x y t).path.s)).s (p := ⟨gw1, 5, none⟩) (by simp only [ne_eq]; omega) (.slice Aw2 (LL.takeW x y t).path.steps.length cw2)).s (p := ⟨gw1, 6, none⟩) (by simp only [ne_eq]; omega) (.int .i64 (LL.takeW x y t).path.fr)).s (p := ⟨gw1, 7, none⟩) (by simp only [ne_eq]; omega) (.int .i64 (LL.takeW x y t).path.by_))), (by simpa using (((((((((((((((((kW1.s (p := ⟨gw0, 0, none⟩) (by simp only [ne_eq]; omega) (.string (LL.takeC x y t).name)).s (p := ⟨gw0, 1, none⟩) (by simp only [ne_eq]; omega) (.int .i64 (LL.takeC x y t).number)).s (p := ⟨gw0, 2, none⟩) (by simp only [ne_eq]; omega) (.int .i64 (LL.takeC x y t).no)).s (p := ⟨gw0, 3, none⟩) (by simp only [ne_eq]; omega) (.int .i64 (LL.takeC x y t).path.q)).s (p := ⟨gw0, 4, none⟩) (by simp only [ne_eq]; omega) (.int .i64 (LL.takeC x y t).path.s)).s (p := ⟨gw0, 5, none⟩) (by simp only [ne_eq]; omega) (.slice Aw (LL.takeC x y t).path.steps.length cw)).s (p := ⟨gw0, 6, none⟩) (by simp only [ne_eq]; omega) (.int .i64 (LL.takeC x y t).path.fr)).s (p := ⟨gw0, 7, none⟩) (by simp only [ne_eq]; omega) (.int .i64 (LL.takeC x y t).path.by_)).s (p := ⟨gw0, 8, none⟩) (by simp only [ne_eq]; omega) (.slice Fw (LL.takeC x y t).flown.length mw)).put 0 (.int .i64 (LL.takeW x y t).kind)).put 1 (.string (LL.takeW x y t).name)).put 2 (.int .i64 (LL.takeW x y t).number)).put 3 (.int .i64 (LL.takeW x y t).path.q)).put 4 (.int .i64 (LL.takeW x y t).path.s)).put 5 (.slice Aw2 (LL.takeW x y t).path.steps.length cw2)).put 6 (.int .i64 (LL.takeW x y t).path.fr)).put 7 (.int .i64 (LL.takeW x y t).path.by_)))⟩ ?_
  clear ekPx fkPx lkPx ekPy fkPy lkPy
  clear kW0 kW1 ekW0 fkW0 lkW0 ekW1 fkW1 lkW1
  rintro W7 ⟨hg, kW0, kW1⟩
  replace kPx := kPx.gS hg (fun h2 => by have h3 := kPxl; omega)
  replace kPy := kPy.gS hg (fun h2 => by have h3 := kPyl; omega)
  replace hW := hW.gS hg (fun k h1 h2 => by have h30 := hdw00 k h1; have h31 := hdw01 k h1; omega)
  replace hW2 := hW2.gS hg (fun k h1 h2 => by have h30 := hdw10 k h1; have h31 := hdw11 k h1; omega)
  replace hb := b_gS hb hg hb.size (fun k hk => by omega)
  have zW7 := hg.size
  clear hg
  have kW0l := kW0.cells.2.2
  have kW1l := kW1.cells.2.2
  have hWl := hW.lt
  have hW2l := fun k hk => (hW2.row.lt k hk).2
  refine (toLinkCraft_c x Ax cx Fx mx _ (hx.mono hb) (hfx.mono hb)).mono ?_
  intro e W8 hM
  obtain ⟨Axx, cxx, Fxx, mxx, rfl, hXx, hXxg, hB⟩ := hM
  replace hb := b_step hb hB
  replace kPx := kPx.b hB
  replace kPy := kPy.b hB
  replace hW := hW.b hB
  replace hW2 := hW2.b hB
  replace kW0 := kW0.b hB
  replace kW1 := kW1.b hB
  have zW8 := (hB).size
  clear hB
  have hXxl := hXx.lt
  obtain ⟨ekPx, fkPx, lkPx⟩ := kPx.cells
  obtain ⟨ekPy, fkPy, lkPy⟩ := kPy.cells
  obtain ⟨ekW0, fkW0, lkW0⟩ := kW0.cells
  obtain ⟨ekW1, fkW1, lkW1⟩ := kW1.cells
  go_wp2_with fail
  refine calls_name (fun W => Below W8.heap.size W8 W ∧ Blk W W8.heap.size #[.string x.name, .int .i64 x.number, .int .i64 x.no, .int .i64 x.path.q, .int .i64 x.path.s, .slice Axx x.path.steps.length cxx, .int .i64 x.path.fr, .int .i64 x.path.by_, .slice Fxx x.flown.length mxx] 74) ⟨(by repeat' (first | with_reducible exact Below.refl _ _ | with_reducible assumption | with_reducible refine b_alloc ?_ _ | with_reducible refine b_drewN ?_ _ | with_reducible refine b_drew ?_ | with_reducible refine b_set ?_ (by first | (simp only [World.size_setCell, World.size_alloc, World.size_drew]; omega) | (simp; done) | (simp; omega)) _ | with_reducible refine b_step ?_ (by with_reducible assumption))), Blk.new _ _ _⟩ ?_
  rintro W9 ⟨hE, kXx⟩
  clear ekPx fkPx lkPx ekPy fkPy lkPy ekW0 fkW0 lkW0 ekW1 fkW1 lkW1
  replace hb := b_step hb hE
  replace kPx := kPx.b hE
  replace kPy := kPy.b hE
  replace hW := hW.b hE
  replace hW2 := hW2.b hE
  replace kW0 := kW0.b hE
  replace kW1 := kW1.b hE
  replace hXx := hXx.b hE
  have zW9 := (hE).size
  clear hE
  have kXxl := kXx.cells.2.2
  refine (toLinkWord_c y Ay cy _ (hy.mono hb)).mono ?_
  intro e W10 hM
  obtain ⟨Axy, cxy, rfl, hXy, hXyg, hB⟩ := hM
  replace hb := b_step hb hB
  replace kPx := kPx.b hB
  replace kPy := kPy.b hB
  replace hW := hW.b hB
  replace hW2 := hW2.b hB
  replace kW0 := kW0.b hB
  replace kW1 := kW1.b hB
  replace hXx := hXx.b hB
  replace kXx := kXx.b hB
  have zW10 := (hB).size
  clear hB
  have hXyl := fun k hk => (hXy.row.lt k hk).2
  obtain ⟨ekPx, fkPx, lkPx⟩ := kPx.cells
  obtain ⟨ekPy, fkPy, lkPy⟩ := kPy.cells
  obtain ⟨ekW0, fkW0, lkW0⟩ := kW0.cells
  obtain ⟨ekW1, fkW1, lkW1⟩ := kW1.cells
  obtain ⟨ekXx, fkXx, lkXx⟩ := kXx.cells
  go_wp2_with fail
  refine calls_name (fun W => Below W10.heap.size W10 W ∧ Blk W W10.heap.size #[.int .i64 y.kind, .string y.name, .int .i64 y.number, .int .i64 y.path.q, .int .i64 y.path.s, .slice Axy y.path.steps.length cxy, .int .i64 y.path.fr, .int .i64 y.path.by_] 46) ⟨(by repeat' (first | with_reducible exact Below.refl _ _ | with_reducible assumption | with_reducible refine b_alloc ?_ _ | with_reducible refine b_drewN ?_ _ | with_reducible refine b_drew ?_ | with_reducible refine b_set ?_ (by first | (simp only [World.size_setCell, World.size_alloc, World.size_drew]; omega) | (simp; done) | (simp; omega)) _ | with_reducible refine b_step ?_ (by with_reducible assumption))), Blk.new _ _ _⟩ ?_
  rintro W11 ⟨hE, kXy⟩
  clear ekPx fkPx lkPx ekPy fkPy lkPy ekW0 fkW0 lkW0 ekW1 fkW1 lkW1 ekXx fkXx lkXx
  replace hb := b_step hb hE
  replace kPx := kPx.b hE
  replace kPy := kPy.b hE
  replace hW := hW.b hE
  replace hW2 := hW2.b hE
  replace kW0 := kW0.b hE
  replace kW1 := kW1.b hE
  replace hXx := hXx.b hE
  replace kXx := kXx.b hE
  replace hXy := hXy.b hE
  have zW11 := (hE).size
  clear hE
  have kXyl := kXy.cells.2.2
  refine (impl_LinkTake_c x y Axx Fxx Axy cxx mxx cxy t hzx hzy _ (hXx.p.rd_at' stepE) (hXx.f.rd_at' intE) (hXy.rd_at' stepE)).mono ?_
  intro e W12 hM
  obtain ⟨Ag, cg, Fg, mg, Ag2, cg2, rfl, hG, hG2, hGg, hG2g, hGd, hB⟩ := hM
  replace hb := b_step hb hB
  replace kPx := kPx.b hB
  replace kPy := kPy.b hB
  replace hW := hW.b hB
  replace hW2 := hW2.b hB
  replace kW0 := kW0.b hB
  replace kW1 := kW1.b hB
  replace hXx := hXx.b hB
  replace kXx := kXx.b hB
  replace hXy := hXy.b hB
  replace kXy := kXy.b hB
  have zW12 := (hB).size
  clear hB
  have hGl := hG.lt
  have hG2l := fun k hk => (hG2.row.lt k hk).2
  obtain ⟨ekPx, fkPx, lkPx⟩ := kPx.cells
  obtain ⟨ekPy, fkPy, lkPy⟩ := kPy.cells
  obtain ⟨ekW0, fkW0, lkW0⟩ := kW0.cells
  obtain ⟨ekW1, fkW1, lkW1⟩ := kW1.cells
  obtain ⟨ekXx, fkXx, lkXx⟩ := kXx.cells
  obtain ⟨ekXy, fkXy, lkXy⟩ := kXy.cells
  go_wp2_with fail
  refine calls_name (fun W => Below W12.heap.size W12 W ∧ Blk W W12.heap.size #[.string (LL.takeC x y t).name, .int .i64 (LL.takeC x y t).number, .int .i64 (LL.takeC x y t).no, .int .i64 (LL.takeC x y t).path.q, .int .i64 (LL.takeC x y t).path.s, .slice Ag (LL.takeC x y t).path.steps.length cg, .int .i64 (LL.takeC x y t).path.fr, .int .i64 (LL.takeC x y t).path.by_, .slice Fg (LL.takeC x y t).flown.length mg] 74 ∧ Blk W (W12.heap.size + 1) #[.int .i64 (LL.takeW x y t).kind, .string (LL.takeW x y t).name, .int .i64 (LL.takeW x y t).number, .int .i64 (LL.takeW x y t).path.q, .int .i64 (LL.takeW x y t).path.s, .slice Ag2 (LL.takeW x y t).path.steps.length cg2, .int .i64 (LL.takeW x y t).path.fr, .int .i64 (LL.takeW x y t).path.by_] 46) ⟨(by repeat' (first | with_reducible exact Below.refl _ _ | with_reducible assumption | with_reducible refine b_alloc ?_ _ | with_reducible refine b_drewN ?_ _ | with_reducible refine b_drew ?_ | with_reducible refine b_set ?_ (by first | (simp only [World.size_setCell, World.size_alloc, World.size_drew]; omega) | (simp; done) | (simp; omega)) _ | with_reducible refine b_step ?_ (by with_reducible assumption))), (by repeat' (first | with_reducible assumption | with_reducible exact Blk.new _ _ _ | with_reducible exact Blk.new' _ _ (by first | (simp only [World.size_alloc, World.size_setCell, World.size_drew]; done) | (simp only [World.size_alloc, World.size_setCell, World.size_drew]; omega) | omega) | with_reducible refine Blk.a ?_ _ | with_reducible refine Blk.d ?_ | with_reducible refine Blk.dN ?_ _ | with_reducible refine Blk.s ?_ (by simp only [ne_eq]; omega) _ | with_reducible refine Blk.b ?_ (by with_reducible assumption))), (by repeat' (first | with_reducible assumption | with_reducible exact Blk.new _ _ _ | with_reducible exact Blk.new' _ _ (by first | (simp only [World.size_alloc, World.size_setCell, World.size_drew]; done) | (simp only [World.size_alloc, World.size_setCell, World.size_drew]; omega) | omega) | with_reducible refine Blk.a ?_ _ | with_reducible refine Blk.d ?_ | with_reducible refine Blk.dN ?_ _ | with_reducible refine Blk.s ?_ (by simp only [ne_eq]; omega) _ | with_reducible refine Blk.b ?_ (by with_reducible assumption)))⟩ ?_
  rintro W13 ⟨hE, kG0, kG1⟩
  clear ekPx fkPx lkPx ekPy fkPy lkPy ekW0 fkW0 lkW0 ekW1 fkW1 lkW1 ekXx fkXx lkXx ekXy fkXy lkXy
  replace hb := b_step hb hE
  replace kPx := kPx.b hE
  replace kPy := kPy.b hE
  replace hW := hW.b hE
  replace hW2 := hW2.b hE
  replace kW0 := kW0.b hE
  replace kW1 := kW1.b hE
  replace hXx := hXx.b hE
  replace kXx := kXx.b hE
  replace hXy := hXy.b hE
  replace kXy := kXy.b hE
  replace hG := hG.b hE
  replace hG2 := hG2.b hE
  have zW13 := (hE).size
  clear hE
  have kG0l := kG0.cells.2.2
  have kG1l := kG1.cells.2.2
  refine (eqLinkCraft_c (LL.takeC x y t) _ _ _ _ _ _ _ _ _ hG hW).mono ?_
  rintro e W14 ⟨rfl, hB⟩
  replace hb := b_step hb hB
  replace kPx := kPx.b hB
  replace kPy := kPy.b hB
  replace hW := hW.b hB
  replace hW2 := hW2.b hB
  replace kW0 := kW0.b hB
  replace kW1 := kW1.b hB
  replace hXx := hXx.b hB
  replace kXx := kXx.b hB
  replace hXy := hXy.b hB
  replace kXy := kXy.b hB
  replace hG := hG.b hB
  replace hG2 := hG2.b hB
  replace kG0 := kG0.b hB
  replace kG1 := kG1.b hB
  have zW14 := (hB).size
  clear hB
  obtain ⟨ekPx, fkPx, lkPx⟩ := kPx.cells
  obtain ⟨ekPy, fkPy, lkPy⟩ := kPy.cells
  obtain ⟨ekW0, fkW0, lkW0⟩ := kW0.cells
  obtain ⟨ekW1, fkW1, lkW1⟩ := kW1.cells
  obtain ⟨ekXx, fkXx, lkXx⟩ := kXx.cells
  obtain ⟨ekXy, fkXy, lkXy⟩ := kXy.cells
  obtain ⟨ekG0, fkG0, lkG0⟩ := kG0.cells
  obtain ⟨ekG1, fkG1, lkG1⟩ := kG1.cells
  go_wp2_with fail
  refine calls_name (fun W => Below W14.heap.size W14 W) (by repeat' (first | with_reducible exact Below.refl _ _ | with_reducible assumption | with_reducible refine b_alloc ?_ _ | with_reducible refine b_drewN ?_ _ | with_reducible refine b_drew ?_ | with_reducible refine b_set ?_ (by first | (simp only [World.size_setCell, World.size_alloc, World.size_drew]; omega) | (simp; done) | (simp; omega)) _ | with_reducible refine b_step ?_ (by with_reducible assumption))) ?_
  intro W15 hE
  clear ekPx fkPx lkPx ekPy fkPy lkPy ekW0 fkW0 lkW0 ekW1 fkW1 lkW1 ekXx fkXx lkXx ekXy fkXy lkXy ekG0 fkG0 lkG0 ekG1 fkG1 lkG1
  replace hb := b_step hb hE
  replace kPx := kPx.b hE
  replace kPy := kPy.b hE
  replace hW := hW.b hE
  replace hW2 := hW2.b hE
  replace kW0 := kW0.b hE
  replace kW1 := kW1.b hE
  replace hXx := hXx.b hE
  replace kXx := kXx.b hE
  replace hXy := hXy.b hE
  replace kXy := kXy.b hE
  replace hG := hG.b hE
  replace hG2 := hG2.b hE
  replace kG0 := kG0.b hE
  replace kG1 := kG1.b hE
  have zW15 := (hE).size
  clear hE
  refine (eqLinkWord_c (LL.takeW x y t) _ _ _ _ _ (hG2.rd_at' stepE) (hW2.rd_at' stepE)).mono ?_
  rintro e W16 ⟨rfl, hB⟩
  replace hb := b_step hb hB
  replace kPx := kPx.b hB
  replace kPy := kPy.b hB
  replace hW := hW.b hB
  replace hW2 := hW2.b hB
  replace kW0 := kW0.b hB
  replace kW1 := kW1.b hB
  replace hXx := hXx.b hB
  replace kXx := kXx.b hB
  replace hXy := hXy.b hB
  replace kXy := kXy.b hB
  replace hG := hG.b hB
  replace hG2 := hG2.b hB
  replace kG0 := kG0.b hB
  replace kG1 := kG1.b hB
  have zW16 := (hB).size
  clear hB
  obtain ⟨ekPx, fkPx, lkPx⟩ := kPx.cells
  obtain ⟨ekPy, fkPy, lkPy⟩ := kPy.cells
  obtain ⟨ekW0, fkW0, lkW0⟩ := kW0.cells
  obtain ⟨ekW1, fkW1, lkW1⟩ := kW1.cells
  obtain ⟨ekXx, fkXx, lkXx⟩ := kXx.cells
  obtain ⟨ekXy, fkXy, lkXy⟩ := kXy.cells
  obtain ⟨ekG0, fkG0, lkG0⟩ := kG0.cells
  obtain ⟨ekG1, fkG1, lkG1⟩ := kG1.cells
  go_wp2_with fail
  refine wp_name (fun W => Below W16.heap.size W16 W) (by repeat' (first | with_reducible exact Below.refl _ _ | with_reducible assumption | with_reducible refine b_alloc ?_ _ | with_reducible refine b_drewN ?_ _ | with_reducible refine b_drew ?_ | with_reducible refine b_set ?_ (by first | (simp only [World.size_setCell, World.size_alloc, World.size_drew]; omega) | (simp; done) | (simp; omega)) _ | with_reducible refine b_step ?_ (by with_reducible assumption))) ?_
  intro W17 hE
  clear ekPx fkPx lkPx ekPy fkPy lkPy ekW0 fkW0 lkW0 ekW1 fkW1 lkW1 ekXx fkXx lkXx ekXy fkXy lkXy ekG0 fkG0 lkG0 ekG1 fkG1 lkG1
  replace hb := b_step hb hE
  replace kPx := kPx.b hE
  replace kPy := kPy.b hE
  replace hW := hW.b hE
  replace hW2 := hW2.b hE
  replace kW0 := kW0.b hE
  replace kW1 := kW1.b hE
  replace hXx := hXx.b hE
  replace kXx := kXx.b hE
  replace hXy := hXy.b hE
  replace kXy := kXy.b hE
  replace hG := hG.b hE
  replace hG2 := hG2.b hE
  replace kG0 := kG0.b hE
  replace kG1 := kG1.b hE
  have zW17 := (hE).size
  clear hE
  obtain ⟨ekPx, fkPx, lkPx⟩ := kPx.cells
  obtain ⟨ekPy, fkPy, lkPy⟩ := kPy.cells
  obtain ⟨ekW0, fkW0, lkW0⟩ := kW0.cells
  obtain ⟨ekW1, fkW1, lkW1⟩ := kW1.cells
  obtain ⟨ekXx, fkXx, lkXx⟩ := kXx.cells
  obtain ⟨ekXy, fkXy, lkXy⟩ := kXy.cells
  obtain ⟨ekG0, fkG0, lkG0⟩ := kG0.cells
  obtain ⟨ekG1, fkG1, lkG1⟩ := kG1.cells
  refine rel_b [(2, fun v W => ∃ A9 c9 F9 m9, v = .agg #[.string x.name, .int .i64 x.number, .int .i64 x.no, .int .i64 x.path.q, .int .i64 x.path.s, .slice A9 x.path.steps.length c9, .int .i64 x.path.fr, .int .i64 x.path.by_, .slice F9 x.flown.length m9] ∧ OwnCr W x A9 c9 F9 m9), (3, fun v _ => v = .bool true)] (by kernel_rfl) (by kernel_rfl) ?_
  ((apply rel_plain (hR := rfl) (hF := fun _ => trivial) (hg := rfl)); (focus ((intro w' hL'); (obtain ⟨hcS, hfS, hlS⟩ := bcell hL'); (try simp only [World.size_setCell, World.size_alloc, World.size_drew] at hcS hfS hlS); (go_simp); (try go_bits); (try (first | (rw [if_pos (by omega)]; done) | (rw [if_neg (by omega)]; done) | (rw [if_pos (by omega)]; go_simp) | (rw [if_neg (by omega)]; go_simp))); (first | with_reducible rfl | exact rfl | skip))); (simp only [Act.put, List.setIfInBounds_toArray, List.set_cons_zero, List.set_cons_succ]))
  ((apply rel_plain (hR := rfl) (hF := fun _ => trivial) (hg := rfl)); (focus ((intro w' hL'); (obtain ⟨hcS, hfS, hlS⟩ := bcell hL'); (try simp only [World.size_setCell, World.size_alloc, World.size_drew] at hcS hfS hlS); (go_simp); (try go_bits); (try (first | (rw [if_pos (by omega)]; done) | (rw [if_neg (by omega)]; done) | (rw [if_pos (by omega)]; go_simp) | (rw [if_neg (by omega)]; go_simp))); (first | with_reducible rfl | exact rfl | skip))); (simp only [Act.put, List.setIfInBounds_toArray, List.set_cons_zero, List.set_cons_succ]))
  ((apply rel_told (hR := rfl) (hg := rfl)); (focus ((intro w' hL' hD'); (obtain ⟨hcS, hfS, hlS⟩ := bcell hL'); (try simp only [World.size_setCell, World.size_alloc, World.size_drew] at hcS hfS hlS); (go_simp); (try go_bits); (try (first | (rw [if_pos (by omega)]; done) | (rw [if_neg (by omega)]; done) | (rw [if_pos (by omega)]; go_simp) | (rw [if_neg (by omega)]; go_simp))); ((go_at_call 41); (refine (toLinkCraft_c x Ax cx Fx mx _ (hx.mono (b_step hb hL')) (hfx.mono (b_step hb hL'))).mono ?_); (intro e w'' hM); (obtain ⟨A2, c2, F2, m2, rfl, hO2, hO2g, hB⟩ := hM); (refine ⟨_, rfl, hB, ?_⟩); ((repeat (first | (refine Tell.hit rfl ?_) | (refine Tell.skip rfl ?_))); exact ⟨A2, c2, F2, m2, rfl, hO2⟩)))); (intro v' w0' hv'); (replace hv' := Tell.out hv' rfl); (obtain ⟨A2x, c2x, F2x, m2x, rfl, -⟩ := hv'); (simp only [Act.put, List.setIfInBounds_toArray, List.set_cons_zero, List.set_cons_succ]))
  ((apply rel_told (hR := rfl) (hg := rfl)); (focus ((intro w' hL' hD'); (obtain ⟨hcS, hfS, hlS⟩ := bcell hL'); (try simp only [World.size_setCell, World.size_alloc, World.size_drew] at hcS hfS hlS); (go_simp); (try go_bits); (try (first | (rw [if_pos (by omega)]; done) | (rw [if_neg (by omega)]; done) | (rw [if_pos (by omega)]; go_simp) | (rw [if_neg (by omega)]; go_simp))); ((obtain ⟨w8, hl8, A8, c8, F8, m8, e8, hO8⟩ := Known.out (hD' ⟨2, .data⟩ (by simp) rfl) rfl); (simp at e8; obtain ⟨⟨rfl, rfl⟩, rfl, rfl⟩ := e8); (replace hO8 := hO8.b hl8); ((go_at_call 43); (refine (eqLinkCraft_c x _ _ _ _ _ _ _ _ _ (hXx.b hL') hO8).mono ?_); (rintro e w'' ⟨rfl, hb''⟩); (refine ⟨_, rfl, ?_, ?_⟩); (focus (first | exact hb'' | (subst hb''; exact Le.refl _))); ((repeat (first | (refine Tell.hit rfl ?_) | (refine Tell.skip rfl ?_))); exact rfl))))); (intro v' w0' hv'); (replace hv' := Tell.out hv' rfl); (obtain rfl := hv'); (simp only [Act.put, List.setIfInBounds_toArray, List.set_cons_zero, List.set_cons_succ]))
  ((apply rel_plain (hR := rfl) (hF := fun _ => trivial) (hg := rfl)); (focus ((intro w' hL'); (obtain ⟨hcS, hfS, hlS⟩ := bcell hL'); (try simp only [World.size_setCell, World.size_alloc, World.size_drew] at hcS hfS hlS); (go_simp); (try go_bits); (try (first | (rw [if_pos (by omega)]; done) | (rw [if_neg (by omega)]; done) | (rw [if_pos (by omega)]; go_simp) | (rw [if_neg (by omega)]; go_simp))); (first | with_reducible rfl | exact rfl | skip))); (simp only [Act.put, List.setIfInBounds_toArray, List.set_cons_zero, List.set_cons_succ]))
  refine rel_nil ?_
  intro W18 hE hF9
  clear hF9
  clear ekPx fkPx lkPx ekPy fkPy lkPy ekW0 fkW0 lkW0 ekW1 fkW1 lkW1 ekXx fkXx lkXx ekXy fkXy lkXy ekG0 fkG0 lkG0 ekG1 fkG1 lkG1
  replace hb := b_step hb hE
  replace kPx := kPx.b hE
  replace kPy := kPy.b hE
  replace hW := hW.b hE
  replace hW2 := hW2.b hE
  replace kW0 := kW0.b hE
  replace kW1 := kW1.b hE
  replace hXx := hXx.b hE
  replace kXx := kXx.b hE
  replace hXy := hXy.b hE
  replace kXy := kXy.b hE
  replace hG := hG.b hE
  replace hG2 := hG2.b hE
  replace kG0 := kG0.b hE
  replace kG1 := kG1.b hE
  have zW18 := (hE).size
  clear hE
  obtain ⟨ekPx, fkPx, lkPx⟩ := kPx.cells
  obtain ⟨ekPy, fkPy, lkPy⟩ := kPy.cells
  obtain ⟨ekW0, fkW0, lkW0⟩ := kW0.cells
  obtain ⟨ekW1, fkW1, lkW1⟩ := kW1.cells
  obtain ⟨ekXx, fkXx, lkXx⟩ := kXx.cells
  obtain ⟨ekXy, fkXy, lkXy⟩ := kXy.cells
  obtain ⟨ekG0, fkG0, lkG0⟩ := kG0.cells
  obtain ⟨ekG1, fkG1, lkG1⟩ := kG1.cells
  go_wp2_with fail
  refine wp_name (fun W => Below W18.heap.size W18 W) (by repeat' (first | with_reducible exact Below.refl _ _ | with_reducible assumption | with_reducible refine b_alloc ?_ _ | with_reducible refine b_drewN ?_ _ | with_reducible refine b_drew ?_ | with_reducible refine b_set ?_ (by first | (simp only [World.size_setCell, World.size_alloc, World.size_drew]; omega) | (simp; done) | (simp; omega)) _ | with_reducible refine b_step ?_ (by with_reducible assumption))) ?_
  intro W19 hE
  clear ekPx fkPx lkPx ekPy fkPy lkPy ekW0 fkW0 lkW0 ekW1 fkW1 lkW1 ekXx fkXx lkXx ekXy fkXy lkXy ekG0 fkG0 lkG0 ekG1 fkG1 lkG1
  replace hb := b_step hb hE
  replace kPx := kPx.b hE
  replace kPy := kPy.b hE
  replace hW := hW.b hE
  replace hW2 := hW2.b hE
  replace kW0 := kW0.b hE
  replace kW1 := kW1.b hE
  replace hXx := hXx.b hE
  replace kXx := kXx.b hE
  replace hXy := hXy.b hE
  replace kXy := kXy.b hE
  replace hG := hG.b hE
  replace hG2 := hG2.b hE
  replace kG0 := kG0.b hE
  replace kG1 := kG1.b hE
  have zW19 := (hE).size
  clear hE
  obtain ⟨ekPx, fkPx, lkPx⟩ := kPx.cells
  obtain ⟨ekPy, fkPy, lkPy⟩ := kPy.cells
  obtain ⟨ekW0, fkW0, lkW0⟩ := kW0.cells
  obtain ⟨ekW1, fkW1, lkW1⟩ := kW1.cells
  obtain ⟨ekXx, fkXx, lkXx⟩ := kXx.cells
  obtain ⟨ekXy, fkXy, lkXy⟩ := kXy.cells
  obtain ⟨ekG0, fkG0, lkG0⟩ := kG0.cells
  obtain ⟨ekG1, fkG1, lkG1⟩ := kG1.cells
  refine rel_b [(2, fun v W => ∃ A9 c9, v = .agg #[.int .i64 y.kind, .string y.name, .int .i64 y.number, .int .i64 y.path.q, .int .i64 y.path.s, .slice A9 y.path.steps.length c9, .int .i64 y.path.fr, .int .i64 y.path.by_] ∧ OwnP W A9 c9 y.path), (3, fun v _ => v = .bool true)] (by kernel_rfl) (by kernel_rfl) ?_
  ((apply rel_plain (hR := rfl) (hF := fun _ => trivial) (hg := rfl)); (focus ((intro w' hL'); (obtain ⟨hcS, hfS, hlS⟩ := bcell hL'); (try simp only [World.size_setCell, World.size_alloc, World.size_drew] at hcS hfS hlS); (go_simp); (try go_bits); (try (first | (rw [if_pos (by omega)]; done) | (rw [if_neg (by omega)]; done) | (rw [if_pos (by omega)]; go_simp) | (rw [if_neg (by omega)]; go_simp))); (first | with_reducible rfl | exact rfl | skip))); (simp only [Act.put, List.setIfInBounds_toArray, List.set_cons_zero, List.set_cons_succ]))
  ((apply rel_plain (hR := rfl) (hF := fun _ => trivial) (hg := rfl)); (focus ((intro w' hL'); (obtain ⟨hcS, hfS, hlS⟩ := bcell hL'); (try simp only [World.size_setCell, World.size_alloc, World.size_drew] at hcS hfS hlS); (go_simp); (try go_bits); (try (first | (rw [if_pos (by omega)]; done) | (rw [if_neg (by omega)]; done) | (rw [if_pos (by omega)]; go_simp) | (rw [if_neg (by omega)]; go_simp))); (first | with_reducible rfl | exact rfl | skip))); (simp only [Act.put, List.setIfInBounds_toArray, List.set_cons_zero, List.set_cons_succ]))
  ((apply rel_told (hR := rfl) (hg := rfl)); (focus ((intro w' hL' hD'); (obtain ⟨hcS, hfS, hlS⟩ := bcell hL'); (try simp only [World.size_setCell, World.size_alloc, World.size_drew] at hcS hfS hlS); (go_simp); (try go_bits); (try (first | (rw [if_pos (by omega)]; done) | (rw [if_neg (by omega)]; done) | (rw [if_pos (by omega)]; go_simp) | (rw [if_neg (by omega)]; go_simp))); ((go_at_call 29); (refine (toLinkWord_c y Ay cy _ (hy.mono (b_step hb hL'))).mono ?_); (intro e w'' hM); (obtain ⟨A2, c2, rfl, hO2, hO2g, hB⟩ := hM); (refine ⟨_, rfl, hB, ?_⟩); ((repeat (first | (refine Tell.hit rfl ?_) | (refine Tell.skip rfl ?_))); exact ⟨A2, c2, rfl, hO2⟩)))); (intro v' w0' hv'); (replace hv' := Tell.out hv' rfl); (obtain ⟨A2y, c2y, rfl, -⟩ := hv'); (simp only [Act.put, List.setIfInBounds_toArray, List.set_cons_zero, List.set_cons_succ]))
  ((apply rel_told (hR := rfl) (hg := rfl)); (focus ((intro w' hL' hD'); (obtain ⟨hcS, hfS, hlS⟩ := bcell hL'); (try simp only [World.size_setCell, World.size_alloc, World.size_drew] at hcS hfS hlS); (go_simp); (try go_bits); (try (first | (rw [if_pos (by omega)]; done) | (rw [if_neg (by omega)]; done) | (rw [if_pos (by omega)]; go_simp) | (rw [if_neg (by omega)]; go_simp))); ((obtain ⟨w8, hl8, A8, c8, e8, hO8⟩ := Known.out (hD' ⟨2, .data⟩ (by simp) rfl) rfl); (simp at e8; obtain ⟨rfl, rfl⟩ := e8); (replace hO8 := hO8.b hl8); ((go_at_call 23); (refine (eqLinkWord_c y _ _ _ _ _ ((hXy.b hL').rd_at' stepE) (hO8.rd_at' stepE)).mono ?_); (rintro e w'' ⟨rfl, hb''⟩); (refine ⟨_, rfl, ?_, ?_⟩); (focus (first | exact hb'' | (subst hb''; exact Le.refl _))); ((repeat (first | (refine Tell.hit rfl ?_) | (refine Tell.skip rfl ?_))); exact rfl))))); (intro v' w0' hv'); (replace hv' := Tell.out hv' rfl); (obtain rfl := hv'); (simp only [Act.put, List.setIfInBounds_toArray, List.set_cons_zero, List.set_cons_succ]))
  ((apply rel_plain (hR := rfl) (hF := fun _ => trivial) (hg := rfl)); (focus ((intro w' hL'); (obtain ⟨hcS, hfS, hlS⟩ := bcell hL'); (try simp only [World.size_setCell, World.size_alloc, World.size_drew] at hcS hfS hlS); (go_simp); (try go_bits); (try (first | (rw [if_pos (by omega)]; done) | (rw [if_neg (by omega)]; done) | (rw [if_pos (by omega)]; go_simp) | (rw [if_neg (by omega)]; go_simp))); (first | with_reducible rfl | exact rfl | skip))); (simp only [Act.put, List.setIfInBounds_toArray, List.set_cons_zero, List.set_cons_succ]))
  refine rel_nil ?_
  intro W20 hE hF9
  clear hF9
  clear ekPx fkPx lkPx ekPy fkPy lkPy ekW0 fkW0 lkW0 ekW1 fkW1 lkW1 ekXx fkXx lkXx ekXy fkXy lkXy ekG0 fkG0 lkG0 ekG1 fkG1 lkG1
  replace hb := b_step hb hE
  replace kPx := kPx.b hE
  replace kPy := kPy.b hE
  replace hW := hW.b hE
  replace hW2 := hW2.b hE
  replace kW0 := kW0.b hE
  replace kW1 := kW1.b hE
  replace hXx := hXx.b hE
  replace kXx := kXx.b hE
  replace hXy := hXy.b hE
  replace kXy := kXy.b hE
  replace hG := hG.b hE
  replace hG2 := hG2.b hE
  replace kG0 := kG0.b hE
  replace kG1 := kG1.b hE
  have zW20 := (hE).size
  clear hE
  obtain ⟨ekPx, fkPx, lkPx⟩ := kPx.cells
  obtain ⟨ekPy, fkPy, lkPy⟩ := kPy.cells
  obtain ⟨ekW0, fkW0, lkW0⟩ := kW0.cells
  obtain ⟨ekW1, fkW1, lkW1⟩ := kW1.cells
  obtain ⟨ekXx, fkXx, lkXx⟩ := kXx.cells
  obtain ⟨ekXy, fkXy, lkXy⟩ := kXy.cells
  obtain ⟨ekG0, fkG0, lkG0⟩ := kG0.cells
  obtain ⟨ekG1, fkG1, lkG1⟩ := kG1.cells
  go_wp2_with fail
  refine calls_name (fun W => Below W20.heap.size W20 W) (by repeat' (first | with_reducible exact Below.refl _ _ | with_reducible assumption | with_reducible refine b_alloc ?_ _ | with_reducible refine b_drewN ?_ _ | with_reducible refine b_drew ?_ | with_reducible refine b_set ?_ (by first | (simp only [World.size_setCell, World.size_alloc, World.size_drew]; omega) | (simp; done) | (simp; omega)) _ | with_reducible refine b_step ?_ (by with_reducible assumption))) ?_
  intro W21 hE
  clear ekPx fkPx lkPx ekPy fkPy lkPy ekW0 fkW0 lkW0 ekW1 fkW1 lkW1 ekXx fkXx lkXx ekXy fkXy lkXy ekG0 fkG0 lkG0 ekG1 fkG1 lkG1
  replace hb := b_step hb hE
  replace kPx := kPx.b hE
  replace kPy := kPy.b hE
  replace hW := hW.b hE
  replace hW2 := hW2.b hE
  replace kW0 := kW0.b hE
  replace kW1 := kW1.b hE
  replace hXx := hXx.b hE
  replace kXx := kXx.b hE
  replace hXy := hXy.b hE
  replace kXy := kXy.b hE
  replace hG := hG.b hE
  replace hG2 := hG2.b hE
  replace kG0 := kG0.b hE
  replace kG1 := kG1.b hE
  have zW21 := (hE).size
  clear hE
  refine (markLinkCraft_c x Axx cxx Fxx mxx _ (by omega) (by omega) _ hXx).mono ?_
  rintro e W22 ⟨rfl, hXxm, hg⟩
  replace kPx := kPx.gS hg (fun h2 => by have h5 := hXxl _ h2; have h6 := hXxg _ h2; have h7 := kPxl; omega)
  replace kPy := kPy.gS hg (fun h2 => by have h5 := hXxl _ h2; have h6 := hXxg _ h2; have h7 := kPyl; omega)
  replace hW := hW.gS hg (fun k h1 h2 => by have h3 := hWl k h1; have h4 := hWg k h1; have h5 := hXxl k h2; have h6 := hXxg k h2; omega)
  replace hW2 := hW2.gS hg (fun k h1 h2 => by have h3 := hW2l k h1; have h4 := hW2g k h1; have h5 := hXxl k h2; have h6 := hXxg k h2; omega)
  replace kW0 := kW0.gS hg (fun h2 => by have h5 := hXxl _ h2; have h6 := hXxg _ h2; have h7 := kW0l; omega)
  replace kW1 := kW1.gS hg (fun h2 => by have h5 := hXxl _ h2; have h6 := hXxg _ h2; have h7 := kW1l; omega)
  replace kXx := kXx.gS hg (fun h2 => by have h5 := hXxl _ h2; have h6 := hXxg _ h2; have h7 := kXxl; omega)
  replace hXy := hXy.gS hg (fun k h1 h2 => by have h3 := hXyl k h1; have h4 := hXyg k h1; have h5 := hXxl k h2; have h6 := hXxg k h2; omega)
  replace kXy := kXy.gS hg (fun h2 => by have h5 := hXxl _ h2; have h6 := hXxg _ h2; have h7 := kXyl; omega)
  replace hG := hG.gS hg (fun k h1 h2 => by have h3 := hGl k h1; have h4 := hGg k h1; have h5 := hXxl k h2; have h6 := hXxg k h2; omega)
  replace hG2 := hG2.gS hg (fun k h1 h2 => by have h3 := hG2l k h1; have h4 := hG2g k h1; have h5 := hXxl k h2; have h6 := hXxg k h2; omega)
  replace kG0 := kG0.gS hg (fun h2 => by have h5 := hXxl _ h2; have h6 := hXxg _ h2; have h7 := kG0l; omega)
  replace kG1 := kG1.gS hg (fun h2 => by have h5 := hXxl _ h2; have h6 := hXxg _ h2; have h7 := kG1l; omega)
  replace hb := b_gS hb hg hb.size (fun k hk => by have := hXxg k hk; omega)
  have zW22 := hg.size
  clear hXx hg
  clear hXxm
  obtain ⟨ekPx, fkPx, lkPx⟩ := kPx.cells
  obtain ⟨ekPy, fkPy, lkPy⟩ := kPy.cells
  obtain ⟨ekW0, fkW0, lkW0⟩ := kW0.cells
  obtain ⟨ekW1, fkW1, lkW1⟩ := kW1.cells
  obtain ⟨ekXx, fkXx, lkXx⟩ := kXx.cells
  obtain ⟨ekXy, fkXy, lkXy⟩ := kXy.cells
  obtain ⟨ekG0, fkG0, lkG0⟩ := kG0.cells
  obtain ⟨ekG1, fkG1, lkG1⟩ := kG1.cells
  go_wp2_with fail
  refine calls_name (fun W => Below W22.heap.size W22 W) (by repeat' (first | with_reducible exact Below.refl _ _ | with_reducible assumption | with_reducible refine b_alloc ?_ _ | with_reducible refine b_drewN ?_ _ | with_reducible refine b_drew ?_ | with_reducible refine b_set ?_ (by first | (simp only [World.size_setCell, World.size_alloc, World.size_drew]; omega) | (simp; done) | (simp; omega)) _ | with_reducible refine b_step ?_ (by with_reducible assumption))) ?_
  intro W23 hE
  clear ekPx fkPx lkPx ekPy fkPy lkPy ekW0 fkW0 lkW0 ekW1 fkW1 lkW1 ekXx fkXx lkXx ekXy fkXy lkXy ekG0 fkG0 lkG0 ekG1 fkG1 lkG1
  replace hb := b_step hb hE
  replace kPx := kPx.b hE
  replace kPy := kPy.b hE
  replace hW := hW.b hE
  replace hW2 := hW2.b hE
  replace kW0 := kW0.b hE
  replace kW1 := kW1.b hE
  replace kXx := kXx.b hE
  replace hXy := hXy.b hE
  replace kXy := kXy.b hE
  replace hG := hG.b hE
  replace hG2 := hG2.b hE
  replace kG0 := kG0.b hE
  replace kG1 := kG1.b hE
  have zW23 := (hE).size
  clear hE
  refine (markLinkWord_c y Axy cxy _ (by omega) (by omega) _ hXy).mono ?_
  rintro e W24 ⟨rfl, hXym, hg⟩
  replace hg := GrownS.of hg
  replace kPx := kPx.gS hg (fun h2 => by have h5 := hXyl _ h2; have h6 := hXyg _ h2; have h7 := kPxl; omega)
  replace kPy := kPy.gS hg (fun h2 => by have h5 := hXyl _ h2; have h6 := hXyg _ h2; have h7 := kPyl; omega)
  replace hW := hW.gS hg (fun k h1 h2 => by have h3 := hWl k h1; have h4 := hWg k h1; have h5 := hXyl k h2; have h6 := hXyg k h2; omega)
  replace hW2 := hW2.gS hg (fun k h1 h2 => by have h3 := hW2l k h1; have h4 := hW2g k h1; have h5 := hXyl k h2; have h6 := hXyg k h2; omega)
  replace kW0 := kW0.gS hg (fun h2 => by have h5 := hXyl _ h2; have h6 := hXyg _ h2; have h7 := kW0l; omega)
  replace kW1 := kW1.gS hg (fun h2 => by have h5 := hXyl _ h2; have h6 := hXyg _ h2; have h7 := kW1l; omega)
  replace kXx := kXx.gS hg (fun h2 => by have h5 := hXyl _ h2; have h6 := hXyg _ h2; have h7 := kXxl; omega)
  replace kXy := kXy.gS hg (fun h2 => by have h5 := hXyl _ h2; have h6 := hXyg _ h2; have h7 := kXyl; omega)
  replace hG := hG.gS hg (fun k h1 h2 => by have h3 := hGl k h1; have h4 := hGg k h1; have h5 := hXyl k h2; have h6 := hXyg k h2; omega)
  replace hG2 := hG2.gS hg (fun k h1 h2 => by have h3 := hG2l k h1; have h4 := hG2g k h1; have h5 := hXyl k h2; have h6 := hXyg k h2; omega)
  replace kG0 := kG0.gS hg (fun h2 => by have h5 := hXyl _ h2; have h6 := hXyg _ h2; have h7 := kG0l; omega)
  replace kG1 := kG1.gS hg (fun h2 => by have h5 := hXyl _ h2; have h6 := hXyg _ h2; have h7 := kG1l; omega)
  replace hb := b_gS hb hg hb.size (fun k hk => by have := hXyg k hk; omega)
  have zW24 := hg.size
  clear hXy hg
  clear hXym
  obtain ⟨ekPx, fkPx, lkPx⟩ := kPx.cells
  obtain ⟨ekPy, fkPy, lkPy⟩ := kPy.cells
  obtain ⟨ekW0, fkW0, lkW0⟩ := kW0.cells
  obtain ⟨ekW1, fkW1, lkW1⟩ := kW1.cells
  obtain ⟨ekXx, fkXx, lkXx⟩ := kXx.cells
  obtain ⟨ekXy, fkXy, lkXy⟩ := kXy.cells
  obtain ⟨ekG0, fkG0, lkG0⟩ := kG0.cells
  obtain ⟨ekG1, fkG1, lkG1⟩ := kG1.cells
  go_wp2_with fail
  refine calls_name (fun W => Below W24.heap.size W24 W) (by repeat' (first | with_reducible exact Below.refl _ _ | with_reducible assumption | with_reducible refine b_alloc ?_ _ | with_reducible refine b_drewN ?_ _ | with_reducible refine b_drew ?_ | with_reducible refine b_set ?_ (by first | (simp only [World.size_setCell, World.size_alloc, World.size_drew]; omega) | (simp; done) | (simp; omega)) _ | with_reducible refine b_step ?_ (by with_reducible assumption))) ?_
  intro W25 hE
  clear ekPx fkPx lkPx ekPy fkPy lkPy ekW0 fkW0 lkW0 ekW1 fkW1 lkW1 ekXx fkXx lkXx ekXy fkXy lkXy ekG0 fkG0 lkG0 ekG1 fkG1 lkG1
  replace hb := b_step hb hE
  replace kPx := kPx.b hE
  replace kPy := kPy.b hE
  replace hW := hW.b hE
  replace hW2 := hW2.b hE
  replace kW0 := kW0.b hE
  replace kW1 := kW1.b hE
  replace kXx := kXx.b hE
  replace kXy := kXy.b hE
  replace hG := hG.b hE
  replace hG2 := hG2.b hE
  replace kG0 := kG0.b hE
  replace kG1 := kG1.b hE
  have zW25 := (hE).size
  clear hE
  refine (eqLinkCraft_c (LL.takeC x y t) _ _ _ _ _ _ _ _ _ hG hW).mono ?_
  rintro e W26 ⟨rfl, hB⟩
  replace hb := b_step hb hB
  replace kPx := kPx.b hB
  replace kPy := kPy.b hB
  replace hW := hW.b hB
  replace hW2 := hW2.b hB
  replace kW0 := kW0.b hB
  replace kW1 := kW1.b hB
  replace kXx := kXx.b hB
  replace kXy := kXy.b hB
  replace hG := hG.b hB
  replace hG2 := hG2.b hB
  replace kG0 := kG0.b hB
  replace kG1 := kG1.b hB
  have zW26 := (hB).size
  clear hB
  obtain ⟨ekPx, fkPx, lkPx⟩ := kPx.cells
  obtain ⟨ekPy, fkPy, lkPy⟩ := kPy.cells
  obtain ⟨ekW0, fkW0, lkW0⟩ := kW0.cells
  obtain ⟨ekW1, fkW1, lkW1⟩ := kW1.cells
  obtain ⟨ekXx, fkXx, lkXx⟩ := kXx.cells
  obtain ⟨ekXy, fkXy, lkXy⟩ := kXy.cells
  obtain ⟨ekG0, fkG0, lkG0⟩ := kG0.cells
  obtain ⟨ekG1, fkG1, lkG1⟩ := kG1.cells
  go_wp2_with fail
  refine calls_name (fun W => Below W26.heap.size W26 W) (by repeat' (first | with_reducible exact Below.refl _ _ | with_reducible assumption | with_reducible refine b_alloc ?_ _ | with_reducible refine b_drewN ?_ _ | with_reducible refine b_drew ?_ | with_reducible refine b_set ?_ (by first | (simp only [World.size_setCell, World.size_alloc, World.size_drew]; omega) | (simp; done) | (simp; omega)) _ | with_reducible refine b_step ?_ (by with_reducible assumption))) ?_
  intro W27 hE
  clear ekPx fkPx lkPx ekPy fkPy lkPy ekW0 fkW0 lkW0 ekW1 fkW1 lkW1 ekXx fkXx lkXx ekXy fkXy lkXy ekG0 fkG0 lkG0 ekG1 fkG1 lkG1
  replace hb := b_step hb hE
  replace kPx := kPx.b hE
  replace kPy := kPy.b hE
  replace hW := hW.b hE
  replace hW2 := hW2.b hE
  replace kW0 := kW0.b hE
  replace kW1 := kW1.b hE
  replace kXx := kXx.b hE
  replace kXy := kXy.b hE
  replace hG := hG.b hE
  replace hG2 := hG2.b hE
  replace kG0 := kG0.b hE
  replace kG1 := kG1.b hE
  have zW27 := (hE).size
  clear hE
  refine (eqLinkWord_c (LL.takeW x y t) _ _ _ _ _ (hG2.rd_at' stepE) (hW2.rd_at' stepE)).mono ?_
  rintro e W28 ⟨rfl, hB⟩
  replace hb := b_step hb hB
  replace kPx := kPx.b hB
  replace kPy := kPy.b hB
  replace hW := hW.b hB
  replace hW2 := hW2.b hB
  replace kW0 := kW0.b hB
  replace kW1 := kW1.b hB
  replace kXx := kXx.b hB
  replace kXy := kXy.b hB
  replace hG := hG.b hB
  replace hG2 := hG2.b hB
  replace kG0 := kG0.b hB
  replace kG1 := kG1.b hB
  have zW28 := (hB).size
  clear hB
  obtain ⟨ekPx, fkPx, lkPx⟩ := kPx.cells
  obtain ⟨ekPy, fkPy, lkPy⟩ := kPy.cells
  obtain ⟨ekW0, fkW0, lkW0⟩ := kW0.cells
  obtain ⟨ekW1, fkW1, lkW1⟩ := kW1.cells
  obtain ⟨ekXx, fkXx, lkXx⟩ := kXx.cells
  obtain ⟨ekXy, fkXy, lkXy⟩ := kXy.cells
  obtain ⟨ekG0, fkG0, lkG0⟩ := kG0.cells
  obtain ⟨ekG1, fkG1, lkG1⟩ := kG1.cells
  go_wp2_with fail
  refine calls_name (fun W => Below W28.heap.size W28 W) (by repeat' (first | with_reducible exact Below.refl _ _ | with_reducible assumption | with_reducible refine b_alloc ?_ _ | with_reducible refine b_drewN ?_ _ | with_reducible refine b_drew ?_ | with_reducible refine b_set ?_ (by first | (simp only [World.size_setCell, World.size_alloc, World.size_drew]; omega) | (simp; done) | (simp; omega)) _ | with_reducible refine b_step ?_ (by with_reducible assumption))) ?_
  intro W29 hE
  clear ekPx fkPx lkPx ekPy fkPy lkPy ekW0 fkW0 lkW0 ekW1 fkW1 lkW1 ekXx fkXx lkXx ekXy fkXy lkXy ekG0 fkG0 lkG0 ekG1 fkG1 lkG1
  replace hb := b_step hb hE
  replace kPx := kPx.b hE
  replace kPy := kPy.b hE
  replace hW := hW.b hE
  replace hW2 := hW2.b hE
  replace kW0 := kW0.b hE
  replace kW1 := kW1.b hE
  replace kXx := kXx.b hE
  replace kXy := kXy.b hE
  replace hG := hG.b hE
  replace hG2 := hG2.b hE
  replace kG0 := kG0.b hE
  replace kG1 := kG1.b hE
  have zW29 := (hE).size
  clear hE
  refine (markLinkCraft_c (LL.takeC x y t) Ag cg Fg mg _ (by omega) (by omega) _ hG).mono ?_
  rintro e W30 ⟨rfl, hGm, hg⟩
  replace kPx := kPx.gS hg (fun h2 => by have h5 := hGl _ h2; have h6 := hGg _ h2; have h7 := kPxl; omega)
  replace kPy := kPy.gS hg (fun h2 => by have h5 := hGl _ h2; have h6 := hGg _ h2; have h7 := kPyl; omega)
  replace hW := hW.gS hg (fun k h1 h2 => by have h3 := hWl k h1; have h4 := hWg k h1; have h5 := hGl k h2; have h6 := hGg k h2; omega)
  replace hW2 := hW2.gS hg (fun k h1 h2 => by have h3 := hW2l k h1; have h4 := hW2g k h1; have h5 := hGl k h2; have h6 := hGg k h2; omega)
  replace kW0 := kW0.gS hg (fun h2 => by have h5 := hGl _ h2; have h6 := hGg _ h2; have h7 := kW0l; omega)
  replace kW1 := kW1.gS hg (fun h2 => by have h5 := hGl _ h2; have h6 := hGg _ h2; have h7 := kW1l; omega)
  replace kXx := kXx.gS hg (fun h2 => by have h5 := hGl _ h2; have h6 := hGg _ h2; have h7 := kXxl; omega)
  replace kXy := kXy.gS hg (fun h2 => by have h5 := hGl _ h2; have h6 := hGg _ h2; have h7 := kXyl; omega)
  replace hG2 := hG2.gS hg (fun k h1 h2 => hGd k h2 h1)
  replace kG0 := kG0.gS hg (fun h2 => by have h5 := hGl _ h2; have h6 := hGg _ h2; have h7 := kG0l; omega)
  replace kG1 := kG1.gS hg (fun h2 => by have h5 := hGl _ h2; have h6 := hGg _ h2; have h7 := kG1l; omega)
  replace hb := b_gS hb hg hb.size (fun k hk => by have := hGg k hk; omega)
  have zW30 := hg.size
  clear hG hg
  obtain ⟨hGma, hGmb⟩ := hGm
  obtain ⟨ekPx, fkPx, lkPx⟩ := kPx.cells
  obtain ⟨ekPy, fkPy, lkPy⟩ := kPy.cells
  obtain ⟨ekW0, fkW0, lkW0⟩ := kW0.cells
  obtain ⟨ekW1, fkW1, lkW1⟩ := kW1.cells
  obtain ⟨ekXx, fkXx, lkXx⟩ := kXx.cells
  obtain ⟨ekXy, fkXy, lkXy⟩ := kXy.cells
  obtain ⟨ekG0, fkG0, lkG0⟩ := kG0.cells
  obtain ⟨ekG1, fkG1, lkG1⟩ := kG1.cells
  go_wp2_with fail
  refine calls_name (fun W => Below W30.heap.size W30 W) (by repeat' (first | with_reducible exact Below.refl _ _ | with_reducible assumption | with_reducible refine b_alloc ?_ _ | with_reducible refine b_drewN ?_ _ | with_reducible refine b_drew ?_ | with_reducible refine b_set ?_ (by first | (simp only [World.size_setCell, World.size_alloc, World.size_drew]; omega) | (simp; done) | (simp; omega)) _ | with_reducible refine b_step ?_ (by with_reducible assumption))) ?_
  intro W31 hE
  clear ekPx fkPx lkPx ekPy fkPy lkPy ekW0 fkW0 lkW0 ekW1 fkW1 lkW1 ekXx fkXx lkXx ekXy fkXy lkXy ekG0 fkG0 lkG0 ekG1 fkG1 lkG1
  replace hb := b_step hb hE
  replace kPx := kPx.b hE
  replace kPy := kPy.b hE
  replace hW := hW.b hE
  replace hW2 := hW2.b hE
  replace kW0 := kW0.b hE
  replace kW1 := kW1.b hE
  replace kXx := kXx.b hE
  replace kXy := kXy.b hE
  replace hG2 := hG2.b hE
  replace kG0 := kG0.b hE
  replace kG1 := kG1.b hE
  replace hGma := hGma.b hE
  replace hGmb := hGmb.b hE
  have zW31 := (hE).size
  clear hE
  refine (markLinkWord_c (LL.takeW x y t) Ag2 cg2 _ (by omega) (by omega) _ hG2).mono ?_
  rintro e W32 ⟨rfl, hG2m, hg⟩
  replace hg := GrownS.of hg
  replace kPx := kPx.gS hg (fun h2 => by have h5 := hG2l _ h2; have h6 := hG2g _ h2; have h7 := kPxl; omega)
  replace kPy := kPy.gS hg (fun h2 => by have h5 := hG2l _ h2; have h6 := hG2g _ h2; have h7 := kPyl; omega)
  replace hW := hW.gS hg (fun k h1 h2 => by have h3 := hWl k h1; have h4 := hWg k h1; have h5 := hG2l k h2; have h6 := hG2g k h2; omega)
  replace hW2 := hW2.gS hg (fun k h1 h2 => by have h3 := hW2l k h1; have h4 := hW2g k h1; have h5 := hG2l k h2; have h6 := hG2g k h2; omega)
  replace kW0 := kW0.gS hg (fun h2 => by have h5 := hG2l _ h2; have h6 := hG2g _ h2; have h7 := kW0l; omega)
  replace kW1 := kW1.gS hg (fun h2 => by have h5 := hG2l _ h2; have h6 := hG2g _ h2; have h7 := kW1l; omega)
  replace kXx := kXx.gS hg (fun h2 => by have h5 := hG2l _ h2; have h6 := hG2g _ h2; have h7 := kXxl; omega)
  replace kXy := kXy.gS hg (fun h2 => by have h5 := hG2l _ h2; have h6 := hG2g _ h2; have h7 := kXyl; omega)
  replace kG0 := kG0.gS hg (fun h2 => by have h5 := hG2l _ h2; have h6 := hG2g _ h2; have h7 := kG0l; omega)
  replace kG1 := kG1.gS hg (fun h2 => by have h5 := hG2l _ h2; have h6 := hG2g _ h2; have h7 := kG1l; omega)
  replace hGma := hGma.gS hg (fun k h1 h2 => hGd k (.inl h1) h2)
  replace hGmb := hGmb.gS hg (fun k h1 h2 => hGd k (.inr h1) h2)
  replace hb := b_gS hb hg hb.size (fun k hk => by have := hG2g k hk; omega)
  have zW32 := hg.size
  clear hG2 hg
  obtain ⟨ekPx, fkPx, lkPx⟩ := kPx.cells
  obtain ⟨ekPy, fkPy, lkPy⟩ := kPy.cells
  obtain ⟨ekW0, fkW0, lkW0⟩ := kW0.cells
  obtain ⟨ekW1, fkW1, lkW1⟩ := kW1.cells
  obtain ⟨ekXx, fkXx, lkXx⟩ := kXx.cells
  obtain ⟨ekXy, fkXy, lkXy⟩ := kXy.cells
  obtain ⟨ekG0, fkG0, lkG0⟩ := kG0.cells
  obtain ⟨ekG1, fkG1, lkG1⟩ := kG1.cells
  go_wp2_with fail
  refine calls_name (fun W => Below W32.heap.size W32 W) (by repeat' (first | with_reducible exact Below.refl _ _ | with_reducible assumption | with_reducible refine b_alloc ?_ _ | with_reducible refine b_drewN ?_ _ | with_reducible refine b_drew ?_ | with_reducible refine b_set ?_ (by first | (simp only [World.size_setCell, World.size_alloc, World.size_drew]; omega) | (simp; done) | (simp; omega)) _ | with_reducible refine b_step ?_ (by with_reducible assumption))) ?_
  intro W33 hE
  clear ekPx fkPx lkPx ekPy fkPy lkPy ekW0 fkW0 lkW0 ekW1 fkW1 lkW1 ekXx fkXx lkXx ekXy fkXy lkXy ekG0 fkG0 lkG0 ekG1 fkG1 lkG1
  replace hb := b_step hb hE
  replace kPx := kPx.b hE
  replace kPy := kPy.b hE
  replace hW := hW.b hE
  replace hW2 := hW2.b hE
  replace kW0 := kW0.b hE
  replace kW1 := kW1.b hE
  replace kXx := kXx.b hE
  replace kXy := kXy.b hE
  replace kG0 := kG0.b hE
  replace kG1 := kG1.b hE
  replace hGma := hGma.b hE
  replace hGmb := hGmb.b hE
  replace hG2m := hG2m.b hE
  have zW33 := (hE).size
  clear hE
  refine (heldLinkCraft_c (LL.takeC x y t) Ag cg Fg mg _ (by omega) (by omega) _ (hGma.rd_at' stepE) (hGmb.rd_at' intE)).mono ?_
  rintro e W34 ⟨rfl, hB⟩
  replace hb := b_step hb hB
  replace kPx := kPx.b hB
  replace kPy := kPy.b hB
  replace hW := hW.b hB
  replace hW2 := hW2.b hB
  replace kW0 := kW0.b hB
  replace kW1 := kW1.b hB
  replace kXx := kXx.b hB
  replace kXy := kXy.b hB
  replace kG0 := kG0.b hB
  replace kG1 := kG1.b hB
  replace hGma := hGma.b hB
  replace hGmb := hGmb.b hB
  replace hG2m := hG2m.b hB
  have zW34 := (hB).size
  clear hB
  obtain ⟨ekPx, fkPx, lkPx⟩ := kPx.cells
  obtain ⟨ekPy, fkPy, lkPy⟩ := kPy.cells
  obtain ⟨ekW0, fkW0, lkW0⟩ := kW0.cells
  obtain ⟨ekW1, fkW1, lkW1⟩ := kW1.cells
  obtain ⟨ekXx, fkXx, lkXx⟩ := kXx.cells
  obtain ⟨ekXy, fkXy, lkXy⟩ := kXy.cells
  obtain ⟨ekG0, fkG0, lkG0⟩ := kG0.cells
  obtain ⟨ekG1, fkG1, lkG1⟩ := kG1.cells
  go_wp2_with fail
  refine calls_name (fun W => Below W34.heap.size W34 W) (by repeat' (first | with_reducible exact Below.refl _ _ | with_reducible assumption | with_reducible refine b_alloc ?_ _ | with_reducible refine b_drewN ?_ _ | with_reducible refine b_drew ?_ | with_reducible refine b_set ?_ (by first | (simp only [World.size_setCell, World.size_alloc, World.size_drew]; omega) | (simp; done) | (simp; omega)) _ | with_reducible refine b_step ?_ (by with_reducible assumption))) ?_
  intro W35 hE
  clear ekPx fkPx lkPx ekPy fkPy lkPy ekW0 fkW0 lkW0 ekW1 fkW1 lkW1 ekXx fkXx lkXx ekXy fkXy lkXy ekG0 fkG0 lkG0 ekG1 fkG1 lkG1
  replace hb := b_step hb hE
  replace kPx := kPx.b hE
  replace kPy := kPy.b hE
  replace hW := hW.b hE
  replace hW2 := hW2.b hE
  replace kW0 := kW0.b hE
  replace kW1 := kW1.b hE
  replace kXx := kXx.b hE
  replace kXy := kXy.b hE
  replace kG0 := kG0.b hE
  replace kG1 := kG1.b hE
  replace hGma := hGma.b hE
  replace hGmb := hGmb.b hE
  replace hG2m := hG2m.b hE
  have zW35 := (hE).size
  clear hE
  refine (heldLinkWord_c (LL.takeW x y t) Ag2 cg2 _ (by omega) (by omega) _ (hG2m.rd_at' stepE)).mono ?_
  rintro e W36 ⟨rfl, hB⟩
  replace hb := b_step hb hB
  replace kPx := kPx.b hB
  replace kPy := kPy.b hB
  replace hW := hW.b hB
  replace hW2 := hW2.b hB
  replace kW0 := kW0.b hB
  replace kW1 := kW1.b hB
  replace kXx := kXx.b hB
  replace kXy := kXy.b hB
  replace kG0 := kG0.b hB
  replace kG1 := kG1.b hB
  replace hGma := hGma.b hB
  replace hGmb := hGmb.b hB
  replace hG2m := hG2m.b hB
  have zW36 := (hB).size
  clear hB
  obtain ⟨ekPx, fkPx, lkPx⟩ := kPx.cells
  obtain ⟨ekPy, fkPy, lkPy⟩ := kPy.cells
  obtain ⟨ekW0, fkW0, lkW0⟩ := kW0.cells
  obtain ⟨ekW1, fkW1, lkW1⟩ := kW1.cells
  obtain ⟨ekXx, fkXx, lkXx⟩ := kXx.cells
  obtain ⟨ekXy, fkXy, lkXy⟩ := kXy.cells
  obtain ⟨ekG0, fkG0, lkG0⟩ := kG0.cells
  obtain ⟨ekG1, fkG1, lkG1⟩ := kG1.cells
  go_wp2_with fail
  refine wp_name (fun W => Below W36.heap.size W36 W) (by repeat' (first | with_reducible exact Below.refl _ _ | with_reducible assumption | with_reducible refine b_alloc ?_ _ | with_reducible refine b_drewN ?_ _ | with_reducible refine b_drew ?_ | with_reducible refine b_set ?_ (by first | (simp only [World.size_setCell, World.size_alloc, World.size_drew]; omega) | (simp; done) | (simp; omega)) _ | with_reducible refine b_step ?_ (by with_reducible assumption))) ?_
  intro W37 hE
  clear ekPx fkPx lkPx ekPy fkPy lkPy ekW0 fkW0 lkW0 ekW1 fkW1 lkW1 ekXx fkXx lkXx ekXy fkXy lkXy ekG0 fkG0 lkG0 ekG1 fkG1 lkG1
  replace hb := b_step hb hE
  replace kPx := kPx.b hE
  replace kPy := kPy.b hE
  replace hW := hW.b hE
  replace hW2 := hW2.b hE
  replace kW0 := kW0.b hE
  replace kW1 := kW1.b hE
  replace kXx := kXx.b hE
  replace kXy := kXy.b hE
  replace kG0 := kG0.b hE
  replace kG1 := kG1.b hE
  replace hGma := hGma.b hE
  replace hGmb := hGmb.b hE
  replace hG2m := hG2m.b hE
  have zW37 := (hE).size
  clear hE
  obtain ⟨ekPx, fkPx, lkPx⟩ := kPx.cells
  obtain ⟨ekPy, fkPy, lkPy⟩ := kPy.cells
  obtain ⟨ekW0, fkW0, lkW0⟩ := kW0.cells
  obtain ⟨ekW1, fkW1, lkW1⟩ := kW1.cells
  obtain ⟨ekXx, fkXx, lkXx⟩ := kXx.cells
  obtain ⟨ekXy, fkXy, lkXy⟩ := kXy.cells
  obtain ⟨ekG0, fkG0, lkG0⟩ := kG0.cells
  obtain ⟨ekG1, fkG1, lkG1⟩ := kG1.cells
  have hWb := hW.lt
  have hW2b := fun k hk => (hW2.row.lt k hk).2
  have hGmab := fun k hk => (hGma.row.lt k hk).2
  have hGmbb := fun k hk => (hGmb.row.lt k hk).2
  have hG2mb := fun k hk => (hG2m.row.lt k hk).2
  refine rel_tailf_b 12 [8, 9] [(1, fun v W => ∃ A9x c9x F9x m9x, v = .agg #[.string x.name, .int .i64 x.number, .int .i64 x.no, .int .i64 x.path.q, .int .i64 x.path.s, .slice A9x x.path.steps.length c9x, .int .i64 x.path.fr, .int .i64 x.path.by_, .slice F9x x.flown.length m9x] ∧ OwnCr W x A9x c9x F9x m9x), (3, fun v W => ∃ A9y c9y, v = .agg #[.int .i64 y.kind, .string y.name, .int .i64 y.number, .int .i64 y.path.q, .int .i64 y.path.s, .slice A9y y.path.steps.length c9y, .int .i64 y.path.fr, .int .i64 y.path.by_] ∧ OwnP W A9y c9y y.path), (5, fun v W => ∃ Ah ch Fh mh Ah2 ch2, v = .tuple #[.agg #[.string (LL.takeC x y t).name, .int .i64 (LL.takeC x y t).number, .int .i64 (LL.takeC x y t).no, .int .i64 (LL.takeC x y t).path.q, .int .i64 (LL.takeC x y t).path.s, .slice Ah (LL.takeC x y t).path.steps.length ch, .int .i64 (LL.takeC x y t).path.fr, .int .i64 (LL.takeC x y t).path.by_, .slice Fh (LL.takeC x y t).flown.length mh], .agg #[.int .i64 (LL.takeW x y t).kind, .string (LL.takeW x y t).name, .int .i64 (LL.takeW x y t).number, .int .i64 (LL.takeW x y t).path.q, .int .i64 (LL.takeW x y t).path.s, .slice Ah2 (LL.takeW x y t).path.steps.length ch2, .int .i64 (LL.takeW x y t).path.fr, .int .i64 (LL.takeW x y t).path.by_], .bool (decide (LL.CanTake x y t))] ∧ OwnCr W (LL.takeC x y t) Ah ch Fh mh ∧ (∀ j, FpC (LL.takeC x y t) Ah ch Fh mh j → W37.heap.size ≤ j) ∧ OwnP W Ah2 ch2 (LL.takeW x y t).path ∧ (∀ j, Value.ownBlock (.slice Ah2 (LL.takeW x y t).path.steps.length ch2) = some j → W37.heap.size ≤ j)), (10, fun v W => ∃ g, v = .pointer (some ⟨g, 0, none⟩) ∧ W37.heap.size ≤ g ∧ Blk W g #[.string ⟨#[]⟩, .int .i64 0, .int .i64 0, .int .i64 0, .int .i64 0, .slice none 0 0, .int .i64 0, .int .i64 0, .slice none 0 0] 74), (11, fun v W => ∃ g, v = .pointer (some ⟨g, 0, none⟩) ∧ W37.heap.size ≤ g ∧ Blk W g #[.int .i64 0, .string ⟨#[]⟩, .int .i64 0, .int .i64 0, .int .i64 0, .slice none 0 0, .int .i64 0, .int .i64 0] 46)] (by kernel_rfl) (by kernel_rfl) (by intro d9 v9 c9 a9 w9 h9; cases d9 <;> exact h9) ?_
  simp only [List.take_succ_cons, List.take_zero, List.drop_succ_cons, List.drop_zero]
  ((apply rel_plain (hR := rfl) (hF := fun _ => trivial) (hg := rfl)); (focus ((intro w' hL'); (obtain ⟨hcS, hfS, hlS⟩ := bcell hL'); (try simp only [World.size_setCell, World.size_alloc, World.size_drew] at hcS hfS hlS); (go_simp); (try go_bits); (try (first | (rw [if_pos (by omega)]; done) | (rw [if_neg (by omega)]; done) | (rw [if_pos (by omega)]; go_simp) | (rw [if_neg (by omega)]; go_simp))); (first | with_reducible rfl | exact rfl | skip))); (simp only [Act.put, List.setIfInBounds_toArray, List.set_cons_zero, List.set_cons_succ]))
  ((apply rel_told (hR := rfl) (hg := rfl)); (focus ((intro w' hL' hD'); (obtain ⟨hcS, hfS, hlS⟩ := bcell hL'); (try simp only [World.size_setCell, World.size_alloc, World.size_drew] at hcS hfS hlS); (go_simp); (try go_bits); (try (first | (rw [if_pos (by omega)]; done) | (rw [if_neg (by omega)]; done) | (rw [if_pos (by omega)]; go_simp) | (rw [if_neg (by omega)]; go_simp))); ((go_at_call 41); (refine (toLinkCraft_c x Ax cx Fx mx _ (hx.mono (b_step hb hL')) (hfx.mono (b_step hb hL'))).mono ?_); (intro e w'' hM); (obtain ⟨A2x, c2x, F2x, m2x, rfl, hO2, hO2g, hB⟩ := hM); (refine ⟨_, rfl, hB, ?_⟩); ((repeat (first | (refine Tell.hit rfl ?_) | (refine Tell.skip rfl ?_))); exact ⟨A2x, c2x, F2x, m2x, rfl, hO2⟩)))); (intro v' w0' hv'); (replace hv' := Tell.out hv' rfl); (obtain ⟨A2xx, c2xx, F2xx, m2xx, rfl, -⟩ := hv'); (simp only [Act.put, List.setIfInBounds_toArray, List.set_cons_zero, List.set_cons_succ]))
  ((apply rel_plain (hR := rfl) (hF := fun _ => trivial) (hg := rfl)); (focus ((intro w' hL'); (obtain ⟨hcS, hfS, hlS⟩ := bcell hL'); (try simp only [World.size_setCell, World.size_alloc, World.size_drew] at hcS hfS hlS); (go_simp); (try go_bits); (try (first | (rw [if_pos (by omega)]; done) | (rw [if_neg (by omega)]; done) | (rw [if_pos (by omega)]; go_simp) | (rw [if_neg (by omega)]; go_simp))); (first | with_reducible rfl | exact rfl | skip))); (simp only [Act.put, List.setIfInBounds_toArray, List.set_cons_zero, List.set_cons_succ]))
  ((apply rel_told (hR := rfl) (hg := rfl)); (focus ((intro w' hL' hD'); (obtain ⟨hcS, hfS, hlS⟩ := bcell hL'); (try simp only [World.size_setCell, World.size_alloc, World.size_drew] at hcS hfS hlS); (go_simp); (try go_bits); (try (first | (rw [if_pos (by omega)]; done) | (rw [if_neg (by omega)]; done) | (rw [if_pos (by omega)]; go_simp) | (rw [if_neg (by omega)]; go_simp))); ((go_at_call 29); (refine (toLinkWord_c y Ay cy _ (hy.mono (b_step hb hL'))).mono ?_); (intro e w'' hM); (obtain ⟨A2y, c2y, rfl, hO2, hO2g, hB⟩ := hM); (refine ⟨_, rfl, hB, ?_⟩); ((repeat (first | (refine Tell.hit rfl ?_) | (refine Tell.skip rfl ?_))); exact ⟨A2y, c2y, rfl, hO2⟩)))); (intro v' w0' hv'); (replace hv' := Tell.out hv' rfl); (obtain ⟨A2yy, c2yy, rfl, -⟩ := hv'); (simp only [Act.put, List.setIfInBounds_toArray, List.set_cons_zero, List.set_cons_succ]))
  ((apply rel_plain (hR := rfl) (hF := fun _ => trivial) (hg := rfl)); (focus ((intro w' hL'); (obtain ⟨hcS, hfS, hlS⟩ := bcell hL'); (try simp only [World.size_setCell, World.size_alloc, World.size_drew] at hcS hfS hlS); (go_simp); (try go_bits); (try (first | (rw [if_pos (by omega)]; done) | (rw [if_neg (by omega)]; done) | (rw [if_pos (by omega)]; go_simp) | (rw [if_neg (by omega)]; go_simp))); (first | with_reducible rfl | exact rfl | skip))); (simp only [Act.put, List.setIfInBounds_toArray, List.set_cons_zero, List.set_cons_succ]))
  ((apply rel_told (hR := rfl) (hg := rfl)); (focus ((intro w' hL' hD'); (obtain ⟨hcS, hfS, hlS⟩ := bcell hL'); (try simp only [World.size_setCell, World.size_alloc, World.size_drew] at hcS hfS hlS); (go_simp); (try go_bits); (try (first | (rw [if_pos (by omega)]; done) | (rw [if_neg (by omega)]; done) | (rw [if_pos (by omega)]; go_simp) | (rw [if_neg (by omega)]; go_simp))); ((obtain ⟨w8x, hl8x, A8x, c8x, F8x, m8x, e8, hO8x⟩ := Known.out (hD' ⟨1, .data⟩ (by simp) rfl) rfl); (simp at e8; obtain ⟨⟨rfl, rfl⟩, rfl, rfl⟩ := e8); (replace hO8x := hO8x.b hl8x); (obtain ⟨w8y, hl8y, A8y, c8y, e8, hO8y⟩ := Known.out (hD' ⟨3, .data⟩ (by simp) rfl) rfl); (simp at e8; obtain ⟨rfl, rfl⟩ := e8); (replace hO8y := hO8y.b hl8y); (go_at_call 42); (refine (impl_LinkTake_c x y _ _ _ _ _ _ t hzx hzy _ (hO8x.p.rd_at' stepE) (hO8x.f.rd_at' intE) (hO8y.rd_at' stepE)).mono ?_); (intro e w'' hM); (obtain ⟨Au, cu, Fu, mu, Au2, cu2, rfl, hU0, hU1, hU0g, hU1g, hU0d, hB⟩ := hM); (refine ⟨_, rfl, hB, ?_⟩); ((repeat (first | (refine Tell.hit rfl ?_) | (refine Tell.skip rfl ?_))); exact ⟨Au, cu, Fu, mu, Au2, cu2, rfl, hU0, fun j hj => by have := hL'.size; have := hU0g j hj; omega, hU1, fun j hj => by have := hL'.size; have := hU1g j hj; omega⟩)))); (intro v' w0' hv'); (replace hv' := Tell.out hv' rfl); (obtain ⟨Ah, ch, Fh, mh, Ah2, ch2, rfl, -⟩ := hv'); (simp only [Act.put, List.setIfInBounds_toArray, List.set_cons_zero, List.set_cons_succ]))
  iterate 4 ((apply rel_plain (hR := rfl) (hF := fun _ => trivial) (hg := rfl)); (focus ((intro w' hL'); (obtain ⟨hcS, hfS, hlS⟩ := bcell hL'); (try simp only [World.size_setCell, World.size_alloc, World.size_drew] at hcS hfS hlS); (go_simp); (try go_bits); (try (first | (rw [if_pos (by omega)]; done) | (rw [if_neg (by omega)]; done) | (rw [if_pos (by omega)]; go_simp) | (rw [if_neg (by omega)]; go_simp))); (first | with_reducible rfl | exact rfl | skip))); (simp only [Act.put, List.setIfInBounds_toArray, List.set_cons_zero, List.set_cons_succ]))
  ((apply rel_told (hR := rfl) (hg := rfl)); (focus ((intro w' hL' hD'); (obtain ⟨hcS, hfS, hlS⟩ := bcell hL'); (try simp only [World.size_setCell, World.size_alloc, World.size_drew] at hcS hfS hlS); (go_simp); (try go_bits); (try (first | (rw [if_pos (by omega)]; done) | (rw [if_neg (by omega)]; done) | (rw [if_pos (by omega)]; go_simp) | (rw [if_neg (by omega)]; go_simp))); (refine ⟨b_alloc (Below.refl _ _) _, ?_⟩; ((repeat (first | (refine Tell.hit rfl ?_) | (refine Tell.skip rfl ?_))); exact ⟨_, rfl, hL'.size, Blk.new _ _ _⟩)))); (intro v' w0' hv'); (replace hv' := Tell.out hv' rfl); (obtain ⟨gh0, rfl, hgh0, -⟩ := hv'); (simp only [Act.put, List.setIfInBounds_toArray, List.set_cons_zero, List.set_cons_succ]))
  ((apply rel_told (hR := rfl) (hg := rfl)); (focus ((intro w' hL' hD'); (obtain ⟨hcS, hfS, hlS⟩ := bcell hL'); (try simp only [World.size_setCell, World.size_alloc, World.size_drew] at hcS hfS hlS); (go_simp); (try go_bits); (try (first | (rw [if_pos (by omega)]; done) | (rw [if_neg (by omega)]; done) | (rw [if_pos (by omega)]; go_simp) | (rw [if_neg (by omega)]; go_simp))); (refine ⟨b_alloc (Below.refl _ _) _, ?_⟩; ((repeat (first | (refine Tell.hit rfl ?_) | (refine Tell.skip rfl ?_))); exact ⟨_, rfl, hL'.size, Blk.new _ _ _⟩)))); (intro v' w0' hv'); (replace hv' := Tell.out hv' rfl); (obtain ⟨gh1, rfl, hgh1, -⟩ := hv'); (simp only [Act.put, List.setIfInBounds_toArray, List.set_cons_zero, List.set_cons_succ]))
  refine rel_nil ?_
  intro W38 hE hF9
  obtain ⟨wR, hlR, Ahz, chz, Fhz, mhz, Ah2z, ch2z, eR, hH, hHg, hH2, hH2g⟩ := Known.out (hF9 5) rfl
  simp at eR
  obtain ⟨⟨⟨rfl, rfl⟩, rfl, rfl⟩, rfl, rfl⟩ := eR
  replace hH := hH.b hlR
  replace hH2 := hH2.b hlR
  obtain ⟨w90, hl90, g90, e90, hgzh0, kH0⟩ := Known.out (hF9 10) rfl
  cases e90
  replace kH0 := kH0.b hl90
  obtain ⟨w91, hl91, g91, e91, hgzh1, kH1⟩ := Known.out (hF9 11) rfl
  cases e91
  replace kH1 := kH1.b hl91
  clear hF9
  clear ekPx fkPx lkPx ekPy fkPy lkPy ekW0 fkW0 lkW0 ekW1 fkW1 lkW1 ekXx fkXx lkXx ekXy fkXy lkXy ekG0 fkG0 lkG0 ekG1 fkG1 lkG1
  replace hb := b_step hb hE
  replace kPx := kPx.b hE
  replace kPy := kPy.b hE
  replace hW := hW.b hE
  replace hW2 := hW2.b hE
  replace kW0 := kW0.b hE
  replace kW1 := kW1.b hE
  replace kXx := kXx.b hE
  replace kXy := kXy.b hE
  replace kG0 := kG0.b hE
  replace kG1 := kG1.b hE
  replace hGma := hGma.b hE
  replace hGmb := hGmb.b hE
  replace hG2m := hG2m.b hE
  have zW38 := (hE).size
  clear hE
  have hgh01 : gh0 ≠ gh1 := kH0.neT kH1 (by decide)
  have hdh00 := hH.neB kH0 (by decide) (by decide)
  have hdh10 := hH2.neB kH0 (by decide)
  have hlh0 := kH0.cells.2.2
  have hdh01 := hH.neB kH1 (by decide) (by decide)
  have hdh11 := hH2.neB kH1 (by decide)
  have hlh1 := kH1.cells.2.2
  obtain ⟨ekH0, fkH0, lkH0⟩ := kH0.cells
  obtain ⟨ekH1, fkH1, lkH1⟩ := kH1.cells
  obtain ⟨ekPx, fkPx, lkPx⟩ := kPx.cells
  obtain ⟨ekPy, fkPy, lkPy⟩ := kPy.cells
  obtain ⟨ekW0, fkW0, lkW0⟩ := kW0.cells
  obtain ⟨ekW1, fkW1, lkW1⟩ := kW1.cells
  obtain ⟨ekXx, fkXx, lkXx⟩ := kXx.cells
  obtain ⟨ekXy, fkXy, lkXy⟩ := kXy.cells
  obtain ⟨ekG0, fkG0, lkG0⟩ := kG0.cells
  obtain ⟨ekG1, fkG1, lkG1⟩ := kG1.cells
  go_wp2_with fail
  refine calls_name (fun W => GrownS W38 W (fun k => k = gh0 ∨ k = gh1) ∧ Blk W gh0 #[.string (LL.takeC x y t).name, .int .i64 (LL.takeC x y t).number, .int .i64 (LL.takeC x y t).no, .int .i64 (LL.takeC x y t).path.q, .int .i64 (LL.takeC x y t).path.s, .slice Ah (LL.takeC x y t).path.steps.length ch, .int .i64 (LL.takeC x y t).path.fr, .int .i64 (LL.takeC x y t).path.by_, .slice Fh (LL.takeC x y t).flown.length mh] 74 ∧ Blk W gh1 #[.int .i64 (LL.takeW x y t).kind, .string (LL.takeW x y t).name, .int .i64 (LL.takeW x y t).number, .int .i64 (LL.takeW x y t).path.q, .int .i64 (LL.takeW x y t).path.s, .slice Ah2 (LL.takeW x y t).path.steps.length ch2, .int .i64 (LL.takeW x y t).path.fr, .int .i64 (LL.takeW x y t).path.by_] 46) ⟨(by repeat' (first | with_reducible exact GrownS.refl _ _ | with_reducible refine gS_set ?_ (by first | exact rfl | exact Or.inl rfl | exact Or.inr rfl | exact Or.inr (Or.inl rfl) | exact Or.inr (Or.inr rfl)) _ | with_reducible refine gS_drew ?_ | with_reducible refine gS_alloc ?_ _)), (by simpa using (((((((((((((((((kH0.put 0 (.string (LL.takeC x y t).name)).put 1 (.int .i64 (LL.takeC x y t).number)).put 2 (.int .i64 (LL.takeC x y t).no)).put 3 (.int .i64 (LL.takeC x y t).path.q)).put 4 (.int .i64 (LL.takeC x y t).path.s)).put 5 (.slice Ah (LL.takeC x y t).path.steps.length ch)).put 6 (.int .i64 (LL.takeC x y t).path.fr)).put 7 (.int .i64 (LL.takeC x y t).path.by_)).put 8 (.slice Fh (LL.takeC x y t).flown.length mh)).s (p := ⟨gh1, 0, none⟩) (by simp only [ne_eq]; omega) (.int .i64 (LL.takeW x y t).kind)).s (p := ⟨gh1, 1, none⟩) (by simp only [ne_eq]; omega) (.string (LL.takeW x y t).name)).s (p := ⟨gh1, 2, none⟩) (by simp only [ne_eq]; omega) (.int .i64 (LL.takeW x y t).number)).s (p := ⟨gh1, 3, none⟩) (by simp only [ne_eq]; omega) (.int .i64 (LL.takeW x y t).path.q)).s (p := ⟨gh1, 4, none⟩) (by simp only [ne_eq]; omega) (.int .i64 (LL.takeW x y t).path.s)).s (p := ⟨gh1, 5, none⟩) (by simp only [ne_eq]; omega) (.slice Ah2 (LL.takeW x y t).path.steps.length ch2)).s (p := ⟨gh1, 6, none⟩) (by simp only [ne_eq]; omega) (.int .i64 (LL.takeW x y t).path.fr)).s (p := ⟨gh1, 7, none⟩) (by simp only [ne_eq]; omega) (.int .i64 (LL.takeW x y t).path.by_))), (by simpa using (((((((((((((((((kH1.s (p := ⟨gh0, 0, none⟩) (by simp only [ne_eq]; omega) (.string (LL.takeC x y t).name)).s (p := ⟨gh0, 1, none⟩) (by simp only [ne_eq]; omega) (.int .i64 (LL.takeC x y t).number)).s (p := ⟨gh0, 2, none⟩) (by simp only [ne_eq]; omega) (.int .i64 (LL.takeC x y t).no)).s (p := ⟨gh0, 3, none⟩) (by simp only [ne_eq]; omega) (.int .i64 (LL.takeC x y t).path.q)).s (p := ⟨gh0, 4, none⟩) (by simp only [ne_eq]; omega) (.int .i64 (LL.takeC x y t).path.s)).s (p := ⟨gh0, 5, none⟩) (by simp only [ne_eq]; omega) (.slice Ah (LL.takeC x y t).path.steps.length ch)).s (p := ⟨gh0, 6, none⟩) (by simp only [ne_eq]; omega) (.int .i64 (LL.takeC x y t).path.fr)).s (p := ⟨gh0, 7, none⟩) (by simp only [ne_eq]; omega) (.int .i64 (LL.takeC x y t).path.by_)).s (p := ⟨gh0, 8, none⟩) (by simp only [ne_eq]; omega) (.slice Fh (LL.takeC x y t).flown.length mh)).put 0 (.int .i64 (LL.takeW x y t).kind)).put 1 (.string (LL.takeW x y t).name)).put 2 (.int .i64 (LL.takeW x y t).number)).put 3 (.int .i64 (LL.takeW x y t).path.q)).put 4 (.int .i64 (LL.takeW x y t).path.s)).put 5 (.slice Ah2 (LL.takeW x y t).path.steps.length ch2)).put 6 (.int .i64 (LL.takeW x y t).path.fr)).put 7 (.int .i64 (LL.takeW x y t).path.by_)))⟩ ?_
  clear ekPx fkPx lkPx ekPy fkPy lkPy ekW0 fkW0 lkW0 ekW1 fkW1 lkW1 ekXx fkXx lkXx ekXy fkXy lkXy ekG0 fkG0 lkG0 ekG1 fkG1 lkG1
  clear kH0 kH1 ekH0 fkH0 lkH0 ekH1 fkH1 lkH1
  rintro W39 ⟨hg, kH0, kH1⟩
  replace kPx := kPx.gS hg (fun h2 => by have h3 := kPxl; omega)
  replace kPy := kPy.gS hg (fun h2 => by have h3 := kPyl; omega)
  replace hW := hW.gS hg (fun k h1 h2 => by have h3 := hWb k h1; omega)
  replace hW2 := hW2.gS hg (fun k h1 h2 => by have h3 := hW2b k h1; omega)
  replace kW0 := kW0.gS hg (fun h2 => by have h3 := kW0l; omega)
  replace kW1 := kW1.gS hg (fun h2 => by have h3 := kW1l; omega)
  replace kXx := kXx.gS hg (fun h2 => by have h3 := kXxl; omega)
  replace kXy := kXy.gS hg (fun h2 => by have h3 := kXyl; omega)
  replace kG0 := kG0.gS hg (fun h2 => by have h3 := kG0l; omega)
  replace kG1 := kG1.gS hg (fun h2 => by have h3 := kG1l; omega)
  replace hGma := hGma.gS hg (fun k h1 h2 => by have h3 := hGmab k h1; omega)
  replace hGmb := hGmb.gS hg (fun k h1 h2 => by have h3 := hGmbb k h1; omega)
  replace hG2m := hG2m.gS hg (fun k h1 h2 => by have h3 := hG2mb k h1; omega)
  replace hH := hH.gS hg (fun k h1 h2 => by have h30 := hdh00 k h1; have h31 := hdh01 k h1; omega)
  replace hH2 := hH2.gS hg (fun k h1 h2 => by have h30 := hdh10 k h1; have h31 := hdh11 k h1; omega)
  replace hb := b_gS hb hg hb.size (fun k hk => by omega)
  have zW39 := hg.size
  clear hg
  have kH0l := kH0.cells.2.2
  have kH1l := kH1.cells.2.2
  have hHl := hH.lt
  have hH2l := fun k hk => (hH2.row.lt k hk).2
  refine (eqLinkCraft_c (LL.takeC x y t) _ _ _ _ _ _ _ _ _ hH hW).mono ?_
  rintro e W40 ⟨rfl, hB⟩
  replace hb := b_step hb hB
  replace kPx := kPx.b hB
  replace kPy := kPy.b hB
  replace hW := hW.b hB
  replace hW2 := hW2.b hB
  replace kW0 := kW0.b hB
  replace kW1 := kW1.b hB
  replace kXx := kXx.b hB
  replace kXy := kXy.b hB
  replace kG0 := kG0.b hB
  replace kG1 := kG1.b hB
  replace hGma := hGma.b hB
  replace hGmb := hGmb.b hB
  replace hG2m := hG2m.b hB
  replace hH := hH.b hB
  replace hH2 := hH2.b hB
  replace kH0 := kH0.b hB
  replace kH1 := kH1.b hB
  have zW40 := (hB).size
  clear hB
  obtain ⟨ekPx, fkPx, lkPx⟩ := kPx.cells
  obtain ⟨ekPy, fkPy, lkPy⟩ := kPy.cells
  obtain ⟨ekW0, fkW0, lkW0⟩ := kW0.cells
  obtain ⟨ekW1, fkW1, lkW1⟩ := kW1.cells
  obtain ⟨ekXx, fkXx, lkXx⟩ := kXx.cells
  obtain ⟨ekXy, fkXy, lkXy⟩ := kXy.cells
  obtain ⟨ekG0, fkG0, lkG0⟩ := kG0.cells
  obtain ⟨ekG1, fkG1, lkG1⟩ := kG1.cells
  obtain ⟨ekH0, fkH0, lkH0⟩ := kH0.cells
  obtain ⟨ekH1, fkH1, lkH1⟩ := kH1.cells
  go_wp2_with fail
  refine calls_name (fun W => Below W40.heap.size W40 W) (by repeat' (first | with_reducible exact Below.refl _ _ | with_reducible assumption | with_reducible refine b_alloc ?_ _ | with_reducible refine b_drewN ?_ _ | with_reducible refine b_drew ?_ | with_reducible refine b_set ?_ (by first | (simp only [World.size_setCell, World.size_alloc, World.size_drew]; omega) | (simp; done) | (simp; omega)) _ | with_reducible refine b_step ?_ (by with_reducible assumption))) ?_
  intro W41 hE
  clear ekPx fkPx lkPx ekPy fkPy lkPy ekW0 fkW0 lkW0 ekW1 fkW1 lkW1 ekXx fkXx lkXx ekXy fkXy lkXy ekG0 fkG0 lkG0 ekG1 fkG1 lkG1 ekH0 fkH0 lkH0 ekH1 fkH1 lkH1
  replace hb := b_step hb hE
  replace kPx := kPx.b hE
  replace kPy := kPy.b hE
  replace hW := hW.b hE
  replace hW2 := hW2.b hE
  replace kW0 := kW0.b hE
  replace kW1 := kW1.b hE
  replace kXx := kXx.b hE
  replace kXy := kXy.b hE
  replace kG0 := kG0.b hE
  replace kG1 := kG1.b hE
  replace hGma := hGma.b hE
  replace hGmb := hGmb.b hE
  replace hG2m := hG2m.b hE
  replace hH := hH.b hE
  replace hH2 := hH2.b hE
  replace kH0 := kH0.b hE
  replace kH1 := kH1.b hE
  have zW41 := (hE).size
  clear hE
  refine (eqLinkWord_c (LL.takeW x y t) _ _ _ _ _ (hH2.rd_at' stepE) (hW2.rd_at' stepE)).mono ?_
  rintro e W42 ⟨rfl, hB⟩
  replace hb := b_step hb hB
  replace kPx := kPx.b hB
  replace kPy := kPy.b hB
  replace hW := hW.b hB
  replace hW2 := hW2.b hB
  replace kW0 := kW0.b hB
  replace kW1 := kW1.b hB
  replace kXx := kXx.b hB
  replace kXy := kXy.b hB
  replace kG0 := kG0.b hB
  replace kG1 := kG1.b hB
  replace hGma := hGma.b hB
  replace hGmb := hGmb.b hB
  replace hG2m := hG2m.b hB
  replace hH := hH.b hB
  replace hH2 := hH2.b hB
  replace kH0 := kH0.b hB
  replace kH1 := kH1.b hB
  have zW42 := (hB).size
  clear hB
  obtain ⟨ekPx, fkPx, lkPx⟩ := kPx.cells
  obtain ⟨ekPy, fkPy, lkPy⟩ := kPy.cells
  obtain ⟨ekW0, fkW0, lkW0⟩ := kW0.cells
  obtain ⟨ekW1, fkW1, lkW1⟩ := kW1.cells
  obtain ⟨ekXx, fkXx, lkXx⟩ := kXx.cells
  obtain ⟨ekXy, fkXy, lkXy⟩ := kXy.cells
  obtain ⟨ekG0, fkG0, lkG0⟩ := kG0.cells
  obtain ⟨ekG1, fkG1, lkG1⟩ := kG1.cells
  obtain ⟨ekH0, fkH0, lkH0⟩ := kH0.cells
  obtain ⟨ekH1, fkH1, lkH1⟩ := kH1.cells
  go_wp2_with fail
  refine calls_name (fun W => Below W42.heap.size W42 W) (by repeat' (first | with_reducible exact Below.refl _ _ | with_reducible assumption | with_reducible refine b_alloc ?_ _ | with_reducible refine b_drewN ?_ _ | with_reducible refine b_drew ?_ | with_reducible refine b_set ?_ (by first | (simp only [World.size_setCell, World.size_alloc, World.size_drew]; omega) | (simp; done) | (simp; omega)) _ | with_reducible refine b_step ?_ (by with_reducible assumption))) ?_
  intro W43 hE
  clear ekPx fkPx lkPx ekPy fkPy lkPy ekW0 fkW0 lkW0 ekW1 fkW1 lkW1 ekXx fkXx lkXx ekXy fkXy lkXy ekG0 fkG0 lkG0 ekG1 fkG1 lkG1 ekH0 fkH0 lkH0 ekH1 fkH1 lkH1
  replace hb := b_step hb hE
  replace kPx := kPx.b hE
  replace kPy := kPy.b hE
  replace hW := hW.b hE
  replace hW2 := hW2.b hE
  replace kW0 := kW0.b hE
  replace kW1 := kW1.b hE
  replace kXx := kXx.b hE
  replace kXy := kXy.b hE
  replace kG0 := kG0.b hE
  replace kG1 := kG1.b hE
  replace hGma := hGma.b hE
  replace hGmb := hGmb.b hE
  replace hG2m := hG2m.b hE
  replace hH := hH.b hE
  replace hH2 := hH2.b hE
  replace kH0 := kH0.b hE
  replace kH1 := kH1.b hE
  have zW43 := (hE).size
  clear hE
  refine (heldLinkCraft_c (LL.takeC x y t) Ag cg Fg mg _ (by omega) (by omega) _ (hGma.rd_at' stepE) (hGmb.rd_at' intE)).mono ?_
  rintro e W44 ⟨rfl, hB⟩
  replace hb := b_step hb hB
  replace kPx := kPx.b hB
  replace kPy := kPy.b hB
  replace hW := hW.b hB
  replace hW2 := hW2.b hB
  replace kW0 := kW0.b hB
  replace kW1 := kW1.b hB
  replace kXx := kXx.b hB
  replace kXy := kXy.b hB
  replace kG0 := kG0.b hB
  replace kG1 := kG1.b hB
  replace hGma := hGma.b hB
  replace hGmb := hGmb.b hB
  replace hG2m := hG2m.b hB
  replace hH := hH.b hB
  replace hH2 := hH2.b hB
  replace kH0 := kH0.b hB
  replace kH1 := kH1.b hB
  have zW44 := (hB).size
  clear hB
  obtain ⟨ekPx, fkPx, lkPx⟩ := kPx.cells
  obtain ⟨ekPy, fkPy, lkPy⟩ := kPy.cells
  obtain ⟨ekW0, fkW0, lkW0⟩ := kW0.cells
  obtain ⟨ekW1, fkW1, lkW1⟩ := kW1.cells
  obtain ⟨ekXx, fkXx, lkXx⟩ := kXx.cells
  obtain ⟨ekXy, fkXy, lkXy⟩ := kXy.cells
  obtain ⟨ekG0, fkG0, lkG0⟩ := kG0.cells
  obtain ⟨ekG1, fkG1, lkG1⟩ := kG1.cells
  obtain ⟨ekH0, fkH0, lkH0⟩ := kH0.cells
  obtain ⟨ekH1, fkH1, lkH1⟩ := kH1.cells
  go_wp2_with fail
  refine calls_name (fun W => Below W44.heap.size W44 W) (by repeat' (first | with_reducible exact Below.refl _ _ | with_reducible assumption | with_reducible refine b_alloc ?_ _ | with_reducible refine b_drewN ?_ _ | with_reducible refine b_drew ?_ | with_reducible refine b_set ?_ (by first | (simp only [World.size_setCell, World.size_alloc, World.size_drew]; omega) | (simp; done) | (simp; omega)) _ | with_reducible refine b_step ?_ (by with_reducible assumption))) ?_
  intro W45 hE
  clear ekPx fkPx lkPx ekPy fkPy lkPy ekW0 fkW0 lkW0 ekW1 fkW1 lkW1 ekXx fkXx lkXx ekXy fkXy lkXy ekG0 fkG0 lkG0 ekG1 fkG1 lkG1 ekH0 fkH0 lkH0 ekH1 fkH1 lkH1
  replace hb := b_step hb hE
  replace kPx := kPx.b hE
  replace kPy := kPy.b hE
  replace hW := hW.b hE
  replace hW2 := hW2.b hE
  replace kW0 := kW0.b hE
  replace kW1 := kW1.b hE
  replace kXx := kXx.b hE
  replace kXy := kXy.b hE
  replace kG0 := kG0.b hE
  replace kG1 := kG1.b hE
  replace hGma := hGma.b hE
  replace hGmb := hGmb.b hE
  replace hG2m := hG2m.b hE
  replace hH := hH.b hE
  replace hH2 := hH2.b hE
  replace kH0 := kH0.b hE
  replace kH1 := kH1.b hE
  have zW45 := (hE).size
  clear hE
  refine (heldLinkWord_c (LL.takeW x y t) Ag2 cg2 _ (by omega) (by omega) _ (hG2m.rd_at' stepE)).mono ?_
  rintro e W46 ⟨rfl, hB⟩
  replace hb := b_step hb hB
  replace kPx := kPx.b hB
  replace kPy := kPy.b hB
  replace hW := hW.b hB
  replace hW2 := hW2.b hB
  replace kW0 := kW0.b hB
  replace kW1 := kW1.b hB
  replace kXx := kXx.b hB
  replace kXy := kXy.b hB
  replace kG0 := kG0.b hB
  replace kG1 := kG1.b hB
  replace hGma := hGma.b hB
  replace hGmb := hGmb.b hB
  replace hG2m := hG2m.b hB
  replace hH := hH.b hB
  replace hH2 := hH2.b hB
  replace kH0 := kH0.b hB
  replace kH1 := kH1.b hB
  have zW46 := (hB).size
  clear hB
  obtain ⟨ekPx, fkPx, lkPx⟩ := kPx.cells
  obtain ⟨ekPy, fkPy, lkPy⟩ := kPy.cells
  obtain ⟨ekW0, fkW0, lkW0⟩ := kW0.cells
  obtain ⟨ekW1, fkW1, lkW1⟩ := kW1.cells
  obtain ⟨ekXx, fkXx, lkXx⟩ := kXx.cells
  obtain ⟨ekXy, fkXy, lkXy⟩ := kXy.cells
  obtain ⟨ekG0, fkG0, lkG0⟩ := kG0.cells
  obtain ⟨ekG1, fkG1, lkG1⟩ := kG1.cells
  obtain ⟨ekH0, fkH0, lkH0⟩ := kH0.cells
  obtain ⟨ekH1, fkH1, lkH1⟩ := kH1.cells
  go_wp2_with fail
  go_ret
  exact ⟨rfl, (by repeat' (first | with_reducible exact Below.refl _ _ | with_reducible assumption | with_reducible refine b_alloc ?_ _ | with_reducible refine b_drewN ?_ _ | with_reducible refine b_drew ?_ | with_reducible refine b_set ?_ (by first | (simp only [World.size_setCell, World.size_alloc, World.size_drew]; omega) | (simp; done) | (simp; omega)) _ | with_reducible refine b_step ?_ (by with_reducible assumption)))⟩
end Go.Proofs.Ytkpnjnkfbhomgaa
