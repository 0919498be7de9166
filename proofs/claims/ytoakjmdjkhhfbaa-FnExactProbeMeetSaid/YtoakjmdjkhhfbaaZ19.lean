/- The exact law of ProbeMeet, walked. -/
import Derived.Test.YtoakjmdjkhhfbaaP6
import Derived.Test.YtoakjmdjkhhfbaaK3
import Derived.Test.YtoakjmdjkhhfbaaH2
set_option linter.unusedVariables false
set_option linter.unusedSimpArgs false
namespace Go.Proofs.Ytoakjmdjkhhfbaa
open Go.RowKit
attribute [local go_sem] w_lt_add w_le_of w_le_add max2_i min2_i
theorem eqProbeClash_c (s : LL.Cl) (w : World) : Calls Try.prog 24 #[.agg #[.string s.a, .string s.b, .int .i64 s.t, .int .i64 s.i, .int .i64 s.j], .agg #[.string s.a, .string s.b, .int .i64 s.t, .int .i64 s.i, .int .i64 s.j]] w fun e w' => e = .returned (.bool true) ∧ Below w.heap.size w w' := by
  go_enter Try.func24, Try.ntmps24
  go_wp2_with fail
  go_ret
  exact ⟨rfl, (by repeat' (first | with_reducible exact Below.refl _ _ | with_reducible assumption | with_reducible refine b_alloc ?_ _ | with_reducible refine b_drewN ?_ _ | with_reducible refine b_drew ?_ | with_reducible refine b_set ?_ (by first | (simp only [World.size_setCell, World.size_alloc, World.size_drew]; omega) | (simp; done) | (simp; omega)) _ | with_reducible refine b_step ?_ (by with_reducible assumption)))⟩
set_option maxRecDepth 100000 in
set_option maxHeartbeats 4000000 in
theorem FnExactProbeMeet_c (sx : ByteArray) (x : List LL.Box) (Ax : Option Addr) (cx : Nat) (sy : ByteArray) (y : List LL.Box) (Ay : Option Addr) (cy : Nat) (w : World) (hx : RdB w Ax x.length cx x) (hzx : sx.size ≤ 9223372036854775807) (hy : RdB w Ay y.length cy y) (hzy : sy.size ≤ 9223372036854775807) : Calls Try.prog 4 #[.agg #[.string sx, .slice Ax x.length cx], .agg #[.string sy, .slice Ay y.length cy]] w fun e w' => e = .returned (.bool true) ∧ Below w.heap.size w w' := by
  have hrx := hx.room
  have hnx : x.length ≤ 140737488355328 := by omega
  have hry := hy.room
  have hny : y.length ≤ 140737488355328 := by omega
  go_enter Try.func4, Try.ntmps4
  go_wp2_with fail
  refine calls_name (fun W => Below w.heap.size w W ∧ Blk W w.heap.size #[.string sx, .slice Ax x.length cx] 31 ∧ Blk W (w.heap.size + 1) #[.string sy, .slice Ay y.length cy] 31) ⟨(by repeat' (first | with_reducible exact Below.refl _ _ | with_reducible assumption | with_reducible refine b_alloc ?_ _ | with_reducible refine b_drewN ?_ _ | with_reducible refine b_drew ?_ | with_reducible refine b_set ?_ (by first | (simp only [World.size_setCell, World.size_alloc, World.size_drew]; omega) | (simp; done) | (simp; omega)) _ | with_reducible refine b_step ?_ (by with_reducible assumption))), (by repeat' (first | with_reducible assumption | with_reducible exact Blk.new _ _ _ | with_reducible exact Blk.new' _ _ (by first | (simp only [World.size_alloc, World.size_setCell, World.size_drew]; done) | (simp only [World.size_alloc, World.size_setCell, World.size_drew]; omega) | omega) | with_reducible refine Blk.a ?_ _ | with_reducible refine Blk.d ?_ | with_reducible refine Blk.dN ?_ _ | with_reducible refine Blk.s ?_ (by simp only [ne_eq]; omega) _ | with_reducible refine Blk.b ?_ (by with_reducible assumption))), (by repeat' (first | with_reducible assumption | with_reducible exact Blk.new _ _ _ | with_reducible exact Blk.new' _ _ (by first | (simp only [World.size_alloc, World.size_setCell, World.size_drew]; done) | (simp only [World.size_alloc, World.size_setCell, World.size_drew]; omega) | omega) | with_reducible refine Blk.a ?_ _ | with_reducible refine Blk.d ?_ | with_reducible refine Blk.dN ?_ _ | with_reducible refine Blk.s ?_ (by simp only [ne_eq]; omega) _ | with_reducible refine Blk.b ?_ (by with_reducible assumption)))⟩ ?_
  rintro W1 ⟨hE, kPx, kPy⟩
  have hb : Below w.heap.size w W1 := hE
  have zW1 := (hE).size
  clear hE
  have kPxl := kPx.cells.2.2
  have kPyl := kPy.cells.2.2
  refine (szProbeTube_c sx _ _ _ _ _ (by decide) (by decide) hzx hnx).mono ?_
  rintro e W2 ⟨rfl, hB⟩
  replace hb := b_step hb hB
  replace kPx := kPx.b hB
  replace kPy := kPy.b hB
  have zW2 := (hB).size
  clear hB
  by_cases hsx : (LL.szT 1048576 sx.size x.length) < 0
  · go_wp2_with fail
    go_ret
    exact ⟨rfl, (by repeat' (first | with_reducible exact Below.refl _ _ | with_reducible assumption | with_reducible refine b_alloc ?_ _ | with_reducible refine b_drewN ?_ _ | with_reducible refine b_drew ?_ | with_reducible refine b_set ?_ (by first | (simp only [World.size_setCell, World.size_alloc, World.size_drew]; omega) | (simp; done) | (simp; omega)) _ | with_reducible refine b_step ?_ (by with_reducible assumption)))⟩
  have hs1x : decide ((LL.szT 1048576 sx.size x.length) < 0) = false := by simpa using hsx
  have hs2x : (LL.szT 1048576 sx.size x.length) ≤ 1048576 := Int.le_trans (LL.szT_le (by omega) _ _) (by omega)
  obtain ⟨ekPx, fkPx, lkPx⟩ := kPx.cells
  obtain ⟨ekPy, fkPy, lkPy⟩ := kPy.cells
  go_wp2_with fail
  refine calls_name (fun W => Below W2.heap.size W2 W) (by repeat' (first | with_reducible exact Below.refl _ _ | with_reducible assumption | with_reducible refine b_alloc ?_ _ | with_reducible refine b_drewN ?_ _ | with_reducible refine b_drew ?_ | with_reducible refine b_set ?_ (by first | (simp only [World.size_setCell, World.size_alloc, World.size_drew]; omega) | (simp; done) | (simp; omega)) _ | with_reducible refine b_step ?_ (by with_reducible assumption))) ?_
  intro W3 hE
  clear ekPx fkPx lkPx ekPy fkPy lkPy
  replace hb := b_step hb hE
  replace kPx := kPx.b hE
  replace kPy := kPy.b hE
  have zW3 := (hE).size
  clear hE
  refine (szProbeTube_c sy _ _ _ _ _ (by omega) (by omega) hzy hny).mono ?_
  rintro e W4 ⟨rfl, hB⟩
  replace hb := b_step hb hB
  replace kPx := kPx.b hB
  replace kPy := kPy.b hB
  have zW4 := (hB).size
  clear hB
  by_cases hsy : (LL.szT (LL.szT 1048576 sx.size x.length) sy.size y.length) < 0
  · go_wp2_with fail
    go_ret
    exact ⟨rfl, (by repeat' (first | with_reducible exact Below.refl _ _ | with_reducible assumption | with_reducible refine b_alloc ?_ _ | with_reducible refine b_drewN ?_ _ | with_reducible refine b_drew ?_ | with_reducible refine b_set ?_ (by first | (simp only [World.size_setCell, World.size_alloc, World.size_drew]; omega) | (simp; done) | (simp; omega)) _ | with_reducible refine b_step ?_ (by with_reducible assumption)))⟩
  have hs1y : decide ((LL.szT (LL.szT 1048576 sx.size x.length) sy.size y.length) < 0) = false := by simpa using hsy
  have hs2y : (LL.szT (LL.szT 1048576 sx.size x.length) sy.size y.length) ≤ 1048576 := Int.le_trans (LL.szT_le (by omega) _ _) (by omega)
  obtain ⟨ekPx, fkPx, lkPx⟩ := kPx.cells
  obtain ⟨ekPy, fkPy, lkPy⟩ := kPy.cells
  go_wp2_with fail
  refine wp_name (fun W => Below W4.heap.size W4 W) (by repeat' (first | with_reducible exact Below.refl _ _ | with_reducible assumption | with_reducible refine b_alloc ?_ _ | with_reducible refine b_drewN ?_ _ | with_reducible refine b_drew ?_ | with_reducible refine b_set ?_ (by first | (simp only [World.size_setCell, World.size_alloc, World.size_drew]; omega) | (simp; done) | (simp; omega)) _ | with_reducible refine b_step ?_ (by with_reducible assumption))) ?_
  intro W5 hE
  clear ekPx fkPx lkPx ekPy fkPy lkPy
  replace hb := b_step hb hE
  replace kPx := kPx.b hE
  replace kPy := kPy.b hE
  have zW5 := (hE).size
  clear hE
  obtain ⟨ekPx, fkPx, lkPx⟩ := kPx.cells
  obtain ⟨ekPy, fkPy, lkPy⟩ := kPy.cells
  refine rel_tailf_b 9 [7] [(1, fun v W => ∃ A9 c9, v = .agg #[.string sx, .slice A9 x.length c9] ∧ Own boxC 6 48 116 W (.slice A9 x.length c9) x), (3, fun v W => ∃ A9 c9, v = .agg #[.string sy, .slice A9 y.length c9] ∧ Own boxC 6 48 116 W (.slice A9 y.length c9) y), (4, fun v _ => v = .tuple #[.agg #[.string (LL.meetM sx sy x y).a, .string (LL.meetM sx sy x y).b, .int .i64 (LL.meetM sx sy x y).t, .int .i64 (LL.meetM sx sy x y).i, .int .i64 (LL.meetM sx sy x y).j], .bool (LL.meetM sx sy x y).f]), (8, fun v w' => ∃ g, v = .pointer (some ⟨g, 0, none⟩) ∧ W5.heap.size ≤ g ∧ Blk w' g #[.string ⟨#[]⟩, .string ⟨#[]⟩, .int .i64 0, .int .i64 0, .int .i64 0] 34)] (by kernel_rfl) (by kernel_rfl) (by intro d9 v9 c9 a9 w9 h9; cases d9 <;> exact h9) ?_
  simp only [List.take_succ_cons, List.take_zero, List.drop_succ_cons, List.drop_zero]
  ((apply rel_plain (hR := rfl) (hF := fun _ => trivial) (hg := rfl)); (focus ((intro w' hL'); (obtain ⟨hcS, hfS, hlS⟩ := bcell hL'); (try simp only [World.size_setCell, World.size_alloc, World.size_drew] at hcS hfS hlS); (go_simp); (try go_bits); (try (first | (rw [if_pos (by omega)]; done) | (rw [if_neg (by omega)]; done) | (rw [if_pos (by omega)]; go_simp) | (rw [if_neg (by omega)]; go_simp))); (first | with_reducible rfl | exact rfl | skip))); (simp only [Act.put, List.setIfInBounds_toArray, List.set_cons_zero, List.set_cons_succ]))
  ((apply rel_told (hR := rfl) (hg := rfl)); (focus ((intro w' hL' hD'); (obtain ⟨hcS, hfS, hlS⟩ := bcell hL'); (try simp only [World.size_setCell, World.size_alloc, World.size_drew] at hcS hfS hlS); (go_simp); (try go_bits); (try (first | (rw [if_pos (by omega)]; done) | (rw [if_neg (by omega)]; done) | (rw [if_pos (by omega)]; go_simp) | (rw [if_neg (by omega)]; go_simp))); ((go_at_call 22); (refine (toProbeTube_c sx x Ax cx _ (hx.mono (b_step hb hL'))).mono ?_); (intro e w'' hM); (obtain ⟨A2, c2, rfl, hO2, -, hB⟩ := hM); (refine ⟨_, rfl, hB, ?_⟩); ((repeat (first | (refine Tell.hit rfl ?_) | (refine Tell.skip rfl ?_))); exact ⟨A2, c2, rfl, hO2⟩)))); (intro v' w0' hv'); (replace hv' := Tell.out hv' rfl); (obtain ⟨A2x, c2x, rfl, -⟩ := hv'); (simp only [Act.put, List.setIfInBounds_toArray, List.set_cons_zero, List.set_cons_succ]))
  ((apply rel_plain (hR := rfl) (hF := fun _ => trivial) (hg := rfl)); (focus ((intro w' hL'); (obtain ⟨hcS, hfS, hlS⟩ := bcell hL'); (try simp only [World.size_setCell, World.size_alloc, World.size_drew] at hcS hfS hlS); (go_simp); (try go_bits); (try (first | (rw [if_pos (by omega)]; done) | (rw [if_neg (by omega)]; done) | (rw [if_pos (by omega)]; go_simp) | (rw [if_neg (by omega)]; go_simp))); (first | with_reducible rfl | exact rfl | skip))); (simp only [Act.put, List.setIfInBounds_toArray, List.set_cons_zero, List.set_cons_succ]))
  ((apply rel_told (hR := rfl) (hg := rfl)); (focus ((intro w' hL' hD'); (obtain ⟨hcS, hfS, hlS⟩ := bcell hL'); (try simp only [World.size_setCell, World.size_alloc, World.size_drew] at hcS hfS hlS); (go_simp); (try go_bits); (try (first | (rw [if_pos (by omega)]; done) | (rw [if_neg (by omega)]; done) | (rw [if_pos (by omega)]; go_simp) | (rw [if_neg (by omega)]; go_simp))); ((go_at_call 22); (refine (toProbeTube_c sy y Ay cy _ (hy.mono (b_step hb hL'))).mono ?_); (intro e w'' hM); (obtain ⟨A2, c2, rfl, hO2, -, hB⟩ := hM); (refine ⟨_, rfl, hB, ?_⟩); ((repeat (first | (refine Tell.hit rfl ?_) | (refine Tell.skip rfl ?_))); exact ⟨A2, c2, rfl, hO2⟩)))); (intro v' w0' hv'); (replace hv' := Tell.out hv' rfl); (obtain ⟨A2y, c2y, rfl, -⟩ := hv'); (simp only [Act.put, List.setIfInBounds_toArray, List.set_cons_zero, List.set_cons_succ]))
  ((apply rel_told (hR := rfl) (hg := rfl)); (focus ((intro w' hL' hD'); (obtain ⟨hcS, hfS, hlS⟩ := bcell hL'); (try simp only [World.size_setCell, World.size_alloc, World.size_drew] at hcS hfS hlS); (go_simp); (try go_bits); (try (first | (rw [if_pos (by omega)]; done) | (rw [if_neg (by omega)]; done) | (rw [if_pos (by omega)]; go_simp) | (rw [if_neg (by omega)]; go_simp))); ((obtain ⟨w8, hl8, A8, c8, e8, hO8⟩ := Known.out (hD' ⟨1, .data⟩ (by simp) rfl) rfl); (simp at e8; obtain ⟨rfl, rfl⟩ := e8); (replace hO8 := hO8.b hl8); (obtain ⟨w9, hl9, A9, c9, e9, hO9⟩ := Known.out (hD' ⟨3, .data⟩ (by simp) rfl) rfl); (simp at e9; obtain ⟨rfl, rfl⟩ := e9); (replace hO9 := hO9.b hl9); ((go_at_call 21); (refine (spec_ProbeMeet_c sx sy x y _ _ _ _ hzx hzy _ (hO8.rd_at' boxE) (hO9.rd_at' boxE)).mono ?_); (rintro e w'' ⟨rfl, hb''⟩); (refine ⟨_, rfl, ?_, ?_⟩); (focus (first | exact hb'' | (subst hb''; exact Le.refl _))); ((repeat (first | (refine Tell.hit rfl ?_) | (refine Tell.skip rfl ?_))); exact rfl))))); (intro v' w0' hv'); (replace hv' := Tell.out hv' rfl); (obtain rfl := hv'); (simp only [Act.put, List.setIfInBounds_toArray, List.set_cons_zero, List.set_cons_succ]))
  iterate 3 ((apply rel_plain (hR := rfl) (hF := fun _ => trivial) (hg := rfl)); (focus ((intro w' hL'); (obtain ⟨hcS, hfS, hlS⟩ := bcell hL'); (try simp only [World.size_setCell, World.size_alloc, World.size_drew] at hcS hfS hlS); (go_simp); (try go_bits); (try (first | (rw [if_pos (by omega)]; done) | (rw [if_neg (by omega)]; done) | (rw [if_pos (by omega)]; go_simp) | (rw [if_neg (by omega)]; go_simp))); (first | with_reducible rfl | exact rfl | skip))); (simp only [Act.put, List.setIfInBounds_toArray, List.set_cons_zero, List.set_cons_succ]))
  ((apply rel_told (hR := rfl) (hg := rfl)); (focus ((intro w' hL' hD'); (obtain ⟨hcS, hfS, hlS⟩ := bcell hL'); (try simp only [World.size_setCell, World.size_alloc, World.size_drew] at hcS hfS hlS); (go_simp); (try go_bits); (try (first | (rw [if_pos (by omega)]; done) | (rw [if_neg (by omega)]; done) | (rw [if_pos (by omega)]; go_simp) | (rw [if_neg (by omega)]; go_simp))); (refine ⟨b_alloc (Below.refl _ _) _, ?_⟩; ((repeat (first | (refine Tell.hit rfl ?_) | (refine Tell.skip rfl ?_))); exact ⟨_, rfl, hL'.size, Blk.new _ _ _⟩)))); (intro v' w0' hv'); (replace hv' := Tell.out hv' rfl); (obtain ⟨g, rfl, hgw, -⟩ := hv'); (simp only [Act.put, List.setIfInBounds_toArray, List.set_cons_zero, List.set_cons_succ]))
  refine rel_nil ?_
  intro W6 hE hF9
  obtain ⟨w0, hl0, g9, hg9, -, kZ⟩ := Known.out (hF9 8) rfl
  cases hg9
  replace kZ := kZ.b hl0
  clear hF9 hl0
  clear ekPx fkPx lkPx ekPy fkPy lkPy
  replace hb := b_step hb hE
  replace kPx := kPx.b hE
  replace kPy := kPy.b hE
  have zW6 := (hE).size
  clear hE
  have kZl := kZ.cells.2.2
  obtain ⟨ekPx, fkPx, lkPx⟩ := kPx.cells
  obtain ⟨ekPy, fkPy, lkPy⟩ := kPy.cells
  obtain ⟨ekZ, fkZ, lkZ⟩ := kZ.cells
  go_wp2_with fail
  refine calls_name (fun W => Below w.heap.size w W ∧ Blk W w.heap.size #[.string sx, .slice Ax x.length cx] 31 ∧ Blk W (w.heap.size + 1) #[.string sy, .slice Ay y.length cy] 31 ∧ Blk W g #[.string (LL.meetM sx sy x y).a, .string (LL.meetM sx sy x y).b, .int .i64 (LL.meetM sx sy x y).t, .int .i64 (LL.meetM sx sy x y).i, .int .i64 (LL.meetM sx sy x y).j] 34) ⟨(by repeat' (first | with_reducible exact Below.refl _ _ | with_reducible assumption | with_reducible refine b_alloc ?_ _ | with_reducible refine b_drewN ?_ _ | with_reducible refine b_drew ?_ | with_reducible refine b_set ?_ (by first | (simp only [World.size_setCell, World.size_alloc, World.size_drew]; omega) | (simp; done) | (simp; omega)) _ | with_reducible refine b_step ?_ (by with_reducible assumption))), (by repeat' (first | with_reducible assumption | with_reducible exact Blk.new _ _ _ | with_reducible exact Blk.new' _ _ (by first | (simp only [World.size_alloc, World.size_setCell, World.size_drew]; done) | (simp only [World.size_alloc, World.size_setCell, World.size_drew]; omega) | omega) | with_reducible refine Blk.a ?_ _ | with_reducible refine Blk.d ?_ | with_reducible refine Blk.dN ?_ _ | with_reducible refine Blk.s ?_ (by simp only [ne_eq]; omega) _ | with_reducible refine Blk.b ?_ (by with_reducible assumption))), (by repeat' (first | with_reducible assumption | with_reducible exact Blk.new _ _ _ | with_reducible exact Blk.new' _ _ (by first | (simp only [World.size_alloc, World.size_setCell, World.size_drew]; done) | (simp only [World.size_alloc, World.size_setCell, World.size_drew]; omega) | omega) | with_reducible refine Blk.a ?_ _ | with_reducible refine Blk.d ?_ | with_reducible refine Blk.dN ?_ _ | with_reducible refine Blk.s ?_ (by simp only [ne_eq]; omega) _ | with_reducible refine Blk.b ?_ (by with_reducible assumption))), by simpa using (((((kZ.put 0 (.string (LL.meetM sx sy x y).a)).put 1 (.string (LL.meetM sx sy x y).b)).put 2 (.int .i64 (LL.meetM sx sy x y).t)).put 3 (.int .i64 (LL.meetM sx sy x y).i)).put 4 (.int .i64 (LL.meetM sx sy x y).j))⟩ ?_
  clear ekPx fkPx lkPx ekPy fkPy lkPy ekZ fkZ lkZ
  clear hb kPx kPy kZ kZl
  rintro W7 ⟨hb, kPx, kPy, kW⟩
  have kWl := kW.cells.2.2
  refine (toProbeTube_c sx x Ax cx _ (hx.mono hb)).mono ?_
  intro e W8 hM
  obtain ⟨Axx, cxx, rfl, hXx, hXxg, hB⟩ := hM
  replace hb := b_step hb hB
  replace kPx := kPx.b hB
  replace kPy := kPy.b hB
  replace kW := kW.b hB
  have zW8 := (hB).size
  clear hB
  have hXxl := fun k hk => (hXx.row.lt k hk).2
  obtain ⟨ekPx, fkPx, lkPx⟩ := kPx.cells
  obtain ⟨ekPy, fkPy, lkPy⟩ := kPy.cells
  obtain ⟨ekW, fkW, lkW⟩ := kW.cells
  go_wp2_with fail
  refine calls_name (fun W => Below W8.heap.size W8 W ∧ Blk W W8.heap.size #[.string sx, .slice Axx x.length cxx] 39) ⟨(by repeat' (first | with_reducible exact Below.refl _ _ | with_reducible assumption | with_reducible refine b_alloc ?_ _ | with_reducible refine b_drewN ?_ _ | with_reducible refine b_drew ?_ | with_reducible refine b_set ?_ (by first | (simp only [World.size_setCell, World.size_alloc, World.size_drew]; omega) | (simp; done) | (simp; omega)) _ | with_reducible refine b_step ?_ (by with_reducible assumption))), Blk.new _ _ _⟩ ?_
  rintro W9 ⟨hE, kXx⟩
  clear ekPx fkPx lkPx ekPy fkPy lkPy ekW fkW lkW
  replace hb := b_step hb hE
  replace kPx := kPx.b hE
  replace kPy := kPy.b hE
  replace kW := kW.b hE
  replace hXx := hXx.b hE
  have zW9 := (hE).size
  clear hE
  have kXxl := kXx.cells.2.2
  refine (toProbeTube_c sy y Ay cy _ (hy.mono hb)).mono ?_
  intro e W10 hM
  obtain ⟨Axy, cxy, rfl, hXy, hXyg, hB⟩ := hM
  replace hb := b_step hb hB
  replace kPx := kPx.b hB
  replace kPy := kPy.b hB
  replace kW := kW.b hB
  replace hXx := hXx.b hB
  replace kXx := kXx.b hB
  have zW10 := (hB).size
  clear hB
  have hXyl := fun k hk => (hXy.row.lt k hk).2
  obtain ⟨ekPx, fkPx, lkPx⟩ := kPx.cells
  obtain ⟨ekPy, fkPy, lkPy⟩ := kPy.cells
  obtain ⟨ekW, fkW, lkW⟩ := kW.cells
  obtain ⟨ekXx, fkXx, lkXx⟩ := kXx.cells
  go_wp2_with fail
  refine calls_name (fun W => Below W10.heap.size W10 W ∧ Blk W W10.heap.size #[.string sy, .slice Axy y.length cxy] 39) ⟨(by repeat' (first | with_reducible exact Below.refl _ _ | with_reducible assumption | with_reducible refine b_alloc ?_ _ | with_reducible refine b_drewN ?_ _ | with_reducible refine b_drew ?_ | with_reducible refine b_set ?_ (by first | (simp only [World.size_setCell, World.size_alloc, World.size_drew]; omega) | (simp; done) | (simp; omega)) _ | with_reducible refine b_step ?_ (by with_reducible assumption))), Blk.new _ _ _⟩ ?_
  rintro W11 ⟨hE, kXy⟩
  clear ekPx fkPx lkPx ekPy fkPy lkPy ekW fkW lkW ekXx fkXx lkXx
  replace hb := b_step hb hE
  replace kPx := kPx.b hE
  replace kPy := kPy.b hE
  replace kW := kW.b hE
  replace hXx := hXx.b hE
  replace kXx := kXx.b hE
  replace hXy := hXy.b hE
  have zW11 := (hE).size
  clear hE
  have kXyl := kXy.cells.2.2
  refine (impl_ProbeMeet_c sx sy x y Axx Axy cxx cxy hzx hzy _ (hXx.rd_at' boxE) (hXy.rd_at' boxE)).mono ?_
  rintro e W12 ⟨rfl, hB⟩
  replace hb := b_step hb hB
  replace kPx := kPx.b hB
  replace kPy := kPy.b hB
  replace kW := kW.b hB
  replace hXx := hXx.b hB
  replace kXx := kXx.b hB
  replace hXy := hXy.b hB
  replace kXy := kXy.b hB
  have zW12 := (hB).size
  clear hB
  obtain ⟨ekPx, fkPx, lkPx⟩ := kPx.cells
  obtain ⟨ekPy, fkPy, lkPy⟩ := kPy.cells
  obtain ⟨ekW, fkW, lkW⟩ := kW.cells
  obtain ⟨ekXx, fkXx, lkXx⟩ := kXx.cells
  obtain ⟨ekXy, fkXy, lkXy⟩ := kXy.cells
  go_wp2_with fail
  refine calls_name (fun W => Below W12.heap.size W12 W ∧ Blk W W12.heap.size #[.string (LL.meetM sx sy x y).a, .string (LL.meetM sx sy x y).b, .int .i64 (LL.meetM sx sy x y).t, .int .i64 (LL.meetM sx sy x y).i, .int .i64 (LL.meetM sx sy x y).j] 34) ⟨(by repeat' (first | with_reducible exact Below.refl _ _ | with_reducible assumption | with_reducible refine b_alloc ?_ _ | with_reducible refine b_drewN ?_ _ | with_reducible refine b_drew ?_ | with_reducible refine b_set ?_ (by first | (simp only [World.size_setCell, World.size_alloc, World.size_drew]; omega) | (simp; done) | (simp; omega)) _ | with_reducible refine b_step ?_ (by with_reducible assumption))), Blk.new _ _ _⟩ ?_
  rintro W13 ⟨hE, kG⟩
  clear ekPx fkPx lkPx ekPy fkPy lkPy ekW fkW lkW ekXx fkXx lkXx ekXy fkXy lkXy
  replace hb := b_step hb hE
  replace kPx := kPx.b hE
  replace kPy := kPy.b hE
  replace kW := kW.b hE
  replace hXx := hXx.b hE
  replace kXx := kXx.b hE
  replace hXy := hXy.b hE
  replace kXy := kXy.b hE
  have zW13 := (hE).size
  clear hE
  have kGl := kG.cells.2.2
  refine (eqProbeClash_c (LL.meetM sx sy x y) _).mono ?_
  rintro e W14 ⟨rfl, hB⟩
  replace hb := b_step hb hB
  replace kPx := kPx.b hB
  replace kPy := kPy.b hB
  replace kW := kW.b hB
  replace hXx := hXx.b hB
  replace kXx := kXx.b hB
  replace hXy := hXy.b hB
  replace kXy := kXy.b hB
  replace kG := kG.b hB
  have zW14 := (hB).size
  clear hB
  obtain ⟨ekPx, fkPx, lkPx⟩ := kPx.cells
  obtain ⟨ekPy, fkPy, lkPy⟩ := kPy.cells
  obtain ⟨ekW, fkW, lkW⟩ := kW.cells
  obtain ⟨ekXx, fkXx, lkXx⟩ := kXx.cells
  obtain ⟨ekXy, fkXy, lkXy⟩ := kXy.cells
  obtain ⟨ekG, fkG, lkG⟩ := kG.cells
  go_wp2_with fail
  refine wp_name (fun W => Below W14.heap.size W14 W) (by repeat' (first | with_reducible exact Below.refl _ _ | with_reducible assumption | with_reducible refine b_alloc ?_ _ | with_reducible refine b_drewN ?_ _ | with_reducible refine b_drew ?_ | with_reducible refine b_set ?_ (by first | (simp only [World.size_setCell, World.size_alloc, World.size_drew]; omega) | (simp; done) | (simp; omega)) _ | with_reducible refine b_step ?_ (by with_reducible assumption))) ?_
  intro W15 hE
  clear ekPx fkPx lkPx ekPy fkPy lkPy ekW fkW lkW ekXx fkXx lkXx ekXy fkXy lkXy ekG fkG lkG
  replace hb := b_step hb hE
  replace kPx := kPx.b hE
  replace kPy := kPy.b hE
  replace kW := kW.b hE
  replace hXx := hXx.b hE
  replace kXx := kXx.b hE
  replace hXy := hXy.b hE
  replace kXy := kXy.b hE
  replace kG := kG.b hE
  have zW15 := (hE).size
  clear hE
  obtain ⟨ekPx, fkPx, lkPx⟩ := kPx.cells
  obtain ⟨ekPy, fkPy, lkPy⟩ := kPy.cells
  obtain ⟨ekW, fkW, lkW⟩ := kW.cells
  obtain ⟨ekXx, fkXx, lkXx⟩ := kXx.cells
  obtain ⟨ekXy, fkXy, lkXy⟩ := kXy.cells
  obtain ⟨ekG, fkG, lkG⟩ := kG.cells
  refine rel_b [(2, fun v W => ∃ A9 c9, v = .agg #[.string sx, .slice A9 x.length c9] ∧ Own boxC 6 48 116 W (.slice A9 x.length c9) x), (3, fun v _ => v = .bool true)] (by kernel_rfl) (by kernel_rfl) ?_
  ((apply rel_plain (hR := rfl) (hF := fun _ => trivial) (hg := rfl)); (focus ((intro w' hL'); (obtain ⟨hcS, hfS, hlS⟩ := bcell hL'); (try simp only [World.size_setCell, World.size_alloc, World.size_drew] at hcS hfS hlS); (go_simp); (try go_bits); (try (first | (rw [if_pos (by omega)]; done) | (rw [if_neg (by omega)]; done) | (rw [if_pos (by omega)]; go_simp) | (rw [if_neg (by omega)]; go_simp))); (first | with_reducible rfl | exact rfl | skip))); (simp only [Act.put, List.setIfInBounds_toArray, List.set_cons_zero, List.set_cons_succ]))
  ((apply rel_plain (hR := rfl) (hF := fun _ => trivial) (hg := rfl)); (focus ((intro w' hL'); (obtain ⟨hcS, hfS, hlS⟩ := bcell hL'); (try simp only [World.size_setCell, World.size_alloc, World.size_drew] at hcS hfS hlS); (go_simp); (try go_bits); (try (first | (rw [if_pos (by omega)]; done) | (rw [if_neg (by omega)]; done) | (rw [if_pos (by omega)]; go_simp) | (rw [if_neg (by omega)]; go_simp))); (first | with_reducible rfl | exact rfl | skip))); (simp only [Act.put, List.setIfInBounds_toArray, List.set_cons_zero, List.set_cons_succ]))
  ((apply rel_told (hR := rfl) (hg := rfl)); (focus ((intro w' hL' hD'); (obtain ⟨hcS, hfS, hlS⟩ := bcell hL'); (try simp only [World.size_setCell, World.size_alloc, World.size_drew] at hcS hfS hlS); (go_simp); (try go_bits); (try (first | (rw [if_pos (by omega)]; done) | (rw [if_neg (by omega)]; done) | (rw [if_pos (by omega)]; go_simp) | (rw [if_neg (by omega)]; go_simp))); ((go_at_call 22); (refine (toProbeTube_c sx x Ax cx _ (hx.mono (b_step hb hL'))).mono ?_); (intro e w'' hM); (obtain ⟨A2, c2, rfl, hO2, -, hB⟩ := hM); (refine ⟨_, rfl, hB, ?_⟩); ((repeat (first | (refine Tell.hit rfl ?_) | (refine Tell.skip rfl ?_))); exact ⟨A2, c2, rfl, hO2⟩)))); (intro v' w0' hv'); (replace hv' := Tell.out hv' rfl); (obtain ⟨A2x, c2x, rfl, -⟩ := hv'); (simp only [Act.put, List.setIfInBounds_toArray, List.set_cons_zero, List.set_cons_succ]))
  ((apply rel_told (hR := rfl) (hg := rfl)); (focus ((intro w' hL' hD'); (obtain ⟨hcS, hfS, hlS⟩ := bcell hL'); (try simp only [World.size_setCell, World.size_alloc, World.size_drew] at hcS hfS hlS); (go_simp); (try go_bits); (try (first | (rw [if_pos (by omega)]; done) | (rw [if_neg (by omega)]; done) | (rw [if_pos (by omega)]; go_simp) | (rw [if_neg (by omega)]; go_simp))); ((obtain ⟨w8, hl8, A8, c8, e8, hO8⟩ := Known.out (hD' ⟨2, .data⟩ (by simp) rfl) rfl); (simp at e8; obtain ⟨rfl, rfl⟩ := e8); (replace hO8 := hO8.b hl8); ((go_at_call 25); (refine (eqProbeTube_c sx x _ _ _ _ _ ((hXx.b hL').rd_at' boxE) (hO8.rd_at' boxE)).mono ?_); (rintro e w'' ⟨rfl, hb''⟩); (refine ⟨_, rfl, ?_, ?_⟩); (focus (first | exact hb'' | (subst hb''; exact Le.refl _))); ((repeat (first | (refine Tell.hit rfl ?_) | (refine Tell.skip rfl ?_))); exact rfl))))); (intro v' w0' hv'); (replace hv' := Tell.out hv' rfl); (obtain rfl := hv'); (simp only [Act.put, List.setIfInBounds_toArray, List.set_cons_zero, List.set_cons_succ]))
  ((apply rel_plain (hR := rfl) (hF := fun _ => trivial) (hg := rfl)); (focus ((intro w' hL'); (obtain ⟨hcS, hfS, hlS⟩ := bcell hL'); (try simp only [World.size_setCell, World.size_alloc, World.size_drew] at hcS hfS hlS); (go_simp); (try go_bits); (try (first | (rw [if_pos (by omega)]; done) | (rw [if_neg (by omega)]; done) | (rw [if_pos (by omega)]; go_simp) | (rw [if_neg (by omega)]; go_simp))); (first | with_reducible rfl | exact rfl | skip))); (simp only [Act.put, List.setIfInBounds_toArray, List.set_cons_zero, List.set_cons_succ]))
  refine rel_nil ?_
  intro W16 hE hF9
  clear hF9
  clear ekPx fkPx lkPx ekPy fkPy lkPy ekW fkW lkW ekXx fkXx lkXx ekXy fkXy lkXy ekG fkG lkG
  replace hb := b_step hb hE
  replace kPx := kPx.b hE
  replace kPy := kPy.b hE
  replace kW := kW.b hE
  replace hXx := hXx.b hE
  replace kXx := kXx.b hE
  replace hXy := hXy.b hE
  replace kXy := kXy.b hE
  replace kG := kG.b hE
  have zW16 := (hE).size
  clear hE
  obtain ⟨ekPx, fkPx, lkPx⟩ := kPx.cells
  obtain ⟨ekPy, fkPy, lkPy⟩ := kPy.cells
  obtain ⟨ekW, fkW, lkW⟩ := kW.cells
  obtain ⟨ekXx, fkXx, lkXx⟩ := kXx.cells
  obtain ⟨ekXy, fkXy, lkXy⟩ := kXy.cells
  obtain ⟨ekG, fkG, lkG⟩ := kG.cells
  go_wp2_with fail
  refine wp_name (fun W => Below W16.heap.size W16 W) (by repeat' (first | with_reducible exact Below.refl _ _ | with_reducible assumption | with_reducible refine b_alloc ?_ _ | with_reducible refine b_drewN ?_ _ | with_reducible refine b_drew ?_ | with_reducible refine b_set ?_ (by first | (simp only [World.size_setCell, World.size_alloc, World.size_drew]; omega) | (simp; done) | (simp; omega)) _ | with_reducible refine b_step ?_ (by with_reducible assumption))) ?_
  intro W17 hE
  clear ekPx fkPx lkPx ekPy fkPy lkPy ekW fkW lkW ekXx fkXx lkXx ekXy fkXy lkXy ekG fkG lkG
  replace hb := b_step hb hE
  replace kPx := kPx.b hE
  replace kPy := kPy.b hE
  replace kW := kW.b hE
  replace hXx := hXx.b hE
  replace kXx := kXx.b hE
  replace hXy := hXy.b hE
  replace kXy := kXy.b hE
  replace kG := kG.b hE
  have zW17 := (hE).size
  clear hE
  obtain ⟨ekPx, fkPx, lkPx⟩ := kPx.cells
  obtain ⟨ekPy, fkPy, lkPy⟩ := kPy.cells
  obtain ⟨ekW, fkW, lkW⟩ := kW.cells
  obtain ⟨ekXx, fkXx, lkXx⟩ := kXx.cells
  obtain ⟨ekXy, fkXy, lkXy⟩ := kXy.cells
  obtain ⟨ekG, fkG, lkG⟩ := kG.cells
  refine rel_b [(2, fun v W => ∃ A9 c9, v = .agg #[.string sy, .slice A9 y.length c9] ∧ Own boxC 6 48 116 W (.slice A9 y.length c9) y), (3, fun v _ => v = .bool true)] (by kernel_rfl) (by kernel_rfl) ?_
  ((apply rel_plain (hR := rfl) (hF := fun _ => trivial) (hg := rfl)); (focus ((intro w' hL'); (obtain ⟨hcS, hfS, hlS⟩ := bcell hL'); (try simp only [World.size_setCell, World.size_alloc, World.size_drew] at hcS hfS hlS); (go_simp); (try go_bits); (try (first | (rw [if_pos (by omega)]; done) | (rw [if_neg (by omega)]; done) | (rw [if_pos (by omega)]; go_simp) | (rw [if_neg (by omega)]; go_simp))); (first | with_reducible rfl | exact rfl | skip))); (simp only [Act.put, List.setIfInBounds_toArray, List.set_cons_zero, List.set_cons_succ]))
  ((apply rel_plain (hR := rfl) (hF := fun _ => trivial) (hg := rfl)); (focus ((intro w' hL'); (obtain ⟨hcS, hfS, hlS⟩ := bcell hL'); (try simp only [World.size_setCell, World.size_alloc, World.size_drew] at hcS hfS hlS); (go_simp); (try go_bits); (try (first | (rw [if_pos (by omega)]; done) | (rw [if_neg (by omega)]; done) | (rw [if_pos (by omega)]; go_simp) | (rw [if_neg (by omega)]; go_simp))); (first | with_reducible rfl | exact rfl | skip))); (simp only [Act.put, List.setIfInBounds_toArray, List.set_cons_zero, List.set_cons_succ]))
  ((apply rel_told (hR := rfl) (hg := rfl)); (focus ((intro w' hL' hD'); (obtain ⟨hcS, hfS, hlS⟩ := bcell hL'); (try simp only [World.size_setCell, World.size_alloc, World.size_drew] at hcS hfS hlS); (go_simp); (try go_bits); (try (first | (rw [if_pos (by omega)]; done) | (rw [if_neg (by omega)]; done) | (rw [if_pos (by omega)]; go_simp) | (rw [if_neg (by omega)]; go_simp))); ((go_at_call 22); (refine (toProbeTube_c sy y Ay cy _ (hy.mono (b_step hb hL'))).mono ?_); (intro e w'' hM); (obtain ⟨A2, c2, rfl, hO2, -, hB⟩ := hM); (refine ⟨_, rfl, hB, ?_⟩); ((repeat (first | (refine Tell.hit rfl ?_) | (refine Tell.skip rfl ?_))); exact ⟨A2, c2, rfl, hO2⟩)))); (intro v' w0' hv'); (replace hv' := Tell.out hv' rfl); (obtain ⟨A2y, c2y, rfl, -⟩ := hv'); (simp only [Act.put, List.setIfInBounds_toArray, List.set_cons_zero, List.set_cons_succ]))
  ((apply rel_told (hR := rfl) (hg := rfl)); (focus ((intro w' hL' hD'); (obtain ⟨hcS, hfS, hlS⟩ := bcell hL'); (try simp only [World.size_setCell, World.size_alloc, World.size_drew] at hcS hfS hlS); (go_simp); (try go_bits); (try (first | (rw [if_pos (by omega)]; done) | (rw [if_neg (by omega)]; done) | (rw [if_pos (by omega)]; go_simp) | (rw [if_neg (by omega)]; go_simp))); ((obtain ⟨w8, hl8, A8, c8, e8, hO8⟩ := Known.out (hD' ⟨2, .data⟩ (by simp) rfl) rfl); (simp at e8; obtain ⟨rfl, rfl⟩ := e8); (replace hO8 := hO8.b hl8); ((go_at_call 25); (refine (eqProbeTube_c sy y _ _ _ _ _ ((hXy.b hL').rd_at' boxE) (hO8.rd_at' boxE)).mono ?_); (rintro e w'' ⟨rfl, hb''⟩); (refine ⟨_, rfl, ?_, ?_⟩); (focus (first | exact hb'' | (subst hb''; exact Le.refl _))); ((repeat (first | (refine Tell.hit rfl ?_) | (refine Tell.skip rfl ?_))); exact rfl))))); (intro v' w0' hv'); (replace hv' := Tell.out hv' rfl); (obtain rfl := hv'); (simp only [Act.put, List.setIfInBounds_toArray, List.set_cons_zero, List.set_cons_succ]))
  ((apply rel_plain (hR := rfl) (hF := fun _ => trivial) (hg := rfl)); (focus ((intro w' hL'); (obtain ⟨hcS, hfS, hlS⟩ := bcell hL'); (try simp only [World.size_setCell, World.size_alloc, World.size_drew] at hcS hfS hlS); (go_simp); (try go_bits); (try (first | (rw [if_pos (by omega)]; done) | (rw [if_neg (by omega)]; done) | (rw [if_pos (by omega)]; go_simp) | (rw [if_neg (by omega)]; go_simp))); (first | with_reducible rfl | exact rfl | skip))); (simp only [Act.put, List.setIfInBounds_toArray, List.set_cons_zero, List.set_cons_succ]))
  refine rel_nil ?_
  intro W18 hE hF9
  clear hF9
  clear ekPx fkPx lkPx ekPy fkPy lkPy ekW fkW lkW ekXx fkXx lkXx ekXy fkXy lkXy ekG fkG lkG
  replace hb := b_step hb hE
  replace kPx := kPx.b hE
  replace kPy := kPy.b hE
  replace kW := kW.b hE
  replace hXx := hXx.b hE
  replace kXx := kXx.b hE
  replace hXy := hXy.b hE
  replace kXy := kXy.b hE
  replace kG := kG.b hE
  have zW18 := (hE).size
  clear hE
  obtain ⟨ekPx, fkPx, lkPx⟩ := kPx.cells
  obtain ⟨ekPy, fkPy, lkPy⟩ := kPy.cells
  obtain ⟨ekW, fkW, lkW⟩ := kW.cells
  obtain ⟨ekXx, fkXx, lkXx⟩ := kXx.cells
  obtain ⟨ekXy, fkXy, lkXy⟩ := kXy.cells
  obtain ⟨ekG, fkG, lkG⟩ := kG.cells
  go_wp2_with fail
  go_ret
  exact ⟨rfl, (by repeat' (first | with_reducible exact Below.refl _ _ | with_reducible assumption | with_reducible refine b_alloc ?_ _ | with_reducible refine b_drewN ?_ _ | with_reducible refine b_drew ?_ | with_reducible refine b_set ?_ (by first | (simp only [World.size_setCell, World.size_alloc, World.size_drew]; omega) | (simp; done) | (simp; omega)) _ | with_reducible refine b_step ?_ (by with_reducible assumption)))⟩
end Go.Proofs.Ytoakjmdjkhhfbaa
