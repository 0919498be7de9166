/- Exact laws, walked. -/
import Derived.Test.YtkpnjnkfbhomgaaB8
import Derived.Test.YtkpnjnkfbhomgaaJF
set_option linter.unusedVariables false
set_option linter.unusedSimpArgs false
namespace Go.Proofs.Ytkpnjnkfbhomgaa
open Go.RowKit
attribute [local go_sem] w_lt_add w_le_of w_le_add max2_i min2_i
set_option maxRecDepth 100000 in
set_option maxHeartbeats 4000000 in
theorem FnExactLinkAgain_c (lx : Int) (ux : List LL.He) (Ax : Option Addr) (cx : Nat) (n : ByteArray) (w : World) (hx : RdHS w Ax ux.length cx ux) (hzx : ∀ k, k < ux.length → (LL.nthH ux k).name.size ≤ 9223372036854775807) (hsn : n.size ≤ 9223372036854775807) : Calls Try.prog 5 #[.agg #[.int .i64 lx, .slice Ax ux.length cx], .string n] w fun e w' => e = .returned (.bool true) ∧ Below w.heap.size w w' := by
  have hrx : ux.length * 144 ≤ 140737488351232 := hx.row.room
  by_cases hLn : 1048576 < n.size
  · have hL1 : decide ((1048576 : Int) < (n.size : Int)) = true := by simp; omega
    go_enter Try.func5, Try.ntmps5
    go_wp2_with fail
    go_ret
    exact ⟨rfl, (by repeat' (first | with_reducible exact Below.refl _ _ | with_reducible assumption | with_reducible refine b_alloc ?_ _ | with_reducible refine b_drewN ?_ _ | with_reducible refine b_drew ?_ | with_reducible refine b_set ?_ (by first | (simp only [World.size_setCell, World.size_alloc, World.size_drew]; omega) | (simp; done) | (simp; omega)) _ | with_reducible refine b_step ?_ (by with_reducible assumption)))⟩
  have hL1n : decide ((1048576 : Int) < (n.size : Int)) = false := by simp; omega
  have hL2n : (n.size : Int) ≤ 1048576 := by omega
  clear hLn
  go_enter Try.func5, Try.ntmps5
  go_wp2_with fail
  refine calls_name (fun W => Below w.heap.size w W ∧ Blk W w.heap.size #[.int .i64 lx, .slice Ax ux.length cx] 31) ⟨(by repeat' (first | with_reducible exact Below.refl _ _ | with_reducible assumption | with_reducible refine b_alloc ?_ _ | with_reducible refine b_drewN ?_ _ | with_reducible refine b_drew ?_ | with_reducible refine b_set ?_ (by first | (simp only [World.size_setCell, World.size_alloc, World.size_drew]; omega) | (simp; done) | (simp; omega)) _ | with_reducible refine b_step ?_ (by with_reducible assumption))), (by repeat' (first | with_reducible assumption | with_reducible exact Blk.new _ _ _ | with_reducible exact Blk.new' _ _ (by first | (simp only [World.size_alloc, World.size_setCell, World.size_drew]; done) | (simp only [World.size_alloc, World.size_setCell, World.size_drew]; omega) | omega) | with_reducible refine Blk.a ?_ _ | with_reducible refine Blk.d ?_ | with_reducible refine Blk.dN ?_ _ | with_reducible refine Blk.s ?_ (by simp only [ne_eq]; omega) _ | with_reducible refine Blk.b ?_ (by with_reducible assumption)))⟩ ?_
  rintro W1 ⟨hE, kPx⟩
  have hb : Below w.heap.size w W1 := hE
  have zW1 := (hE).size
  clear hE
  have kPxl := kPx.cells.2.2
  refine (szBook_c lx ux 1048576 Ax cx _ (by decide) (by decide) (hx.mono hb) hzx).mono ?_
  rintro e W2 ⟨⟨qx, rfl, q1x, q2x⟩, hB⟩
  replace hb := b_step hb hB
  replace kPx := kPx.b hB
  have zW2 := (hB).size
  clear hB
  by_cases hsx : qx < 0
  · go_wp2_with fail
    go_ret
    exact ⟨rfl, (by repeat' (first | with_reducible exact Below.refl _ _ | with_reducible assumption | with_reducible refine b_alloc ?_ _ | with_reducible refine b_drewN ?_ _ | with_reducible refine b_drew ?_ | with_reducible refine b_set ?_ (by first | (simp only [World.size_setCell, World.size_alloc, World.size_drew]; omega) | (simp; done) | (simp; omega)) _ | with_reducible refine b_step ?_ (by with_reducible assumption)))⟩
  have hs1x : decide (qx < 0) = false := by simpa using hsx
  have hs3x : 0 ≤ qx := by omega
  clear hsx
  have hwx := q2x hs3x; rw [LL.wtHeS_all] at hwx
  have hnnx := LL.wtD_nonneg (ux.map LL.He.m)
  clear q2x
  have hlr := LL.againW_len (ux.map LL.He.m) n
  obtain ⟨ekPx, fkPx, lkPx⟩ := kPx.cells
  go_wp2_with fail
  refine calls_name (fun W => Below W2.heap.size W2 W) (by repeat' (first | with_reducible exact Below.refl _ _ | with_reducible assumption | with_reducible refine b_alloc ?_ _ | with_reducible refine b_drewN ?_ _ | with_reducible refine b_drew ?_ | with_reducible refine b_set ?_ (by first | (simp only [World.size_setCell, World.size_alloc, World.size_drew]; omega) | (simp; done) | (simp; omega)) _ | with_reducible refine b_step ?_ (by with_reducible assumption))) ?_
  intro W3 hE
  clear ekPx fkPx lkPx
  replace hb := b_step hb hE
  replace kPx := kPx.b hE
  have zW3 := (hE).size
  clear hE
  refine (toBook_c lx ux Ax cx _ (hx.mono hb).r).mono ?_
  intro e W4 hM
  obtain ⟨vx1, Ax1, cx1, rfl, hOx1, hOx1g, hB⟩ := hM.go
  replace hb := b_step hb hB
  replace kPx := kPx.b hB
  have zW4 := (hB).size
  clear hB
  have hOx1l := hOx1.lt
  have hOx1e := hOx1.e
  obtain ⟨ekPx, fkPx, lkPx⟩ := kPx.cells
  go_wp2_with fail
  refine calls_name (fun W => Below W4.heap.size W4 W) (by repeat' (first | with_reducible exact Below.refl _ _ | with_reducible assumption | with_reducible refine b_alloc ?_ _ | with_reducible refine b_drewN ?_ _ | with_reducible refine b_drew ?_ | with_reducible refine b_set ?_ (by first | (simp only [World.size_setCell, World.size_alloc, World.size_drew]; omega) | (simp; done) | (simp; omega)) _ | with_reducible refine b_step ?_ (by with_reducible assumption))) ?_
  intro W5 hE
  clear ekPx fkPx lkPx
  replace hb := b_step hb hE
  replace kPx := kPx.b hE
  replace hOx1 := hOx1.b hE
  have zW5 := (hE).size
  clear hE
  refine (spec_LinkAgain_c lx vx1 _ n Ax1 cx1 _ hOx1.o.rd hOx1.e).mono ?_
  intro e W6 hM
  obtain ⟨Aw, cw, rfl, hW, hWg, hB⟩ := hM
  replace hb := b_step hb hB
  replace kPx := kPx.b hB
  replace hOx1 := hOx1.b hB
  have zW6 := (hB).size
  clear hB
  have hWl := fun k hk => (hW.row.lt k hk).2
  obtain ⟨ekPx, fkPx, lkPx⟩ := kPx.cells
  go_wp2_with fail
  refine calls_name (fun W => Below W6.heap.size W6 W ∧ Blk W W6.heap.size #[.int .i64 (LL.againW (ux.map LL.He.m) n).kind, .string (LL.againW (ux.map LL.He.m) n).name, .int .i64 (LL.againW (ux.map LL.He.m) n).number, .int .i64 (LL.againW (ux.map LL.He.m) n).path.q, .int .i64 (LL.againW (ux.map LL.He.m) n).path.s, .slice Aw (LL.againW (ux.map LL.He.m) n).path.steps.length cw, .int .i64 (LL.againW (ux.map LL.He.m) n).path.fr, .int .i64 (LL.againW (ux.map LL.He.m) n).path.by_] 46) ⟨(by repeat' (first | with_reducible exact Below.refl _ _ | with_reducible assumption | with_reducible refine b_alloc ?_ _ | with_reducible refine b_drewN ?_ _ | with_reducible refine b_drew ?_ | with_reducible refine b_set ?_ (by first | (simp only [World.size_setCell, World.size_alloc, World.size_drew]; omega) | (simp; done) | (simp; omega)) _ | with_reducible refine b_step ?_ (by with_reducible assumption))), Blk.new _ _ _⟩ ?_
  rintro W7 ⟨hE, kW0⟩
  clear ekPx fkPx lkPx
  replace hb := b_step hb hE
  replace kPx := kPx.b hE
  replace hOx1 := hOx1.b hE
  replace hW := hW.b hE
  have zW7 := (hE).size
  clear hE
  have kW0l := kW0.cells.2.2
  refine (toBook_c lx ux Ax cx _ (hx.mono hb).r).mono ?_
  intro e W8 hM
  obtain ⟨vxx, Axx, cxx, rfl, hXx, hXxg, hB⟩ := hM.go
  replace hb := b_step hb hB
  replace kPx := kPx.b hB
  replace hOx1 := hOx1.b hB
  replace hW := hW.b hB
  replace kW0 := kW0.b hB
  have zW8 := (hB).size
  clear hB
  have hXxl := hXx.lt
  have hXxe := hXx.e
  obtain ⟨ekPx, fkPx, lkPx⟩ := kPx.cells
  obtain ⟨ekW0, fkW0, lkW0⟩ := kW0.cells
  go_wp2_with fail
  refine calls_name (fun W => Below W8.heap.size W8 W ∧ Blk W W8.heap.size #[.int .i64 lx, .slice Axx vxx.length cxx] 36) ⟨(by repeat' (first | with_reducible exact Below.refl _ _ | with_reducible assumption | with_reducible refine b_alloc ?_ _ | with_reducible refine b_drewN ?_ _ | with_reducible refine b_drew ?_ | with_reducible refine b_set ?_ (by first | (simp only [World.size_setCell, World.size_alloc, World.size_drew]; omega) | (simp; done) | (simp; omega)) _ | with_reducible refine b_step ?_ (by with_reducible assumption))), Blk.new _ _ _⟩ ?_
  rintro W9 ⟨hE, kXx⟩
  clear ekPx fkPx lkPx ekW0 fkW0 lkW0
  replace hb := b_step hb hE
  replace kPx := kPx.b hE
  replace hOx1 := hOx1.b hE
  replace hW := hW.b hE
  replace kW0 := kW0.b hE
  replace hXx := hXx.b hE
  have zW9 := (hE).size
  clear hE
  have kXxl := kXx.cells.2.2
  refine (impl_LinkAgain_c lx vxx _ n Axx cxx _ hXx.o.rd hXx.e).mono ?_
  intro e W10 hM
  obtain ⟨Ag, cg, rfl, hG, hGg, hB⟩ := hM
  replace hb := b_step hb hB
  replace kPx := kPx.b hB
  replace hOx1 := hOx1.b hB
  replace hW := hW.b hB
  replace kW0 := kW0.b hB
  replace hXx := hXx.b hB
  replace kXx := kXx.b hB
  have zW10 := (hB).size
  clear hB
  have hGl := fun k hk => (hG.row.lt k hk).2
  obtain ⟨ekPx, fkPx, lkPx⟩ := kPx.cells
  obtain ⟨ekW0, fkW0, lkW0⟩ := kW0.cells
  obtain ⟨ekXx, fkXx, lkXx⟩ := kXx.cells
  go_wp2_with fail
  refine calls_name (fun W => Below W10.heap.size W10 W ∧ Blk W W10.heap.size #[.int .i64 (LL.againW (ux.map LL.He.m) n).kind, .string (LL.againW (ux.map LL.He.m) n).name, .int .i64 (LL.againW (ux.map LL.He.m) n).number, .int .i64 (LL.againW (ux.map LL.He.m) n).path.q, .int .i64 (LL.againW (ux.map LL.He.m) n).path.s, .slice Ag (LL.againW (ux.map LL.He.m) n).path.steps.length cg, .int .i64 (LL.againW (ux.map LL.He.m) n).path.fr, .int .i64 (LL.againW (ux.map LL.He.m) n).path.by_] 46) ⟨(by repeat' (first | with_reducible exact Below.refl _ _ | with_reducible assumption | with_reducible refine b_alloc ?_ _ | with_reducible refine b_drewN ?_ _ | with_reducible refine b_drew ?_ | with_reducible refine b_set ?_ (by first | (simp only [World.size_setCell, World.size_alloc, World.size_drew]; omega) | (simp; done) | (simp; omega)) _ | with_reducible refine b_step ?_ (by with_reducible assumption))), Blk.new _ _ _⟩ ?_
  rintro W11 ⟨hE, kG0⟩
  clear ekPx fkPx lkPx ekW0 fkW0 lkW0 ekXx fkXx lkXx
  replace hb := b_step hb hE
  replace kPx := kPx.b hE
  replace hOx1 := hOx1.b hE
  replace hW := hW.b hE
  replace kW0 := kW0.b hE
  replace hXx := hXx.b hE
  replace kXx := kXx.b hE
  replace hG := hG.b hE
  have zW11 := (hE).size
  clear hE
  have kG0l := kG0.cells.2.2
  refine (eqLinkWord_c (LL.againW (ux.map LL.He.m) n) _ _ _ _ _ (hG.rd_at' stepE) (hW.rd_at' stepE)).mono ?_
  rintro e W12 ⟨rfl, hB⟩
  replace hb := b_step hb hB
  replace kPx := kPx.b hB
  replace hOx1 := hOx1.b hB
  replace hW := hW.b hB
  replace kW0 := kW0.b hB
  replace hXx := hXx.b hB
  replace kXx := kXx.b hB
  replace hG := hG.b hB
  replace kG0 := kG0.b hB
  have zW12 := (hB).size
  clear hB
  obtain ⟨ekPx, fkPx, lkPx⟩ := kPx.cells
  obtain ⟨ekW0, fkW0, lkW0⟩ := kW0.cells
  obtain ⟨ekXx, fkXx, lkXx⟩ := kXx.cells
  obtain ⟨ekG0, fkG0, lkG0⟩ := kG0.cells
  go_wp2_with fail
  refine wp_name (fun W => Below W12.heap.size W12 W) (by repeat' (first | with_reducible exact Below.refl _ _ | with_reducible assumption | with_reducible refine b_alloc ?_ _ | with_reducible refine b_drewN ?_ _ | with_reducible refine b_drew ?_ | with_reducible refine b_set ?_ (by first | (simp only [World.size_setCell, World.size_alloc, World.size_drew]; omega) | (simp; done) | (simp; omega)) _ | with_reducible refine b_step ?_ (by with_reducible assumption))) ?_
  intro W13 hE
  clear ekPx fkPx lkPx ekW0 fkW0 lkW0 ekXx fkXx lkXx ekG0 fkG0 lkG0
  replace hb := b_step hb hE
  replace kPx := kPx.b hE
  replace hOx1 := hOx1.b hE
  replace hW := hW.b hE
  replace kW0 := kW0.b hE
  replace hXx := hXx.b hE
  replace kXx := kXx.b hE
  replace hG := hG.b hE
  replace kG0 := kG0.b hE
  have zW13 := (hE).size
  clear hE
  obtain ⟨ekPx, fkPx, lkPx⟩ := kPx.cells
  obtain ⟨ekW0, fkW0, lkW0⟩ := kW0.cells
  obtain ⟨ekXx, fkXx, lkXx⟩ := kXx.cells
  obtain ⟨ekG0, fkG0, lkG0⟩ := kG0.cells
  refine rel_b [(2, fun v W => ∃ v9 A9 c9, v = .agg #[.int .i64 lx, .slice A9 v9.length c9] ∧ OwnB W (ux.map LL.He.m) v9 A9 c9), (3, fun v _ => v = .bool true)] (by kernel_rfl) (by kernel_rfl) ?_
  ((apply rel_plain (hR := rfl) (hF := fun _ => trivial) (hg := rfl)); (focus ((intro w' hL'); (obtain ⟨hcS, hfS, hlS⟩ := bcell hL'); (try simp only [World.size_setCell, World.size_alloc, World.size_drew] at hcS hfS hlS); (go_simp); (try go_bits); (try (first | (rw [if_pos (by omega)]; done) | (rw [if_neg (by omega)]; done) | (rw [if_pos (by omega)]; go_simp) | (rw [if_neg (by omega)]; go_simp))); (first | with_reducible rfl | exact rfl | skip))); (simp only [Act.put, List.setIfInBounds_toArray, List.set_cons_zero, List.set_cons_succ]))
  ((apply rel_plain (hR := rfl) (hF := fun _ => trivial) (hg := rfl)); (focus ((intro w' hL'); (obtain ⟨hcS, hfS, hlS⟩ := bcell hL'); (try simp only [World.size_setCell, World.size_alloc, World.size_drew] at hcS hfS hlS); (go_simp); (try go_bits); (try (first | (rw [if_pos (by omega)]; done) | (rw [if_neg (by omega)]; done) | (rw [if_pos (by omega)]; go_simp) | (rw [if_neg (by omega)]; go_simp))); (first | with_reducible rfl | exact rfl | skip))); (simp only [Act.put, List.setIfInBounds_toArray, List.set_cons_zero, List.set_cons_succ]))
  ((apply rel_told (hR := rfl) (hg := rfl)); (focus ((intro w' hL' hD'); (obtain ⟨hcS, hfS, hlS⟩ := bcell hL'); (try simp only [World.size_setCell, World.size_alloc, World.size_drew] at hcS hfS hlS); (go_simp); (try go_bits); (try (first | (rw [if_pos (by omega)]; done) | (rw [if_neg (by omega)]; done) | (rw [if_pos (by omega)]; go_simp) | (rw [if_neg (by omega)]; go_simp))); ((go_at_call 18); (refine (toBook_c lx ux Ax cx _ (hx.mono (b_step hb hL')).r).mono ?_); (intro e w'' hM); (obtain ⟨v2, A2, c2, rfl, hO2, hO2g, hB⟩ := hM.go); (refine ⟨_, rfl, hB, ?_⟩); ((repeat (first | (refine Tell.hit rfl ?_) | (refine Tell.skip rfl ?_))); exact ⟨v2, A2, c2, rfl, hO2⟩)))); (intro v' w0' hv'); (replace hv' := Tell.out hv' rfl); (obtain ⟨v2x, A2x, c2x, rfl, -⟩ := hv'); (simp only [Act.put, List.setIfInBounds_toArray, List.set_cons_zero, List.set_cons_succ]))
  ((apply rel_told (hR := rfl) (hg := rfl)); (focus ((intro w' hL' hD'); (obtain ⟨hcS, hfS, hlS⟩ := bcell hL'); (try simp only [World.size_setCell, World.size_alloc, World.size_drew] at hcS hfS hlS); (go_simp); (try go_bits); (try (first | (rw [if_pos (by omega)]; done) | (rw [if_neg (by omega)]; done) | (rw [if_pos (by omega)]; go_simp) | (rw [if_neg (by omega)]; go_simp))); ((obtain ⟨w8, hl8, v8, A8, c8, e8, hO8⟩ := Known.out (hD' ⟨2, .data⟩ (by simp) rfl) rfl); (simp at e8; obtain ⟨rfl, e8l, rfl⟩ := e8; rw [e8l]); (replace hO8 := hO8.b hl8); ((go_at_call 20); (refine (eqBk_c lx (ux.map LL.He.m) _ _ _ _ _ _ _ (hXx.b hL') hO8).mono ?_); (rintro e w'' ⟨rfl, hb''⟩); (refine ⟨_, rfl, ?_, ?_⟩); (focus (first | exact hb'' | (subst hb''; exact Le.refl _))); ((repeat (first | (refine Tell.hit rfl ?_) | (refine Tell.skip rfl ?_))); exact rfl))))); (intro v' w0' hv'); (replace hv' := Tell.out hv' rfl); (obtain rfl := hv'); (simp only [Act.put, List.setIfInBounds_toArray, List.set_cons_zero, List.set_cons_succ]))
  ((apply rel_plain (hR := rfl) (hF := fun _ => trivial) (hg := rfl)); (focus ((intro w' hL'); (obtain ⟨hcS, hfS, hlS⟩ := bcell hL'); (try simp only [World.size_setCell, World.size_alloc, World.size_drew] at hcS hfS hlS); (go_simp); (try go_bits); (try (first | (rw [if_pos (by omega)]; done) | (rw [if_neg (by omega)]; done) | (rw [if_pos (by omega)]; go_simp) | (rw [if_neg (by omega)]; go_simp))); (first | with_reducible rfl | exact rfl | skip))); (simp only [Act.put, List.setIfInBounds_toArray, List.set_cons_zero, List.set_cons_succ]))
  refine rel_nil ?_
  intro W14 hE hF9
  clear hF9
  clear ekPx fkPx lkPx ekW0 fkW0 lkW0 ekXx fkXx lkXx ekG0 fkG0 lkG0
  replace hb := b_step hb hE
  replace kPx := kPx.b hE
  replace hOx1 := hOx1.b hE
  replace hW := hW.b hE
  replace kW0 := kW0.b hE
  replace hXx := hXx.b hE
  replace kXx := kXx.b hE
  replace hG := hG.b hE
  replace kG0 := kG0.b hE
  have zW14 := (hE).size
  clear hE
  obtain ⟨ekPx, fkPx, lkPx⟩ := kPx.cells
  obtain ⟨ekW0, fkW0, lkW0⟩ := kW0.cells
  obtain ⟨ekXx, fkXx, lkXx⟩ := kXx.cells
  obtain ⟨ekG0, fkG0, lkG0⟩ := kG0.cells
  go_wp2_with fail
  refine calls_name (fun W => Below W14.heap.size W14 W) (by repeat' (first | with_reducible exact Below.refl _ _ | with_reducible assumption | with_reducible refine b_alloc ?_ _ | with_reducible refine b_drewN ?_ _ | with_reducible refine b_drew ?_ | with_reducible refine b_set ?_ (by first | (simp only [World.size_setCell, World.size_alloc, World.size_drew]; omega) | (simp; done) | (simp; omega)) _ | with_reducible refine b_step ?_ (by with_reducible assumption))) ?_
  intro W15 hE
  clear ekPx fkPx lkPx ekW0 fkW0 lkW0 ekXx fkXx lkXx ekG0 fkG0 lkG0
  replace hb := b_step hb hE
  replace kPx := kPx.b hE
  replace hOx1 := hOx1.b hE
  replace hW := hW.b hE
  replace kW0 := kW0.b hE
  replace hXx := hXx.b hE
  replace kXx := kXx.b hE
  replace hG := hG.b hE
  replace kG0 := kG0.b hE
  have zW15 := (hE).size
  clear hE
  refine (markLinkBook_c lx vxx Axx cxx _ (by omega) (by have := (LL.kAt_book hXxe (1)).2; (try simp only [List.length_map] at this); omega) _ hXx.o).mono ?_
  rintro e W16 ⟨rfl, hXxm, hg⟩
  replace kPx := kPx.gS hg (fun h2 => by have h5 := hXxl _ h2; have h6 := hXxg _ h2; have h7 := kPxl; omega)
  replace hOx1 := hOx1.gS hg (fun k h1 h2 => by have h3 := hOx1l k h1; have h4 := hOx1g k h1; have h5 := hXxl k h2; have h6 := hXxg k h2; omega)
  replace hW := hW.gS hg (fun k h1 h2 => by have h3 := hWl k h1; have h4 := hWg k h1; have h5 := hXxl k h2; have h6 := hXxg k h2; omega)
  replace kW0 := kW0.gS hg (fun h2 => by have h5 := hXxl _ h2; have h6 := hXxg _ h2; have h7 := kW0l; omega)
  replace kXx := kXx.gS hg (fun h2 => by have h5 := hXxl _ h2; have h6 := hXxg _ h2; have h7 := kXxl; omega)
  replace hG := hG.gS hg (fun k h1 h2 => by have h3 := hGl k h1; have h4 := hGg k h1; have h5 := hXxl k h2; have h6 := hXxg k h2; omega)
  replace kG0 := kG0.gS hg (fun h2 => by have h5 := hXxl _ h2; have h6 := hXxg _ h2; have h7 := kG0l; omega)
  replace hb := b_gS hb hg hb.size (fun k hk => by have := hXxg k hk; omega)
  have zW16 := hg.size
  clear hXx hg
  have hkbhXx := LL.kAt_book hXxe (1)
  have hkchXx : decide (LL.kAtHe vxx (1) vxx.length < 0) = false := by simp; omega
  clear hXxm
  obtain ⟨ekPx, fkPx, lkPx⟩ := kPx.cells
  obtain ⟨ekW0, fkW0, lkW0⟩ := kW0.cells
  obtain ⟨ekXx, fkXx, lkXx⟩ := kXx.cells
  obtain ⟨ekG0, fkG0, lkG0⟩ := kG0.cells
  go_wp2_with fail
  refine calls_name (fun W => Below W16.heap.size W16 W) (by repeat' (first | with_reducible exact Below.refl _ _ | with_reducible assumption | with_reducible refine b_alloc ?_ _ | with_reducible refine b_drewN ?_ _ | with_reducible refine b_drew ?_ | with_reducible refine b_set ?_ (by first | (simp only [World.size_setCell, World.size_alloc, World.size_drew]; omega) | (simp; done) | (simp; omega)) _ | with_reducible refine b_step ?_ (by with_reducible assumption))) ?_
  intro W17 hE
  clear ekPx fkPx lkPx ekW0 fkW0 lkW0 ekXx fkXx lkXx ekG0 fkG0 lkG0
  replace hb := b_step hb hE
  replace kPx := kPx.b hE
  replace hOx1 := hOx1.b hE
  replace hW := hW.b hE
  replace kW0 := kW0.b hE
  replace kXx := kXx.b hE
  replace hG := hG.b hE
  replace kG0 := kG0.b hE
  have zW17 := (hE).size
  clear hE
  refine (eqLinkWord_c (LL.againW (ux.map LL.He.m) n) _ _ _ _ _ (hG.rd_at' stepE) (hW.rd_at' stepE)).mono ?_
  rintro e W18 ⟨rfl, hB⟩
  replace hb := b_step hb hB
  replace kPx := kPx.b hB
  replace hOx1 := hOx1.b hB
  replace hW := hW.b hB
  replace kW0 := kW0.b hB
  replace kXx := kXx.b hB
  replace hG := hG.b hB
  replace kG0 := kG0.b hB
  have zW18 := (hB).size
  clear hB
  obtain ⟨ekPx, fkPx, lkPx⟩ := kPx.cells
  obtain ⟨ekW0, fkW0, lkW0⟩ := kW0.cells
  obtain ⟨ekXx, fkXx, lkXx⟩ := kXx.cells
  obtain ⟨ekG0, fkG0, lkG0⟩ := kG0.cells
  go_wp2_with fail
  refine calls_name (fun W => Below W18.heap.size W18 W) (by repeat' (first | with_reducible exact Below.refl _ _ | with_reducible assumption | with_reducible refine b_alloc ?_ _ | with_reducible refine b_drewN ?_ _ | with_reducible refine b_drew ?_ | with_reducible refine b_set ?_ (by first | (simp only [World.size_setCell, World.size_alloc, World.size_drew]; omega) | (simp; done) | (simp; omega)) _ | with_reducible refine b_step ?_ (by with_reducible assumption))) ?_
  intro W19 hE
  clear ekPx fkPx lkPx ekW0 fkW0 lkW0 ekXx fkXx lkXx ekG0 fkG0 lkG0
  replace hb := b_step hb hE
  replace kPx := kPx.b hE
  replace hOx1 := hOx1.b hE
  replace hW := hW.b hE
  replace kW0 := kW0.b hE
  replace kXx := kXx.b hE
  replace hG := hG.b hE
  replace kG0 := kG0.b hE
  have zW19 := (hE).size
  clear hE
  refine (markLinkWord_c (LL.againW (ux.map LL.He.m) n) Ag cg _ (by omega) (by omega) _ hG).mono ?_
  rintro e W20 ⟨rfl, hGm, hg⟩
  replace hg := GrownS.of hg
  replace kPx := kPx.gS hg (fun h2 => by have h5 := hGl _ h2; have h6 := hGg _ h2; have h7 := kPxl; omega)
  replace hOx1 := hOx1.gS hg (fun k h1 h2 => by have h3 := hOx1l k h1; have h4 := hOx1g k h1; have h5 := hGl k h2; have h6 := hGg k h2; omega)
  replace hW := hW.gS hg (fun k h1 h2 => by have h3 := hWl k h1; have h4 := hWg k h1; have h5 := hGl k h2; have h6 := hGg k h2; omega)
  replace kW0 := kW0.gS hg (fun h2 => by have h5 := hGl _ h2; have h6 := hGg _ h2; have h7 := kW0l; omega)
  replace kXx := kXx.gS hg (fun h2 => by have h5 := hGl _ h2; have h6 := hGg _ h2; have h7 := kXxl; omega)
  replace kG0 := kG0.gS hg (fun h2 => by have h5 := hGl _ h2; have h6 := hGg _ h2; have h7 := kG0l; omega)
  replace hb := b_gS hb hg hb.size (fun k hk => by have := hGg k hk; omega)
  have zW20 := hg.size
  clear hG hg
  obtain ⟨ekPx, fkPx, lkPx⟩ := kPx.cells
  obtain ⟨ekW0, fkW0, lkW0⟩ := kW0.cells
  obtain ⟨ekXx, fkXx, lkXx⟩ := kXx.cells
  obtain ⟨ekG0, fkG0, lkG0⟩ := kG0.cells
  go_wp2_with fail
  refine calls_name (fun W => Below W20.heap.size W20 W) (by repeat' (first | with_reducible exact Below.refl _ _ | with_reducible assumption | with_reducible refine b_alloc ?_ _ | with_reducible refine b_drewN ?_ _ | with_reducible refine b_drew ?_ | with_reducible refine b_set ?_ (by first | (simp only [World.size_setCell, World.size_alloc, World.size_drew]; omega) | (simp; done) | (simp; omega)) _ | with_reducible refine b_step ?_ (by with_reducible assumption))) ?_
  intro W21 hE
  clear ekPx fkPx lkPx ekW0 fkW0 lkW0 ekXx fkXx lkXx ekG0 fkG0 lkG0
  replace hb := b_step hb hE
  replace kPx := kPx.b hE
  replace hOx1 := hOx1.b hE
  replace hW := hW.b hE
  replace kW0 := kW0.b hE
  replace kXx := kXx.b hE
  replace kG0 := kG0.b hE
  replace hGm := hGm.b hE
  have zW21 := (hE).size
  clear hE
  refine (heldLinkWord_c (LL.againW (ux.map LL.He.m) n) Ag cg _ (by omega) (by omega) _ (hGm.rd_at' stepE)).mono ?_
  rintro e W22 ⟨rfl, hB⟩
  replace hb := b_step hb hB
  replace kPx := kPx.b hB
  replace hOx1 := hOx1.b hB
  replace hW := hW.b hB
  replace kW0 := kW0.b hB
  replace kXx := kXx.b hB
  replace kG0 := kG0.b hB
  replace hGm := hGm.b hB
  have zW22 := (hB).size
  clear hB
  obtain ⟨ekPx, fkPx, lkPx⟩ := kPx.cells
  obtain ⟨ekW0, fkW0, lkW0⟩ := kW0.cells
  obtain ⟨ekXx, fkXx, lkXx⟩ := kXx.cells
  obtain ⟨ekG0, fkG0, lkG0⟩ := kG0.cells
  go_wp2_with fail
  refine calls_name (fun W => Below W22.heap.size W22 W) (by repeat' (first | with_reducible exact Below.refl _ _ | with_reducible assumption | with_reducible refine b_alloc ?_ _ | with_reducible refine b_drewN ?_ _ | with_reducible refine b_drew ?_ | with_reducible refine b_set ?_ (by first | (simp only [World.size_setCell, World.size_alloc, World.size_drew]; omega) | (simp; done) | (simp; omega)) _ | with_reducible refine b_step ?_ (by with_reducible assumption))) ?_
  intro W23 hE
  clear ekPx fkPx lkPx ekW0 fkW0 lkW0 ekXx fkXx lkXx ekG0 fkG0 lkG0
  replace hb := b_step hb hE
  replace kPx := kPx.b hE
  replace hOx1 := hOx1.b hE
  replace hW := hW.b hE
  replace kW0 := kW0.b hE
  replace kXx := kXx.b hE
  replace kG0 := kG0.b hE
  replace hGm := hGm.b hE
  have zW23 := (hE).size
  clear hE
  refine (toBook_c lx ux Ax cx _ (hx.mono hb).r).mono ?_
  intro e W24 hM
  obtain ⟨vx2, Ax2, cx2, rfl, hOx2, hOx2g, hB⟩ := hM.go
  replace hb := b_step hb hB
  replace kPx := kPx.b hB
  replace hOx1 := hOx1.b hB
  replace hW := hW.b hB
  replace kW0 := kW0.b hB
  replace kXx := kXx.b hB
  replace kG0 := kG0.b hB
  replace hGm := hGm.b hB
  have zW24 := (hB).size
  clear hB
  have hOx2l := hOx2.lt
  have hOx2e := hOx2.e
  obtain ⟨ekPx, fkPx, lkPx⟩ := kPx.cells
  obtain ⟨ekW0, fkW0, lkW0⟩ := kW0.cells
  obtain ⟨ekXx, fkXx, lkXx⟩ := kXx.cells
  obtain ⟨ekG0, fkG0, lkG0⟩ := kG0.cells
  go_wp2_with fail
  refine calls_name (fun W => Below W24.heap.size W24 W) (by repeat' (first | with_reducible exact Below.refl _ _ | with_reducible assumption | with_reducible refine b_alloc ?_ _ | with_reducible refine b_drewN ?_ _ | with_reducible refine b_drew ?_ | with_reducible refine b_set ?_ (by first | (simp only [World.size_setCell, World.size_alloc, World.size_drew]; omega) | (simp; done) | (simp; omega)) _ | with_reducible refine b_step ?_ (by with_reducible assumption))) ?_
  intro W25 hE
  clear ekPx fkPx lkPx ekW0 fkW0 lkW0 ekXx fkXx lkXx ekG0 fkG0 lkG0
  replace hb := b_step hb hE
  replace kPx := kPx.b hE
  replace hOx1 := hOx1.b hE
  replace hW := hW.b hE
  replace kW0 := kW0.b hE
  replace kXx := kXx.b hE
  replace kG0 := kG0.b hE
  replace hGm := hGm.b hE
  replace hOx2 := hOx2.b hE
  have zW25 := (hE).size
  clear hE
  refine (impl_LinkAgain_c lx vx2 _ n Ax2 cx2 _ hOx2.o.rd hOx2.e).mono ?_
  intro e W26 hM
  obtain ⟨Ah, ch, rfl, hH, hHg, hB⟩ := hM
  replace hb := b_step hb hB
  replace kPx := kPx.b hB
  replace hOx1 := hOx1.b hB
  replace hW := hW.b hB
  replace kW0 := kW0.b hB
  replace kXx := kXx.b hB
  replace kG0 := kG0.b hB
  replace hGm := hGm.b hB
  replace hOx2 := hOx2.b hB
  have zW26 := (hB).size
  clear hB
  have hHl := fun k hk => (hH.row.lt k hk).2
  obtain ⟨ekPx, fkPx, lkPx⟩ := kPx.cells
  obtain ⟨ekW0, fkW0, lkW0⟩ := kW0.cells
  obtain ⟨ekXx, fkXx, lkXx⟩ := kXx.cells
  obtain ⟨ekG0, fkG0, lkG0⟩ := kG0.cells
  go_wp2_with fail
  refine calls_name (fun W => Below W26.heap.size W26 W ∧ Blk W W26.heap.size #[.int .i64 (LL.againW (ux.map LL.He.m) n).kind, .string (LL.againW (ux.map LL.He.m) n).name, .int .i64 (LL.againW (ux.map LL.He.m) n).number, .int .i64 (LL.againW (ux.map LL.He.m) n).path.q, .int .i64 (LL.againW (ux.map LL.He.m) n).path.s, .slice Ah (LL.againW (ux.map LL.He.m) n).path.steps.length ch, .int .i64 (LL.againW (ux.map LL.He.m) n).path.fr, .int .i64 (LL.againW (ux.map LL.He.m) n).path.by_] 46) ⟨(by repeat' (first | with_reducible exact Below.refl _ _ | with_reducible assumption | with_reducible refine b_alloc ?_ _ | with_reducible refine b_drewN ?_ _ | with_reducible refine b_drew ?_ | with_reducible refine b_set ?_ (by first | (simp only [World.size_setCell, World.size_alloc, World.size_drew]; omega) | (simp; done) | (simp; omega)) _ | with_reducible refine b_step ?_ (by with_reducible assumption))), Blk.new _ _ _⟩ ?_
  rintro W27 ⟨hE, kH0⟩
  clear ekPx fkPx lkPx ekW0 fkW0 lkW0 ekXx fkXx lkXx ekG0 fkG0 lkG0
  replace hb := b_step hb hE
  replace kPx := kPx.b hE
  replace hOx1 := hOx1.b hE
  replace hW := hW.b hE
  replace kW0 := kW0.b hE
  replace kXx := kXx.b hE
  replace kG0 := kG0.b hE
  replace hGm := hGm.b hE
  replace hOx2 := hOx2.b hE
  replace hH := hH.b hE
  have zW27 := (hE).size
  clear hE
  have kH0l := kH0.cells.2.2
  refine (eqLinkWord_c (LL.againW (ux.map LL.He.m) n) _ _ _ _ _ (hH.rd_at' stepE) (hW.rd_at' stepE)).mono ?_
  rintro e W28 ⟨rfl, hB⟩
  replace hb := b_step hb hB
  replace kPx := kPx.b hB
  replace hOx1 := hOx1.b hB
  replace hW := hW.b hB
  replace kW0 := kW0.b hB
  replace kXx := kXx.b hB
  replace kG0 := kG0.b hB
  replace hGm := hGm.b hB
  replace hOx2 := hOx2.b hB
  replace hH := hH.b hB
  replace kH0 := kH0.b hB
  have zW28 := (hB).size
  clear hB
  obtain ⟨ekPx, fkPx, lkPx⟩ := kPx.cells
  obtain ⟨ekW0, fkW0, lkW0⟩ := kW0.cells
  obtain ⟨ekXx, fkXx, lkXx⟩ := kXx.cells
  obtain ⟨ekG0, fkG0, lkG0⟩ := kG0.cells
  obtain ⟨ekH0, fkH0, lkH0⟩ := kH0.cells
  go_wp2_with fail
  refine calls_name (fun W => Below W28.heap.size W28 W) (by repeat' (first | with_reducible exact Below.refl _ _ | with_reducible assumption | with_reducible refine b_alloc ?_ _ | with_reducible refine b_drewN ?_ _ | with_reducible refine b_drew ?_ | with_reducible refine b_set ?_ (by first | (simp only [World.size_setCell, World.size_alloc, World.size_drew]; omega) | (simp; done) | (simp; omega)) _ | with_reducible refine b_step ?_ (by with_reducible assumption))) ?_
  intro W29 hE
  clear ekPx fkPx lkPx ekW0 fkW0 lkW0 ekXx fkXx lkXx ekG0 fkG0 lkG0 ekH0 fkH0 lkH0
  replace hb := b_step hb hE
  replace kPx := kPx.b hE
  replace hOx1 := hOx1.b hE
  replace hW := hW.b hE
  replace kW0 := kW0.b hE
  replace kXx := kXx.b hE
  replace kG0 := kG0.b hE
  replace hGm := hGm.b hE
  replace hOx2 := hOx2.b hE
  replace hH := hH.b hE
  replace kH0 := kH0.b hE
  have zW29 := (hE).size
  clear hE
  refine (heldLinkWord_c (LL.againW (ux.map LL.He.m) n) Ag cg _ (by omega) (by omega) _ (hGm.rd_at' stepE)).mono ?_
  rintro e W30 ⟨rfl, hB⟩
  replace hb := b_step hb hB
  replace kPx := kPx.b hB
  replace hOx1 := hOx1.b hB
  replace hW := hW.b hB
  replace kW0 := kW0.b hB
  replace kXx := kXx.b hB
  replace kG0 := kG0.b hB
  replace hGm := hGm.b hB
  replace hOx2 := hOx2.b hB
  replace hH := hH.b hB
  replace kH0 := kH0.b hB
  have zW30 := (hB).size
  clear hB
  obtain ⟨ekPx, fkPx, lkPx⟩ := kPx.cells
  obtain ⟨ekW0, fkW0, lkW0⟩ := kW0.cells
  obtain ⟨ekXx, fkXx, lkXx⟩ := kXx.cells
  obtain ⟨ekG0, fkG0, lkG0⟩ := kG0.cells
  obtain ⟨ekH0, fkH0, lkH0⟩ := kH0.cells
  go_wp2_with fail
  go_ret
  exact ⟨rfl, (by repeat' (first | with_reducible exact Below.refl _ _ | with_reducible assumption | with_reducible refine b_alloc ?_ _ | with_reducible refine b_drewN ?_ _ | with_reducible refine b_drew ?_ | with_reducible refine b_set ?_ (by first | (simp only [World.size_setCell, World.size_alloc, World.size_drew]; omega) | (simp; done) | (simp; omega)) _ | with_reducible refine b_step ?_ (by with_reducible assumption)))⟩
end Go.Proofs.Ytkpnjnkfbhomgaa
