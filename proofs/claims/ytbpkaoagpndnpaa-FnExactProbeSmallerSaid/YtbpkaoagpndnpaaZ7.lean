/- The exact laws that hand back memory, walked. -/
import Derived.Test.YtbpkaoagpndnpaaP3
set_option linter.unusedVariables false
set_option linter.unusedSimpArgs false
namespace Go.Proofs.Ytbpkaoagpndnpaa
open Go.RowKit
attribute [local go_sem] w_lt_add w_le_of w_le_add max2_i min2_i
set_option maxRecDepth 100000 in
set_option maxHeartbeats 4000000 in
theorem FnExactProbeSmaller_c (su : ByteArray) (xu : List LL.Box) (Au : Option Addr) (cu : Nat) (sv : ByteArray) (xv : List LL.Box) (Av : Option Addr) (cv : Nat) (w : World) (hu : RdB w Au xu.length cu xu) (hsu : su.size ≤ 9223372036854775807) (hv : RdB w Av xv.length cv xv) (hsv : sv.size ≤ 9223372036854775807) : Calls Try.prog 13 #[.agg #[.string su, .slice Au xu.length cu], .agg #[.string sv, .slice Av xv.length cv]] w fun e w' => e = .returned (.bool true) ∧ Below w.heap.size w w' := by
  have hru := hu.room
  have hnu : xu.length ≤ 140737488355328 := by omega
  have hrv := hv.room
  have hnv : xv.length ≤ 140737488355328 := by omega
  go_enter Try.func13, Try.ntmps13
  go_wp2_with fail
  refine calls_name (fun W => Below w.heap.size w W ∧ Blk W w.heap.size #[.string su, .slice Au xu.length cu] 64 ∧ Blk W (w.heap.size + 1) #[.string sv, .slice Av xv.length cv] 64) ⟨(by repeat' (first | with_reducible exact Below.refl _ _ | with_reducible assumption | with_reducible refine b_alloc ?_ _ | with_reducible refine b_drewN ?_ _ | with_reducible refine b_drew ?_ | with_reducible refine b_set ?_ (by first | (simp only [World.size_setCell, World.size_alloc, World.size_drew]; omega) | (simp; done) | (simp; omega)) _ | with_reducible refine b_step ?_ (by with_reducible assumption))), (by repeat' (first | with_reducible assumption | with_reducible exact Blk.new _ _ _ | with_reducible exact Blk.new' _ _ (by first | (simp only [World.size_alloc, World.size_setCell, World.size_drew]; done) | (simp only [World.size_alloc, World.size_setCell, World.size_drew]; omega) | omega) | with_reducible refine Blk.a ?_ _ | with_reducible refine Blk.d ?_ | with_reducible refine Blk.dN ?_ _ | with_reducible refine Blk.s ?_ (by simp only [ne_eq]; omega) _ | with_reducible refine Blk.b ?_ (by with_reducible assumption))), (by repeat' (first | with_reducible assumption | with_reducible exact Blk.new _ _ _ | with_reducible exact Blk.new' _ _ (by first | (simp only [World.size_alloc, World.size_setCell, World.size_drew]; done) | (simp only [World.size_alloc, World.size_setCell, World.size_drew]; omega) | omega) | with_reducible refine Blk.a ?_ _ | with_reducible refine Blk.d ?_ | with_reducible refine Blk.dN ?_ _ | with_reducible refine Blk.s ?_ (by simp only [ne_eq]; omega) _ | with_reducible refine Blk.b ?_ (by with_reducible assumption)))⟩ ?_
  rintro W1 ⟨hE, kPu, kPv⟩
  have hb : Below w.heap.size w W1 := hE
  have zW1 := (hE).size
  clear hE
  have kPul := kPu.cells.2.2
  have kPvl := kPv.cells.2.2
  refine (szProbeTube_c su _ _ _ _ _ (by decide) (by decide) hsu hnu).mono ?_
  rintro e W2 ⟨rfl, hB⟩
  replace hb := b_step hb hB
  replace kPu := kPu.b hB
  replace kPv := kPv.b hB
  have zW2 := (hB).size
  clear hB
  by_cases hqu : (LL.szT 1048576 su.size xu.length) < 0
  · go_wp2_with fail
    go_ret
    exact ⟨rfl, (by repeat' (first | with_reducible exact Below.refl _ _ | with_reducible assumption | with_reducible refine b_alloc ?_ _ | with_reducible refine b_drewN ?_ _ | with_reducible refine b_drew ?_ | with_reducible refine b_set ?_ (by first | (simp only [World.size_setCell, World.size_alloc, World.size_drew]; omega) | (simp; done) | (simp; omega)) _ | with_reducible refine b_step ?_ (by with_reducible assumption)))⟩
  have hq1u : decide ((LL.szT 1048576 su.size xu.length) < 0) = false := by simpa using hqu
  have hq2u : (LL.szT 1048576 su.size xu.length) ≤ 1048576 := Int.le_trans (LL.szT_le (by omega) _ _) (by omega)
  obtain ⟨ekPu, fkPu, lkPu⟩ := kPu.cells
  obtain ⟨ekPv, fkPv, lkPv⟩ := kPv.cells
  go_wp2_with fail
  refine calls_name (fun W => Below W2.heap.size W2 W) (by repeat' (first | with_reducible exact Below.refl _ _ | with_reducible assumption | with_reducible refine b_alloc ?_ _ | with_reducible refine b_drewN ?_ _ | with_reducible refine b_drew ?_ | with_reducible refine b_set ?_ (by first | (simp only [World.size_setCell, World.size_alloc, World.size_drew]; omega) | (simp; done) | (simp; omega)) _ | with_reducible refine b_step ?_ (by with_reducible assumption))) ?_
  intro W3 hE
  clear ekPu fkPu lkPu ekPv fkPv lkPv
  replace hb := b_step hb hE
  replace kPu := kPu.b hE
  replace kPv := kPv.b hE
  have zW3 := (hE).size
  clear hE
  refine (szProbeTube_c sv _ _ _ _ _ (by omega) (by omega) hsv hnv).mono ?_
  rintro e W4 ⟨rfl, hB⟩
  replace hb := b_step hb hB
  replace kPu := kPu.b hB
  replace kPv := kPv.b hB
  have zW4 := (hB).size
  clear hB
  by_cases hqv : (LL.szT (LL.szT 1048576 su.size xu.length) sv.size xv.length) < 0
  · go_wp2_with fail
    go_ret
    exact ⟨rfl, (by repeat' (first | with_reducible exact Below.refl _ _ | with_reducible assumption | with_reducible refine b_alloc ?_ _ | with_reducible refine b_drewN ?_ _ | with_reducible refine b_drew ?_ | with_reducible refine b_set ?_ (by first | (simp only [World.size_setCell, World.size_alloc, World.size_drew]; omega) | (simp; done) | (simp; omega)) _ | with_reducible refine b_step ?_ (by with_reducible assumption)))⟩
  have hq1v : decide ((LL.szT (LL.szT 1048576 su.size xu.length) sv.size xv.length) < 0) = false := by simpa using hqv
  have hq2v : (LL.szT (LL.szT 1048576 su.size xu.length) sv.size xv.length) ≤ 1048576 := Int.le_trans (LL.szT_le (by omega) _ _) (by omega)
  obtain ⟨ekPu, fkPu, lkPu⟩ := kPu.cells
  obtain ⟨ekPv, fkPv, lkPv⟩ := kPv.cells
  go_wp2_with fail
  refine wp_name (fun W => Below W4.heap.size W4 W) (by repeat' (first | with_reducible exact Below.refl _ _ | with_reducible assumption | with_reducible refine b_alloc ?_ _ | with_reducible refine b_drewN ?_ _ | with_reducible refine b_drew ?_ | with_reducible refine b_set ?_ (by first | (simp only [World.size_setCell, World.size_alloc, World.size_drew]; omega) | (simp; done) | (simp; omega)) _ | with_reducible refine b_step ?_ (by with_reducible assumption))) ?_
  intro W5 hE
  clear ekPu fkPu lkPu ekPv fkPv lkPv
  replace hb := b_step hb hE
  replace kPu := kPu.b hE
  replace kPv := kPv.b hE
  have zW5 := (hE).size
  clear hE
  obtain ⟨ekPu, fkPu, lkPu⟩ := kPu.cells
  obtain ⟨ekPv, fkPv, lkPv⟩ := kPv.cells
  refine rel_b [(1, fun v W => ∃ A9 c9, v = .agg #[.string su, .slice A9 xu.length c9] ∧ Own boxC 6 48 32 W (.slice A9 xu.length c9) xu), (3, fun v W => ∃ A9 c9, v = .agg #[.string sv, .slice A9 xv.length c9] ∧ Own boxC 6 48 32 W (.slice A9 xv.length c9) xv), (4, fun v _ => v = .bool (decide (LL.TubeSmall su xu sv xv)))] (by kernel_rfl) (by kernel_rfl) ?_
  ((apply rel_plain (hR := rfl) (hF := fun _ => trivial) (hg := rfl)); (focus ((intro w' hL'); (obtain ⟨hcS, hfS, hlS⟩ := bcell hL'); (try simp only [World.size_setCell, World.size_alloc, World.size_drew] at hcS hfS hlS); (go_simp); (try go_bits); (try (first | (rw [if_pos (by omega)]; done) | (rw [if_neg (by omega)]; done) | (rw [if_pos (by omega)]; go_simp) | (rw [if_neg (by omega)]; go_simp))); (first | with_reducible rfl | exact rfl | skip))); (simp only [Act.put, List.setIfInBounds_toArray, List.set_cons_zero, List.set_cons_succ]))
  ((apply rel_told (hR := rfl) (hg := rfl)); (focus ((intro w' hL' hD'); (obtain ⟨hcS, hfS, hlS⟩ := bcell hL'); (try simp only [World.size_setCell, World.size_alloc, World.size_drew] at hcS hfS hlS); (go_simp); (try go_bits); (try (first | (rw [if_pos (by omega)]; done) | (rw [if_neg (by omega)]; done) | (rw [if_pos (by omega)]; go_simp) | (rw [if_neg (by omega)]; go_simp))); ((go_at_call 41); (refine (toProbeTube_c su xu Au cu _ (hu.mono (b_step hb hL'))).mono ?_); (intro e w'' hM); (obtain ⟨A2, c2, rfl, hO2, -, hB⟩ := hM); (refine ⟨_, rfl, hB, ?_⟩); ((repeat (first | (refine Tell.hit rfl ?_) | (refine Tell.skip rfl ?_))); exact ⟨A2, c2, rfl, hO2⟩)))); (intro v' w0' hv'); (replace hv' := Tell.out hv' rfl); (obtain ⟨A2u, c2u, rfl, -⟩ := hv'); (simp only [Act.put, List.setIfInBounds_toArray, List.set_cons_zero, List.set_cons_succ]))
  ((apply rel_plain (hR := rfl) (hF := fun _ => trivial) (hg := rfl)); (focus ((intro w' hL'); (obtain ⟨hcS, hfS, hlS⟩ := bcell hL'); (try simp only [World.size_setCell, World.size_alloc, World.size_drew] at hcS hfS hlS); (go_simp); (try go_bits); (try (first | (rw [if_pos (by omega)]; done) | (rw [if_neg (by omega)]; done) | (rw [if_pos (by omega)]; go_simp) | (rw [if_neg (by omega)]; go_simp))); (first | with_reducible rfl | exact rfl | skip))); (simp only [Act.put, List.setIfInBounds_toArray, List.set_cons_zero, List.set_cons_succ]))
  ((apply rel_told (hR := rfl) (hg := rfl)); (focus ((intro w' hL' hD'); (obtain ⟨hcS, hfS, hlS⟩ := bcell hL'); (try simp only [World.size_setCell, World.size_alloc, World.size_drew] at hcS hfS hlS); (go_simp); (try go_bits); (try (first | (rw [if_pos (by omega)]; done) | (rw [if_neg (by omega)]; done) | (rw [if_pos (by omega)]; go_simp) | (rw [if_neg (by omega)]; go_simp))); ((go_at_call 41); (refine (toProbeTube_c sv xv Av cv _ (hv.mono (b_step hb hL'))).mono ?_); (intro e w'' hM); (obtain ⟨A2, c2, rfl, hO2, -, hB⟩ := hM); (refine ⟨_, rfl, hB, ?_⟩); ((repeat (first | (refine Tell.hit rfl ?_) | (refine Tell.skip rfl ?_))); exact ⟨A2, c2, rfl, hO2⟩)))); (intro v' w0' hv'); (replace hv' := Tell.out hv' rfl); (obtain ⟨A2v, c2v, rfl, -⟩ := hv'); (simp only [Act.put, List.setIfInBounds_toArray, List.set_cons_zero, List.set_cons_succ]))
  ((apply rel_told (hR := rfl) (hg := rfl)); (focus ((intro w' hL' hD'); (obtain ⟨hcS, hfS, hlS⟩ := bcell hL'); (try simp only [World.size_setCell, World.size_alloc, World.size_drew] at hcS hfS hlS); (go_simp); (try go_bits); (try (first | (rw [if_pos (by omega)]; done) | (rw [if_neg (by omega)]; done) | (rw [if_pos (by omega)]; go_simp) | (rw [if_neg (by omega)]; go_simp))); ((obtain ⟨w8, hl8, A8, c8, e8, hO8⟩ := Known.out (hD' ⟨1, .data⟩ (by simp) rfl) rfl); (injection e8 with e8; injection e8 with e8; injection e8 with e8y e8a; injection e8a with e8a e8b; injection e8a with e8a e8d e8f; subst e8a e8f); (replace hO8 := hO8.b hl8); (obtain ⟨w9, hl9, A9, c9, e9, hO9⟩ := Known.out (hD' ⟨3, .data⟩ (by simp) rfl) rfl); (injection e9 with e9; injection e9 with e9; injection e9 with e9y e9a; injection e9a with e9a e9b; injection e9a with e9a e9d e9f; subst e9a e9f); (replace hO9 := hO9.b hl9); ((go_at_call 46); (refine (spec_ProbeSmaller_c su xu sv xv _ _ _ _ hsu hsv _ (hO8.rd_at' boxE) (hO9.rd_at' boxE)).mono ?_); (rintro e w'' ⟨rfl, hb''⟩); (refine ⟨_, rfl, ?_, ?_⟩); (focus (first | exact hb'' | (subst hb''; exact Le.refl _))); ((repeat (first | (refine Tell.hit rfl ?_) | (refine Tell.skip rfl ?_))); exact rfl))))); (intro v' w0' hv'); (replace hv' := Tell.out hv' rfl); (obtain rfl := hv'); (simp only [Act.put, List.setIfInBounds_toArray, List.set_cons_zero, List.set_cons_succ]))
  ((apply rel_plain (hR := rfl) (hF := fun _ => trivial) (hg := rfl)); (focus ((intro w' hL'); (obtain ⟨hcS, hfS, hlS⟩ := bcell hL'); (try simp only [World.size_setCell, World.size_alloc, World.size_drew] at hcS hfS hlS); (go_simp); (try go_bits); (try (first | (rw [if_pos (by omega)]; done) | (rw [if_neg (by omega)]; done) | (rw [if_pos (by omega)]; go_simp) | (rw [if_neg (by omega)]; go_simp))); (first | with_reducible rfl | exact rfl | skip))); (simp only [Act.put, List.setIfInBounds_toArray, List.set_cons_zero, List.set_cons_succ]))
  refine rel_nil ?_
  intro W6 hE hF9
  clear hF9
  clear ekPu fkPu lkPu ekPv fkPv lkPv
  replace hb := b_step hb hE
  replace kPu := kPu.b hE
  replace kPv := kPv.b hE
  have zW6 := (hE).size
  clear hE
  obtain ⟨ekPu, fkPu, lkPu⟩ := kPu.cells
  obtain ⟨ekPv, fkPv, lkPv⟩ := kPv.cells
  go_wp2_with fail
  refine calls_name (fun W => Below W6.heap.size W6 W) (by repeat' (first | with_reducible exact Below.refl _ _ | with_reducible assumption | with_reducible refine b_alloc ?_ _ | with_reducible refine b_drewN ?_ _ | with_reducible refine b_drew ?_ | with_reducible refine b_set ?_ (by first | (simp only [World.size_setCell, World.size_alloc, World.size_drew]; omega) | (simp; done) | (simp; omega)) _ | with_reducible refine b_step ?_ (by with_reducible assumption))) ?_
  intro W7 hE
  clear ekPu fkPu lkPu ekPv fkPv lkPv
  replace hb := b_step hb hE
  replace kPu := kPu.b hE
  replace kPv := kPv.b hE
  have zW7 := (hE).size
  clear hE
  refine (toProbeTube_c su xu Au cu _ (hu.mono hb)).mono ?_
  intro e W8 hM
  obtain ⟨Axu, cxu, rfl, hXu, hXug, hB⟩ := hM
  replace hb := b_step hb hB
  replace kPu := kPu.b hB
  replace kPv := kPv.b hB
  have zW8 := (hB).size
  clear hB
  have hXul := fun k hk => (hXu.row.lt k hk).2
  obtain ⟨ekPu, fkPu, lkPu⟩ := kPu.cells
  obtain ⟨ekPv, fkPv, lkPv⟩ := kPv.cells
  go_wp2_with fail
  refine calls_name (fun W => Below W8.heap.size W8 W ∧ Blk W W8.heap.size #[.string su, .slice Axu xu.length cxu] 69) ⟨(by repeat' (first | with_reducible exact Below.refl _ _ | with_reducible assumption | with_reducible refine b_alloc ?_ _ | with_reducible refine b_drewN ?_ _ | with_reducible refine b_drew ?_ | with_reducible refine b_set ?_ (by first | (simp only [World.size_setCell, World.size_alloc, World.size_drew]; omega) | (simp; done) | (simp; omega)) _ | with_reducible refine b_step ?_ (by with_reducible assumption))), Blk.new _ _ _⟩ ?_
  rintro W9 ⟨hE, kXu⟩
  clear ekPu fkPu lkPu ekPv fkPv lkPv
  replace hb := b_step hb hE
  replace kPu := kPu.b hE
  replace kPv := kPv.b hE
  replace hXu := hXu.b hE
  have zW9 := (hE).size
  clear hE
  have kXul := kXu.cells.2.2
  refine (toProbeTube_c sv xv Av cv _ (hv.mono hb)).mono ?_
  intro e W10 hM
  obtain ⟨Axv, cxv, rfl, hXv, hXvg, hB⟩ := hM
  replace hb := b_step hb hB
  replace kPu := kPu.b hB
  replace kPv := kPv.b hB
  replace hXu := hXu.b hB
  replace kXu := kXu.b hB
  have zW10 := (hB).size
  clear hB
  have hXvl := fun k hk => (hXv.row.lt k hk).2
  obtain ⟨ekPu, fkPu, lkPu⟩ := kPu.cells
  obtain ⟨ekPv, fkPv, lkPv⟩ := kPv.cells
  obtain ⟨ekXu, fkXu, lkXu⟩ := kXu.cells
  go_wp2_with fail
  refine calls_name (fun W => Below W10.heap.size W10 W ∧ Blk W W10.heap.size #[.string sv, .slice Axv xv.length cxv] 69) ⟨(by repeat' (first | with_reducible exact Below.refl _ _ | with_reducible assumption | with_reducible refine b_alloc ?_ _ | with_reducible refine b_drewN ?_ _ | with_reducible refine b_drew ?_ | with_reducible refine b_set ?_ (by first | (simp only [World.size_setCell, World.size_alloc, World.size_drew]; omega) | (simp; done) | (simp; omega)) _ | with_reducible refine b_step ?_ (by with_reducible assumption))), Blk.new _ _ _⟩ ?_
  rintro W11 ⟨hE, kXv⟩
  clear ekPu fkPu lkPu ekPv fkPv lkPv ekXu fkXu lkXu
  replace hb := b_step hb hE
  replace kPu := kPu.b hE
  replace kPv := kPv.b hE
  replace hXu := hXu.b hE
  replace kXu := kXu.b hE
  replace hXv := hXv.b hE
  have zW11 := (hE).size
  clear hE
  have kXvl := kXv.cells.2.2
  refine (impl_ProbeSmaller_c su xu sv xv Axu cxu Axv cxv hsu hsv _ (hXu.rd_at' boxE) (hXv.rd_at' boxE)).mono ?_
  rintro e W12 ⟨rfl, hB⟩
  replace hb := b_step hb hB
  replace kPu := kPu.b hB
  replace kPv := kPv.b hB
  replace hXu := hXu.b hB
  replace kXu := kXu.b hB
  replace hXv := hXv.b hB
  replace kXv := kXv.b hB
  have zW12 := (hB).size
  clear hB
  obtain ⟨ekPu, fkPu, lkPu⟩ := kPu.cells
  obtain ⟨ekPv, fkPv, lkPv⟩ := kPv.cells
  obtain ⟨ekXu, fkXu, lkXu⟩ := kXu.cells
  obtain ⟨ekXv, fkXv, lkXv⟩ := kXv.cells
  go_wp2_with fail
  refine wp_name (fun W => Below W12.heap.size W12 W) (by repeat' (first | with_reducible exact Below.refl _ _ | with_reducible assumption | with_reducible refine b_alloc ?_ _ | with_reducible refine b_drewN ?_ _ | with_reducible refine b_drew ?_ | with_reducible refine b_set ?_ (by first | (simp only [World.size_setCell, World.size_alloc, World.size_drew]; omega) | (simp; done) | (simp; omega)) _ | with_reducible refine b_step ?_ (by with_reducible assumption))) ?_
  intro W13 hE
  clear ekPu fkPu lkPu ekPv fkPv lkPv ekXu fkXu lkXu ekXv fkXv lkXv
  replace hb := b_step hb hE
  replace kPu := kPu.b hE
  replace kPv := kPv.b hE
  replace hXu := hXu.b hE
  replace kXu := kXu.b hE
  replace hXv := hXv.b hE
  replace kXv := kXv.b hE
  have zW13 := (hE).size
  clear hE
  obtain ⟨ekPu, fkPu, lkPu⟩ := kPu.cells
  obtain ⟨ekPv, fkPv, lkPv⟩ := kPv.cells
  obtain ⟨ekXu, fkXu, lkXu⟩ := kXu.cells
  obtain ⟨ekXv, fkXv, lkXv⟩ := kXv.cells
  refine rel_b [(2, fun v W => ∃ A9 c9, v = .agg #[.string su, .slice A9 xu.length c9] ∧ Own boxC 6 48 32 W (.slice A9 xu.length c9) xu), (3, fun v _ => v = .bool true)] (by kernel_rfl) (by kernel_rfl) ?_
  ((apply rel_plain (hR := rfl) (hF := fun _ => trivial) (hg := rfl)); (focus ((intro w' hL'); (obtain ⟨hcS, hfS, hlS⟩ := bcell hL'); (try simp only [World.size_setCell, World.size_alloc, World.size_drew] at hcS hfS hlS); (go_simp); (try go_bits); (try (first | (rw [if_pos (by omega)]; done) | (rw [if_neg (by omega)]; done) | (rw [if_pos (by omega)]; go_simp) | (rw [if_neg (by omega)]; go_simp))); (first | with_reducible rfl | exact rfl | skip))); (simp only [Act.put, List.setIfInBounds_toArray, List.set_cons_zero, List.set_cons_succ]))
  ((apply rel_plain (hR := rfl) (hF := fun _ => trivial) (hg := rfl)); (focus ((intro w' hL'); (obtain ⟨hcS, hfS, hlS⟩ := bcell hL'); (try simp only [World.size_setCell, World.size_alloc, World.size_drew] at hcS hfS hlS); (go_simp); (try go_bits); (try (first | (rw [if_pos (by omega)]; done) | (rw [if_neg (by omega)]; done) | (rw [if_pos (by omega)]; go_simp) | (rw [if_neg (by omega)]; go_simp))); (first | with_reducible rfl | exact rfl | skip))); (simp only [Act.put, List.setIfInBounds_toArray, List.set_cons_zero, List.set_cons_succ]))
  ((apply rel_told (hR := rfl) (hg := rfl)); (focus ((intro w' hL' hD'); (obtain ⟨hcS, hfS, hlS⟩ := bcell hL'); (try simp only [World.size_setCell, World.size_alloc, World.size_drew] at hcS hfS hlS); (go_simp); (try go_bits); (try (first | (rw [if_pos (by omega)]; done) | (rw [if_neg (by omega)]; done) | (rw [if_pos (by omega)]; go_simp) | (rw [if_neg (by omega)]; go_simp))); ((go_at_call 41); (refine (toProbeTube_c su xu Au cu _ (hu.mono (b_step hb hL'))).mono ?_); (intro e w'' hM); (obtain ⟨A2, c2, rfl, hO2, -, hB⟩ := hM); (refine ⟨_, rfl, hB, ?_⟩); ((repeat (first | (refine Tell.hit rfl ?_) | (refine Tell.skip rfl ?_))); exact ⟨A2, c2, rfl, hO2⟩)))); (intro v' w0' hv'); (replace hv' := Tell.out hv' rfl); (obtain ⟨A2u, c2u, rfl, -⟩ := hv'); (simp only [Act.put, List.setIfInBounds_toArray, List.set_cons_zero, List.set_cons_succ]))
  ((apply rel_told (hR := rfl) (hg := rfl)); (focus ((intro w' hL' hD'); (obtain ⟨hcS, hfS, hlS⟩ := bcell hL'); (try simp only [World.size_setCell, World.size_alloc, World.size_drew] at hcS hfS hlS); (go_simp); (try go_bits); (try (first | (rw [if_pos (by omega)]; done) | (rw [if_neg (by omega)]; done) | (rw [if_pos (by omega)]; go_simp) | (rw [if_neg (by omega)]; go_simp))); ((obtain ⟨w8, hl8, A8, c8, e8, hO8⟩ := Known.out (hD' ⟨2, .data⟩ (by simp) rfl) rfl); (injection e8 with e8; injection e8 with e8; injection e8 with e8y e8a; injection e8a with e8a e8b; injection e8a with e8a e8d e8f; subst e8a e8f); (replace hO8 := hO8.b hl8); ((go_at_call 43); (refine (eqProbeTube_c su xu _ _ _ _ _ ((hXu.b hL').rd_at' boxE) (hO8.rd_at' boxE)).mono ?_); (rintro e w'' ⟨rfl, hb''⟩); (refine ⟨_, rfl, ?_, ?_⟩); (focus (first | exact hb'' | (subst hb''; exact Le.refl _))); ((repeat (first | (refine Tell.hit rfl ?_) | (refine Tell.skip rfl ?_))); exact rfl))))); (intro v' w0' hv'); (replace hv' := Tell.out hv' rfl); (obtain rfl := hv'); (simp only [Act.put, List.setIfInBounds_toArray, List.set_cons_zero, List.set_cons_succ]))
  ((apply rel_plain (hR := rfl) (hF := fun _ => trivial) (hg := rfl)); (focus ((intro w' hL'); (obtain ⟨hcS, hfS, hlS⟩ := bcell hL'); (try simp only [World.size_setCell, World.size_alloc, World.size_drew] at hcS hfS hlS); (go_simp); (try go_bits); (try (first | (rw [if_pos (by omega)]; done) | (rw [if_neg (by omega)]; done) | (rw [if_pos (by omega)]; go_simp) | (rw [if_neg (by omega)]; go_simp))); (first | with_reducible rfl | exact rfl | skip))); (simp only [Act.put, List.setIfInBounds_toArray, List.set_cons_zero, List.set_cons_succ]))
  refine rel_nil ?_
  intro W14 hE hF9
  clear hF9
  clear ekPu fkPu lkPu ekPv fkPv lkPv ekXu fkXu lkXu ekXv fkXv lkXv
  replace hb := b_step hb hE
  replace kPu := kPu.b hE
  replace kPv := kPv.b hE
  replace hXu := hXu.b hE
  replace kXu := kXu.b hE
  replace hXv := hXv.b hE
  replace kXv := kXv.b hE
  have zW14 := (hE).size
  clear hE
  obtain ⟨ekPu, fkPu, lkPu⟩ := kPu.cells
  obtain ⟨ekPv, fkPv, lkPv⟩ := kPv.cells
  obtain ⟨ekXu, fkXu, lkXu⟩ := kXu.cells
  obtain ⟨ekXv, fkXv, lkXv⟩ := kXv.cells
  go_wp2_with fail
  refine wp_name (fun W => Below W14.heap.size W14 W) (by repeat' (first | with_reducible exact Below.refl _ _ | with_reducible assumption | with_reducible refine b_alloc ?_ _ | with_reducible refine b_drewN ?_ _ | with_reducible refine b_drew ?_ | with_reducible refine b_set ?_ (by first | (simp only [World.size_setCell, World.size_alloc, World.size_drew]; omega) | (simp; done) | (simp; omega)) _ | with_reducible refine b_step ?_ (by with_reducible assumption))) ?_
  intro W15 hE
  clear ekPu fkPu lkPu ekPv fkPv lkPv ekXu fkXu lkXu ekXv fkXv lkXv
  replace hb := b_step hb hE
  replace kPu := kPu.b hE
  replace kPv := kPv.b hE
  replace hXu := hXu.b hE
  replace kXu := kXu.b hE
  replace hXv := hXv.b hE
  replace kXv := kXv.b hE
  have zW15 := (hE).size
  clear hE
  obtain ⟨ekPu, fkPu, lkPu⟩ := kPu.cells
  obtain ⟨ekPv, fkPv, lkPv⟩ := kPv.cells
  obtain ⟨ekXu, fkXu, lkXu⟩ := kXu.cells
  obtain ⟨ekXv, fkXv, lkXv⟩ := kXv.cells
  refine rel_b [(2, fun v W => ∃ A9 c9, v = .agg #[.string sv, .slice A9 xv.length c9] ∧ Own boxC 6 48 32 W (.slice A9 xv.length c9) xv), (3, fun v _ => v = .bool true)] (by kernel_rfl) (by kernel_rfl) ?_
  ((apply rel_plain (hR := rfl) (hF := fun _ => trivial) (hg := rfl)); (focus ((intro w' hL'); (obtain ⟨hcS, hfS, hlS⟩ := bcell hL'); (try simp only [World.size_setCell, World.size_alloc, World.size_drew] at hcS hfS hlS); (go_simp); (try go_bits); (try (first | (rw [if_pos (by omega)]; done) | (rw [if_neg (by omega)]; done) | (rw [if_pos (by omega)]; go_simp) | (rw [if_neg (by omega)]; go_simp))); (first | with_reducible rfl | exact rfl | skip))); (simp only [Act.put, List.setIfInBounds_toArray, List.set_cons_zero, List.set_cons_succ]))
  ((apply rel_plain (hR := rfl) (hF := fun _ => trivial) (hg := rfl)); (focus ((intro w' hL'); (obtain ⟨hcS, hfS, hlS⟩ := bcell hL'); (try simp only [World.size_setCell, World.size_alloc, World.size_drew] at hcS hfS hlS); (go_simp); (try go_bits); (try (first | (rw [if_pos (by omega)]; done) | (rw [if_neg (by omega)]; done) | (rw [if_pos (by omega)]; go_simp) | (rw [if_neg (by omega)]; go_simp))); (first | with_reducible rfl | exact rfl | skip))); (simp only [Act.put, List.setIfInBounds_toArray, List.set_cons_zero, List.set_cons_succ]))
  ((apply rel_told (hR := rfl) (hg := rfl)); (focus ((intro w' hL' hD'); (obtain ⟨hcS, hfS, hlS⟩ := bcell hL'); (try simp only [World.size_setCell, World.size_alloc, World.size_drew] at hcS hfS hlS); (go_simp); (try go_bits); (try (first | (rw [if_pos (by omega)]; done) | (rw [if_neg (by omega)]; done) | (rw [if_pos (by omega)]; go_simp) | (rw [if_neg (by omega)]; go_simp))); ((go_at_call 41); (refine (toProbeTube_c sv xv Av cv _ (hv.mono (b_step hb hL'))).mono ?_); (intro e w'' hM); (obtain ⟨A2, c2, rfl, hO2, -, hB⟩ := hM); (refine ⟨_, rfl, hB, ?_⟩); ((repeat (first | (refine Tell.hit rfl ?_) | (refine Tell.skip rfl ?_))); exact ⟨A2, c2, rfl, hO2⟩)))); (intro v' w0' hv'); (replace hv' := Tell.out hv' rfl); (obtain ⟨A2v, c2v, rfl, -⟩ := hv'); (simp only [Act.put, List.setIfInBounds_toArray, List.set_cons_zero, List.set_cons_succ]))
  ((apply rel_told (hR := rfl) (hg := rfl)); (focus ((intro w' hL' hD'); (obtain ⟨hcS, hfS, hlS⟩ := bcell hL'); (try simp only [World.size_setCell, World.size_alloc, World.size_drew] at hcS hfS hlS); (go_simp); (try go_bits); (try (first | (rw [if_pos (by omega)]; done) | (rw [if_neg (by omega)]; done) | (rw [if_pos (by omega)]; go_simp) | (rw [if_neg (by omega)]; go_simp))); ((obtain ⟨w8, hl8, A8, c8, e8, hO8⟩ := Known.out (hD' ⟨2, .data⟩ (by simp) rfl) rfl); (injection e8 with e8; injection e8 with e8; injection e8 with e8y e8a; injection e8a with e8a e8b; injection e8a with e8a e8d e8f; subst e8a e8f); (replace hO8 := hO8.b hl8); ((go_at_call 43); (refine (eqProbeTube_c sv xv _ _ _ _ _ ((hXv.b hL').rd_at' boxE) (hO8.rd_at' boxE)).mono ?_); (rintro e w'' ⟨rfl, hb''⟩); (refine ⟨_, rfl, ?_, ?_⟩); (focus (first | exact hb'' | (subst hb''; exact Le.refl _))); ((repeat (first | (refine Tell.hit rfl ?_) | (refine Tell.skip rfl ?_))); exact rfl))))); (intro v' w0' hv'); (replace hv' := Tell.out hv' rfl); (obtain rfl := hv'); (simp only [Act.put, List.setIfInBounds_toArray, List.set_cons_zero, List.set_cons_succ]))
  ((apply rel_plain (hR := rfl) (hF := fun _ => trivial) (hg := rfl)); (focus ((intro w' hL'); (obtain ⟨hcS, hfS, hlS⟩ := bcell hL'); (try simp only [World.size_setCell, World.size_alloc, World.size_drew] at hcS hfS hlS); (go_simp); (try go_bits); (try (first | (rw [if_pos (by omega)]; done) | (rw [if_neg (by omega)]; done) | (rw [if_pos (by omega)]; go_simp) | (rw [if_neg (by omega)]; go_simp))); (first | with_reducible rfl | exact rfl | skip))); (simp only [Act.put, List.setIfInBounds_toArray, List.set_cons_zero, List.set_cons_succ]))
  refine rel_nil ?_
  intro W16 hE hF9
  clear hF9
  clear ekPu fkPu lkPu ekPv fkPv lkPv ekXu fkXu lkXu ekXv fkXv lkXv
  replace hb := b_step hb hE
  replace kPu := kPu.b hE
  replace kPv := kPv.b hE
  replace hXu := hXu.b hE
  replace kXu := kXu.b hE
  replace hXv := hXv.b hE
  replace kXv := kXv.b hE
  have zW16 := (hE).size
  clear hE
  obtain ⟨ekPu, fkPu, lkPu⟩ := kPu.cells
  obtain ⟨ekPv, fkPv, lkPv⟩ := kPv.cells
  obtain ⟨ekXu, fkXu, lkXu⟩ := kXu.cells
  obtain ⟨ekXv, fkXv, lkXv⟩ := kXv.cells
  go_wp2_with fail
  go_ret
  exact ⟨rfl, (by repeat' (first | with_reducible exact Below.refl _ _ | with_reducible assumption | with_reducible refine b_alloc ?_ _ | with_reducible refine b_drewN ?_ _ | with_reducible refine b_drew ?_ | with_reducible refine b_set ?_ (by first | (simp only [World.size_setCell, World.size_alloc, World.size_drew]; omega) | (simp; done) | (simp; omega)) _ | with_reducible refine b_step ?_ (by with_reducible assumption)))⟩
end Go.Proofs.Ytbpkaoagpndnpaa
