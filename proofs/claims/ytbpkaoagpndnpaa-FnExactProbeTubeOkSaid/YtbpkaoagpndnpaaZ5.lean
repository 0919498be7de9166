/- The exact laws that hand back memory, walked. -/
import Derived.Test.YtbpkaoagpndnpaaP2
set_option linter.unusedVariables false
set_option linter.unusedSimpArgs false
namespace Go.Proofs.Ytbpkaoagpndnpaa
open Go.RowKit
attribute [local go_sem] w_lt_add w_le_of w_le_add max2_i min2_i
set_option maxRecDepth 100000 in
set_option maxHeartbeats 4000000 in
theorem FnExactProbeTubeOk_c (sa : ByteArray) (xa : List LL.Box) (Aa : Option Addr) (ca : Nat) (w : World) (ha : RdB w Aa xa.length ca xa) (hsa : sa.size ≤ 9223372036854775807) : Calls Try.prog 11 #[.agg #[.string sa, .slice Aa xa.length ca]] w fun e w' => e = .returned (.bool true) ∧ Below w.heap.size w w' := by
  have hra := ha.room
  have hna : xa.length ≤ 140737488355328 := by omega
  go_enter Try.func11, Try.ntmps11
  go_wp2_with fail
  refine calls_name (fun W => Below w.heap.size w W ∧ Blk W w.heap.size #[.string sa, .slice Aa xa.length ca] 64) ⟨(by repeat' (first | with_reducible exact Below.refl _ _ | with_reducible assumption | with_reducible refine b_alloc ?_ _ | with_reducible refine b_drewN ?_ _ | with_reducible refine b_drew ?_ | with_reducible refine b_set ?_ (by first | (simp only [World.size_setCell, World.size_alloc, World.size_drew]; omega) | (simp; done) | (simp; omega)) _ | with_reducible refine b_step ?_ (by with_reducible assumption))), (by repeat' (first | with_reducible assumption | with_reducible exact Blk.new _ _ _ | with_reducible exact Blk.new' _ _ (by first | (simp only [World.size_alloc, World.size_setCell, World.size_drew]; done) | (simp only [World.size_alloc, World.size_setCell, World.size_drew]; omega) | omega) | with_reducible refine Blk.a ?_ _ | with_reducible refine Blk.d ?_ | with_reducible refine Blk.dN ?_ _ | with_reducible refine Blk.s ?_ (by simp only [ne_eq]; omega) _ | with_reducible refine Blk.b ?_ (by with_reducible assumption)))⟩ ?_
  rintro W1 ⟨hE, kPa⟩
  have hb : Below w.heap.size w W1 := hE
  have zW1 := (hE).size
  clear hE
  have kPal := kPa.cells.2.2
  refine (szProbeTube_c sa _ _ _ _ _ (by decide) (by decide) hsa hna).mono ?_
  rintro e W2 ⟨rfl, hB⟩
  replace hb := b_step hb hB
  replace kPa := kPa.b hB
  have zW2 := (hB).size
  clear hB
  by_cases hqa : (LL.szT 1048576 sa.size xa.length) < 0
  · go_wp2_with fail
    go_ret
    exact ⟨rfl, (by repeat' (first | with_reducible exact Below.refl _ _ | with_reducible assumption | with_reducible refine b_alloc ?_ _ | with_reducible refine b_drewN ?_ _ | with_reducible refine b_drew ?_ | with_reducible refine b_set ?_ (by first | (simp only [World.size_setCell, World.size_alloc, World.size_drew]; omega) | (simp; done) | (simp; omega)) _ | with_reducible refine b_step ?_ (by with_reducible assumption)))⟩
  have hq1a : decide ((LL.szT 1048576 sa.size xa.length) < 0) = false := by simpa using hqa
  have hq2a : (LL.szT 1048576 sa.size xa.length) ≤ 1048576 := Int.le_trans (LL.szT_le (by omega) _ _) (by omega)
  obtain ⟨ekPa, fkPa, lkPa⟩ := kPa.cells
  go_wp2_with fail
  refine calls_name (fun W => Below W2.heap.size W2 W) (by repeat' (first | with_reducible exact Below.refl _ _ | with_reducible assumption | with_reducible refine b_alloc ?_ _ | with_reducible refine b_drewN ?_ _ | with_reducible refine b_drew ?_ | with_reducible refine b_set ?_ (by first | (simp only [World.size_setCell, World.size_alloc, World.size_drew]; omega) | (simp; done) | (simp; omega)) _ | with_reducible refine b_step ?_ (by with_reducible assumption))) ?_
  intro W3 hE
  clear ekPa fkPa lkPa
  replace hb := b_step hb hE
  replace kPa := kPa.b hE
  have zW3 := (hE).size
  clear hE
  refine (toProbeTube_c sa xa Aa ca _ (ha.mono hb)).mono ?_
  intro e W4 hM
  obtain ⟨A1a, c1a, rfl, hO1a, hO1ag, hB⟩ := hM
  replace hb := b_step hb hB
  replace kPa := kPa.b hB
  have zW4 := (hB).size
  clear hB
  have hO1al := fun k hk => (hO1a.row.lt k hk).2
  obtain ⟨ekPa, fkPa, lkPa⟩ := kPa.cells
  go_wp2_with fail
  refine calls_name (fun W => Below W4.heap.size W4 W) (by repeat' (first | with_reducible exact Below.refl _ _ | with_reducible assumption | with_reducible refine b_alloc ?_ _ | with_reducible refine b_drewN ?_ _ | with_reducible refine b_drew ?_ | with_reducible refine b_set ?_ (by first | (simp only [World.size_setCell, World.size_alloc, World.size_drew]; omega) | (simp; done) | (simp; omega)) _ | with_reducible refine b_step ?_ (by with_reducible assumption))) ?_
  intro W5 hE
  clear ekPa fkPa lkPa
  replace hb := b_step hb hE
  replace kPa := kPa.b hE
  replace hO1a := hO1a.b hE
  have zW5 := (hE).size
  clear hE
  refine (spec_ProbeTubeOk_c sa xa A1a c1a hsa _ (hO1a.rd_at' boxE)).mono ?_
  rintro e W6 ⟨rfl, hB⟩
  replace hb := b_step hb hB
  replace kPa := kPa.b hB
  replace hO1a := hO1a.b hB
  have zW6 := (hB).size
  clear hB
  obtain ⟨ekPa, fkPa, lkPa⟩ := kPa.cells
  go_wp2_with fail
  refine calls_name (fun W => Below W6.heap.size W6 W) (by repeat' (first | with_reducible exact Below.refl _ _ | with_reducible assumption | with_reducible refine b_alloc ?_ _ | with_reducible refine b_drewN ?_ _ | with_reducible refine b_drew ?_ | with_reducible refine b_set ?_ (by first | (simp only [World.size_setCell, World.size_alloc, World.size_drew]; omega) | (simp; done) | (simp; omega)) _ | with_reducible refine b_step ?_ (by with_reducible assumption))) ?_
  intro W7 hE
  clear ekPa fkPa lkPa
  replace hb := b_step hb hE
  replace kPa := kPa.b hE
  replace hO1a := hO1a.b hE
  have zW7 := (hE).size
  clear hE
  refine (toProbeTube_c sa xa Aa ca _ (ha.mono hb)).mono ?_
  intro e W8 hM
  obtain ⟨Axa, cxa, rfl, hXa, hXag, hB⟩ := hM
  replace hb := b_step hb hB
  replace kPa := kPa.b hB
  replace hO1a := hO1a.b hB
  have zW8 := (hB).size
  clear hB
  have hXal := fun k hk => (hXa.row.lt k hk).2
  obtain ⟨ekPa, fkPa, lkPa⟩ := kPa.cells
  go_wp2_with fail
  refine calls_name (fun W => Below W8.heap.size W8 W ∧ Blk W W8.heap.size #[.string sa, .slice Axa xa.length cxa] 69) ⟨(by repeat' (first | with_reducible exact Below.refl _ _ | with_reducible assumption | with_reducible refine b_alloc ?_ _ | with_reducible refine b_drewN ?_ _ | with_reducible refine b_drew ?_ | with_reducible refine b_set ?_ (by first | (simp only [World.size_setCell, World.size_alloc, World.size_drew]; omega) | (simp; done) | (simp; omega)) _ | with_reducible refine b_step ?_ (by with_reducible assumption))), Blk.new _ _ _⟩ ?_
  rintro W9 ⟨hE, kXa⟩
  clear ekPa fkPa lkPa
  replace hb := b_step hb hE
  replace kPa := kPa.b hE
  replace hO1a := hO1a.b hE
  replace hXa := hXa.b hE
  have zW9 := (hE).size
  clear hE
  have kXal := kXa.cells.2.2
  refine (impl_ProbeTubeOk_c sa xa Axa cxa hsa _ (hXa.rd_at' boxE)).mono ?_
  rintro e W10 ⟨rfl, hB⟩
  replace hb := b_step hb hB
  replace kPa := kPa.b hB
  replace hO1a := hO1a.b hB
  replace hXa := hXa.b hB
  replace kXa := kXa.b hB
  have zW10 := (hB).size
  clear hB
  obtain ⟨ekPa, fkPa, lkPa⟩ := kPa.cells
  obtain ⟨ekXa, fkXa, lkXa⟩ := kXa.cells
  go_wp2_with fail
  refine wp_name (fun W => Below W10.heap.size W10 W) (by repeat' (first | with_reducible exact Below.refl _ _ | with_reducible assumption | with_reducible refine b_alloc ?_ _ | with_reducible refine b_drewN ?_ _ | with_reducible refine b_drew ?_ | with_reducible refine b_set ?_ (by first | (simp only [World.size_setCell, World.size_alloc, World.size_drew]; omega) | (simp; done) | (simp; omega)) _ | with_reducible refine b_step ?_ (by with_reducible assumption))) ?_
  intro W11 hE
  clear ekPa fkPa lkPa ekXa fkXa lkXa
  replace hb := b_step hb hE
  replace kPa := kPa.b hE
  replace hO1a := hO1a.b hE
  replace hXa := hXa.b hE
  replace kXa := kXa.b hE
  have zW11 := (hE).size
  clear hE
  obtain ⟨ekPa, fkPa, lkPa⟩ := kPa.cells
  obtain ⟨ekXa, fkXa, lkXa⟩ := kXa.cells
  refine rel_b [(2, fun v W => ∃ A9 c9, v = .agg #[.string sa, .slice A9 xa.length c9] ∧ Own boxC 6 48 32 W (.slice A9 xa.length c9) xa), (3, fun v _ => v = .bool true)] (by kernel_rfl) (by kernel_rfl) ?_
  ((apply rel_plain (hR := rfl) (hF := fun _ => trivial) (hg := rfl)); (focus ((intro w' hL'); (obtain ⟨hcS, hfS, hlS⟩ := bcell hL'); (try simp only [World.size_setCell, World.size_alloc, World.size_drew] at hcS hfS hlS); (go_simp); (try go_bits); (try (first | (rw [if_pos (by omega)]; done) | (rw [if_neg (by omega)]; done) | (rw [if_pos (by omega)]; go_simp) | (rw [if_neg (by omega)]; go_simp))); (first | with_reducible rfl | exact rfl | skip))); (simp only [Act.put, List.setIfInBounds_toArray, List.set_cons_zero, List.set_cons_succ]))
  ((apply rel_plain (hR := rfl) (hF := fun _ => trivial) (hg := rfl)); (focus ((intro w' hL'); (obtain ⟨hcS, hfS, hlS⟩ := bcell hL'); (try simp only [World.size_setCell, World.size_alloc, World.size_drew] at hcS hfS hlS); (go_simp); (try go_bits); (try (first | (rw [if_pos (by omega)]; done) | (rw [if_neg (by omega)]; done) | (rw [if_pos (by omega)]; go_simp) | (rw [if_neg (by omega)]; go_simp))); (first | with_reducible rfl | exact rfl | skip))); (simp only [Act.put, List.setIfInBounds_toArray, List.set_cons_zero, List.set_cons_succ]))
  ((apply rel_told (hR := rfl) (hg := rfl)); (focus ((intro w' hL' hD'); (obtain ⟨hcS, hfS, hlS⟩ := bcell hL'); (try simp only [World.size_setCell, World.size_alloc, World.size_drew] at hcS hfS hlS); (go_simp); (try go_bits); (try (first | (rw [if_pos (by omega)]; done) | (rw [if_neg (by omega)]; done) | (rw [if_pos (by omega)]; go_simp) | (rw [if_neg (by omega)]; go_simp))); ((go_at_call 41); (refine (toProbeTube_c sa xa Aa ca _ (ha.mono (b_step hb hL'))).mono ?_); (intro e w'' hM); (obtain ⟨A2, c2, rfl, hO2, -, hB⟩ := hM); (refine ⟨_, rfl, hB, ?_⟩); ((repeat (first | (refine Tell.hit rfl ?_) | (refine Tell.skip rfl ?_))); exact ⟨A2, c2, rfl, hO2⟩)))); (intro v' w0' hv'); (replace hv' := Tell.out hv' rfl); (obtain ⟨A2a, c2a, rfl, -⟩ := hv'); (simp only [Act.put, List.setIfInBounds_toArray, List.set_cons_zero, List.set_cons_succ]))
  ((apply rel_told (hR := rfl) (hg := rfl)); (focus ((intro w' hL' hD'); (obtain ⟨hcS, hfS, hlS⟩ := bcell hL'); (try simp only [World.size_setCell, World.size_alloc, World.size_drew] at hcS hfS hlS); (go_simp); (try go_bits); (try (first | (rw [if_pos (by omega)]; done) | (rw [if_neg (by omega)]; done) | (rw [if_pos (by omega)]; go_simp) | (rw [if_neg (by omega)]; go_simp))); ((obtain ⟨w8, hl8, A8, c8, e8, hO8⟩ := Known.out (hD' ⟨2, .data⟩ (by simp) rfl) rfl); (injection e8 with e8; injection e8 with e8; injection e8 with e8y e8a; injection e8a with e8a e8b; injection e8a with e8a e8d e8f; subst e8a e8f); (replace hO8 := hO8.b hl8); ((go_at_call 43); (refine (eqProbeTube_c sa xa _ _ _ _ _ ((hXa.b hL').rd_at' boxE) (hO8.rd_at' boxE)).mono ?_); (rintro e w'' ⟨rfl, hb''⟩); (refine ⟨_, rfl, ?_, ?_⟩); (focus (first | exact hb'' | (subst hb''; exact Le.refl _))); ((repeat (first | (refine Tell.hit rfl ?_) | (refine Tell.skip rfl ?_))); exact rfl))))); (intro v' w0' hv'); (replace hv' := Tell.out hv' rfl); (obtain rfl := hv'); (simp only [Act.put, List.setIfInBounds_toArray, List.set_cons_zero, List.set_cons_succ]))
  ((apply rel_plain (hR := rfl) (hF := fun _ => trivial) (hg := rfl)); (focus ((intro w' hL'); (obtain ⟨hcS, hfS, hlS⟩ := bcell hL'); (try simp only [World.size_setCell, World.size_alloc, World.size_drew] at hcS hfS hlS); (go_simp); (try go_bits); (try (first | (rw [if_pos (by omega)]; done) | (rw [if_neg (by omega)]; done) | (rw [if_pos (by omega)]; go_simp) | (rw [if_neg (by omega)]; go_simp))); (first | with_reducible rfl | exact rfl | skip))); (simp only [Act.put, List.setIfInBounds_toArray, List.set_cons_zero, List.set_cons_succ]))
  refine rel_nil ?_
  intro W12 hE hF9
  clear hF9
  clear ekPa fkPa lkPa ekXa fkXa lkXa
  replace hb := b_step hb hE
  replace kPa := kPa.b hE
  replace hO1a := hO1a.b hE
  replace hXa := hXa.b hE
  replace kXa := kXa.b hE
  have zW12 := (hE).size
  clear hE
  obtain ⟨ekPa, fkPa, lkPa⟩ := kPa.cells
  obtain ⟨ekXa, fkXa, lkXa⟩ := kXa.cells
  go_wp2_with fail
  go_ret
  exact ⟨rfl, (by repeat' (first | with_reducible exact Below.refl _ _ | with_reducible assumption | with_reducible refine b_alloc ?_ _ | with_reducible refine b_drewN ?_ _ | with_reducible refine b_drew ?_ | with_reducible refine b_set ?_ (by first | (simp only [World.size_setCell, World.size_alloc, World.size_drew]; omega) | (simp; done) | (simp; omega)) _ | with_reducible refine b_step ?_ (by with_reducible assumption)))⟩
end Go.Proofs.Ytbpkaoagpndnpaa
