/- What is drawn: kinds, steps. -/
import Derived.Test.YtpeojnknfonmlaaRA
import Derived.Test.YtpeojnknfonmlaaJ2
set_option linter.unusedVariables false
set_option linter.unusedSimpArgs false
namespace Go.Proofs.Ytpeojnknfonmlaa
open Go.RowKit
theorem spec_l10Less_c (a b : Int) (w : World) : Calls Try.prog 108 #[.int .i64 a, .int .i64 b] w fun e w' => (∃ v, e = .returned (.int .i64 v)) ∧ w = w' := by
  go_enter Try.func108, Try.ntmps108
  go_wp2
  all_goals go_ret
  all_goals exact ⟨⟨_, rfl⟩, rfl⟩
set_option maxRecDepth 100000 in
set_option maxHeartbeats 2000000 in
theorem spec_l10Kind_c (g N : Nat) (w : World) (hr : Rdr 121 w g N) (hN : N ≤ 1000000) : Calls Try.prog 107 #[.pointer (some ⟨g, 0, none⟩)] w fun e w' => ∃ q s, e = .returned (.agg #[.int .i64 q, .int .i64 s]) ∧ GrownS w w' (fun k => k = g) ∧ Rdr 121 w' g (N + 4) := by
  have hlt := hr.lt
  have n0 : w.heap.size ≠ g := by omega
  have n1 : w.heap.size + 1 ≠ g := by omega
  go_enter Try.func107, Try.ntmps107
  go_wp2_with (go_at_call 69; (refine pick_mono (N := ?_) ?_ ?_ ?_); (rotate_left); (focus (exact (by repeat' (first | with_reducible assumption | with_reducible refine Rdr.a ?_ _ | with_reducible refine Rdr.d ?_ | with_reducible refine Rdr.s1 ?_ (by omega) _ _ | with_reducible refine Rdr.b ?_ (by with_reducible assumption))))); (focus omega); intro v1 w1 hv0 hv1 hg1 hr1; obtain ⟨hc, hf⟩ := gcell1 hg1; (try simp only [World.size_drew] at hc hf); have hz := hg1.size; (try simp only [World.size_setCell, World.size_alloc, World.size_drew] at hz); have yw1_0 : w.heap.size < w1.heap.size := (by omega))
  go_cut [2, 3] (fun v2 v3 wc => v2 = .pointer (some ⟨w.heap.size, 0, none⟩) ∧ ∃ b q s, v3 = .pointer (some ⟨b, 0, none⟩) ∧ w.heap.size < b ∧ Blk wc b #[.int .i64 q, .int .i64 s] 40 ∧ Blk wc w.heap.size #[.int .i64 0, .int .i64 0] 40 ∧ GrownS w wc (fun k => k = g) ∧ Rdr 121 wc g (N + 2))
  case first =>
    have n2 : w1.heap.size ≠ g := by omega
    go_region_with (go_at_call 69; (refine pick_mono (N := ?_) ?_ ?_ ?_); (rotate_left); (focus (exact (by repeat' (first | with_reducible assumption | with_reducible refine Rdr.a ?_ _ | with_reducible refine Rdr.d ?_ | with_reducible refine Rdr.s1 ?_ (by omega) _ _ | with_reducible refine Rdr.b ?_ (by with_reducible assumption))))); (focus omega); intro v1 w2 hv0 hv1 hg1 hr1; obtain ⟨hc, hf⟩ := gcell1 hg1; (try simp only [World.size_drew] at hc hf); have hz := hg1.size; (try simp only [World.size_setCell, World.size_alloc, World.size_drew] at hz); have yw2_0 : w.heap.size < w2.heap.size := (by omega); have yw2_1 : w1.heap.size < w2.heap.size := (by omega))
    all_goals (try simp only [List.getElem_toArray, List.getElem_cons_succ, List.getElem_cons_zero, Act.put, List.setIfInBounds_toArray, List.set_cons_zero, List.set_cons_succ])
    all_goals go_wp2
    all_goals (go_meet; case rel => exact ⟨rfl, w1.heap.size, _, _, rfl, by omega, (show Blk w2 w1.heap.size #[_, _] _ from (by repeat' (first | with_reducible assumption | with_reducible exact Blk.new _ _ _ | with_reducible exact Blk.new' _ _ (by simp only [World.size_alloc, World.size_setCell, World.size_drew]) | with_reducible exact Blk.new' _ _ (by omega) | with_reducible refine Blk.a ?_ _ | with_reducible refine Blk.d ?_ | with_reducible refine Blk.dN ?_ _ | with_reducible refine Blk.s ?_ (by simp only [ne_eq]; omega) _ | with_reducible refine Blk.b ?_ (by with_reducible assumption) | with_reducible refine Blk.g1 ?_ (by with_reducible assumption) (by omega)))).put 1 _, (by repeat' (first | with_reducible assumption | with_reducible exact Blk.new _ _ _ | with_reducible exact Blk.new' _ _ (by simp only [World.size_alloc, World.size_setCell, World.size_drew]) | with_reducible exact Blk.new' _ _ (by omega) | with_reducible refine Blk.a ?_ _ | with_reducible refine Blk.d ?_ | with_reducible refine Blk.dN ?_ _ | with_reducible refine Blk.s ?_ (by simp only [ne_eq]; omega) _ | with_reducible refine Blk.b ?_ (by with_reducible assumption) | with_reducible refine Blk.g1 ?_ (by with_reducible assumption) (by omega))), (by repeat' (first | with_reducible exact GrownS.refl _ _ | with_reducible assumption | with_reducible refine gr_alloc ?_ _ | with_reducible refine gr_drew ?_ | with_reducible refine gr_s1 ?_ (by omega) _ _ | with_reducible refine GrownS.trans ?_ (by with_reducible assumption) | with_reducible refine gr_b ?_ (by with_reducible assumption))), (by repeat' (first | with_reducible assumption | with_reducible refine Rdr.a ?_ _ | with_reducible refine Rdr.d ?_ | with_reducible refine Rdr.s1 ?_ (by omega) _ _ | with_reducible refine Rdr.b ?_ (by with_reducible assumption)))⟩)
  obtain ⟨rfl, b, q, s, rfl, hb, kK, kR, hG, hR⟩ := hcut
  clear hc hf hz hr1 hg1
  obtain ⟨e0, f0, l0⟩ := kR.cells
  obtain ⟨e1, f1, l1⟩ := kK.cells
  have n2 : b ≠ g := by omega
  go_wp2_with (go_at_call 69; (refine pick_mono (N := ?_) ?_ ?_ ?_); (rotate_left); (focus (exact (by repeat' (first | with_reducible assumption | with_reducible refine Rdr.a ?_ _ | with_reducible refine Rdr.d ?_ | with_reducible refine Rdr.s1 ?_ (by omega) _ _ | with_reducible refine Rdr.b ?_ (by with_reducible assumption))))); (focus omega); intro v1 w3 hv0 hv1 hg1 hr1; obtain ⟨hc, hf⟩ := gcell1 hg1; (try simp only [World.size_drew] at hc hf); have hz := hg1.size; (try simp only [World.size_setCell, World.size_alloc, World.size_drew] at hz); have yw3_0 : w.heap.size < w3.heap.size := (by omega); have yw3_1 : b < w3.heap.size := (by omega))
  · (refine bodyPost_ret (res_c rfl _ [.int .i64 q, .int .i64 50] rfl _ Try.underlying40 rfl (by kernel_rfl) (by simp only [CellsAt, and_true]; and_intros <;> go_simp)) rfl ?_)
    exact ⟨_, _, rfl, (by repeat' (first | with_reducible exact GrownS.refl _ _ | with_reducible assumption | with_reducible refine gr_alloc ?_ _ | with_reducible refine gr_drew ?_ | with_reducible refine gr_s1 ?_ (by omega) _ _ | with_reducible refine GrownS.trans ?_ (by with_reducible assumption) | with_reducible refine gr_b ?_ (by with_reducible assumption))), Rdr.up (N := N + 2 + 1) (by repeat' (first | with_reducible assumption | with_reducible refine Rdr.a ?_ _ | with_reducible refine Rdr.d ?_ | with_reducible refine Rdr.s1 ?_ (by omega) _ _ | with_reducible refine Rdr.b ?_ (by with_reducible assumption))) (by omega)⟩
  · (refine bodyPost_ret (res_c rfl _ [.int .i64 q, .int .i64 s] rfl _ Try.underlying40 rfl (by kernel_rfl) (by simp only [CellsAt, and_true]; and_intros <;> go_simp)) rfl ?_)
    exact ⟨_, _, rfl, (by repeat' (first | with_reducible exact GrownS.refl _ _ | with_reducible assumption | with_reducible refine gr_alloc ?_ _ | with_reducible refine gr_drew ?_ | with_reducible refine gr_s1 ?_ (by omega) _ _ | with_reducible refine GrownS.trans ?_ (by with_reducible assumption) | with_reducible refine gr_b ?_ (by with_reducible assumption))), Rdr.up (N := N + 2 + 1) (by repeat' (first | with_reducible assumption | with_reducible refine Rdr.a ?_ _ | with_reducible refine Rdr.d ?_ | with_reducible refine Rdr.s1 ?_ (by omega) _ _ | with_reducible refine Rdr.b ?_ (by with_reducible assumption))) (by omega)⟩
theorem l10Kind_mono {Q : Ending → World → Prop} {g N : Nat} {w : World} (hr : Rdr 121 w g N) (hN : N ≤ 1000000) (hk : ∀ q s w', GrownS w w' (fun k => k = g) → Rdr 121 w' g (N + 4) → Q (.returned (.agg #[.int .i64 q, .int .i64 s])) w') : Calls Try.prog 107 #[.pointer (some ⟨g, 0, none⟩)] w Q :=
  (spec_l10Kind_c g N w hr hN).mono fun e w' ⟨q, s, he, hg, hr'⟩ => by subst he; exact hk q s w' hg hr'
set_option maxRecDepth 100000 in
set_option maxHeartbeats 2000000 in
theorem spec_l10Step_c (g N : Nat) (x y : Int) (w : World) (hr : Rdr 121 w g N) (hN : N ≤ 1000000) : Calls Try.prog 106 #[.pointer (some ⟨g, 0, none⟩), .int .i64 x, .int .i64 y] w fun e w' => ∃ a b, e = .returned (.tuple #[.int .i64 a, .int .i64 b]) ∧ GrownS w w' (fun k => k = g) ∧ Rdr 121 w' g (N + 40) := by
  have hlt := hr.lt
  go_enter Try.func106, Try.ntmps106
  go_wp2
  go_loopw [8, 9, 10] (fun f a b w3 => ∃ i : Nat, i ≤ 20 ∧ f = .int .i64 i ∧ GrownS w w3 (fun k => k = g) ∧ Rdr 121 w3 g (N + 2 * i)) (fun f _ _ _ => 20 - (intOf f).toNat)
  case atStart => exact ⟨0, by omega, rfl, GrownS.refl _ _, hr⟩
  case round =>
    obtain ⟨i, hi, rfl, hG, hR⟩ := hrel
    by_cases hlt : i < 20
    · go_wp2_with (first | (go_at_call 69; (refine pick_mono (N := ?_) ?_ ?_ ?_); (rotate_left); (focus (exact (by repeat' (first | with_reducible assumption | with_reducible refine Rdr.a ?_ _ | with_reducible refine Rdr.d ?_ | with_reducible refine Rdr.s1 ?_ (by omega) _ _ | with_reducible refine Rdr.b ?_ (by with_reducible assumption))))); (focus omega); intro v1 w4 hv0 hv1 hg1 hr1; obtain ⟨hc, hf⟩ := gcell1 hg1; (try simp only [World.size_drew] at hc hf); have hz := hg1.size; (try simp only [World.size_setCell, World.size_alloc, World.size_drew] at hz); skip) | (go_at_call 72; refine (spec_l1In_c _ _ _ _).mono ?_; rintro e w' ⟨rfl, rfl⟩))
      all_goals (first | (go_ret2; exact ⟨_, _, rfl, (by repeat' (first | with_reducible exact GrownS.refl _ _ | with_reducible assumption | with_reducible refine gr_alloc ?_ _ | with_reducible refine gr_drew ?_ | with_reducible refine gr_s1 ?_ (by omega) _ _ | with_reducible refine GrownS.trans ?_ (by with_reducible assumption) | with_reducible refine gr_b ?_ (by with_reducible assumption))), Rdr.up (N := N + 2 * i + 1 + 1) (by repeat' (first | with_reducible assumption | with_reducible refine Rdr.a ?_ _ | with_reducible refine Rdr.d ?_ | with_reducible refine Rdr.s1 ?_ (by omega) _ _ | with_reducible refine Rdr.b ?_ (by with_reducible assumption))) (by omega)⟩) | exact ⟨⟨i + 1, by omega, by go_num, (by repeat' (first | with_reducible exact GrownS.refl _ _ | with_reducible assumption | with_reducible refine gr_alloc ?_ _ | with_reducible refine gr_drew ?_ | with_reducible refine gr_s1 ?_ (by omega) _ _ | with_reducible refine GrownS.trans ?_ (by with_reducible assumption) | with_reducible refine gr_b ?_ (by with_reducible assumption))), Rdr.up (N := N + 2 * i + 1 + 1) (by repeat' (first | with_reducible assumption | with_reducible refine Rdr.a ?_ _ | with_reducible refine Rdr.d ?_ | with_reducible refine Rdr.s1 ?_ (by omega) _ _ | with_reducible refine Rdr.b ?_ (by with_reducible assumption))) (by omega)⟩, by simp [intOf]; omega⟩)
    · go_wp2
      all_goals (go_ret2; exact ⟨_, _, rfl, (by repeat' (first | with_reducible exact GrownS.refl _ _ | with_reducible assumption | with_reducible refine gr_alloc ?_ _ | with_reducible refine gr_drew ?_ | with_reducible refine gr_s1 ?_ (by omega) _ _ | with_reducible refine GrownS.trans ?_ (by with_reducible assumption) | with_reducible refine gr_b ?_ (by with_reducible assumption))), Rdr.up (N := N + 2 * i) (by repeat' (first | with_reducible assumption | with_reducible refine Rdr.a ?_ _ | with_reducible refine Rdr.d ?_ | with_reducible refine Rdr.s1 ?_ (by omega) _ _ | with_reducible refine Rdr.b ?_ (by with_reducible assumption))) (by omega)⟩)
theorem l10Step_mono {Q : Ending → World → Prop} {g N : Nat} {x y : Int} {w : World} (hr : Rdr 121 w g N) (hN : N ≤ 1000000) (hk : ∀ a b w', GrownS w w' (fun k => k = g) → Rdr 121 w' g (N + 40) → Q (.returned (.tuple #[.int .i64 a, .int .i64 b])) w') : Calls Try.prog 106 #[.pointer (some ⟨g, 0, none⟩), .int .i64 x, .int .i64 y] w Q :=
  (spec_l10Step_c g N x y w hr hN).mono fun e w' ⟨a, b, he, hg, hr'⟩ => by subst he; exact hk a b w' hg hr'
end Go.Proofs.Ytpeojnknfonmlaa
