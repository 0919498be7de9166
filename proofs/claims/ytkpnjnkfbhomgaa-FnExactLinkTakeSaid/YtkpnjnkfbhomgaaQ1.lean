/- The walks of the boxes' functions, of the program and of the reference, and of the laws' own helpers for plain structs. -/
import Derived.Test.YtkpnjnkfbhomgaaP1
set_option linter.unusedVariables false
set_option linter.unusedSimpArgs false
namespace Go.Proofs.Ytkpnjnkfbhomgaa
open Go.RowKit
attribute [local go_sem] w_lt_add w_le_of w_le_add max2_i min2_i
theorem toFlyKind_c (q s : Int) (w : World) : Calls Try.prog 79 #[.agg #[.int .i64 q, .int .i64 s]] w fun e w' => e = .returned (.agg #[.int .i64 q, .int .i64 s]) ∧ Below w.heap.size w w' := by
  go_enter Try.func79, Try.ntmps79
  go_wp2
  go_returns
  exact ⟨rfl, (by repeat' (first | with_reducible exact Below.refl _ _ | with_reducible assumption | with_reducible refine b_alloc ?_ _ | with_reducible refine b_drewN ?_ _ | with_reducible refine b_drew ?_ | with_reducible refine b_set ?_ (by first | (simp only [World.size_setCell, World.size_alloc, World.size_drew]; omega) | (simp; done) | (simp; omega)) _ | with_reducible refine b_step ?_ (by with_reducible assumption)))⟩
theorem eqFlyKind_c (q s : Int) (w : World) : Calls Try.prog 82 #[.agg #[.int .i64 q, .int .i64 s], .agg #[.int .i64 q, .int .i64 s]] w fun e w' => e = .returned (.bool true) ∧ Below w.heap.size w w' := by
  go_enter Try.func82, Try.ntmps82
  go_wp2
  go_ret
  exact ⟨rfl, (by repeat' (first | with_reducible exact Below.refl _ _ | with_reducible assumption | with_reducible refine b_alloc ?_ _ | with_reducible refine b_drewN ?_ _ | with_reducible refine b_drew ?_ | with_reducible refine b_set ?_ (by first | (simp only [World.size_setCell, World.size_alloc, World.size_drew]; omega) | (simp; done) | (simp; omega)) _ | with_reducible refine b_step ?_ (by with_reducible assumption)))⟩
theorem impl_ProbeBoxOk_c (b : LL.Box) (w : World) : Calls Try.prog 107 #[.agg #[.int .i64 b.x, .int .i64 b.y, .int .i64 b.lo, .int .i64 b.hi, .int .i64 b.i, .int .i64 b.o]] w fun e w' => e = .returned (.bool (decide (LL.BoxOk b))) ∧ Below w.heap.size w w' := by
  go_enter Try.func107, Try.ntmps107
  go_wp2_with (go_at_call 60; refine (impl_in_c _ _ _ _).mono ?_; rintro e w' ⟨rfl, rfl⟩)
  all_goals go_ret
  all_goals exact ⟨rd_ (by simp [LL.BoxOk, LL.In] at * <;> omega), (by repeat' (first | with_reducible exact Below.refl _ _ | with_reducible assumption | with_reducible refine b_alloc ?_ _ | with_reducible refine b_drewN ?_ _ | with_reducible refine b_drew ?_ | with_reducible refine b_set ?_ (by first | (simp only [World.size_setCell, World.size_alloc, World.size_drew]; omega) | (simp; done) | (simp; omega)) _ | with_reducible refine b_step ?_ (by with_reducible assumption)))⟩
theorem spec_l11In_c (n lo hi : Int) (w : World) : Calls Try.prog 129 #[.int .i64 n, .int .i64 lo, .int .i64 hi] w fun e w' => e = .returned (.bool (decide (LL.In n lo hi))) ∧ w = w' := by
  go_enter Try.func129, Try.ntmps129
  go_wp2
  all_goals go_ret
  all_goals exact ⟨rd_ (by simp [LL.In] at * <;> omega), rfl⟩
theorem spec_ProbeBoxOk_c (b : LL.Box) (w : World) : Calls Try.prog 105 #[.agg #[.int .i64 b.x, .int .i64 b.y, .int .i64 b.lo, .int .i64 b.hi, .int .i64 b.i, .int .i64 b.o]] w fun e w' => e = .returned (.bool (decide (LL.BoxOk b))) ∧ Below w.heap.size w w' := by
  go_enter Try.func105, Try.ntmps105
  go_wp2_with (go_at_call 129; refine (spec_l11In_c _ _ _ _).mono ?_; rintro e w' ⟨rfl, rfl⟩)
  all_goals go_ret
  all_goals exact ⟨rd_ (by simp [LL.BoxOk, LL.In] at * <;> omega), (by repeat' (first | with_reducible exact Below.refl _ _ | with_reducible assumption | with_reducible refine b_alloc ?_ _ | with_reducible refine b_drewN ?_ _ | with_reducible refine b_drew ?_ | with_reducible refine b_set ?_ (by first | (simp only [World.size_setCell, World.size_alloc, World.size_drew]; omega) | (simp; done) | (simp; omega)) _ | with_reducible refine b_step ?_ (by with_reducible assumption)))⟩
theorem toProbeBox_c (b : LL.Box) (w : World) : Calls Try.prog 130 #[.agg #[.int .i64 b.x, .int .i64 b.y, .int .i64 b.lo, .int .i64 b.hi, .int .i64 b.i, .int .i64 b.o]] w fun e w' => e = .returned (.agg #[.int .i64 b.x, .int .i64 b.y, .int .i64 b.lo, .int .i64 b.hi, .int .i64 b.i, .int .i64 b.o]) ∧ Below w.heap.size w w' := by
  go_enter Try.func130, Try.ntmps130
  go_wp2
  go_returns
  exact ⟨rfl, (by repeat' (first | with_reducible exact Below.refl _ _ | with_reducible assumption | with_reducible refine b_alloc ?_ _ | with_reducible refine b_drewN ?_ _ | with_reducible refine b_drew ?_ | with_reducible refine b_set ?_ (by first | (simp only [World.size_setCell, World.size_alloc, World.size_drew]; omega) | (simp; done) | (simp; omega)) _ | with_reducible refine b_step ?_ (by with_reducible assumption)))⟩
theorem eqProbeBox_c (b : LL.Box) (w : World) : Calls Try.prog 131 #[.agg #[.int .i64 b.x, .int .i64 b.y, .int .i64 b.lo, .int .i64 b.hi, .int .i64 b.i, .int .i64 b.o], .agg #[.int .i64 b.x, .int .i64 b.y, .int .i64 b.lo, .int .i64 b.hi, .int .i64 b.i, .int .i64 b.o]] w fun e w' => e = .returned (.bool true) ∧ Below w.heap.size w w' := by
  go_enter Try.func131, Try.ntmps131
  go_wp2
  go_ret
  exact ⟨rfl, (by repeat' (first | with_reducible exact Below.refl _ _ | with_reducible assumption | with_reducible refine b_alloc ?_ _ | with_reducible refine b_drewN ?_ _ | with_reducible refine b_drew ?_ | with_reducible refine b_set ?_ (by first | (simp only [World.size_setCell, World.size_alloc, World.size_drew]; omega) | (simp; done) | (simp; omega)) _ | with_reducible refine b_step ?_ (by with_reducible assumption)))⟩
theorem spec_l11Close_c (a b : LL.Box) (ha : LL.BoxOk a) (hb : LL.BoxOk b) (w : World) : Calls Try.prog 161 #[.agg #[.int .i64 a.x, .int .i64 a.y, .int .i64 a.lo, .int .i64 a.hi, .int .i64 a.i, .int .i64 a.o], .agg #[.int .i64 b.x, .int .i64 b.y, .int .i64 b.lo, .int .i64 b.hi, .int .i64 b.i, .int .i64 b.o]] w fun e w' => e = .returned (.tuple #[.int .i64 (LL.touchT a b), .bool (decide (LL.Touch a b))]) ∧ Below w.heap.size w w' := by
  obtain ⟨⟨a1, a2⟩, ⟨a3, a4⟩, -⟩ := ha
  obtain ⟨⟨b1, b2⟩, ⟨b3, b4⟩, -⟩ := hb
  go_enter Try.func161, Try.ntmps161
  go_wp2_with (go_at_call 129; refine (spec_l11In_c _ _ _ _).mono ?_; rintro e w' ⟨rfl, rfl⟩)
  all_goals go_ret2
  all_goals exact ⟨rt2 (by simp [LL.Touch, LL.In] at * <;> omega) (by simp only [LL.touchT]; split <;> (simp [LL.Touch, LL.In] at * <;> omega)), (by repeat' (first | with_reducible exact Below.refl _ _ | with_reducible assumption | with_reducible refine b_alloc ?_ _ | with_reducible refine b_drewN ?_ _ | with_reducible refine b_drew ?_ | with_reducible refine b_set ?_ (by first | (simp only [World.size_setCell, World.size_alloc, World.size_drew]; omega) | (simp; done) | (simp; omega)) _ | with_reducible refine b_step ?_ (by with_reducible assumption)))⟩
set_option maxHeartbeats 2000000 in
theorem impl_ProbeClose_c (a b : LL.Box) (w : World) : Calls Try.prog 149 #[.agg #[.int .i64 a.x, .int .i64 a.y, .int .i64 a.lo, .int .i64 a.hi, .int .i64 a.i, .int .i64 a.o], .agg #[.int .i64 b.x, .int .i64 b.y, .int .i64 b.lo, .int .i64 b.hi, .int .i64 b.i, .int .i64 b.o]] w fun e w' => e = .returned (.tuple #[.int .i64 (LL.nearT a b), .bool (decide (LL.Near a b))]) ∧ Below w.heap.size w w' := by
  by_cases hA : LL.BoxOk a
  · by_cases hB : LL.BoxOk b
    · obtain ⟨⟨a1, a2⟩, ⟨a3, a4⟩, a5, a6, a7, a8, a9, a10⟩ := id hA
      obtain ⟨⟨b1, b2⟩, ⟨b3, b4⟩, b5, b6, b7, b8, b9, b10⟩ := id hB
      go_enter Try.func149, Try.ntmps149
      go_wp2_with (first | (go_at_call 107; go_loud (refine (impl_ProbeBoxOk_c _ _).mono ?_); rintro e w1 ⟨rfl, hb⟩; (repeat (with_reducible first | replace hb := b_un hb | replace hb := b_unN hb)); obtain ⟨hc, hf, hl⟩ := bcell hb; obtain ⟨gc, gf, gl⟩ := bcell (b_step (w := w) (by repeat' (first | with_reducible exact Below.refl _ _ | with_reducible assumption | with_reducible refine b_alloc ?_ _ | with_reducible refine b_drewN ?_ _ | with_reducible refine b_drew ?_ | with_reducible refine b_set ?_ (by first | (simp only [World.size_setCell, World.size_alloc, World.size_drew]; omega) | (simp; done) | (simp; omega)) _ | with_reducible refine b_step ?_ (by with_reducible assumption))) hb); have hz := hb.size; (try simp at hz); have yw1_0 : w.heap.size < w1.heap.size := (by omega)) | (go_at_call 60; refine (impl_in_c _ _ _ _).mono ?_; rintro e w' ⟨rfl, rfl⟩))
      all_goals go_ret2
      all_goals (refine ⟨rt2 ?_ ?_, (by repeat' (first | with_reducible exact Below.refl _ _ | with_reducible assumption | with_reducible refine b_alloc ?_ _ | with_reducible refine b_drewN ?_ _ | with_reducible refine b_drew ?_ | with_reducible refine b_set ?_ (by first | (simp only [World.size_setCell, World.size_alloc, World.size_drew]; omega) | (simp; done) | (simp; omega)) _ | with_reducible refine b_step ?_ (by with_reducible assumption)))⟩ <;> clear hc hf hl gc gf gl <;> go_light)
      all_goals simp only [LL.nearT, LL.Near, LL.Touch, hA, hB, true_and, LL.In, mx, mn, Bool.false_eq_true, iff_true, iff_false, true_iff, false_iff] at *
      all_goals (try split)
      all_goals omega
    · go_enter Try.func149, Try.ntmps149
      go_wp2_with (first | (go_at_call 107; go_loud (refine (impl_ProbeBoxOk_c _ _).mono ?_); rintro e w1 ⟨rfl, hb⟩; (repeat (with_reducible first | replace hb := b_un hb | replace hb := b_unN hb)); obtain ⟨hc, hf, hl⟩ := bcell hb; obtain ⟨gc, gf, gl⟩ := bcell (b_step (w := w) (by repeat' (first | with_reducible exact Below.refl _ _ | with_reducible assumption | with_reducible refine b_alloc ?_ _ | with_reducible refine b_drewN ?_ _ | with_reducible refine b_drew ?_ | with_reducible refine b_set ?_ (by first | (simp only [World.size_setCell, World.size_alloc, World.size_drew]; omega) | (simp; done) | (simp; omega)) _ | with_reducible refine b_step ?_ (by with_reducible assumption))) hb); have hz := hb.size; (try simp at hz); have yw1_0 : w.heap.size < w1.heap.size := (by omega)) | (go_at_call 60; refine (impl_in_c _ _ _ _).mono ?_; rintro e w' ⟨rfl, rfl⟩))
      all_goals go_ret2
      all_goals exact ⟨rt2 (by simp [LL.Near, hB]) (by simp [LL.nearT, LL.Near, hB]), (by repeat' (first | with_reducible exact Below.refl _ _ | with_reducible assumption | with_reducible refine b_alloc ?_ _ | with_reducible refine b_drewN ?_ _ | with_reducible refine b_drew ?_ | with_reducible refine b_set ?_ (by first | (simp only [World.size_setCell, World.size_alloc, World.size_drew]; omega) | (simp; done) | (simp; omega)) _ | with_reducible refine b_step ?_ (by with_reducible assumption)))⟩
  · go_enter Try.func149, Try.ntmps149
    go_wp2_with (first | (go_at_call 107; go_loud (refine (impl_ProbeBoxOk_c _ _).mono ?_); rintro e w1 ⟨rfl, hb⟩; (repeat (with_reducible first | replace hb := b_un hb | replace hb := b_unN hb)); obtain ⟨hc, hf, hl⟩ := bcell hb; obtain ⟨gc, gf, gl⟩ := bcell (b_step (w := w) (by repeat' (first | with_reducible exact Below.refl _ _ | with_reducible assumption | with_reducible refine b_alloc ?_ _ | with_reducible refine b_drewN ?_ _ | with_reducible refine b_drew ?_ | with_reducible refine b_set ?_ (by first | (simp only [World.size_setCell, World.size_alloc, World.size_drew]; omega) | (simp; done) | (simp; omega)) _ | with_reducible refine b_step ?_ (by with_reducible assumption))) hb); have hz := hb.size; (try simp at hz); have yw1_0 : w.heap.size < w1.heap.size := (by omega)) | (go_at_call 60; refine (impl_in_c _ _ _ _).mono ?_; rintro e w' ⟨rfl, rfl⟩))
    all_goals go_ret2
    all_goals exact ⟨rt2 (by simp [LL.Near, hA]) (by simp [LL.nearT, LL.Near, hA]), (by repeat' (first | with_reducible exact Below.refl _ _ | with_reducible assumption | with_reducible refine b_alloc ?_ _ | with_reducible refine b_drewN ?_ _ | with_reducible refine b_drew ?_ | with_reducible refine b_set ?_ (by first | (simp only [World.size_setCell, World.size_alloc, World.size_drew]; omega) | (simp; done) | (simp; omega)) _ | with_reducible refine b_step ?_ (by with_reducible assumption)))⟩
end Go.Proofs.Ytkpnjnkfbhomgaa
