/- The walks of the boxes' functions, of the program and of the reference, and of the laws' own helpers for plain structs. -/
import Derived.Test.YtbpkaoagpndnpaaP1
set_option linter.unusedVariables false
set_option linter.unusedSimpArgs false
namespace Go.Proofs.Ytbpkaoagpndnpaa
open Go.RowKit
attribute [local go_sem] w_lt_add w_le_of w_le_add max2_i min2_i
theorem toFlyKind_c (q s : Int) (w : World) : Calls Try.prog 16 #[.agg #[.int .i64 q, .int .i64 s]] w fun e w' => e = .returned (.agg #[.int .i64 q, .int .i64 s]) ∧ Below w.heap.size w w' := by
  go_enter Try.func16, Try.ntmps16
  go_wp2
  go_returns
  exact ⟨rfl, (by repeat' (first | exact Below.refl _ _ | exact ‹Below _ _ _› | refine b_alloc ?_ _ | refine b_drewN ?_ _ | refine b_drew ?_ | refine b_step ?_ (by assumption)))⟩
theorem eqFlyKind_c (q s : Int) (w : World) : Calls Try.prog 64 #[.agg #[.int .i64 q, .int .i64 s], .agg #[.int .i64 q, .int .i64 s]] w fun e w' => e = .returned (.bool true) ∧ Below w.heap.size w w' := by
  go_enter Try.func64, Try.ntmps64
  go_wp2
  go_ret
  exact ⟨rfl, (by repeat' (first | exact Below.refl _ _ | exact ‹Below _ _ _› | refine b_alloc ?_ _ | refine b_drewN ?_ _ | refine b_drew ?_ | refine b_step ?_ (by assumption)))⟩
theorem FnExactFlyKindOk_c (q s : Int) (w : World) : Calls Try.prog 4 #[.agg #[.int .i64 q, .int .i64 s]] w fun e w' => e = .returned (.bool true) ∧ Below w.heap.size w w' := by
  go_enter Try.func4, Try.ntmps4
  go_wp2_with (first | (go_at_call 16; refine (toFlyKind_c _ _ _).mono ?_; rintro e w1 ⟨rfl, hb⟩; (repeat (with_reducible first | replace hb := b_un hb | replace hb := b_unN hb)); obtain ⟨hc, hf, hl⟩ := bcell hb; obtain ⟨gc, gf, gl⟩ := bcell (b_step (w := w) (by repeat' (first | exact Below.refl _ _ | exact ‹Below _ _ _› | refine b_alloc ?_ _ | refine b_drewN ?_ _ | refine b_drew ?_ | refine b_step ?_ (by assumption))) hb); have hz := hb.size; (try simp at hz); have yw1_0 : w.heap.size < w1.heap.size := (by omega)) | (go_at_call 15; refine (spec_FlyKindOk_c _ _ _).mono ?_; rintro e w1 ⟨rfl, hb⟩; (repeat (with_reducible first | replace hb := b_un hb | replace hb := b_unN hb)); obtain ⟨hc, hf, hl⟩ := bcell hb; obtain ⟨gc, gf, gl⟩ := bcell (b_step (w := w) (by repeat' (first | exact Below.refl _ _ | exact ‹Below _ _ _› | refine b_alloc ?_ _ | refine b_drewN ?_ _ | refine b_drew ?_ | refine b_step ?_ (by assumption))) hb); have hz := hb.size; (try simp at hz); have yw1_0 : w.heap.size < w1.heap.size := (by omega)) | (go_at_call 17; refine (impl_FlyKindOk_c _ _ _).mono ?_; rintro e w1 ⟨rfl, hb⟩; (repeat (with_reducible first | replace hb := b_un hb | replace hb := b_unN hb)); obtain ⟨hc, hf, hl⟩ := bcell hb; obtain ⟨gc, gf, gl⟩ := bcell (b_step (w := w) (by repeat' (first | exact Below.refl _ _ | exact ‹Below _ _ _› | refine b_alloc ?_ _ | refine b_drewN ?_ _ | refine b_drew ?_ | refine b_step ?_ (by assumption))) hb); have hz := hb.size; (try simp at hz); have yw1_0 : w.heap.size < w1.heap.size := (by omega)) | (go_at_call 64; refine (eqFlyKind_c _ _ _).mono ?_; rintro e w1 ⟨rfl, hb⟩; (repeat (with_reducible first | replace hb := b_un hb | replace hb := b_unN hb)); obtain ⟨hc, hf, hl⟩ := bcell hb; obtain ⟨gc, gf, gl⟩ := bcell (b_step (w := w) (by repeat' (first | exact Below.refl _ _ | exact ‹Below _ _ _› | refine b_alloc ?_ _ | refine b_drewN ?_ _ | refine b_drew ?_ | refine b_step ?_ (by assumption))) hb); have hz := hb.size; (try simp at hz); have yw1_0 : w.heap.size < w1.heap.size := (by omega)))
  all_goals go_ret
  all_goals exact ⟨rfl, (by repeat' (first | exact Below.refl _ _ | exact ‹Below _ _ _› | refine b_alloc ?_ _ | refine b_drewN ?_ _ | refine b_drew ?_ | refine b_step ?_ (by assumption)))⟩
theorem impl_ProbeBoxOk_c (b : LL.Box) (w : World) : Calls Try.prog 20 #[.agg #[.int .i64 b.x, .int .i64 b.y, .int .i64 b.lo, .int .i64 b.hi, .int .i64 b.i, .int .i64 b.o]] w fun e w' => e = .returned (.bool (decide (LL.BoxOk b))) ∧ Below w.heap.size w w' := by
  go_enter Try.func20, Try.ntmps20
  go_wp2_with (go_at_call 55; refine (impl_in_c _ _ _ _).mono ?_; rintro e w' ⟨rfl, rfl⟩)
  all_goals go_ret
  all_goals exact ⟨rd_ (by simp [LL.BoxOk, LL.In] at * <;> omega), (by repeat' (first | exact Below.refl _ _ | exact ‹Below _ _ _› | refine b_alloc ?_ _ | refine b_drewN ?_ _ | refine b_drew ?_ | refine b_step ?_ (by assumption)))⟩
theorem spec_l11In_c (n lo hi : Int) (w : World) : Calls Try.prog 54 #[.int .i64 n, .int .i64 lo, .int .i64 hi] w fun e w' => e = .returned (.bool (decide (LL.In n lo hi))) ∧ w = w' := by
  go_enter Try.func54, Try.ntmps54
  go_wp2
  all_goals go_ret
  all_goals exact ⟨rd_ (by simp [LL.In] at * <;> omega), rfl⟩
theorem spec_ProbeBoxOk_c (b : LL.Box) (w : World) : Calls Try.prog 18 #[.agg #[.int .i64 b.x, .int .i64 b.y, .int .i64 b.lo, .int .i64 b.hi, .int .i64 b.i, .int .i64 b.o]] w fun e w' => e = .returned (.bool (decide (LL.BoxOk b))) ∧ Below w.heap.size w w' := by
  go_enter Try.func18, Try.ntmps18
  go_wp2_with (go_at_call 54; refine (spec_l11In_c _ _ _ _).mono ?_; rintro e w' ⟨rfl, rfl⟩)
  all_goals go_ret
  all_goals exact ⟨rd_ (by simp [LL.BoxOk, LL.In] at * <;> omega), (by repeat' (first | exact Below.refl _ _ | exact ‹Below _ _ _› | refine b_alloc ?_ _ | refine b_drewN ?_ _ | refine b_drew ?_ | refine b_step ?_ (by assumption)))⟩
theorem toProbeBox_c (b : LL.Box) (w : World) : Calls Try.prog 19 #[.agg #[.int .i64 b.x, .int .i64 b.y, .int .i64 b.lo, .int .i64 b.hi, .int .i64 b.i, .int .i64 b.o]] w fun e w' => e = .returned (.agg #[.int .i64 b.x, .int .i64 b.y, .int .i64 b.lo, .int .i64 b.hi, .int .i64 b.i, .int .i64 b.o]) ∧ Below w.heap.size w w' := by
  go_enter Try.func19, Try.ntmps19
  go_wp2
  go_returns
  exact ⟨rfl, (by repeat' (first | exact Below.refl _ _ | exact ‹Below _ _ _› | refine b_alloc ?_ _ | refine b_drewN ?_ _ | refine b_drew ?_ | refine b_step ?_ (by assumption)))⟩
theorem eqProbeBox_c (b : LL.Box) (w : World) : Calls Try.prog 77 #[.agg #[.int .i64 b.x, .int .i64 b.y, .int .i64 b.lo, .int .i64 b.hi, .int .i64 b.i, .int .i64 b.o], .agg #[.int .i64 b.x, .int .i64 b.y, .int .i64 b.lo, .int .i64 b.hi, .int .i64 b.i, .int .i64 b.o]] w fun e w' => e = .returned (.bool true) ∧ Below w.heap.size w w' := by
  go_enter Try.func77, Try.ntmps77
  go_wp2
  go_ret
  exact ⟨rfl, (by repeat' (first | exact Below.refl _ _ | exact ‹Below _ _ _› | refine b_alloc ?_ _ | refine b_drewN ?_ _ | refine b_drew ?_ | refine b_step ?_ (by assumption)))⟩
theorem FnExactProbeBoxOk_c (b : LL.Box) (w : World) : Calls Try.prog 5 #[.agg #[.int .i64 b.x, .int .i64 b.y, .int .i64 b.lo, .int .i64 b.hi, .int .i64 b.i, .int .i64 b.o]] w fun e w' => e = .returned (.bool true) ∧ Below w.heap.size w w' := by
  go_enter Try.func5, Try.ntmps5
  go_wp2_with (first | (go_at_call 19; refine (toProbeBox_c _ _).mono ?_; rintro e w1 ⟨rfl, hb⟩; (repeat (with_reducible first | replace hb := b_un hb | replace hb := b_unN hb)); obtain ⟨hc, hf, hl⟩ := bcell hb; obtain ⟨gc, gf, gl⟩ := bcell (b_step (w := w) (by repeat' (first | exact Below.refl _ _ | exact ‹Below _ _ _› | refine b_alloc ?_ _ | refine b_drewN ?_ _ | refine b_drew ?_ | refine b_step ?_ (by assumption))) hb); have hz := hb.size; (try simp at hz); have yw1_0 : w.heap.size < w1.heap.size := (by omega)) | (go_at_call 18; refine (spec_ProbeBoxOk_c _ _).mono ?_; rintro e w1 ⟨rfl, hb⟩; (repeat (with_reducible first | replace hb := b_un hb | replace hb := b_unN hb)); obtain ⟨hc, hf, hl⟩ := bcell hb; obtain ⟨gc, gf, gl⟩ := bcell (b_step (w := w) (by repeat' (first | exact Below.refl _ _ | exact ‹Below _ _ _› | refine b_alloc ?_ _ | refine b_drewN ?_ _ | refine b_drew ?_ | refine b_step ?_ (by assumption))) hb); have hz := hb.size; (try simp at hz); have yw1_0 : w.heap.size < w1.heap.size := (by omega)) | (go_at_call 20; refine (impl_ProbeBoxOk_c _ _).mono ?_; rintro e w1 ⟨rfl, hb⟩; (repeat (with_reducible first | replace hb := b_un hb | replace hb := b_unN hb)); obtain ⟨hc, hf, hl⟩ := bcell hb; obtain ⟨gc, gf, gl⟩ := bcell (b_step (w := w) (by repeat' (first | exact Below.refl _ _ | exact ‹Below _ _ _› | refine b_alloc ?_ _ | refine b_drewN ?_ _ | refine b_drew ?_ | refine b_step ?_ (by assumption))) hb); have hz := hb.size; (try simp at hz); have yw1_0 : w.heap.size < w1.heap.size := (by omega)) | (go_at_call 77; refine (eqProbeBox_c _ _).mono ?_; rintro e w1 ⟨rfl, hb⟩; (repeat (with_reducible first | replace hb := b_un hb | replace hb := b_unN hb)); obtain ⟨hc, hf, hl⟩ := bcell hb; obtain ⟨gc, gf, gl⟩ := bcell (b_step (w := w) (by repeat' (first | exact Below.refl _ _ | exact ‹Below _ _ _› | refine b_alloc ?_ _ | refine b_drewN ?_ _ | refine b_drew ?_ | refine b_step ?_ (by assumption))) hb); have hz := hb.size; (try simp at hz); have yw1_0 : w.heap.size < w1.heap.size := (by omega)))
  all_goals go_ret
  all_goals exact ⟨rfl, (by repeat' (first | exact Below.refl _ _ | exact ‹Below _ _ _› | refine b_alloc ?_ _ | refine b_drewN ?_ _ | refine b_drew ?_ | refine b_step ?_ (by assumption)))⟩
theorem spec_l11Close_c (a b : LL.Box) (ha : LL.BoxOk a) (hb : LL.BoxOk b) (w : World) : Calls Try.prog 56 #[.agg #[.int .i64 a.x, .int .i64 a.y, .int .i64 a.lo, .int .i64 a.hi, .int .i64 a.i, .int .i64 a.o], .agg #[.int .i64 b.x, .int .i64 b.y, .int .i64 b.lo, .int .i64 b.hi, .int .i64 b.i, .int .i64 b.o]] w fun e w' => e = .returned (.tuple #[.int .i64 (LL.touchT a b), .bool (decide (LL.Touch a b))]) ∧ Below w.heap.size w w' := by
  obtain ⟨⟨a1, a2⟩, ⟨a3, a4⟩, -⟩ := ha
  obtain ⟨⟨b1, b2⟩, ⟨b3, b4⟩, -⟩ := hb
  go_enter Try.func56, Try.ntmps56
  go_wp2_with (go_at_call 54; refine (spec_l11In_c _ _ _ _).mono ?_; rintro e w' ⟨rfl, rfl⟩)
  all_goals go_ret2
  all_goals exact ⟨rt2 (by simp [LL.Touch, LL.In] at * <;> omega) (by simp only [LL.touchT]; split <;> (simp [LL.Touch, LL.In] at * <;> omega)), (by repeat' (first | exact Below.refl _ _ | exact ‹Below _ _ _› | refine b_alloc ?_ _ | refine b_drewN ?_ _ | refine b_drew ?_ | refine b_step ?_ (by assumption)))⟩
theorem spec_ProbeClose_c (a b : LL.Box) (w : World) : Calls Try.prog 25 #[.agg #[.int .i64 a.x, .int .i64 a.y, .int .i64 a.lo, .int .i64 a.hi, .int .i64 a.i, .int .i64 a.o], .agg #[.int .i64 b.x, .int .i64 b.y, .int .i64 b.lo, .int .i64 b.hi, .int .i64 b.i, .int .i64 b.o]] w fun e w' => e = .returned (.tuple #[.int .i64 (LL.nearT a b), .bool (decide (LL.Near a b))]) ∧ Below w.heap.size w w' := by
  go_enter Try.func25, Try.ntmps25
  go_wp2_with (first | (go_at_call 18; refine (spec_ProbeBoxOk_c _ _).mono ?_; rintro e w1 ⟨rfl, hb⟩; (repeat (with_reducible first | replace hb := b_un hb | replace hb := b_unN hb)); obtain ⟨hc, hf, hl⟩ := bcell hb; obtain ⟨gc, gf, gl⟩ := bcell (b_step (w := w) (by repeat' (first | exact Below.refl _ _ | exact ‹Below _ _ _› | refine b_alloc ?_ _ | refine b_drewN ?_ _ | refine b_drew ?_ | refine b_step ?_ (by assumption))) hb); have hz := hb.size; (try simp at hz); have yw1_0 : w.heap.size < w1.heap.size := (by omega)) | (go_at_call 56; refine (spec_l11Close_c _ _ (by simp_all) (by simp_all) _).mono ?_; rintro e w1 ⟨rfl, hb⟩; (repeat (with_reducible first | replace hb := b_un hb | replace hb := b_unN hb)); obtain ⟨hc, hf, hl⟩ := bcell hb; obtain ⟨gc, gf, gl⟩ := bcell (b_step (w := w) (by repeat' (first | exact Below.refl _ _ | exact ‹Below _ _ _› | refine b_alloc ?_ _ | refine b_drewN ?_ _ | refine b_drew ?_ | refine b_step ?_ (by assumption))) hb); have hz := hb.size; (try simp at hz); have yw1_0 : w.heap.size < w1.heap.size := (by omega)))
  all_goals go_ret2
  all_goals exact ⟨rt2 (by simp_all [LL.Near]) (by simp_all [LL.nearT, LL.touchT, LL.Near]), (by repeat' (first | exact Below.refl _ _ | exact ‹Below _ _ _› | refine b_alloc ?_ _ | refine b_drewN ?_ _ | refine b_drew ?_ | refine b_step ?_ (by assumption)))⟩
set_option maxHeartbeats 2000000 in
theorem impl_ProbeClose_c (a b : LL.Box) (w : World) : Calls Try.prog 26 #[.agg #[.int .i64 a.x, .int .i64 a.y, .int .i64 a.lo, .int .i64 a.hi, .int .i64 a.i, .int .i64 a.o], .agg #[.int .i64 b.x, .int .i64 b.y, .int .i64 b.lo, .int .i64 b.hi, .int .i64 b.i, .int .i64 b.o]] w fun e w' => e = .returned (.tuple #[.int .i64 (LL.nearT a b), .bool (decide (LL.Near a b))]) ∧ Below w.heap.size w w' := by
  by_cases hA : LL.BoxOk a
  · by_cases hB : LL.BoxOk b
    · obtain ⟨⟨a1, a2⟩, ⟨a3, a4⟩, a5, a6, a7, a8, a9, a10⟩ := id hA
      obtain ⟨⟨b1, b2⟩, ⟨b3, b4⟩, b5, b6, b7, b8, b9, b10⟩ := id hB
      go_enter Try.func26, Try.ntmps26
      go_wp2_with (first | (go_at_call 20; refine (impl_ProbeBoxOk_c _ _).mono ?_; rintro e w1 ⟨rfl, hb⟩; (repeat (with_reducible first | replace hb := b_un hb | replace hb := b_unN hb)); obtain ⟨hc, hf, hl⟩ := bcell hb; obtain ⟨gc, gf, gl⟩ := bcell (b_step (w := w) (by repeat' (first | exact Below.refl _ _ | exact ‹Below _ _ _› | refine b_alloc ?_ _ | refine b_drewN ?_ _ | refine b_drew ?_ | refine b_step ?_ (by assumption))) hb); have hz := hb.size; (try simp at hz); have yw1_0 : w.heap.size < w1.heap.size := (by omega)) | (go_at_call 55; refine (impl_in_c _ _ _ _).mono ?_; rintro e w' ⟨rfl, rfl⟩))
      all_goals go_ret2
      all_goals (refine ⟨rt2 ?_ ?_, (by repeat' (first | exact Below.refl _ _ | exact ‹Below _ _ _› | refine b_alloc ?_ _ | refine b_drewN ?_ _ | refine b_drew ?_ | refine b_step ?_ (by assumption)))⟩ <;> clear hc hf hl gc gf gl <;> go_light)
      all_goals simp only [LL.nearT, LL.Near, LL.Touch, hA, hB, true_and, LL.In, mx, mn, Bool.false_eq_true, iff_true, iff_false, true_iff, false_iff] at *
      all_goals (try split)
      all_goals omega
    · go_enter Try.func26, Try.ntmps26
      go_wp2_with (first | (go_at_call 20; refine (impl_ProbeBoxOk_c _ _).mono ?_; rintro e w1 ⟨rfl, hb⟩; (repeat (with_reducible first | replace hb := b_un hb | replace hb := b_unN hb)); obtain ⟨hc, hf, hl⟩ := bcell hb; obtain ⟨gc, gf, gl⟩ := bcell (b_step (w := w) (by repeat' (first | exact Below.refl _ _ | exact ‹Below _ _ _› | refine b_alloc ?_ _ | refine b_drewN ?_ _ | refine b_drew ?_ | refine b_step ?_ (by assumption))) hb); have hz := hb.size; (try simp at hz); have yw1_0 : w.heap.size < w1.heap.size := (by omega)) | (go_at_call 55; refine (impl_in_c _ _ _ _).mono ?_; rintro e w' ⟨rfl, rfl⟩))
      all_goals go_ret2
      all_goals exact ⟨rt2 (by simp [LL.Near, hB]) (by simp [LL.nearT, LL.Near, hB]), (by repeat' (first | exact Below.refl _ _ | exact ‹Below _ _ _› | refine b_alloc ?_ _ | refine b_drewN ?_ _ | refine b_drew ?_ | refine b_step ?_ (by assumption)))⟩
  · go_enter Try.func26, Try.ntmps26
    go_wp2_with (first | (go_at_call 20; refine (impl_ProbeBoxOk_c _ _).mono ?_; rintro e w1 ⟨rfl, hb⟩; (repeat (with_reducible first | replace hb := b_un hb | replace hb := b_unN hb)); obtain ⟨hc, hf, hl⟩ := bcell hb; obtain ⟨gc, gf, gl⟩ := bcell (b_step (w := w) (by repeat' (first | exact Below.refl _ _ | exact ‹Below _ _ _› | refine b_alloc ?_ _ | refine b_drewN ?_ _ | refine b_drew ?_ | refine b_step ?_ (by assumption))) hb); have hz := hb.size; (try simp at hz); have yw1_0 : w.heap.size < w1.heap.size := (by omega)) | (go_at_call 55; refine (impl_in_c _ _ _ _).mono ?_; rintro e w' ⟨rfl, rfl⟩))
    all_goals go_ret2
    all_goals exact ⟨rt2 (by simp [LL.Near, hA]) (by simp [LL.nearT, LL.Near, hA]), (by repeat' (first | exact Below.refl _ _ | exact ‹Below _ _ _› | refine b_alloc ?_ _ | refine b_drewN ?_ _ | refine b_drew ?_ | refine b_step ?_ (by assumption)))⟩
theorem FnExactConstants_c (w : World) : Calls Try.prog 3 #[] w fun e w' => e = .returned (.bool true) ∧ Below w.heap.size w w' := by
  go_enter Try.func3, Try.ntmps3
  go_wp2
  go_ret
  exact ⟨rfl, (by repeat' (first | exact Below.refl _ _ | exact ‹Below _ _ _› | refine b_alloc ?_ _ | refine b_drewN ?_ _ | refine b_drew ?_ | refine b_step ?_ (by assumption)))⟩
end Go.Proofs.Ytbpkaoagpndnpaa
