/- The walks of small functions: kinds, steps, paths. -/
import Derived.Test.YtpeojnknfonmlaaJ1

set_option linter.unusedVariables false
set_option linter.unusedSimpArgs false
namespace Go.Proofs.Ytpeojnknfonmlaa
open Go.RowKit
attribute [local go_sem] w_lt_add w_le_of w_le_add max2_i min2_i

theorem impl_in_c (n lo hi : Int) (w : World) : Calls Try.prog 70 #[.int .i64 n, .int .i64 lo, .int .i64 hi] w fun e w' => e = .returned (.bool (decide (LL.In n lo hi))) ∧ w = w' := by
  go_enter Try.func70, Try.ntmps70
  go_wp2
  all_goals go_ret
  all_goals exact ⟨rd_ (by simp [LL.In] at * <;> omega), rfl⟩
theorem spec_l1In_c (n lo hi : Int) (w : World) : Calls Try.prog 72 #[.int .i64 n, .int .i64 lo, .int .i64 hi] w fun e w' => e = .returned (.bool (decide (LL.In n lo hi))) ∧ w = w' := by
  go_enter Try.func72, Try.ntmps72
  go_wp2
  all_goals go_ret
  all_goals exact ⟨rd_ (by simp [LL.In] at * <;> omega), rfl⟩
theorem impl_FlyKindOk_c (q s : Int) (w : World) : Calls Try.prog 91 #[.agg #[.int .i64 q, .int .i64 s]] w fun e w' => e = .returned (.bool (decide (LL.KindOk q s))) ∧ Below w.heap.size w w' := by
  go_enter Try.func91, Try.ntmps91
  go_wp2
  all_goals go_ret
  all_goals exact ⟨rd_ (by simp [LL.KindOk] at * <;> omega), (by repeat' (first | with_reducible exact Below.refl _ _ | with_reducible assumption | with_reducible refine b_alloc ?_ _ | with_reducible refine b_drewN ?_ _ | with_reducible refine b_drew ?_ | with_reducible refine b_set ?_ (by first | (simp only [World.size_setCell, World.size_alloc, World.size_drew]; omega) | (simp; done) | (simp; omega)) _ | with_reducible refine b_step ?_ (by with_reducible assumption)))⟩
theorem spec_FlyKindOk_c (q s : Int) (w : World) : Calls Try.prog 75 #[.agg #[.int .i64 q, .int .i64 s]] w fun e w' => e = .returned (.bool (decide (LL.KindOk q s))) ∧ Below w.heap.size w w' := by
  go_enter Try.func75, Try.ntmps75
  go_wp2_with (go_at_call 72; refine (spec_l1In_c _ _ _ _).mono ?_; rintro e w' ⟨rfl, rfl⟩)
  all_goals go_ret
  all_goals exact ⟨rd_ (by simp [LL.KindOk, LL.In] at * <;> omega), (by repeat' (first | with_reducible exact Below.refl _ _ | with_reducible assumption | with_reducible refine b_alloc ?_ _ | with_reducible refine b_drewN ?_ _ | with_reducible refine b_drew ?_ | with_reducible refine b_set ?_ (by first | (simp only [World.size_setCell, World.size_alloc, World.size_drew]; omega) | (simp; done) | (simp; omega)) _ | with_reducible refine b_step ?_ (by with_reducible assumption)))⟩
theorem impl_stepOk_c (s : LL.Step) (w : World) : Calls Try.prog 92 #[.agg #[.int .i64 s.x, .int .i64 s.y, .int .i64 s.lo, .int .i64 s.hi, .int .i64 s.fr, .int .i64 s.by_, .bool s.hold]] w fun e w' => e = .returned (.bool (decide (LL.StepOk s))) ∧ Below w.heap.size w w' := by
  go_enter Try.func92, Try.ntmps92
  go_wp2_with (go_at_call 70; refine (impl_in_c _ _ _ _).mono ?_; rintro e w' ⟨rfl, rfl⟩)
  all_goals go_ret
  all_goals exact ⟨rd_ (by simp [LL.StepOk, LL.In] at * <;> omega), (by repeat' (first | with_reducible exact Below.refl _ _ | with_reducible assumption | with_reducible refine b_alloc ?_ _ | with_reducible refine b_drewN ?_ _ | with_reducible refine b_drew ?_ | with_reducible refine b_set ?_ (by first | (simp only [World.size_setCell, World.size_alloc, World.size_drew]; omega) | (simp; done) | (simp; omega)) _ | with_reducible refine b_step ?_ (by with_reducible assumption)))⟩
theorem spec_l2StepOk_c (s : LL.Step) (w : World) : Calls Try.prog 76 #[.agg #[.int .i64 s.x, .int .i64 s.y, .int .i64 s.lo, .int .i64 s.hi, .int .i64 s.fr, .int .i64 s.by_, .bool s.hold]] w fun e w' => e = .returned (.bool (decide (LL.StepOk s))) ∧ Below w.heap.size w w' := by
  go_enter Try.func76, Try.ntmps76
  go_wp2_with (go_at_call 72; refine (spec_l1In_c _ _ _ _).mono ?_; rintro e w' ⟨rfl, rfl⟩)
  all_goals go_ret
  all_goals exact ⟨rd_ (by simp [LL.StepOk, LL.In] at * <;> omega), (by repeat' (first | with_reducible exact Below.refl _ _ | with_reducible assumption | with_reducible refine b_alloc ?_ _ | with_reducible refine b_drewN ?_ _ | with_reducible refine b_drew ?_ | with_reducible refine b_set ?_ (by first | (simp only [World.size_setCell, World.size_alloc, World.size_drew]; omega) | (simp; done) | (simp; omega)) _ | with_reducible refine b_step ?_ (by with_reducible assumption)))⟩
theorem spec_l2Next_c (a s : LL.Step) (ha : LL.StepOk a) (hs : LL.StepOk s) (w : World) : Calls Try.prog 77 #[.agg #[.int .i64 a.x, .int .i64 a.y, .int .i64 a.lo, .int .i64 a.hi, .int .i64 a.fr, .int .i64 a.by_, .bool a.hold], .agg #[.int .i64 s.x, .int .i64 s.y, .int .i64 s.lo, .int .i64 s.hi, .int .i64 s.fr, .int .i64 s.by_, .bool s.hold]] w fun e w' => e = .returned (.bool (decide (LL.NextOk a s))) ∧ Below w.heap.size w w' := by
  obtain ⟨⟨a1, a2⟩, ⟨a3, a4⟩, -⟩ := ha
  obtain ⟨⟨b1, b2⟩, ⟨b3, b4⟩, -⟩ := hs
  go_enter Try.func77, Try.ntmps77
  go_wp2_with (go_at_call 72; refine (spec_l1In_c _ _ _ _).mono ?_; rintro e w' ⟨rfl, rfl⟩)
  all_goals go_ret
  all_goals exact ⟨rd_ (by simp [LL.NextOk, LL.In] at * <;> omega), (by repeat' (first | with_reducible exact Below.refl _ _ | with_reducible assumption | with_reducible refine b_alloc ?_ _ | with_reducible refine b_drewN ?_ _ | with_reducible refine b_drew ?_ | with_reducible refine b_set ?_ (by first | (simp only [World.size_setCell, World.size_alloc, World.size_drew]; omega) | (simp; done) | (simp; omega)) _ | with_reducible refine b_step ?_ (by with_reducible assumption)))⟩
set_option maxHeartbeats 1000000 in
theorem impl_FlyPathOk_c (p : LL.Path) (A : Option Addr) (c : Nat) (w : World) (h : RdS w A p.steps.length c p.steps) : Calls Try.prog 47 #[.agg #[.int .i64 p.q, .int .i64 p.s, .slice A p.steps.length c, .int .i64 p.fr, .int .i64 p.by_]] w fun e w' => e = .returned (.bool (decide (LL.PathOk p))) ∧ Below w.heap.size w w' := by
  have hroom := h.room
  go_enter Try.func47, Try.ntmps47
  go_wp2_with (first | (go_at_call 91; go_loud (refine (impl_FlyKindOk_c _ _ _).mono ?_); rintro e w1 ⟨rfl, hb⟩; (repeat (with_reducible first | replace hb := b_un hb | replace hb := b_unN hb)); obtain ⟨hc, hf, hl⟩ := bcell hb; obtain ⟨gc, gf, gl⟩ := bcell (b_step (w := w) (by repeat' (first | with_reducible exact Below.refl _ _ | with_reducible assumption | with_reducible refine b_alloc ?_ _ | with_reducible refine b_drewN ?_ _ | with_reducible refine b_drew ?_ | with_reducible refine b_set ?_ (by first | (simp only [World.size_setCell, World.size_alloc, World.size_drew]; omega) | (simp; done) | (simp; omega)) _ | with_reducible refine b_step ?_ (by with_reducible assumption))) hb); have hz := hb.size; (try simp at hz); have yw1_0 : w.heap.size < w1.heap.size := (by omega)) | (go_at_call 70; refine (impl_in_c _ _ _ _).mono ?_; rintro e w' ⟨rfl, rfl⟩))
  rotate_left
  · have H0 : LL.KindOk p.q p.s := by assumption
    have H1 : LL.In (↑p.steps.length) 1 40 := by assumption
    have h10 := H1.1
    have h11 := H1.2
    obtain ⟨b, off, rfl, hbw⟩ := h.addr (by omega)
    go_loopw [37] (fun i wr => ∃ k : Nat, k ≤ p.steps.length ∧ i = .int .i64 k ∧ LL.AllGood p.steps k ∧ Below w1.heap.size w1 wr) (fun i _ => p.steps.length - (intOf i).toNat)
    case atStart => exact ⟨0, Nat.zero_le _, rfl, LL.AllGood.zero _, Below.refl _ _⟩
    case round =>
      obtain ⟨k, hk, rfl, hg, hb⟩ := hrel
      obtain ⟨hc, hf, hl⟩ := bcell hb
      obtain ⟨gc, gf, gl⟩ := bcell (b_step (w := w) (by repeat' (first | with_reducible exact Below.refl _ _ | with_reducible assumption | with_reducible refine b_alloc ?_ _ | with_reducible refine b_drewN ?_ _ | with_reducible refine b_drew ?_ | with_reducible refine b_set ?_ (by first | (simp only [World.size_setCell, World.size_alloc, World.size_drew]; omega) | (simp; done) | (simp; omega)) _ | with_reducible refine b_step ?_ (by with_reducible assumption))) hb)
      have hz := hb.size
      have yr : w.heap.size < wr.heap.size := by omega
      by_cases hlt : k < p.steps.length
      · obtain ⟨c0, c1, c2, c3, c4, c5, c6⟩ := h.S7 k hlt
        by_cases hS : LL.StepOk (LL.nth p.steps k)
        · obtain ⟨⟨s1, s2⟩, ⟨s3, s4⟩, s5, s6, s7, s8, s9, s10⟩ := id hS
          by_cases hk0 : k = 0
          · have hkt : ((k : Int) == 0) = true := by simp [hk0]
            have HK := Lib.hid hk0
            clear hk0
            go_wp2_with (go_at_call 92; go_loud (refine (impl_stepOk_c _ _).mono ?_); rintro e w2 ⟨rfl, hb⟩; (repeat (with_reducible first | replace hb := b_un hb | replace hb := b_unN hb)); obtain ⟨hc, hf, hl⟩ := bcell hb; obtain ⟨gc, gf, gl⟩ := bcell (b_step (w := w) (by repeat' (first | with_reducible exact Below.refl _ _ | with_reducible assumption | with_reducible refine b_alloc ?_ _ | with_reducible refine b_drewN ?_ _ | with_reducible refine b_drew ?_ | with_reducible refine b_set ?_ (by first | (simp only [World.size_setCell, World.size_alloc, World.size_drew]; omega) | (simp; done) | (simp; omega)) _ | with_reducible refine b_step ?_ (by with_reducible assumption))) hb); have hz := hb.size; (try simp at hz); have yw2_0 : w.heap.size < w2.heap.size := (by omega); have yw2_1 : wr.heap.size < w2.heap.size := (by omega))
            go_roundw
            case rel => exact ⟨k + 1, by omega, by go_num, hg.succ ⟨hS, by have := HK.out; omega⟩, (by repeat' (first | with_reducible exact Below.refl _ _ | with_reducible assumption | with_reducible refine b_alloc ?_ _ | with_reducible refine b_drewN ?_ _ | with_reducible refine b_drew ?_ | with_reducible refine b_set ?_ (by first | (simp only [World.size_setCell, World.size_alloc, World.size_drew]; omega) | (simp; done) | (simp; omega)) _ | with_reducible refine b_step ?_ (by with_reducible assumption)))⟩
            case measure => simp [intOf]; omega
          · obtain ⟨⟨r1, r2⟩, ⟨r3, r4⟩, r5, r6, r7, r8, r9, r10⟩ := id (hg.at_ (j := k - 1) (by omega))
            obtain ⟨d0, d1, d2, d3, d4, d5, d6⟩ := h.S7 (k - 1) (by omega)
            go_wp2_with (first | (go_at_call 92; go_loud (refine (impl_stepOk_c _ _).mono ?_); rintro e w2 ⟨rfl, hb⟩; (repeat (with_reducible first | replace hb := b_un hb | replace hb := b_unN hb)); obtain ⟨hc, hf, hl⟩ := bcell hb; obtain ⟨gc, gf, gl⟩ := bcell (b_step (w := w) (by repeat' (first | with_reducible exact Below.refl _ _ | with_reducible assumption | with_reducible refine b_alloc ?_ _ | with_reducible refine b_drewN ?_ _ | with_reducible refine b_drew ?_ | with_reducible refine b_set ?_ (by first | (simp only [World.size_setCell, World.size_alloc, World.size_drew]; omega) | (simp; done) | (simp; omega)) _ | with_reducible refine b_step ?_ (by with_reducible assumption))) hb); have hz := hb.size; (try simp at hz); have yw2_0 : w.heap.size < w2.heap.size := (by omega); have yw2_1 : wr.heap.size < w2.heap.size := (by omega)) | (go_at_call 70; refine (impl_in_c _ _ _ _).mono ?_; rintro e w' ⟨rfl, rfl⟩))
            all_goals first
              | (go_ret; refine ⟨rd_ (iff_of_false (LL.PathOk.bad hlt (fun hG => ?_)) (by simp)), (by repeat' (first | with_reducible exact Below.refl _ _ | with_reducible assumption | with_reducible refine b_alloc ?_ _ | with_reducible refine b_drewN ?_ _ | with_reducible refine b_drew ?_ | with_reducible refine b_set ?_ (by first | (simp only [World.size_setCell, World.size_alloc, World.size_drew]; omega) | (simp; done) | (simp; omega)) _ | with_reducible refine b_step ?_ (by with_reducible assumption)))⟩; have hN := hG.2 (by omega); (go_light; (try simp only [LL.NextOk, LL.In, mx, mn, beq_iff_eq, beq_eq_false_iff_ne, bne_iff_ne, bne_eq_false_iff_eq, Bool.not_eq_true', Bool.not_eq_false', decide_eq_true_eq, decide_eq_false_iff_not] at *) <;> omega))
              | (go_roundw; (case rel => refine ⟨k + 1, by omega, by go_num, hg.succ ⟨hS, fun _ => ?_⟩, (by repeat' (first | with_reducible exact Below.refl _ _ | with_reducible assumption | with_reducible refine b_alloc ?_ _ | with_reducible refine b_drewN ?_ _ | with_reducible refine b_drew ?_ | with_reducible refine b_set ?_ (by first | (simp only [World.size_setCell, World.size_alloc, World.size_drew]; omega) | (simp; done) | (simp; omega)) _ | with_reducible refine b_step ?_ (by with_reducible assumption)))⟩; (go_light; (try simp only [LL.NextOk, LL.In, mx, mn, beq_iff_eq, beq_eq_false_iff_ne, bne_iff_ne, bne_eq_false_iff_eq, Bool.not_eq_true', Bool.not_eq_false', decide_eq_true_eq, decide_eq_false_iff_not] at *) <;> omega)); (case measure => simp [intOf]; omega))
        · go_wp2_with (go_at_call 92; go_loud (refine (impl_stepOk_c _ _).mono ?_); rintro e w2 ⟨rfl, hb⟩; (repeat (with_reducible first | replace hb := b_un hb | replace hb := b_unN hb)); obtain ⟨hc, hf, hl⟩ := bcell hb; obtain ⟨gc, gf, gl⟩ := bcell (b_step (w := w) (by repeat' (first | with_reducible exact Below.refl _ _ | with_reducible assumption | with_reducible refine b_alloc ?_ _ | with_reducible refine b_drewN ?_ _ | with_reducible refine b_drew ?_ | with_reducible refine b_set ?_ (by first | (simp only [World.size_setCell, World.size_alloc, World.size_drew]; omega) | (simp; done) | (simp; omega)) _ | with_reducible refine b_step ?_ (by with_reducible assumption))) hb); have hz := hb.size; (try simp at hz); have yw2_0 : w.heap.size < w2.heap.size := (by omega); have yw2_1 : wr.heap.size < w2.heap.size := (by omega))
          go_ret
          exact ⟨rd_ (iff_of_false (LL.PathOk.bad hlt (fun hG => hS hG.1)) (by simp)), (by repeat' (first | with_reducible exact Below.refl _ _ | with_reducible assumption | with_reducible refine b_alloc ?_ _ | with_reducible refine b_drewN ?_ _ | with_reducible refine b_drew ?_ | with_reducible refine b_set ?_ (by first | (simp only [World.size_setCell, World.size_alloc, World.size_drew]; omega) | (simp; done) | (simp; omega)) _ | with_reducible refine b_step ?_ (by with_reducible assumption)))⟩
      · obtain rfl : k = p.steps.length := by omega
        go_wp2
        go_ret
        exact ⟨rd_ (iff_of_true ⟨H0, H1, by omega, by omega, by omega, hg⟩ rfl), (by repeat' (first | with_reducible exact Below.refl _ _ | with_reducible assumption | with_reducible refine b_alloc ?_ _ | with_reducible refine b_drewN ?_ _ | with_reducible refine b_drew ?_ | with_reducible refine b_set ?_ (by first | (simp only [World.size_setCell, World.size_alloc, World.size_drew]; omega) | (simp; done) | (simp; omega)) _ | with_reducible refine b_step ?_ (by with_reducible assumption)))⟩
  all_goals go_ret
  all_goals exact ⟨rd_ (by simp only [LL.PathOk]; grind), (by repeat' (first | with_reducible exact Below.refl _ _ | with_reducible assumption | with_reducible refine b_alloc ?_ _ | with_reducible refine b_drewN ?_ _ | with_reducible refine b_drew ?_ | with_reducible refine b_set ?_ (by first | (simp only [World.size_setCell, World.size_alloc, World.size_drew]; omega) | (simp; done) | (simp; omega)) _ | with_reducible refine b_step ?_ (by with_reducible assumption)))⟩
end Go.Proofs.Ytpeojnknfonmlaa

/- The walks of the boxes' functions, of the program and of the reference, and of the laws' own helpers for plain structs. -/
set_option linter.unusedVariables false
set_option linter.unusedSimpArgs false
namespace Go.Proofs.Ytpeojnknfonmlaa
open Go.RowKit
attribute [local go_sem] w_lt_add w_le_of w_le_add max2_i min2_i
theorem impl_ProbeBoxOk_c (b : LL.Box) (w : World) : Calls Try.prog 102 #[.agg #[.int .i64 b.x, .int .i64 b.y, .int .i64 b.lo, .int .i64 b.hi, .int .i64 b.i, .int .i64 b.o]] w fun e w' => e = .returned (.bool (decide (LL.BoxOk b))) ∧ Below w.heap.size w w' := by
  go_enter Try.func102, Try.ntmps102
  go_wp2_with (go_at_call 70; refine (impl_in_c _ _ _ _).mono ?_; rintro e w' ⟨rfl, rfl⟩)
  all_goals go_ret
  all_goals exact ⟨rd_ (by simp [LL.BoxOk, LL.In] at * <;> omega), (by repeat' (first | with_reducible exact Below.refl _ _ | with_reducible assumption | with_reducible refine b_alloc ?_ _ | with_reducible refine b_drewN ?_ _ | with_reducible refine b_drew ?_ | with_reducible refine b_set ?_ (by first | (simp only [World.size_setCell, World.size_alloc, World.size_drew]; omega) | (simp; done) | (simp; omega)) _ | with_reducible refine b_step ?_ (by with_reducible assumption)))⟩
theorem spec_l11In_c (n lo hi : Int) (w : World) : Calls Try.prog 104 #[.int .i64 n, .int .i64 lo, .int .i64 hi] w fun e w' => e = .returned (.bool (decide (LL.In n lo hi))) ∧ w = w' := by
  go_enter Try.func104, Try.ntmps104
  go_wp2
  all_goals go_ret
  all_goals exact ⟨rd_ (by simp [LL.In] at * <;> omega), rfl⟩
theorem spec_ProbeBoxOk_c (b : LL.Box) (w : World) : Calls Try.prog 65 #[.agg #[.int .i64 b.x, .int .i64 b.y, .int .i64 b.lo, .int .i64 b.hi, .int .i64 b.i, .int .i64 b.o]] w fun e w' => e = .returned (.bool (decide (LL.BoxOk b))) ∧ Below w.heap.size w w' := by
  go_enter Try.func65, Try.ntmps65
  go_wp2_with (go_at_call 104; refine (spec_l11In_c _ _ _ _).mono ?_; rintro e w' ⟨rfl, rfl⟩)
  all_goals go_ret
  all_goals exact ⟨rd_ (by simp [LL.BoxOk, LL.In] at * <;> omega), (by repeat' (first | with_reducible exact Below.refl _ _ | with_reducible assumption | with_reducible refine b_alloc ?_ _ | with_reducible refine b_drewN ?_ _ | with_reducible refine b_drew ?_ | with_reducible refine b_set ?_ (by first | (simp only [World.size_setCell, World.size_alloc, World.size_drew]; omega) | (simp; done) | (simp; omega)) _ | with_reducible refine b_step ?_ (by with_reducible assumption)))⟩
theorem spec_l11Close_c (a b : LL.Box) (ha : LL.BoxOk a) (hb : LL.BoxOk b) (w : World) : Calls Try.prog 103 #[.agg #[.int .i64 a.x, .int .i64 a.y, .int .i64 a.lo, .int .i64 a.hi, .int .i64 a.i, .int .i64 a.o], .agg #[.int .i64 b.x, .int .i64 b.y, .int .i64 b.lo, .int .i64 b.hi, .int .i64 b.i, .int .i64 b.o]] w fun e w' => e = .returned (.tuple #[.int .i64 (LL.touchT a b), .bool (decide (LL.Touch a b))]) ∧ Below w.heap.size w w' := by
  obtain ⟨⟨a1, a2⟩, ⟨a3, a4⟩, -⟩ := ha
  obtain ⟨⟨b1, b2⟩, ⟨b3, b4⟩, -⟩ := hb
  go_enter Try.func103, Try.ntmps103
  go_wp2_with (go_at_call 104; refine (spec_l11In_c _ _ _ _).mono ?_; rintro e w' ⟨rfl, rfl⟩)
  all_goals go_ret2
  all_goals exact ⟨rt2 (by simp [LL.Touch, LL.In] at * <;> omega) (by simp only [LL.touchT]; split <;> (simp [LL.Touch, LL.In] at * <;> omega)), (by repeat' (first | with_reducible exact Below.refl _ _ | with_reducible assumption | with_reducible refine b_alloc ?_ _ | with_reducible refine b_drewN ?_ _ | with_reducible refine b_drew ?_ | with_reducible refine b_set ?_ (by first | (simp only [World.size_setCell, World.size_alloc, World.size_drew]; omega) | (simp; done) | (simp; omega)) _ | with_reducible refine b_step ?_ (by with_reducible assumption)))⟩
set_option maxHeartbeats 2000000 in
theorem impl_ProbeClose_c (a b : LL.Box) (w : World) : Calls Try.prog 62 #[.agg #[.int .i64 a.x, .int .i64 a.y, .int .i64 a.lo, .int .i64 a.hi, .int .i64 a.i, .int .i64 a.o], .agg #[.int .i64 b.x, .int .i64 b.y, .int .i64 b.lo, .int .i64 b.hi, .int .i64 b.i, .int .i64 b.o]] w fun e w' => e = .returned (.tuple #[.int .i64 (LL.nearT a b), .bool (decide (LL.Near a b))]) ∧ Below w.heap.size w w' := by
  by_cases hA : LL.BoxOk a
  · by_cases hB : LL.BoxOk b
    · obtain ⟨⟨a1, a2⟩, ⟨a3, a4⟩, a5, a6, a7, a8, a9, a10⟩ := id hA
      obtain ⟨⟨b1, b2⟩, ⟨b3, b4⟩, b5, b6, b7, b8, b9, b10⟩ := id hB
      go_enter Try.func62, Try.ntmps62
      go_wp2_with (first | (go_at_call 102; go_loud (refine (impl_ProbeBoxOk_c _ _).mono ?_); rintro e w1 ⟨rfl, hb⟩; (repeat (with_reducible first | replace hb := b_un hb | replace hb := b_unN hb)); obtain ⟨hc, hf, hl⟩ := bcell hb; obtain ⟨gc, gf, gl⟩ := bcell (b_step (w := w) (by repeat' (first | with_reducible exact Below.refl _ _ | with_reducible assumption | with_reducible refine b_alloc ?_ _ | with_reducible refine b_drewN ?_ _ | with_reducible refine b_drew ?_ | with_reducible refine b_set ?_ (by first | (simp only [World.size_setCell, World.size_alloc, World.size_drew]; omega) | (simp; done) | (simp; omega)) _ | with_reducible refine b_step ?_ (by with_reducible assumption))) hb); have hz := hb.size; (try simp at hz); have yw1_0 : w.heap.size < w1.heap.size := (by omega)) | (go_at_call 70; refine (impl_in_c _ _ _ _).mono ?_; rintro e w' ⟨rfl, rfl⟩))
      all_goals go_ret2
      all_goals (refine ⟨rt2 ?_ ?_, (by repeat' (first | with_reducible exact Below.refl _ _ | with_reducible assumption | with_reducible refine b_alloc ?_ _ | with_reducible refine b_drewN ?_ _ | with_reducible refine b_drew ?_ | with_reducible refine b_set ?_ (by first | (simp only [World.size_setCell, World.size_alloc, World.size_drew]; omega) | (simp; done) | (simp; omega)) _ | with_reducible refine b_step ?_ (by with_reducible assumption)))⟩ <;> clear hc hf hl gc gf gl <;> go_light)
      all_goals simp only [LL.nearT, LL.Near, LL.Touch, hA, hB, true_and, LL.In, mx, mn, Bool.false_eq_true, iff_true, iff_false, true_iff, false_iff] at *
      all_goals (try split)
      all_goals omega
    · go_enter Try.func62, Try.ntmps62
      go_wp2_with (first | (go_at_call 102; go_loud (refine (impl_ProbeBoxOk_c _ _).mono ?_); rintro e w1 ⟨rfl, hb⟩; (repeat (with_reducible first | replace hb := b_un hb | replace hb := b_unN hb)); obtain ⟨hc, hf, hl⟩ := bcell hb; obtain ⟨gc, gf, gl⟩ := bcell (b_step (w := w) (by repeat' (first | with_reducible exact Below.refl _ _ | with_reducible assumption | with_reducible refine b_alloc ?_ _ | with_reducible refine b_drewN ?_ _ | with_reducible refine b_drew ?_ | with_reducible refine b_set ?_ (by first | (simp only [World.size_setCell, World.size_alloc, World.size_drew]; omega) | (simp; done) | (simp; omega)) _ | with_reducible refine b_step ?_ (by with_reducible assumption))) hb); have hz := hb.size; (try simp at hz); have yw1_0 : w.heap.size < w1.heap.size := (by omega)) | (go_at_call 70; refine (impl_in_c _ _ _ _).mono ?_; rintro e w' ⟨rfl, rfl⟩))
      all_goals go_ret2
      all_goals exact ⟨rt2 (by simp [LL.Near, hB]) (by simp [LL.nearT, LL.Near, hB]), (by repeat' (first | with_reducible exact Below.refl _ _ | with_reducible assumption | with_reducible refine b_alloc ?_ _ | with_reducible refine b_drewN ?_ _ | with_reducible refine b_drew ?_ | with_reducible refine b_set ?_ (by first | (simp only [World.size_setCell, World.size_alloc, World.size_drew]; omega) | (simp; done) | (simp; omega)) _ | with_reducible refine b_step ?_ (by with_reducible assumption)))⟩
  · go_enter Try.func62, Try.ntmps62
    go_wp2_with (first | (go_at_call 102; go_loud (refine (impl_ProbeBoxOk_c _ _).mono ?_); rintro e w1 ⟨rfl, hb⟩; (repeat (with_reducible first | replace hb := b_un hb | replace hb := b_unN hb)); obtain ⟨hc, hf, hl⟩ := bcell hb; obtain ⟨gc, gf, gl⟩ := bcell (b_step (w := w) (by repeat' (first | with_reducible exact Below.refl _ _ | with_reducible assumption | with_reducible refine b_alloc ?_ _ | with_reducible refine b_drewN ?_ _ | with_reducible refine b_drew ?_ | with_reducible refine b_set ?_ (by first | (simp only [World.size_setCell, World.size_alloc, World.size_drew]; omega) | (simp; done) | (simp; omega)) _ | with_reducible refine b_step ?_ (by with_reducible assumption))) hb); have hz := hb.size; (try simp at hz); have yw1_0 : w.heap.size < w1.heap.size := (by omega)) | (go_at_call 70; refine (impl_in_c _ _ _ _).mono ?_; rintro e w' ⟨rfl, rfl⟩))
    all_goals go_ret2
    all_goals exact ⟨rt2 (by simp [LL.Near, hA]) (by simp [LL.nearT, LL.Near, hA]), (by repeat' (first | with_reducible exact Below.refl _ _ | with_reducible assumption | with_reducible refine b_alloc ?_ _ | with_reducible refine b_drewN ?_ _ | with_reducible refine b_drew ?_ | with_reducible refine b_set ?_ (by first | (simp only [World.size_setCell, World.size_alloc, World.size_drew]; omega) | (simp; done) | (simp; omega)) _ | with_reducible refine b_step ?_ (by with_reducible assumption)))⟩
end Go.Proofs.Ytpeojnknfonmlaa
