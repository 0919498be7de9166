/- Tubes: FlySmaller of the program. -/
import Derived.Test.YtpeojnknfonmlaaJ3
set_option linter.unusedVariables false
set_option linter.unusedSimpArgs false
namespace Go.Proofs.Ytpeojnknfonmlaa
open Go.RowKit
attribute [local go_sem] w_lt_add w_le_of w_le_add max2_i min2_i
set_option maxRecDepth 4000 in
set_option maxHeartbeats 2000000 in
theorem impl_FlySmaller_c (xs ys : List LL.Box) (A B : Option Addr) (c d : Nat) (w : World) (h : RdB w A xs.length c xs) (h' : RdB w B ys.length d ys) : Calls Try.prog 48 #[.slice A xs.length c, .slice B ys.length d] w fun e w' => e = .returned (.bool (decide (LL.Small xs ys))) ∧ Below w.heap.size w w' := by
  have hroom := h.room
  have hroom' := h'.room
  go_enter Try.func48, Try.ntmps48
  go_wp2
  go_loopw [12] (fun i wr => ∃ k : Nat, k ≤ xs.length ∧ i = .int .i64 k ∧ LL.All_ (fun a => LL.Held a ys) xs k ∧ Below w.heap.size w wr) (fun i _ => xs.length - (intOf i).toNat)
  case atStart => exact ⟨0, Nat.zero_le _, rfl, LL.All_.zero _ _, Below.refl _ _⟩
  case round =>
    obtain ⟨k, hk, rfl, hn, hb⟩ := hrel
    obtain ⟨hc, hf, hl⟩ := bcell hb
    by_cases hlt : k < xs.length
    · obtain ⟨b, off, rfl, hbw⟩ := h.addr (by omega)
      obtain ⟨c0, c1, c2, c3, c4, c5⟩ := h.S6 k hlt
      by_cases hV1 : (LL.nthB xs k).hi < (LL.nthB xs k).lo
      · go_wp2
        go_roundw
        case rel => exact ⟨k + 1, by omega, by go_num, hn.succ (.inl (.inl hV1)), (by repeat' (first | with_reducible exact Below.refl _ _ | with_reducible assumption | with_reducible refine b_alloc ?_ _ | with_reducible refine b_drewN ?_ _ | with_reducible refine b_drew ?_ | with_reducible refine b_set ?_ (by first | (simp only [World.size_setCell, World.size_alloc, World.size_drew]; omega) | (simp; done) | (simp; omega)) _ | with_reducible refine b_step ?_ (by with_reducible assumption)))⟩
        case measure => simp [intOf]; omega
      by_cases hV2 : (LL.nthB xs k).o < (LL.nthB xs k).i
      · go_wp2
        go_roundw
        case rel => exact ⟨k + 1, by omega, by go_num, hn.succ (.inl (.inr hV2)), (by repeat' (first | with_reducible exact Below.refl _ _ | with_reducible assumption | with_reducible refine b_alloc ?_ _ | with_reducible refine b_drewN ?_ _ | with_reducible refine b_drew ?_ | with_reducible refine b_set ?_ (by first | (simp only [World.size_setCell, World.size_alloc, World.size_drew]; omega) | (simp; done) | (simp; omega)) _ | with_reducible refine b_step ?_ (by with_reducible assumption)))⟩
        case measure => simp [intOf]; omega
      have hV : ¬ LL.Void (LL.nthB xs k) := fun h => h.elim hV1 hV2
      · go_wp2
        obtain ⟨wo, rfl⟩ : ∃ wo : World, wo = wr := ⟨_, rfl⟩
        have hzo := hb.size
        have kB := Blk.new wo #[.int .i64 (LL.nthB xs k).x, .int .i64 (LL.nthB xs k).y, .int .i64 (LL.nthB xs k).lo, .int .i64 (LL.nthB xs k).hi, .int .i64 (LL.nthB xs k).i, .int .i64 (LL.nthB xs k).o] 62
        go_loopw [7, 30] (fun f i w3 => ∃ (m : Nat) (fd : Bool), m ≤ ys.length ∧ i = .int .i64 m ∧ f = .bool fd ∧ LL.Found False (LL.nthB xs k) ys m fd ∧ Blk w3 wo.heap.size #[.int .i64 (LL.nthB xs k).x, .int .i64 (LL.nthB xs k).y, .int .i64 (LL.nthB xs k).lo, .int .i64 (LL.nthB xs k).hi, .int .i64 (LL.nthB xs k).i, .int .i64 (LL.nthB xs k).o] 62 ∧ Below w.heap.size w w3) (fun _ i _ => ys.length - (intOf i).toNat)
        case atStart => exact ⟨0, _, Nat.zero_le _, rfl, rfl, (by simp [LL.Found, LL.Some_.zero]), kB, (by repeat' (first | with_reducible exact Below.refl _ _ | with_reducible assumption | with_reducible refine b_alloc ?_ _ | with_reducible refine b_drewN ?_ _ | with_reducible refine b_drew ?_ | with_reducible refine b_set ?_ (by first | (simp only [World.size_setCell, World.size_alloc, World.size_drew]; omega) | (simp; done) | (simp; omega)) _ | with_reducible refine b_step ?_ (by with_reducible assumption)))⟩
        case round =>
          clear hb hc hf hl kB
          obtain ⟨m, fd, hm, rfl, rfl, hF, kB, hb⟩ := hrel
          generalize wo.heap.size = g0 at *
          obtain ⟨hc, hf, hl⟩ := bcell hb
          obtain ⟨e0, f0, l0⟩ := kB.cells
          by_cases hlm : m < ys.length
          · obtain ⟨b', off', rfl, hbw'⟩ := h'.addr (by omega)
            obtain ⟨d0, d1, d2, d3, d4, d5⟩ := h'.S6 m hlm
            cases fd
            · by_cases hx : (LL.nthB xs k).x = (LL.nthB ys m).x
              · have hxb : ((LL.nthB xs k).x == (LL.nthB ys m).x) = true := by simp [hx]
                have HX := Lib.hid hx
                clear hx
                by_cases hy : (LL.nthB xs k).y = (LL.nthB ys m).y
                · have hyb : ((LL.nthB xs k).y == (LL.nthB ys m).y) = true := by simp [hy]
                  have HY := Lib.hid hy
                  clear hy
                  go_wp2_with (go_at_call 70; refine (impl_in_c _ _ _ _).mono ?_; rintro e w' ⟨rfl, rfl⟩)
                  all_goals (go_roundw; (case rel => refine ⟨m + 1, _, by omega, by go_num, rfl, hF.succ ?_, (by repeat' (first | with_reducible assumption | with_reducible exact Blk.new _ _ _ | with_reducible exact Blk.new' _ _ (by first | (simp only [World.size_alloc, World.size_setCell, World.size_drew]; done) | (simp only [World.size_alloc, World.size_setCell, World.size_drew]; omega) | omega) | with_reducible refine Blk.a ?_ _ | with_reducible refine Blk.d ?_ | with_reducible refine Blk.dN ?_ _ | with_reducible refine Blk.s ?_ (by simp only [ne_eq]; omega) _ | with_reducible refine Blk.b ?_ (by with_reducible assumption))), (by repeat' (first | with_reducible exact Below.refl _ _ | with_reducible assumption | with_reducible refine b_alloc ?_ _ | with_reducible refine b_drewN ?_ _ | with_reducible refine b_drew ?_ | with_reducible refine b_set ?_ (by first | (simp only [World.size_setCell, World.size_alloc, World.size_drew]; omega) | (simp; done) | (simp; omega)) _ | with_reducible refine b_step ?_ (by with_reducible assumption)))⟩; go_light; have HX := HX.out; have HY := HY.out; unfold LL.Cover; unfold LL.In at *; simp_all; (first | done | omega | (have v2 := hV2; have v1 := hV1; refine ⟨fun hq => ?_, fun hq => ?_⟩; (have hq2 := of_decide_eq_true hq; omega); (refine decide_eq_true ?_; omega)))); (case measure => simp [intOf]; omega))
                · have hyb : ((LL.nthB xs k).y == (LL.nthB ys m).y) = false := by simp [hy]
                  go_wp2_with (go_at_call 70; refine (impl_in_c _ _ _ _).mono ?_; rintro e w' ⟨rfl, rfl⟩)
                  all_goals (go_roundw; (case rel => refine ⟨m + 1, _, by omega, by go_num, rfl, hF.succ ?_, (by repeat' (first | with_reducible assumption | with_reducible exact Blk.new _ _ _ | with_reducible exact Blk.new' _ _ (by first | (simp only [World.size_alloc, World.size_setCell, World.size_drew]; done) | (simp only [World.size_alloc, World.size_setCell, World.size_drew]; omega) | omega) | with_reducible refine Blk.a ?_ _ | with_reducible refine Blk.d ?_ | with_reducible refine Blk.dN ?_ _ | with_reducible refine Blk.s ?_ (by simp only [ne_eq]; omega) _ | with_reducible refine Blk.b ?_ (by with_reducible assumption))), (by repeat' (first | with_reducible exact Below.refl _ _ | with_reducible assumption | with_reducible refine b_alloc ?_ _ | with_reducible refine b_drewN ?_ _ | with_reducible refine b_drew ?_ | with_reducible refine b_set ?_ (by first | (simp only [World.size_setCell, World.size_alloc, World.size_drew]; omega) | (simp; done) | (simp; omega)) _ | with_reducible refine b_step ?_ (by with_reducible assumption)))⟩; go_light; skip; unfold LL.Cover; unfold LL.In at *; simp_all; (first | done | omega | (have v2 := hV2; have v1 := hV1; refine ⟨fun hq => ?_, fun hq => ?_⟩; (have hq2 := of_decide_eq_true hq; omega); (refine decide_eq_true ?_; omega)))); (case measure => simp [intOf]; omega))
              · have hxb : ((LL.nthB xs k).x == (LL.nthB ys m).x) = false := by simp [hx]
                go_wp2_with (go_at_call 70; refine (impl_in_c _ _ _ _).mono ?_; rintro e w' ⟨rfl, rfl⟩)
                all_goals (go_roundw; (case rel => refine ⟨m + 1, _, by omega, by go_num, rfl, hF.succ ?_, (by repeat' (first | with_reducible assumption | with_reducible exact Blk.new _ _ _ | with_reducible exact Blk.new' _ _ (by first | (simp only [World.size_alloc, World.size_setCell, World.size_drew]; done) | (simp only [World.size_alloc, World.size_setCell, World.size_drew]; omega) | omega) | with_reducible refine Blk.a ?_ _ | with_reducible refine Blk.d ?_ | with_reducible refine Blk.dN ?_ _ | with_reducible refine Blk.s ?_ (by simp only [ne_eq]; omega) _ | with_reducible refine Blk.b ?_ (by with_reducible assumption))), (by repeat' (first | with_reducible exact Below.refl _ _ | with_reducible assumption | with_reducible refine b_alloc ?_ _ | with_reducible refine b_drewN ?_ _ | with_reducible refine b_drew ?_ | with_reducible refine b_set ?_ (by first | (simp only [World.size_setCell, World.size_alloc, World.size_drew]; omega) | (simp; done) | (simp; omega)) _ | with_reducible refine b_step ?_ (by with_reducible assumption)))⟩; go_light; skip; unfold LL.Cover; unfold LL.In at *; simp_all; (first | done | omega | (have v2 := hV2; have v1 := hV1; refine ⟨fun hq => ?_, fun hq => ?_⟩; (have hq2 := of_decide_eq_true hq; omega); (refine decide_eq_true ?_; omega)))); (case measure => simp [intOf]; omega))
            · go_wp2
              go_roundw
              case rel => exact ⟨m + 1, _, by omega, by go_num, rfl, hF.succ (by simp), (by repeat' (first | with_reducible assumption | with_reducible exact Blk.new _ _ _ | with_reducible exact Blk.new' _ _ (by first | (simp only [World.size_alloc, World.size_setCell, World.size_drew]; done) | (simp only [World.size_alloc, World.size_setCell, World.size_drew]; omega) | omega) | with_reducible refine Blk.a ?_ _ | with_reducible refine Blk.d ?_ | with_reducible refine Blk.dN ?_ _ | with_reducible refine Blk.s ?_ (by simp only [ne_eq]; omega) _ | with_reducible refine Blk.b ?_ (by with_reducible assumption))), (by repeat' (first | with_reducible exact Below.refl _ _ | with_reducible assumption | with_reducible refine b_alloc ?_ _ | with_reducible refine b_drewN ?_ _ | with_reducible refine b_drew ?_ | with_reducible refine b_set ?_ (by first | (simp only [World.size_setCell, World.size_alloc, World.size_drew]; omega) | (simp; done) | (simp; omega)) _ | with_reducible refine b_step ?_ (by with_reducible assumption)))⟩
              case measure => simp [intOf]; omega
          · obtain rfl : m = ys.length := by omega
            cases fd
            · go_wp2
              go_ret
              exact ⟨rd_ (iff_of_false (LL.not_small hlt (fun h => absurd ((LL.Found.held' hV hF).2 h) (by simp))) (by simp)), hb⟩
            · go_wp2
              go_roundw
              case rel => exact ⟨k + 1, by omega, by go_num, hn.succ ((LL.Found.held' hV hF).1 rfl), (by repeat' (first | with_reducible exact Below.refl _ _ | with_reducible assumption | with_reducible refine b_alloc ?_ _ | with_reducible refine b_drewN ?_ _ | with_reducible refine b_drew ?_ | with_reducible refine b_set ?_ (by first | (simp only [World.size_setCell, World.size_alloc, World.size_drew]; omega) | (simp; done) | (simp; omega)) _ | with_reducible refine b_step ?_ (by with_reducible assumption)))⟩
              case measure => simp [intOf]; omega
    · obtain rfl : k = xs.length := by omega
      go_wp2
      go_ret
      exact ⟨rd_ (iff_of_true hn.all rfl), hb⟩
end Go.Proofs.Ytpeojnknfonmlaa
