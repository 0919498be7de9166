/- The laws' helpers for slices of plain structs. -/
import Derived.Test.YtbcibaaolkbfbaaQ1
import Derived.Test.YtbcibaaolkbfbaaW
set_option linter.unusedVariables false
set_option linter.unusedSimpArgs false
namespace Go.Proofs.Ytbcibaaolkbfbaa
open Go.RowKit
attribute [local go_sem] w_lt_add w_le_of w_le_add max2_i min2_i
theorem toFlyStep_c (s : LL.Step) (w : World) : Calls Try.prog 87 #[.agg #[.int .i64 s.x, .int .i64 s.y, .int .i64 s.lo, .int .i64 s.hi, .int .i64 s.fr, .int .i64 s.by_, .bool s.hold]] w fun e w' => e = .returned (.agg #[.int .i64 s.x, .int .i64 s.y, .int .i64 s.lo, .int .i64 s.hi, .int .i64 s.fr, .int .i64 s.by_, .bool s.hold]) ∧ Below w.heap.size w w' := by
  go_enter Try.func87, Try.ntmps87
  go_wp2
  go_returns
  exact ⟨rfl, (by repeat' (first | with_reducible exact Below.refl _ _ | with_reducible assumption | with_reducible refine b_alloc ?_ _ | with_reducible refine b_drewN ?_ _ | with_reducible refine b_drew ?_ | with_reducible refine b_set ?_ (by first | (simp only [World.size_setCell, World.size_alloc, World.size_drew]; omega) | (simp; done) | (simp; omega)) _ | with_reducible refine b_step ?_ (by with_reducible assumption)))⟩
set_option maxHeartbeats 1000000 in
theorem toFlyStepS_c (xs : List LL.Step) (A : Option Addr) (c : Nat) (w : World) (h : RdS w A xs.length c xs) : Calls Try.prog 62 #[.slice A xs.length c] w (Mk stepC 7 56 79 w xs) := by
  have hroom := h.room
  go_enter Try.func62, Try.ntmps62
  go_wp2_with (at_make; (refine wp_make rfl _ _ _ rfl stepE (.agg (stepC LL.z0).toArray) LL.z0 Try.underlying31 (by kernel_rfl) rfl xs.length rfl rfl hroom (by decide) ?_); intro g w1 hg hO hb hgl; have hge : w.heap.size ≤ g := (by omega); clear hg)
  go_loopw [4] (fun i wr => ∃ k : Nat, k ≤ xs.length ∧ i = .int .i64 k ∧ Own stepC 7 56 79 wr (.slice (some ⟨g, 0, none⟩) xs.length xs.length) (upto LL.z0 xs k) ∧ Below w.heap.size w wr) (fun i _ => xs.length - (intOf i).toNat)
  case atStart => exact ⟨0, Nat.zero_le _, rfl, by rw [upto_zero]; exact hO, hb⟩
  case round =>
    clear hO hb hgl
    obtain ⟨k, hk, rfl, hO, hb⟩ := hrel
    obtain ⟨hc, hf, hl⟩ := bcell hb
    by_cases hlt : k < xs.length
    · obtain ⟨b, off, rfl, hbw⟩ := h.addr (by omega)
      obtain ⟨c0, c1, c2, c3, c4, c5, c6⟩ := h.S7 k hlt
      have hul := Lib.hid (upto_len LL.z0 xs k hk)
      go_wp2_with (first | (go_at_call 87; go_loud (refine (toFlyStep_c _ _).mono ?_); rintro e w2 ⟨rfl, hb⟩; (repeat (with_reducible first | replace hb := b_un hb | replace hb := b_unN hb)); obtain ⟨hc, hf, hl⟩ := bcell hb; obtain ⟨gc, gf, gl⟩ := bcell (b_step (w := w) (by repeat' (first | with_reducible exact Below.refl _ _ | with_reducible assumption | with_reducible refine b_alloc ?_ _ | with_reducible refine b_drewN ?_ _ | with_reducible refine b_drew ?_ | with_reducible refine b_set ?_ (by first | (simp only [World.size_setCell, World.size_alloc, World.size_drew]; omega) | (simp; done) | (simp; omega)) _ | with_reducible refine b_step ?_ (by with_reducible assumption))) hb); have hz := hb.size; (try simp at hz); skip) | ((with_reducible refine gate_st 79 21 rfl ?_); (refine wp_put (bytes := 56) (e := 79) (cap := xs.length) 79 21 _ rfl rfl rfl stepE hul.out k (LL.nth xs k) _ rfl rfl rfl rfl ?_ ?_ hlt ?_); (kernel_rfl); (exact (by repeat' (first | with_reducible assumption | with_reducible refine Own.a ?_ _ | with_reducible refine Own.d ?_ | with_reducible refine Own.dN ?_ _ | with_reducible refine Own.b ?_ (by with_reducible assumption)))); intro w3 hO2 hg2))
      go_roundw
      case rel => exact ⟨k + 1, by omega, by go_num, by rw [← upto_set _ _ _ hlt]; exact hO2, b_grown (by repeat' (first | with_reducible exact Below.refl _ _ | with_reducible assumption | with_reducible refine b_alloc ?_ _ | with_reducible refine b_drewN ?_ _ | with_reducible refine b_drew ?_ | with_reducible refine b_set ?_ (by first | (simp only [World.size_setCell, World.size_alloc, World.size_drew]; omega) | (simp; done) | (simp; omega)) _ | with_reducible refine b_step ?_ (by with_reducible assumption))) hg2 hge⟩
      case measure => simp [intOf]; omega
    · obtain rfl : k = xs.length := by omega
      rw [upto_all] at hO
      go_wp2
      go_ret
      exact ⟨_, rfl, hO, fun k hk => by cases hk; exact hge, hb⟩
theorem eqFlyStep_c (s : LL.Step) (w : World) : Calls Try.prog 90 #[.agg #[.int .i64 s.x, .int .i64 s.y, .int .i64 s.lo, .int .i64 s.hi, .int .i64 s.fr, .int .i64 s.by_, .bool s.hold], .agg #[.int .i64 s.x, .int .i64 s.y, .int .i64 s.lo, .int .i64 s.hi, .int .i64 s.fr, .int .i64 s.by_, .bool s.hold]] w fun e w' => e = .returned (.bool true) ∧ Below w.heap.size w w' := by
  go_enter Try.func90, Try.ntmps90
  go_wp2
  go_ret
  exact ⟨rfl, (by repeat' (first | with_reducible exact Below.refl _ _ | with_reducible assumption | with_reducible refine b_alloc ?_ _ | with_reducible refine b_drewN ?_ _ | with_reducible refine b_drew ?_ | with_reducible refine b_set ?_ (by first | (simp only [World.size_setCell, World.size_alloc, World.size_drew]; omega) | (simp; done) | (simp; omega)) _ | with_reducible refine b_step ?_ (by with_reducible assumption)))⟩
set_option maxHeartbeats 1000000 in
theorem eqFlyStepS_c (xs : List LL.Step) (A A' : Option Addr) (c c' : Nat) (w : World) (h : RdS w A xs.length c xs) (h' : RdS w A' xs.length c' xs) : Calls Try.prog 67 #[.slice A xs.length c, .slice A' xs.length c'] w fun e w' => e = .returned (.bool true) ∧ Below w.heap.size w w' := by
  have hroom := h.room
  go_enter Try.func67, Try.ntmps67
  go_wp2
  go_loopw [5] (fun i wr => ∃ k : Nat, k ≤ xs.length ∧ i = .int .i64 k ∧ Below w.heap.size w wr) (fun i _ => xs.length - (intOf i).toNat)
  case atStart => exact ⟨0, Nat.zero_le _, rfl, Below.refl _ _⟩
  case round =>
    obtain ⟨k, hk, rfl, hb⟩ := hrel
    obtain ⟨hc, hf, hl⟩ := bcell hb
    by_cases hlt : k < xs.length
    · obtain ⟨b, off, rfl, hbw⟩ := h.addr (by omega)
      obtain ⟨b', off', rfl, hbw'⟩ := h'.addr (by omega)
      obtain ⟨c0, c1, c2, c3, c4, c5, c6⟩ := h.S7 k hlt
      obtain ⟨d0, d1, d2, d3, d4, d5, d6⟩ := h'.S7 k hlt
      go_wp2
      go_region_with (go_at_call 90; go_loud (refine (eqFlyStep_c _ _).mono ?_); rintro e w2 ⟨rfl, hb⟩; (repeat (with_reducible first | replace hb := b_un hb | replace hb := b_unN hb)); obtain ⟨hc, hf, hl⟩ := bcell hb; obtain ⟨gc, gf, gl⟩ := bcell (b_step (w := w) (by repeat' (first | with_reducible exact Below.refl _ _ | with_reducible assumption | with_reducible refine b_alloc ?_ _ | with_reducible refine b_drewN ?_ _ | with_reducible refine b_drew ?_ | with_reducible refine b_set ?_ (by first | (simp only [World.size_setCell, World.size_alloc, World.size_drew]; omega) | (simp; done) | (simp; omega)) _ | with_reducible refine b_step ?_ (by with_reducible assumption))) hb); have hz := hb.size; (try simp at hz); skip)
      all_goals (try simp only [List.getElem_toArray, List.getElem_cons_succ, List.getElem_cons_zero, Act.put, List.setIfInBounds_toArray, List.set_cons_zero, List.set_cons_succ])
      all_goals go_wp2
      all_goals go_roundw
      all_goals (try case rel => exact ⟨k + 1, by omega, by go_num, (by repeat' (first | with_reducible exact Below.refl _ _ | with_reducible assumption | with_reducible refine b_alloc ?_ _ | with_reducible refine b_drewN ?_ _ | with_reducible refine b_drew ?_ | with_reducible refine b_set ?_ (by first | (simp only [World.size_setCell, World.size_alloc, World.size_drew]; omega) | (simp; done) | (simp; omega)) _ | with_reducible refine b_step ?_ (by with_reducible assumption)))⟩)
      all_goals (simp [intOf]; omega)
    · obtain rfl : k = xs.length := by omega
      go_wp2
      go_ret
      exact ⟨rfl, hb⟩
theorem szFlyStepS_c (n : Nat) (left : Int) (A : Option Addr) (c : Nat) (w : World) (h0 : 0 ≤ left) (h1 : left ≤ 1048576) (hn : n ≤ 140737488355328) : Calls Try.prog 55 #[.slice A n c, .int .i64 left] w fun e w' => e = .returned (.int .i64 (LL.sz left n)) ∧ w = w' := by
  go_enter Try.func55, Try.ntmps55
  go_wp2
  all_goals go_ret
  all_goals exact ⟨ri (by simp only [LL.sz]; split <;> omega), rfl⟩
theorem eqFlyBox_c (s : LL.Box) (w : World) : Calls Try.prog 81 #[.agg #[.int .i64 s.x, .int .i64 s.y, .int .i64 s.lo, .int .i64 s.hi, .int .i64 s.i, .int .i64 s.o], .agg #[.int .i64 s.x, .int .i64 s.y, .int .i64 s.lo, .int .i64 s.hi, .int .i64 s.i, .int .i64 s.o]] w fun e w' => e = .returned (.bool true) ∧ Below w.heap.size w w' := by
  go_enter Try.func81, Try.ntmps81
  go_wp2
  go_ret
  exact ⟨rfl, (by repeat' (first | with_reducible exact Below.refl _ _ | with_reducible assumption | with_reducible refine b_alloc ?_ _ | with_reducible refine b_drewN ?_ _ | with_reducible refine b_drew ?_ | with_reducible refine b_set ?_ (by first | (simp only [World.size_setCell, World.size_alloc, World.size_drew]; omega) | (simp; done) | (simp; omega)) _ | with_reducible refine b_step ?_ (by with_reducible assumption)))⟩
set_option maxHeartbeats 1000000 in
theorem eqFlyBoxS_c (xs : List LL.Box) (A A' : Option Addr) (c c' : Nat) (w : World) (h : RdB w A xs.length c xs) (h' : RdB w A' xs.length c' xs) : Calls Try.prog 46 #[.slice A xs.length c, .slice A' xs.length c'] w fun e w' => e = .returned (.bool true) ∧ Below w.heap.size w w' := by
  have hroom := h.room
  go_enter Try.func46, Try.ntmps46
  go_wp2
  go_loopw [5] (fun i wr => ∃ k : Nat, k ≤ xs.length ∧ i = .int .i64 k ∧ Below w.heap.size w wr) (fun i _ => xs.length - (intOf i).toNat)
  case atStart => exact ⟨0, Nat.zero_le _, rfl, Below.refl _ _⟩
  case round =>
    obtain ⟨k, hk, rfl, hb⟩ := hrel
    obtain ⟨hc, hf, hl⟩ := bcell hb
    by_cases hlt : k < xs.length
    · obtain ⟨b, off, rfl, hbw⟩ := h.addr (by omega)
      obtain ⟨b', off', rfl, hbw'⟩ := h'.addr (by omega)
      obtain ⟨c0, c1, c2, c3, c4, c5⟩ := h.S6 k hlt
      obtain ⟨d0, d1, d2, d3, d4, d5⟩ := h'.S6 k hlt
      go_wp2
      go_region_with (go_at_call 81; go_loud (refine (eqFlyBox_c _ _).mono ?_); rintro e w2 ⟨rfl, hb⟩; (repeat (with_reducible first | replace hb := b_un hb | replace hb := b_unN hb)); obtain ⟨hc, hf, hl⟩ := bcell hb; obtain ⟨gc, gf, gl⟩ := bcell (b_step (w := w) (by repeat' (first | with_reducible exact Below.refl _ _ | with_reducible assumption | with_reducible refine b_alloc ?_ _ | with_reducible refine b_drewN ?_ _ | with_reducible refine b_drew ?_ | with_reducible refine b_set ?_ (by first | (simp only [World.size_setCell, World.size_alloc, World.size_drew]; omega) | (simp; done) | (simp; omega)) _ | with_reducible refine b_step ?_ (by with_reducible assumption))) hb); have hz := hb.size; (try simp at hz); skip)
      all_goals (try simp only [List.getElem_toArray, List.getElem_cons_succ, List.getElem_cons_zero, Act.put, List.setIfInBounds_toArray, List.set_cons_zero, List.set_cons_succ])
      all_goals go_wp2
      all_goals go_roundw
      all_goals (try case rel => exact ⟨k + 1, by omega, by go_num, (by repeat' (first | with_reducible exact Below.refl _ _ | with_reducible assumption | with_reducible refine b_alloc ?_ _ | with_reducible refine b_drewN ?_ _ | with_reducible refine b_drew ?_ | with_reducible refine b_set ?_ (by first | (simp only [World.size_setCell, World.size_alloc, World.size_drew]; omega) | (simp; done) | (simp; omega)) _ | with_reducible refine b_step ?_ (by with_reducible assumption)))⟩)
      all_goals (simp [intOf]; omega)
    · obtain rfl : k = xs.length := by omega
      go_wp2
      go_ret
      exact ⟨rfl, hb⟩
end Go.Proofs.Ytbcibaaolkbfbaa
