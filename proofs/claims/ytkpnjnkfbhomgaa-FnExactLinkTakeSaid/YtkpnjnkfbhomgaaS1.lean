/- Bounds and spans: the walks of the program's and of the reference's. -/
import Derived.Test.YtkpnjnkfbhomgaaX2
import Derived.Test.YtkpnjnkfbhomgaaG
import Derived.Test.YtkpnjnkfbhomgaaM2
set_option linter.unusedVariables false
set_option linter.unusedSimpArgs false
namespace Go.Proofs.Ytkpnjnkfbhomgaa
open Go.RowKit
attribute [local go_sem] w_lt_add w_le_of w_le_add max2_i min2_i
theorem spec_l1Max_c (a b : Int) (w : World) : Calls Try.prog 143 #[.int .i64 a, .int .i64 b] w fun e w' => e = .returned (.int .i64 (max a b)) ∧ w = w' := by
  go_enter Try.func143, Try.ntmps143
  go_wp2
  all_goals go_ret
  all_goals exact ⟨ri (by omega), rfl⟩
theorem spec_l1Min_c (a b : Int) (w : World) : Calls Try.prog 155 #[.int .i64 a, .int .i64 b] w fun e w' => e = .returned (.int .i64 (min a b)) ∧ w = w' := by
  go_enter Try.func155, Try.ntmps155
  go_wp2
  all_goals go_ret
  all_goals exact ⟨ri (by omega), rfl⟩
theorem spec_l3Low_c (p : LL.Path) (A : Option Addr) (c : Nat) (k : Nat) (i : Int) (hi : i = k) (w : World) (h : RdS w A p.steps.length c p.steps) : Calls Try.prog 153 #[.agg #[.int .i64 p.q, .int .i64 p.s, .slice A p.steps.length c, .int .i64 p.fr, .int .i64 p.by_], .int .i64 i] w fun e w' => e = .returned (.int .i64 (LL.lowB p k)) ∧ Below w.heap.size w w' := by
  subst hi
  by_cases hlt : k < p.steps.length
  · obtain ⟨b, off, rfl, hbw⟩ := h.addr (by omega)
    obtain ⟨c0, c1, c2, c3, c4, c5, c6⟩ := h.S7 k hlt
    go_enter Try.func153, Try.ntmps153
    go_wp2
    go_ret
    exact ⟨ri (by simp [LL.lowB, hlt, LL.Path.at_]), (by repeat' (first | with_reducible exact Below.refl _ _ | with_reducible assumption | with_reducible refine b_alloc ?_ _ | with_reducible refine b_drewN ?_ _ | with_reducible refine b_drew ?_ | with_reducible refine b_set ?_ (by first | (simp only [World.size_setCell, World.size_alloc, World.size_drew]; omega) | (simp; done) | (simp; omega)) _ | with_reducible refine b_step ?_ (by with_reducible assumption)))⟩
  · go_enter Try.func153, Try.ntmps153
    go_wp2
    go_ret
    exact ⟨ri (by simp [LL.lowB, hlt]), (by repeat' (first | with_reducible exact Below.refl _ _ | with_reducible assumption | with_reducible refine b_alloc ?_ _ | with_reducible refine b_drewN ?_ _ | with_reducible refine b_drew ?_ | with_reducible refine b_set ?_ (by first | (simp only [World.size_setCell, World.size_alloc, World.size_drew]; omega) | (simp; done) | (simp; omega)) _ | with_reducible refine b_step ?_ (by with_reducible assumption)))⟩
theorem spec_l3High_c (p : LL.Path) (A : Option Addr) (c : Nat) (k : Nat) (i : Int) (hi : i = k) (w : World) (h : RdS w A p.steps.length c p.steps) : Calls Try.prog 154 #[.agg #[.int .i64 p.q, .int .i64 p.s, .slice A p.steps.length c, .int .i64 p.fr, .int .i64 p.by_], .int .i64 i] w fun e w' => e = .returned (.int .i64 (LL.highB p k)) ∧ Below w.heap.size w w' := by
  subst hi
  by_cases hlt : k < p.steps.length
  · obtain ⟨b, off, rfl, hbw⟩ := h.addr (by omega)
    obtain ⟨c0, c1, c2, c3, c4, c5, c6⟩ := h.S7 k hlt
    go_enter Try.func154, Try.ntmps154
    go_wp2
    go_ret
    exact ⟨ri (by simp [LL.highB, hlt, LL.Path.at_]), (by repeat' (first | with_reducible exact Below.refl _ _ | with_reducible assumption | with_reducible refine b_alloc ?_ _ | with_reducible refine b_drewN ?_ _ | with_reducible refine b_drew ?_ | with_reducible refine b_set ?_ (by first | (simp only [World.size_setCell, World.size_alloc, World.size_drew]; omega) | (simp; done) | (simp; omega)) _ | with_reducible refine b_step ?_ (by with_reducible assumption)))⟩
  · go_enter Try.func154, Try.ntmps154
    go_wp2
    go_ret
    exact ⟨ri (by simp [LL.highB, hlt]), (by repeat' (first | with_reducible exact Below.refl _ _ | with_reducible assumption | with_reducible refine b_alloc ?_ _ | with_reducible refine b_drewN ?_ _ | with_reducible refine b_drew ?_ | with_reducible refine b_set ?_ (by first | (simp only [World.size_setCell, World.size_alloc, World.size_drew]; omega) | (simp; done) | (simp; omega)) _ | with_reducible refine b_step ?_ (by with_reducible assumption)))⟩
theorem spec_l3Most_c (p : LL.Path) (A : Option Addr) (c : Nat) (k : Nat) (i : Int) (hi : i = k) (hlt : k < p.steps.length) (w : World) (h : RdS w A p.steps.length c p.steps) : Calls Try.prog 156 #[.agg #[.int .i64 p.q, .int .i64 p.s, .slice A p.steps.length c, .int .i64 p.fr, .int .i64 p.by_], .int .i64 i] w fun e w' => e = .returned (.int .i64 (LL.most p k)) ∧ Below w.heap.size w w' := by
  subst hi
  obtain ⟨b, off, rfl, hbw⟩ := h.addr (by omega)
  obtain ⟨c0, c1, c2, c3, c4, c5, c6⟩ := h.S7 k hlt
  go_enter Try.func156, Try.ntmps156
  go_wp2
  all_goals go_ret
  all_goals exact ⟨ri (by simp_all [LL.most, LL.Path.at_]), (by repeat' (first | with_reducible exact Below.refl _ _ | with_reducible assumption | with_reducible refine b_alloc ?_ _ | with_reducible refine b_drewN ?_ _ | with_reducible refine b_drew ?_ | with_reducible refine b_set ?_ (by first | (simp only [World.size_setCell, World.size_alloc, World.size_drew]; omega) | (simp; done) | (simp; omega)) _ | with_reducible refine b_step ?_ (by with_reducible assumption)))⟩
theorem impl_bounds_c (p : LL.Path) (A : Option Addr) (c : Nat) (k : Nat) (i : Int) (hi : i = k) (hk : k ≤ p.steps.length) (w : World) (h : RdS w A p.steps.length c p.steps) : Calls Try.prog 134 #[.agg #[.int .i64 p.q, .int .i64 p.s, .slice A p.steps.length c, .int .i64 p.fr, .int .i64 p.by_], .int .i64 i] w fun e w' => e = .returned (.tuple #[.int .i64 (LL.lowB p k), .int .i64 (LL.highB p k)]) ∧ Below w.heap.size w w' := by
  subst hi
  by_cases hlt : k < p.steps.length
  · obtain ⟨b, off, rfl, hbw⟩ := h.addr (by omega)
    obtain ⟨c0, c1, c2, c3, c4, c5, c6⟩ := h.S7 k hlt
    have hne : ((k : Int) == (p.steps.length : Int)) = false := by simp; omega
    go_enter Try.func134, Try.ntmps134
    go_wp2
    go_quiet (fail)
    go_wp2
    go_ret2
    exact ⟨by simp [LL.lowB, LL.highB, hlt, LL.Path.at_], (by repeat' (first | with_reducible exact Below.refl _ _ | with_reducible assumption | with_reducible refine b_alloc ?_ _ | with_reducible refine b_drewN ?_ _ | with_reducible refine b_drew ?_ | with_reducible refine b_set ?_ (by first | (simp only [World.size_setCell, World.size_alloc, World.size_drew]; omega) | (simp; done) | (simp; omega)) _ | with_reducible refine b_step ?_ (by with_reducible assumption)))⟩
  · obtain rfl : k = p.steps.length := by omega
    go_enter Try.func134, Try.ntmps134
    go_wp2
    go_quiet (fail)
    go_wp2
    go_ret2
    exact ⟨by simp [LL.lowB, LL.highB], (by repeat' (first | with_reducible exact Below.refl _ _ | with_reducible assumption | with_reducible refine b_alloc ?_ _ | with_reducible refine b_drewN ?_ _ | with_reducible refine b_drew ?_ | with_reducible refine b_set ?_ (by first | (simp only [World.size_setCell, World.size_alloc, World.size_drew]; omega) | (simp; done) | (simp; omega)) _ | with_reducible refine b_step ?_ (by with_reducible assumption)))⟩
end Go.Proofs.Ytkpnjnkfbhomgaa
