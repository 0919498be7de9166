/- What the walks of the laws share: destructors of contracts, rows that do not meet. -/
import Derived.Test.YtkpnjnkfbhomgaaK1
set_option linter.unusedVariables false
set_option linter.unusedSimpArgs false
namespace Go.Proofs.Ytkpnjnkfbhomgaa
open Go.RowKit
attribute [local go_sem] w_lt_add w_le_of w_le_add max2_i min2_i
theorem LL.sz_le {left : Int} (h : 0 ≤ left) (n : Nat) : LL.sz left n ≤ left := by unfold LL.sz; split <;> omega
theorem calls_name {P : Program} {f : FuncId} {args : Array Value} {w : World} {Q : Ending → World → Prop} (R : World → Prop) (h0 : R w) (h : ∀ w, R w → Calls P f args w Q) : Calls P f args w Q := h w h0
section
variable {α : Type} {enc : α → List Value} {sz bytes e : Nat} {w w' : World} {xs : List α} {en : Ending} {b : Bool}
theorem Mk.go (h : Mk enc sz bytes e w xs en w') (E : EncOk enc sz) : ∃ A c, en = .returned (.slice A xs.length c) ∧ Own enc sz bytes e w' (.slice A xs.length c) xs ∧ (∀ k, Value.ownBlock (.slice A xs.length c) = some k → w.heap.size ≤ k) ∧ Below w.heap.size w w' := by
  obtain ⟨v, rfl, hO, hg, hb⟩ := h
  obtain ⟨A, c, rfl, _⟩ := hO.rd E
  exact ⟨A, c, rfl, hO, hg, hb⟩
theorem Mk2.go2 (h : Mk2 enc sz bytes e w xs b en w') (E : EncOk enc sz) : ∃ A c, en = .returned (.tuple #[.slice A xs.length c, .bool b]) ∧ Own enc sz bytes e w' (.slice A xs.length c) xs ∧ (∀ k, Value.ownBlock (.slice A xs.length c) = some k → w.heap.size ≤ k) ∧ Below w.heap.size w w' := by
  obtain ⟨v, rfl, hO, hg, hb⟩ := h
  obtain ⟨A, c, rfl, _⟩ := hO.rd E
  exact ⟨A, c, rfl, hO, hg, hb⟩
theorem MkP.gop {e : Nat} {p : LL.Path} (h : MkP e w p en w') : ∃ A c, en = .returned (.agg #[.int .i64 p.q, .int .i64 p.s, .slice A p.steps.length c, .int .i64 p.fr, .int .i64 p.by_]) ∧ Own stepC 7 56 e w' (.slice A p.steps.length c) p.steps ∧ (∀ k, Value.ownBlock (.slice A p.steps.length c) = some k → w.heap.size ≤ k) ∧ Below w.heap.size w w' := by
  obtain ⟨v, rfl, hO, hg, hb⟩ := h
  obtain ⟨A, c, rfl, _⟩ := hO.rd stepE
  exact ⟨A, c, rfl, hO, hg, hb⟩
theorem Own.rd_at' {A : Option Addr} {n c : Nat} (h : Own enc sz bytes e w (.slice A n c) xs) (E : EncOk enc sz) : Rd enc sz bytes w A n c xs := by
  obtain ⟨A1, k, e1, hR⟩ := h.rd E
  injection e1 with e1 e2 e3
  subst e1 e2 e3
  exact hR
theorem Own.rd_tab {A : Option Addr} {n c m : Nat} {f : Nat → α} (h : Own enc sz bytes e w (.slice A n c) (LL.tab m f)) (E : EncOk enc sz) : Rd enc sz bytes w A n c (LL.tab n f) := by
  obtain ⟨A1, k, e1, hR⟩ := h.rd E
  injection e1 with e1 e2 e3
  rw [LL.tab_len] at e2 hR
  subst e1 e2 e3
  exact hR
end
theorem blk_new5 (w : World) (z0 z1 z2 z3 z4 a b c d e : Value) (t : TypeId) : Blk ((((((w.alloc (.cells #[z0, z1, z2, z3, z4] t)).setCell ⟨w.heap.size, 0, none⟩ a).setCell ⟨w.heap.size, 1, none⟩ b).setCell ⟨w.heap.size, 2, none⟩ c).setCell ⟨w.heap.size, 3, none⟩ d).setCell ⟨w.heap.size, 4, none⟩ e) w.heap.size #[a, b, c, d, e] t := by
  have := (((((Blk.new w #[z0, z1, z2, z3, z4] t).put 0 a).put 1 b).put 2 c).put 3 d).put 4 e
  simpa using this
theorem own_ne {v v' : Value} {n m : Nat} (h : ∀ k, v.ownBlock = some k → k < n) (h' : ∀ k, v'.ownBlock = some k → m ≤ k) (hn : n ≤ m) : v.ownBlock = none ∨ v.ownBlock ≠ v'.ownBlock := by
  cases hv : v.ownBlock with
  | none => exact .inl rfl
  | some k => exact .inr fun e => by have := h k hv; have := h' k e.symm; omega
theorem own_ne' {v v' : Value} {n m : Nat} (h : ∀ k, v.ownBlock = some k → m ≤ k) (h' : ∀ k, v'.ownBlock = some k → k < n) (hn : n ≤ m) : v.ownBlock = none ∨ v.ownBlock ≠ v'.ownBlock := by
  cases hv : v.ownBlock with
  | none => exact .inl rfl
  | some k => exact .inr fun e => by have := h k hv; have := h' k e.symm; omega
theorem szIntS_c (n : Nat) (left : Int) (A : Option Addr) (c : Nat) (w : World) (h0 : 0 ≤ left) (h1 : left ≤ 1048576) (hn : n ≤ 140737488355328) : Calls Try.prog 87 #[.slice A n c, .int .i64 left] w fun e w' => e = .returned (.int .i64 (LL.sz left n)) ∧ w = w' := by
  go_enter Try.func87, Try.ntmps87
  go_wp2
  all_goals go_ret
  all_goals exact ⟨ri (by simp only [LL.sz]; split <;> omega), rfl⟩
set_option maxHeartbeats 1000000 in
theorem markFlyPath_c (p : LL.Path) (A : Option Addr) (c : Nat) (k : Int) (h0 : 0 ≤ k) (h1 : k ≤ 1125899906842624) (w : World) (hO : Own stepC 7 56 146 w (.slice A p.steps.length c) p.steps) : Calls Try.prog 48 #[.agg #[.int .i64 p.q, .int .i64 p.s, .slice A p.steps.length c, .int .i64 p.fr, .int .i64 p.by_], .int .i64 k] w (MkM stepC 7 56 146 w (.slice A p.steps.length c) (k + 7 * (p.steps.length : Int)) (LL.tab p.steps.length (LL.mkFlyStepS k))) := by
  go_enter Try.func48, Try.ntmps48
  go_wp2_with (go_at_call 102; go_loud (refine (markFlyStepS_c p.steps A c k h0 h1 _ (hO.a _)).mono ?_); rintro e w2 ⟨rfl, hO2, hg⟩)
  go_ret
  exact ⟨rfl, hO2, (World.grownBy_alloc w _ _).trans hg⟩
set_option maxHeartbeats 1000000 in
theorem heldFlyPath_c (p : LL.Path) (A : Option Addr) (c : Nat) (k : Int) (h0 : 0 ≤ k) (h1 : k ≤ 1125899906842624) (w : World) (hR : RdS w A p.steps.length c (LL.tab p.steps.length (LL.mkFlyStepS k))) : Calls Try.prog 72 #[.agg #[.int .i64 p.q, .int .i64 p.s, .slice A p.steps.length c, .int .i64 p.fr, .int .i64 p.by_], .int .i64 k] w fun e w' => e = .returned (.int .i64 (k + 7 * (p.steps.length : Int))) ∧ Below w.heap.size w w' := by
  go_enter Try.func72, Try.ntmps72
  go_wp2_with (go_at_call 116; go_loud (refine (heldFlyStepS_c p.steps.length A c k h0 h1 _ (hR.mono (by repeat' (first | with_reducible exact Below.refl _ _ | with_reducible assumption | with_reducible refine b_alloc ?_ _ | with_reducible refine b_drewN ?_ _ | with_reducible refine b_drew ?_ | with_reducible refine b_set ?_ (by first | (simp only [World.size_setCell, World.size_alloc, World.size_drew]; omega) | (simp; done) | (simp; omega)) _ | with_reducible refine b_step ?_ (by with_reducible assumption))))).mono ?_); rintro e w2 ⟨rfl, rfl⟩)
  go_ret
  exact ⟨rfl, (by repeat' (first | with_reducible exact Below.refl _ _ | with_reducible assumption | with_reducible refine b_alloc ?_ _ | with_reducible refine b_drewN ?_ _ | with_reducible refine b_drew ?_ | with_reducible refine b_set ?_ (by first | (simp only [World.size_setCell, World.size_alloc, World.size_drew]; omega) | (simp; done) | (simp; omega)) _ | with_reducible refine b_step ?_ (by with_reducible assumption)))⟩
end Go.Proofs.Ytkpnjnkfbhomgaa
