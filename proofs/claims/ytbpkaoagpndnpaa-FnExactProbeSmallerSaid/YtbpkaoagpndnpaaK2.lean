/- What the walks of the laws share: destructors of contracts, rows that do not meet. -/
import Derived.Test.YtbpkaoagpndnpaaK1
set_option linter.unusedVariables false
set_option linter.unusedSimpArgs false
namespace Go.Proofs.Ytbpkaoagpndnpaa
open Go.RowKit
attribute [local go_sem] w_lt_add w_le_of w_le_add max2_i min2_i
theorem LL.sz_le {left : Int} (h : 0 ≤ left) (n : Nat) : LL.sz left n ≤ left := by unfold LL.sz; split <;> omega
theorem calls_name {P : Program} {f : FuncId} {args : Array Value} {w : World} {Q : Ending → World → Prop} (R : World → Prop) (h0 : R w) (h : ∀ w, R w → Calls P f args w Q) : Calls P f args w Q := h w h0
section
variable {α : Type} {enc : α → List Value} {sz bytes e : Nat} {w w' : World} {xs : List α} {en : Ending} {b : Bool}
theorem Mk.go (h : Mk enc sz bytes e w xs en w') (E : EncOk enc sz) : ∃ A c, en = .returned (.slice A xs.length c) ∧ Own enc sz bytes e w' (.slice A xs.length c) xs ∧ (∀ k, Value.ownBlock (.slice A xs.length c) = some k → w.heap.size ≤ k) ∧ Below w.heap.size w w' := by
  obtain ⟨v, rfl, hO, hg, hb⟩ := h
  obtain ⟨A, c, rfl, _⟩ := hO.rd E
  exact ⟨A, c, rfl, hO, hg, hb⟩
theorem Mk2.go2 (h : Mk2 enc sz bytes e w xs b en w') (E : EncOk enc sz) : ∃ A c, en = .returned (.tuple #[.slice A xs.length c, .bool b]) ∧ Own enc sz bytes e w' (.slice A xs.length c) xs ∧ (∀ k, Value.ownBlock (.slice A xs.length c) = some k → w.heap.size ≤ k) ∧ Below w.heap.size w w' := by
  obtain ⟨v, rfl, hO, hg, hb⟩ := h
  obtain ⟨A, c, rfl, _⟩ := hO.rd E
  exact ⟨A, c, rfl, hO, hg, hb⟩
theorem MkP.gop {e : Nat} {p : LL.Path} (h : MkP e w p en w') : ∃ A c, en = .returned (.agg #[.int .i64 p.q, .int .i64 p.s, .slice A p.steps.length c, .int .i64 p.fr, .int .i64 p.by_]) ∧ Own stepC 7 56 e w' (.slice A p.steps.length c) p.steps ∧ (∀ k, Value.ownBlock (.slice A p.steps.length c) = some k → w.heap.size ≤ k) ∧ Below w.heap.size w w' := by
  obtain ⟨v, rfl, hO, hg, hb⟩ := h
  obtain ⟨A, c, rfl, _⟩ := hO.rd stepE
  exact ⟨A, c, rfl, hO, hg, hb⟩
theorem Own.rd_at' {A : Option Addr} {n c : Nat} (h : Own enc sz bytes e w (.slice A n c) xs) (E : EncOk enc sz) : Rd enc sz bytes w A n c xs := by
  obtain ⟨A1, k, e1, hR⟩ := h.rd E
  injection e1 with e1 e2 e3
  subst e1 e2 e3
  exact hR
theorem Own.rd_tab {A : Option Addr} {n c m : Nat} {f : Nat → α} (h : Own enc sz bytes e w (.slice A n c) (LL.tab m f)) (E : EncOk enc sz) : Rd enc sz bytes w A n c (LL.tab n f) := by
  obtain ⟨A1, k, e1, hR⟩ := h.rd E
  injection e1 with e1 e2 e3
  rw [LL.tab_len] at e2 hR
  subst e1 e2 e3
  exact hR
end
theorem blk_new5 (w : World) (z0 z1 z2 z3 z4 a b c d e : Value) (t : TypeId) : Blk ((((((w.alloc (.cells #[z0, z1, z2, z3, z4] t)).setCell ⟨w.heap.size, 0, none⟩ a).setCell ⟨w.heap.size, 1, none⟩ b).setCell ⟨w.heap.size, 2, none⟩ c).setCell ⟨w.heap.size, 3, none⟩ d).setCell ⟨w.heap.size, 4, none⟩ e) w.heap.size #[a, b, c, d, e] t := by
  have := (((((Blk.new w #[z0, z1, z2, z3, z4] t).put 0 a).put 1 b).put 2 c).put 3 d).put 4 e
  simpa using this
theorem own_ne {v v' : Value} {n m : Nat} (h : ∀ k, v.ownBlock = some k → k < n) (h' : ∀ k, v'.ownBlock = some k → m ≤ k) (hn : n ≤ m) : v.ownBlock = none ∨ v.ownBlock ≠ v'.ownBlock := by
  cases hv : v.ownBlock with
  | none => exact .inl rfl
  | some k => exact .inr fun e => by have := h k hv; have := h' k e.symm; omega
theorem own_ne' {v v' : Value} {n m : Nat} (h : ∀ k, v.ownBlock = some k → m ≤ k) (h' : ∀ k, v'.ownBlock = some k → k < n) (hn : n ≤ m) : v.ownBlock = none ∨ v.ownBlock ≠ v'.ownBlock := by
  cases hv : v.ownBlock with
  | none => exact .inl rfl
  | some k => exact .inr fun e => by have := h k hv; have := h' k e.symm; omega
end Go.Proofs.Ytbpkaoagpndnpaa
