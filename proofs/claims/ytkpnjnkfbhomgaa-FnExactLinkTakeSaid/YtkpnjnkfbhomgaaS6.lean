/- The first and the last flight. -/
import Derived.Test.YtkpnjnkfbhomgaaS5
set_option linter.unusedVariables false
set_option linter.unusedSimpArgs false
namespace Go.Proofs.Ytkpnjnkfbhomgaa
open Go.RowKit
attribute [local go_sem] w_lt_add w_le_of w_le_add max2_i min2_i
def LL.firstM (p : LL.Path) : List Int := (LL.spansM p).map (·.lo)
def LL.lastM (p : LL.Path) : List Int := (LL.spansM p).map (·.hi)
theorem LL.map_tab {α β : Type} (xs : List α) (d : α) (f : α → β) : xs.map f = LL.tab xs.length fun i => f (xs.getD i d) := by
  apply List.ext_getElem?
  intro i
  by_cases h : i < xs.length <;> simp [LL.tab, h, List.getD_eq_getElem?_getD]
theorem own_two {v v' : Value} {n m : Nat} (h : v.ownBlock = v'.ownBlock ∨ v.ownBlock = some n) {b : Nat} (hb : v.ownBlock = some b) (P : Nat → Prop) (h1 : ∀ k, v'.ownBlock = some k → P k) (h2 : P n) : P b := by
  rcases h with h | h
  · exact h1 b (h ▸ hb)
  · rw [h] at hb; cases hb; exact h2
theorem LL.map_len {α β : Type} (xs : List α) (f : α → β) : (xs.map f).length = xs.length := List.length_map ..
end Go.Proofs.Ytkpnjnkfbhomgaa
