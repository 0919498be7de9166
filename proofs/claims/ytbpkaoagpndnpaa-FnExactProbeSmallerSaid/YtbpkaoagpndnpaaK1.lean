/- The laws' own marks: each cell of a row of plain structs is given a number of its own, and asked for it again. -/
import Derived.Test.YtbpkaoagpndnpaaS2
import Derived.Test.YtbpkaoagpndnpaaI1
set_option linter.unusedVariables false
set_option linter.unusedSimpArgs false
namespace Go.Proofs.Ytbpkaoagpndnpaa
open Go.RowKit
attribute [local go_sem] w_lt_add w_le_of w_le_add max2_i min2_i
theorem LL.tab_self {α : Type} (xs : List α) (d : α) : LL.tab xs.length (fun i => xs.getD i d) = xs := by
  apply List.ext_getElem?
  intro i
  by_cases h : i < xs.length <;> simp [LL.tab, h, List.getD_eq_getElem?_getD]
/-- the first j are new -/
def LL.mix {α : Type} (f : Nat → α) (xs : List α) (d : α) (j i : Nat) : α := if i < j then f i else xs.getD i d
theorem LL.mix_zero {α : Type} (f : Nat → α) (xs : List α) (d : α) : LL.tab xs.length (LL.mix f xs d 0) = xs := by
  rw [← LL.tab_self xs d]; simp only [LL.tab_len]; exact LL.tab_congr fun i hi => by simp [LL.mix, LL.tab, List.getD_eq_getElem?_getD, hi]
theorem LL.mix_all {α : Type} (f : Nat → α) (xs : List α) (d : α) : LL.tab xs.length (LL.mix f xs d xs.length) = LL.tab xs.length f := LL.tab_congr fun i hi => if_pos hi
theorem LL.mix_set {α : Type} (f : Nat → α) (xs : List α) (d : α) (j : Nat) (h : j < xs.length) (x : α) (hx : x = f j) : (LL.tab xs.length (LL.mix f xs d j)).set j x = LL.tab xs.length (LL.mix f xs d (j + 1)) := LL.tab_set h (by rw [hx]; exact if_pos (Nat.lt_succ_self j)) fun i hi _ => by
  unfold LL.mix
  by_cases h1 : i < j
  · rw [if_pos h1, if_pos (by omega)]
  · rw [if_neg h1, if_neg (by omega)]
/-- a call has marked a row -/
def MkM {α : Type} (enc : α → List Value) (sz bytes e : Nat) (w : World) (v : Value) (r : Int) (ys : List α) (en : Ending) (w' : World) : Prop := en = .returned (.int .i64 r) ∧ Own enc sz bytes e w' v ys ∧ w.grownBy w' v.ownBlock
theorem Own.setAll {α : Type} {enc : α → List Value} {sz bytes e : Nat} {w : World} {g n c : Nat} {xs : List α} (h : Own enc sz bytes e w (.slice (some ⟨g, 0, none⟩) n c) xs) (E : EncOk enc sz) (hn : xs.length = n) (k : Nat) (hk : k < n) (d x' : α) : Own enc sz bytes e (w.setCells g (k * sz) (enc x')) (.slice (some ⟨g, 0, none⟩) n c) (xs.set k x') ∧ w.grownBy (w.setCells g (k * sz) (enc x')) (some g) := by
  subst hn
  obtain ⟨hrow, hg⟩ := ownsRow_setCells (enc x') (k * sz + 0) h.row
  rw [flat_setMany E xs k 0 d x' (enc x') hk (by rw [E.len]; omega) (by rw [List.take_zero, List.nil_append, List.drop_eq_nil_of_le (by rw [E.len, E.len]; omega), List.append_nil])] at hrow
  exact ⟨⟨by rw [List.length_set]; exact hrow, by rw [List.length_set]; exact h.room⟩, hg⟩
theorem Own.someA {α : Type} {enc : α → List Value} {sz bytes e : Nat} {w : World} {A : Option Addr} {n c : Nat} {xs : List α} (h : Own enc sz bytes e w (.slice A n c) xs) (hn : 0 < xs.length) : ∃ g, A = some ⟨g, 0, none⟩ := by
  obtain ⟨g, cap, e1, _⟩ := h.form hn
  injection e1 with e1
  exact ⟨g, e1⟩
theorem Own.unfrozen {α : Type} {enc : α → List Value} {sz bytes e : Nat} {w : World} {g n c : Nat} {xs : List α} (h : Own enc sz bytes e w (.slice (some ⟨g, 0, none⟩) n c) xs) (hn : 0 < xs.length) : (∀ i, w.frozen? ⟨g, i, none⟩ = false) ∧ g < w.heap.size := by
  obtain ⟨g', cap, e1, _, e3, e2⟩ := h.form hn
  injection e1 with e1
  injection e1 with e1
  injection e1 with e1
  subst e1
  exact ⟨e2, e3⟩
end Go.Proofs.Ytbpkaoagpndnpaa
