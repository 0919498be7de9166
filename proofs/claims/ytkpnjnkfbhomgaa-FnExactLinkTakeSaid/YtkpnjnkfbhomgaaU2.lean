/- Stores into one's own boxes, what they leave as it is; blocks of different kinds are different blocks. -/
import Derived.Test.YtkpnjnkfbhomgaaK3
import Derived.Test.YtkpnjnkfbhomgaaN3
set_option linter.unusedVariables false
set_option linter.unusedSimpArgs false
namespace Go.Proofs.Ytkpnjnkfbhomgaa
open Go.RowKit
section
variable {α : Type} {enc : α → List Value} {sz bytes e : Nat} {w W : World} {v : Value} {xs : List α} {g g' : Nat} {cs cs' : Array Value} {t t' : TypeId} {S : Nat → Prop}
theorem Blk.neT (h : Blk w g cs t) (h' : Blk w g' cs' t') (hne : t ≠ t') : g ≠ g' := by
  intro e; subst e
  have := h.at_.symm.trans h'.at_
  simp at this
  exact hne this.2
theorem Own.neB (h : Own enc sz bytes e w v xs) (hB : Blk w g cs t) (hne : e ≠ t) : ∀ k, v.ownBlock = some k → k ≠ g := by
  intro k hk e2
  subst e2
  rcases h.row.2 with ⟨rfl, h0⟩ | ⟨g', cap, cur, rfl, _, hh, hn, _, _, _⟩
  · simp [Value.ownBlock] at hk
  · simp [Value.ownBlock] at hk
    subst hk
    have := hh.symm.trans hB.at_
    simp at this
    exact hne this.2
theorem gS_set {p : Addr} (h : GrownS w W S) (hp : S p.block) (u : Value) : GrownS w (W.setCell p u) S :=
  ⟨h.os, h.tape, h.output, by simp only [World.size_setCell]; exact h.size, fun k hk hn => (Below.heap_setCell W p u k (fun e => hn (e ▸ hp))).trans (h.block k hk hn)⟩
theorem gS_drew (h : GrownS w W S) : GrownS w W.drew S := ⟨h.os, h.tape, h.output, h.size, h.block⟩
theorem gS_alloc (h : GrownS w W S) (o : Obj) : GrownS w (W.alloc o) S := h.trans (GrownS.below (b_alloc (Below.refl _ _) o))
theorem OwnCr.neB {x : LL.Craft} {A F : Option Addr} {c m : Nat} (h : OwnCr w x A c F m) (hB : Blk w g cs t) (h1 : 146 ≠ t) (h2 : 3 ≠ t) : ∀ k, FpC x A c F m k → k ≠ g := fun k hk => hk.elim (h.p.neB hB h1 k) (h.f.neB hB h2 k)
end
theorem LL.takeC_len (x : LL.Craft) (y : LL.Word) (t : Int) : (LL.takeC x y t).path.steps.length ≤ x.path.steps.length + y.path.steps.length := by
  unfold LL.takeC; split
  · split <;> simp only <;> omega
  · omega
theorem LL.takeC_fl (x : LL.Craft) (y : LL.Word) (t : Int) : (LL.takeC x y t).flown.length ≤ x.flown.length := by
  unfold LL.takeC; split
  · split <;> exact Nat.le_refl _
  · exact Nat.le_refl _
theorem LL.takeW_len (x : LL.Craft) (y : LL.Word) (t : Int) : (LL.takeW x y t).path.steps.length ≤ 1 := by
  unfold LL.takeW; split <;> exact Nat.zero_le _
theorem LL.szC_le {left : Int} (h : 0 ≤ left) (s n m : Nat) : LL.szC left s n m ≤ left := by
  unfold LL.szC LL.szT LL.sz
  split
  · omega
  · split
    · omega
    · split <;> omega
end Go.Proofs.Ytkpnjnkfbhomgaa
