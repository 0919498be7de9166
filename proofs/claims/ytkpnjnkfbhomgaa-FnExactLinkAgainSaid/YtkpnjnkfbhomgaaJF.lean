/- Models: an aircraft that hears a word. -/
import Derived.Test.YtkpnjnkfbhomgaaJA
import Derived.Test.YtkpnjnkfbhomgaaX6
import Derived.Test.YtkpnjnkfbhomgaaJC
import Derived.BigRegion

set_option linter.unusedVariables false
namespace Go.Proofs.Ytkpnjnkfbhomgaa
namespace LL
def w0 : Word := ⟨0, ⟨#[]⟩, 0, ⟨0, 0, [], 0, 0⟩⟩
def CanTake (c : Craft) (w : Word) (t : Int) : Prop := CraftOk c t ∧ WordOk w ∧ w.kind = 2 ∧ w.name = c.name ∧ c.number ≤ w.number
instance (c : Craft) (w : Word) (t : Int) : Decidable (CanTake c w t) := inferInstanceAs (Decidable (_ ∧ _))
/-- it can go on along another path -/
def Along (c : Craft) (p : Path) (t : Int) : Prop := Stays p c.flown t ∧ (0 < c.flown.length → c.flown.length ≤ shared c.path p)
instance (c : Craft) (p : Path) (t : Int) : Decidable (Along c p t) := inferInstanceAs (Decidable (_ ∧ _))
def Yields (c : Craft) (w : Word) (t : Int) : Prop := c.no < w.number ∧ Along c w.path t
instance (c : Craft) (w : Word) (t : Int) : Decidable (Yields c w t) := inferInstanceAs (Decidable (_ ∧ _))
def takeC (c : Craft) (w : Word) (t : Int) : Craft := if CanTake c w t ∧ w.number ≠ c.number then (if Yields c w t then ⟨c.name, w.number, c.no, w.path, c.flown⟩ else ⟨c.name, c.number, max c.no w.number, c.path, c.flown⟩) else c
def takeW (c : Craft) (w : Word) (t : Int) : Word := if CanTake c w t then ⟨if w.number = c.number ∨ Yields c w t then 3 else 4, c.name, w.number, ⟨0, 0, [], 0, 0⟩⟩ else w0
section
variable {c : Craft} {w : Word} {t : Int}
theorem takeC_no (h : ¬ CanTake c w t) : takeC c w t = c := if_neg (fun h9 => h h9.1)
theorem takeW_no (h : ¬ CanTake c w t) : takeW c w t = w0 := if_neg h
theorem takeC_same (h : w.number = c.number) : takeC c w t = c := if_neg (fun h9 => h9.2 h)
theorem takeW_same (h : CanTake c w t) (h1 : w.number = c.number) : takeW c w t = ⟨3, c.name, w.number, ⟨0, 0, [], 0, 0⟩⟩ := by unfold takeW; rw [if_pos h, if_pos (.inl h1)]
theorem takeC_yes (h : CanTake c w t) (h1 : w.number ≠ c.number) (h2 : Yields c w t) : takeC c w t = ⟨c.name, w.number, c.no, w.path, c.flown⟩ := by unfold takeC; rw [if_pos ⟨h, h1⟩, if_pos h2]
theorem takeW_yes (h : CanTake c w t) (h2 : Yields c w t) : takeW c w t = ⟨3, c.name, w.number, ⟨0, 0, [], 0, 0⟩⟩ := by unfold takeW; rw [if_pos h, if_pos (.inr h2)]
theorem takeC_off (h : CanTake c w t) (h1 : w.number ≠ c.number) (h2 : ¬ Yields c w t) : takeC c w t = ⟨c.name, c.number, max c.no w.number, c.path, c.flown⟩ := by unfold takeC; rw [if_pos ⟨h, h1⟩, if_neg h2]
theorem takeW_off (h : CanTake c w t) (h1 : w.number ≠ c.number) (h2 : ¬ Yields c w t) : takeW c w t = ⟨4, c.name, w.number, ⟨0, 0, [], 0, 0⟩⟩ := by unfold takeW; rw [if_pos h, if_neg (fun h9 => h9.elim h1 h2)]
end
end LL
end Go.Proofs.Ytkpnjnkfbhomgaa

/- An aircraft that hears a word: LinkTake of the program and of the reference. -/
set_option linter.unusedVariables false
set_option linter.unusedSimpArgs false
namespace Go.Proofs.Ytkpnjnkfbhomgaa
open Go.RowKit
theorem mx_max (a b : Int) : mx a b = max a b := by unfold mx; split <;> omega
attribute [local go_sem] w_lt_add w_le_of w_le_add max2_i min2_i mx_max
/-- a call has made an aircraft, a word and a truth -/
def MkCrW (w : World) (x : LL.Craft) (y : LL.Word) (b : Bool) (en : Ending) (w' : World) : Prop := ∃ A c F m B d, en = .returned (.tuple #[.agg #[.string x.name, .int .i64 x.number, .int .i64 x.no, .int .i64 x.path.q, .int .i64 x.path.s, .slice A x.path.steps.length c, .int .i64 x.path.fr, .int .i64 x.path.by_, .slice F x.flown.length m], .agg #[.int .i64 y.kind, .string y.name, .int .i64 y.number, .int .i64 y.path.q, .int .i64 y.path.s, .slice B y.path.steps.length d, .int .i64 y.path.fr, .int .i64 y.path.by_], .bool b]) ∧ OwnCr w' x A c F m ∧ OwnP w' B d y.path ∧ (∀ k, FpC x A c F m k → w.heap.size ≤ k) ∧ (∀ k, Value.ownBlock (.slice B y.path.steps.length d) = some k → w.heap.size ≤ k) ∧ (∀ k, FpC x A c F m k → ¬ Value.ownBlock (.slice B y.path.steps.length d) = some k) ∧ Below w.heap.size w w'
theorem OwnP.none (w : World) (q s fr by_ : Int) : OwnP w none 0 ⟨q, s, [], fr, by_⟩ := ⟨⟨by simp, .inl ⟨by simp, by simp⟩⟩, by simp⟩
theorem baEq {a b : ByteArray} (h : a.toList = b.toList) : a = b := by
  rw [ByteArray.toList_eq, ByteArray.toList_eq] at h
  cases a; cases b; simp only at h; congr 1; exact Array.toList_inj.1 h
theorem own_nil {n c k : Nat} : ¬ Value.ownBlock (.slice none n c) = some k := by simp [Value.ownBlock]
end Go.Proofs.Ytkpnjnkfbhomgaa

/- Stores into one's own boxes, what they leave as it is; blocks of different kinds are different blocks. -/
set_option linter.unusedVariables false
set_option linter.unusedSimpArgs false
namespace Go.Proofs.Ytkpnjnkfbhomgaa
open Go.RowKit
section
variable {α : Type} {enc : α → List Value} {sz bytes e : Nat} {w W : World} {v : Value} {xs : List α} {g g' : Nat} {cs cs' : Array Value} {t t' : TypeId} {S : Nat → Prop}
theorem Blk.neT (h : Blk w g cs t) (h' : Blk w g' cs' t') (hne : t ≠ t') : g ≠ g' := by
  intro e; subst e
  have := h.at_.symm.trans h'.at_
  simp at this
  exact hne this.2
theorem Own.neB (h : Own enc sz bytes e w v xs) (hB : Blk w g cs t) (hne : e ≠ t) : ∀ k, v.ownBlock = some k → k ≠ g := by
  intro k hk e2
  subst e2
  rcases h.row.2 with ⟨rfl, h0⟩ | ⟨g', cap, cur, rfl, _, hh, hn, _, _, _⟩
  · simp [Value.ownBlock] at hk
  · simp [Value.ownBlock] at hk
    subst hk
    have := hh.symm.trans hB.at_
    simp at this
    exact hne this.2
theorem gS_set {p : Addr} (h : GrownS w W S) (hp : S p.block) (u : Value) : GrownS w (W.setCell p u) S :=
  ⟨h.os, h.tape, h.output, by simp only [World.size_setCell]; exact h.size, fun k hk hn => (Below.heap_setCell W p u k (fun e => hn (e ▸ hp))).trans (h.block k hk hn)⟩
theorem gS_drew (h : GrownS w W S) : GrownS w W.drew S := ⟨h.os, h.tape, h.output, h.size, h.block⟩
theorem gS_alloc (h : GrownS w W S) (o : Obj) : GrownS w (W.alloc o) S := h.trans (GrownS.below (b_alloc (Below.refl _ _) o))
theorem OwnCr.neB {x : LL.Craft} {A F : Option Addr} {c m : Nat} (h : OwnCr w x A c F m) (hB : Blk w g cs t) (h1 : 146 ≠ t) (h2 : 3 ≠ t) : ∀ k, FpC x A c F m k → k ≠ g := fun k hk => hk.elim (h.p.neB hB h1 k) (h.f.neB hB h2 k)
end
theorem LL.takeC_len (x : LL.Craft) (y : LL.Word) (t : Int) : (LL.takeC x y t).path.steps.length ≤ x.path.steps.length + y.path.steps.length := by
  unfold LL.takeC; split
  · split <;> simp only <;> omega
  · omega
theorem LL.takeC_fl (x : LL.Craft) (y : LL.Word) (t : Int) : (LL.takeC x y t).flown.length ≤ x.flown.length := by
  unfold LL.takeC; split
  · split <;> exact Nat.le_refl _
  · exact Nat.le_refl _
theorem LL.takeW_len (x : LL.Craft) (y : LL.Word) (t : Int) : (LL.takeW x y t).path.steps.length ≤ 1 := by
  unfold LL.takeW; split <;> exact Nat.zero_le _
theorem LL.szC_le {left : Int} (h : 0 ≤ left) (s n m : Nat) : LL.szC left s n m ≤ left := by
  unfold LL.szC LL.szT LL.sz
  split
  · omega
  · split
    · omega
    · split <;> omega
end Go.Proofs.Ytkpnjnkfbhomgaa
