/- Models: an aircraft that hears a word. -/
import Derived.Test.YtkpnjnkfbhomgaaN2
import Derived.Test.YtkpnjnkfbhomgaaX6
set_option linter.unusedVariables false
namespace Go.Proofs.Ytkpnjnkfbhomgaa
namespace LL
def w0 : Word := ⟨0, ⟨#[]⟩, 0, ⟨0, 0, [], 0, 0⟩⟩
def CanTake (c : Craft) (w : Word) (t : Int) : Prop := CraftOk c t ∧ WordOk w ∧ w.kind = 2 ∧ w.name = c.name ∧ c.number ≤ w.number
instance (c : Craft) (w : Word) (t : Int) : Decidable (CanTake c w t) := inferInstanceAs (Decidable (_ ∧ _))
/-- it can go on along another path -/
def Along (c : Craft) (p : Path) (t : Int) : Prop := Stays p c.flown t ∧ (0 < c.flown.length → c.flown.length ≤ shared c.path p)
instance (c : Craft) (p : Path) (t : Int) : Decidable (Along c p t) := inferInstanceAs (Decidable (_ ∧ _))
def Yields (c : Craft) (w : Word) (t : Int) : Prop := c.no < w.number ∧ Along c w.path t
instance (c : Craft) (w : Word) (t : Int) : Decidable (Yields c w t) := inferInstanceAs (Decidable (_ ∧ _))
def takeC (c : Craft) (w : Word) (t : Int) : Craft := if CanTake c w t ∧ w.number ≠ c.number then (if Yields c w t then ⟨c.name, w.number, c.no, w.path, c.flown⟩ else ⟨c.name, c.number, max c.no w.number, c.path, c.flown⟩) else c
def takeW (c : Craft) (w : Word) (t : Int) : Word := if CanTake c w t then ⟨if w.number = c.number ∨ Yields c w t then 3 else 4, c.name, w.number, ⟨0, 0, [], 0, 0⟩⟩ else w0
section
variable {c : Craft} {w : Word} {t : Int}
theorem takeC_no (h : ¬ CanTake c w t) : takeC c w t = c := if_neg (fun h9 => h h9.1)
theorem takeW_no (h : ¬ CanTake c w t) : takeW c w t = w0 := if_neg h
theorem takeC_same (h : w.number = c.number) : takeC c w t = c := if_neg (fun h9 => h9.2 h)
theorem takeW_same (h : CanTake c w t) (h1 : w.number = c.number) : takeW c w t = ⟨3, c.name, w.number, ⟨0, 0, [], 0, 0⟩⟩ := by unfold takeW; rw [if_pos h, if_pos (.inl h1)]
theorem takeC_yes (h : CanTake c w t) (h1 : w.number ≠ c.number) (h2 : Yields c w t) : takeC c w t = ⟨c.name, w.number, c.no, w.path, c.flown⟩ := by unfold takeC; rw [if_pos ⟨h, h1⟩, if_pos h2]
theorem takeW_yes (h : CanTake c w t) (h2 : Yields c w t) : takeW c w t = ⟨3, c.name, w.number, ⟨0, 0, [], 0, 0⟩⟩ := by unfold takeW; rw [if_pos h, if_pos (.inr h2)]
theorem takeC_off (h : CanTake c w t) (h1 : w.number ≠ c.number) (h2 : ¬ Yields c w t) : takeC c w t = ⟨c.name, c.number, max c.no w.number, c.path, c.flown⟩ := by unfold takeC; rw [if_pos ⟨h, h1⟩, if_neg h2]
theorem takeW_off (h : CanTake c w t) (h1 : w.number ≠ c.number) (h2 : ¬ Yields c w t) : takeW c w t = ⟨4, c.name, w.number, ⟨0, 0, [], 0, 0⟩⟩ := by unfold takeW; rw [if_pos h, if_neg (fun h9 => h9.elim h1 h2)]
end
end LL
end Go.Proofs.Ytkpnjnkfbhomgaa
