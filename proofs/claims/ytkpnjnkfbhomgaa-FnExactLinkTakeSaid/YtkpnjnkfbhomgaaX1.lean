/- Tubes: FlyWithin, of the program and of the reference. -/
import Derived.Test.YtkpnjnkfbhomgaaT1
set_option linter.unusedVariables false
set_option linter.unusedSimpArgs false
namespace Go.Proofs.Ytkpnjnkfbhomgaa
open Go.RowKit
attribute [local go_sem] w_lt_add w_le_of w_le_add max2_i min2_i
namespace LL
def Has (b : Box) (x y l t : Int) : Prop := b.x = x ∧ b.y = y ∧ In l b.lo b.hi ∧ In t b.i b.o
instance (b : Box) (x y l t : Int) : Decidable (Has b x y l t) := inferInstanceAs (Decidable (_ ∧ _))
/-- of the first k boxes none is such -/
def None_ (P : Box → Prop) (l : List Box) (k : Nat) : Prop := ∀ j, j < k → ¬ P (nthB l j)
theorem None_.zero (P : Box → Prop) (l : List Box) : None_ P l 0 := fun _ h => absurd h (Nat.not_lt_zero _)
theorem None_.succ {P : Box → Prop} {l : List Box} {k : Nat} (h : None_ P l k) (hk : ¬ P (nthB l k)) : None_ P l (k + 1) := fun j hj => by
  rcases Nat.lt_succ_iff_lt_or_eq.1 hj with h1 | rfl
  · exact h j h1
  · exact hk
theorem nthB_mem {l : List Box} {k : Nat} (h : k < l.length) : nthB l k ∈ l := by
  unfold nthB; rw [List.getD_eq_getElem?_getD, List.getElem?_eq_getElem h]; exact List.getElem_mem h
theorem None_.all {P : Box → Prop} {l : List Box} (h : None_ P l l.length) : ¬ ∃ b ∈ l, P b := fun ⟨b, hb, hP⟩ => by
  obtain ⟨i, hi, e⟩ := List.getElem_of_mem hb
  refine h i hi ?_
  unfold nthB; rw [List.getD_eq_getElem?_getD, List.getElem?_eq_getElem hi, e]; exact hP
theorem some_at {P : Box → Prop} {l : List Box} {k : Nat} (h : k < l.length) (hP : P (nthB l k)) : ∃ b ∈ l, P b := ⟨_, nthB_mem h, hP⟩
def Within (l : List Box) (x y v t : Int) : Prop := ∃ b ∈ l, Has b x y v t
instance (l : List Box) (x y v t : Int) : Decidable (Within l x y v t) := inferInstanceAs (Decidable (∃ b ∈ l, _))
end LL
end Go.Proofs.Ytkpnjnkfbhomgaa
