/- Tubes: FlySmaller, of the program and of the reference. -/
import Derived.Test.YtkpnjnkfbhomgaaX1
set_option linter.unusedVariables false
set_option linter.unusedSimpArgs false
namespace Go.Proofs.Ytkpnjnkfbhomgaa
open Go.RowKit
attribute [local go_sem] w_lt_add w_le_of w_le_add max2_i min2_i
namespace LL
/-- a holds no moment or no height -/
def Void (a : Box) : Prop := a.hi < a.lo ∨ a.o < a.i
/-- b covers a -/
def Cover (b a : Box) : Prop := a.x = b.x ∧ a.y = b.y ∧ b.lo ≤ a.lo ∧ a.hi ≤ b.hi ∧ b.i ≤ a.i ∧ a.o ≤ b.o
instance (a : Box) : Decidable (Void a) := inferInstanceAs (Decidable (_ ∨ _))
instance (b a : Box) : Decidable (Cover b a) := inferInstanceAs (Decidable (_ ∧ _))
def Some_ (P : Box → Prop) (l : List Box) (k : Nat) : Prop := ∃ j, j < k ∧ P (nthB l j)
def All_ (P : Box → Prop) (l : List Box) (k : Nat) : Prop := ∀ j, j < k → P (nthB l j)
theorem Some_.zero (P : Box → Prop) (l : List Box) : ¬ Some_ P l 0 := fun ⟨_, h, _⟩ => absurd h (Nat.not_lt_zero _)
theorem Some_.succ (P : Box → Prop) (l : List Box) (k : Nat) : Some_ P l (k + 1) ↔ Some_ P l k ∨ P (nthB l k) := by
  constructor
  · rintro ⟨j, hj, hP⟩
    rcases Nat.lt_succ_iff_lt_or_eq.1 hj with h1 | rfl
    · exact .inl ⟨j, h1, hP⟩
    · exact .inr hP
  · rintro (⟨j, hj, hP⟩ | hP)
    · exact ⟨j, by omega, hP⟩
    · exact ⟨k, by omega, hP⟩
theorem Some_.all (P : Box → Prop) (l : List Box) : Some_ P l l.length ↔ ∃ b ∈ l, P b := by
  constructor
  · rintro ⟨j, hj, hP⟩; exact ⟨_, nthB_mem hj, hP⟩
  · rintro ⟨b, hb, hP⟩
    obtain ⟨i, hi, e⟩ := List.getElem_of_mem hb
    refine ⟨i, hi, ?_⟩
    unfold nthB; rw [List.getD_eq_getElem?_getD, List.getElem?_eq_getElem hi, e]; exact hP
theorem All_.zero (P : Box → Prop) (l : List Box) : All_ P l 0 := fun _ h => absurd h (Nat.not_lt_zero _)
theorem All_.succ {P : Box → Prop} {l : List Box} {k : Nat} (h : All_ P l k) (hk : P (nthB l k)) : All_ P l (k + 1) := fun j hj => by
  rcases Nat.lt_succ_iff_lt_or_eq.1 hj with h1 | rfl
  · exact h j h1
  · exact hk
theorem All_.all {P : Box → Prop} {l : List Box} (h : All_ P l l.length) : ∀ b ∈ l, P b := fun b hb => by
  obtain ⟨i, hi, e⟩ := List.getElem_of_mem hb
  have := h i hi
  unfold nthB at this; rw [List.getD_eq_getElem?_getD, List.getElem?_eq_getElem hi, e] at this; exact this
/-- void, or one of them covers it -/
def Held (a : Box) (B : List Box) : Prop := Void a ∨ ∃ b ∈ B, Cover b a
instance (a : Box) (B : List Box) : Decidable (Held a B) := inferInstanceAs (Decidable (_ ∨ _))
def Small (A B : List Box) : Prop := ∀ a ∈ A, Held a B
instance (A B : List Box) : Decidable (Small A B) := inferInstanceAs (Decidable (∀ a ∈ A, _))
theorem not_small {A B : List Box} {k : Nat} (h : k < A.length) (hP : ¬ Held (nthB A k) B) : ¬ Small A B := fun h2 => hP (h2 _ (nthB_mem h))
/-- what the inner loop has found -/
def Found (V : Prop) (a : Box) (B : List Box) (m : Nat) (fd : Bool) : Prop := fd = true ↔ V ∨ Some_ (fun b => Cover b a) B m
theorem Found.zero {V : Prop} [Decidable V] (a : Box) (B : List Box) : Found V a B 0 (decide V) := by simp [Found, Some_.zero]
theorem Found.succ {V : Prop} {a : Box} {B : List Box} {m : Nat} {fd f2 : Bool} (h : Found V a B m fd) (h2 : f2 = true ↔ fd = true ∨ Cover (nthB B m) a) : Found V a B (m + 1) f2 := by
  unfold Found at *; rw [h2, h, Some_.succ, or_assoc]
theorem Found.held {a : Box} {B : List Box} {fd : Bool} (h : Found (Void a) a B B.length fd) : fd = true ↔ Held a B := by unfold Found at h; rw [h, Some_.all]; rfl
theorem Found.held' {a : Box} {B : List Box} {fd : Bool} (hv : ¬ Void a) (h : Found False a B B.length fd) : fd = true ↔ Held a B := by unfold Found at h; rw [h, Some_.all]; simp [Held, hv]
end LL
end Go.Proofs.Ytkpnjnkfbhomgaa
