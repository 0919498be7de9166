/- Tubes: FlySmaller, of the program and of the reference. -/
import Derived.Test.YtbpkaoagpndnpaaX1
set_option linter.unusedVariables false
set_option linter.unusedSimpArgs false
namespace Go.Proofs.Ytbpkaoagpndnpaa
open Go.RowKit
attribute [local go_sem] w_lt_add w_le_of w_le_add max2_i min2_i
namespace LL
/-- a holds no moment or no height -/
def Void (a : Box) : Prop := a.hi < a.lo ∨ a.o < a.i
/-- b covers a -/
def Cover (b a : Box) : Prop := a.x = b.x ∧ a.y = b.y ∧ b.lo ≤ a.lo ∧ a.hi ≤ b.hi ∧ b.i ≤ a.i ∧ a.o ≤ b.o
instance (a : Box) : Decidable (Void a) := inferInstanceAs (Decidable (_ ∨ _))
instance (b a : Box) : Decidable (Cover b a) := inferInstanceAs (Decidable (_ ∧ _))
def Some_ (P : Box → Prop) (l : List Box) (k : Nat) : Prop := ∃ j, j < k ∧ P (nthB l j)
def All_ (P : Box → Prop) (l : List Box) (k : Nat) : Prop := ∀ j, j < k → P (nthB l j)
theorem Some_.zero (P : Box → Prop) (l : List Box) : ¬ Some_ P l 0 := fun ⟨_, h, _⟩ => absurd h (Nat.not_lt_zero _)
theorem Some_.succ (P : Box → Prop) (l : List Box) (k : Nat) : Some_ P l (k + 1) ↔ Some_ P l k ∨ P (nthB l k) := by
  constructor
  · rintro ⟨j, hj, hP⟩
    rcases Nat.lt_succ_iff_lt_or_eq.1 hj with h1 | rfl
    · exact .inl ⟨j, h1, hP⟩
    · exact .inr hP
  · rintro (⟨j, hj, hP⟩ | hP)
    · exact ⟨j, by omega, hP⟩
    · exact ⟨k, by omega, hP⟩
theorem Some_.all (P : Box → Prop) (l : List Box) : Some_ P l l.length ↔ ∃ b ∈ l, P b := by
  constructor
  · rintro ⟨j, hj, hP⟩; exact ⟨_, nthB_mem hj, hP⟩
  · rintro ⟨b, hb, hP⟩
    obtain ⟨i, hi, e⟩ := List.getElem_of_mem hb
    refine ⟨i, hi, ?_⟩
    unfold nthB; rw [List.getD_eq_getElem?_getD, List.getElem?_eq_getElem hi, e]; exact hP
theorem All_.zero (P : Box → Prop) (l : List Box) : All_ P l 0 := fun _ h => absurd h (Nat.not_lt_zero _)
theorem All_.succ {P : Box → Prop} {l : List Box} {k : Nat} (h : All_ P l k) (hk : P (nthB l k)) : All_ P l (k + 1) := fun j hj => by
  rcases Nat.lt_succ_iff_lt_or_eq.1 hj with h1 | rfl
  · exact h j h1
  · exact hk
theorem All_.all {P : Box → Prop} {l : List Box} (h : All_ P l l.length) : ∀ b ∈ l, P b := fun b hb => by
  obtain ⟨i, hi, e⟩ := List.getElem_of_mem hb
  have := h i hi
  unfold nthB at this; rw [List.getD_eq_getElem?_getD, List.getElem?_eq_getElem hi, e] at this; exact this
/-- void, or one of them covers it -/
def Held (a : Box) (B : List Box) : Prop := Void a ∨ ∃ b ∈ B, Cover b a
instance (a : Box) (B : List Box) : Decidable (Held a B) := inferInstanceAs (Decidable (_ ∨ _))
def Small (A B : List Box) : Prop := ∀ a ∈ A, Held a B
instance (A B : List Box) : Decidable (Small A B) := inferInstanceAs (Decidable (∀ a ∈ A, _))
theorem not_small {A B : List Box} {k : Nat} (h : k < A.length) (hP : ¬ Held (nthB A k) B) : ¬ Small A B := fun h2 => hP (h2 _ (nthB_mem h))
/-- what the inner loop has found -/
def Found (V : Prop) (a : Box) (B : List Box) (m : Nat) (fd : Bool) : Prop := fd = true ↔ V ∨ Some_ (fun b => Cover b a) B m
theorem Found.zero {V : Prop} [Decidable V] (a : Box) (B : List Box) : Found V a B 0 (decide V) := by simp [Found, Some_.zero]
theorem Found.succ {V : Prop} {a : Box} {B : List Box} {m : Nat} {fd f2 : Bool} (h : Found V a B m fd) (h2 : f2 = true ↔ fd = true ∨ Cover (nthB B m) a) : Found V a B (m + 1) f2 := by
  unfold Found at *; rw [h2, h, Some_.succ, or_assoc]
theorem Found.held {a : Box} {B : List Box} {fd : Bool} (h : Found (Void a) a B B.length fd) : fd = true ↔ Held a B := by unfold Found at h; rw [h, Some_.all]; rfl
theorem Found.held' {a : Box} {B : List Box} {fd : Bool} (hv : ¬ Void a) (h : Found False a B B.length fd) : fd = true ↔ Held a B := by unfold Found at h; rw [h, Some_.all]; simp [Held, hv]
end LL
theorem spec_l5None_c (s : LL.Box) (w : World) : Calls Try.prog 60 #[.agg #[.int .i64 s.x, .int .i64 s.y, .int .i64 s.lo, .int .i64 s.hi, .int .i64 s.i, .int .i64 s.o]] w fun e w' => e = .returned (.bool (decide (LL.Void s))) ∧ Below w.heap.size w w' := by
  go_enter Try.func60, Try.ntmps60
  go_wp2
  all_goals go_ret
  all_goals exact ⟨rd_ (by simp [LL.Void] at * <;> omega), (by repeat' (first | with_reducible exact Below.refl _ _ | with_reducible assumption | with_reducible refine b_alloc ?_ _ | with_reducible refine b_drewN ?_ _ | with_reducible refine b_drew ?_ | with_reducible refine b_set ?_ (by first | (simp only [World.size_setCell, World.size_alloc, World.size_drew]; omega) | (simp; done) | (simp; omega)) _ | with_reducible refine b_step ?_ (by with_reducible assumption)))⟩
theorem spec_l5Cover_c (b s : LL.Box) (w : World) : Calls Try.prog 61 #[.agg #[.int .i64 b.x, .int .i64 b.y, .int .i64 b.lo, .int .i64 b.hi, .int .i64 b.i, .int .i64 b.o], .agg #[.int .i64 s.x, .int .i64 s.y, .int .i64 s.lo, .int .i64 s.hi, .int .i64 s.i, .int .i64 s.o]] w fun e w' => e = .returned (.bool (decide (LL.Cover b s))) ∧ Below w.heap.size w w' := by
  go_enter Try.func61, Try.ntmps61
  go_wp2
  all_goals go_ret
  all_goals exact ⟨rd_ (by simp [LL.Cover] at * <;> omega), (by repeat' (first | with_reducible exact Below.refl _ _ | with_reducible assumption | with_reducible refine b_alloc ?_ _ | with_reducible refine b_drewN ?_ _ | with_reducible refine b_drew ?_ | with_reducible refine b_set ?_ (by first | (simp only [World.size_setCell, World.size_alloc, World.size_drew]; omega) | (simp; done) | (simp; omega)) _ | with_reducible refine b_step ?_ (by with_reducible assumption)))⟩
set_option maxHeartbeats 2000000 in
theorem spec_FlySmaller_c (xs ys : List LL.Box) (A B : Option Addr) (c d : Nat) (w : World) (h : RdB w A xs.length c xs) (h' : RdB w B ys.length d ys) : Calls Try.prog 32 #[.slice A xs.length c, .slice B ys.length d] w fun e w' => e = .returned (.bool (decide (LL.Small xs ys))) ∧ Below w.heap.size w w' := by
  have hroom := h.room
  have hroom' := h'.room
  go_enter Try.func32, Try.ntmps32
  go_wp2
  go_loopw [5] (fun i wr => ∃ k : Nat, k ≤ xs.length ∧ i = .int .i64 k ∧ LL.All_ (fun a => LL.Held a ys) xs k ∧ Below w.heap.size w wr) (fun i _ => xs.length - (intOf i).toNat)
  case atStart => exact ⟨0, Nat.zero_le _, rfl, LL.All_.zero _ _, Below.refl _ _⟩
  case round =>
    obtain ⟨k, hk, rfl, hn, hb⟩ := hrel
    obtain ⟨hc, hf, hl⟩ := bcell hb
    by_cases hlt : k < xs.length
    · obtain ⟨b, off, rfl, hbw⟩ := h.addr (by omega)
      obtain ⟨c0, c1, c2, c3, c4, c5⟩ := h.S6 k hlt
      go_wp2_with (go_at_call 60; go_loud (refine (spec_l5None_c _ _).mono ?_); rintro e w2 ⟨rfl, hb⟩; (repeat (with_reducible first | replace hb := b_un hb | replace hb := b_unN hb)); obtain ⟨hc, hf, hl⟩ := bcell hb; obtain ⟨gc, gf, gl⟩ := bcell (b_step (w := w) (by repeat' (first | with_reducible exact Below.refl _ _ | with_reducible assumption | with_reducible refine b_alloc ?_ _ | with_reducible refine b_drewN ?_ _ | with_reducible refine b_drew ?_ | with_reducible refine b_set ?_ (by first | (simp only [World.size_setCell, World.size_alloc, World.size_drew]; omega) | (simp; done) | (simp; omega)) _ | with_reducible refine b_step ?_ (by with_reducible assumption))) hb); have hz := hb.size; (try simp at hz); skip)
      obtain ⟨wo, rfl⟩ : ∃ wo : World, wo = wr := ⟨_, rfl⟩
      go_loopw [6, 7] (fun f i w3 => ∃ (m : Nat) (fd : Bool), m ≤ ys.length ∧ i = .int .i64 m ∧ f = .bool fd ∧ LL.Found (LL.Void (LL.nthB xs k)) (LL.nthB xs k) ys m fd ∧ Below w.heap.size w w3) (fun _ i _ => ys.length - (intOf i).toNat)
      case atStart => exact ⟨0, _, Nat.zero_le _, rfl, rfl, LL.Found.zero _ _, (by repeat' (first | with_reducible exact Below.refl _ _ | with_reducible assumption | with_reducible refine b_alloc ?_ _ | with_reducible refine b_drewN ?_ _ | with_reducible refine b_drew ?_ | with_reducible refine b_set ?_ (by first | (simp only [World.size_setCell, World.size_alloc, World.size_drew]; omega) | (simp; done) | (simp; omega)) _ | with_reducible refine b_step ?_ (by with_reducible assumption)))⟩
      case round =>
        clear hb hc hf hl gc gf gl hz
        obtain ⟨m, fd, hm, rfl, rfl, hF, hb⟩ := hrel
        obtain ⟨hc, hf, hl⟩ := bcell hb
        by_cases hlm : m < ys.length
        · obtain ⟨b', off', rfl, hbw'⟩ := h'.addr (by omega)
          obtain ⟨d0, d1, d2, d3, d4, d5⟩ := h'.S6 m hlm
          cases fd
          · go_wp2
            go_region_with (go_at_call 61; go_loud (refine (spec_l5Cover_c _ _ _).mono ?_); rintro e w2 ⟨rfl, hb⟩; (repeat (with_reducible first | replace hb := b_un hb | replace hb := b_unN hb)); obtain ⟨hc, hf, hl⟩ := bcell hb; obtain ⟨gc, gf, gl⟩ := bcell (b_step (w := w) (by repeat' (first | with_reducible exact Below.refl _ _ | with_reducible assumption | with_reducible refine b_alloc ?_ _ | with_reducible refine b_drewN ?_ _ | with_reducible refine b_drew ?_ | with_reducible refine b_set ?_ (by first | (simp only [World.size_setCell, World.size_alloc, World.size_drew]; omega) | (simp; done) | (simp; omega)) _ | with_reducible refine b_step ?_ (by with_reducible assumption))) hb); have hz := hb.size; (try simp at hz); skip)
            all_goals (try simp only [List.getElem_toArray, List.getElem_cons_succ, List.getElem_cons_zero, Act.put, List.setIfInBounds_toArray, List.set_cons_zero, List.set_cons_succ])
            all_goals go_wp2
            all_goals go_roundw
            all_goals (try case rel => exact ⟨m + 1, _, by omega, by go_num, rfl, hF.succ (by simp), (by repeat' (first | with_reducible exact Below.refl _ _ | with_reducible assumption | with_reducible refine b_alloc ?_ _ | with_reducible refine b_drewN ?_ _ | with_reducible refine b_drew ?_ | with_reducible refine b_set ?_ (by first | (simp only [World.size_setCell, World.size_alloc, World.size_drew]; omega) | (simp; done) | (simp; omega)) _ | with_reducible refine b_step ?_ (by with_reducible assumption)))⟩)
            all_goals (simp [intOf]; omega)
          · go_wp2
            go_quiet (fail)
            all_goals (try simp only [List.getElem_toArray, List.getElem_cons_succ, List.getElem_cons_zero, Act.put, List.setIfInBounds_toArray, List.set_cons_zero, List.set_cons_succ])
            all_goals go_wp2
            all_goals go_roundw
            all_goals (try case rel => exact ⟨m + 1, _, by omega, by go_num, rfl, hF.succ (by simp), (by repeat' (first | with_reducible exact Below.refl _ _ | with_reducible assumption | with_reducible refine b_alloc ?_ _ | with_reducible refine b_drewN ?_ _ | with_reducible refine b_drew ?_ | with_reducible refine b_set ?_ (by first | (simp only [World.size_setCell, World.size_alloc, World.size_drew]; omega) | (simp; done) | (simp; omega)) _ | with_reducible refine b_step ?_ (by with_reducible assumption)))⟩)
            all_goals (simp [intOf]; omega)
        · obtain rfl : m = ys.length := by omega
          cases fd
          · go_wp2
            go_ret
            exact ⟨rd_ (iff_of_false (LL.not_small hlt (fun h => absurd (hF.held.2 h) (by simp))) (by simp)), hb⟩
          · go_wp2
            go_roundw
            case rel => exact ⟨k + 1, by omega, by go_num, hn.succ (hF.held.1 rfl), (by repeat' (first | with_reducible exact Below.refl _ _ | with_reducible assumption | with_reducible refine b_alloc ?_ _ | with_reducible refine b_drewN ?_ _ | with_reducible refine b_drew ?_ | with_reducible refine b_set ?_ (by first | (simp only [World.size_setCell, World.size_alloc, World.size_drew]; omega) | (simp; done) | (simp; omega)) _ | with_reducible refine b_step ?_ (by with_reducible assumption)))⟩
            case measure => simp [intOf]; omega
    · obtain rfl : k = xs.length := by omega
      go_wp2
      go_ret
      exact ⟨rd_ (iff_of_true hn.all rfl), hb⟩
end Go.Proofs.Ytbpkaoagpndnpaa
