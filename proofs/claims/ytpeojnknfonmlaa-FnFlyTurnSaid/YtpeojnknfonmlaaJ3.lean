/- The laws' helpers for slices of plain structs. -/
import Derived.Test.YtpeojnknfonmlaaJ2
import Derived.Test.YtpeojnknfonmlaaJ1

set_option linter.unusedVariables false
set_option linter.unusedSimpArgs false
namespace Go.Proofs.Ytpeojnknfonmlaa
open Go.RowKit
attribute [local go_sem] w_lt_add w_le_of w_le_add max2_i min2_i
end Go.Proofs.Ytpeojnknfonmlaa

/- Rows of whole numbers: the laws' helpers; FlyWhere. -/
set_option linter.unusedVariables false
set_option linter.unusedSimpArgs false
namespace Go.Proofs.Ytpeojnknfonmlaa
open Go.RowKit
attribute [local go_sem] w_lt_add w_le_of w_le_add max2_i min2_i
namespace LL
/-- the same, out of the walk's sight -/
def Same {α : Type} (a b : α) : Prop := a = b
theorem Same.trans {α : Type} {a b c : α} (h : Same a b) (k : b = c) : Same a c := Eq.trans h k
theorem Same.out {α : Type} {a b : α} (h : Same a b) : a = b := h
def nthI (l : List Int) (i : Nat) : Int := l.getD i 0
/-- the first from k on that is such, of n -/
def seek (p : Nat → Bool) : Nat → Nat → Int × Bool
  | 0, _ => (0, false)
  | n + 1, k => if p k then ((k : Int), true) else seek p n (k + 1)
def seekTo (p : Nat → Bool) (m k : Nat) : Int × Bool := seek p (m - k) k
theorem seekTo_end (p : Nat → Bool) (m k : Nat) (h : m ≤ k) : seekTo p m k = (0, false) := by unfold seekTo; rw [show m - k = 0 by omega]; rfl
theorem seekTo_hit {p : Nat → Bool} {m k : Nat} (h : k < m) (hp : p k = true) : seekTo p m k = ((k : Int), true) := by
  unfold seekTo; rw [show m - k = (m - k - 1) + 1 by omega, seek, if_pos hp]
theorem seekTo_miss {p : Nat → Bool} {m k : Nat} (h : k < m) (hp : p k = false) : seekTo p m k = seekTo p m (k + 1) := by
  unfold seekTo; rw [show m - k = (m - k - 1) + 1 by omega, seek, if_neg (by simp [hp])]; rw [show m - (k + 1) = m - k - 1 by omega]
def whereP (f : List Int) (t : Int) (k : Nat) : Bool := decide (nthI f k ≤ t ∧ t < nthI f (k + 1))
def whr (f : List Int) (t : Int) : Int × Bool := seekTo (whereP f t) (f.length - 1) 0
end LL
abbrev RdI := Rd intC 1 8
theorem Rd.S1 {w : World} {b off n c : Nat} {xs : List Int} (h : RdI w (some ⟨b, off, none⟩) n c xs) (k : Nat) (hk : k < n) : w.cell? ⟨b, off + k, none⟩ = some (.int .i64 (LL.nthI xs k)) := by
  have hc : ∀ j u, (intC (LL.nthI xs k))[j]? = some u → _ := h.here 0 k hk
  simpa using hc 0 _ rfl
theorem rt2' {a b : Int × Bool} (h : a = b) : Ending.returned (.tuple #[.int .i64 a.1, .bool a.2]) = .returned (.tuple #[.int .i64 b.1, .bool b.2]) := by rw [h]
theorem Own.cells1 {e g n c : Nat} {w : World} {xs : List Int} (h : Own intC 1 8 e w (.slice (some ⟨g, 0, none⟩) n c) xs) (hn : xs.length = n) (k : Nat) (hk : k < n) : w.cell? ⟨g, k, none⟩ = some (.int .i64 (LL.nthI xs k)) ∧ w.frozen? ⟨g, k, none⟩ = false := by
  subst hn
  obtain ⟨A1, k1, e1, hR⟩ := h.rd intE
  cases e1
  have c0 := hR.S1 k hk
  rw [Nat.zero_add] at c0
  refine ⟨c0, ?_⟩
  rcases h.row.2 with ⟨hv, _⟩ | ⟨g', cap', cur, hv, hb, hh, hnc, hcm, hcs, _⟩
  · cases hv
  · cases hv; simp [World.frozen?, hh]
theorem Own.set1 {e g n c : Nat} {w : World} {xs : List Int} (h : Own intC 1 8 e w (.slice (some ⟨g, 0, none⟩) n c) xs) (hn : xs.length = n) (k : Nat) (hk : k < n) (x : Int) : Own intC 1 8 e (w.setCell ⟨g, k, none⟩ (.int .i64 x)) (.slice (some ⟨g, 0, none⟩) n c) (xs.set k x) := by
  subst hn
  obtain ⟨hrow, hg⟩ := ownsRow_setCells [.int .i64 x] (k * 1 + 0) h.row
  rw [flat_setMany intE xs k 0 x x [.int .i64 x] hk (by simp) (by simp [intC])] at hrow
  exact ⟨by rw [List.length_set]; simpa [World.setCells] using hrow, by rw [List.length_set]; exact h.room⟩
set_option maxHeartbeats 1000000 in
theorem impl_FlyWhere_c (xs : List Int) (t : Int) (A : Option Addr) (c : Nat) (w : World) (h : RdI w A xs.length c xs) : Calls Try.prog 30 #[.slice A xs.length c, .int .i64 t] w fun e w' => e = .returned (.tuple #[.int .i64 (LL.whr xs t).1, .bool (LL.whr xs t).2]) ∧ Below w.heap.size w w' := by
  have hroom := h.room
  go_enter Try.func30, Try.ntmps30
  go_wp2
  go_loopw [6] (fun i wr => ∃ k : Nat, k ≤ xs.length ∧ i = .int .i64 k ∧ LL.Same (LL.whr xs t) (LL.seekTo (LL.whereP xs t) (xs.length - 1) k) ∧ Below w.heap.size w wr) (fun i _ => xs.length - (intOf i).toNat)
  case atStart => exact ⟨0, Nat.zero_le _, rfl, (rfl : _ = _), Below.refl _ _⟩
  case round =>
    obtain ⟨k, hk, rfl, hn, hb⟩ := hrel
    obtain ⟨hc, hf, hl⟩ := bcell hb
    by_cases hlt : k + 1 < xs.length
    · obtain ⟨b, off, rfl, hbw⟩ := h.addr (by omega)
      have c0 := h.S1 k (by omega)
      have c1 := h.S1 (k + 1) hlt
      go_wp2
      all_goals first
        | (go_ret2; refine ⟨?_, (by repeat' (first | with_reducible exact Below.refl _ _ | with_reducible assumption | with_reducible refine b_alloc ?_ _ | with_reducible refine b_drewN ?_ _ | with_reducible refine b_drew ?_ | with_reducible refine b_set ?_ (by first | (simp only [World.size_setCell, World.size_alloc, World.size_drew]; omega) | (simp; done) | (simp; omega)) _ | with_reducible refine b_step ?_ (by with_reducible assumption)))⟩; rw [hn.out, LL.seekTo_hit (by omega) (by simp only [LL.whereP, decide_eq_true_eq]; clear hn; (try simp only [decide_eq_true_eq, decide_eq_false_iff_not] at *); omega)]; (first | done | rfl))
        | (go_roundw;  (case rel => refine ⟨k + 1, by omega, by go_num, hn.trans (LL.seekTo_miss (by omega) ?_), (by repeat' (first | with_reducible exact Below.refl _ _ | with_reducible assumption | with_reducible refine b_alloc ?_ _ | with_reducible refine b_drewN ?_ _ | with_reducible refine b_drew ?_ | with_reducible refine b_set ?_ (by first | (simp only [World.size_setCell, World.size_alloc, World.size_drew]; omega) | (simp; done) | (simp; omega)) _ | with_reducible refine b_step ?_ (by with_reducible assumption)))⟩; go_light; simp only [LL.whereP, decide_eq_false_iff_not]; clear hn; (try simp only [decide_eq_true_eq, decide_eq_false_iff_not, Bool.not_eq_true] at *); omega); (case measure => simp [intOf]; omega))
    · go_wp2
      go_ret2
      exact ⟨by rw [hn.out, LL.seekTo_end _ _ _ (by omega)]; rfl, hb⟩
end Go.Proofs.Ytpeojnknfonmlaa

/- Tubes: FlyWithin, of the program and of the reference. -/
set_option linter.unusedVariables false
set_option linter.unusedSimpArgs false
namespace Go.Proofs.Ytpeojnknfonmlaa
open Go.RowKit
attribute [local go_sem] w_lt_add w_le_of w_le_add max2_i min2_i
namespace LL
def Has (b : Box) (x y l t : Int) : Prop := b.x = x ∧ b.y = y ∧ In l b.lo b.hi ∧ In t b.i b.o
instance (b : Box) (x y l t : Int) : Decidable (Has b x y l t) := inferInstanceAs (Decidable (_ ∧ _))
/-- of the first k boxes none is such -/
def None_ (P : Box → Prop) (l : List Box) (k : Nat) : Prop := ∀ j, j < k → ¬ P (nthB l j)
theorem None_.zero (P : Box → Prop) (l : List Box) : None_ P l 0 := fun _ h => absurd h (Nat.not_lt_zero _)
theorem None_.succ {P : Box → Prop} {l : List Box} {k : Nat} (h : None_ P l k) (hk : ¬ P (nthB l k)) : None_ P l (k + 1) := fun j hj => by
  rcases Nat.lt_succ_iff_lt_or_eq.1 hj with h1 | rfl
  · exact h j h1
  · exact hk
theorem nthB_mem {l : List Box} {k : Nat} (h : k < l.length) : nthB l k ∈ l := by
  unfold nthB; rw [List.getD_eq_getElem?_getD, List.getElem?_eq_getElem h]; exact List.getElem_mem h
theorem None_.all {P : Box → Prop} {l : List Box} (h : None_ P l l.length) : ¬ ∃ b ∈ l, P b := fun ⟨b, hb, hP⟩ => by
  obtain ⟨i, hi, e⟩ := List.getElem_of_mem hb
  refine h i hi ?_
  unfold nthB; rw [List.getD_eq_getElem?_getD, List.getElem?_eq_getElem hi, e]; exact hP
theorem some_at {P : Box → Prop} {l : List Box} {k : Nat} (h : k < l.length) (hP : P (nthB l k)) : ∃ b ∈ l, P b := ⟨_, nthB_mem h, hP⟩
def Within (l : List Box) (x y v t : Int) : Prop := ∃ b ∈ l, Has b x y v t
instance (l : List Box) (x y v t : Int) : Decidable (Within l x y v t) := inferInstanceAs (Decidable (∃ b ∈ l, _))
end LL
set_option maxHeartbeats 1000000 in
theorem impl_FlyWithin_c (xs : List LL.Box) (x y v t : Int) (A : Option Addr) (c : Nat) (w : World) (h : RdB w A xs.length c xs) : Calls Try.prog 52 #[.slice A xs.length c, .int .i64 x, .int .i64 y, .int .i64 v, .int .i64 t] w fun e w' => e = .returned (.bool (decide (LL.Within xs x y v t))) ∧ Below w.heap.size w w' := by
  have hroom := h.room
  go_enter Try.func52, Try.ntmps52
  go_wp2
  go_loopw [15] (fun i wr => ∃ k : Nat, k ≤ xs.length ∧ i = .int .i64 k ∧ LL.None_ (fun b => LL.Has b x y v t) xs k ∧ Below w.heap.size w wr) (fun i _ => xs.length - (intOf i).toNat)
  case atStart => exact ⟨0, Nat.zero_le _, rfl, LL.None_.zero _ _, Below.refl _ _⟩
  case round =>
    obtain ⟨k, hk, rfl, hn, hb⟩ := hrel
    obtain ⟨hc, hf, hl⟩ := bcell hb
    by_cases hlt : k < xs.length
    · obtain ⟨b, off, rfl, hbw⟩ := h.addr (by omega)
      obtain ⟨c0, c1, c2, c3, c4, c5⟩ := h.S6 k hlt
      go_wp2_with (go_at_call 70; refine (impl_in_c _ _ _ _).mono ?_; rintro e w' ⟨rfl, rfl⟩)
      all_goals first
        | (go_ret; refine ⟨rd_ (iff_of_true (LL.some_at hlt ?_) rfl), (by repeat' (first | with_reducible exact Below.refl _ _ | with_reducible assumption | with_reducible refine b_alloc ?_ _ | with_reducible refine b_drewN ?_ _ | with_reducible refine b_drew ?_ | with_reducible refine b_set ?_ (by first | (simp only [World.size_setCell, World.size_alloc, World.size_drew]; omega) | (simp; done) | (simp; omega)) _ | with_reducible refine b_step ?_ (by with_reducible assumption)))⟩; simp only [LL.Has]; simp_all; done)
        | (go_roundw; (case rel => refine ⟨k + 1, by omega, by go_num, hn.succ ?_, (by repeat' (first | with_reducible exact Below.refl _ _ | with_reducible assumption | with_reducible refine b_alloc ?_ _ | with_reducible refine b_drewN ?_ _ | with_reducible refine b_drew ?_ | with_reducible refine b_set ?_ (by first | (simp only [World.size_setCell, World.size_alloc, World.size_drew]; omega) | (simp; done) | (simp; omega)) _ | with_reducible refine b_step ?_ (by with_reducible assumption)))⟩; go_light; simp only [LL.Has]; simp_all; done); (case measure => simp [intOf]; omega))
    · obtain rfl : k = xs.length := by omega
      go_wp2
      go_ret
      exact ⟨rd_ (iff_of_false hn.all (by simp)), hb⟩
end Go.Proofs.Ytpeojnknfonmlaa

/- Paths: the laws' helpers, and the reference's FlyPathOk. -/
set_option linter.unusedVariables false
set_option linter.unusedSimpArgs false
namespace Go.Proofs.Ytpeojnknfonmlaa
open Go.RowKit
attribute [local go_sem] w_lt_add w_le_of w_le_add max2_i min2_i
theorem Own.s_ge {α : Type} {enc : α → List Value} {sz bytes e : Nat} {w : World} {v : Value} {xs : List α} (h : Own enc sz bytes e w v xs) {B : Nat} (hge : ∀ k, v.ownBlock = some k → B ≤ k) {p : Addr} (hp : p.block < B) (u : Value) : Own enc sz bytes e (w.setCell p u) v xs :=
  h.s u fun k hk => by have := hge k hk; omega
/-- a call has made a path -/
def MkP (e : Nat) (w : World) (p : LL.Path) (en : Ending) (w' : World) : Prop := ∃ v, en = .returned (.agg #[.int .i64 p.q, .int .i64 p.s, v, .int .i64 p.fr, .int .i64 p.by_]) ∧ Own stepC 7 56 e w' v p.steps ∧ (∀ k, v.ownBlock = some k → w.heap.size ≤ k) ∧ Below w.heap.size w w'
end Go.Proofs.Ytpeojnknfonmlaa

/- Tubes: FlySmaller, of the program and of the reference. -/
set_option linter.unusedVariables false
set_option linter.unusedSimpArgs false
namespace Go.Proofs.Ytpeojnknfonmlaa
open Go.RowKit
attribute [local go_sem] w_lt_add w_le_of w_le_add max2_i min2_i
namespace LL
/-- a holds no moment or no height -/
def Void (a : Box) : Prop := a.hi < a.lo ∨ a.o < a.i
/-- b covers a -/
def Cover (b a : Box) : Prop := a.x = b.x ∧ a.y = b.y ∧ b.lo ≤ a.lo ∧ a.hi ≤ b.hi ∧ b.i ≤ a.i ∧ a.o ≤ b.o
instance (a : Box) : Decidable (Void a) := inferInstanceAs (Decidable (_ ∨ _))
instance (b a : Box) : Decidable (Cover b a) := inferInstanceAs (Decidable (_ ∧ _))
def Some_ (P : Box → Prop) (l : List Box) (k : Nat) : Prop := ∃ j, j < k ∧ P (nthB l j)
def All_ (P : Box → Prop) (l : List Box) (k : Nat) : Prop := ∀ j, j < k → P (nthB l j)
theorem Some_.zero (P : Box → Prop) (l : List Box) : ¬ Some_ P l 0 := fun ⟨_, h, _⟩ => absurd h (Nat.not_lt_zero _)
theorem Some_.succ (P : Box → Prop) (l : List Box) (k : Nat) : Some_ P l (k + 1) ↔ Some_ P l k ∨ P (nthB l k) := by
  constructor
  · rintro ⟨j, hj, hP⟩
    rcases Nat.lt_succ_iff_lt_or_eq.1 hj with h1 | rfl
    · exact .inl ⟨j, h1, hP⟩
    · exact .inr hP
  · rintro (⟨j, hj, hP⟩ | hP)
    · exact ⟨j, by omega, hP⟩
    · exact ⟨k, by omega, hP⟩
theorem Some_.all (P : Box → Prop) (l : List Box) : Some_ P l l.length ↔ ∃ b ∈ l, P b := by
  constructor
  · rintro ⟨j, hj, hP⟩; exact ⟨_, nthB_mem hj, hP⟩
  · rintro ⟨b, hb, hP⟩
    obtain ⟨i, hi, e⟩ := List.getElem_of_mem hb
    refine ⟨i, hi, ?_⟩
    unfold nthB; rw [List.getD_eq_getElem?_getD, List.getElem?_eq_getElem hi, e]; exact hP
theorem All_.zero (P : Box → Prop) (l : List Box) : All_ P l 0 := fun _ h => absurd h (Nat.not_lt_zero _)
theorem All_.succ {P : Box → Prop} {l : List Box} {k : Nat} (h : All_ P l k) (hk : P (nthB l k)) : All_ P l (k + 1) := fun j hj => by
  rcases Nat.lt_succ_iff_lt_or_eq.1 hj with h1 | rfl
  · exact h j h1
  · exact hk
theorem All_.all {P : Box → Prop} {l : List Box} (h : All_ P l l.length) : ∀ b ∈ l, P b := fun b hb => by
  obtain ⟨i, hi, e⟩ := List.getElem_of_mem hb
  have := h i hi
  unfold nthB at this; rw [List.getD_eq_getElem?_getD, List.getElem?_eq_getElem hi, e] at this; exact this
/-- void, or one of them covers it -/
def Held (a : Box) (B : List Box) : Prop := Void a ∨ ∃ b ∈ B, Cover b a
instance (a : Box) (B : List Box) : Decidable (Held a B) := inferInstanceAs (Decidable (_ ∨ _))
def Small (A B : List Box) : Prop := ∀ a ∈ A, Held a B
instance (A B : List Box) : Decidable (Small A B) := inferInstanceAs (Decidable (∀ a ∈ A, _))
theorem not_small {A B : List Box} {k : Nat} (h : k < A.length) (hP : ¬ Held (nthB A k) B) : ¬ Small A B := fun h2 => hP (h2 _ (nthB_mem h))
/-- what the inner loop has found -/
def Found (V : Prop) (a : Box) (B : List Box) (m : Nat) (fd : Bool) : Prop := fd = true ↔ V ∨ Some_ (fun b => Cover b a) B m
theorem Found.zero {V : Prop} [Decidable V] (a : Box) (B : List Box) : Found V a B 0 (decide V) := by simp [Found, Some_.zero]
theorem Found.succ {V : Prop} {a : Box} {B : List Box} {m : Nat} {fd f2 : Bool} (h : Found V a B m fd) (h2 : f2 = true ↔ fd = true ∨ Cover (nthB B m) a) : Found V a B (m + 1) f2 := by
  unfold Found at *; rw [h2, h, Some_.succ, or_assoc]
theorem Found.held {a : Box} {B : List Box} {fd : Bool} (h : Found (Void a) a B B.length fd) : fd = true ↔ Held a B := by unfold Found at h; rw [h, Some_.all]; rfl
theorem Found.held' {a : Box} {B : List Box} {fd : Bool} (hv : ¬ Void a) (h : Found False a B B.length fd) : fd = true ↔ Held a B := by unfold Found at h; rw [h, Some_.all]; simp [Held, hv]
end LL
end Go.Proofs.Ytpeojnknfonmlaa
