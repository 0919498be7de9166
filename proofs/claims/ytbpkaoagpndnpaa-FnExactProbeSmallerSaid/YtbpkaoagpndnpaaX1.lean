/- Tubes: FlyWithin, of the program and of the reference. -/
import Derived.Test.YtbpkaoagpndnpaaT1
set_option linter.unusedVariables false
set_option linter.unusedSimpArgs false
namespace Go.Proofs.Ytbpkaoagpndnpaa
open Go.RowKit
attribute [local go_sem] w_lt_add w_le_of w_le_add max2_i min2_i
namespace LL
def Has (b : Box) (x y l t : Int) : Prop := b.x = x ∧ b.y = y ∧ In l b.lo b.hi ∧ In t b.i b.o
instance (b : Box) (x y l t : Int) : Decidable (Has b x y l t) := inferInstanceAs (Decidable (_ ∧ _))
/-- of the first k boxes none is such -/
def None_ (P : Box → Prop) (l : List Box) (k : Nat) : Prop := ∀ j, j < k → ¬ P (nthB l j)
theorem None_.zero (P : Box → Prop) (l : List Box) : None_ P l 0 := fun _ h => absurd h (Nat.not_lt_zero _)
theorem None_.succ {P : Box → Prop} {l : List Box} {k : Nat} (h : None_ P l k) (hk : ¬ P (nthB l k)) : None_ P l (k + 1) := fun j hj => by
  rcases Nat.lt_succ_iff_lt_or_eq.1 hj with h1 | rfl
  · exact h j h1
  · exact hk
theorem nthB_mem {l : List Box} {k : Nat} (h : k < l.length) : nthB l k ∈ l := by
  unfold nthB; rw [List.getD_eq_getElem?_getD, List.getElem?_eq_getElem h]; exact List.getElem_mem h
theorem None_.all {P : Box → Prop} {l : List Box} (h : None_ P l l.length) : ¬ ∃ b ∈ l, P b := fun ⟨b, hb, hP⟩ => by
  obtain ⟨i, hi, e⟩ := List.getElem_of_mem hb
  refine h i hi ?_
  unfold nthB; rw [List.getD_eq_getElem?_getD, List.getElem?_eq_getElem hi, e]; exact hP
theorem some_at {P : Box → Prop} {l : List Box} {k : Nat} (h : k < l.length) (hP : P (nthB l k)) : ∃ b ∈ l, P b := ⟨_, nthB_mem h, hP⟩
def Within (l : List Box) (x y v t : Int) : Prop := ∃ b ∈ l, Has b x y v t
instance (l : List Box) (x y v t : Int) : Decidable (Within l x y v t) := inferInstanceAs (Decidable (∃ b ∈ l, _))
end LL
theorem spec_l5Has_c (s : LL.Box) (x y v t : Int) (w : World) : Calls Try.prog 57 #[.agg #[.int .i64 s.x, .int .i64 s.y, .int .i64 s.lo, .int .i64 s.hi, .int .i64 s.i, .int .i64 s.o], .int .i64 x, .int .i64 y, .int .i64 v, .int .i64 t] w fun e w' => e = .returned (.bool (decide (LL.Has s x y v t))) ∧ Below w.heap.size w w' := by
  go_enter Try.func57, Try.ntmps57
  go_wp2_with (go_at_call 53; refine (spec_l1In_c _ _ _ _).mono ?_; rintro e w' ⟨rfl, rfl⟩)
  all_goals go_ret
  all_goals exact ⟨rd_ (by simp only [LL.Has]; simp_all), (by repeat' (first | with_reducible exact Below.refl _ _ | with_reducible assumption | with_reducible refine b_alloc ?_ _ | with_reducible refine b_drewN ?_ _ | with_reducible refine b_drew ?_ | with_reducible refine b_set ?_ (by first | (simp only [World.size_setCell, World.size_alloc, World.size_drew]; omega) | (simp; done) | (simp; omega)) _ | with_reducible refine b_step ?_ (by with_reducible assumption)))⟩
set_option maxHeartbeats 1000000 in
theorem spec_FlyWithin_c (xs : List LL.Box) (x y v t : Int) (A : Option Addr) (c : Nat) (w : World) (h : RdB w A xs.length c xs) : Calls Try.prog 28 #[.slice A xs.length c, .int .i64 x, .int .i64 y, .int .i64 v, .int .i64 t] w fun e w' => e = .returned (.bool (decide (LL.Within xs x y v t))) ∧ Below w.heap.size w w' := by
  have hroom := h.room
  go_enter Try.func28, Try.ntmps28
  go_wp2
  go_loopw [11] (fun i wr => ∃ k : Nat, k ≤ xs.length ∧ i = .int .i64 k ∧ LL.None_ (fun b => LL.Has b x y v t) xs k ∧ Below w.heap.size w wr) (fun i _ => xs.length - (intOf i).toNat)
  case atStart => exact ⟨0, Nat.zero_le _, rfl, LL.None_.zero _ _, Below.refl _ _⟩
  case round =>
    obtain ⟨k, hk, rfl, hn, hb⟩ := hrel
    obtain ⟨hc, hf, hl⟩ := bcell hb
    by_cases hlt : k < xs.length
    · obtain ⟨b, off, rfl, hbw⟩ := h.addr (by omega)
      obtain ⟨c0, c1, c2, c3, c4, c5⟩ := h.S6 k hlt
      go_wp2_with (go_at_call 57; go_loud (refine (spec_l5Has_c _ _ _ _ _ _).mono ?_); rintro e w2 ⟨rfl, hb⟩; (repeat (with_reducible first | replace hb := b_un hb | replace hb := b_unN hb)); obtain ⟨hc, hf, hl⟩ := bcell hb; obtain ⟨gc, gf, gl⟩ := bcell (b_step (w := w) (by repeat' (first | with_reducible exact Below.refl _ _ | with_reducible assumption | with_reducible refine b_alloc ?_ _ | with_reducible refine b_drewN ?_ _ | with_reducible refine b_drew ?_ | with_reducible refine b_set ?_ (by first | (simp only [World.size_setCell, World.size_alloc, World.size_drew]; omega) | (simp; done) | (simp; omega)) _ | with_reducible refine b_step ?_ (by with_reducible assumption))) hb); have hz := hb.size; (try simp at hz); skip)
      · have hH : LL.Has (LL.nthB xs k) x y v t := by assumption
        go_ret
        exact ⟨rd_ (iff_of_true (LL.some_at hlt hH) rfl), (by repeat' (first | with_reducible exact Below.refl _ _ | with_reducible assumption | with_reducible refine b_alloc ?_ _ | with_reducible refine b_drewN ?_ _ | with_reducible refine b_drew ?_ | with_reducible refine b_set ?_ (by first | (simp only [World.size_setCell, World.size_alloc, World.size_drew]; omega) | (simp; done) | (simp; omega)) _ | with_reducible refine b_step ?_ (by with_reducible assumption)))⟩
      · have hH : ¬ LL.Has (LL.nthB xs k) x y v t := by assumption
        go_roundw
        case rel => exact ⟨k + 1, by omega, by go_num, hn.succ hH, (by repeat' (first | with_reducible exact Below.refl _ _ | with_reducible assumption | with_reducible refine b_alloc ?_ _ | with_reducible refine b_drewN ?_ _ | with_reducible refine b_drew ?_ | with_reducible refine b_set ?_ (by first | (simp only [World.size_setCell, World.size_alloc, World.size_drew]; omega) | (simp; done) | (simp; omega)) _ | with_reducible refine b_step ?_ (by with_reducible assumption)))⟩
        case measure => simp [intOf]; omega
    · obtain rfl : k = xs.length := by omega
      go_wp2
      go_ret
      exact ⟨rd_ (iff_of_false hn.all (by simp)), hb⟩
set_option maxHeartbeats 1000000 in
theorem impl_FlyWithin_c (xs : List LL.Box) (x y v t : Int) (A : Option Addr) (c : Nat) (w : World) (h : RdB w A xs.length c xs) : Calls Try.prog 30 #[.slice A xs.length c, .int .i64 x, .int .i64 y, .int .i64 v, .int .i64 t] w fun e w' => e = .returned (.bool (decide (LL.Within xs x y v t))) ∧ Below w.heap.size w w' := by
  have hroom := h.room
  go_enter Try.func30, Try.ntmps30
  go_wp2
  go_loopw [15] (fun i wr => ∃ k : Nat, k ≤ xs.length ∧ i = .int .i64 k ∧ LL.None_ (fun b => LL.Has b x y v t) xs k ∧ Below w.heap.size w wr) (fun i _ => xs.length - (intOf i).toNat)
  case atStart => exact ⟨0, Nat.zero_le _, rfl, LL.None_.zero _ _, Below.refl _ _⟩
  case round =>
    obtain ⟨k, hk, rfl, hn, hb⟩ := hrel
    obtain ⟨hc, hf, hl⟩ := bcell hb
    by_cases hlt : k < xs.length
    · obtain ⟨b, off, rfl, hbw⟩ := h.addr (by omega)
      obtain ⟨c0, c1, c2, c3, c4, c5⟩ := h.S6 k hlt
      go_wp2_with (go_at_call 55; refine (impl_in_c _ _ _ _).mono ?_; rintro e w' ⟨rfl, rfl⟩)
      all_goals first
        | (go_ret; refine ⟨rd_ (iff_of_true (LL.some_at hlt ?_) rfl), (by repeat' (first | with_reducible exact Below.refl _ _ | with_reducible assumption | with_reducible refine b_alloc ?_ _ | with_reducible refine b_drewN ?_ _ | with_reducible refine b_drew ?_ | with_reducible refine b_set ?_ (by first | (simp only [World.size_setCell, World.size_alloc, World.size_drew]; omega) | (simp; done) | (simp; omega)) _ | with_reducible refine b_step ?_ (by with_reducible assumption)))⟩; simp only [LL.Has]; simp_all; done)
        | (go_roundw; (case rel => refine ⟨k + 1, by omega, by go_num, hn.succ ?_, (by repeat' (first | with_reducible exact Below.refl _ _ | with_reducible assumption | with_reducible refine b_alloc ?_ _ | with_reducible refine b_drewN ?_ _ | with_reducible refine b_drew ?_ | with_reducible refine b_set ?_ (by first | (simp only [World.size_setCell, World.size_alloc, World.size_drew]; omega) | (simp; done) | (simp; omega)) _ | with_reducible refine b_step ?_ (by with_reducible assumption)))⟩; go_light; simp only [LL.Has]; simp_all; done); (case measure => simp [intOf]; omega))
    · obtain rfl : k = xs.length := by omega
      go_wp2
      go_ret
      exact ⟨rd_ (iff_of_false hn.all (by simp)), hb⟩
end Go.Proofs.Ytbpkaoagpndnpaa
