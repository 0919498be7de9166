/- Plain mathematics of the flying part: models of the program's data, what each function decides, and the laws of spans. No program in sight. -/
import Derived.Test.YtpeojnknfonmlaaProg
import Derived.WalkKit
import Derived.KernelRfl
import Derived.Deep.QuietTactic
import Derived.BigQuiet
import Derived.Maps.AppendAt
import Derived.Deep.AppendLies
import Derived.Laws.MakeOwn
import Derived.Laws.OwnMore
import Derived.Deep.DeepCutAuto
import Derived.Deep.CutBlock
import Derived.Deep.Light
import Derived.Lib.Hide
import Derived.Handy
import Derived.Deep.RegionWith
import Derived.Laws.IdiomCopy
import Derived.Laws.Cells
import Derived.Laws.ResultCell

set_option linter.unusedVariables false
namespace Go.Proofs.Ytpeojnknfonmlaa.LL

structure Step where
  x : Int
  y : Int
  lo : Int
  hi : Int
  fr : Int
  by_ : Int
  hold : Bool

structure Path where
  q : Int
  s : Int
  steps : List Step
  fr : Int
  by_ : Int

structure Box where
  x : Int
  y : Int
  lo : Int
  hi : Int
  i : Int
  o : Int

structure Span where
  lo : Int
  hi : Int

def In (n lo hi : Int) : Prop := lo ≤ n ∧ n ≤ hi
instance (n lo hi : Int) : Decidable (In n lo hi) := inferInstanceAs (Decidable (_ ∧ _))

def KindOk (q s : Int) : Prop := 1 ≤ q ∧ q ≤ s ∧ s ≤ 50
instance (q s : Int) : Decidable (KindOk q s) := inferInstanceAs (Decidable (_ ∧ _))

def StepOk (s : Step) : Prop := In s.x 0 15 ∧ In s.y 0 15 ∧ 0 ≤ s.lo ∧ s.lo ≤ s.hi ∧ s.hi ≤ 6 ∧ 0 ≤ s.fr ∧ s.fr ≤ s.by_ ∧ s.by_ ≤ 10000
instance (s : Step) : Decidable (StepOk s) := inferInstanceAs (Decidable (_ ∧ _))

def NextOk (a b : Step) : Prop := ¬ (a.x = b.x ∧ a.y = b.y) ∧ In (b.x - a.x) (-1) 1 ∧ In (b.y - a.y) (-1) 1 ∧ a.lo ≤ b.hi ∧ b.lo ≤ a.hi
instance (a b : Step) : Decidable (NextOk a b) := inferInstanceAs (Decidable (_ ∧ _))

def z0 : Step := ⟨0, 0, 0, 0, 0, 0, false⟩
/-- the step at a place -/
def nth (l : List Step) (i : Nat) : Step := l.getD i z0
def Path.at_ (p : Path) (i : Nat) : Step := nth p.steps i
/-- what is asked of the step at a place -/
def StepGood (l : List Step) (i : Nat) : Prop := StepOk (nth l i) ∧ (0 < i → NextOk (nth l (i - 1)) (nth l i))
instance (l : List Step) (i : Nat) : Decidable (StepGood l i) := inferInstanceAs (Decidable (_ ∧ _))

def PathOk (p : Path) : Prop :=
  KindOk p.q p.s ∧ In (p.steps.length : Int) 1 40 ∧ 0 ≤ p.fr ∧ p.fr ≤ p.by_ ∧ p.by_ ≤ 10000 ∧ ∀ i, i < p.steps.length → StepGood p.steps i
instance (p : Path) : Decidable (PathOk p) := inferInstanceAs (Decidable (_ ∧ _))

/-! ### bounds and spans by places -/
def lowB (p : Path) (k : Nat) : Int := if k < p.steps.length then (p.at_ k).fr else p.fr
def highB (p : Path) (k : Nat) : Int := if k < p.steps.length then (p.at_ k).by_ else p.by_
/-- the first walk: what can be reached at all -/
def lowF (p : Path) : Nat → Int
  | 0 => lowB p 0
  | k + 1 => max (lowB p (k + 1)) (lowF p k + p.q)
def highF (p : Path) : Nat → Int
  | 0 => highB p 0
  | k + 1 => if (p.at_ k).hold then highB p (k + 1) else min (highB p (k + 1)) (highF p k + p.s)
/-- the walk back; m: how many places from the end -/
def highG (p : Path) : Nat → Int
  | 0 => highF p p.steps.length
  | m + 1 => min (highF p (p.steps.length - (m + 1))) (highG p m - p.q)
def lowG (p : Path) : Nat → Int
  | 0 => lowF p p.steps.length
  | m + 1 => if (p.at_ (p.steps.length - (m + 1))).hold then lowF p (p.steps.length - (m + 1)) else max (lowF p (p.steps.length - (m + 1))) (lowG p m - p.s)
def lo (p : Path) (k : Nat) : Int := lowG p (p.steps.length - k)
def hi (p : Path) (k : Nat) : Int := highG p (p.steps.length - k)
/-- both walks meet nothing empty -/
def SpansOk (p : Path) : Prop := (∀ k, k ≤ p.steps.length → lowF p k ≤ highF p k) ∧ ∀ k, k ≤ p.steps.length → lo p k ≤ hi p k

/-- A flight along a path's windows (whether the path is ok or not). -/
structure Flight (p : Path) (f : Nat → Int) : Prop where
  low : ∀ k, k ≤ p.steps.length → lowB p k ≤ f k
  high : ∀ k, k ≤ p.steps.length → f k ≤ highB p k
  quick : ∀ k, k < p.steps.length → f k + p.q ≤ f (k + 1)
  slow : ∀ k, k < p.steps.length → (p.at_ k).hold = false → f (k + 1) ≤ f k + p.s

theorem Flight.F {p : Path} {f : Nat → Int} (h : Flight p f) : ∀ k, k ≤ p.steps.length → lowF p k ≤ f k ∧ f k ≤ highF p k
  | 0, hk => ⟨h.low 0 hk, h.high 0 hk⟩
  | k + 1, hk => by
    have ⟨a, b⟩ := h.F k (by omega)
    have q := h.quick k (by omega)
    have l := h.low (k + 1) hk
    have u := h.high (k + 1) hk
    refine ⟨?_, ?_⟩
    · simp only [lowF]; omega
    · simp only [highF]
      split
      · exact u
      · rename_i hh
        have s := h.slow k (by omega) (by simpa using hh)
        omega

theorem Flight.G {p : Path} {f : Nat → Int} (h : Flight p f) : ∀ m, m ≤ p.steps.length → lowG p m ≤ f (p.steps.length - m) ∧ f (p.steps.length - m) ≤ highG p m
  | 0, _ => h.F _ (Nat.le_refl _)
  | m + 1, hm => by
    have ⟨a, b⟩ := h.G m (by omega)
    have ⟨c, d⟩ := h.F (p.steps.length - (m + 1)) (by omega)
    have q := h.quick (p.steps.length - (m + 1)) (by omega)
    have e : p.steps.length - (m + 1) + 1 = p.steps.length - m := by omega
    rw [e] at q
    refine ⟨?_, ?_⟩
    · simp only [lowG]
      split
      · exact c
      · rename_i hh
        have s := h.slow (p.steps.length - (m + 1)) (by omega) (by simpa using hh)
        rw [e] at s
        omega
    · simp only [highG]; omega

/-- Each tick of any flight lies in the spans. -/
theorem Flight.in_ {p : Path} {f : Nat → Int} (h : Flight p f) (k : Nat) (hk : k ≤ p.steps.length) : lo p k ≤ f k ∧ f k ≤ hi p k := by
  have := h.G (p.steps.length - k) (by omega)
  rwa [show p.steps.length - (p.steps.length - k) = k by omega] at this

theorem Flight.spans {p : Path} {f : Nat → Int} (h : Flight p f) : SpansOk p :=
  ⟨fun k hk => by have := h.F k hk; omega, fun k hk => by have := h.in_ k hk; omega⟩

/-! ### the spans are flights, and tight -/
theorem lo_last (p : Path) : lo p p.steps.length = lowF p p.steps.length := by simp [lo, lowG]
theorem hi_last (p : Path) : hi p p.steps.length = highF p p.steps.length := by simp [hi, highG]
theorem lo_step (p : Path) (k : Nat) (hk : k < p.steps.length) : lo p k = if (p.at_ k).hold then lowF p k else max (lowF p k) (lo p (k + 1) - p.s) := by
  unfold lo
  obtain ⟨m, hm⟩ : ∃ m, p.steps.length - k = m + 1 := ⟨p.steps.length - k - 1, by omega⟩
  have e : p.steps.length - (k + 1) = m := by omega
  have e2 : p.steps.length - (m + 1) = k := by omega
  rw [hm, e]
  simp only [lowG, e2]
theorem hi_step (p : Path) (k : Nat) (hk : k < p.steps.length) : hi p k = min (highF p k) (hi p (k + 1) - p.q) := by
  unfold hi
  obtain ⟨m, hm⟩ : ∃ m, p.steps.length - k = m + 1 := ⟨p.steps.length - k - 1, by omega⟩
  have e : p.steps.length - (k + 1) = m := by omega
  have e2 : p.steps.length - (m + 1) = k := by omega
  rw [hm, e]
  simp only [highG, e2]

theorem lowF_le_lo (p : Path) (k : Nat) (hk : k ≤ p.steps.length) : lowF p k ≤ lo p k := by
  rcases Nat.lt_or_ge k p.steps.length with h | h
  · rw [lo_step p k h]; split <;> omega
  · have : k = p.steps.length := by omega
    subst this; rw [lo_last]; exact Int.le_refl _
theorem hi_le_highF (p : Path) (k : Nat) (hk : k ≤ p.steps.length) : hi p k ≤ highF p k := by
  rcases Nat.lt_or_ge k p.steps.length with h | h
  · rw [hi_step p k h]; omega
  · have : k = p.steps.length := by omega
    subst this; rw [hi_last]; exact Int.le_refl _
theorem lowB_le_lowF (p : Path) (k : Nat) : lowB p k ≤ lowF p k := by cases k <;> simp only [lowF] <;> omega
theorem highF_le_highB (p : Path) (k : Nat) : highF p k ≤ highB p k := by
  cases k with
  | zero => simp only [highF]; omega
  | succ k => simp only [highF]; split <;> omega

theorem lo_quick {p : Path} (hqs : p.q ≤ p.s) (k : Nat) (hk : k < p.steps.length) : lo p k + p.q ≤ lo p (k + 1) := by
  have h1 := lowF_le_lo p (k + 1) hk
  have h2 : lowF p k + p.q ≤ lowF p (k + 1) := by simp only [lowF]; omega
  rw [lo_step p k hk]
  split <;> omega
theorem lo_slow {p : Path} (k : Nat) (hk : k < p.steps.length) (hh : (p.at_ k).hold = false) : lo p (k + 1) ≤ lo p k + p.s := by
  rw [lo_step p k hk, if_neg (by simp [hh])]; omega
theorem hi_quick {p : Path} (k : Nat) (hk : k < p.steps.length) : hi p k + p.q ≤ hi p (k + 1) := by
  rw [hi_step p k hk]; omega
theorem hi_slow {p : Path} (hqs : p.q ≤ p.s) (k : Nat) (hk : k < p.steps.length) (hh : (p.at_ k).hold = false) : hi p (k + 1) ≤ hi p k + p.s := by
  have h1 := hi_le_highF p (k + 1) hk
  have h2 : highF p (k + 1) ≤ highF p k + p.s := by simp only [highF]; rw [if_neg (by simp [hh])]; omega
  rw [hi_step p k hk]
  omega

theorem flight_lo {p : Path} (hqs : p.q ≤ p.s) (h : SpansOk p) : Flight p (lo p) where
  low k hk := Int.le_trans (lowB_le_lowF p k) (lowF_le_lo p k hk)
  high k hk := Int.le_trans (h.2 k hk) (Int.le_trans (hi_le_highF p k hk) (highF_le_highB p k))
  quick := lo_quick hqs
  slow := lo_slow
theorem flight_hi {p : Path} (hqs : p.q ≤ p.s) (h : SpansOk p) : Flight p (hi p) where
  low k hk := Int.le_trans (lowB_le_lowF p k) (Int.le_trans (lowF_le_lo p k hk) (h.2 k hk))
  high k hk := Int.le_trans (hi_le_highF p k hk) (highF_le_highB p k)
  quick := hi_quick
  slow := hi_slow hqs

def up (p : Path) (k : Nat) (t : Int) : Nat → Int
  | 0 => t
  | d + 1 => max (lo p (k + d + 1)) (up p k t d + p.q)
def down (p : Path) (k : Nat) (t : Int) : Nat → Int
  | 0 => t
  | d + 1 => min (hi p (k - (d + 1))) (down p k t d - p.q)
theorem up_in {p : Path} (hqs : p.q ≤ p.s) (h : SpansOk p) (k : Nat) (t : Int) (h0 : lo p k ≤ t) (h1 : t ≤ hi p k) : ∀ d, k + d ≤ p.steps.length → lo p (k + d) ≤ up p k t d ∧ up p k t d ≤ hi p (k + d)
  | 0, _ => ⟨h0, h1⟩
  | d + 1, hd => by
    have ⟨a, b⟩ := up_in hqs h k t h0 h1 d (by omega)
    have c := hi_quick (p := p) (k + d) (by omega)
    have e := h.2 (k + d + 1) (by omega)
    simp only [up]
    show lo p (k + d + 1) ≤ _ ∧ _ ≤ hi p (k + d + 1)
    omega
theorem down_in {p : Path} (hqs : p.q ≤ p.s) (h : SpansOk p) (k : Nat) (t : Int) (hk : k ≤ p.steps.length) (h0 : lo p k ≤ t) (h1 : t ≤ hi p k) : ∀ d, d ≤ k → lo p (k - d) ≤ down p k t d ∧ down p k t d ≤ hi p (k - d)
  | 0, _ => ⟨h0, h1⟩
  | d + 1, hd => by
    have ⟨a, b⟩ := down_in hqs h k t hk h0 h1 d (by omega)
    have c := lo_quick hqs (k - (d + 1)) (by omega)
    rw [show k - (d + 1) + 1 = k - d by omega] at c
    have e := h.2 (k - (d + 1)) (by omega)
    simp only [down]
    omega
/-- Tight: each tick of each span is that of some flight. -/
theorem tight {p : Path} (hqs : p.q ≤ p.s) (h : SpansOk p) (k : Nat) (hk : k ≤ p.steps.length) (t : Int) (h0 : lo p k ≤ t) (h1 : t ≤ hi p k) : ∃ f, Flight p f ∧ f k = t := by
  refine ⟨fun j => if k ≤ j then up p k t (j - k) else down p k t (k - j), ?_, by simp [up]⟩
  have U := up_in hqs h k t h0 h1
  have D := down_in hqs h k t hk h0 h1
  have I : ∀ j, j ≤ p.steps.length → lo p j ≤ (if k ≤ j then up p k t (j - k) else down p k t (k - j)) ∧ (if k ≤ j then up p k t (j - k) else down p k t (k - j)) ≤ hi p j := by
    intro j hj
    split
    · have := U (j - k) (by omega)
      rwa [show k + (j - k) = j by omega] at this
    · have := D (k - j) (by omega)
      rwa [show k - (k - j) = j by omega] at this
  refine ⟨fun j hj => ?_, fun j hj => ?_, fun j hj => ?_, fun j hj hh => ?_⟩
  · exact Int.le_trans (Int.le_trans (lowB_le_lowF p j) (lowF_le_lo p j hj)) (I j hj).1
  · exact Int.le_trans (I j hj).2 (Int.le_trans (hi_le_highF p j hj) (highF_le_highB p j))
  · by_cases c : k ≤ j
    · rw [if_pos c, if_pos (by omega), show j + 1 - k = (j - k) + 1 by omega]
      simp only [up]; omega
    · rw [if_neg c]
      by_cases c2 : k ≤ j + 1
      · obtain rfl : k = j + 1 := by omega
        rw [if_pos (by omega), Nat.sub_self, show j + 1 - j = 0 + 1 by omega]
        simp only [down, up]; omega
      · rw [if_neg c2, show k - j = (k - (j + 1)) + 1 by omega]
        simp only [down]; omega
  · by_cases c : k ≤ j
    · have a := U (j - k) (by omega)
      rw [show k + (j - k) = j by omega] at a
      have b := lo_slow j hj hh
      rw [if_pos c, if_pos (by omega), show j + 1 - k = (j - k) + 1 by omega]
      simp only [up, show k + (j - k) + 1 = j + 1 by omega]; omega
    · rw [if_neg c]
      have b := hi_slow hqs j hj hh
      by_cases c2 : k ≤ j + 1
      · obtain rfl : k = j + 1 := by omega
        rw [if_pos (by omega), Nat.sub_self, show j + 1 - j = 0 + 1 by omega]
        simp only [down, up, show j + 1 - (0 + 1) = j by omega]; omega
      · have a := D (k - (j + 1)) (by omega)
        rw [show k - (k - (j + 1)) = j + 1 by omega] at a
        rw [if_neg c2, show k - j = (k - (j + 1)) + 1 by omega]
        simp only [down, show k - (k - (j + 1) + 1) = j by omega]; omega

theorem spans_iff {p : Path} (hqs : p.q ≤ p.s) : SpansOk p ↔ ∃ f, Flight p f := ⟨fun h => ⟨_, flight_lo hqs h⟩, fun ⟨_, h⟩ => h.spans⟩

end Go.Proofs.Ytpeojnknfonmlaa.LL
set_option linter.unusedVariables false
namespace Go.Proofs.Ytpeojnknfonmlaa.LL
/-- a hidden fact: all places below k are as they should be -/
def AllGood (l : List Step) (k : Nat) : Prop := ∀ j, j < k → StepGood l j
theorem AllGood.zero (l : List Step) : AllGood l 0 := fun j h => absurd h (Nat.not_lt_zero _)
theorem AllGood.succ {l : List Step} {k : Nat} (h : AllGood l k) (hk : StepGood l k) : AllGood l (k + 1) := fun j hj => by
  rcases Nat.lt_succ_iff_lt_or_eq.1 hj with h1 | rfl
  · exact h j h1
  · exact hk
theorem PathOk.bad {p : Path} {k : Nat} (hk : k < p.steps.length) (h : ¬ StepGood p.steps k) : ¬ PathOk p := fun h' => h (h'.2.2.2.2.2 k hk)
theorem AllGood.at_ {l : List Step} {k j : Nat} (h : AllGood l k) (hj : j < k) : StepOk (nth l j) := (h j hj).1
theorem AllGood.ok {l : List Step} {k : Nat} (h : AllGood l (k + 1)) : StepOk (nth l k) := (h k (Nat.lt_succ_self k)).1
end Go.Proofs.Ytpeojnknfonmlaa.LL

namespace Go.Proofs.Ytpeojnknfonmlaa.LL
/-! ### boxes -/
def BoxOk (b : Box) : Prop := In b.x 0 15 ∧ In b.y 0 15 ∧ 0 ≤ b.lo ∧ b.lo ≤ b.hi ∧ b.hi ≤ 6 ∧ 0 ≤ b.i ∧ b.i ≤ b.o ∧ b.o ≤ 10000
instance (b : Box) : Decidable (BoxOk b) := inferInstanceAs (Decidable (_ ∧ _))
/-- two boxes that are ok come too near -/
def Touch (a b : Box) : Prop := In (a.x - b.x) (-1) 1 ∧ In (a.y - b.y) (-1) 1 ∧ a.lo ≤ b.hi ∧ b.lo ≤ a.hi ∧ a.i ≤ b.o ∧ b.i ≤ a.o
instance (a b : Box) : Decidable (Touch a b) := inferInstanceAs (Decidable (_ ∧ _))
def Near (a b : Box) : Prop := BoxOk a ∧ BoxOk b ∧ Touch a b
instance (a b : Box) : Decidable (Near a b) := inferInstanceAs (Decidable (_ ∧ _))
def touchT (a b : Box) : Int := if Touch a b then max a.i b.i else 0
def nearT (a b : Box) : Int := if Near a b then max a.i b.i else 0
end Go.Proofs.Ytpeojnknfonmlaa.LL

namespace Go.Proofs.Ytpeojnknfonmlaa.LL
def b0 : Box := ⟨0, 0, 0, 0, 0, 0⟩
def nthB (l : List Box) (i : Nat) : Box := l.getD i b0
/-- what the laws' size functions come to: what is left, or -1 -/
def sz (left : Int) (n : Nat) : Int := if left - n < 0 then -1 else left - n
end Go.Proofs.Ytpeojnknfonmlaa.LL

/- Words that the walks of this claim use: what a slice of plain structs reads as, what worlds have in common, the ends of walks. -/
set_option linter.unusedVariables false
set_option linter.unusedSimpArgs false
namespace Go.Proofs.Ytpeojnknfonmlaa
open Go.RowKit

theorem rb {a b : Bool} (h : a = b) : Ending.returned (.bool a) = .returned (.bool b) := by rw [h]
theorem ri {a b : Int} (h : a = b) : Ending.returned (.int .i64 a) = .returned (.int .i64 b) := by rw [h]
theorem rd_ {p : Prop} [Decidable p] {a : Bool} (h : p ↔ a = true) : Ending.returned (.bool a) = .returned (.bool (decide p)) := by rw [show a = decide p by rw [Bool.eq_iff_iff, decide_eq_true_iff]; exact h.symm]
theorem rt2 {p : Prop} [Decidable p] {a b : Int} {c : Bool} (h : p ↔ c = true) (h2 : a = b) : Ending.returned (.tuple #[.int .i64 a, .bool c]) = .returned (.tuple #[.int .i64 b, .bool (decide p)]) := by rw [show c = decide p by rw [Bool.eq_iff_iff, decide_eq_true_iff]; exact h.symm, h2]
theorem dec_t {p : Prop} [Decidable p] (h : p) : true = decide p := (decide_eq_true h).symm
theorem dec_f {p : Prop} [Decidable p] (h : ¬ p) : false = decide p := (decide_eq_false h).symm

/-- The greater of two whole numbers, as Go's max tells it; the smaller. -/
def mx (a b : Int) : Int := if a < b then b else a
def mn (a b : Int) : Int := if b < a then b else a
theorem max2_i (k k' : IntKind) (x y : Int) : Builtin.max2 (.int k x) (.int k' y) = pure (.int k (mx x y)) := by simp only [Builtin.max2, gt_iff_lt, mx]
theorem min2_i (k k' : IntKind) (x y : Int) : Builtin.min2 (.int k x) (.int k' y) = pure (.int k (mn x y)) := by simp only [Builtin.min2, gt_iff_lt, mn]
/-! ### worlds -/
theorem bcell {W w1 : World} (hb : Below W.heap.size W w1) : (∀ b o, b < W.heap.size → w1.cell? ⟨b, o, none⟩ = W.cell? ⟨b, o, none⟩) ∧ (∀ b o, b < W.heap.size → w1.frozen? ⟨b, o, none⟩ = W.frozen? ⟨b, o, none⟩) ∧ ∀ n, n < W.heap.size → n < w1.heap.size :=
  ⟨fun b o h => hb.cell (p := ⟨b, o, none⟩) h, fun b o h => hb.frozen (p := ⟨b, o, none⟩) h, fun n h => Nat.lt_of_lt_of_le h hb.size⟩
theorem b_alloc {w W : World} (h : Below w.heap.size w W) (o : Obj) : Below w.heap.size w (W.alloc o) := h.alloc h.size o
theorem b_drew {w W : World} (h : Below w.heap.size w W) : Below w.heap.size w W.drew := h.drew
theorem b_drewN {w W : World} (h : Below w.heap.size w W) (n : Nat) : Below w.heap.size w (W.drewN n) := ⟨h.os, h.tape, h.output, h.size, h.block⟩
theorem b_un {W w1 : World} (h : Below W.drew.heap.size W.drew w1) : Below W.heap.size W w1 := ⟨h.os, h.tape, h.output, h.size, h.block⟩
theorem b_unN {W w1 : World} {n : Nat} (h : Below (W.drewN n).heap.size (W.drewN n) w1) : Below W.heap.size W w1 := ⟨h.os, h.tape, h.output, h.size, h.block⟩
theorem b_step {w W w2 : World} (h : Below w.heap.size w W) (k : Below W.heap.size W w2) : Below w.heap.size w w2 := h.trans (k.mono h.size)
theorem b_set {w W : World} {p : Addr} (h : Below w.heap.size w W) (hp : w.heap.size ≤ p.block) (u : Value) : Below w.heap.size w (W.setCell p u) := h.setCell hp u

/-! ### blocks -/
theorem blk_new (w : World) (o : Obj) : (w.alloc o).heap[w.heap.size]? = some o := heap_alloc_new w o
theorem blk_b {W w1 : World} {g : Nat} {o : Obj} (h : W.heap[g]? = some o) (hb : Below W.heap.size W w1) : w1.heap[g]? = some o := (hb.block g (Array.getElem?_eq_some_iff.1 h).1).trans h
theorem blk_a {w : World} {g : Nat} {o : Obj} (h : w.heap[g]? = some o) (o' : Obj) : (w.alloc o').heap[g]? = some o := (Below.heap_alloc w o' g (Array.getElem?_eq_some_iff.1 h).1).trans h
theorem blk_n1 {w : World} {g : Nat} {o : Obj} (h : g = w.heap.size) : (w.alloc o).heap[g]? = some o := h ▸ heap_alloc_new w o
theorem blk_lt {w : World} {g : Nat} {o : Obj} (h : w.heap[g]? = some o) : g < w.heap.size := (Array.getElem?_eq_some_iff.1 h).1
/-- a block of cells, kept out of the walk's sight -/
structure Blk (w : World) (g : Nat) (cs : Array Value) (t : TypeId) : Prop where
  at_ : w.heap[g]? = some (.cells cs t (0, 0))
theorem Blk.cells {w : World} {g : Nat} {cs : Array Value} {t : TypeId} (h : Blk w g cs t) : (∀ i, w.cell? ⟨g, i, none⟩ = cs[i]?) ∧ (∀ i, w.frozen? ⟨g, i, none⟩ = false) ∧ g < w.heap.size :=
  ⟨fun i => cell_of_row w g i cs t (0, 0) h.at_, fun i => by simp [World.frozen?, h.at_], blk_lt h.at_⟩
theorem Blk.b {W w1 : World} {g : Nat} {cs : Array Value} {t : TypeId} (h : Blk W g cs t) (hb : Below W.heap.size W w1) : Blk w1 g cs t := ⟨blk_b h.at_ hb⟩
theorem Blk.a {W : World} {g : Nat} {cs : Array Value} {t : TypeId} (h : Blk W g cs t) (o : Obj) : Blk (W.alloc o) g cs t := ⟨blk_a h.at_ o⟩
theorem Blk.d {W : World} {g : Nat} {cs : Array Value} {t : TypeId} (h : Blk W g cs t) : Blk W.drew g cs t := ⟨h.at_⟩
theorem Blk.dN {W : World} {g : Nat} {cs : Array Value} {t : TypeId} (h : Blk W g cs t) (n : Nat) : Blk (W.drewN n) g cs t := ⟨h.at_⟩
theorem Blk.new (w : World) (cs : Array Value) (t : TypeId) : Blk (w.alloc (.cells cs t)) w.heap.size cs t := ⟨blk_new w _⟩
theorem Blk.new' {w : World} {g : Nat} (cs : Array Value) (t : TypeId) (h : g = w.heap.size) : Blk (w.alloc (.cells cs t)) g cs t := ⟨blk_n1 h⟩

theorem w_lt_add {a b n : Nat} (h : a < b) : (a < b + n) = True := eq_true (by omega)
theorem w_le_of {a b : Nat} (h : a < b) : (a ≤ b) = True := eq_true (by omega)
theorem w_le_add {a b n : Nat} (h : a < b) : (a ≤ b + n) = True := eq_true (by omega)

/-! ### a slice of plain structs that is read -/
/-- the bound of what one slice takes -/
def roomB : Nat := 140737488351232
structure Rd {α : Type} (enc : α → List Value) (sz bytes : Nat) (w : World) (A : Option Addr) (n c : Nat) (xs : List α) : Prop where
  len : xs.length = n
  cap : n ≤ c
  room : n * bytes ≤ 140737488351232
  at_ : 0 < n → ∃ b off, A = some ⟨b, off, none⟩ ∧ b < w.heap.size ∧ ∀ i x, xs[i]? = some x → ∀ j u, (enc x)[j]? = some u → w.cell? ⟨b, off + i * sz + j, none⟩ = some u
theorem Rd.mono {α : Type} {enc : α → List Value} {sz bytes : Nat} {w w1 : World} {A : Option Addr} {n c : Nat} {xs : List α} (h : Rd enc sz bytes w A n c xs) (hb : Below w.heap.size w w1) : Rd enc sz bytes w1 A n c xs where
  len := h.len
  cap := h.cap
  room := h.room
  at_ hn := by
    obtain ⟨b, off, e, hlt, hc⟩ := h.at_ hn
    exact ⟨b, off, e, Nat.lt_of_lt_of_le hlt hb.size, fun i x hi j u hu => (hb.cell (p := ⟨b, _, none⟩) hlt).trans (hc i x hi j u hu)⟩
theorem Rd.get {α : Type} {enc : α → List Value} {sz bytes : Nat} {w : World} {A : Option Addr} {n c : Nat} {xs : List α} (h : Rd enc sz bytes w A n c xs) (d : α) (k : Nat) (hk : k < n) :
    ∃ b off, A = some ⟨b, off, none⟩ ∧ b < w.heap.size ∧ ∀ j u, (enc (xs.getD k d))[j]? = some u → w.cell? ⟨b, off + k * sz + j, none⟩ = some u := by
  obtain ⟨b, off, e, hlt, hc⟩ := h.at_ (by omega)
  refine ⟨b, off, e, hlt, fun j u hu => hc k _ ?_ j u hu⟩
  rw [List.getD_eq_getElem?_getD, List.getElem?_eq_getElem (by rw [h.len]; exact hk)]; rfl

/-! ### the kinds of this program -/
def stepC (s : LL.Step) : List Value := [.int .i64 s.x, .int .i64 s.y, .int .i64 s.lo, .int .i64 s.hi, .int .i64 s.fr, .int .i64 s.by_, .bool s.hold]
abbrev RdS := Rd stepC 7 56
def boxC (s : LL.Box) : List Value := [.int .i64 s.x, .int .i64 s.y, .int .i64 s.lo, .int .i64 s.hi, .int .i64 s.i, .int .i64 s.o]
abbrev RdB := Rd boxC 6 48
theorem Rd.addr {α : Type} {enc : α → List Value} {sz bytes : Nat} {w : World} {A : Option Addr} {n c : Nat} {xs : List α} (h : Rd enc sz bytes w A n c xs) (hn : 0 < n) : ∃ b off, A = some ⟨b, off, none⟩ ∧ b < w.heap.size := by
  obtain ⟨b, off, e, hlt, _⟩ := h.at_ hn
  exact ⟨b, off, e, hlt⟩
theorem Rd.here {α : Type} {enc : α → List Value} {sz bytes : Nat} {w : World} {b off n c : Nat} {xs : List α} (h : Rd enc sz bytes w (some ⟨b, off, none⟩) n c xs) (d : α) (k : Nat) (hk : k < n) :
    ∀ j u, (enc (xs.getD k d))[j]? = some u → w.cell? ⟨b, off + k * sz + j, none⟩ = some u := by
  obtain ⟨b', off', e, hlt, hc⟩ := h.get d k hk
  cases e
  exact hc
theorem Rd.S7 {w : World} {b off n c : Nat} {xs : List LL.Step} (h : RdS w (some ⟨b, off, none⟩) n c xs) (k : Nat) (hk : k < n) :
    w.cell? ⟨b, off + k * 7, none⟩ = some (.int .i64 (LL.nth xs k).x) ∧ w.cell? ⟨b, off + k * 7 + 1, none⟩ = some (.int .i64 (LL.nth xs k).y) ∧
      w.cell? ⟨b, off + k * 7 + 2, none⟩ = some (.int .i64 (LL.nth xs k).lo) ∧ w.cell? ⟨b, off + k * 7 + 3, none⟩ = some (.int .i64 (LL.nth xs k).hi) ∧ w.cell? ⟨b, off + k * 7 + 4, none⟩ = some (.int .i64 (LL.nth xs k).fr) ∧
      w.cell? ⟨b, off + k * 7 + 5, none⟩ = some (.int .i64 (LL.nth xs k).by_) ∧ w.cell? ⟨b, off + k * 7 + 6, none⟩ = some (.bool (LL.nth xs k).hold) := by
  have hc : ∀ j u, (stepC (LL.nth xs k))[j]? = some u → _ := h.here LL.z0 k hk
  exact ⟨hc 0 _ rfl, hc 1 _ rfl, hc 2 _ rfl, hc 3 _ rfl, hc 4 _ rfl, hc 5 _ rfl, hc 6 _ rfl⟩
theorem Rd.S6 {w : World} {b off n c : Nat} {xs : List LL.Box} (h : RdB w (some ⟨b, off, none⟩) n c xs) (k : Nat) (hk : k < n) :
    w.cell? ⟨b, off + k * 6, none⟩ = some (.int .i64 (LL.nthB xs k).x) ∧ w.cell? ⟨b, off + k * 6 + 1, none⟩ = some (.int .i64 (LL.nthB xs k).y) ∧
      w.cell? ⟨b, off + k * 6 + 2, none⟩ = some (.int .i64 (LL.nthB xs k).lo) ∧ w.cell? ⟨b, off + k * 6 + 3, none⟩ = some (.int .i64 (LL.nthB xs k).hi) ∧ w.cell? ⟨b, off + k * 6 + 4, none⟩ = some (.int .i64 (LL.nthB xs k).i) ∧
      w.cell? ⟨b, off + k * 6 + 5, none⟩ = some (.int .i64 (LL.nthB xs k).o) := by
  have hc : ∀ j u, (boxC (LL.nthB xs k))[j]? = some u → _ := h.here LL.b0 k hk
  exact ⟨hc 0 _ rfl, hc 1 _ rfl, hc 2 _ rfl, hc 3 _ rfl, hc 4 _ rfl, hc 5 _ rfl⟩
end Go.Proofs.Ytpeojnknfonmlaa

/- Plain mathematics: flights that have begun, what is left, turning. No program in sight. -/
set_option linter.unusedVariables false
namespace Go.Proofs.Ytpeojnknfonmlaa.LL
/-- the list of what f tells of the first n places -/
def tab {α : Type} (n : Nat) (f : Nat → α) : List α := (List.range n).map f
theorem tab_len {α : Type} (n : Nat) (f : Nat → α) : (tab n f).length = n := by simp [tab]
theorem tab_getD {α : Type} {n : Nat} {f : Nat → α} {d : α} {i : Nat} (h : i < n) : (tab n f).getD i d = f i := by simp [tab, List.getD_eq_getElem?_getD, h]
theorem tab_snoc {α : Type} (n : Nat) (f : Nat → α) : tab n f ++ [f n] = tab (n + 1) f := by simp [tab, List.range_succ]
theorem tab_set {α : Type} {n : Nat} {f g : Nat → α} {i : Nat} {x : α} (h : i < n) (hx : g i = x) (hg : ∀ j, j ≠ i → j < n → g j = f j) : (tab n f).set i x = tab n g := by
  apply List.ext_getElem?
  intro j
  rw [List.getElem?_set]
  by_cases hji : i = j
  · subst hji; simp [tab, h, hx]
  · rw [if_neg hji]
    by_cases hj : j < n
    · simp [tab, hj, hg j (Ne.symm hji) hj]
    · simp [tab, hj]
theorem tab_congr {α : Type} {n : Nat} {f g : Nat → α} (h : ∀ i, i < n → f i = g i) : tab n f = tab n g := by
  apply List.ext_getElem?
  intro j
  by_cases hj : j < n
  · simp [tab, hj, h j hj]
  · simp [tab, hj]
theorem tab_zero {α : Type} (f : Nat → α) : tab 0 f = [] := rfl
theorem replicate_tab {α : Type} (n : Nat) (x : α) : List.replicate n x = tab n (fun _ => x) := by
  apply List.ext_getElem?
  intro j
  by_cases hj : j < n <;> simp [tab, hj]
instance (p : Path) : Decidable (SpansOk p) := inferInstanceAs (Decidable (_ ∧ _))
/-- the path is ok and a flight goes along it -/
def Flies (p : Path) : Prop := PathOk p ∧ SpansOk p
instance (p : Path) : Decidable (Flies p) := inferInstanceAs (Decidable (_ ∧ _))
/-- how long a step may take at most, as the reference tells it -/
def most (p : Path) (k : Nat) : Int := if (p.at_ k).hold then 10000 else p.s
/-- windows that the spans' arithmetic stays small over -/
structure Win (p : Path) : Prop where
  q0 : 0 ≤ p.q
  q1 : p.q ≤ 50
  s0 : 0 ≤ p.s
  s1 : p.s ≤ 50
  low : ∀ k, k ≤ p.steps.length → 0 ≤ lowB p k
  high : ∀ k, k ≤ p.steps.length → highB p k ≤ 10000
theorem PathOk.win {p : Path} (h : PathOk p) : Win p := by
  obtain ⟨⟨a, b, c⟩, ⟨d, e⟩, f, g, i, j⟩ := h
  refine ⟨by omega, by omega, by omega, by omega, fun k hk => ?_, fun k hk => ?_⟩
  · unfold lowB; split
    · rename_i hlt
      obtain ⟨⟨_, _, _, _, _, s1, s2, s3⟩, _⟩ := j k hlt
      exact s1
    · omega
  · unfold highB; split
    · rename_i hlt
      obtain ⟨⟨_, _, _, _, _, s1, s2, s3⟩, _⟩ := j k hlt
      exact s3
    · omega
theorem PathOk.qs {p : Path} (h : PathOk p) : p.q ≤ p.s := h.1.2.1
/-- the first walk met nothing empty below k -/
def Fwd (p : Path) (k : Nat) : Prop := ∀ j, j < k → lowF p j ≤ highF p j
theorem Fwd.zero (p : Path) : Fwd p 0 := fun _ h => absurd h (Nat.not_lt_zero _)
theorem Fwd.succ {p : Path} {k : Nat} (h : Fwd p k) (hk : lowF p k ≤ highF p k) : Fwd p (k + 1) := fun j hj => by
  rcases Nat.lt_succ_iff_lt_or_eq.1 hj with h1 | rfl
  · exact h j h1
  · exact hk
theorem Fwd.bad {p : Path} {k : Nat} (hk : k ≤ p.steps.length) (h : highF p k < lowF p k) : ¬ SpansOk p := fun h2 => by
  have := h2.1 k hk; omega
theorem lowF_0 (p : Path) (W : Win p) (k : Nat) (hk : k ≤ p.steps.length) : 0 ≤ lowF p k := Int.le_trans (W.low k hk) (lowB_le_lowF p k)
theorem highF_1 (p : Path) (W : Win p) (k : Nat) (hk : k ≤ p.steps.length) : highF p k ≤ 10000 := Int.le_trans (highF_le_highB p k) (W.high k hk)
theorem Fwd.at_ {p : Path} {k : Nat} (h : Fwd p k) (W : Win p) (j : Nat) (hj : j < k) (hk : j ≤ p.steps.length) : 0 ≤ lowF p j ∧ lowF p j ≤ highF p j ∧ highF p j ≤ 10000 :=
  ⟨lowF_0 p W j hk, h j hj, highF_1 p W j hk⟩
/-- the walk back met nothing empty from k on -/
def Bwd (p : Path) (k : Nat) : Prop := ∀ j, k ≤ j → j ≤ p.steps.length → lo p j ≤ hi p j
theorem Bwd.last {p : Path} (h : Fwd p (p.steps.length + 1)) : Bwd p p.steps.length := fun j h1 h2 => by
  obtain rfl : j = p.steps.length := by omega
  rw [lo_last, hi_last]; exact h _ (by omega)
theorem Bwd.pred {p : Path} {k : Nat} (h : Bwd p (k + 1)) (hk : lo p k ≤ hi p k) : Bwd p k := fun j h1 h2 => by
  by_cases e : j = k
  · subst e; exact hk
  · exact h j (by omega) h2
theorem Bwd.bad {p : Path} {k : Nat} (hk : k ≤ p.steps.length) (h : hi p k < lo p k) : ¬ SpansOk p := fun h2 => by
  have := h2.2 k hk; omega
theorem Bwd.all {p : Path} (h0 : Fwd p (p.steps.length + 1)) (h : Bwd p 0) : SpansOk p := ⟨fun k hk => h0 k (by omega), fun k hk => h k (by omega) hk⟩
theorem lo_0 (p : Path) (W : Win p) (k : Nat) (hk : k ≤ p.steps.length) : 0 ≤ lo p k := Int.le_trans (lowF_0 p W k hk) (lowF_le_lo p k hk)
theorem hi_1 (p : Path) (W : Win p) (k : Nat) (hk : k ≤ p.steps.length) : hi p k ≤ 10000 := Int.le_trans (hi_le_highF p k hk) (highF_1 p W k hk)
theorem Bwd.at_ {p : Path} {k : Nat} (h : Bwd p k) (W : Win p) (j : Nat) (hj : k ≤ j) (hk : j ≤ p.steps.length) : 0 ≤ lo p j ∧ lo p j ≤ hi p j ∧ hi p j ≤ 10000 :=
  ⟨lo_0 p W j hk, h j hj hk, hi_1 p W j hk⟩
theorem lowF_at (p : Path) (k : Nat) (h : 0 < k) : lowF p k = max (lowB p k) (lowF p (k - 1) + p.q) := by
  obtain ⟨m, rfl⟩ : ∃ m, k = m + 1 := ⟨k - 1, by omega⟩
  rfl
/-- with a step that may be held, the bound that the reference lays is none -/
theorem highF_at (p : Path) (W : Win p) (k : Nat) (h : 0 < k) (hk : k ≤ p.steps.length) (h0 : 0 ≤ highF p (k - 1)) : highF p k = min (highB p k) (highF p (k - 1) + most p (k - 1)) := by
  obtain ⟨m, rfl⟩ : ∃ m, k = m + 1 := ⟨k - 1, by omega⟩
  have h1 := W.high (m + 1) hk
  simp only [Nat.add_sub_cancel] at h0 ⊢
  simp only [highF, most]
  split <;> omega
theorem lo_at (p : Path) (W : Win p) (k : Nat) (hk : k < p.steps.length) (h2 : lo p (k + 1) ≤ 10000) : lo p k = max (lowF p k) (lo p (k + 1) - most p k) := by
  rw [lo_step p k hk]
  have h1 := lowF_0 p W k (by omega)
  unfold most
  split
  · omega
  · rfl
def spans (p : Path) : List Span := tab (p.steps.length + 1) fun k => ⟨lo p k, hi p k⟩
def spansR (p : Path) : List Span := if SpansOk p then spans p else []
def spansM (p : Path) : List Span := if Flies p then spans p else []
theorem spansM_no {p : Path} (h : ¬ Flies p) : spansM p = [] := if_neg h
theorem spansM_yes {p : Path} (h : Flies p) : spansM p = spans p := if_pos h
theorem spansR_no {p : Path} (h : ¬ SpansOk p) : spansR p = [] := if_neg h
theorem spansR_yes {p : Path} (h : SpansOk p) : spansR p = spans p := if_pos h
/-- what the list of spans reads in the first walk: k places are done, the others are nothing -/
def spF (p : Path) (k i : Nat) : Span := if i < k then ⟨lowF p i, highF p i⟩ else ⟨0, 0⟩
/-- in the walk back: the places from k on are done -/
def spB (p : Path) (k i : Nat) : Span := if k ≤ i then ⟨lo p i, hi p i⟩ else ⟨lowF p i, highF p i⟩
theorem tab_spB (p : Path) : tab (p.steps.length + 1) (fun j => (⟨lowF p j, highF p j⟩ : Span)) = tab (p.steps.length + 1) (spB p p.steps.length) := tab_congr fun i hi => by
  unfold spB
  split
  · obtain rfl : i = p.steps.length := by omega
    rw [lo_last, hi_last]
  · rfl
theorem spB_zero (p : Path) : tab (p.steps.length + 1) (spB p 0) = spans p := tab_congr fun i hi => by unfold spB; rw [if_pos (Nat.zero_le _)]
theorem spB_at (p : Path) (m i : Nat) (h : m ≤ i) : spB p m i = ⟨lo p i, hi p i⟩ := if_pos h
theorem spB_pre (p : Path) (m i : Nat) (h : i < m) : spB p m i = ⟨lowF p i, highF p i⟩ := if_neg (by omega)
/-- in the middle of a round of the walk back: the low end of place k is done -/
def spM (p : Path) (k i : Nat) : Span := if i = k then ⟨lo p k, highF p k⟩ else spB p (k + 1) i
theorem spM_at (p : Path) (k : Nat) : spM p k k = ⟨lo p k, highF p k⟩ := if_pos rfl
theorem spM_next (p : Path) (k : Nat) : spM p k (k + 1) = ⟨lo p (k + 1), hi p (k + 1)⟩ := by unfold spM; rw [if_neg (by omega), spB_at p _ _ (Nat.le_refl _)]
theorem spM_set (p : Path) (n k : Nat) (h : k < n) (x : Span) (hx : x = ⟨lo p k, highF p k⟩) : (tab n (spB p (k + 1))).set k x = tab n (spM p k) := tab_set h (by rw [spM_at, hx]) fun j hj _ => by unfold spM; rw [if_neg hj]
theorem spB_set (p : Path) (n k : Nat) (h : k < n) (x : Span) (hx : x = ⟨lo p k, hi p k⟩) : (tab n (spM p k)).set k x = tab n (spB p k) := tab_set h (by rw [spB_at p _ _ (Nat.le_refl _), hx]) fun j hj _ => by
  unfold spM; rw [if_neg hj]; unfold spB
  by_cases h1 : k ≤ j
  · rw [if_pos h1, if_pos (by omega)]
  · rw [if_neg h1, if_neg (by omega)]
def upd {α : Type} (f : Nat → α) (k : Nat) (v : α) (i : Nat) : α := if i = k then v else f i
theorem upd_same {α : Type} (f : Nat → α) (k : Nat) (v : α) : upd f k v k = v := if_pos rfl
theorem upd_ne {α : Type} (f : Nat → α) (k : Nat) (v : α) {i : Nat} (h : i ≠ k) : upd f k v i = f i := if_neg h
theorem tab_upd {α : Type} {n : Nat} (f : Nat → α) (k : Nat) (v : α) (h : k < n) : (tab n f).set k v = tab n (upd f k v) := tab_set h (upd_same f k v) fun j hj _ => upd_ne f k v hj
theorem upd_upd {α : Type} (f : Nat → α) (k : Nat) (u v : α) : upd (upd f k u) k v = upd f k v := by funext i; unfold upd; split <;> rfl
theorem spF_next (p : Path) (k : Nat) : upd (spF p k) k ⟨lowF p k, highF p k⟩ = spF p (k + 1) := by
  funext i; unfold upd spF
  by_cases h : i = k
  · subst h; simp
  · rw [if_neg h]
    by_cases h2 : i < k
    · rw [if_pos h2, if_pos (by omega)]
    · rw [if_neg h2, if_neg (by omega)]
theorem spF_at (p : Path) (k i : Nat) (h : i < k) : spF p k i = ⟨lowF p i, highF p i⟩ := if_pos h
theorem spF_all (p : Path) : tab (p.steps.length + 1) (spF p (p.steps.length + 1)) = tab (p.steps.length + 1) (spB p p.steps.length) := by
  rw [← tab_spB]; exact tab_congr fun i hi => spF_at p _ i hi
theorem spB_next (p : Path) (k : Nat) : upd (spB p (k + 1)) k ⟨lo p k, hi p k⟩ = spB p k := by
  funext i; unfold upd spB
  by_cases h : i = k
  · subst h; simp
  · rw [if_neg h]
    by_cases h2 : k ≤ i
    · rw [if_pos h2, if_pos (by omega)]
    · rw [if_neg h2, if_neg (by omega)]
theorem highF_hold (p : Path) (k : Nat) (h : 0 < k) (hh : (nth p.steps (k - 1)).hold = true) : highF p k = highB p k := by
  obtain ⟨m, rfl⟩ : ∃ m, k = m + 1 := ⟨k - 1, by omega⟩
  simp only [Nat.add_sub_cancel] at hh
  simp [highF, Path.at_, hh]
theorem highF_slow (p : Path) (k : Nat) (h : 0 < k) (hh : (nth p.steps (k - 1)).hold = false) : highF p k = min (highB p k) (highF p (k - 1) + p.s) := by
  obtain ⟨m, rfl⟩ : ∃ m, k = m + 1 := ⟨k - 1, by omega⟩
  simp only [Nat.add_sub_cancel] at hh
  simp [highF, Path.at_, hh]
theorem lo_hold (p : Path) (k : Nat) (h : k < p.steps.length) (hh : (nth p.steps k).hold = true) : lo p k = lowF p k := by
  rw [lo_step p k h]; simp [Path.at_, hh]
theorem lo_slow' (p : Path) (k : Nat) (h : k < p.steps.length) (hh : (nth p.steps k).hold = false) : lo p k = max (lowF p k) (lo p (k + 1) - p.s) := by
  rw [lo_step p k h]; simp [Path.at_, hh]
theorem PathOk.first {p : Path} (h : PathOk p) : lowF p 0 ≤ highF p 0 := by
  obtain ⟨_, ⟨h1, _⟩, _, _, _, h2⟩ := h
  have h3 : 0 < p.steps.length := by omega
  have h4 := (h2 0 h3).1
  obtain ⟨_, _, _, _, _, _, h5, _⟩ := h4
  simp only [lowF, highF, lowB, highB, if_pos h3]
  exact h5
end Go.Proofs.Ytpeojnknfonmlaa.LL

/- Rows of plain structs of the call's own: made, read, written, appended to; where nothing else is in sight. -/
set_option linter.unusedVariables false
set_option linter.unusedSimpArgs false
namespace Go.Proofs.Ytpeojnknfonmlaa
open Go.RowKit

/-- a kind of elements: so many cells, each one cell -/
structure EncOk {α : Type} (enc : α → List Value) (sz : Nat) : Prop where
  len : ∀ x, (enc x).length = sz
  one : ∀ x, ∀ u ∈ enc x, u.oneCell' = true
  pos : 0 < sz
theorem flat_get {α : Type} {enc : α → List Value} {sz : Nat} (E : EncOk enc sz) : ∀ (xs : List α) (i : Nat), (xs.flatMap enc)[i]? = (xs[i / sz]?).bind fun x => (enc x)[i % sz]?
  | [], i => by simp
  | x :: xs, i => by
    rw [List.flatMap_cons]
    have hp := E.pos
    by_cases hi : i < sz
    · rw [List.getElem?_append_left (by rw [E.len]; exact hi), Nat.div_eq_of_lt hi, Nat.mod_eq_of_lt hi]; rfl
    · have e1 : i / sz = (i - sz) / sz + 1 := by rw [Nat.div_eq_sub_div hp (by omega)]
      have e2 : i % sz = (i - sz) % sz := by rw [Nat.mod_eq_sub_mod (by omega)]
      rw [List.getElem?_append_right (by rw [E.len]; omega), E.len, flat_get E xs (i - sz), e1, e2]; rfl
theorem flat_len {α : Type} {enc : α → List Value} {sz : Nat} (E : EncOk enc sz) (xs : List α) : (xs.flatMap enc).length = xs.length * sz := by
  induction xs with
  | nil => simp
  | cons x xs ih => rw [List.flatMap_cons, List.length_append, ih, E.len, List.length_cons, Nat.succ_mul]; omega
theorem flat_at {α : Type} {enc : α → List Value} {sz : Nat} (E : EncOk enc sz) (xs : List α) (k j : Nat) (hj : j < sz) : (xs.flatMap enc)[k * sz + j]? = (xs[k]?).bind fun x => (enc x)[j]? := by
  rw [flat_get E, Nat.mul_comm, Nat.mul_add_div E.pos, Nat.mul_add_mod, Nat.div_eq_of_lt hj, Nat.mod_eq_of_lt hj]; rfl
def setMany (cs : List Value) : Nat → List Value → List Value
  | _, [] => cs
  | o, s :: r => setMany (cs.set o s) (o + 1) r
theorem setMany_len (cs : List Value) (o : Nat) (seg : List Value) : (setMany cs o seg).length = cs.length := by
  induction seg generalizing cs o with
  | nil => rfl
  | cons s r ih => rw [setMany, ih]; simp
theorem setMany_get (seg : List Value) : ∀ (cs : List Value) (o i : Nat), o + seg.length ≤ cs.length → (setMany cs o seg)[i]? = if o ≤ i ∧ i < o + seg.length then seg[i - o]? else cs[i]? := by
  induction seg with
  | nil => intro cs o i h; rw [setMany, if_neg (by simp only [List.length_nil]; omega)]
  | cons s r ih =>
    intro cs o i h
    simp only [List.length_cons] at h
    rw [setMany, ih _ _ _ (by rw [List.length_set]; omega), List.getElem?_set]
    simp only [List.length_cons]
    by_cases h1 : o + 1 ≤ i ∧ i < o + 1 + r.length
    · rw [if_pos h1, if_pos (by omega), show i - o = (i - (o + 1)) + 1 by omega]; rfl
    · rw [if_neg h1]
      by_cases h2 : o = i
      · subst h2
        rw [if_pos rfl, if_pos (by omega), if_pos (by omega), Nat.sub_self]; rfl
      · rw [if_neg h2, if_neg (by omega)]
theorem flat_setMany {α : Type} {enc : α → List Value} {sz : Nat} (E : EncOk enc sz) (xs : List α) (k j : Nat) (d x' : α) (seg : List Value) (hk : k < xs.length) (hj : j + seg.length ≤ sz)
    (hx : enc x' = (enc (xs.getD k d)).take j ++ seg ++ (enc (xs.getD k d)).drop (j + seg.length)) : setMany (xs.flatMap enc) (k * sz + j) seg = (xs.set k x').flatMap enc := by
  apply List.ext_getElem?
  intro i
  have hp := E.pos
  have hle : (k + 1) * sz ≤ xs.length * sz := Nat.mul_le_mul_right _ hk
  rw [Nat.succ_mul] at hle
  rw [setMany_get seg _ _ _ (by rw [flat_len E]; omega), flat_get E, flat_get E]
  have hd : xs[k]? = some (xs.getD k d) := by rw [List.getD_eq_getElem?_getD, List.getElem?_eq_getElem hk]; rfl
  have hL := E.len (xs.getD k d)
  have hi := Nat.div_add_mod i sz
  have hm := Nat.mod_lt i hp
  by_cases hki : k = i / sz
  · have hR : (xs.set k x')[i / sz]? = some x' := by rw [← hki, List.getElem?_set_self hk]
    rw [hR, ← hki, hd]
    simp only [Option.bind_some]
    rw [← hki, Nat.mul_comm] at hi
    rw [hx]
    by_cases c1 : k * sz + j ≤ i ∧ i < k * sz + j + seg.length
    · rw [if_pos c1, List.append_assoc, List.getElem?_append_right (by rw [List.length_take]; omega), List.length_take, hL, Nat.min_eq_left (by omega), List.getElem?_append_left (by omega)]
      congr 1; omega
    · rw [if_neg c1]
      by_cases c2 : i % sz < j
      · rw [List.append_assoc, List.getElem?_append_left (by rw [List.length_take]; omega), List.getElem?_take, if_pos c2]
      · rw [List.getElem?_append_right (by rw [List.length_append, List.length_take]; omega), List.length_append, List.length_take, hL, Nat.min_eq_left (by omega), List.getElem?_drop]
        congr 1; omega
  · rw [List.getElem?_set_ne hki, if_neg]
    intro c
    apply hki
    have a1 : k * sz ≤ i := by omega
    have a2 : i < (k + 1) * sz := by rw [Nat.succ_mul]; omega
    exact (Nat.div_eq_of_lt_le a1 a2).symm

theorem Blk.s {w : World} {g : Nat} {cs : Array Value} {t : TypeId} (h : Blk w g cs t) {p : Addr} (hne : g ≠ p.block) (u : Value) : Blk (w.setCell p u) g cs t := ⟨(Below.heap_setCell w p u g hne).trans h.at_⟩
theorem Blk.put {w : World} {g : Nat} {cs : Array Value} {t : TypeId} (h : Blk w g cs t) (i : Nat) (u : Value) : Blk (w.setCell ⟨g, i, none⟩ u) g (cs.setIfInBounds i u) t := ⟨by simp [World.setCell, Array.getElem?_modify, h.at_]⟩
/-- A row of the call's own. -/
structure Own {α : Type} (enc : α → List Value) (sz bytes e : Nat) (w : World) (v : Value) (xs : List α) : Prop where
  row : w.ownsRow 0 e sz v xs.length (xs.flatMap enc)
  room : xs.length * bytes ≤ 140737488351232
section
variable {α : Type} {enc : α → List Value} {sz bytes e : Nat} {w w1 : World} {v : Value} {xs : List α}
theorem Own.rd (h : Own enc sz bytes e w v xs) (E : EncOk enc sz) : ∃ A c, v = .slice A xs.length c ∧ Rd enc sz bytes w A xs.length c xs := by
  rcases h.row.2 with ⟨rfl, h0⟩ | ⟨g, cap, cur, rfl, _, hh, hn, _, _, _⟩
  · exact ⟨none, 0, by rw [h0], ⟨rfl, by omega, h.room, fun hn => by omega⟩⟩
  · refine ⟨_, cap, rfl, ⟨rfl, hn, h.room, fun h0 => ⟨g, 0, rfl, (Array.getElem?_eq_some_iff.1 hh).1, fun i x hi j u hu => ?_⟩⟩⟩
    have hj : j < sz := by rw [← E.len x]; exact (List.getElem?_eq_some_iff.1 hu).1
    have hil := (List.getElem?_eq_some_iff.1 hi).1
    have hle : (i + 1) * sz ≤ xs.length * sz := Nat.mul_le_mul_right _ hil
    rw [Nat.succ_mul] at hle
    rw [Nat.zero_add, World.ownsRow.cellAt h.row _ (by omega), flat_at E _ _ _ hj, hi]
    exact hu
theorem Own.move (h : Own enc sz bytes e w v xs) (hm : ∀ k, v.ownBlock = some k → w1.heap[k]? = w.heap[k]?) : Own enc sz bytes e w1 v xs := by
  refine ⟨⟨h.row.1, ?_⟩, h.room⟩
  rcases h.row.2 with h2 | ⟨g, cap, cur, rfl, hg, hh, r⟩
  · exact .inl h2
  · exact .inr ⟨g, cap, cur, rfl, hg, (hm g rfl).trans hh, r⟩
theorem Own.b (h : Own enc sz bytes e w v xs) (hb : Below w.heap.size w w1) : Own enc sz bytes e w1 v xs := h.move fun k hk => hb.block k (h.row.lt k hk).2
theorem Own.a (h : Own enc sz bytes e w v xs) (o : Obj) : Own enc sz bytes e (w.alloc o) v xs := h.b (b_alloc (Below.refl _ _) o)
theorem Own.d (h : Own enc sz bytes e w v xs) : Own enc sz bytes e w.drew v xs := ⟨h.row, h.room⟩
theorem Own.dN (h : Own enc sz bytes e w v xs) (n : Nat) : Own enc sz bytes e (w.drewN n) v xs := ⟨h.row, h.room⟩
theorem Own.s (h : Own enc sz bytes e w v xs) {p : Addr} (u : Value) (hne : ∀ k, v.ownBlock = some k → k ≠ p.block) : Own enc sz bytes e (w.setCell p u) v xs := h.move fun k hk => Below.heap_setCell w p u k (hne k hk)
theorem Own.grown (h : Own enc sz bytes e w v xs) {row : Option Nat} (hg : w.grownBy w1 row) (hne : v.ownBlock = none ∨ v.ownBlock ≠ row) : Own enc sz bytes e w1 v xs := ⟨h.row.kept hg hne, h.room⟩
end
theorem ownsRow_setCells {base e size g n cap : Nat} (seg : List Value) : ∀ {w : World} {xs : List Value} (o : Nat), w.ownsRow base e size (.slice (some ⟨g, 0, none⟩) n cap) n xs →
    (w.setCells g o seg).ownsRow base e size (.slice (some ⟨g, 0, none⟩) n cap) n (setMany xs o seg) ∧ w.grownBy (w.setCells g o seg) (some g) := by
  induction seg with
  | nil => intro w xs o h; exact ⟨h, World.grownBy.refl _ _⟩
  | cons s r ih =>
    intro w xs o h
    obtain ⟨h1, h2⟩ := h.stored o s
    obtain ⟨h3, h4⟩ := ih (o + 1) h1
    exact ⟨h3, World.grownBy.trans h2 h4⟩

section
variable {P : Program} {ops : Array Oper} {rest : List Oper} {o : Oper} {a : Act} {Q : Exit → Act → World → Prop} {W : World} {α : Type} {enc : α → List Value} {sz bytes e : Nat}
/-- out[i] = x, out[i].f = y: the cells from j on of element k are written. -/
theorem wp_store (T p : Nat) (x : Operand) (hN : o.dst = none) (hgd : o.guard = none) (ho : o.op = .store T (.tmp p) x) (E : EncOk enc sz) {g n cap off : Nat} {xs : List α} (hn : xs.length = n) (k j : Nat) (x' d : α) (u : Value) (seg : List Value)
    (ha : a.eval (.tmp p) = .pointer (some ⟨g, off, none⟩)) (hoff : off = k * sz + j) (hx : a.eval x = u) (hu : u.cells.toList = seg) (ht : (P.info? T).map (·.size) = some seg.length) (h1 : ∀ q ∈ seg, q.oneCell' = true)
    (HO : Own enc sz bytes e W (.slice (some ⟨g, 0, none⟩) n cap) xs) (hk : k < n) (hj : j + seg.length ≤ sz) (hx' : enc x' = (enc (xs.getD k d)).take j ++ seg ++ (enc (xs.getD k d)).drop (j + seg.length))
    (h : ∀ w1, Own enc sz bytes e w1 (.slice (some ⟨g, 0, none⟩) n cap) (xs.set k x') → W.grownBy w1 (some g) → wpList P ops Q rest a w1) : wpList P ops Q (o :: rest) a W := by
  subst hn
  subst hoff
  obtain ⟨hrow, hg⟩ := ownsRow_setCells seg (k * sz + j) HO.row
  rw [flat_setMany E xs k j d x' seg hk hj hx'] at hrow
  have hO : Own enc sz bytes e (W.setCells g (k * sz + j) seg) (.slice (some ⟨g, 0, none⟩) xs.length cap) (xs.set k x') := ⟨by rw [List.length_set]; exact hrow, by rw [List.length_set]; exact HO.room⟩
  refine wpList_plain hgd fun K hK => ?_
  have hrun : (Instr.storeAt T (.pointer (some ⟨g, k * sz + j, none⟩)) u).run P W = .ok () (W.setCells g (k * sz + j) seg) := by
    rcases HO.row.2 with ⟨hv, _⟩ | ⟨g', cap', cur, hv, hb, hh, hnc, hcm, hcs, _⟩
    · cases hv
    cases hv
    obtain ⟨i, hi, hsz⟩ := Option.map_eq_some_iff.1 ht
    have hc : u.cells.size = i.size := by rw [hsz, ← hu, Array.length_toList]
    have h2 : k * sz + sz ≤ xs.length * sz := by rw [← Nat.succ_mul]; exact Nat.mul_le_mul_right _ hk
    have h3 : xs.length * sz ≤ cap * sz := Nat.mul_le_mul_right _ hnc
    have hst := run_storeCells_cells (P := P) g (k * sz + j) seg 0 W (fun q hq => by rw [cell_of_row W g _ cur e (0, 0) hh]; simp; omega) (fun q _ => by simp [World.frozen?, hh]) h1
    simp only [Nat.add_zero] at hst
    simp [Instr.storeAt, Instr.sureAddr, storeVar, sizeOf, typeInfo, hi, hc, hu, hst]
  unfold Oper.wp execOp
  simp only [ho, ha, hx, Sem.run_bind, Sem.run_pure, Result.andThen_ok, hrun]
  show K (a.put o.dst undef) _
  rw [hN]
  exact hK a _ (h _ hO hg)
theorem gate_st (T p : Nat) {x : Operand} (_ho : o.op = .store T (.tmp p) x) (h : wpList P ops Q (o :: rest) a W) : wpList P ops Q (o :: rest) a W := h
/-- out[i] = x: the whole element. -/
theorem wp_put (T p : Nat) (x : Operand) (hN : o.dst = none) (hgd : o.guard = none) (ho : o.op = .store T (.tmp p) x) (E : EncOk enc sz) {g n cap off : Nat} {xs : List α} (hn : xs.length = n) (k : Nat) (x' : α) (u : Value)
    (ha : a.eval (.tmp p) = .pointer (some ⟨g, off, none⟩)) (hoff : off = k * sz) (hx : a.eval x = u) (hu : u.cells.toList = enc x') (ht : (P.info? T).map (·.size) = some sz)
    (HO : Own enc sz bytes e W (.slice (some ⟨g, 0, none⟩) n cap) xs) (hk : k < n)
    (h : ∀ w1, Own enc sz bytes e w1 (.slice (some ⟨g, 0, none⟩) n cap) (xs.set k x') → W.grownBy w1 (some g) → wpList P ops Q rest a w1) : wpList P ops Q (o :: rest) a W :=
  wp_store T p x hN hgd ho E hn k 0 x' x' u (enc x') ha (by rw [hoff]; rfl) hx hu (by rw [E.len]; exact ht) (E.one x') HO hk (by rw [E.len]; omega)
    (by rw [List.take_zero, List.nil_append, List.drop_eq_nil_of_le (by rw [E.len, E.len]; omega), List.append_nil]) h
/-- make([]T, n) -/
theorem wp_make (hgd : o.guard = none) (l c : Operand) (t : TypeId) (ho : o.op = .makeSlice t l c) (E : EncOk enc sz) (z : Value) (x0 : α) (ht : P.underlying t = some (.slice e)) (hinfo : (P.info? e).map (fun i => (i.zero, i.size, i.bytes)) = some (some z, sz, bytes)) (hz : z.cells.toList = enc x0)
    (n : Nat) (hl : a.eval l = .int .i64 (n : Int)) (hc : a.eval c = .int .i64 (n : Int)) (hr : n * bytes ≤ 140737488351232) (hb0 : 0 < bytes)
    (h : ∀ g w1, g = W.heap.size → Own enc sz bytes e w1 (.slice (some ⟨g, 0, none⟩) n n) (List.replicate n x0) → Below W.heap.size W w1 → g < w1.heap.size → wpList P ops Q rest (a.put o.dst (.slice (some ⟨g, 0, none⟩) n n)) w1) : wpList P ops Q (o :: rest) a W := by
  obtain ⟨i, hi, h1, h2, h3⟩ := info_parts hinfo
  have hn : n ≤ 140737488351232 := Nat.le_trans (Nat.le_mul_of_pos_right _ hb0) hr
  refine wpList_make_full W hgd l c t ho 0 e i z sz ht hi h1 h2 .i64 .i64 n n n hl hc rfl rfl (by rw [h3, Nat.mul_comm]; omega) (by simp only [maxLen]; omega) (Nat.zero_le _) ?_
  intro w1 hrow hg
  have hzz : (madeCells z.cells (n * sz)).toList = (List.replicate n x0).flatMap enc := by
    have hzl : z.cells.size = sz := by rw [← Array.length_toList, hz, E.len]
    apply List.ext_getElem?
    intro j
    rw [flat_get E]
    have hp := E.pos
    by_cases hj : j < n * sz
    · have hq : j / sz < n := Nat.div_lt_of_lt_mul (by rw [Nat.mul_comm]; exact hj)
      have hm := Nat.mod_lt j hp
      rw [List.getElem?_replicate, if_pos hq]
      simp only [Option.bind_some]
      rw [← hz]
      simp [madeCells, hj, hzl, hm]
    · have hq : ¬ j / sz < n := fun h => hj (by have := (Nat.div_lt_iff_lt_mul hp).1 h; omega)
      rw [List.getElem?_replicate, if_neg hq]
      simp [madeCells]; omega
  rw [hzz] at hrow
  have hO : Own enc sz bytes e w1 (.slice (some ⟨W.heap.size, 0, none⟩) n n) (List.replicate n x0) := ⟨by rw [List.length_replicate]; exact hrow, by rw [List.length_replicate]; exact hr⟩
  refine h _ w1 rfl hO ⟨hg.os, hg.tape, hg.output, hg.size, fun k hk => hg.block k hk (by simp)⟩ ?_
  exact (hrow.lt _ rfl).2
end
/-- a call has made a row: its value, its memory -/
def Mk {α : Type} (enc : α → List Value) (sz bytes e : Nat) (w : World) (xs : List α) (en : Ending) (w' : World) : Prop := ∃ v, en = .returned v ∧ Own enc sz bytes e w' v xs ∧ (∀ k, v.ownBlock = some k → w.heap.size ≤ k) ∧ Below w.heap.size w w'
theorem b_grown {w W w1 : World} {g : Nat} (h : Below w.heap.size w W) (hg : W.grownBy w1 (some g)) (hge : w.heap.size ≤ g) : Below w.heap.size w w1 := h.grown hg h.size (fun k hk => by cases hk; exact hge)
/-- the first k are there, the others are zero -/
def upto {α : Type} (d : α) (xs : List α) (k : Nat) : List α := xs.take k ++ List.replicate (xs.length - k) d
theorem upto_len {α : Type} (d : α) (xs : List α) (k : Nat) (hk : k ≤ xs.length) : (upto d xs k).length = xs.length := by simp [upto]; omega
theorem upto_zero {α : Type} (d : α) (xs : List α) : upto d xs 0 = List.replicate xs.length d := by simp [upto]
theorem upto_all {α : Type} (d : α) (xs : List α) : upto d xs xs.length = xs := by simp [upto]
theorem upto_set {α : Type} (d : α) (xs : List α) (k : Nat) (hk : k < xs.length) : (upto d xs k).set k (xs.getD k d) = upto d xs (k + 1) := by
  have hd : xs[k]? = some (xs.getD k d) := by rw [List.getD_eq_getElem?_getD, List.getElem?_eq_getElem hk]; rfl
  unfold upto
  apply List.ext_getElem?
  intro i
  rw [List.getElem?_set]
  by_cases hki : k = i
  · subst hki
    rw [if_pos rfl, if_pos (by simp; omega), List.getElem?_append_left (by simp; omega), List.getElem?_take, if_pos (by omega), hd]
  · rw [if_neg hki]
    by_cases hlt : i < k
    · rw [List.getElem?_append_left (by simp; omega), List.getElem?_append_left (by simp; omega), List.getElem?_take, List.getElem?_take, if_pos hlt, if_pos (by omega)]
    · rw [List.getElem?_append_right (by simp; omega), List.getElem?_append_right (by simp; omega), List.getElem?_replicate, List.getElem?_replicate]
      simp only [List.length_take]
      by_cases h2 : i < xs.length
      · rw [if_pos (by omega), if_pos (by omega)]
      · rw [if_neg (by omega), if_neg (by omega)]
theorem stepE : EncOk stepC 7 := ⟨fun _ => rfl, fun x u hu => by simp [stepC] at hu; rcases hu with h | h | h | h | h | h | h <;> subst h <;> rfl, by decide⟩
theorem boxE : EncOk boxC 6 := ⟨fun _ => rfl, fun x u hu => by simp [boxC] at hu; rcases hu with h | h | h | h | h | h <;> subst h <;> rfl, by decide⟩
def intC (x : Int) : List Value := [.int .i64 x]
theorem intE : EncOk intC 1 := ⟨fun _ => rfl, fun x u hu => by simp [intC] at hu; subst hu; rfl, by decide⟩
end Go.Proofs.Ytpeojnknfonmlaa

/- Struct results: cells that lie in a block of the call's own. -/
set_option linter.unusedVariables false
set_option linter.unusedSimpArgs false
namespace Go.Proofs.Ytpeojnknfonmlaa
open Go.RowKit
/-- from cell o of block g on the cells cs lie -/
def CellsAt (w : World) (g : Nat) : Nat → List Value → Prop
  | _, [] => True
  | o, c :: cs => w.cell? ⟨g, o, none⟩ = some c ∧ CellsAt w g (o + 1) cs
theorem CellsAt.get {w : World} {g : Nat} : ∀ {cs : List Value} {o : Nat}, CellsAt w g o cs → ∀ j v, cs[j]? = some v → w.cell? ⟨g, o + j, none⟩ = some v
  | c :: cs, o, h, 0, v, hv => by simp at hv; subst hv; exact h.1
  | c :: cs, o, h, j + 1, v, hv => by
    have := h.2.get j v (by simpa using hv)
    rwa [show o + (j + 1) = o + 1 + j by omega]
theorem CellsAt.mk {w : World} {g : Nat} : ∀ {cs : List Value} {o : Nat}, (∀ j v, cs[j]? = some v → w.cell? ⟨g, o + j, none⟩ = some v) → CellsAt w g o cs
  | [], _, _ => trivial
  | c :: cs, o, h => ⟨h 0 c rfl, CellsAt.mk fun j v hv => by have := h (j + 1) v (by simpa using hv); rwa [show o + (j + 1) = o + 1 + j by omega] at this⟩
theorem addr_add (g o j : Nat) : (⟨g, o, none⟩ : Addr).add j = ⟨g, o + j, none⟩ := by unfold Addr.add; split <;> simp_all
section
variable {P : Program} {w : World}
theorem run_loadVar_cells {g : Nat} {ty : TypeId} {cs : List Value} {d : TypeDesc} (hc : CellsAt w g 0 cs) (hu : P.underlying ty = some d) (hd : (match d with | .struct _ | .array _ _ => true | _ => false) = true)
    (hi : (P.info? ty).map (·.size) = some cs.length) : (loadVar ty ⟨g, 0, none⟩).run P w = .ok (.agg cs.toArray) w := by
  have hl := run_loadCells_list (P := P) (w := w) ⟨g, 0, none⟩ cs (fun j v hv => by have := hc.get j v hv; rw [Nat.zero_add] at this; rw [addr_add]; simpa using this)
  obtain ⟨i, hi1, hi2⟩ := Option.map_eq_some_iff.1 hi
  have hagg : (isAgg ty).run P w = .ok true w := by
    unfold isAgg
    rw [Sem.run_bind, run_underlying hu w]
    cases d <;> simp_all
  simp [loadVar, Sem.run_bind, hagg, sizeOf, typeInfo, hi1, hi2, hl]
theorem res_c {fn : Func} {p : Tmp} {ty : TypeId} (h : fn.results = #[.cell p ty]) (tmps : Array Value) {g : Nat} (cs : List Value) (hp : tmps.getD p undef = .pointer (some ⟨g, 0, none⟩)) (d : TypeDesc) (hu : P.underlying ty = some d)
    (hd : (match d with | .struct _ | .array _ _ => true | _ => false) = true) (hi : (P.info? ty).map (·.size) = some cs.length) (hc : CellsAt w g 0 cs) : (results fn tmps).run P w = .ok (.agg cs.toArray) w := by
  have hp' : tmps[p]?.getD undef = .pointer (some ⟨g, 0, none⟩) := by simpa using hp
  simp [results, h, hp', asAddr, run_loadVar_cells hc hu hd hi]
theorem res_ct {fn : Func} {p u : Tmp} {ty : TypeId} (h : fn.results = #[.cell p ty, .tmp u]) (tmps : Array Value) {g : Nat} (cs : List Value) (hp : tmps.getD p undef = .pointer (some ⟨g, 0, none⟩)) (v : Value) (hv : tmps.getD u undef = v) (d : TypeDesc) (hu : P.underlying ty = some d)
    (hd : (match d with | .struct _ | .array _ _ => true | _ => false) = true) (hi : (P.info? ty).map (·.size) = some cs.length) (hc : CellsAt w g 0 cs) : (results fn tmps).run P w = .ok (.tuple #[.agg cs.toArray, v]) w := by
  have hp' : tmps[p]?.getD undef = .pointer (some ⟨g, 0, none⟩) := by simpa using hp
  have hv' : tmps[u]?.getD undef = v := by simpa using hv
  simp [results, h, hp', hv', asAddr, run_loadVar_cells hc hu hd hi]
theorem res_cct {fn : Func} {p p2 u : Tmp} {ty ty2 : TypeId} (h : fn.results = #[.cell p ty, .cell p2 ty2, .tmp u]) (tmps : Array Value) {g g2 : Nat} (cs cs2 : List Value) (hp : tmps.getD p undef = .pointer (some ⟨g, 0, none⟩)) (hp2 : tmps.getD p2 undef = .pointer (some ⟨g2, 0, none⟩))
    (v : Value) (hv : tmps.getD u undef = v) (d d2 : TypeDesc) (hu : P.underlying ty = some d) (hu2 : P.underlying ty2 = some d2)
    (hd : (match d with | .struct _ | .array _ _ => true | _ => false) = true) (hd2 : (match d2 with | .struct _ | .array _ _ => true | _ => false) = true) (hi : (P.info? ty).map (·.size) = some cs.length) (hi2 : (P.info? ty2).map (·.size) = some cs2.length)
    (hc : CellsAt w g 0 cs) (hc2 : CellsAt w g2 0 cs2) : (results fn tmps).run P w = .ok (.tuple #[.agg cs.toArray, .agg cs2.toArray, v]) w := by
  have hp' : tmps[p]?.getD undef = .pointer (some ⟨g, 0, none⟩) := by simpa using hp
  have hp2' : tmps[p2]?.getD undef = .pointer (some ⟨g2, 0, none⟩) := by simpa using hp2
  have hv' : tmps[u]?.getD undef = v := by simpa using hv
  simp [results, h, hp', hp2', hv', asAddr, run_loadVar_cells hc hu hd hi, run_loadVar_cells hc2 hu2 hd2 hi2]
end
section
variable {P : Program} {ops : Array Oper} {rest : List Oper} {o : Oper} {a : Act} {Q : Exit → Act → World → Prop} {W : World} {α : Type} {enc : α → List Value} {sz bytes e : Nat}
theorem Rd.flat {w : World} {b off n c : Nat} {xs : List α} (h : Rd enc sz bytes w (some ⟨b, off, none⟩) n c xs) (E : EncOk enc sz) (j : Nat) (u : Value) (hu : (xs.flatMap enc)[j]? = some u) : w.cell? ⟨b, off + j, none⟩ = some u := by
  rw [flat_get E] at hu
  obtain ⟨x, hx, hu⟩ := Option.bind_eq_some_iff.1 hu
  have hlt := (List.getElem?_eq_some_iff.1 hx).1
  have hn : 0 < n := by rw [← h.len]; exact Nat.lt_of_le_of_lt (Nat.zero_le _) hlt
  obtain ⟨b', off', e1, _, hc⟩ := h.at_ hn
  cases e1
  have := hc _ x hx _ u hu
  rwa [Nat.add_assoc, Nat.mul_comm, Nat.div_add_mod] at this
/-- append(s, x...): what lies at x is laid behind s. -/
theorem wp_app (hgd : o.guard = none) (s x : Operand) (t : TypeId) (ho : o.op = .call { callee := .builtin .append, args := #[s, x], argTypes := #[t, t] }) (E : EncOk enc sz) (z : Value) (ht : P.underlying t = some (.slice e))
    (hinfo : (P.info? e).map (fun i => (i.zero, i.size, i.bytes)) = some (some z, sz, bytes)) (hz : z.cells.size = sz) (hb0 : 0 < bytes) {v : Value} {xs ys : List α} (hs : a.eval s = v) (HO : Own enc sz bytes e W v xs) {b off m c : Nat} (hx : a.eval x = .slice (some ⟨b, off, none⟩) m c)
    (hR : Rd enc sz bytes W (some ⟨b, off, none⟩) m c ys) (hr : (xs.length + m) * bytes ≤ 140737488351232)
    (h : ∀ v' w1, Own enc sz bytes e w1 v' (xs ++ ys) → W.grownBy w1 v.ownBlock → (v'.ownBlock = v.ownBlock ∨ v'.ownBlock = some W.heap.size) → wpList P ops Q rest (a.put o.dst v') w1) : wpList P ops Q (o :: rest) a W := by
  obtain ⟨i, hi, h1, h2, h3⟩ := info_parts hinfo
  have hn : xs.length + m ≤ 140737488351232 := Nat.le_trans (Nat.le_mul_of_pos_right _ hb0) hr
  have hl := hR.len
  refine wpList_append_own_at W hgd s x t ho 0 e i z sz bytes ht hi h1 h2 h3 hz E.pos v xs.length (xs.flatMap enc) hs HO.row ⟨b, off, none⟩ m c (ys.flatMap enc) hx (by rw [flat_len E, hl]) (fun j u hu => by rw [addr_add]; exact hR.flat E j u hu)
    (fun u hu => by obtain ⟨y, _, hy⟩ := List.mem_flatMap.1 hu; exact E.one y u hy) (by simp only [maxLen]; omega) (by omega) (Nat.zero_le _) ?_
  intro v' w' hrow hg _ hat
  refine h v' w' ⟨?_, ?_⟩ hg hat
  · rw [List.length_append, List.flatMap_append, hl]; exact hrow
  · rw [List.length_append, hl]; exact hr
theorem Rd.one {w : World} {g : Nat} {t : TypeId} {x : α} {cs : Array Value} (h : Blk w g cs t) (hc : cs.toList = enc x) (hb : bytes ≤ 140737488351232) : Rd enc sz bytes w (some ⟨g, 0, none⟩) 1 1 [x] where
  len := rfl
  cap := Nat.le_refl _
  room := by omega
  at_ _ := by
    refine ⟨g, 0, rfl, h.cells.2.2, fun i y hy j u hu => ?_⟩
    match i, hy with
    | 0, hy =>
      simp at hy
      subst hy
      rw [h.cells.1, ← Array.getElem?_toList, hc]
      simpa using hu
end
end Go.Proofs.Ytpeojnknfonmlaa
