/- Plain mathematics of the flying part: models of the program's data, what each function decides, and the laws of spans. No program in sight. -/
set_option linter.unusedVariables false
namespace Go.Proofs.Ytkpnjnkfbhomgaa.LL

structure Step where
  x : Int
  y : Int
  lo : Int
  hi : Int
  fr : Int
  by_ : Int
  hold : Bool

structure Path where
  q : Int
  s : Int
  steps : List Step
  fr : Int
  by_ : Int

structure Box where
  x : Int
  y : Int
  lo : Int
  hi : Int
  i : Int
  o : Int

structure Span where
  lo : Int
  hi : Int

def In (n lo hi : Int) : Prop := lo ≤ n ∧ n ≤ hi
instance (n lo hi : Int) : Decidable (In n lo hi) := inferInstanceAs (Decidable (_ ∧ _))

def KindOk (q s : Int) : Prop := 1 ≤ q ∧ q ≤ s ∧ s ≤ 50
instance (q s : Int) : Decidable (KindOk q s) := inferInstanceAs (Decidable (_ ∧ _))

def StepOk (s : Step) : Prop := In s.x 0 15 ∧ In s.y 0 15 ∧ 0 ≤ s.lo ∧ s.lo ≤ s.hi ∧ s.hi ≤ 6 ∧ 0 ≤ s.fr ∧ s.fr ≤ s.by_ ∧ s.by_ ≤ 10000
instance (s : Step) : Decidable (StepOk s) := inferInstanceAs (Decidable (_ ∧ _))

def NextOk (a b : Step) : Prop := ¬ (a.x = b.x ∧ a.y = b.y) ∧ In (b.x - a.x) (-1) 1 ∧ In (b.y - a.y) (-1) 1 ∧ a.lo ≤ b.hi ∧ b.lo ≤ a.hi
instance (a b : Step) : Decidable (NextOk a b) := inferInstanceAs (Decidable (_ ∧ _))

def z0 : Step := ⟨0, 0, 0, 0, 0, 0, false⟩
/-- the step at a place -/
def nth (l : List Step) (i : Nat) : Step := l.getD i z0
def Path.at_ (p : Path) (i : Nat) : Step := nth p.steps i
/-- what is asked of the step at a place -/
def StepGood (l : List Step) (i : Nat) : Prop := StepOk (nth l i) ∧ (0 < i → NextOk (nth l (i - 1)) (nth l i))
instance (l : List Step) (i : Nat) : Decidable (StepGood l i) := inferInstanceAs (Decidable (_ ∧ _))

def PathOk (p : Path) : Prop :=
  KindOk p.q p.s ∧ In (p.steps.length : Int) 1 40 ∧ 0 ≤ p.fr ∧ p.fr ≤ p.by_ ∧ p.by_ ≤ 10000 ∧ ∀ i, i < p.steps.length → StepGood p.steps i
instance (p : Path) : Decidable (PathOk p) := inferInstanceAs (Decidable (_ ∧ _))

/-! ### bounds and spans by places -/
def lowB (p : Path) (k : Nat) : Int := if k < p.steps.length then (p.at_ k).fr else p.fr
def highB (p : Path) (k : Nat) : Int := if k < p.steps.length then (p.at_ k).by_ else p.by_
/-- the first walk: what can be reached at all -/
def lowF (p : Path) : Nat → Int
  | 0 => lowB p 0
  | k + 1 => max (lowB p (k + 1)) (lowF p k + p.q)
def highF (p : Path) : Nat → Int
  | 0 => highB p 0
  | k + 1 => if (p.at_ k).hold then highB p (k + 1) else min (highB p (k + 1)) (highF p k + p.s)
/-- the walk back; m: how many places from the end -/
def highG (p : Path) : Nat → Int
  | 0 => highF p p.steps.length
  | m + 1 => min (highF p (p.steps.length - (m + 1))) (highG p m - p.q)
def lowG (p : Path) : Nat → Int
  | 0 => lowF p p.steps.length
  | m + 1 => if (p.at_ (p.steps.length - (m + 1))).hold then lowF p (p.steps.length - (m + 1)) else max (lowF p (p.steps.length - (m + 1))) (lowG p m - p.s)
def lo (p : Path) (k : Nat) : Int := lowG p (p.steps.length - k)
def hi (p : Path) (k : Nat) : Int := highG p (p.steps.length - k)
/-- both walks meet nothing empty -/
def SpansOk (p : Path) : Prop := (∀ k, k ≤ p.steps.length → lowF p k ≤ highF p k) ∧ ∀ k, k ≤ p.steps.length → lo p k ≤ hi p k

/-- A flight along a path's windows (whether the path is ok or not). -/
structure Flight (p : Path) (f : Nat → Int) : Prop where
  low : ∀ k, k ≤ p.steps.length → lowB p k ≤ f k
  high : ∀ k, k ≤ p.steps.length → f k ≤ highB p k
  quick : ∀ k, k < p.steps.length → f k + p.q ≤ f (k + 1)
  slow : ∀ k, k < p.steps.length → (p.at_ k).hold = false → f (k + 1) ≤ f k + p.s

theorem Flight.F {p : Path} {f : Nat → Int} (h : Flight p f) : ∀ k, k ≤ p.steps.length → lowF p k ≤ f k ∧ f k ≤ highF p k
  | 0, hk => ⟨h.low 0 hk, h.high 0 hk⟩
  | k + 1, hk => by
    have ⟨a, b⟩ := h.F k (by omega)
    have q := h.quick k (by omega)
    have l := h.low (k + 1) hk
    have u := h.high (k + 1) hk
    refine ⟨?_, ?_⟩
    · simp only [lowF]; omega
    · simp only [highF]
      split
      · exact u
      · rename_i hh
        have s := h.slow k (by omega) (by simpa using hh)
        omega

theorem Flight.G {p : Path} {f : Nat → Int} (h : Flight p f) : ∀ m, m ≤ p.steps.length → lowG p m ≤ f (p.steps.length - m) ∧ f (p.steps.length - m) ≤ highG p m
  | 0, _ => h.F _ (Nat.le_refl _)
  | m + 1, hm => by
    have ⟨a, b⟩ := h.G m (by omega)
    have ⟨c, d⟩ := h.F (p.steps.length - (m + 1)) (by omega)
    have q := h.quick (p.steps.length - (m + 1)) (by omega)
    have e : p.steps.length - (m + 1) + 1 = p.steps.length - m := by omega
    rw [e] at q
    refine ⟨?_, ?_⟩
    · simp only [lowG]
      split
      · exact c
      · rename_i hh
        have s := h.slow (p.steps.length - (m + 1)) (by omega) (by simpa using hh)
        rw [e] at s
        omega
    · simp only [highG]; omega

/-- Each tick of any flight lies in the spans. -/
theorem Flight.in_ {p : Path} {f : Nat → Int} (h : Flight p f) (k : Nat) (hk : k ≤ p.steps.length) : lo p k ≤ f k ∧ f k ≤ hi p k := by
  have := h.G (p.steps.length - k) (by omega)
  rwa [show p.steps.length - (p.steps.length - k) = k by omega] at this

theorem Flight.spans {p : Path} {f : Nat → Int} (h : Flight p f) : SpansOk p :=
  ⟨fun k hk => by have := h.F k hk; omega, fun k hk => by have := h.in_ k hk; omega⟩

/-! ### the spans are flights, and tight -/
theorem lo_last (p : Path) : lo p p.steps.length = lowF p p.steps.length := by simp [lo, lowG]
theorem hi_last (p : Path) : hi p p.steps.length = highF p p.steps.length := by simp [hi, highG]
theorem lo_step (p : Path) (k : Nat) (hk : k < p.steps.length) : lo p k = if (p.at_ k).hold then lowF p k else max (lowF p k) (lo p (k + 1) - p.s) := by
  unfold lo
  obtain ⟨m, hm⟩ : ∃ m, p.steps.length - k = m + 1 := ⟨p.steps.length - k - 1, by omega⟩
  have e : p.steps.length - (k + 1) = m := by omega
  have e2 : p.steps.length - (m + 1) = k := by omega
  rw [hm, e]
  simp only [lowG, e2]
theorem hi_step (p : Path) (k : Nat) (hk : k < p.steps.length) : hi p k = min (highF p k) (hi p (k + 1) - p.q) := by
  unfold hi
  obtain ⟨m, hm⟩ : ∃ m, p.steps.length - k = m + 1 := ⟨p.steps.length - k - 1, by omega⟩
  have e : p.steps.length - (k + 1) = m := by omega
  have e2 : p.steps.length - (m + 1) = k := by omega
  rw [hm, e]
  simp only [highG, e2]

theorem lowF_le_lo (p : Path) (k : Nat) (hk : k ≤ p.steps.length) : lowF p k ≤ lo p k := by
  rcases Nat.lt_or_ge k p.steps.length with h | h
  · rw [lo_step p k h]; split <;> omega
  · have : k = p.steps.length := by omega
    subst this; rw [lo_last]; exact Int.le_refl _
theorem hi_le_highF (p : Path) (k : Nat) (hk : k ≤ p.steps.length) : hi p k ≤ highF p k := by
  rcases Nat.lt_or_ge k p.steps.length with h | h
  · rw [hi_step p k h]; omega
  · have : k = p.steps.length := by omega
    subst this; rw [hi_last]; exact Int.le_refl _
theorem lowB_le_lowF (p : Path) (k : Nat) : lowB p k ≤ lowF p k := by cases k <;> simp only [lowF] <;> omega
theorem highF_le_highB (p : Path) (k : Nat) : highF p k ≤ highB p k := by
  cases k with
  | zero => simp only [highF]; omega
  | succ k => simp only [highF]; split <;> omega

theorem lo_quick {p : Path} (hqs : p.q ≤ p.s) (k : Nat) (hk : k < p.steps.length) : lo p k + p.q ≤ lo p (k + 1) := by
  have h1 := lowF_le_lo p (k + 1) hk
  have h2 : lowF p k + p.q ≤ lowF p (k + 1) := by simp only [lowF]; omega
  rw [lo_step p k hk]
  split <;> omega
theorem lo_slow {p : Path} (k : Nat) (hk : k < p.steps.length) (hh : (p.at_ k).hold = false) : lo p (k + 1) ≤ lo p k + p.s := by
  rw [lo_step p k hk, if_neg (by simp [hh])]; omega
theorem hi_quick {p : Path} (k : Nat) (hk : k < p.steps.length) : hi p k + p.q ≤ hi p (k + 1) := by
  rw [hi_step p k hk]; omega
theorem hi_slow {p : Path} (hqs : p.q ≤ p.s) (k : Nat) (hk : k < p.steps.length) (hh : (p.at_ k).hold = false) : hi p (k + 1) ≤ hi p k + p.s := by
  have h1 := hi_le_highF p (k + 1) hk
  have h2 : highF p (k + 1) ≤ highF p k + p.s := by simp only [highF]; rw [if_neg (by simp [hh])]; omega
  rw [hi_step p k hk]
  omega

theorem flight_lo {p : Path} (hqs : p.q ≤ p.s) (h : SpansOk p) : Flight p (lo p) where
  low k hk := Int.le_trans (lowB_le_lowF p k) (lowF_le_lo p k hk)
  high k hk := Int.le_trans (h.2 k hk) (Int.le_trans (hi_le_highF p k hk) (highF_le_highB p k))
  quick := lo_quick hqs
  slow := lo_slow
theorem flight_hi {p : Path} (hqs : p.q ≤ p.s) (h : SpansOk p) : Flight p (hi p) where
  low k hk := Int.le_trans (lowB_le_lowF p k) (Int.le_trans (lowF_le_lo p k hk) (h.2 k hk))
  high k hk := Int.le_trans (hi_le_highF p k hk) (highF_le_highB p k)
  quick := hi_quick
  slow := hi_slow hqs

def up (p : Path) (k : Nat) (t : Int) : Nat → Int
  | 0 => t
  | d + 1 => max (lo p (k + d + 1)) (up p k t d + p.q)
def down (p : Path) (k : Nat) (t : Int) : Nat → Int
  | 0 => t
  | d + 1 => min (hi p (k - (d + 1))) (down p k t d - p.q)
theorem up_in {p : Path} (hqs : p.q ≤ p.s) (h : SpansOk p) (k : Nat) (t : Int) (h0 : lo p k ≤ t) (h1 : t ≤ hi p k) : ∀ d, k + d ≤ p.steps.length → lo p (k + d) ≤ up p k t d ∧ up p k t d ≤ hi p (k + d)
  | 0, _ => ⟨h0, h1⟩
  | d + 1, hd => by
    have ⟨a, b⟩ := up_in hqs h k t h0 h1 d (by omega)
    have c := hi_quick (p := p) (k + d) (by omega)
    have e := h.2 (k + d + 1) (by omega)
    simp only [up]
    show lo p (k + d + 1) ≤ _ ∧ _ ≤ hi p (k + d + 1)
    omega
theorem down_in {p : Path} (hqs : p.q ≤ p.s) (h : SpansOk p) (k : Nat) (t : Int) (hk : k ≤ p.steps.length) (h0 : lo p k ≤ t) (h1 : t ≤ hi p k) : ∀ d, d ≤ k → lo p (k - d) ≤ down p k t d ∧ down p k t d ≤ hi p (k - d)
  | 0, _ => ⟨h0, h1⟩
  | d + 1, hd => by
    have ⟨a, b⟩ := down_in hqs h k t hk h0 h1 d (by omega)
    have c := lo_quick hqs (k - (d + 1)) (by omega)
    rw [show k - (d + 1) + 1 = k - d by omega] at c
    have e := h.2 (k - (d + 1)) (by omega)
    simp only [down]
    omega
/-- Tight: each tick of each span is that of some flight. -/
theorem tight {p : Path} (hqs : p.q ≤ p.s) (h : SpansOk p) (k : Nat) (hk : k ≤ p.steps.length) (t : Int) (h0 : lo p k ≤ t) (h1 : t ≤ hi p k) : ∃ f, Flight p f ∧ f k = t := by
  refine ⟨fun j => if k ≤ j then up p k t (j - k) else down p k t (k - j), ?_, by simp [up]⟩
  have U := up_in hqs h k t h0 h1
  have D := down_in hqs h k t hk h0 h1
  have I : ∀ j, j ≤ p.steps.length → lo p j ≤ (if k ≤ j then up p k t (j - k) else down p k t (k - j)) ∧ (if k ≤ j then up p k t (j - k) else down p k t (k - j)) ≤ hi p j := by
    intro j hj
    split
    · have := U (j - k) (by omega)
      rwa [show k + (j - k) = j by omega] at this
    · have := D (k - j) (by omega)
      rwa [show k - (k - j) = j by omega] at this
  refine ⟨fun j hj => ?_, fun j hj => ?_, fun j hj => ?_, fun j hj hh => ?_⟩
  · exact Int.le_trans (Int.le_trans (lowB_le_lowF p j) (lowF_le_lo p j hj)) (I j hj).1
  · exact Int.le_trans (I j hj).2 (Int.le_trans (hi_le_highF p j hj) (highF_le_highB p j))
  · by_cases c : k ≤ j
    · rw [if_pos c, if_pos (by omega), show j + 1 - k = (j - k) + 1 by omega]
      simp only [up]; omega
    · rw [if_neg c]
      by_cases c2 : k ≤ j + 1
      · obtain rfl : k = j + 1 := by omega
        rw [if_pos (by omega), Nat.sub_self, show j + 1 - j = 0 + 1 by omega]
        simp only [down, up]; omega
      · rw [if_neg c2, show k - j = (k - (j + 1)) + 1 by omega]
        simp only [down]; omega
  · by_cases c : k ≤ j
    · have a := U (j - k) (by omega)
      rw [show k + (j - k) = j by omega] at a
      have b := lo_slow j hj hh
      rw [if_pos c, if_pos (by omega), show j + 1 - k = (j - k) + 1 by omega]
      simp only [up, show k + (j - k) + 1 = j + 1 by omega]; omega
    · rw [if_neg c]
      have b := hi_slow hqs j hj hh
      by_cases c2 : k ≤ j + 1
      · obtain rfl : k = j + 1 := by omega
        rw [if_pos (by omega), Nat.sub_self, show j + 1 - j = 0 + 1 by omega]
        simp only [down, up, show j + 1 - (0 + 1) = j by omega]; omega
      · have a := D (k - (j + 1)) (by omega)
        rw [show k - (k - (j + 1)) = j + 1 by omega] at a
        rw [if_neg c2, show k - j = (k - (j + 1)) + 1 by omega]
        simp only [down, show k - (k - (j + 1) + 1) = j by omega]; omega

theorem spans_iff {p : Path} (hqs : p.q ≤ p.s) : SpansOk p ↔ ∃ f, Flight p f := ⟨fun h => ⟨_, flight_lo hqs h⟩, fun ⟨_, h⟩ => h.spans⟩

end Go.Proofs.Ytkpnjnkfbhomgaa.LL
set_option linter.unusedVariables false
namespace Go.Proofs.Ytkpnjnkfbhomgaa.LL
/-- a hidden fact: all places below k are as they should be -/
def AllGood (l : List Step) (k : Nat) : Prop := ∀ j, j < k → StepGood l j
theorem AllGood.zero (l : List Step) : AllGood l 0 := fun j h => absurd h (Nat.not_lt_zero _)
theorem AllGood.succ {l : List Step} {k : Nat} (h : AllGood l k) (hk : StepGood l k) : AllGood l (k + 1) := fun j hj => by
  rcases Nat.lt_succ_iff_lt_or_eq.1 hj with h1 | rfl
  · exact h j h1
  · exact hk
theorem PathOk.bad {p : Path} {k : Nat} (hk : k < p.steps.length) (h : ¬ StepGood p.steps k) : ¬ PathOk p := fun h' => h (h'.2.2.2.2.2 k hk)
theorem AllGood.at_ {l : List Step} {k j : Nat} (h : AllGood l k) (hj : j < k) : StepOk (nth l j) := (h j hj).1
theorem AllGood.ok {l : List Step} {k : Nat} (h : AllGood l (k + 1)) : StepOk (nth l k) := (h k (Nat.lt_succ_self k)).1
end Go.Proofs.Ytkpnjnkfbhomgaa.LL

namespace Go.Proofs.Ytkpnjnkfbhomgaa.LL
/-! ### boxes -/
def BoxOk (b : Box) : Prop := In b.x 0 15 ∧ In b.y 0 15 ∧ 0 ≤ b.lo ∧ b.lo ≤ b.hi ∧ b.hi ≤ 6 ∧ 0 ≤ b.i ∧ b.i ≤ b.o ∧ b.o ≤ 10000
instance (b : Box) : Decidable (BoxOk b) := inferInstanceAs (Decidable (_ ∧ _))
/-- two boxes that are ok come too near -/
def Touch (a b : Box) : Prop := In (a.x - b.x) (-1) 1 ∧ In (a.y - b.y) (-1) 1 ∧ a.lo ≤ b.hi ∧ b.lo ≤ a.hi ∧ a.i ≤ b.o ∧ b.i ≤ a.o
instance (a b : Box) : Decidable (Touch a b) := inferInstanceAs (Decidable (_ ∧ _))
def Near (a b : Box) : Prop := BoxOk a ∧ BoxOk b ∧ Touch a b
instance (a b : Box) : Decidable (Near a b) := inferInstanceAs (Decidable (_ ∧ _))
def touchT (a b : Box) : Int := if Touch a b then max a.i b.i else 0
def nearT (a b : Box) : Int := if Near a b then max a.i b.i else 0
end Go.Proofs.Ytkpnjnkfbhomgaa.LL

namespace Go.Proofs.Ytkpnjnkfbhomgaa.LL
def b0 : Box := ⟨0, 0, 0, 0, 0, 0⟩
def nthB (l : List Box) (i : Nat) : Box := l.getD i b0
/-- what the laws' size functions come to: what is left, or -1 -/
def sz (left : Int) (n : Nat) : Int := if left - n < 0 then -1 else left - n
end Go.Proofs.Ytkpnjnkfbhomgaa.LL
