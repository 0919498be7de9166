/- Plain mathematics: paths that are held at a tick; nothing smaller holds all. -/
import Derived.Test.YtpeojnknfonmlaaJ7
set_option linter.unusedVariables false
namespace Go.Proofs.Ytpeojnknfonmlaa.LL
def hldS (s : Step) (a b : Int) : Step := ⟨s.x, s.y, s.lo, s.hi, max s.fr a, min s.by_ b, s.hold⟩
def hldF (p : Path) (k : Nat) (a b : Int) (i : Nat) : Step := if i = k then hldS (nth p.steps k) a b else nth p.steps i
def hldP (p : Path) (k : Nat) (a b : Int) : Path :=
  if k < p.steps.length then ⟨p.q, p.s, tab p.steps.length (hldF p k a b), p.fr, p.by_⟩ else ⟨p.q, p.s, p.steps, max p.fr a, min p.by_ b⟩
section
variable {p : Path} {k : Nat} {a b : Int}
theorem hldP_len (p : Path) (k : Nat) (a b : Int) : (hldP p k a b).steps.length = p.steps.length := by
  unfold hldP; split
  · exact tab_len _ _
  · rfl
theorem hldP_q (p : Path) (k : Nat) (a b : Int) : (hldP p k a b).q = p.q := by unfold hldP; split <;> rfl
theorem hldP_s (p : Path) (k : Nat) (a b : Int) : (hldP p k a b).s = p.s := by unfold hldP; split <;> rfl
theorem hldP_at (i : Nat) (hi : i < p.steps.length) : (hldP p k a b).at_ i = if i = k then hldS (p.at_ k) a b else p.at_ i := by
  unfold hldP; split
  · show nth (tab _ _) i = _
    unfold nth; rw [tab_getD hi]; rfl
  · rename_i h; rw [if_neg (by omega)]; rfl
theorem hldP_low (hk : k ≤ p.steps.length) (j : Nat) (hj : j ≤ p.steps.length) : lowB (hldP p k a b) j = if j = k then max (lowB p j) a else lowB p j := by
  unfold lowB
  rw [hldP_len]
  by_cases h : j < p.steps.length
  · rw [if_pos h, if_pos h, hldP_at j h]
    split
    · rename_i e; subst e; rfl
    · rfl
  · rw [if_neg h, if_neg h]
    obtain rfl : j = p.steps.length := by omega
    unfold hldP
    by_cases e : k < p.steps.length
    · rw [if_pos e, if_neg (by omega)]
    · rw [if_neg e, if_pos (by omega)]
theorem hldP_high (hk : k ≤ p.steps.length) (j : Nat) (hj : j ≤ p.steps.length) : highB (hldP p k a b) j = if j = k then min (highB p j) b else highB p j := by
  unfold highB
  rw [hldP_len]
  by_cases h : j < p.steps.length
  · rw [if_pos h, if_pos h, hldP_at j h]
    split
    · rename_i e; subst e; rfl
    · rfl
  · rw [if_neg h, if_neg h]
    obtain rfl : j = p.steps.length := by omega
    unfold hldP
    by_cases e : k < p.steps.length
    · rw [if_pos e, if_neg (by omega)]
    · rw [if_neg e, if_pos (by omega)]
theorem hldP_hold (i : Nat) (hi : i < p.steps.length) : ((hldP p k a b).at_ i).hold = (p.at_ i).hold := by
  rw [hldP_at i hi]; split
  · rename_i e; subst e; rfl
  · rfl
theorem Flight.held {f : Nat → Int} (h : Flight p f) (hk : k ≤ p.steps.length) (ha : a ≤ f k) (hb : f k ≤ b) : Flight (hldP p k a b) f where
  low j hj := by
    rw [hldP_len] at hj; rw [hldP_low hk j hj]
    have := h.low j hj
    split
    · rename_i e; subst e; omega
    · exact this
  high j hj := by
    rw [hldP_len] at hj; rw [hldP_high hk j hj]
    have := h.high j hj
    split
    · rename_i e; subst e; omega
    · exact this
  quick j hj := by rw [hldP_len] at hj; rw [hldP_q]; exact h.quick j hj
  slow j hj hh := by rw [hldP_len] at hj; rw [hldP_hold j hj] at hh; rw [hldP_s]; exact h.slow j hj hh
theorem Flight.unheld {f : Nat → Int} (h : Flight (hldP p k a b) f) (hk : k ≤ p.steps.length) : Flight p f ∧ a ≤ f k ∧ f k ≤ b := by
  have e := hldP_len p k a b
  have l1 := h.low k (by omega)
  have l2 := h.high k (by omega)
  rw [hldP_low hk k hk, if_pos rfl] at l1
  rw [hldP_high hk k hk, if_pos rfl] at l2
  refine ⟨⟨fun j hj => ?_, fun j hj => ?_, fun j hj => ?_, fun j hj hh => ?_⟩, by omega, by omega⟩
  · have := h.low j (by omega); rw [hldP_low hk j hj] at this; split at this <;> omega
  · have := h.high j (by omega); rw [hldP_high hk j hj] at this; split at this <;> omega
  · have := h.quick j (by omega); rwa [hldP_q] at this
  · have := h.slow j (by omega) (by rw [hldP_hold j hj]; exact hh); rwa [hldP_s] at this
theorem PathOk.held (h : PathOk p) (hk : k ≤ p.steps.length) (hS : SpansOk (hldP p k a b)) : PathOk (hldP p k a b) := by
  refine h.narrow (p' := hldP p k a b) (hldP_q ..) (hldP_s ..) (hldP_len ..) hS (fun i hi => ?_) (fun j hj => ?_) (fun j hj => ?_)
  · rw [hldP_at i hi]; split
    · rename_i e; subst e; exact ⟨rfl, rfl, rfl, rfl⟩
    · exact ⟨rfl, rfl, rfl, rfl⟩
  · rw [hldP_low hk j hj]; split <;> omega
  · rw [hldP_high hk j hj]; split <;> omega
theorem held_flies {f : Nat → Int} (h : PathOk p) (hf : Flight p f) (hk : k ≤ p.steps.length) (ha : a ≤ f k) (hb : f k ≤ b) : Flies (hldP p k a b) := by
  have hS := (hf.held hk ha hb).spans
  exact ⟨h.held hk hS, hS⟩
end
/-- a flight that is in a step at a tick at which the step's box says that somebody may be -/
theorem there {p : Path} (hqs : p.q ≤ p.s) (hq : 1 ≤ p.q) (h : SpansOk p) (k : Nat) (hk : k < p.steps.length) (t : Int) (h0 : lo p k ≤ t) (h1 : t + 1 ≤ hi p (k + 1)) : ∃ f, Flight p f ∧ f k ≤ t ∧ t + 1 ≤ f (k + 1) := by
  have hlh := h.2 k (by omega)
  have hlh1 := h.2 (k + 1) (by omega)
  have q1 := hi_quick (p := p) k hk
  have q2 := lo_quick hqs k hk
  have s1 := fun hh => hi_slow hqs k hk hh
  have s2 := fun hh => lo_slow k hk hh
  obtain ⟨a, b, ha0, ha1, hat, hb0, hb1, hbt, hab, hs⟩ : ∃ a b : Int, lo p k ≤ a ∧ a ≤ hi p k ∧ a ≤ t ∧ lo p (k + 1) ≤ b ∧ b ≤ hi p (k + 1) ∧ t + 1 ≤ b ∧ a + p.q ≤ b ∧ ((p.at_ k).hold = false → b ≤ a + p.s) := by
    by_cases c : t ≤ hi p k
    · exact ⟨t, max (lo p (k + 1)) (t + p.q), h0, c, Int.le_refl _, by omega, by omega, by omega, by omega, fun hh => by have := s2 hh; omega⟩
    · exact ⟨hi p k, max (max (t + 1) (lo p (k + 1))) (hi p k + p.q), hlh, Int.le_refl _, by omega, by omega, by omega, by omega, by omega, fun hh => by have := s1 hh; have := s2 hh; omega⟩
  have U := up_in hqs h (k + 1) b hb0 hb1
  have D := down_in hqs h k a (by omega) ha0 ha1
  refine ⟨fun j => if k + 1 ≤ j then up p (k + 1) b (j - (k + 1)) else down p k a (k - j), ?_, ?_, ?_⟩
  · have I : ∀ j, j ≤ p.steps.length → lo p j ≤ (if k + 1 ≤ j then up p (k + 1) b (j - (k + 1)) else down p k a (k - j)) ∧ (if k + 1 ≤ j then up p (k + 1) b (j - (k + 1)) else down p k a (k - j)) ≤ hi p j := by
      intro j hj
      split
      · have := U (j - (k + 1)) (by omega)
        rwa [show k + 1 + (j - (k + 1)) = j by omega] at this
      · have := D (k - j) (by omega)
        rwa [show k - (k - j) = j by omega] at this
    refine ⟨fun j hj => ?_, fun j hj => ?_, fun j hj => ?_, fun j hj hh => ?_⟩
    · exact Int.le_trans (Int.le_trans (lowB_le_lowF p j) (lowF_le_lo p j hj)) (I j hj).1
    · exact Int.le_trans (I j hj).2 (Int.le_trans (hi_le_highF p j hj) (highF_le_highB p j))
    · by_cases c : k + 1 ≤ j
      · rw [if_pos c, if_pos (by omega), show j + 1 - (k + 1) = (j - (k + 1)) + 1 by omega]
        simp only [up]; omega
      · rw [if_neg c]
        by_cases c2 : k + 1 ≤ j + 1
        · obtain rfl : k = j := by omega
          rw [if_pos (by omega), Nat.sub_self, Nat.sub_self]
          simp only [down, up]; omega
        · rw [if_neg c2, show k - j = (k - (j + 1)) + 1 by omega]
          simp only [down]; omega
    · by_cases c : k + 1 ≤ j
      · have e := U (j - (k + 1)) (by omega)
        rw [show k + 1 + (j - (k + 1)) = j by omega] at e
        have g := lo_slow j hj hh
        rw [if_pos c, if_pos (by omega), show j + 1 - (k + 1) = (j - (k + 1)) + 1 by omega]
        simp only [up, show k + 1 + (j - (k + 1)) + 1 = j + 1 by omega]; omega
      · rw [if_neg c]
        by_cases c2 : k + 1 ≤ j + 1
        · obtain rfl : k = j := by omega
          rw [if_pos (by omega), Nat.sub_self, Nat.sub_self]
          simp only [down, up]; exact hs hh
        · have g := hi_slow hqs j hj hh
          have e := D (k - (j + 1)) (by omega)
          rw [show k - (k - (j + 1)) = j + 1 by omega] at e
          rw [if_neg c2, show k - j = (k - (j + 1)) + 1 by omega]
          simp only [down, show k - (k - (j + 1) + 1) = j by omega]; omega
  · simp only [Nat.not_succ_le_self, if_false, Nat.sub_self, down]; exact hat
  · simp only [Nat.le_refl, if_true, Nat.sub_self, up]; exact hbt
/-- the path held at the step's begin and end, as the law holds it -/
theorem held2_flies {p : Path} (h : Flies p) (k : Nat) (hk : k < p.steps.length) (t : Int) (h0 : lo p k ≤ t) (h1 : t + 1 ≤ hi p (k + 1)) :
    Flies (hldP (hldP p k 0 t) (k + 1) (t + 1) 10000) ∧ Flight p (lo (hldP (hldP p k 0 t) (k + 1) (t + 1) 10000)) ∧ lo (hldP (hldP p k 0 t) (k + 1) (t + 1) 10000) k ≤ t ∧ t + 1 ≤ lo (hldP (hldP p k 0 t) (k + 1) (t + 1) 10000) (k + 1) := by
  have hqs := h.1.qs
  have W := h.1.win
  obtain ⟨f, hf, a, b⟩ := there hqs h.1.1.1 h.2 k hk t h0 h1
  have f0 := Int.le_trans (W.low k (by omega)) (hf.low k (by omega))
  have f1 := Int.le_trans (hf.high (k + 1) (by omega)) (W.high (k + 1) (by omega))
  have F1 : Flies (hldP p k 0 t) := held_flies h.1 hf (by omega) f0 a
  have hf1 : Flight (hldP p k 0 t) f := hf.held (by omega) f0 a
  have F2 : Flies (hldP (hldP p k 0 t) (k + 1) (t + 1) 10000) := held_flies F1.1 hf1 (by rw [hldP_len]; omega) b f1
  have g := flight_lo F2.1.qs F2.2
  obtain ⟨g1, g2, g3⟩ := g.unheld (by rw [hldP_len]; omega)
  obtain ⟨g4, g5, g6⟩ := g1.unheld (by omega)
  exact ⟨F2, g4, g6, g2⟩
end Go.Proofs.Ytpeojnknfonmlaa.LL
