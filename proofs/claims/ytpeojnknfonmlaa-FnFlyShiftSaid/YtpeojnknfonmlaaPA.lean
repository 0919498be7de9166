/- Plain mathematics: shifted paths. -/
import Derived.Test.YtpeojnknfonmlaaJ7
set_option linter.unusedVariables false
namespace Go.Proofs.Ytpeojnknfonmlaa.LL
theorem shP_len (p : Path) (d : Int) : (shP p d).steps.length = p.steps.length := tab_len _ _
theorem shP_at (p : Path) (d : Int) (i : Nat) (h : i < p.steps.length) : (shP p d).at_ i = shS d (p.at_ i) := tab_getD h
theorem shP_lowB (p : Path) (d : Int) (k : Nat) : lowB (shP p d) k = lowB p k + d := by
  unfold lowB; rw [shP_len]
  split
  · rename_i h; rw [shP_at p d k h]; rfl
  · rfl
theorem shP_highB (p : Path) (d : Int) (k : Nat) : highB (shP p d) k = highB p k + d := by
  unfold highB; rw [shP_len]
  split
  · rename_i h; rw [shP_at p d k h]; rfl
  · rfl
theorem shP_hold (p : Path) (d : Int) (i : Nat) (h : i < p.steps.length) : ((shP p d).at_ i).hold = (p.at_ i).hold := by rw [shP_at p d i h]; rfl
theorem shP_lowF (p : Path) (d : Int) : ∀ k, lowF (shP p d) k = lowF p k + d
  | 0 => shP_lowB p d 0
  | k + 1 => by
    simp only [lowF]; rw [shP_lowB, shP_lowF p d k]; show max _ (_ + p.q) = _; omega
theorem shP_highF (p : Path) (d : Int) : ∀ k, k ≤ p.steps.length → highF (shP p d) k = highF p k + d
  | 0, _ => shP_highB p d 0
  | k + 1, h => by
    simp only [highF]; rw [shP_highB, shP_highF p d k (by omega), shP_hold p d k (by omega)]
    split
    · rfl
    · show min _ (_ + p.s) = _; omega
theorem shP_lowG (p : Path) (d : Int) : ∀ m, m ≤ p.steps.length → lowG (shP p d) m = lowG p m + d
  | 0, _ => by simp only [lowG]; rw [shP_len, shP_lowF]
  | m + 1, h => by
    simp only [lowG]; rw [shP_len, shP_hold p d _ (by omega), shP_lowF, shP_lowG p d m (by omega)]
    split
    · rfl
    · show max _ (_ - p.s) = _; omega
theorem shP_highG (p : Path) (d : Int) : ∀ m, m ≤ p.steps.length → highG (shP p d) m = highG p m + d
  | 0, _ => by simp only [highG]; rw [shP_len, shP_highF p d _ (Nat.le_refl _)]
  | m + 1, h => by
    simp only [highG]; rw [shP_len, shP_highF p d _ (by omega), shP_highG p d m (by omega)]
    show min _ (_ - p.q) = _; omega
theorem shP_lo (p : Path) (d : Int) (k : Nat) : lo (shP p d) k = lo p k + d := by
  unfold lo; rw [shP_len, shP_lowG p d _ (by omega)]
theorem shP_hi (p : Path) (d : Int) (k : Nat) : hi (shP p d) k = hi p k + d := by
  unfold hi; rw [shP_len, shP_highG p d _ (by omega)]
theorem shP_spans (p : Path) (d : Int) : SpansOk (shP p d) ↔ SpansOk p := by
  unfold SpansOk; rw [shP_len]
  constructor
  · rintro ⟨a, b⟩
    refine ⟨fun k hk => ?_, fun k hk => ?_⟩
    · have := a k hk; rw [shP_lowF, shP_highF p d k hk] at this; omega
    · have := b k hk; rw [shP_lo, shP_hi] at this; omega
  · rintro ⟨a, b⟩
    refine ⟨fun k hk => ?_, fun k hk => ?_⟩
    · have := a k hk; rw [shP_lowF, shP_highF p d k hk]; omega
    · have := b k hk; rw [shP_lo, shP_hi]; omega
theorem shP_flies {p : Path} {d : Int} (h : ShOk p d) : Flies (shP p d) ↔ Flies p := by
  unfold Flies
  exact ⟨fun ⟨_, b⟩ => ⟨h.1, (shP_spans p d).1 b⟩, fun ⟨_, b⟩ => ⟨h.2.2, (shP_spans p d).2 b⟩⟩
theorem shP_back (p : Path) (d : Int) : shP (shP p d) (-d) = p := by
  obtain ⟨q, s, steps, fr, by_⟩ := p
  unfold shP
  simp only [tab_len]
  have e1 : fr + d + -d = fr := by omega
  have e2 : by_ + d + -d = by_ := by omega
  have e3 : tab steps.length (shF ⟨q, s, tab steps.length (shF ⟨q, s, steps, fr, by_⟩ d), fr + d, by_ + d⟩ (-d)) = steps := by
    apply List.ext_getElem?
    intro j
    by_cases hj : j < steps.length
    · simp only [tab, List.getElem?_map, List.getElem?_range hj, Option.map_some]
      rw [List.getElem?_eq_getElem hj]
      simp only [shF, nth]
      have : ((List.range steps.length).map (shF ⟨q, s, steps, fr, by_⟩ d)).getD j z0 = shS d (steps.getD j z0) := tab_getD (f := shF ⟨q, s, steps, fr, by_⟩ d) hj
      rw [this]
      rw [List.getD_eq_getElem?_getD, List.getElem?_eq_getElem hj]
      simp only [Option.getD_some, shS]
      congr 1
      cases hs : steps[j]
      simp only [Step.mk.injEq, true_and, and_true]
      omega
    · simp [tab, hj]
  rw [e1, e2, e3]
theorem ShOk.back {p : Path} {d : Int} (h : ShOk p d) : ShOk (shP p d) (-d) := by
  obtain ⟨a, ⟨b, c⟩, e⟩ := h
  exact ⟨e, ⟨by omega, by omega⟩, by rw [shP_back]; exact a⟩
theorem shift_back {p : Path} {d : Int} (h : ShOk p d) : shiftM (shP p d) (-d) = p := by rw [shiftM_yes h.back, shP_back]
end Go.Proofs.Ytpeojnknfonmlaa.LL
