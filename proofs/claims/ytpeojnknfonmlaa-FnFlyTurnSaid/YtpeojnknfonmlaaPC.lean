/- Plain mathematics: where a held path's first flight is. -/
import Derived.Test.YtpeojnknfonmlaaPB
import Derived.Test.YtpeojnknfonmlaaRH
import Derived.Test.YtpeojnknfonmlaaJ6
set_option linter.unusedVariables false
namespace Go.Proofs.Ytpeojnknfonmlaa
theorem LL.first_len {p : LL.Path} (h : LL.Flies p) : (LL.firstM p).length = p.steps.length + 1 := by
  unfold LL.firstM; rw [LL.spansM_yes h]; unfold LL.spans; rw [List.length_map, LL.tab_len]
theorem LL.first_nth {p : LL.Path} (h : LL.Flies p) (j : Nat) (hj : j ≤ p.steps.length) : LL.nthI (LL.firstM p) j = LL.lo p j := by
  unfold LL.firstM LL.nthI; rw [LL.spansM_yes h]; unfold LL.spans
  simp [List.getD_eq_getElem?_getD, LL.tab, show j < p.steps.length + 1 by omega]
/-- a flight is in the step in which it is -/
theorem LL.whr_at {f : List Int} {t : Int} {n k : Nat} (hl : f.length = n + 1) (hk : k < n) (h0 : LL.nthI f k ≤ t) (h1 : t < LL.nthI f (k + 1)) (hup : ∀ j, j < n → LL.nthI f j < LL.nthI f (j + 1)) : LL.whr f t = ((k : Int), true) := by
  unfold LL.whr
  rw [hl, Nat.add_sub_cancel]
  have hmono : ∀ d j, j + d ≤ n → LL.nthI f j ≤ LL.nthI f (j + d) := fun d => by
    induction d with
    | zero => intro j _; exact Int.le_refl _
    | succ d ih => intro j hj; have a := ih j (by omega); have b := hup (j + d) (by omega); rw [show j + (d + 1) = j + d + 1 by omega]; omega
  have key : ∀ d j, j + d = k → LL.seekTo (LL.whereP f t) n j = ((k : Int), true) := fun d => by
    induction d with
    | zero =>
      intro j hj
      obtain rfl : j = k := by omega
      exact LL.seekTo_hit hk (by unfold LL.whereP; exact decide_eq_true ⟨h0, h1⟩)
    | succ d ih =>
      intro j hj
      rw [LL.seekTo_miss (by omega) ?_]
      · exact ih (j + 1) (by omega)
      · unfold LL.whereP
        refine decide_eq_false fun ⟨_, h3⟩ => ?_
        have := hmono d (j + 1) (by omega)
        rw [show j + 1 + d = k by omega] at this
        omega
  exact key k 0 (by omega)
/-- what the law asks of the first flight along the path that is held at both ends of a step -/
theorem LL.held_first {p : LL.Path} (h : LL.Flies p) (k : Nat) (hk : k < p.steps.length) (t : Int) (h0 : LL.lo p k ≤ t) (h1 : t ≤ LL.hi p (k + 1) - 1) :
    LL.whr (LL.firstM (LL.hldP (LL.hldP p k 0 t) (k + 1) (t + 1) 10000)) t = ((k : Int), true) ∧ LL.Allowed p (LL.firstM (LL.hldP (LL.hldP p k 0 t) (k + 1) (t + 1) 10000)) := by
  obtain ⟨F, g, a, b⟩ := LL.held2_flies h k hk t h0 (by omega)
  have hlen : (LL.hldP (LL.hldP p k 0 t) (k + 1) (t + 1) 10000).steps.length = p.steps.length := by rw [LL.hldP_len, LL.hldP_len]
  have hl := LL.first_len F
  have hn := LL.first_nth F
  rw [hlen] at hl hn
  have hq := h.1.1.1
  constructor
  · refine LL.whr_at hl hk (by rw [hn k (by omega)]; exact a) (by rw [hn (k + 1) (by omega)]; omega) (fun j hj => ?_)
    rw [hn j (by omega), hn (j + 1) (by omega)]
    have := g.quick j hj
    omega
  · refine ⟨hl, ⟨fun j hj => ?_, fun j hj => ?_, fun j hj => ?_, fun j hj hh => ?_⟩⟩
    · rw [hn j hj]; exact g.low j hj
    · rw [hn j hj]; exact g.high j hj
    · rw [hn j (by omega), hn (j + 1) (by omega)]; exact g.quick j hj
    · rw [hn j (by omega), hn (j + 1) (by omega)]; exact g.slow j hj hh
theorem LL.tight_flies {p : LL.Path} (h : LL.Flies p) (k : Nat) (hk : k ≤ p.steps.length) (t : Int) (h0 : LL.lo p k ≤ t) (h1 : t ≤ LL.hi p k) : LL.Flies (LL.hldP p k t t) := by
  obtain ⟨f, hf, e⟩ := LL.tight h.1.qs h.2 k hk t h0 h1
  exact LL.held_flies h.1 hf hk (by omega) (by omega)
end Go.Proofs.Ytpeojnknfonmlaa
