/- Plain mathematics: flights that have begun, what is left, turning. No program in sight. -/
import Derived.Test.YtkpnjnkfbhomgaaM
set_option linter.unusedVariables false
namespace Go.Proofs.Ytkpnjnkfbhomgaa.LL
/-- the list of what f tells of the first n places -/
def tab {α : Type} (n : Nat) (f : Nat → α) : List α := (List.range n).map f
theorem tab_len {α : Type} (n : Nat) (f : Nat → α) : (tab n f).length = n := by simp [tab]
theorem tab_getD {α : Type} {n : Nat} {f : Nat → α} {d : α} {i : Nat} (h : i < n) : (tab n f).getD i d = f i := by simp [tab, List.getD_eq_getElem?_getD, h]
theorem tab_snoc {α : Type} (n : Nat) (f : Nat → α) : tab n f ++ [f n] = tab (n + 1) f := by simp [tab, List.range_succ]
theorem tab_set {α : Type} {n : Nat} {f g : Nat → α} {i : Nat} {x : α} (h : i < n) (hx : g i = x) (hg : ∀ j, j ≠ i → j < n → g j = f j) : (tab n f).set i x = tab n g := by
  apply List.ext_getElem?
  intro j
  rw [List.getElem?_set]
  by_cases hji : i = j
  · subst hji; simp [tab, h, hx]
  · rw [if_neg hji]
    by_cases hj : j < n
    · simp [tab, hj, hg j (Ne.symm hji) hj]
    · simp [tab, hj]
theorem tab_congr {α : Type} {n : Nat} {f g : Nat → α} (h : ∀ i, i < n → f i = g i) : tab n f = tab n g := by
  apply List.ext_getElem?
  intro j
  by_cases hj : j < n
  · simp [tab, hj, h j hj]
  · simp [tab, hj]
theorem tab_zero {α : Type} (f : Nat → α) : tab 0 f = [] := rfl
theorem replicate_tab {α : Type} (n : Nat) (x : α) : List.replicate n x = tab n (fun _ => x) := by
  apply List.ext_getElem?
  intro j
  by_cases hj : j < n <;> simp [tab, hj]
instance (p : Path) : Decidable (SpansOk p) := inferInstanceAs (Decidable (_ ∧ _))
/-- the path is ok and a flight goes along it -/
def Flies (p : Path) : Prop := PathOk p ∧ SpansOk p
instance (p : Path) : Decidable (Flies p) := inferInstanceAs (Decidable (_ ∧ _))
/-- how long a step may take at most, as the reference tells it -/
def most (p : Path) (k : Nat) : Int := if (p.at_ k).hold then 10000 else p.s
/-- windows that the spans' arithmetic stays small over -/
structure Win (p : Path) : Prop where
  q0 : 0 ≤ p.q
  q1 : p.q ≤ 50
  s0 : 0 ≤ p.s
  s1 : p.s ≤ 50
  low : ∀ k, k ≤ p.steps.length → 0 ≤ lowB p k
  high : ∀ k, k ≤ p.steps.length → highB p k ≤ 10000
theorem PathOk.win {p : Path} (h : PathOk p) : Win p := by
  obtain ⟨⟨a, b, c⟩, ⟨d, e⟩, f, g, i, j⟩ := h
  refine ⟨by omega, by omega, by omega, by omega, fun k hk => ?_, fun k hk => ?_⟩
  · unfold lowB; split
    · rename_i hlt
      obtain ⟨⟨_, _, _, _, _, s1, s2, s3⟩, _⟩ := j k hlt
      exact s1
    · omega
  · unfold highB; split
    · rename_i hlt
      obtain ⟨⟨_, _, _, _, _, s1, s2, s3⟩, _⟩ := j k hlt
      exact s3
    · omega
theorem PathOk.qs {p : Path} (h : PathOk p) : p.q ≤ p.s := h.1.2.1
/-- the first walk met nothing empty below k -/
def Fwd (p : Path) (k : Nat) : Prop := ∀ j, j < k → lowF p j ≤ highF p j
theorem Fwd.zero (p : Path) : Fwd p 0 := fun _ h => absurd h (Nat.not_lt_zero _)
theorem Fwd.succ {p : Path} {k : Nat} (h : Fwd p k) (hk : lowF p k ≤ highF p k) : Fwd p (k + 1) := fun j hj => by
  rcases Nat.lt_succ_iff_lt_or_eq.1 hj with h1 | rfl
  · exact h j h1
  · exact hk
theorem Fwd.bad {p : Path} {k : Nat} (hk : k ≤ p.steps.length) (h : highF p k < lowF p k) : ¬ SpansOk p := fun h2 => by
  have := h2.1 k hk; omega
theorem lowF_0 (p : Path) (W : Win p) (k : Nat) (hk : k ≤ p.steps.length) : 0 ≤ lowF p k := Int.le_trans (W.low k hk) (lowB_le_lowF p k)
theorem highF_1 (p : Path) (W : Win p) (k : Nat) (hk : k ≤ p.steps.length) : highF p k ≤ 10000 := Int.le_trans (highF_le_highB p k) (W.high k hk)
theorem Fwd.at_ {p : Path} {k : Nat} (h : Fwd p k) (W : Win p) (j : Nat) (hj : j < k) (hk : j ≤ p.steps.length) : 0 ≤ lowF p j ∧ lowF p j ≤ highF p j ∧ highF p j ≤ 10000 :=
  ⟨lowF_0 p W j hk, h j hj, highF_1 p W j hk⟩
/-- the walk back met nothing empty from k on -/
def Bwd (p : Path) (k : Nat) : Prop := ∀ j, k ≤ j → j ≤ p.steps.length → lo p j ≤ hi p j
theorem Bwd.last {p : Path} (h : Fwd p (p.steps.length + 1)) : Bwd p p.steps.length := fun j h1 h2 => by
  obtain rfl : j = p.steps.length := by omega
  rw [lo_last, hi_last]; exact h _ (by omega)
theorem Bwd.pred {p : Path} {k : Nat} (h : Bwd p (k + 1)) (hk : lo p k ≤ hi p k) : Bwd p k := fun j h1 h2 => by
  by_cases e : j = k
  · subst e; exact hk
  · exact h j (by omega) h2
theorem Bwd.bad {p : Path} {k : Nat} (hk : k ≤ p.steps.length) (h : hi p k < lo p k) : ¬ SpansOk p := fun h2 => by
  have := h2.2 k hk; omega
theorem Bwd.all {p : Path} (h0 : Fwd p (p.steps.length + 1)) (h : Bwd p 0) : SpansOk p := ⟨fun k hk => h0 k (by omega), fun k hk => h k (by omega) hk⟩
theorem lo_0 (p : Path) (W : Win p) (k : Nat) (hk : k ≤ p.steps.length) : 0 ≤ lo p k := Int.le_trans (lowF_0 p W k hk) (lowF_le_lo p k hk)
theorem hi_1 (p : Path) (W : Win p) (k : Nat) (hk : k ≤ p.steps.length) : hi p k ≤ 10000 := Int.le_trans (hi_le_highF p k hk) (highF_1 p W k hk)
theorem Bwd.at_ {p : Path} {k : Nat} (h : Bwd p k) (W : Win p) (j : Nat) (hj : k ≤ j) (hk : j ≤ p.steps.length) : 0 ≤ lo p j ∧ lo p j ≤ hi p j ∧ hi p j ≤ 10000 :=
  ⟨lo_0 p W j hk, h j hj hk, hi_1 p W j hk⟩
theorem lowF_at (p : Path) (k : Nat) (h : 0 < k) : lowF p k = max (lowB p k) (lowF p (k - 1) + p.q) := by
  obtain ⟨m, rfl⟩ : ∃ m, k = m + 1 := ⟨k - 1, by omega⟩
  rfl
/-- with a step that may be held, the bound that the reference lays is none -/
theorem highF_at (p : Path) (W : Win p) (k : Nat) (h : 0 < k) (hk : k ≤ p.steps.length) (h0 : 0 ≤ highF p (k - 1)) : highF p k = min (highB p k) (highF p (k - 1) + most p (k - 1)) := by
  obtain ⟨m, rfl⟩ : ∃ m, k = m + 1 := ⟨k - 1, by omega⟩
  have h1 := W.high (m + 1) hk
  simp only [Nat.add_sub_cancel] at h0 ⊢
  simp only [highF, most]
  split <;> omega
theorem lo_at (p : Path) (W : Win p) (k : Nat) (hk : k < p.steps.length) (h2 : lo p (k + 1) ≤ 10000) : lo p k = max (lowF p k) (lo p (k + 1) - most p k) := by
  rw [lo_step p k hk]
  have h1 := lowF_0 p W k (by omega)
  unfold most
  split
  · omega
  · rfl
def spans (p : Path) : List Span := tab (p.steps.length + 1) fun k => ⟨lo p k, hi p k⟩
def spansR (p : Path) : List Span := if SpansOk p then spans p else []
def spansM (p : Path) : List Span := if Flies p then spans p else []
theorem spansM_no {p : Path} (h : ¬ Flies p) : spansM p = [] := if_neg h
theorem spansM_yes {p : Path} (h : Flies p) : spansM p = spans p := if_pos h
theorem spansR_no {p : Path} (h : ¬ SpansOk p) : spansR p = [] := if_neg h
theorem spansR_yes {p : Path} (h : SpansOk p) : spansR p = spans p := if_pos h
/-- what the list of spans reads in the first walk: k places are done, the others are nothing -/
def spF (p : Path) (k i : Nat) : Span := if i < k then ⟨lowF p i, highF p i⟩ else ⟨0, 0⟩
/-- in the walk back: the places from k on are done -/
def spB (p : Path) (k i : Nat) : Span := if k ≤ i then ⟨lo p i, hi p i⟩ else ⟨lowF p i, highF p i⟩
theorem tab_spB (p : Path) : tab (p.steps.length + 1) (fun j => (⟨lowF p j, highF p j⟩ : Span)) = tab (p.steps.length + 1) (spB p p.steps.length) := tab_congr fun i hi => by
  unfold spB
  split
  · obtain rfl : i = p.steps.length := by omega
    rw [lo_last, hi_last]
  · rfl
theorem spB_zero (p : Path) : tab (p.steps.length + 1) (spB p 0) = spans p := tab_congr fun i hi => by unfold spB; rw [if_pos (Nat.zero_le _)]
theorem spB_at (p : Path) (m i : Nat) (h : m ≤ i) : spB p m i = ⟨lo p i, hi p i⟩ := if_pos h
theorem spB_pre (p : Path) (m i : Nat) (h : i < m) : spB p m i = ⟨lowF p i, highF p i⟩ := if_neg (by omega)
/-- in the middle of a round of the walk back: the low end of place k is done -/
def spM (p : Path) (k i : Nat) : Span := if i = k then ⟨lo p k, highF p k⟩ else spB p (k + 1) i
theorem spM_at (p : Path) (k : Nat) : spM p k k = ⟨lo p k, highF p k⟩ := if_pos rfl
theorem spM_next (p : Path) (k : Nat) : spM p k (k + 1) = ⟨lo p (k + 1), hi p (k + 1)⟩ := by unfold spM; rw [if_neg (by omega), spB_at p _ _ (Nat.le_refl _)]
theorem spM_set (p : Path) (n k : Nat) (h : k < n) (x : Span) (hx : x = ⟨lo p k, highF p k⟩) : (tab n (spB p (k + 1))).set k x = tab n (spM p k) := tab_set h (by rw [spM_at, hx]) fun j hj _ => by unfold spM; rw [if_neg hj]
theorem spB_set (p : Path) (n k : Nat) (h : k < n) (x : Span) (hx : x = ⟨lo p k, hi p k⟩) : (tab n (spM p k)).set k x = tab n (spB p k) := tab_set h (by rw [spB_at p _ _ (Nat.le_refl _), hx]) fun j hj _ => by
  unfold spM; rw [if_neg hj]; unfold spB
  by_cases h1 : k ≤ j
  · rw [if_pos h1, if_pos (by omega)]
  · rw [if_neg h1, if_neg (by omega)]
def upd {α : Type} (f : Nat → α) (k : Nat) (v : α) (i : Nat) : α := if i = k then v else f i
theorem upd_same {α : Type} (f : Nat → α) (k : Nat) (v : α) : upd f k v k = v := if_pos rfl
theorem upd_ne {α : Type} (f : Nat → α) (k : Nat) (v : α) {i : Nat} (h : i ≠ k) : upd f k v i = f i := if_neg h
theorem tab_upd {α : Type} {n : Nat} (f : Nat → α) (k : Nat) (v : α) (h : k < n) : (tab n f).set k v = tab n (upd f k v) := tab_set h (upd_same f k v) fun j hj _ => upd_ne f k v hj
theorem upd_upd {α : Type} (f : Nat → α) (k : Nat) (u v : α) : upd (upd f k u) k v = upd f k v := by funext i; unfold upd; split <;> rfl
theorem spF_next (p : Path) (k : Nat) : upd (spF p k) k ⟨lowF p k, highF p k⟩ = spF p (k + 1) := by
  funext i; unfold upd spF
  by_cases h : i = k
  · subst h; simp
  · rw [if_neg h]
    by_cases h2 : i < k
    · rw [if_pos h2, if_pos (by omega)]
    · rw [if_neg h2, if_neg (by omega)]
theorem spF_at (p : Path) (k i : Nat) (h : i < k) : spF p k i = ⟨lowF p i, highF p i⟩ := if_pos h
theorem spF_all (p : Path) : tab (p.steps.length + 1) (spF p (p.steps.length + 1)) = tab (p.steps.length + 1) (spB p p.steps.length) := by
  rw [← tab_spB]; exact tab_congr fun i hi => spF_at p _ i hi
theorem spB_next (p : Path) (k : Nat) : upd (spB p (k + 1)) k ⟨lo p k, hi p k⟩ = spB p k := by
  funext i; unfold upd spB
  by_cases h : i = k
  · subst h; simp
  · rw [if_neg h]
    by_cases h2 : k ≤ i
    · rw [if_pos h2, if_pos (by omega)]
    · rw [if_neg h2, if_neg (by omega)]
theorem highF_hold (p : Path) (k : Nat) (h : 0 < k) (hh : (nth p.steps (k - 1)).hold = true) : highF p k = highB p k := by
  obtain ⟨m, rfl⟩ : ∃ m, k = m + 1 := ⟨k - 1, by omega⟩
  simp only [Nat.add_sub_cancel] at hh
  simp [highF, Path.at_, hh]
theorem highF_slow (p : Path) (k : Nat) (h : 0 < k) (hh : (nth p.steps (k - 1)).hold = false) : highF p k = min (highB p k) (highF p (k - 1) + p.s) := by
  obtain ⟨m, rfl⟩ : ∃ m, k = m + 1 := ⟨k - 1, by omega⟩
  simp only [Nat.add_sub_cancel] at hh
  simp [highF, Path.at_, hh]
theorem lo_hold (p : Path) (k : Nat) (h : k < p.steps.length) (hh : (nth p.steps k).hold = true) : lo p k = lowF p k := by
  rw [lo_step p k h]; simp [Path.at_, hh]
theorem lo_slow' (p : Path) (k : Nat) (h : k < p.steps.length) (hh : (nth p.steps k).hold = false) : lo p k = max (lowF p k) (lo p (k + 1) - p.s) := by
  rw [lo_step p k h]; simp [Path.at_, hh]
theorem PathOk.first {p : Path} (h : PathOk p) : lowF p 0 ≤ highF p 0 := by
  obtain ⟨_, ⟨h1, _⟩, _, _, _, h2⟩ := h
  have h3 : 0 < p.steps.length := by omega
  have h4 := (h2 0 h3).1
  obtain ⟨_, _, _, _, _, _, h5, _⟩ := h4
  simp only [lowF, highF, lowB, highB, if_pos h3]
  exact h5
end Go.Proofs.Ytkpnjnkfbhomgaa.LL
