/- Plain mathematics: the first moment at which two tubes come too near. -/
import Derived.Test.YtpeojnknfonmlaaP6
set_option linter.unusedVariables false
set_option linter.unusedSimpArgs false
namespace Go.Proofs.Ytpeojnknfonmlaa.LL
/-- what has been found among the pairs that P tells -/
structure Told (sa sb : ByteArray) (xs ys : List Box) (P : Nat → Nat → Prop) (s : Cl) : Prop where
  no : s.f = false → s = cl0 ∧ ∀ i j, P i j → ¬ Touch (nthB xs i) (nthB ys j)
  yes : s.f = true → s.a = sa ∧ s.b = sb ∧ (∃ i j : Nat, s.i = i ∧ s.j = j ∧ P i j ∧ Touch (nthB xs i) (nthB ys j) ∧ s.t = touchT (nthB xs i) (nthB ys j)) ∧ ∀ i j, P i j → Touch (nthB xs i) (nthB ys j) → s.t ≤ touchT (nthB xs i) (nthB ys j)
section
variable {sa sb : ByteArray} {xs ys : List Box} {P Q : Nat → Nat → Prop} {s : Cl}
theorem Told.iff (h : Told sa sb xs ys P s) (e : ∀ i j, P i j ↔ Q i j) : Told sa sb xs ys Q s := by
  obtain rfl : P = Q := funext fun i => funext fun j => propext (e i j)
  exact h
theorem Told.stp {i j : Nat} (h : Told sa sb xs ys P s) : Told sa sb xs ys (fun i' j' => P i' j' ∨ (i' = i ∧ j' = j)) (stp sa sb (nthB xs i) (nthB ys j) i j s) := by
  unfold LL.stp
  by_cases hb : better s (nthB xs i) (nthB ys j)
  · rw [if_pos hb]
    refine ⟨(fun e => by cases e), fun _ => ⟨rfl, rfl, ⟨i, j, rfl, rfl, .inr ⟨rfl, rfl⟩, hb.1, rfl⟩, fun i' j' hp ht => ?_⟩⟩
    rcases hp with hp | ⟨rfl, rfl⟩
    · rcases hb.2 with hf | hlt
      · exact absurd ht ((h.no hf).2 _ _ hp)
      · cases hf : s.f
        · exact absurd ht ((h.no hf).2 _ _ hp)
        · have := (h.yes hf).2.2.2 _ _ hp ht
          show touchT _ _ ≤ _
          omega
    · exact Int.le_refl _
  · rw [if_neg hb]
    refine ⟨fun e => ⟨(h.no e).1, fun i' j' hp ht => ?_⟩, fun e => ?_⟩
    · rcases hp with hp | ⟨rfl, rfl⟩
      · exact (h.no e).2 _ _ hp ht
      · exact hb ⟨ht, .inl e⟩
    · obtain ⟨a, b, ⟨i0, j0, c1, c2, c3, c4, c5⟩, d⟩ := h.yes e
      refine ⟨a, b, ⟨i0, j0, c1, c2, .inl c3, c4, c5⟩, fun i' j' hp ht => ?_⟩
      rcases hp with hp | ⟨rfl, rfl⟩
      · exact d _ _ hp ht
      · have : ¬ touchT (nthB xs i') (nthB ys j') < s.t := fun hl => hb ⟨ht, .inr hl⟩
        omega
theorem Told.in_ {i : Nat} (h : Told sa sb xs ys P s) : ∀ k, Told sa sb xs ys (fun i' j' => P i' j' ∨ (i' = i ∧ j' < k)) (meetIn sa sb (nthB xs i) ys i s k)
  | 0 => h.iff fun i' j' => ⟨.inl, fun h => h.elim id fun h => absurd h.2 (Nat.not_lt_zero _)⟩
  | k + 1 => (Told.stp (i := i) (j := k) (Told.in_ h k)).iff fun i' j' => by
    constructor
    · rintro ((h | ⟨a, b⟩) | ⟨a, b⟩)
      · exact .inl h
      · exact .inr ⟨a, by omega⟩
      · exact .inr ⟨a, by omega⟩
    · rintro (h | ⟨a, b⟩)
      · exact .inl (.inl h)
      · by_cases c : j' < k
        · exact .inl (.inr ⟨a, c⟩)
        · exact .inr ⟨a, by omega⟩
theorem told_out (sa sb : ByteArray) (xs ys : List Box) : ∀ n, Told sa sb xs ys (fun i' j' => i' < n ∧ j' < ys.length) (meetOut sa sb xs ys n)
  | 0 => ⟨fun _ => ⟨rfl, fun i j h => absurd h.1 (Nat.not_lt_zero _)⟩, (fun e => by cases e)⟩
  | n + 1 => (Told.in_ (i := n) (told_out sa sb xs ys n) ys.length).iff fun i' j' => by
    constructor
    · rintro (⟨a, b⟩ | ⟨a, b⟩)
      · exact ⟨by omega, b⟩
      · exact ⟨by omega, b⟩
    · rintro ⟨a, b⟩
      by_cases c : i' < n
      · exact .inl ⟨c, b⟩
      · exact .inr ⟨by omega, b⟩
end
theorem Touch.symm {a b : Box} (h : Touch a b) : Touch b a := by
  obtain ⟨⟨a1, a2⟩, ⟨b1, b2⟩, c, d, e, f⟩ := h
  exact ⟨⟨by omega, by omega⟩, ⟨by omega, by omega⟩, d, c, f, e⟩
theorem touchT_symm {a b : Box} (h : Touch a b) : touchT a b = touchT b a := by
  unfold touchT; rw [if_pos h, if_pos h.symm, Int.max_comm]
/-- near at a tick, as the laws say it -/
def NearAt (a b : Box) (t : Int) : Prop := (a.i ≤ t ∧ t ≤ a.o) ∧ (b.i ≤ t ∧ t ≤ b.o) ∧ In (a.x - b.x) (-1) 1 ∧ In (a.y - b.y) (-1) 1 ∧ ∃ v, (a.lo ≤ v ∧ v ≤ a.hi) ∧ b.lo ≤ v ∧ v ≤ b.hi
noncomputable instance (a b : Box) (t : Int) : Decidable (NearAt a b t) := Classical.propDecidable _
def NearS (xs ys : List Box) (t : Int) : Prop := ∃ i j, i < xs.length ∧ j < ys.length ∧ NearAt (nthB xs i) (nthB ys j) t
noncomputable instance (xs ys : List Box) (t : Int) : Decidable (NearS xs ys t) := Classical.propDecidable _
def Ever (xs ys : List Box) : Prop := (∃ i, i < xs.length ∧ NearS xs ys (nthB xs i).i) ∨ ∃ i, i < ys.length ∧ NearS xs ys (nthB ys i).i
noncomputable instance (xs ys : List Box) : Decidable (Ever xs ys) := Classical.propDecidable _
theorem NearAt.touch {a b : Box} {t : Int} (h : NearAt a b t) : Touch a b ∧ touchT a b ≤ t := by
  obtain ⟨⟨a1, a2⟩, ⟨b1, b2⟩, c, d, v, ⟨e1, e2⟩, f1, f2⟩ := h
  have T : Touch a b := ⟨c, d, by omega, by omega, by omega, by omega⟩
  refine ⟨T, ?_⟩
  unfold touchT; rw [if_pos T]; omega
theorem Touch.near {a b : Box} (ha : BoxOk a) (hb : BoxOk b) (h : Touch a b) : NearAt a b (touchT a b) := by
  have T := h
  obtain ⟨c, d, e, f, g, k⟩ := h
  have a1 := ha.2.2.2.1; have a2 := ha.2.2.2.2.2.2.1; have b1 := hb.2.2.2.1; have b2 := hb.2.2.2.2.2.2.1
  unfold touchT; rw [if_pos T]
  exact ⟨⟨by omega, by omega⟩, ⟨by omega, by omega⟩, c, d, max a.lo b.lo, ⟨by omega, by omega⟩, by omega, by omega⟩
section
variable {sa sb : ByteArray} {xs ys : List Box}
theorem TubeOk.box (h : TubeOk sa xs) (i : Nat) (hi : i < xs.length) : BoxOk (nthB xs i) := h.2.2 _ (nthB_mem hi)
theorem meet_flag : (meetM sa sb xs ys).f = (meetM sb sa ys xs).f := by
  by_cases h : TubeOk sa xs ∧ TubeOk sb ys
  · rw [meetM_yes h.1 h.2, meetM_yes h.2 h.1]
    have A := told_out sa sb xs ys xs.length
    have B := told_out sb sa ys xs ys.length
    cases e : (meetOut sa sb xs ys xs.length).f <;> cases e' : (meetOut sb sa ys xs ys.length).f
    · rfl
    · obtain ⟨_, _, ⟨i, j, _, _, ⟨c1, c2⟩, c3, _⟩, _⟩ := B.yes e'
      exact absurd c3.symm ((A.no e).2 j i ⟨c2, c1⟩)
    · obtain ⟨_, _, ⟨i, j, _, _, ⟨c1, c2⟩, c3, _⟩, _⟩ := A.yes e
      exact absurd c3.symm ((B.no e').2 j i ⟨c2, c1⟩)
    · rfl
  · rw [meetM_no h, meetM_no (fun h' => h ⟨h'.2, h'.1⟩)]
/-- they come too near: what the law asks -/
theorem meet_yes (h : (meetM sa sb xs ys).f = true) : TubeOk sa xs ∧ TubeOk sb ys ∧ (meetM sb sa ys xs).t = (meetM sa sb xs ys).t ∧ (meetM sa sb xs ys).a = sa ∧ (meetM sa sb xs ys).b = sb ∧ 0 ≤ (meetM sa sb xs ys).t ∧ (meetM sa sb xs ys).t ≤ 10000 ∧
    (∃ i j : Nat, (meetM sa sb xs ys).i = i ∧ (meetM sa sb xs ys).j = j ∧ i < xs.length ∧ j < ys.length ∧ NearAt (nthB xs i) (nthB ys j) (meetM sa sb xs ys).t) ∧ ∀ t, t < (meetM sa sb xs ys).t → ¬ NearS xs ys t := by
  have h' : (meetM sb sa ys xs).f = true := meet_flag.symm.trans h
  by_cases hT : TubeOk sa xs ∧ TubeOk sb ys
  · refine ⟨hT.1, hT.2, ?_⟩
    rw [meetM_yes hT.1 hT.2] at h ⊢
    rw [meetM_yes hT.2 hT.1] at h' ⊢
    obtain ⟨a, b, ⟨i, j, c1, c2, ⟨c3, c4⟩, c5, c6⟩, d⟩ := (told_out sa sb xs ys xs.length).yes h
    obtain ⟨a', b', ⟨i', j', k1, k2, ⟨k3, k4⟩, k5, k6⟩, d'⟩ := (told_out sb sa ys xs ys.length).yes h'
    have o1 := hT.1.box i c3
    have o2 := hT.2.box j c4
    have N := c5.near o1 o2
    refine ⟨?_, a, b, ?_, ?_, ⟨i, j, c1, c2, c3, c4, by rw [c6]; exact N⟩, ?_⟩
    · have e1 := d j' i' ⟨k4, k3⟩ k5.symm
      have e2 := d' j i ⟨c4, c3⟩ c5.symm
      rw [← touchT_symm k5, ← k6] at e1
      rw [← touchT_symm c5, ← c6] at e2
      omega
    · rw [c6]; have := N.1; have := o1.2.2.2.2.2.1; omega
    · rw [c6]; have := N.1; have := o1.2.2.2.2.2.2.2; omega
    · rintro t ht ⟨i2, j2, m1, m2, m3⟩
      obtain ⟨q1, q2⟩ := m3.touch
      have := d i2 j2 ⟨m1, m2⟩ q1
      omega
  · rw [meetM_no hT] at h; cases h
theorem meet_no (h : (meetM sa sb xs ys).f = false) : meetM sa sb xs ys = cl0 ∧ (TubeOk sa xs → TubeOk sb ys → ¬ Ever xs ys) := by
  by_cases hT : TubeOk sa xs ∧ TubeOk sb ys
  · rw [meetM_yes hT.1 hT.2] at h ⊢
    obtain ⟨a, b⟩ := (told_out sa sb xs ys xs.length).no h
    refine ⟨a, fun _ _ => ?_⟩
    rintro (⟨_, _, i, j, h1, h2, h3⟩ | ⟨_, _, i, j, h1, h2, h3⟩)
    · exact b i j ⟨h1, h2⟩ h3.touch.1
    · exact b i j ⟨h1, h2⟩ h3.touch.1
  · rw [meetM_no hT]; exact ⟨rfl, fun h1 h2 => absurd ⟨h1, h2⟩ hT⟩
end
end Go.Proofs.Ytpeojnknfonmlaa.LL
