/- Plain mathematics: what is left of a path: its flights, its tube. -/
import Derived.Test.YtpeojnknfonmlaaPE
import Derived.Test.YtpeojnknfonmlaaJ3
import Derived.Test.YtpeojnknfonmlaaJ6
set_option linter.unusedVariables false
set_option linter.unusedSimpArgs false
namespace Go.Proofs.Ytpeojnknfonmlaa.LL
/-- a flight along the steps from one on; its first tick is free -/
structure From_ (p : Path) (st : Nat) (g : Nat → Int) : Prop where
  low : ∀ k, 0 < k → k ≤ p.steps.length - st → lowB p (st + k) ≤ g k
  high : ∀ k, 0 < k → k ≤ p.steps.length - st → g k ≤ highB p (st + k)
  quick : ∀ k, k < p.steps.length - st → g k + p.q ≤ g (k + 1)
  slow : ∀ k, k < p.steps.length - st → (p.at_ (st + k)).hold = false → g (k + 1) ≤ g k + p.s
section
variable {p : Path} {st : Nat} {fr by_ now : Int} {g : Nat → Int}
theorem tl_low (hst : st < p.steps.length) (k : Nat) (hk : k ≤ p.steps.length - st) : lowB (tlP p st fr by_ now) k = if k = 0 then fr else if k = 1 then max (lowB p (st + 1)) (now + 1) else lowB p (st + k) := by
  unfold lowB
  rw [tlP_len]
  by_cases h : k < p.steps.length - st
  · rw [if_pos h, tlP_at p st fr by_ now k h]
    unfold tlF
    by_cases h0 : k = 0
    · rw [if_pos h0, if_pos h0]; rfl
    · rw [if_neg h0, if_neg h0]
      by_cases h1 : k = 1
      · subst h1; rw [if_pos rfl, if_pos rfl, if_pos (by omega)]; rfl
      · rw [if_neg h1, if_neg h1, if_pos (by omega)]; rfl
  · obtain rfl : k = p.steps.length - st := by omega
    rw [if_neg h, if_neg (by omega : ¬ p.steps.length - st = 0)]
    unfold tlP
    simp only
    by_cases h1 : st + 1 < p.steps.length
    · rw [if_pos h1, if_neg (by omega), if_neg (by omega)]
    · rw [if_neg h1, if_pos (by omega), if_neg (by omega)]
theorem tl_high (hst : st < p.steps.length) (k : Nat) (hk : k ≤ p.steps.length - st) : highB (tlP p st fr by_ now) k = if k = 0 then by_ else highB p (st + k) := by
  unfold highB
  rw [tlP_len]
  by_cases h : k < p.steps.length - st
  · rw [if_pos h, tlP_at p st fr by_ now k h]
    unfold tlF
    by_cases h0 : k = 0
    · rw [if_pos h0, if_pos h0]; rfl
    · rw [if_neg h0, if_neg h0]
      by_cases h1 : k = 1
      · subst h1; rw [if_pos rfl, if_pos (by omega)]; rfl
      · rw [if_neg h1, if_pos (by omega)]; rfl
  · rw [if_neg h, if_neg (by omega), if_neg (by omega)]
    rfl
theorem tl_hold (k : Nat) (hk : k < p.steps.length - st) : ((tlP p st fr by_ now).at_ k).hold = (p.at_ (st + k)).hold := by
  rw [tlP_at p st fr by_ now k hk]
  unfold tlF
  by_cases h0 : k = 0
  · subst h0; rfl
  · by_cases h1 : k = 1
    · subst h1; rfl
    · rw [if_neg h0, if_neg h1]; rfl
theorem tl_flight (hst : st < p.steps.length) : Flight (tlP p st fr by_ now) g ↔ From_ p st g ∧ fr ≤ g 0 ∧ g 0 ≤ by_ ∧ now + 1 ≤ g 1 := by
  have e := tlP_len p st fr by_ now
  constructor
  · intro h
    refine ⟨⟨fun k h0 hk => ?_, fun k h0 hk => ?_, fun k hk => ?_, fun k hk hh => ?_⟩, ?_, ?_, ?_⟩
    · have := h.low k (by omega); rw [tl_low hst k hk, if_neg (by omega)] at this
      split at this
      · rename_i c; subst c; omega
      · exact this
    · have := h.high k (by omega); rwa [tl_high hst k hk, if_neg (by omega)] at this
    · exact h.quick k (by omega)
    · exact h.slow k (by omega) (by rw [tl_hold k hk]; exact hh)
    · have := h.low 0 (by omega); rwa [tl_low hst 0 (by omega), if_pos rfl] at this
    · have := h.high 0 (by omega); rwa [tl_high hst 0 (by omega), if_pos rfl] at this
    · have := h.low 1 (by omega); rw [tl_low hst 1 (by omega), if_neg (by omega), if_pos rfl] at this; omega
  · rintro ⟨h, h0, h1, h2⟩
    refine ⟨fun k hk => ?_, fun k hk => ?_, fun k hk => h.quick k (by omega), fun k hk hh => h.slow k (by omega) (by rwa [tl_hold k (by omega)] at hh)⟩
    · rw [tl_low hst k (by omega)]
      split
      · rename_i c; subst c; exact h0
      · split
        · rename_i c; subst c; have := h.low 1 (by omega) (by omega); omega
        · exact h.low k (by omega) (by omega)
    · rw [tl_high hst k (by omega)]
      split
      · rename_i c; subst c; exact h1
      · exact h.high k (by omega) (by omega)
/-- a flight that keeps to the path keeps to it from a step on -/
theorem Flight.from_ {f : Nat → Int} (h : Flight p f) : From_ p st (fun i => f (st + i)) :=
  ⟨fun k _ hk => h.low _ (by omega), fun k _ hk => h.high _ (by omega), fun k hk => h.quick (st + k) (by omega), fun k hk hh => h.slow (st + k) (by omega) hh⟩
/-- a flight from a step on can be begun so that it keeps to the path -/
theorem From_.whole (hqs : p.q ≤ p.s) (hS : SpansOk p) (hst : st < p.steps.length) (h : From_ p st g) (h0 : lo p st ≤ g 0) (h1 : g 0 ≤ hi p st) : ∃ f, Flight p f ∧ ∀ i, f (st + i) = g i := by
  have D := down_in hqs hS st (g 0) (by omega) h0 h1
  have q1 := fun k hk => hi_quick (p := p) k hk
  have q2 := fun k hk => lo_quick (p := p) hqs k hk
  have s1 := fun k hk hh => hi_slow (p := p) hqs k hk hh
  refine ⟨fun j => if st ≤ j then g (j - st) else down p st (g 0) (st - j), ⟨fun j hj => ?_, fun j hj => ?_, fun j hj => ?_, fun j hj hh => ?_⟩, fun i => ?_⟩
  · show lowB p j ≤ (if st ≤ j then g (j - st) else down p st (g 0) (st - j))
    by_cases c : st ≤ j
    · rw [if_pos c]
      by_cases c0 : j = st
      · subst c0; rw [Nat.sub_self]
        exact Int.le_trans (Int.le_trans (lowB_le_lowF p j) (lowF_le_lo p j hj)) h0
      · have := h.low (j - st) (by omega) (by omega)
        rwa [show st + (j - st) = j by omega] at this
    · rw [if_neg c]
      have := D (st - j) (by omega)
      rw [show st - (st - j) = j by omega] at this
      exact Int.le_trans (Int.le_trans (lowB_le_lowF p j) (lowF_le_lo p j hj)) this.1
  · show (if st ≤ j then g (j - st) else down p st (g 0) (st - j)) ≤ highB p j
    by_cases c : st ≤ j
    · rw [if_pos c]
      by_cases c0 : j = st
      · subst c0; rw [Nat.sub_self]
        exact Int.le_trans h1 (Int.le_trans (hi_le_highF p j hj) (highF_le_highB p j))
      · have := h.high (j - st) (by omega) (by omega)
        rwa [show st + (j - st) = j by omega] at this
    · rw [if_neg c]
      have := D (st - j) (by omega)
      rw [show st - (st - j) = j by omega] at this
      exact Int.le_trans this.2 (Int.le_trans (hi_le_highF p j hj) (highF_le_highB p j))
  · show (if st ≤ j then g (j - st) else down p st (g 0) (st - j)) + p.q ≤ (if st ≤ j + 1 then g (j + 1 - st) else down p st (g 0) (st - (j + 1)))
    by_cases c : st ≤ j
    · rw [if_pos c, if_pos (by omega), show j + 1 - st = (j - st) + 1 by omega]
      exact h.quick (j - st) (by omega)
    · rw [if_neg c]
      have e : st - j = (st - (j + 1)) + 1 := by omega
      by_cases c2 : st ≤ j + 1
      · obtain rfl : st = j + 1 := by omega
        rw [if_pos (by omega), e, Nat.sub_self]
        simp only [down]; omega
      · rw [if_neg c2, e]
        simp only [down]; omega
  · show (if st ≤ j + 1 then g (j + 1 - st) else down p st (g 0) (st - (j + 1))) ≤ (if st ≤ j then g (j - st) else down p st (g 0) (st - j)) + p.s
    by_cases c : st ≤ j
    · rw [if_pos c, if_pos (by omega), show j + 1 - st = (j - st) + 1 by omega]
      exact h.slow (j - st) (by omega) (by rw [show st + (j - st) = j by omega]; exact hh)
    · rw [if_neg c]
      have e : st - j = (st - (j + 1)) + 1 := by omega
      have g1 := s1 j hj hh
      have g2 := q2 j hj
      by_cases c2 : st ≤ j + 1
      · obtain rfl : st = j + 1 := by omega
        rw [if_pos (by omega), e, Nat.sub_self]
        simp only [down]
        rw [show j + 1 - (0 + 1) = j by omega]
        have := hqs
        omega
      · have d1 := D (st - (j + 1)) (by omega)
        rw [show st - (st - (j + 1)) = j + 1 by omega] at d1
        rw [if_neg c2, e]
        simp only [down]
        rw [show st - (st - (j + 1) + 1) = j by omega]
        omega
  · show (if st ≤ st + i then g (st + i - st) else _) = g i
    rw [if_pos (by omega), Nat.add_sub_cancel_left]
end
/-! ### what the laws ask -/
section
variable {p : Path} {st now en : Int}
theorem In.nat {st : Int} {n : Nat} (h : In st 0 ((n : Int) - 1)) : ∃ k : Nat, st = k ∧ k < n := by
  obtain ⟨a, b⟩ := h
  exact ⟨st.toNat, by omega, by omega⟩
theorem CanRest.lt (h : CanRest p st en now) : st.toNat < p.steps.length := by
  obtain ⟨a, b⟩ := h.2.1; omega
theorem CanSeen.lt (h : CanSeen p st now) : st.toNat < p.steps.length := by
  obtain ⟨a, b⟩ := h.2.1; omega
theorem CanRest.flies' (h : CanRest p st en now) : Flies (rsP p st en now) :=
  (tlP_flies h.1 h.lt (by omega) (by omega)).2 h.2.2.2.2.2
theorem CanSeen.flies' (h : CanSeen p st now) : Flies (snP p st now) :=
  (tlP_flies h.1 h.lt (lo_ge p _ h.lt) (by have := hi_le p _ h.lt; omega)).2 h.2.2.2.2
theorem rsP_len (p : Path) (st en now : Int) : (rsP p st en now).steps.length = p.steps.length - st.toNat := tlP_len ..
theorem snP_len (p : Path) (st now : Int) : (snP p st now).steps.length = p.steps.length - st.toNat := tlP_len ..
/-- who entered at a tick entered at that tick, and leaves later than now -/
theorem rest_first (h : CanRest p st en now) : lo (rsP p st en now) 0 = en ∧ hi (rsP p st en now) 0 = en ∧ now < lo (rsP p st en now) 1 := by
  have F := h.flies'
  have a := (tl_flight h.lt).1 (flight_lo F.1.qs F.2)
  have b := (tl_flight h.lt).1 (flight_hi F.1.qs F.2)
  have a1 := a.2.1; have a2 := a.2.2.1; have a3 := a.2.2.2
  have b1 := b.2.1; have b2 := b.2.2.1
  unfold rsP
  omega
/-- of whom that is seen some flights are those of one who entered at a tick -/
theorem seen_rest {g : Nat → Int} (h : CanSeen p st now) (hg : Flight (snP p st now) g) : CanRest p st (g 0) now ∧ Flight (rsP p st (g 0) now) g := by
  obtain ⟨a, a1, a2, a3⟩ := (tl_flight h.lt).1 hg
  obtain ⟨hP, hI, ⟨n0, n1⟩, hS, _⟩ := h
  have hlt : st.toNat < p.steps.length := by obtain ⟨a, b⟩ := hI; omega
  have l0 := lo_0 p hP.win st.toNat (by omega)
  have l1 := lo_ge p _ hlt
  have l2 := hi_le p _ hlt
  have F : Flight (rsP p st (g 0) now) g := (tl_flight hlt).2 ⟨a, by omega, by omega, a3⟩
  exact ⟨⟨hP, hI, by omega, by omega, n1, F.spans⟩, F⟩
theorem seen_can (h : CanSeen p st now) (t : Int) (h0 : lo (snP p st now) 0 ≤ t) (h1 : t ≤ hi (snP p st now) 0) : CanRest p st t now := by
  have F := h.flies'
  obtain ⟨g, hg, rfl⟩ := tight F.1.qs F.2 0 (Nat.zero_le _) t h0 h1
  exact (seen_rest h hg).1
/-- a flight of one who entered is one of those that are seen -/
theorem rest_seen {g : Nat → Int} (h : CanSeen p st now) (h0 : lo p st.toNat ≤ en) (h1 : en ≤ hi p st.toNat) (hn : en ≤ now) (hg : Flight (rsP p st en now) g) : Flight (snP p st now) g := by
  obtain ⟨a, a1, a2, a3⟩ := (tl_flight h.lt).1 hg
  exact (tl_flight h.lt).2 ⟨a, by omega, by omega, a3⟩
/-- a tube whose boxes are boxes of another one, from one on, or smaller -/
theorem small_of {A B : List Box} (o : Nat) (hl : A.length + o ≤ B.length) (h : ∀ i, i < A.length → (nthB A i).x = (nthB B (o + i)).x ∧ (nthB A i).y = (nthB B (o + i)).y ∧ (nthB A i).lo = (nthB B (o + i)).lo ∧ (nthB A i).hi = (nthB B (o + i)).hi ∧ (nthB B (o + i)).i ≤ (nthB A i).i ∧ (nthB A i).o ≤ (nthB B (o + i)).o) : Small A B := fun a ha => by
  obtain ⟨i, hi, rfl⟩ := List.getElem_of_mem ha
  obtain ⟨a1, a2, a3, a4, a5, a6⟩ := h i hi
  have e : nthB A i = A[i] := by unfold nthB; rw [List.getD_eq_getElem?_getD, List.getElem?_eq_getElem hi]; rfl
  rw [e] at a1 a2 a3 a4 a5 a6
  exact .inr ⟨_, nthB_mem (show o + i < B.length by omega), a1, a2, by omega, by omega, a5, a6⟩
theorem tube_nth (h : Flies p) (i : Nat) (hi : i < p.steps.length) : nthB (tubeM p) i = boxAt p i := by
  rw [tubeM_yes h]; exact tab_getD hi
theorem tube_len_yes (h : Flies p) : (tubeM p).length = p.steps.length := by rw [tubeM_yes h]; exact tab_len _ _
theorem tl_cell {p : Path} {st : Nat} {fr by_ now : Int} (i : Nat) (hi : i < p.steps.length - st) : (nth (tlP p st fr by_ now).steps i).x = (nth p.steps (st + i)).x ∧ (nth (tlP p st fr by_ now).steps i).y = (nth p.steps (st + i)).y ∧ (nth (tlP p st fr by_ now).steps i).lo = (nth p.steps (st + i)).lo ∧ (nth (tlP p st fr by_ now).steps i).hi = (nth p.steps (st + i)).hi := by
  have h := tlF_same p st fr by_ now i (by omega)
  have e : nth (tlP p st fr by_ now).steps i = tlF p st fr by_ now i := tab_getD hi
  rw [e]
  rw [drP_at p st i (by omega)] at h
  exact h
/-- the tube of one who entered is within that of those who are seen -/
theorem rest_small (h : CanSeen p st now) (hr : CanRest p st en now) (h0 : lo p st.toNat ≤ en) (h1 : en ≤ hi p st.toNat) : Small (tubeM (rsP p st en now)) (tubeM (snP p st now)) := by
  have F := hr.flies'
  have G := h.flies'
  have e1 := rsP_len p st en now
  have e2 := snP_len p st now
  have g1 := rest_seen h h0 h1 hr.2.2.2.1 (flight_lo F.1.qs F.2)
  have g2 := rest_seen h h0 h1 hr.2.2.2.1 (flight_hi F.1.qs F.2)
  refine small_of 0 (by rw [tube_len_yes F, tube_len_yes G]; omega) fun i hi => ?_
  rw [tube_len_yes F] at hi
  rw [Nat.zero_add, tube_nth F i hi, tube_nth G i (by omega)]
  have c1 := tl_cell (p := p) (st := st.toNat) (fr := max (nth p.steps st.toNat).fr en) (by_ := min (nth p.steps st.toNat).by_ en) (now := now) i (by omega)
  have c2 := tl_cell (p := p) (st := st.toNat) (fr := lo p st.toNat) (by_ := min (LL.hi p st.toNat) now) (now := now) i (by omega)
  have i1 := g1.in_ i (by omega)
  have i2 := g2.in_ (i + 1) (by omega)
  refine ⟨c1.1.trans c2.1.symm, c1.2.1.trans c2.2.1.symm, c1.2.2.1.trans c2.2.2.1.symm, c1.2.2.2.trans c2.2.2.2.symm, i1.1, ?_⟩
  show LL.hi _ (i + 1) - 1 ≤ LL.hi _ (i + 1) - 1
  omega
/-- the tube of those who are seen is within that of the path, from the step on -/
theorem seen_small' (h : CanSeen p st now) {B : List Box} {o : Nat} (hB : ∀ i, i < p.steps.length - st.toNat → nthB B (o + i) = boxAt p (st.toNat + i)) (hl : (p.steps.length - st.toNat) + o ≤ B.length) : Small (tubeM (snP p st now)) B := by
  have G := h.flies'
  have e2 := snP_len p st now
  have hlt := h.lt
  refine small_of o (by rw [tube_len_yes G]; omega) fun i hi => ?_
  rw [tube_len_yes G] at hi
  rw [tube_nth G i hi, hB i (by omega)]
  have c2 := tl_cell (p := p) (st := st.toNat) (fr := lo p st.toNat) (by_ := min (LL.hi p st.toNat) now) (now := now) i (by omega)
  have key : ∀ g, Flight (snP p st now) g → ∀ j, j ≤ p.steps.length - st.toNat → lo p (st.toNat + j) ≤ g j ∧ g j ≤ LL.hi p (st.toNat + j) := fun g hg j hj => by
    obtain ⟨a, a1, a2, a3⟩ := (tl_flight hlt).1 hg
    obtain ⟨f, hf, he⟩ := a.whole h.1.qs h.2.2.2.1 hlt a1 (by omega)
    have := hf.in_ (st.toNat + j) (by omega)
    rwa [he j] at this
  have k1 := key _ (flight_lo G.1.qs G.2) i (by omega)
  have k2 := key _ (flight_hi G.1.qs G.2) (i + 1) (by omega)
  refine ⟨c2.1, c2.2.1, c2.2.2.1, c2.2.2.2, k1.1, ?_⟩
  show LL.hi _ (i + 1) - 1 ≤ LL.hi _ (st.toNat + i + 1) - 1
  have := k2.2
  rw [show st.toNat + (i + 1) = st.toNat + i + 1 by omega] at this
  omega
theorem seen_small (h : CanSeen p st now) : Small (tubeM (snP p st now)) (tubeM p) := by
  have hF : Flies p := ⟨h.1, h.2.2.2.1⟩
  have hlt := h.lt
  refine seen_small' (o := st.toNat) h (fun i hi => tube_nth hF _ (by omega)) (by rw [tube_len_yes hF]; omega)
theorem seen_drop (h : CanSeen p st now) : Small (tubeM (snP p st now)) ((tubeM p).drop st.toNat) := by
  have hF : Flies p := ⟨h.1, h.2.2.2.1⟩
  have hlt := h.lt
  refine seen_small' (o := 0) h (fun i hi => ?_) (by rw [List.length_drop, tube_len_yes hF]; omega)
  rw [Nat.zero_add, ← tube_nth hF _ (by omega)]
  unfold nthB
  simp [List.getD_eq_getElem?_getD, List.getElem?_drop]
/-- a flight is among those of one who entered when it did, and among those who are seen -/
theorem flight_rest {f : Nat → Int} (hP : PathOk p) (hf : Flight p f) (k : Nat) (hk : k < p.steps.length) (t : Int) (h0 : f k ≤ t) (h1 : t < f (k + 1)) : CanRest p k (f k) t ∧ CanSeen p k t ∧ Flight (rsP p k (f k) t) (fun i => f (k + i)) ∧ Flight (snP p k t) (fun i => f (k + i)) ∧ lo p k ≤ f k ∧ f k ≤ hi p k := by
  have hS := hf.spans
  have I := hf.in_ k (by omega)
  have W := hP.win
  have l0 := lo_0 p W k (by omega)
  have I1 := hf.in_ (k + 1) (by omega)
  have h9 := hi_1 p W (k + 1) (by omega)
  have b1 := hf.low k (by omega)
  have b2 := hf.high k (by omega)
  unfold lowB at b1; unfold highB at b2
  rw [if_pos hk] at b1 b2
  unfold Path.at_ at b1 b2
  have e : (k : Int).toNat = k := Int.toNat_natCast k
  have F1 : Flight (rsP p k (f k) t) (fun i => f (k + i)) := by
    unfold rsP; rw [e]
    exact (tl_flight hk).2 ⟨hf.from_, by simp only [Nat.add_zero]; omega, by simp only [Nat.add_zero]; omega, by omega⟩
  have F2 : Flight (snP p k t) (fun i => f (k + i)) := by
    unfold snP; rw [e]
    exact (tl_flight hk).2 ⟨hf.from_, by simp only [Nat.add_zero]; omega, by simp only [Nat.add_zero]; omega, by omega⟩
  have hI : In (k : Int) 0 ((p.steps.length : Int) - 1) := ⟨by omega, by omega⟩
  exact ⟨⟨hP, hI, by omega, h0, by omega, F1.spans⟩, ⟨hP, hI, ⟨by omega, by omega⟩, hS, F2.spans⟩, F1, F2, I.1, I.2⟩
end
end Go.Proofs.Ytpeojnknfonmlaa.LL
