/- Plain mathematics: flights that have begun, what is left of a path. -/
import Derived.Test.YtkpnjnkfbhomgaaC2
set_option linter.unusedVariables false
set_option linter.unusedSimpArgs false
namespace Go.Proofs.Ytkpnjnkfbhomgaa.LL
/-! ### flights that have begun -/
def hdS (f : List Int) (i : Nat) (s : Step) : Step := ⟨s.x, s.y, s.lo, s.hi, max s.fr (nthI f i), min s.by_ (nthI f i), s.hold⟩
def hdF (p : Path) (f : List Int) (i : Nat) : Step := hdS f i (nth p.steps i)
def hdFr (p : Path) (f : List Int) : Nat → Int
  | 0 => p.fr
  | k + 1 => if k < p.steps.length then hdFr p f k else max (hdFr p f k) (nthI f k)
def hdBy (p : Path) (f : List Int) : Nat → Int
  | 0 => p.by_
  | k + 1 => if k < p.steps.length then hdBy p f k else min (hdBy p f k) (nthI f k)
/-- the path whose first k entries are as they were -/
def hdK (p : Path) (f : List Int) (k : Nat) : Path := ⟨p.q, p.s, tab p.steps.length (mix (hdF p f) p.steps z0 k), hdFr p f k, hdBy p f k⟩
def hdP (p : Path) (f : List Int) : Path := hdK p f f.length
theorem hdFr_lt {p : Path} {f : List Int} : ∀ {k : Nat}, k ≤ p.steps.length → hdFr p f k = p.fr
  | 0, _ => rfl
  | k + 1, h => by rw [hdFr, if_pos (by omega), hdFr_lt (by omega)]
theorem hdBy_lt {p : Path} {f : List Int} : ∀ {k : Nat}, k ≤ p.steps.length → hdBy p f k = p.by_
  | 0, _ => rfl
  | k + 1, h => by rw [hdBy, if_pos (by omega), hdBy_lt (by omega)]
theorem hdK_len (p : Path) (f : List Int) (k : Nat) : (hdK p f k).steps.length = p.steps.length := tab_len _ _
theorem hdP_len (p : Path) (f : List Int) : (hdP p f).steps.length = p.steps.length := tab_len _ _
theorem hdK_zero (p : Path) (f : List Int) : hdK p f 0 = p := by unfold hdK; rw [mix_zero]; rfl
theorem hdK_nth (p : Path) (f : List Int) (k i : Nat) (h : i < p.steps.length) : nth (hdK p f k).steps i = if i < k then hdF p f i else nth p.steps i := by
  unfold nth hdK; rw [tab_getD h]; rfl
theorem hdP_at (p : Path) (f : List Int) (i : Nat) (h : i < p.steps.length) : (hdP p f).at_ i = if i < f.length then hdF p f i else p.at_ i := hdK_nth p f _ i h
theorem mix_ge {α : Type} (f : Nat → α) (xs : List α) (d : α) (k : Nat) (h : xs.length ≤ k) : tab xs.length (mix f xs d k) = tab xs.length f := tab_congr fun i hi => if_pos (by omega)
theorem hdP_lowB (p : Path) (f : List Int) (k : Nat) (h : f.length ≤ p.steps.length) (hk : k ≤ p.steps.length) : lowB (hdP p f) k = if k < f.length then max (lowB p k) (nthI f k) else lowB p k := by
  unfold lowB
  rw [hdP_len]
  by_cases h1 : k < p.steps.length
  · rw [if_pos h1, if_pos h1, hdP_at p f k h1]
    split <;> rfl
  · rw [if_neg h1, if_neg h1, if_neg (by omega)]
    exact hdFr_lt h
theorem hdP_highB (p : Path) (f : List Int) (k : Nat) (h : f.length ≤ p.steps.length) (hk : k ≤ p.steps.length) : highB (hdP p f) k = if k < f.length then min (highB p k) (nthI f k) else highB p k := by
  unfold highB
  rw [hdP_len]
  by_cases h1 : k < p.steps.length
  · rw [if_pos h1, if_pos h1, hdP_at p f k h1]
    split <;> rfl
  · rw [if_neg h1, if_neg h1, if_neg (by omega)]
    exact hdBy_lt h
theorem SpansOk.bounds {p : Path} (h : SpansOk p) (k : Nat) (hk : k ≤ p.steps.length) : lowB p k ≤ highB p k := by
  have := h.1 k hk; have := lowB_le_lowF p k; have := highF_le_highB p k; omega
/-- windows narrower than those of a path that is ok -/
theorem PathOk.narrow {p p' : Path} (h : PathOk p) (hq : p'.q = p.q) (hs : p'.s = p.s) (hl : p'.steps.length = p.steps.length) (hS : SpansOk p')
    (hc : ∀ i, i < p.steps.length → (p'.at_ i).x = (p.at_ i).x ∧ (p'.at_ i).y = (p.at_ i).y ∧ (p'.at_ i).lo = (p.at_ i).lo ∧ (p'.at_ i).hi = (p.at_ i).hi)
    (hlo : ∀ k, k ≤ p.steps.length → lowB p k ≤ lowB p' k) (hhi : ∀ k, k ≤ p.steps.length → highB p' k ≤ highB p k) : PathOk p' := by
  have W := h.win
  have B := fun k (hk : k ≤ p.steps.length) => hS.bounds k (by rw [hl]; exact hk)
  obtain ⟨⟨a, b, c⟩, ⟨d, e⟩, f, g, i, j⟩ := h
  refine ⟨⟨by rw [hq]; exact a, by rw [hq, hs]; exact b, by rw [hs]; exact c⟩, ⟨by rw [hl]; exact d, by rw [hl]; exact e⟩, ?_, ?_, ?_, ?_⟩
  · have h1 := hlo _ (Nat.le_refl _); have h2 := W.low _ (Nat.le_refl _)
    unfold lowB at h1 h2; rw [hl, if_neg (Nat.lt_irrefl _)] at h1; rw [if_neg (Nat.lt_irrefl _)] at h1 h2; omega
  · have h1 := B _ (Nat.le_refl _)
    unfold lowB highB at h1; rw [hl, if_neg (Nat.lt_irrefl _), if_neg (Nat.lt_irrefl _)] at h1; exact h1
  · have h1 := hhi _ (Nat.le_refl _); have h2 := W.high _ (Nat.le_refl _)
    unfold highB at h1 h2; rw [hl, if_neg (Nat.lt_irrefl _)] at h1; rw [if_neg (Nat.lt_irrefl _)] at h1 h2; omega
  · intro k hk
    rw [hl] at hk
    obtain ⟨⟨s1, s2, s3, s4, s5, s6, s7, s8⟩, hn⟩ := j k hk
    obtain ⟨c1, c2, c3, c4⟩ := hc k hk
    have l1 := hlo k (by omega); have l2 := hhi k (by omega); have l3 := B k (by omega)
    unfold lowB at l1 l3; unfold highB at l2 l3
    rw [hl, if_pos hk, if_pos hk] at l1 l2 l3
    unfold Path.at_ at c1 c2 c3 c4 l1 l2 l3
    refine ⟨⟨by rw [c1]; exact s1, by rw [c2]; exact s2, by rw [c3]; exact s3, by rw [c3, c4]; exact s4, by rw [c4]; exact s5, by omega, by omega, by omega⟩, fun h0 => ?_⟩
    obtain ⟨d1, d2, d3, d4⟩ := hc (k - 1) (by omega)
    unfold Path.at_ at d1 d2 d3 d4
    obtain ⟨n1, n2, n3, n4, n5⟩ := hn h0
    exact ⟨by rw [c1, c2, d1, d2]; exact n1, by rw [c1, d1]; exact n2, by rw [c2, d2]; exact n3, by rw [d3, c4]; exact n4, by rw [c3, d4]; exact n5⟩
theorem hdP_ok {p : Path} {f : List Int} (h : PathOk p) (hl : f.length ≤ p.steps.length) (hS : SpansOk (hdP p f)) : PathOk (hdP p f) := by
  refine h.narrow (p' := hdP p f) rfl rfl (hdP_len p f) hS (fun i hi => ?_) (fun k hk => ?_) (fun k hk => ?_)
  · rw [hdP_at p f i hi]
    split
    · exact ⟨rfl, rfl, rfl, rfl⟩
    · exact ⟨rfl, rfl, rfl, rfl⟩
  · rw [hdP_lowB p f k hl hk]; split <;> omega
  · rw [hdP_highB p f k hl hk]; split <;> omega
theorem hdP_win {p : Path} {f : List Int} (h : PathOk p) (hl : f.length ≤ p.steps.length) : Win (hdP p f) := by
  have W := h.win
  refine ⟨W.q0, W.q1, W.s0, W.s1, fun k hk => ?_, fun k hk => ?_⟩
  · rw [hdP_len] at hk; rw [hdP_lowB p f k hl hk]; have := W.low k hk; split <;> omega
  · rw [hdP_len] at hk; rw [hdP_highB p f k hl hk]; have := W.high k hk; split <;> omega
theorem hdP_out {p : Path} {f : List Int} (hl : f.length ≤ p.steps.length) {k : Nat} (hk : k < f.length) (h : ¬ In (nthI f k) (nth p.steps k).fr (nth p.steps k).by_) : ¬ SpansOk (hdP p f) := fun hS => by
  have := hS.bounds k (by rw [hdP_len]; omega)
  rw [hdP_lowB p f k hl (by omega), hdP_highB p f k hl (by omega), if_pos hk, if_pos hk] at this
  unfold lowB highB Path.at_ at this
  rw [if_pos (by omega), if_pos (by omega)] at this
  apply h; unfold In; omega
/-- a flight that has begun so can go on -/
def CanNext (p : Path) (f : List Int) : Prop := PathOk p ∧ f.length ≤ p.steps.length ∧ SpansOk (hdP p f)
instance (p : Path) (f : List Int) : Decidable (CanNext p f) := inferInstanceAs (Decidable (_ ∧ _))
def nextLo (p : Path) (f : List Int) : Int := if CanNext p f then lo (hdP p f) f.length else 0
def nextHi (p : Path) (f : List Int) : Int := if CanNext p f then hi (hdP p f) f.length else 0
/-! ### what is left of a path -/
def setW (s : Step) (fr by_ : Int) : Step := ⟨s.x, s.y, s.lo, s.hi, fr, by_, s.hold⟩
def tlF (p : Path) (st : Nat) (fr by_ now : Int) (i : Nat) : Step := if i = 0 then setW (nth p.steps st) fr by_ else if i = 1 then setW (nth p.steps (st + 1)) (max (nth p.steps (st + 1)).fr (now + 1)) (nth p.steps (st + 1)).by_ else nth p.steps (st + i)
def tlP (p : Path) (st : Nat) (fr by_ now : Int) : Path := ⟨p.q, p.s, tab (p.steps.length - st) (tlF p st fr by_ now), if st + 1 < p.steps.length then p.fr else max p.fr (now + 1), p.by_⟩
theorem tlP_len (p : Path) (st : Nat) (fr by_ now : Int) : (tlP p st fr by_ now).steps.length = p.steps.length - st := tab_len _ _
/-- the steps from one on, as they are -/
def drP (p : Path) (st : Nat) : Path := ⟨p.q, p.s, tab (p.steps.length - st) (fun i => nth p.steps (st + i)), p.fr, p.by_⟩
theorem drP_len (p : Path) (st : Nat) : (drP p st).steps.length = p.steps.length - st := tab_len _ _
theorem drP_at (p : Path) (st i : Nat) (h : st + i < p.steps.length) : (drP p st).at_ i = p.at_ (st + i) := by
  unfold Path.at_ nth drP; exact tab_getD (by omega)
theorem drP_ok {p : Path} (h : PathOk p) (st : Nat) (hst : st < p.steps.length) : PathOk (drP p st) := by
  obtain ⟨k, ⟨d, e⟩, f, g, i, j⟩ := h
  refine ⟨k, ⟨by rw [drP_len]; omega, by rw [drP_len]; omega⟩, f, g, i, fun m hm => ?_⟩
  rw [drP_len] at hm
  obtain ⟨s, n⟩ := j (st + m) (by omega)
  refine ⟨?_, fun h0 => ?_⟩
  · show StepOk ((drP p st).at_ m); rw [drP_at p st m (by omega)]; exact s
  · show NextOk ((drP p st).at_ (m - 1)) ((drP p st).at_ m)
    rw [drP_at p st m (by omega), drP_at p st (m - 1) (by omega)]
    have := n (by omega)
    rwa [show st + m - 1 = st + (m - 1) by omega] at this
theorem tlP_at (p : Path) (st : Nat) (fr by_ now : Int) (i : Nat) (h : i < p.steps.length - st) : (tlP p st fr by_ now).at_ i = tlF p st fr by_ now i := tab_getD h
theorem tlF_same (p : Path) (st : Nat) (fr by_ now : Int) (i : Nat) (h : st + i < p.steps.length) : (tlF p st fr by_ now i).x = ((drP p st).at_ i).x ∧ (tlF p st fr by_ now i).y = ((drP p st).at_ i).y ∧ (tlF p st fr by_ now i).lo = ((drP p st).at_ i).lo ∧ (tlF p st fr by_ now i).hi = ((drP p st).at_ i).hi := by
  rw [drP_at p st i h]
  unfold tlF Path.at_
  by_cases h0 : i = 0
  · subst h0; exact ⟨rfl, rfl, rfl, rfl⟩
  · by_cases h1 : i = 1
    · subst h1; exact ⟨rfl, rfl, rfl, rfl⟩
    · rw [if_neg h0, if_neg h1]; exact ⟨rfl, rfl, rfl, rfl⟩
section
variable {p : Path} {st : Nat} {fr by_ now : Int}
theorem tl_lowB (hf : (nth p.steps st).fr ≤ fr) (hst : st < p.steps.length) (k : Nat) (hk : k ≤ p.steps.length - st) : lowB (drP p st) k ≤ lowB (tlP p st fr by_ now) k := by
  unfold lowB
  rw [drP_len, tlP_len]
  by_cases h1 : k < p.steps.length - st
  · rw [if_pos h1, if_pos h1, drP_at p st k (by omega), tlP_at p st fr by_ now k h1]
    unfold tlF Path.at_
    by_cases h0 : k = 0
    · subst h0; exact hf
    · rw [if_neg h0]
      by_cases h2 : k = 1
      · subst h2; rw [if_pos rfl]; simp only [setW]; omega
      · rw [if_neg h2]; omega
  · rw [if_neg h1, if_neg h1]; simp only [drP, tlP]; split <;> omega
theorem tl_highB (hb : by_ ≤ (nth p.steps st).by_) (hst : st < p.steps.length) (k : Nat) (hk : k ≤ p.steps.length - st) : highB (tlP p st fr by_ now) k ≤ highB (drP p st) k := by
  unfold highB
  rw [drP_len, tlP_len]
  by_cases h1 : k < p.steps.length - st
  · rw [if_pos h1, if_pos h1, drP_at p st k (by omega), tlP_at p st fr by_ now k h1]
    unfold tlF Path.at_
    by_cases h0 : k = 0
    · subst h0; exact hb
    · rw [if_neg h0]
      by_cases h2 : k = 1
      · subst h2; rw [if_pos rfl]; simp only [setW]; omega
      · rw [if_neg h2]; omega
  · rw [if_neg h1, if_neg h1]; simp only [drP, tlP]; omega
theorem tlP_ok (h : PathOk p) (hst : st < p.steps.length) (hf : (nth p.steps st).fr ≤ fr) (hb : by_ ≤ (nth p.steps st).by_) (hS : SpansOk (tlP p st fr by_ now)) : PathOk (tlP p st fr by_ now) :=
  (drP_ok h st hst).narrow (p' := tlP p st fr by_ now) rfl rfl (by rw [drP_len, tlP_len]) hS
    (fun i hi => by rw [drP_len] at hi; rw [tlP_at p st fr by_ now i hi]; exact tlF_same p st fr by_ now i (by omega))
    (fun k hk => by rw [drP_len] at hk; exact tl_lowB hf hst k hk) (fun k hk => by rw [drP_len] at hk; exact tl_highB hb hst k hk)
theorem tlP_win (h : PathOk p) (hst : st < p.steps.length) (hf : (nth p.steps st).fr ≤ fr) (hb : by_ ≤ (nth p.steps st).by_) : Win (tlP p st fr by_ now) := by
  have W := (drP_ok h st hst).win
  refine ⟨W.q0, W.q1, W.s0, W.s1, fun k hk => ?_, fun k hk => ?_⟩
  · rw [tlP_len] at hk
    exact Int.le_trans (W.low k (by rw [drP_len]; exact hk)) (tl_lowB hf hst k hk)
  · rw [tlP_len] at hk
    exact Int.le_trans (tl_highB hb hst k hk) (W.high k (by rw [drP_len]; exact hk))
end
/-- there is a flight along what is left, and it is a path -/
theorem tlP_flies {p : Path} {st : Nat} {fr by_ now : Int} (h : PathOk p) (hst : st < p.steps.length) (hf : (nth p.steps st).fr ≤ fr) (hb : by_ ≤ (nth p.steps st).by_) : Flies (tlP p st fr by_ now) ↔ SpansOk (tlP p st fr by_ now) :=
  ⟨fun h => h.2, fun hS => ⟨tlP_ok h hst hf hb hS, hS⟩⟩
def rsP (p : Path) (st en now : Int) : Path := tlP p st.toNat (max (nth p.steps st.toNat).fr en) (min (nth p.steps st.toNat).by_ en) now
def CanRest (p : Path) (st en now : Int) : Prop := PathOk p ∧ In st 0 (p.steps.length - 1) ∧ 0 ≤ en ∧ en ≤ now ∧ now ≤ 10000 ∧ SpansOk (rsP p st en now)
instance (p : Path) (st en now : Int) : Decidable (CanRest p st en now) := inferInstanceAs (Decidable (_ ∧ _))
def restM (p : Path) (st en now : Int) : Path := if CanRest p st en now then rsP p st en now else p0
def snP (p : Path) (st now : Int) : Path := tlP p st.toNat (lo p st.toNat) (min (hi p st.toNat) now) now
def CanSeen (p : Path) (st now : Int) : Prop := PathOk p ∧ In st 0 (p.steps.length - 1) ∧ In now 0 10000 ∧ SpansOk p ∧ SpansOk (snP p st now)
instance (p : Path) (st now : Int) : Decidable (CanSeen p st now) := inferInstanceAs (Decidable (_ ∧ _))
def seenM (p : Path) (st now : Int) : Path := if CanSeen p st now then snP p st now else p0
theorem restM_yes {p : Path} {st en now : Int} (h : CanRest p st en now) : restM p st en now = rsP p st en now := if_pos h
theorem restM_no {p : Path} {st en now : Int} (h : ¬ CanRest p st en now) : restM p st en now = p0 := if_neg h
theorem seenM_yes {p : Path} {st now : Int} (h : CanSeen p st now) : seenM p st now = snP p st now := if_pos h
theorem seenM_no {p : Path} {st now : Int} (h : ¬ CanSeen p st now) : seenM p st now = p0 := if_neg h
theorem lo_ge (p : Path) (k : Nat) (hk : k < p.steps.length) : (nth p.steps k).fr ≤ lo p k := by
  have h1 := lowB_le_lowF p k; have h2 := lowF_le_lo p k (by omega)
  unfold lowB Path.at_ at h1; rw [if_pos hk] at h1; omega
theorem hi_le (p : Path) (k : Nat) (hk : k < p.steps.length) : hi p k ≤ (nth p.steps k).by_ := by
  have h1 := hi_le_highF p k (by omega); have h2 := highF_le_highB p k
  unfold highB Path.at_ at h2; rw [if_pos hk] at h2; omega
end Go.Proofs.Ytkpnjnkfbhomgaa.LL
