/- Plain mathematics: how a flight that has begun can be gone on with. -/
import Derived.Test.YtpeojnknfonmlaaPD
import Derived.Test.YtpeojnknfonmlaaD4
set_option linter.unusedVariables false
set_option linter.unusedSimpArgs false
namespace Go.Proofs.Ytpeojnknfonmlaa.LL
section
variable {p : Path} {f : List Int}
theorem hdP_hold (i : Nat) (hi : i < p.steps.length) : ((hdP p f).at_ i).hold = (p.at_ i).hold := by
  rw [hdP_at p f i hi]; split <;> rfl
/-- a flight of the path that begins as told -/
def Ext (p : Path) (f : List Int) : Prop := ∃ g, Flight p g ∧ ∀ j, j < f.length → g j = nthI f j
theorem Flight.begun {g : Nat → Int} (h : Flight (hdP p f) g) (hl : f.length ≤ p.steps.length) : Flight p g ∧ ∀ j, j < f.length → g j = nthI f j := by
  have e := hdP_len p f
  refine ⟨⟨fun j hj => ?_, fun j hj => ?_, fun j hj => ?_, fun j hj hh => ?_⟩, fun j hj => ?_⟩
  · have := h.low j (by omega); rw [hdP_lowB p f j hl hj] at this; split at this <;> omega
  · have := h.high j (by omega); rw [hdP_highB p f j hl hj] at this; split at this <;> omega
  · exact h.quick j (by omega)
  · exact h.slow j (by omega) (by rw [hdP_hold j hj]; exact hh)
  · have l1 := h.low j (by omega)
    have l2 := h.high j (by omega)
    rw [hdP_lowB p f j hl (by omega), if_pos hj] at l1
    rw [hdP_highB p f j hl (by omega), if_pos hj] at l2
    omega
theorem Flight.begin {g : Nat → Int} (h : Flight p g) (hl : f.length ≤ p.steps.length) (he : ∀ j, j < f.length → g j = nthI f j) : Flight (hdP p f) g := by
  have e := hdP_len p f
  refine ⟨fun j hj => ?_, fun j hj => ?_, fun j hj => ?_, fun j hj hh => ?_⟩
  · have := h.low j (by omega); rw [hdP_lowB p f j hl (by omega)]
    split
    · rename_i c; have := he j c; omega
    · exact this
  · have := h.high j (by omega); rw [hdP_highB p f j hl (by omega)]
    split
    · rename_i c; have := he j c; omega
    · exact this
  · exact h.quick j (by omega)
  · exact h.slow j (by omega) (by rw [hdP_hold j (by omega)] at hh; exact hh)
theorem canNext_ext (hP : PathOk p) (hl : f.length ≤ p.steps.length) : CanNext p f ↔ Ext p f := by
  constructor
  · rintro ⟨_, _, hS⟩
    exact ⟨_, (flight_lo (p := hdP p f) hP.qs hS).begun hl⟩
  · rintro ⟨g, hg, he⟩
    exact ⟨hP, hl, (hg.begin hl he).spans⟩
theorem nthI_snoc_lt (f : List Int) (t : Int) (j : Nat) (h : j < f.length) : nthI (f ++ [t]) j = nthI f j := by
  unfold nthI; simp [List.getD_eq_getElem?_getD, List.getElem?_append_left h]
theorem nthI_snoc_at (f : List Int) (t : Int) : nthI (f ++ [t]) f.length = t := by
  unfold nthI; simp [List.getD_eq_getElem?_getD]
theorem ext_snoc (t : Int) : Ext p (f ++ [t]) ↔ ∃ g, Flight p g ∧ (∀ j, j < f.length → g j = nthI f j) ∧ g f.length = t := by
  constructor
  · rintro ⟨g, hg, he⟩
    refine ⟨g, hg, fun j hj => ?_, ?_⟩
    · rw [he j (by simp; omega), nthI_snoc_lt f t j hj]
    · rw [he _ (by simp), nthI_snoc_at]
  · rintro ⟨g, hg, he, ht⟩
    refine ⟨g, hg, fun j hj => ?_⟩
    simp at hj
    by_cases c : j < f.length
    · rw [he j c, nthI_snoc_lt f t j c]
    · obtain rfl : j = f.length := by omega
      rw [ht, nthI_snoc_at]
/-- the ticks at which it can be gone on with -/
theorem ext_next (hC : CanNext p f) (t : Int) : Ext p (f ++ [t]) ↔ nextLo p f ≤ t ∧ t ≤ nextHi p f := by
  rw [ext_snoc, nextLo_yes hC, nextHi_yes hC]
  obtain ⟨hP, hl, hS⟩ := hC
  constructor
  · rintro ⟨g, hg, he, ht⟩
    have := (hg.begin hl he).in_ f.length (by rw [hdP_len]; exact hl)
    rw [ht] at this; exact this
  · rintro ⟨h0, h1⟩
    obtain ⟨g, hg, ht⟩ := tight (p := hdP p f) hP.qs hS f.length (by rw [hdP_len]; exact hl) t h0 h1
    obtain ⟨h2, h3⟩ := hg.begun hl
    exact ⟨g, h2, h3, ht⟩
theorem next_le (hC : CanNext p f) : nextLo p f ≤ nextHi p f := by
  rw [nextLo_yes hC, nextHi_yes hC]; exact hC.2.2.2 _ (by rw [hdP_len]; exact hC.2.1)
theorem next_rng (hC : CanNext p f) : 0 ≤ nextLo p f ∧ nextHi p f ≤ 10000 := by
  rw [nextLo_yes hC, nextHi_yes hC]
  have W := hdP_win hC.1 hC.2.1
  exact ⟨lo_0 _ W _ (by rw [hdP_len]; exact hC.2.1), hi_1 _ W _ (by rw [hdP_len]; exact hC.2.1)⟩
theorem ext_full (hl : f.length = p.steps.length + 1) : Ext p f ↔ Allowed p f := by
  constructor
  · rintro ⟨g, hg, he⟩
    refine ⟨hl, fun j hj => ?_, fun j hj => ?_, fun j hj => ?_, fun j hj hh => ?_⟩
    · rw [← he j (by omega)]; exact hg.low j hj
    · rw [← he j (by omega)]; exact hg.high j hj
    · rw [← he j (by omega), ← he (j + 1) (by omega)]; exact hg.quick j hj
    · rw [← he j (by omega), ← he (j + 1) (by omega)]; exact hg.slow j hj hh
  · rintro ⟨_, hg⟩
    exact ⟨_, hg, fun _ _ => rfl⟩
theorem pick_in {asked : List Int} (hC : CanNext p f) (i : Nat) : nextLo p f ≤ pick p f asked i ∧ pick p f asked i ≤ nextHi p f := by
  have := next_le hC
  by_cases h : i < asked.length
  · rw [pick_lt h]; omega
  · rw [pick_ge h]; omega
theorem goTo_fine {asked : List Int} (hP : PathOk p) : ∀ (m : Nat) (out : List Int) (i : Nat), out.length + m = p.steps.length + 1 → Ext p out → ∃ r, goTo p asked out i = some r ∧ Allowed p r := by
  intro m
  induction m with
  | zero =>
    intro out i hm hE
    have hA := (ext_full (by omega)).1 hE
    exact ⟨out, goTo_yes (by omega) ((allowed_lawful hP).1 hA), hA⟩
  | succ m ih =>
    intro out i hm hE
    have hC := (canNext_ext hP (by omega)).2 hE
    rw [goTo_on (by omega) hC]
    exact ih _ _ (by simp; omega) ((ext_next hC _).2 (pick_in hC i))
theorem goM_ext {asked : List Int} (hP : PathOk p) (hl : f.length ≤ p.steps.length + 1) (hE : Ext p f) : ∃ r, goM p f asked = some r ∧ Allowed p r := by
  rw [goM_ok hP]; exact goTo_fine hP (p.steps.length + 1 - f.length) f 0 (by omega) hE
theorem goM_not {asked : List Int} (hP : PathOk p) (hE : ¬ Ext p f) : goM p f asked = none := by
  rw [goM_ok hP]
  by_cases h : f.length ≤ p.steps.length
  · exact goTo_no h fun hC => hE ((canNext_ext hP h).1 hC)
  · refine goTo_bad (by omega) fun hL => hE ?_
    exact (ext_full hL.2.1).2 ((allowed_lawful hP).2 hL)
/-- it goes on at a tick just if the tick is one of those that are told -/
theorem go_at {t : Int} (hC : CanNext p f) (h : nextLo p f ≤ t ∧ t ≤ nextHi p f) : goB p (f ++ [t]) [] = true ∧ Allowed p (goL p (f ++ [t]) []) := by
  obtain ⟨r, h1, h2⟩ := goM_ext (asked := []) hC.1 (f := f ++ [t]) (by have := hC.2.1; simp; omega) ((ext_next hC t).2 h)
  rw [goB_some h1, goL_some h1]; exact ⟨rfl, h2⟩
theorem go_off {t : Int} (hC : CanNext p f) (h : ¬ (nextLo p f ≤ t ∧ t ≤ nextHi p f)) : goB p (f ++ [t]) [] = false ∧ goL p (f ++ [t]) [] = [] := by
  have h1 := goM_not (asked := []) hC.1 (f := f ++ [t]) fun hE => h ((ext_next hC t).1 hE)
  exact ⟨goB_none h1, goL_none h1⟩
/-- it cannot be gone on with: it is none, or it is there -/
theorem go_stuck (hC : ¬ CanNext p f) : (goB p f [] = false ∧ goL p f [] = []) ∨ (p.steps.length < f.length ∧ goB p f [] = true ∧ Lawful p f) := by
  by_cases hP : PathOk p
  · by_cases h : f.length ≤ p.steps.length
    · have h1 : goM p f [] = none := by rw [goM_ok hP]; exact goTo_no h hC
      exact .inl ⟨goB_none h1, goL_none h1⟩
    · by_cases hL : Lawful p f
      · refine .inr ⟨by omega, goB_some (out := f) (by rw [goM_ok hP]; exact goTo_yes (by omega) hL), hL⟩
      · have h1 : goM p f [] = none := by rw [goM_ok hP]; exact goTo_bad (by omega) hL
        exact .inl ⟨goB_none h1, goL_none h1⟩
  · exact .inl ⟨goB_none (goM_no hP), goL_none (goM_no hP)⟩
theorem go_len {asked : List Int} (h : goB p f asked = true) (hl : f.length ≤ p.steps.length + 1) : (goL p f asked).length = p.steps.length + 1 ∧ PathOk p ∧ Lawful p (goL p f asked) := by
  unfold goB at h
  cases hG : goM p f asked with
  | none => rw [hG] at h; cases h
  | some r =>
    rw [goL_some hG]
    unfold goM at hG
    split at hG
    · rename_i hP
      unfold goTo at hG
      cases hF : goF p asked (p.steps.length + 1 - f.length) f 0 with
      | none => rw [hF] at hG; cases hG
      | some q =>
        rw [hF] at hG
        have hL := goF_len _ _ _ _ hF
        have hG' : (if Lawful p q then some q else none) = some r := hG
        split at hG'
        · rename_i hLw
          injection hG' with e
          subst e
          exact ⟨by omega, hP, hLw⟩
        · cases hG'
    · cases hG
end
end Go.Proofs.Ytpeojnknfonmlaa.LL
