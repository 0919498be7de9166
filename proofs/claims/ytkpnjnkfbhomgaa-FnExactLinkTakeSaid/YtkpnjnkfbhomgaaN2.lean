/- Plain mathematics: words, aircraft, staying and going on. -/
import Derived.Test.YtkpnjnkfbhomgaaN1
import Derived.Test.YtkpnjnkfbhomgaaP2
set_option linter.unusedVariables false
set_option linter.unusedSimpArgs false
namespace Go.Proofs.Ytkpnjnkfbhomgaa.LL
structure Word where
  kind : Int
  name : ByteArray
  number : Int
  path : Path
structure Craft where
  name : ByteArray
  number : Int
  no : Int
  path : Path
  flown : List Int
/-- a path that is none -/
def NoPath (p : Path) : Prop := p.q = 0 ∧ p.s = 0 ∧ p.steps.length = 0 ∧ p.fr = 0 ∧ p.by_ = 0
instance (p : Path) : Decidable (NoPath p) := inferInstanceAs (Decidable (_ ∧ _))
def WordOk (w : Word) : Prop := In w.kind 1 6 ∧ NameOk w.name ∧ In w.number 1 1000000 ∧ ((w.kind ≤ 2 ∧ Flies w.path) ∨ (2 < w.kind ∧ NoPath w.path))
instance (w : Word) : Decidable (WordOk w) := inferInstanceAs (Decidable (_ ∧ _))
theorem tube_nil (s : ByteArray) : TubeOk s [] ↔ NameOk s := ⟨fun h => h.1, fun h => ⟨h, by simp, by simp⟩⟩
/-! ### waiting on the ground -/
/-- the path whose first step is not entered up to a tick -/
def wtP (p : Path) (t : Int) : Path := ⟨p.q, p.s, tab p.steps.length (upd (fun i => nth p.steps i) 0 (setW (nth p.steps 0) (max (nth p.steps 0).fr (t + 1)) (nth p.steps 0).by_)), p.fr, p.by_⟩
theorem wtP_len (p : Path) (t : Int) : (wtP p t).steps.length = p.steps.length := tab_len _ _
theorem wtP_at (p : Path) (t : Int) (i : Nat) (h : i < p.steps.length) : (wtP p t).at_ i = if i = 0 then setW (nth p.steps 0) (max (nth p.steps 0).fr (t + 1)) (nth p.steps 0).by_ else p.at_ i := tab_getD h
theorem wtP_lowB (p : Path) (t : Int) (h0 : 0 < p.steps.length) (k : Nat) (hk : k ≤ p.steps.length) : lowB (wtP p t) k = if k = 0 then max (lowB p 0) (t + 1) else lowB p k := by
  unfold lowB
  rw [wtP_len]
  by_cases h1 : k < p.steps.length
  · rw [if_pos h1, if_pos h1, wtP_at p t k h1]
    by_cases h2 : k = 0
    · subst h2; rw [if_pos rfl, if_pos rfl, if_pos h0]; rfl
    · rw [if_neg h2, if_neg h2]
  · rw [if_neg h1, if_neg h1, if_neg (by omega)]; rfl
theorem wtP_highB (p : Path) (t : Int) (k : Nat) (hk : k ≤ p.steps.length) : highB (wtP p t) k = highB p k := by
  unfold highB
  rw [wtP_len]
  by_cases h1 : k < p.steps.length
  · rw [if_pos h1, if_pos h1, wtP_at p t k h1]
    by_cases h2 : k = 0
    · subst h2; rw [if_pos rfl]; rfl
    · rw [if_neg h2]
  · rw [if_neg h1, if_neg h1]; rfl
theorem wtP_hold (p : Path) (t : Int) (k : Nat) (hk : k < p.steps.length) : ((wtP p t).at_ k).hold = (p.at_ k).hold := by
  rw [wtP_at p t k hk]
  split
  · rename_i h; subst h; rfl
  · rfl
theorem wtP_flight {p : Path} {t : Int} {f : Nat → Int} (h0 : 0 < p.steps.length) : Flight (wtP p t) f ↔ Flight p f ∧ t < f 0 := by
  constructor
  · intro h
    have l := fun k (hk : k ≤ p.steps.length) => h.low k (by rw [wtP_len]; exact hk)
    have u := fun k (hk : k ≤ p.steps.length) => h.high k (by rw [wtP_len]; exact hk)
    have l0 := l 0 (Nat.zero_le _)
    rw [wtP_lowB p t h0 0 (Nat.zero_le _), if_pos rfl] at l0
    refine ⟨⟨fun k hk => ?_, fun k hk => ?_, fun k hk => h.quick k (by rw [wtP_len]; exact hk), fun k hk hh => h.slow k (by rw [wtP_len]; exact hk) (by rw [wtP_hold p t k hk]; exact hh)⟩, by omega⟩
    · have := l k hk
      rw [wtP_lowB p t h0 k hk] at this
      split at this
      · rename_i e; subst e; omega
      · exact this
    · have := u k hk
      rwa [wtP_highB p t k hk] at this
  · rintro ⟨h, ht⟩
    refine ⟨fun k hk => ?_, fun k hk => ?_, fun k hk => h.quick k (by rw [wtP_len] at hk; exact hk), fun k hk hh => ?_⟩
    · rw [wtP_len] at hk
      rw [wtP_lowB p t h0 k hk]
      have := h.low k hk
      split
      · rename_i e; subst e; omega
      · exact this
    · rw [wtP_len] at hk
      rw [wtP_highB p t k hk]; exact h.high k hk
    · rw [wtP_len] at hk
      exact h.slow k hk (by rw [← wtP_hold p t k hk]; exact hh)
theorem waits_iff {p : Path} {t : Int} (h : PathOk p) : SpansOk (wtP p t) ↔ SpansOk p ∧ t < hi p 0 := by
  have h0 : 0 < p.steps.length := by have := h.2.1.1; omega
  rw [spans_iff (p := wtP p t) h.qs, spans_iff h.qs]
  constructor
  · rintro ⟨f, hf⟩
    obtain ⟨hf, ht⟩ := (wtP_flight h0).1 hf
    exact ⟨⟨f, hf⟩, by have := (hf.in_ 0 (Nat.zero_le _)).2; omega⟩
  · rintro ⟨hS, ht⟩
    exact ⟨hi p, (wtP_flight h0).2 ⟨flight_hi h.qs ((spans_iff h.qs).2 hS), ht⟩⟩
theorem wtP_win {p : Path} {t : Int} (h : PathOk p) : Win (wtP p t) := by
  have W := h.win
  have h0 : 0 < p.steps.length := by have := h.2.1.1; omega
  refine ⟨W.q0, W.q1, W.s0, W.s1, fun k hk => ?_, fun k hk => ?_⟩
  · rw [wtP_len] at hk; rw [wtP_lowB p t h0 k hk]; have := W.low k hk; split
    · rename_i e; subst e; omega
    · exact this
  · rw [wtP_len] at hk; rw [wtP_highB p t k hk]; exact W.high k hk
def Waits (p : Path) (t : Int) : Prop := PathOk p ∧ SpansOk (wtP p t)
instance (p : Path) (t : Int) : Decidable (Waits p t) := inferInstanceAs (Decidable (_ ∧ _))
theorem waits_flies {p : Path} {t : Int} : Waits p t ↔ Flies p ∧ t < hi p 0 := ⟨fun h => ⟨⟨h.1, ((waits_iff h.1).1 h.2).1⟩, ((waits_iff h.1).1 h.2).2⟩, fun h => ⟨h.1.1, (waits_iff h.1.1).2 ⟨h.1.2, h.2⟩⟩⟩
/-- who has flown so can stay where they are behind a tick -/
def Stays (p : Path) (f : List Int) (t : Int) : Prop := if f.length = 0 then Waits p t else CanRest p ((f.length : Int) - 1) (nthI f (f.length - 1)) t
instance (p : Path) (f : List Int) (t : Int) : Decidable (Stays p f t) := by unfold Stays; split <;> infer_instance
theorem stays_none {p : Path} {f : List Int} {t : Int} (h : f.length = 0) : Stays p f t ↔ Waits p t := by unfold Stays; rw [if_pos h]
theorem stays_some {p : Path} {f : List Int} {t : Int} (h : f.length ≠ 0) : Stays p f t ↔ CanRest p ((f.length : Int) - 1) (nthI f (f.length - 1)) t := by unfold Stays; rw [if_neg h]
def MayGo (p : Path) (f : List Int) (t : Int) : Prop := CanNext p f ∧ In t (nextLo p f) (nextHi p f)
instance (p : Path) (f : List Int) (t : Int) : Decidable (MayGo p f t) := inferInstanceAs (Decidable (_ ∧ _))
def CraftOk (c : Craft) (t : Int) : Prop := NameOk c.name ∧ In c.number 1 1000000 ∧ In c.no 0 1000000 ∧ c.no ≠ c.number ∧ In t 0 10000 ∧ CanNext c.path c.flown ∧ (0 < c.flown.length → nthI c.flown (c.flown.length - 1) ≤ t) ∧ Stays c.path c.flown t
instance (c : Craft) (t : Int) : Decidable (CraftOk c t) := inferInstanceAs (Decidable (_ ∧ _))
def Must (c : Craft) (t : Int) : Prop := MayGo c.path c.flown t ∧ ¬ Stays c.path c.flown t
instance (c : Craft) (t : Int) : Decidable (Must c t) := inferInstanceAs (Decidable (_ ∧ _))
/-- the ticks at which one may go on are small -/
theorem MayGo.small {p : Path} {f : List Int} {t : Int} (h : MayGo p f t) : 0 ≤ t ∧ t ≤ 10000 := by
  obtain ⟨hC, h1, h2⟩ := h
  have hC' := hC
  obtain ⟨hP, hl, hS⟩ := hC
  have W := hdP_win hP hl
  unfold nextLo at h1; unfold nextHi at h2
  rw [if_pos hC'] at h1 h2
  have := lo_0 _ W f.length (by rw [hdP_len]; exact hl)
  have := hi_1 _ W f.length (by rw [hdP_len]; exact hl)
  omega
def CanMove (c : Craft) (t : Int) : Prop := NameOk c.name ∧ MayGo c.path c.flown t
instance (c : Craft) (t : Int) : Decidable (CanMove c t) := inferInstanceAs (Decidable (_ ∧ _))
def movedF (c : Craft) (t : Int) : List Int := if CanMove c t then c.flown ++ [t] else c.flown
end Go.Proofs.Ytkpnjnkfbhomgaa.LL
