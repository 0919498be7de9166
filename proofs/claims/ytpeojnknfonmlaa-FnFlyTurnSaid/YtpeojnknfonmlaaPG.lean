/- Plain mathematics: a flight in the tube and in what is left; up to when all can turn. -/
import Derived.Test.YtpeojnknfonmlaaPF
import Derived.Test.YtpeojnknfonmlaaJ3
import Derived.Test.YtpeojnknfonmlaaD2
set_option linter.unusedVariables false
set_option linter.unusedSimpArgs false
namespace Go.Proofs.Ytpeojnknfonmlaa.LL
section
variable {p q : Path} {f asked : List Int}
theorem drop_nthI (f : List Int) (k i : Nat) : nthI (f.drop k) i = nthI f (k + i) := by
  unfold nthI; simp [List.getD_eq_getElem?_getD, List.getElem?_drop]
theorem allowed_drop {k : Nat} (h : Flight q (fun i => nthI f (k + i))) (hl : f.length = k + q.steps.length + 1) : Allowed q (f.drop k) := by
  have e : nthI (f.drop k) = fun i => nthI f (k + i) := funext fun i => drop_nthI f k i
  refine ⟨by rw [List.length_drop]; omega, ?_⟩
  rw [e]; exact h
theorem go_nil_no (h : goB p [] asked = false) : ¬ Flies p := fun hF => by
  obtain ⟨r, h1, _⟩ := goM_ext (asked := asked) (f := []) hF.1 (Nat.zero_le _) ⟨_, flight_lo hF.1.qs hF.2, fun j hj => absurd hj (Nat.not_lt_zero _)⟩
  rw [goB_some h1] at h; cases h
theorem go_nil_none (h : goB p [] asked = false) : goL p [] asked = [] := by
  unfold goB at h
  cases hG : goM p [] asked with
  | none => exact goL_none hG
  | some r => rw [hG] at h; cases h
theorem go_nil_yes (h : goB p [] asked = true) : PathOk p ∧ Allowed p (goL p [] asked) := by
  obtain ⟨_, hP, hL⟩ := go_len h (by simp)
  exact ⟨hP, (allowed_lawful hP).2 hL⟩
theorem Allowed.up_ (h : Allowed p f) (hP : PathOk p) (j : Nat) (hj : j < p.steps.length) : nthI f j < nthI f (j + 1) := by
  have := h.2.quick j hj; have := hP.1.1; omega
theorem whr_in {t : Int} (h : Allowed p f) (hP : PathOk p) (h0 : nthI f 0 ≤ t) (h1 : t < nthI f p.steps.length) : ∃ k, k < p.steps.length ∧ nthI f k ≤ t ∧ t < nthI f (k + 1) ∧ whr f t = ((k : Int), true) := by
  have key : ∀ n, n ≤ p.steps.length → t < nthI f n → ∃ k, k < n ∧ nthI f k ≤ t ∧ t < nthI f (k + 1) := fun n => by
    induction n with
    | zero => intro _ hn; omega
    | succ n ih =>
      intro hn ht
      by_cases c : t < nthI f n
      · obtain ⟨k, hk, a⟩ := ih (by omega) c
        exact ⟨k, by omega, a⟩
      · exact ⟨n, by omega, by omega, ht⟩
  obtain ⟨k, hk, a, b⟩ := key _ (Nat.le_refl _) h1
  exact ⟨k, hk, a, b, whr_at h.1 hk a b (fun j hj => h.up_ hP j hj)⟩
theorem within_at (h : Flies p) (k : Nat) (hk : k < p.steps.length) (t v : Int) (h0 : lo p k ≤ t) (h1 : t < hi p (k + 1)) (h2 : (nth p.steps k).lo ≤ v) (h3 : v ≤ (nth p.steps k).hi) : Within (tubeM p) (nth p.steps k).x (nth p.steps k).y v t := by
  refine ⟨_, nthB_mem (show k < (tubeM p).length by rw [tube_len_yes h]; exact hk), ?_⟩
  rw [tube_nth h k hk]
  unfold Has boxAt
  exact ⟨rfl, rfl, ⟨h2, h3⟩, h0, by show t ≤ hi p (k + 1) - 1; omega⟩
/-! ### turning -/
theorem rest_fl {st en now : Int} {g : Nat → Int} (hst : st.toNat < p.steps.length) : Flight (rsP p st en now) g ↔ Flight (tlP p st.toNat (nth p.steps st.toNat).fr (nth p.steps st.toNat).by_ now) g ∧ g 0 = en := by
  unfold rsP
  rw [tl_flight hst, tl_flight hst]
  constructor
  · rintro ⟨a, b, c, d⟩; exact ⟨⟨a, by omega, by omega, d⟩, by omega⟩
  · rintro ⟨⟨a, b, c, d⟩, e⟩; exact ⟨a, by omega, by omega, d⟩
/-- who entered between two who can go on can go on -/
theorem rest_between {st now a b t : Int} (ha : CanRest p st a now) (hb : CanRest p st b now) (h0 : a ≤ t) (h1 : t ≤ b) : CanRest p st t now := by
  have hlt := ha.lt
  have Fa := ha.flies'
  have Fb := hb.flies'
  obtain ⟨ga, ea⟩ := (rest_fl hlt).1 (flight_lo Fa.1.qs Fa.2)
  obtain ⟨gb, eb⟩ := (rest_fl hlt).1 (flight_lo Fb.1.qs Fb.2)
  have i1 := ga.in_ 0 (Nat.zero_le _)
  have i2 := gb.in_ 0 (Nat.zero_le _)
  obtain ⟨g, hg, e⟩ := tight (p := tlP p st.toNat (nth p.steps st.toNat).fr (nth p.steps st.toNat).by_ now) ha.1.qs ga.spans 0 (Nat.zero_le _) t (by omega) (by omega)
  have F := (rest_fl (en := t) hlt).2 ⟨hg, e⟩
  obtain ⟨hP, hI, a0, a1, a2, _⟩ := ha
  obtain ⟨_, _, _, b1, _, _⟩ := hb
  exact ⟨hP, hI, by omega, by omega, a2, F.spans⟩
theorem may_all {st now : Int} (h : MayTurn p q st now) (t : Int) (h0 : lo (snP p st now) 0 ≤ t) (h1 : t ≤ hi (snP p st now) 0) : CanRest q st t now :=
  rest_between h.2.2.2.1 h.2.2.2.2 h0 h1
theorem seen_rng {st now : Int} (h : CanSeen p st now) : 0 ≤ lo (snP p st now) 0 ∧ lo (snP p st now) 0 ≤ hi (snP p st now) 0 ∧ hi (snP p st now) 0 ≤ 10000 := by
  have F := h.flies'
  exact ⟨lo_0 _ F.1.win 0 (Nat.zero_le _), F.2.2 0 (Nat.zero_le _), hi_1 _ F.1.win 0 (Nat.zero_le _)⟩
theorem stopF_all {ts : List Box} : ∀ (m : Nat) (t : Int), t ≤ stopF p q ts m t ∧ stopF p q ts m t ≤ t + m ∧ (∀ u, t ≤ u → u < stopF p q ts m t → allTo p q ts u 0 false = true) ∧ (stopF p q ts m t < t + m → allTo p q ts (stopF p q ts m t) 0 false = false)
  | 0, t => ⟨Int.le_refl _, by simp [stopF], fun u h0 h1 => by simp only [stopF] at h1; omega, fun h => by simp only [stopF] at h; omega⟩
  | m + 1, t => by
    obtain ⟨a, b, c, d⟩ := stopF_all (ts := ts) m (t + 1)
    cases hA : allTo p q ts t 0 false
    · have e : stopF p q ts (m + 1) t = t := by unfold stopF; rw [if_neg (by simp [hA])]
      rw [e]
      exact ⟨Int.le_refl _, by omega, fun u h0 h1 => by omega, fun _ => hA⟩
    · have e : stopF p q ts (m + 1) t = stopF p q ts m (t + 1) := by rw [stopF, if_pos hA]
      rw [e]
      refine ⟨by omega, by push_cast; omega, fun u h0 h1 => ?_, fun h => d (by push_cast at h; omega)⟩
      by_cases hu : u = t
      · rw [hu]; exact hA
      · exact c u (by omega) h1
theorem turn_all {fr : Int} (h0 : 0 ≤ fr) : -1 ≤ turnBy p q fr ∧ turnBy p q fr ≤ 10000 ∧ (∀ u, fr ≤ u → u ≤ turnBy p q fr → allTo p q (tubeM p) u 0 false = true) ∧ (fr ≤ turnBy p q fr → turnBy p q fr < 10000 → allTo p q (tubeM p) (turnBy p q fr + 1) 0 false = false) ∧ (turnBy p q fr < fr → turnBy p q fr = -1 ∧ (10000 < fr ∨ allTo p q (tubeM p) fr 0 false = false ∨ ¬ PathOk q)) := by
  by_cases h : In fr 0 10000 ∧ PathOk q
  · obtain ⟨a, b, c, d⟩ := stopF_all (p := p) (q := q) (ts := tubeM p) (10001 - fr).toNat fr
    have hfr := h.1.2
    by_cases hs : stopTo p q (tubeM p) fr = fr
    · rw [turnBy_none h hs]
      unfold stopTo at hs
      rw [hs] at d
      exact ⟨by omega, by omega, fun u a b => by omega, fun a => by omega, fun _ => ⟨rfl, .inr (.inl (d (by omega)))⟩⟩
    · rw [turnBy_some h rfl hs]
      unfold stopTo at hs ⊢
      refine ⟨by omega, by omega, fun u x y => c u x (by omega), fun x y => ?_, fun x => by omega⟩
      rw [Int.sub_add_cancel]
      exact d (by omega)
  · rw [turnBy_no h]
    refine ⟨by omega, by omega, fun u a b => by omega, fun a => by omega, fun _ => ⟨rfl, ?_⟩⟩
    by_cases c : 10000 < fr
    · exact .inl c
    · exact .inr (.inr fun hq => h ⟨⟨h0, by omega⟩, hq⟩)
end
end Go.Proofs.Ytpeojnknfonmlaa.LL
