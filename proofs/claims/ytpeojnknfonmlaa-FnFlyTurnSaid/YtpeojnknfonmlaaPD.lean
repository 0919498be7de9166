/- Plain mathematics for the law of spans; the laws' comparison of spans. -/
import Derived.Test.YtpeojnknfonmlaaPC
import Derived.Test.YtpeojnknfonmlaaL1
set_option linter.unusedVariables false
set_option linter.unusedSimpArgs false
namespace Go.Proofs.Ytpeojnknfonmlaa
open Go.RowKit
theorem LL.allowed_lawful {p : LL.Path} {f : List Int} (hP : LL.PathOk p) : LL.Allowed p f ↔ LL.Lawful p f := by
  constructor
  · rintro ⟨hl, hf⟩
    refine ⟨hP, hl, fun k hk => ⟨⟨hf.low k (by omega), hf.high k (by omega)⟩, fun h0 => ?_⟩⟩
    have q := hf.quick (k - 1) (by omega)
    rw [show k - 1 + 1 = k by omega] at q
    refine ⟨by omega, ?_⟩
    cases hh : (LL.nth p.steps (k - 1)).hold
    · have s := hf.slow (k - 1) (by omega) hh
      rw [show k - 1 + 1 = k by omega] at s
      exact .inr (by omega)
    · exact .inl rfl
  · rintro ⟨_, hl, ht⟩
    refine ⟨hl, ⟨fun k hk => (ht k (by omega)).1.1, fun k hk => (ht k (by omega)).1.2, fun k hk => ?_, fun k hk hh => ?_⟩⟩
    · have := ((ht (k + 1) (by omega)).2 (by omega)).1
      rw [Nat.add_sub_cancel] at this; omega
    · have := ((ht (k + 1) (by omega)).2 (by omega)).2
      rw [Nat.add_sub_cancel] at this
      rcases this with h1 | h1
      · have hh' : (LL.nth p.steps k).hold = false := hh
        rw [h1] at hh'; cases hh'
      · omega
theorem LL.last_len {p : LL.Path} (h : LL.Flies p) : (LL.lastM p).length = p.steps.length + 1 := by
  unfold LL.lastM; rw [LL.spansM_yes h]; unfold LL.spans; rw [List.length_map, LL.tab_len]
theorem LL.last_nth {p : LL.Path} (h : LL.Flies p) (j : Nat) (hj : j ≤ p.steps.length) : LL.nthI (LL.lastM p) j = LL.hi p j := by
  unfold LL.lastM LL.nthI; rw [LL.spansM_yes h]; unfold LL.spans
  simp [List.getD_eq_getElem?_getD, LL.tab, show j < p.steps.length + 1 by omega]
theorem LL.first_allowed {p : LL.Path} (h : LL.Flies p) : LL.Allowed p (LL.firstM p) := by
  have g := LL.flight_lo h.1.qs h.2
  have hn := LL.first_nth h
  refine ⟨LL.first_len h, ⟨fun j hj => ?_, fun j hj => ?_, fun j hj => ?_, fun j hj hh => ?_⟩⟩
  · rw [hn j hj]; exact g.low j hj
  · rw [hn j hj]; exact g.high j hj
  · rw [hn j (by omega), hn (j + 1) (by omega)]; exact g.quick j hj
  · rw [hn j (by omega), hn (j + 1) (by omega)]; exact g.slow j hj hh
theorem LL.last_allowed {p : LL.Path} (h : LL.Flies p) : LL.Allowed p (LL.lastM p) := by
  have g := LL.flight_hi h.1.qs h.2
  have hn := LL.last_nth h
  refine ⟨LL.last_len h, ⟨fun j hj => ?_, fun j hj => ?_, fun j hj => ?_, fun j hj hh => ?_⟩⟩
  · rw [hn j hj]; exact g.low j hj
  · rw [hn j hj]; exact g.high j hj
  · rw [hn j (by omega), hn (j + 1) (by omega)]; exact g.quick j hj
  · rw [hn j (by omega), hn (j + 1) (by omega)]; exact g.slow j hj hh
/-- a flight that keeps to the path is between the first and the last -/
theorem LL.Allowed.between {p : LL.Path} {f : List Int} (h : LL.Allowed p f) (k : Nat) (hk : k ≤ p.steps.length) : LL.lo p k ≤ LL.nthI f k ∧ LL.nthI f k ≤ LL.hi p k := h.2.in_ k hk
theorem LL.Allowed.flies {p : LL.Path} {f : List Int} (h : LL.Allowed p f) (hP : LL.PathOk p) : LL.Flies p := ⟨hP, h.2.spans⟩
theorem LL.not_lawful {p : LL.Path} {f : List Int} (h : ¬ LL.Flies p) : ¬ LL.Lawful p f := fun hL => h (((LL.allowed_lawful hL.1).2 hL).flies hL.1)
set_option maxRecDepth 100000 in
set_option maxHeartbeats 4000000 in
theorem wfSpans_c (ts : List LL.Span) (n : Nat) (hn : ts.length = n) (A A' : Option Addr) (c c' : Nat) (w : World) (h : RdP w A n c ts) (h' : RdP w A' n c' ts) : Calls Try.prog 34 #[.slice A n c, .slice A' n c'] w fun e w' => e = .returned (.bool true) ∧ Below w.heap.size w w' := by
  have hroom := h.room
  clear hn
  go_enter Try.func34, Try.ntmps34
  go_wp2
  go_loopw [5] (fun i wr => ∃ k : Nat, k ≤ n ∧ i = .int .i64 k ∧ Below w.heap.size w wr) (fun i _ => n - (intOf i).toNat)
  case atStart => exact ⟨0, by omega, rfl, (by repeat' (first | with_reducible exact Below.refl _ _ | with_reducible assumption | with_reducible refine b_alloc ?_ _ | with_reducible refine b_drewN ?_ _ | with_reducible refine b_drew ?_ | with_reducible refine b_set ?_ (by first | (simp only [World.size_setCell, World.size_alloc, World.size_drew]; omega) | (simp; done) | (simp; omega)) _ | with_reducible refine b_step ?_ (by with_reducible assumption)))⟩
  case round =>
    obtain ⟨k, hk, rfl, hb⟩ := hrel
    obtain ⟨hc, hf, hl⟩ := bcell hb
    by_cases hlt : k < n
    · obtain ⟨b, off, rfl, hbw⟩ := h.addr (by omega)
      obtain ⟨b', off', rfl, hbw'⟩ := h'.addr (by omega)
      obtain ⟨d0, d1⟩ := h.S2 k hlt
      obtain ⟨g0, g1⟩ := h'.S2 k hlt
      go_wp2
      ((refine calm_b (by kernel_rfl) (by kernel_rfl) ?_); (repeat (first | ((apply sure_cons (hg := rfl)); (focus ((intro w' hS'); (obtain ⟨hcS, hfS, hlS⟩ := bcell hS'); (try simp only [World.size_setCell, World.size_alloc, World.size_drew] at hS' hcS hfS hlS); (go_simp); (try go_bits); (try ((first | rw [if_pos (by omega)] | rw [if_neg (by omega)]); go_simp)); (first | (with_reducible rfl) | (with_reducible exact rfl) | (with_reducible exact ⟨rfl, hS'⟩) | fail))); (simp only [Act.put, List.setIfInBounds_toArray, List.set_cons_zero, List.set_cons_succ])) | ((apply sure_off (hg := rfl)); (simp only [Act.put, List.setIfInBounds_toArray, List.set_cons_zero, List.set_cons_succ])))); (refine sure_nil ?_))
      intro w' hS'
      go_wp2
      go_roundw
      case rel => exact ⟨k + 1, by omega, by go_num, b_step hb hS'⟩
      case measure => simp [intOf]; omega
    · go_wp2
      go_ret
      exact ⟨rfl, (by repeat' (first | with_reducible exact Below.refl _ _ | with_reducible assumption | with_reducible refine b_alloc ?_ _ | with_reducible refine b_drewN ?_ _ | with_reducible refine b_drew ?_ | with_reducible refine b_set ?_ (by first | (simp only [World.size_setCell, World.size_alloc, World.size_drew]; omega) | (simp; done) | (simp; omega)) _ | with_reducible refine b_step ?_ (by with_reducible assumption)))⟩
end Go.Proofs.Ytpeojnknfonmlaa
