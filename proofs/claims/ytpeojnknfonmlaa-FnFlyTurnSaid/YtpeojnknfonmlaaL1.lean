/- Flights that keep to a path. -/
import Derived.Test.YtpeojnknfonmlaaS3
import Derived.Test.YtpeojnknfonmlaaX5
import Derived.Test.YtpeojnknfonmlaaJ5
set_option linter.unusedVariables false
set_option linter.unusedSimpArgs false
namespace Go.Proofs.Ytpeojnknfonmlaa
open Go.RowKit
attribute [local go_sem] w_lt_add w_le_of w_le_add max2_i min2_i
namespace LL
/-- what is asked of a flight's tick at a place -/
def TickOk (p : Path) (f : List Int) (k : Nat) : Prop := In (nthI f k) (lowB p k) (highB p k) ∧ (0 < k → p.q ≤ nthI f k - nthI f (k - 1) ∧ ((nth p.steps (k - 1)).hold = true ∨ nthI f k - nthI f (k - 1) ≤ p.s))
instance (p : Path) (f : List Int) (k : Nat) : Decidable (TickOk p f k) := inferInstanceAs (Decidable (_ ∧ _))
def AllTicks (p : Path) (f : List Int) (k : Nat) : Prop := ∀ j, j < k → TickOk p f j
instance (p : Path) (f : List Int) (k : Nat) : Decidable (AllTicks p f k) := inferInstanceAs (Decidable (∀ j, j < k → _))
theorem AllTicks.zero (p : Path) (f : List Int) : AllTicks p f 0 := fun _ h => absurd h (Nat.not_lt_zero _)
theorem AllTicks.succ {p : Path} {f : List Int} {k : Nat} (h : AllTicks p f k) (hk : TickOk p f k) : AllTicks p f (k + 1) := fun j hj => by
  rcases Nat.lt_succ_iff_lt_or_eq.1 hj with h1 | rfl
  · exact h j h1
  · exact hk
def Lawful (p : Path) (f : List Int) : Prop := PathOk p ∧ f.length = p.steps.length + 1 ∧ AllTicks p f f.length
instance (p : Path) (f : List Int) : Decidable (Lawful p f) := inferInstanceAs (Decidable (_ ∧ _))
theorem Lawful.bad {p : Path} {f : List Int} {k : Nat} (hk : k < f.length) (h : ¬ TickOk p f k) : ¬ Lawful p f := fun h2 => h (h2.2.2 k hk)
theorem AllTicks.at_ {p : Path} {f : List Int} {k j : Nat} (h : AllTicks p f k) (hj : j < k) : In (nthI f j) (lowB p j) (highB p j) := (h j hj).1
theorem most_ok {p : Path} {d : Int} {k : Nat} (h : In d p.q (most p k)) : p.q ≤ d ∧ ((nth p.steps k).hold = true ∨ d ≤ p.s) := by
  obtain ⟨h1, h2⟩ := h
  refine ⟨h1, ?_⟩
  unfold most Path.at_ at h2
  by_cases hh : (nth p.steps k).hold = true
  · exact .inl hh
  · rw [if_neg hh] at h2; exact .inr h2
theorem most_in {p : Path} {d : Int} {k : Nat} (hd : d ≤ 10000) (h : p.q ≤ d ∧ ((nth p.steps k).hold = true ∨ d ≤ p.s)) : In d p.q (most p k) := by
  refine ⟨h.1, ?_⟩
  unfold most Path.at_
  by_cases hh : (nth p.steps k).hold = true
  · rw [if_pos hh]; exact hd
  · rw [if_neg hh]; exact h.2.resolve_left hh
end LL
set_option maxRecDepth 100000 in
set_option maxHeartbeats 4000000 in
theorem impl_FlyLawful_c (p : LL.Path) (f : List Int) (A F : Option Addr) (c m : Nat) (w : World) (h : RdS w A p.steps.length c p.steps) (hF : RdI w F f.length m f) : Calls Try.prog 35 #[.agg #[.int .i64 p.q, .int .i64 p.s, .slice A p.steps.length c, .int .i64 p.fr, .int .i64 p.by_], .slice F f.length m] w fun e w' => e = .returned (.bool (decide (LL.Lawful p f))) ∧ Below w.heap.size w w' := by
  have hroom := h.room
  have hroom' := hF.room
  by_cases hP : LL.PathOk p
  · have W := hP.win
    have hn1 : p.steps.length ≤ 40 := by have := hP.2.1.2; omega
    have hn0 : 1 ≤ p.steps.length := by have := hP.2.1.1; omega
    have q0 := W.q0
    have q1 := W.q1
    have s0 := W.s0
    have s1 := W.s1
    by_cases hlen : f.length = p.steps.length + 1
    · have hne : ((f.length : Int) == (p.steps.length : Int) + 1) = true := by simp; omega
      have hne2 : ((f.length : Int) != (p.steps.length : Int) + 1) = false := by simp; omega
      have hl1 : f.length ≤ p.steps.length + 1 := by omega
      have hl2 : p.steps.length + 1 ≤ f.length := by omega
      have Hlen := Lib.hid hlen
      clear hlen
      go_enter Try.func35, Try.ntmps35
      go_wp2_with (go_at_call 47; go_loud (refine (impl_FlyPathOk_c _ _ _ _ (by exact Rd.mono (by with_reducible assumption) (by repeat' (first | with_reducible exact Below.refl _ _ | with_reducible assumption | with_reducible refine b_alloc ?_ _ | with_reducible refine b_drewN ?_ _ | with_reducible refine b_drew ?_ | with_reducible refine b_set ?_ (by first | (simp only [World.size_setCell, World.size_alloc, World.size_drew]; omega) | (simp; done) | (simp; omega)) _ | with_reducible refine b_step ?_ (by with_reducible assumption))))).mono ?_); rintro e w1 ⟨rfl, hb⟩; (repeat (with_reducible first | replace hb := b_un hb | replace hb := b_unN hb)); obtain ⟨hc, hf, hl⟩ := bcell hb; obtain ⟨gc, gf, gl⟩ := bcell (b_step (w := w) (by repeat' (first | with_reducible exact Below.refl _ _ | with_reducible assumption | with_reducible refine b_alloc ?_ _ | with_reducible refine b_drewN ?_ _ | with_reducible refine b_drew ?_ | with_reducible refine b_set ?_ (by first | (simp only [World.size_setCell, World.size_alloc, World.size_drew]; omega) | (simp; done) | (simp; omega)) _ | with_reducible refine b_step ?_ (by with_reducible assumption))) hb); have hz := hb.size; (try simp at hz); have yw1_0 : w.heap.size < w1.heap.size := (by omega))
      go_loopw [24] (fun i wr => ∃ k : Nat, k ≤ f.length ∧ i = .int .i64 k ∧ LL.AllTicks p f k ∧ Blk wr w.heap.size #[.int .i64 p.q, .int .i64 p.s, .slice A p.steps.length c, .int .i64 p.fr, .int .i64 p.by_] 43 ∧ Below w.heap.size w wr) (fun i _ => f.length - (intOf i).toNat)
      case atStart => exact ⟨0, Nat.zero_le _, rfl, LL.AllTicks.zero _ _, (by repeat' (first | with_reducible assumption | with_reducible exact Blk.new _ _ _ | with_reducible exact Blk.new' _ _ (by first | (simp only [World.size_alloc, World.size_setCell, World.size_drew]; done) | (simp only [World.size_alloc, World.size_setCell, World.size_drew]; omega) | omega) | with_reducible refine Blk.a ?_ _ | with_reducible refine Blk.d ?_ | with_reducible refine Blk.dN ?_ _ | with_reducible refine Blk.s ?_ (by simp only [ne_eq]; omega) _ | with_reducible refine Blk.b ?_ (by with_reducible assumption))), (by repeat' (first | with_reducible exact Below.refl _ _ | with_reducible assumption | with_reducible refine b_alloc ?_ _ | with_reducible refine b_drewN ?_ _ | with_reducible refine b_drew ?_ | with_reducible refine b_set ?_ (by first | (simp only [World.size_setCell, World.size_alloc, World.size_drew]; omega) | (simp; done) | (simp; omega)) _ | with_reducible refine b_step ?_ (by with_reducible assumption)))⟩
      case round =>
        clear hb hc hf hl gc gf gl hz yw1_0
        obtain ⟨k, hk, rfl, hg, kP, hb⟩ := hrel
        obtain ⟨eP, fP, lP⟩ := kP.cells
        obtain ⟨gc, gf, gl⟩ := bcell hb
        by_cases hlt : k < f.length
        · obtain ⟨b, off, rfl, hbw⟩ := h.addr (by omega)
          obtain ⟨b2, off2, rfl, hbw2⟩ := hF.addr (by omega)
          have c0 := hF.S1 k hlt
          by_cases hI : LL.In (LL.nthI f k) (LL.lowB p k) (LL.highB p k)
          · by_cases hk0 : k = 0
            · have HK := Lib.hid hk0
              have hk1 : decide ((0 : Int) < (k : Int)) = false := by simp [hk0]
              have hk2 : decide (0 < k) = false := by simp [hk0]
              clear hk0
              go_wp2_with (first | (go_at_call 74; go_loud (refine (impl_bounds_c p _ c k _ rfl (by omega) _ (h.mono hb)).mono ?_); rintro e w3 ⟨rfl, hb⟩; (repeat (with_reducible first | replace hb := b_un hb | replace hb := b_unN hb)); obtain ⟨hc, hf, hl⟩ := bcell hb; obtain ⟨gc, gf, gl⟩ := bcell (b_step (w := w) (by repeat' (first | with_reducible exact Below.refl _ _ | with_reducible assumption | with_reducible refine b_alloc ?_ _ | with_reducible refine b_drewN ?_ _ | with_reducible refine b_drew ?_ | with_reducible refine b_set ?_ (by first | (simp only [World.size_setCell, World.size_alloc, World.size_drew]; omega) | (simp; done) | (simp; omega)) _ | with_reducible refine b_step ?_ (by with_reducible assumption))) hb); have hz := hb.size; (try simp at hz); have yw3_0 : w.heap.size < w3.heap.size := (by omega)) | (go_at_call 70; refine (impl_in_c _ _ _ _).mono ?_; rintro e w' ⟨rfl, rfl⟩))
              go_roundw
              case rel => exact ⟨k + 1, by omega, by go_num, hg.succ ⟨hI, fun h9 => by have := HK.out; omega⟩, kP.b hb, b_step ‹Below w.heap.size w wr› hb⟩
              case measure => simp [intOf]; omega
            · have hk1 : decide ((0 : Int) < (k : Int)) = true := by simp; omega
              have hk2 : decide (0 < k) = true := by simp; omega
              obtain ⟨d0, d1, d2, d3, d4, d5, d6⟩ := h.S7 (k - 1) (by omega)
              have c1 := hF.S1 (k - 1) (by omega)
              obtain ⟨i1, i2⟩ := id hI
              obtain ⟨i3, i4⟩ := hg.at_ (j := k - 1) (by omega)
              have i5 := W.low k (by omega)
              have i6 := W.high k (by omega)
              have i7 := W.low (k - 1) (by omega)
              have i8 := W.high (k - 1) (by omega)
              by_cases hh : (LL.nth p.steps (k - 1)).hold = true
              · go_wp2_with (first | (go_at_call 74; go_loud (refine (impl_bounds_c p _ c k _ rfl (by omega) _ (h.mono hb)).mono ?_); rintro e w3 ⟨rfl, hb⟩; (repeat (with_reducible first | replace hb := b_un hb | replace hb := b_unN hb)); obtain ⟨hc, hf, hl⟩ := bcell hb; obtain ⟨gc, gf, gl⟩ := bcell (b_step (w := w) (by repeat' (first | with_reducible exact Below.refl _ _ | with_reducible assumption | with_reducible refine b_alloc ?_ _ | with_reducible refine b_drewN ?_ _ | with_reducible refine b_drew ?_ | with_reducible refine b_set ?_ (by first | (simp only [World.size_setCell, World.size_alloc, World.size_drew]; omega) | (simp; done) | (simp; omega)) _ | with_reducible refine b_step ?_ (by with_reducible assumption))) hb); have hz := hb.size; (try simp at hz); have yw3_0 : w.heap.size < w3.heap.size := (by omega)) | (go_at_call 70; refine (impl_in_c _ _ _ _).mono ?_; rintro e w' ⟨rfl, rfl⟩))
                all_goals first
                  | (go_ret; refine ⟨rd_ (iff_of_false (LL.Lawful.bad hlt (fun h9 => ?_)) (by simp)), (by repeat' (first | with_reducible exact Below.refl _ _ | with_reducible assumption | with_reducible refine b_alloc ?_ _ | with_reducible refine b_drewN ?_ _ | with_reducible refine b_drew ?_ | with_reducible refine b_set ?_ (by first | (simp only [World.size_setCell, World.size_alloc, World.size_drew]; omega) | (simp; done) | (simp; omega)) _ | with_reducible refine b_step ?_ (by with_reducible assumption)))⟩; have h8 := (h9.2 (by omega)).1; omega)
                  | (go_roundw; (case rel => exact ⟨k + 1, by omega, by go_num, hg.succ ⟨hI, fun _ => ⟨by omega, .inl hh⟩⟩, kP.b hb, b_step ‹Below w.heap.size w wr› hb⟩); (case measure => simp [intOf]; omega))
              · have hh := Bool.eq_false_iff.2 hh
                go_wp2_with (first | (go_at_call 74; go_loud (refine (impl_bounds_c p _ c k _ rfl (by omega) _ (h.mono hb)).mono ?_); rintro e w3 ⟨rfl, hb⟩; (repeat (with_reducible first | replace hb := b_un hb | replace hb := b_unN hb)); obtain ⟨hc, hf, hl⟩ := bcell hb; obtain ⟨gc, gf, gl⟩ := bcell (b_step (w := w) (by repeat' (first | with_reducible exact Below.refl _ _ | with_reducible assumption | with_reducible refine b_alloc ?_ _ | with_reducible refine b_drewN ?_ _ | with_reducible refine b_drew ?_ | with_reducible refine b_set ?_ (by first | (simp only [World.size_setCell, World.size_alloc, World.size_drew]; omega) | (simp; done) | (simp; omega)) _ | with_reducible refine b_step ?_ (by with_reducible assumption))) hb); have hz := hb.size; (try simp at hz); have yw3_0 : w.heap.size < w3.heap.size := (by omega)) | (go_at_call 70; refine (impl_in_c _ _ _ _).mono ?_; rintro e w' ⟨rfl, rfl⟩))
                all_goals first
                  | (go_ret; refine ⟨rd_ (iff_of_false (LL.Lawful.bad hlt (fun h9 => ?_)) (by simp)), (by repeat' (first | with_reducible exact Below.refl _ _ | with_reducible assumption | with_reducible refine b_alloc ?_ _ | with_reducible refine b_drewN ?_ _ | with_reducible refine b_drew ?_ | with_reducible refine b_set ?_ (by first | (simp only [World.size_setCell, World.size_alloc, World.size_drew]; omega) | (simp; done) | (simp; omega)) _ | with_reducible refine b_step ?_ (by with_reducible assumption)))⟩; obtain ⟨h8, h7⟩ := h9.2 (by omega); rw [hh] at h7; simp only [Bool.false_eq_true, false_or] at h7; omega)
                  | (go_roundw; (case rel => exact ⟨k + 1, by omega, by go_num, hg.succ ⟨hI, fun _ => ⟨by omega, .inr (by omega)⟩⟩, kP.b hb, b_step ‹Below w.heap.size w wr› hb⟩); (case measure => simp [intOf]; omega))
          · go_wp2_with (first | (go_at_call 74; go_loud (refine (impl_bounds_c p _ c k _ rfl (by omega) _ (h.mono hb)).mono ?_); rintro e w3 ⟨rfl, hb⟩; (repeat (with_reducible first | replace hb := b_un hb | replace hb := b_unN hb)); obtain ⟨hc, hf, hl⟩ := bcell hb; obtain ⟨gc, gf, gl⟩ := bcell (b_step (w := w) (by repeat' (first | with_reducible exact Below.refl _ _ | with_reducible assumption | with_reducible refine b_alloc ?_ _ | with_reducible refine b_drewN ?_ _ | with_reducible refine b_drew ?_ | with_reducible refine b_set ?_ (by first | (simp only [World.size_setCell, World.size_alloc, World.size_drew]; omega) | (simp; done) | (simp; omega)) _ | with_reducible refine b_step ?_ (by with_reducible assumption))) hb); have hz := hb.size; (try simp at hz); have yw3_0 : w.heap.size < w3.heap.size := (by omega)) | (go_at_call 70; refine (impl_in_c _ _ _ _).mono ?_; rintro e w' ⟨rfl, rfl⟩))
            go_ret
            exact ⟨rd_ (iff_of_false (LL.Lawful.bad hlt (fun h9 => hI h9.1)) (by simp)), (by repeat' (first | with_reducible exact Below.refl _ _ | with_reducible assumption | with_reducible refine b_alloc ?_ _ | with_reducible refine b_drewN ?_ _ | with_reducible refine b_drew ?_ | with_reducible refine b_set ?_ (by first | (simp only [World.size_setCell, World.size_alloc, World.size_drew]; omega) | (simp; done) | (simp; omega)) _ | with_reducible refine b_step ?_ (by with_reducible assumption)))⟩
        · obtain rfl : k = f.length := by omega
          go_wp2
          go_ret
          exact ⟨rd_ (iff_of_true ⟨hP, Hlen.out, hg⟩ rfl), hb⟩
    · have hne : ((f.length : Int) == (p.steps.length : Int) + 1) = false := by simp; omega
      have hne2 : ((f.length : Int) != (p.steps.length : Int) + 1) = true := by simp; omega
      go_enter Try.func35, Try.ntmps35
      go_wp2_with (go_at_call 47; go_loud (refine (impl_FlyPathOk_c _ _ _ _ (by exact Rd.mono (by with_reducible assumption) (by repeat' (first | with_reducible exact Below.refl _ _ | with_reducible assumption | with_reducible refine b_alloc ?_ _ | with_reducible refine b_drewN ?_ _ | with_reducible refine b_drew ?_ | with_reducible refine b_set ?_ (by first | (simp only [World.size_setCell, World.size_alloc, World.size_drew]; omega) | (simp; done) | (simp; omega)) _ | with_reducible refine b_step ?_ (by with_reducible assumption))))).mono ?_); rintro e w1 ⟨rfl, hb⟩; (repeat (with_reducible first | replace hb := b_un hb | replace hb := b_unN hb)); obtain ⟨hc, hf, hl⟩ := bcell hb; obtain ⟨gc, gf, gl⟩ := bcell (b_step (w := w) (by repeat' (first | with_reducible exact Below.refl _ _ | with_reducible assumption | with_reducible refine b_alloc ?_ _ | with_reducible refine b_drewN ?_ _ | with_reducible refine b_drew ?_ | with_reducible refine b_set ?_ (by first | (simp only [World.size_setCell, World.size_alloc, World.size_drew]; omega) | (simp; done) | (simp; omega)) _ | with_reducible refine b_step ?_ (by with_reducible assumption))) hb); have hz := hb.size; (try simp at hz); have yw1_0 : w.heap.size < w1.heap.size := (by omega))
      go_ret
      exact ⟨rd_ (iff_of_false (fun h9 => hlen h9.2.1) (by simp)), (by repeat' (first | with_reducible exact Below.refl _ _ | with_reducible assumption | with_reducible refine b_alloc ?_ _ | with_reducible refine b_drewN ?_ _ | with_reducible refine b_drew ?_ | with_reducible refine b_set ?_ (by first | (simp only [World.size_setCell, World.size_alloc, World.size_drew]; omega) | (simp; done) | (simp; omega)) _ | with_reducible refine b_step ?_ (by with_reducible assumption)))⟩
  · go_enter Try.func35, Try.ntmps35
    go_wp2_with (go_at_call 47; go_loud (refine (impl_FlyPathOk_c _ _ _ _ (by exact Rd.mono (by with_reducible assumption) (by repeat' (first | with_reducible exact Below.refl _ _ | with_reducible assumption | with_reducible refine b_alloc ?_ _ | with_reducible refine b_drewN ?_ _ | with_reducible refine b_drew ?_ | with_reducible refine b_set ?_ (by first | (simp only [World.size_setCell, World.size_alloc, World.size_drew]; omega) | (simp; done) | (simp; omega)) _ | with_reducible refine b_step ?_ (by with_reducible assumption))))).mono ?_); rintro e w1 ⟨rfl, hb⟩; (repeat (with_reducible first | replace hb := b_un hb | replace hb := b_unN hb)); obtain ⟨hc, hf, hl⟩ := bcell hb; obtain ⟨gc, gf, gl⟩ := bcell (b_step (w := w) (by repeat' (first | with_reducible exact Below.refl _ _ | with_reducible assumption | with_reducible refine b_alloc ?_ _ | with_reducible refine b_drewN ?_ _ | with_reducible refine b_drew ?_ | with_reducible refine b_set ?_ (by first | (simp only [World.size_setCell, World.size_alloc, World.size_drew]; omega) | (simp; done) | (simp; omega)) _ | with_reducible refine b_step ?_ (by with_reducible assumption))) hb); have hz := hb.size; (try simp at hz); have yw1_0 : w.heap.size < w1.heap.size := (by omega))
    go_ret
    exact ⟨rd_ (iff_of_false (fun h9 => hP h9.1) (by simp)), (by repeat' (first | with_reducible exact Below.refl _ _ | with_reducible assumption | with_reducible refine b_alloc ?_ _ | with_reducible refine b_drewN ?_ _ | with_reducible refine b_drew ?_ | with_reducible refine b_set ?_ (by first | (simp only [World.size_setCell, World.size_alloc, World.size_drew]; omega) | (simp; done) | (simp; omega)) _ | with_reducible refine b_step ?_ (by with_reducible assumption)))⟩
set_option maxRecDepth 100000 in
set_option maxHeartbeats 4000000 in
theorem spec_FlyLawful_c (p : LL.Path) (f : List Int) (A F : Option Addr) (c m : Nat) (w : World) (h : RdS w A p.steps.length c p.steps) (hF : RdI w F f.length m f) : Calls Try.prog 36 #[.agg #[.int .i64 p.q, .int .i64 p.s, .slice A p.steps.length c, .int .i64 p.fr, .int .i64 p.by_], .slice F f.length m] w fun e w' => e = .returned (.bool (decide (LL.Lawful p f))) ∧ Below w.heap.size w w' := by
  have hroom := h.room
  have hroom' := hF.room
  by_cases hP : LL.PathOk p
  · have W := hP.win
    have hn1 : p.steps.length ≤ 40 := by have := hP.2.1.2; omega
    have hn0 : 1 ≤ p.steps.length := by have := hP.2.1.1; omega
    have q0 := W.q0
    have q1 := W.q1
    have s0 := W.s0
    have s1 := W.s1
    by_cases hlen : f.length = p.steps.length + 1
    · have hne : ((f.length : Int) == (p.steps.length : Int) + 1) = true := by simp; omega
      have hne2 : ((f.length : Int) != (p.steps.length : Int) + 1) = false := by simp; omega
      have hl1 : f.length ≤ p.steps.length + 1 := by omega
      have hl2 : p.steps.length + 1 ≤ f.length := by omega
      have Hlen := Lib.hid hlen
      clear hlen
      go_enter Try.func36, Try.ntmps36
      go_wp2_with (go_at_call 26; go_loud (refine (spec_FlyPathOk_c _ _ _ _ (by exact Rd.mono (by with_reducible assumption) (by repeat' (first | with_reducible exact Below.refl _ _ | with_reducible assumption | with_reducible refine b_alloc ?_ _ | with_reducible refine b_drewN ?_ _ | with_reducible refine b_drew ?_ | with_reducible refine b_set ?_ (by first | (simp only [World.size_setCell, World.size_alloc, World.size_drew]; omega) | (simp; done) | (simp; omega)) _ | with_reducible refine b_step ?_ (by with_reducible assumption))))).mono ?_); rintro e w1 ⟨rfl, hb⟩; (repeat (with_reducible first | replace hb := b_un hb | replace hb := b_unN hb)); obtain ⟨hc, hf, hl⟩ := bcell hb; obtain ⟨gc, gf, gl⟩ := bcell (b_step (w := w) (by repeat' (first | with_reducible exact Below.refl _ _ | with_reducible assumption | with_reducible refine b_alloc ?_ _ | with_reducible refine b_drewN ?_ _ | with_reducible refine b_drew ?_ | with_reducible refine b_set ?_ (by first | (simp only [World.size_setCell, World.size_alloc, World.size_drew]; omega) | (simp; done) | (simp; omega)) _ | with_reducible refine b_step ?_ (by with_reducible assumption))) hb); have hz := hb.size; (try simp at hz); have yw1_0 : w.heap.size < w1.heap.size := (by omega))
      go_loopw [5] (fun i wr => ∃ k : Nat, k ≤ f.length ∧ i = .int .i64 k ∧ LL.AllTicks p f k ∧ Blk wr w.heap.size #[.int .i64 p.q, .int .i64 p.s, .slice A p.steps.length c, .int .i64 p.fr, .int .i64 p.by_] 43 ∧ Below w.heap.size w wr) (fun i _ => f.length - (intOf i).toNat)
      case atStart => exact ⟨0, Nat.zero_le _, rfl, LL.AllTicks.zero _ _, (by repeat' (first | with_reducible assumption | with_reducible exact Blk.new _ _ _ | with_reducible exact Blk.new' _ _ (by first | (simp only [World.size_alloc, World.size_setCell, World.size_drew]; done) | (simp only [World.size_alloc, World.size_setCell, World.size_drew]; omega) | omega) | with_reducible refine Blk.a ?_ _ | with_reducible refine Blk.d ?_ | with_reducible refine Blk.dN ?_ _ | with_reducible refine Blk.s ?_ (by simp only [ne_eq]; omega) _ | with_reducible refine Blk.b ?_ (by with_reducible assumption))), (by repeat' (first | with_reducible exact Below.refl _ _ | with_reducible assumption | with_reducible refine b_alloc ?_ _ | with_reducible refine b_drewN ?_ _ | with_reducible refine b_drew ?_ | with_reducible refine b_set ?_ (by first | (simp only [World.size_setCell, World.size_alloc, World.size_drew]; omega) | (simp; done) | (simp; omega)) _ | with_reducible refine b_step ?_ (by with_reducible assumption)))⟩
      case round =>
        clear hb hc hf hl gc gf gl hz yw1_0
        obtain ⟨k, hk, rfl, hg, kP, hb⟩ := hrel
        obtain ⟨eP, fP, lP⟩ := kP.cells
        obtain ⟨gc, gf, gl⟩ := bcell hb
        by_cases hlt : k < f.length
        · obtain ⟨b, off, rfl, hbw⟩ := h.addr (by omega)
          obtain ⟨b2, off2, rfl, hbw2⟩ := hF.addr (by omega)
          have c0 := hF.S1 k hlt
          by_cases hI : LL.In (LL.nthI f k) (LL.lowB p k) (LL.highB p k)
          · have hk3 : k ≤ p.steps.length := by omega
            go_wp2_with fail
            ((refine calm_b (by kernel_rfl) (by kernel_rfl) ?_); (repeat (first | ((apply sure_cons (hg := rfl)); (focus ((intro w' hS'); (obtain ⟨hcS, hfS, hlS⟩ := bcell hS'); (try simp only [World.size_setCell, World.size_alloc, World.size_drew] at hS' hcS hfS hlS); (go_simp); (try go_bits); (try ((first | rw [if_pos (by omega)] | rw [if_neg (by omega)]); go_simp)); (first | (with_reducible rfl) | (with_reducible exact rfl) | (with_reducible exact ⟨rfl, hS'⟩) | (first | (go_at_call 80; go_loud (refine (spec_l3Low_c p _ c k _ rfl _ (h.mono (b_step hb hS'))).mono ?_); rintro e w'' ⟨rfl, hb⟩; (first | (subst hb; exact ⟨rfl, hS'⟩) | exact ⟨rfl, b_to hS' hb (by first | exact Nat.le_refl _ | (have h1 := hS'.size; (try simp only [World.size_setCell, World.size_alloc, World.size_drew] at h1); omega))⟩)) | (go_at_call 81; go_loud (refine (spec_l3High_c p _ c k _ rfl _ (h.mono (b_step hb hS'))).mono ?_); rintro e w'' ⟨rfl, hb⟩; (first | (subst hb; exact ⟨rfl, hS'⟩) | exact ⟨rfl, b_to hS' hb (by first | exact Nat.le_refl _ | (have h1 := hS'.size; (try simp only [World.size_setCell, World.size_alloc, World.size_drew] at h1); omega))⟩)) | (go_at_call 72; go_loud (refine (spec_l1In_c _ _ _ _).mono ?_); rintro e w'' ⟨rfl, hb⟩; (first | (subst hb; exact ⟨rfl, hS'⟩) | exact ⟨rfl, b_to hS' hb (by first | exact Nat.le_refl _ | (have h1 := hS'.size; (try simp only [World.size_setCell, World.size_alloc, World.size_drew] at h1); omega))⟩)))))); (simp only [Act.put, List.setIfInBounds_toArray, List.set_cons_zero, List.set_cons_succ])) | ((apply sure_off (hg := rfl)); (simp only [Act.put, List.setIfInBounds_toArray, List.set_cons_zero, List.set_cons_succ])))); (refine sure_nil ?_))
            intro W5 hS5
            replace kP := kP.b hS5
            replace hb := b_step hb hS5
            clear hS5 eP fP lP gc gf gl
            obtain ⟨eP, fP, lP⟩ := kP.cells
            obtain ⟨gc, gf, gl⟩ := bcell hb
            by_cases hk0 : k = 0
            · have HK := Lib.hid hk0
              have hk1 : decide ((0 : Int) < (k : Int)) = false := by simp [hk0]
              have hk2 : decide (0 < k) = false := by simp [hk0]
              clear hk0
              go_wp2_with fail
              ((refine calm_b (by kernel_rfl) (by kernel_rfl) ?_); (repeat (first | ((apply sure_cons (hg := rfl)); (focus ((intro w' hS'); (obtain ⟨hcS, hfS, hlS⟩ := bcell hS'); (try simp only [World.size_setCell, World.size_alloc, World.size_drew] at hS' hcS hfS hlS); (go_simp); (try go_bits); (try ((first | rw [if_pos (by omega)] | rw [if_neg (by omega)]); go_simp)); (first | (with_reducible rfl) | (with_reducible exact rfl) | (with_reducible exact ⟨rfl, hS'⟩) | fail))); (simp only [Act.put, List.setIfInBounds_toArray, List.set_cons_zero, List.set_cons_succ])) | ((apply sure_off (hg := rfl)); (simp only [Act.put, List.setIfInBounds_toArray, List.set_cons_zero, List.set_cons_succ])))); (refine sure_nil ?_))
              intro W6 hS6
              go_wp2_with fail
              go_roundw
              case rel => exact ⟨k + 1, by omega, by go_num, hg.succ ⟨hI, fun h9 => by have := HK.out; omega⟩, kP.b hS6, b_step hb hS6⟩
              case measure => simp [intOf]; omega
            · have hk1 : decide ((0 : Int) < (k : Int)) = true := by simp; omega
              have hk2 : decide (0 < k) = true := by simp; omega
              have c1 := hF.S1 (k - 1) (by omega)
              obtain ⟨i1, i2⟩ := id hI
              obtain ⟨i3, i4⟩ := hg.at_ (j := k - 1) (by omega)
              have i5 := W.low k (by omega)
              have i6 := W.high k (by omega)
              have i7 := W.low (k - 1) (by omega)
              have i8 := W.high (k - 1) (by omega)
              by_cases hD : LL.In (LL.nthI f k - LL.nthI f (k - 1)) p.q (LL.most p (k - 1))
              · go_wp2_with fail
                ((refine calm_b (by kernel_rfl) (by kernel_rfl) ?_); (repeat (first | ((apply sure_cons (hg := rfl)); (focus ((intro w' hS'); (obtain ⟨hcS, hfS, hlS⟩ := bcell hS'); (try simp only [World.size_setCell, World.size_alloc, World.size_drew] at hS' hcS hfS hlS); (go_simp); (try go_bits); (try ((first | rw [if_pos (by omega)] | rw [if_neg (by omega)]); go_simp)); (first | (with_reducible rfl) | (with_reducible exact rfl) | (with_reducible exact ⟨rfl, hS'⟩) | (first | (go_at_call 82; go_loud (refine (spec_l3Most_c p _ c (k - 1) _ (by omega) (by omega) _ (h.mono (b_step hb hS'))).mono ?_); rintro e w'' ⟨rfl, hb⟩; (first | (subst hb; exact ⟨rfl, hS'⟩) | exact ⟨rfl, b_to hS' hb (by first | exact Nat.le_refl _ | (have h1 := hS'.size; (try simp only [World.size_setCell, World.size_alloc, World.size_drew] at h1); omega))⟩)) | (go_at_call 72; go_loud (refine (spec_l1In_c _ _ _ _).mono ?_); rintro e w'' ⟨rfl, hb⟩; (first | (subst hb; exact ⟨rfl, hS'⟩) | exact ⟨rfl, b_to hS' hb (by first | exact Nat.le_refl _ | (have h1 := hS'.size; (try simp only [World.size_setCell, World.size_alloc, World.size_drew] at h1); omega))⟩)))))); (simp only [Act.put, List.setIfInBounds_toArray, List.set_cons_zero, List.set_cons_succ])) | ((apply sure_off (hg := rfl)); (simp only [Act.put, List.setIfInBounds_toArray, List.set_cons_zero, List.set_cons_succ])))); (refine sure_nil ?_))
                intro W6 hS6
                go_wp2_with fail
                go_roundw
                case rel => exact ⟨k + 1, by omega, by go_num, hg.succ ⟨hI, fun _ => LL.most_ok hD⟩, kP.b hS6, b_step hb hS6⟩
                case measure => simp [intOf]; omega
              · go_wp2_with fail
                ((refine calm_b (by kernel_rfl) (by kernel_rfl) ?_); (repeat (first | ((apply sure_cons (hg := rfl)); (focus ((intro w' hS'); (obtain ⟨hcS, hfS, hlS⟩ := bcell hS'); (try simp only [World.size_setCell, World.size_alloc, World.size_drew] at hS' hcS hfS hlS); (go_simp); (try go_bits); (try ((first | rw [if_pos (by omega)] | rw [if_neg (by omega)]); go_simp)); (first | (with_reducible rfl) | (with_reducible exact rfl) | (with_reducible exact ⟨rfl, hS'⟩) | (first | (go_at_call 82; go_loud (refine (spec_l3Most_c p _ c (k - 1) _ (by omega) (by omega) _ (h.mono (b_step hb hS'))).mono ?_); rintro e w'' ⟨rfl, hb⟩; (first | (subst hb; exact ⟨rfl, hS'⟩) | exact ⟨rfl, b_to hS' hb (by first | exact Nat.le_refl _ | (have h1 := hS'.size; (try simp only [World.size_setCell, World.size_alloc, World.size_drew] at h1); omega))⟩)) | (go_at_call 72; go_loud (refine (spec_l1In_c _ _ _ _).mono ?_); rintro e w'' ⟨rfl, hb⟩; (first | (subst hb; exact ⟨rfl, hS'⟩) | exact ⟨rfl, b_to hS' hb (by first | exact Nat.le_refl _ | (have h1 := hS'.size; (try simp only [World.size_setCell, World.size_alloc, World.size_drew] at h1); omega))⟩)))))); (simp only [Act.put, List.setIfInBounds_toArray, List.set_cons_zero, List.set_cons_succ])) | ((apply sure_off (hg := rfl)); (simp only [Act.put, List.setIfInBounds_toArray, List.set_cons_zero, List.set_cons_succ])))); (refine sure_nil ?_))
                intro W6 hS6
                go_wp2_with fail
                go_ret
                exact ⟨rd_ (iff_of_false (LL.Lawful.bad hlt (fun h9 => hD (LL.most_in (by omega) (h9.2 (by omega))))) (by simp)), (by repeat' (first | with_reducible exact Below.refl _ _ | with_reducible assumption | with_reducible refine b_alloc ?_ _ | with_reducible refine b_drewN ?_ _ | with_reducible refine b_drew ?_ | with_reducible refine b_set ?_ (by first | (simp only [World.size_setCell, World.size_alloc, World.size_drew]; omega) | (simp; done) | (simp; omega)) _ | with_reducible refine b_step ?_ (by with_reducible assumption)))⟩
          · have hk3 : k ≤ p.steps.length := by omega
            go_wp2_with fail
            ((refine calm_b (by kernel_rfl) (by kernel_rfl) ?_); (repeat (first | ((apply sure_cons (hg := rfl)); (focus ((intro w' hS'); (obtain ⟨hcS, hfS, hlS⟩ := bcell hS'); (try simp only [World.size_setCell, World.size_alloc, World.size_drew] at hS' hcS hfS hlS); (go_simp); (try go_bits); (try ((first | rw [if_pos (by omega)] | rw [if_neg (by omega)]); go_simp)); (first | (with_reducible rfl) | (with_reducible exact rfl) | (with_reducible exact ⟨rfl, hS'⟩) | (first | (go_at_call 80; go_loud (refine (spec_l3Low_c p _ c k _ rfl _ (h.mono (b_step hb hS'))).mono ?_); rintro e w'' ⟨rfl, hb⟩; (first | (subst hb; exact ⟨rfl, hS'⟩) | exact ⟨rfl, b_to hS' hb (by first | exact Nat.le_refl _ | (have h1 := hS'.size; (try simp only [World.size_setCell, World.size_alloc, World.size_drew] at h1); omega))⟩)) | (go_at_call 81; go_loud (refine (spec_l3High_c p _ c k _ rfl _ (h.mono (b_step hb hS'))).mono ?_); rintro e w'' ⟨rfl, hb⟩; (first | (subst hb; exact ⟨rfl, hS'⟩) | exact ⟨rfl, b_to hS' hb (by first | exact Nat.le_refl _ | (have h1 := hS'.size; (try simp only [World.size_setCell, World.size_alloc, World.size_drew] at h1); omega))⟩)) | (go_at_call 72; go_loud (refine (spec_l1In_c _ _ _ _).mono ?_); rintro e w'' ⟨rfl, hb⟩; (first | (subst hb; exact ⟨rfl, hS'⟩) | exact ⟨rfl, b_to hS' hb (by first | exact Nat.le_refl _ | (have h1 := hS'.size; (try simp only [World.size_setCell, World.size_alloc, World.size_drew] at h1); omega))⟩)))))); (simp only [Act.put, List.setIfInBounds_toArray, List.set_cons_zero, List.set_cons_succ])) | ((apply sure_off (hg := rfl)); (simp only [Act.put, List.setIfInBounds_toArray, List.set_cons_zero, List.set_cons_succ])))); (refine sure_nil ?_))
            intro W5 hS5
            go_wp2_with fail
            go_ret
            exact ⟨rd_ (iff_of_false (LL.Lawful.bad hlt (fun h9 => hI h9.1)) (by simp)), (by repeat' (first | with_reducible exact Below.refl _ _ | with_reducible assumption | with_reducible refine b_alloc ?_ _ | with_reducible refine b_drewN ?_ _ | with_reducible refine b_drew ?_ | with_reducible refine b_set ?_ (by first | (simp only [World.size_setCell, World.size_alloc, World.size_drew]; omega) | (simp; done) | (simp; omega)) _ | with_reducible refine b_step ?_ (by with_reducible assumption)))⟩
        · obtain rfl : k = f.length := by omega
          go_wp2
          go_ret
          exact ⟨rd_ (iff_of_true ⟨hP, Hlen.out, hg⟩ rfl), hb⟩
    · have hne : ((f.length : Int) == (p.steps.length : Int) + 1) = false := by simp; omega
      have hne2 : ((f.length : Int) != (p.steps.length : Int) + 1) = true := by simp; omega
      go_enter Try.func36, Try.ntmps36
      go_wp2_with (go_at_call 26; go_loud (refine (spec_FlyPathOk_c _ _ _ _ (by exact Rd.mono (by with_reducible assumption) (by repeat' (first | with_reducible exact Below.refl _ _ | with_reducible assumption | with_reducible refine b_alloc ?_ _ | with_reducible refine b_drewN ?_ _ | with_reducible refine b_drew ?_ | with_reducible refine b_set ?_ (by first | (simp only [World.size_setCell, World.size_alloc, World.size_drew]; omega) | (simp; done) | (simp; omega)) _ | with_reducible refine b_step ?_ (by with_reducible assumption))))).mono ?_); rintro e w1 ⟨rfl, hb⟩; (repeat (with_reducible first | replace hb := b_un hb | replace hb := b_unN hb)); obtain ⟨hc, hf, hl⟩ := bcell hb; obtain ⟨gc, gf, gl⟩ := bcell (b_step (w := w) (by repeat' (first | with_reducible exact Below.refl _ _ | with_reducible assumption | with_reducible refine b_alloc ?_ _ | with_reducible refine b_drewN ?_ _ | with_reducible refine b_drew ?_ | with_reducible refine b_set ?_ (by first | (simp only [World.size_setCell, World.size_alloc, World.size_drew]; omega) | (simp; done) | (simp; omega)) _ | with_reducible refine b_step ?_ (by with_reducible assumption))) hb); have hz := hb.size; (try simp at hz); have yw1_0 : w.heap.size < w1.heap.size := (by omega))
      go_ret
      exact ⟨rd_ (iff_of_false (fun h9 => hlen h9.2.1) (by simp)), (by repeat' (first | with_reducible exact Below.refl _ _ | with_reducible assumption | with_reducible refine b_alloc ?_ _ | with_reducible refine b_drewN ?_ _ | with_reducible refine b_drew ?_ | with_reducible refine b_set ?_ (by first | (simp only [World.size_setCell, World.size_alloc, World.size_drew]; omega) | (simp; done) | (simp; omega)) _ | with_reducible refine b_step ?_ (by with_reducible assumption)))⟩
  · go_enter Try.func36, Try.ntmps36
    go_wp2_with (go_at_call 26; go_loud (refine (spec_FlyPathOk_c _ _ _ _ (by exact Rd.mono (by with_reducible assumption) (by repeat' (first | with_reducible exact Below.refl _ _ | with_reducible assumption | with_reducible refine b_alloc ?_ _ | with_reducible refine b_drewN ?_ _ | with_reducible refine b_drew ?_ | with_reducible refine b_set ?_ (by first | (simp only [World.size_setCell, World.size_alloc, World.size_drew]; omega) | (simp; done) | (simp; omega)) _ | with_reducible refine b_step ?_ (by with_reducible assumption))))).mono ?_); rintro e w1 ⟨rfl, hb⟩; (repeat (with_reducible first | replace hb := b_un hb | replace hb := b_unN hb)); obtain ⟨hc, hf, hl⟩ := bcell hb; obtain ⟨gc, gf, gl⟩ := bcell (b_step (w := w) (by repeat' (first | with_reducible exact Below.refl _ _ | with_reducible assumption | with_reducible refine b_alloc ?_ _ | with_reducible refine b_drewN ?_ _ | with_reducible refine b_drew ?_ | with_reducible refine b_set ?_ (by first | (simp only [World.size_setCell, World.size_alloc, World.size_drew]; omega) | (simp; done) | (simp; omega)) _ | with_reducible refine b_step ?_ (by with_reducible assumption))) hb); have hz := hb.size; (try simp at hz); have yw1_0 : w.heap.size < w1.heap.size := (by omega))
    go_ret
    exact ⟨rd_ (iff_of_false (fun h9 => hP h9.1) (by simp)), (by repeat' (first | with_reducible exact Below.refl _ _ | with_reducible assumption | with_reducible refine b_alloc ?_ _ | with_reducible refine b_drewN ?_ _ | with_reducible refine b_drew ?_ | with_reducible refine b_set ?_ (by first | (simp only [World.size_setCell, World.size_alloc, World.size_drew]; omega) | (simp; done) | (simp; omega)) _ | with_reducible refine b_step ?_ (by with_reducible assumption)))⟩
end Go.Proofs.Ytpeojnknfonmlaa
