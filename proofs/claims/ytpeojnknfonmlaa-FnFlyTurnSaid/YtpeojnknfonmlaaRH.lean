/- What a path allows, as the laws say it. -/
import Derived.Test.YtpeojnknfonmlaaJ7
import Derived.Test.YtpeojnknfonmlaaJ4
import Derived.Test.YtpeojnknfonmlaaJ5
set_option linter.unusedVariables false
set_option linter.unusedSimpArgs false
namespace Go.Proofs.Ytpeojnknfonmlaa
open Go.RowKit
namespace LL
/-- a list of ticks is a flight that keeps to a path -/
def Allowed (p : Path) (f : List Int) : Prop := f.length = p.steps.length + 1 ∧ Flight p (nthI f)
noncomputable instance (p : Path) (f : List Int) : Decidable (Allowed p f) := Classical.propDecidable _
/-- what the first k tests say -/
def AllTo (p : Path) (f : List Int) (k : Nat) : Prop := ∀ j, j < k → (nth p.steps j).fr ≤ nthI f j ∧ nthI f j ≤ (nth p.steps j).by_ ∧ (0 ≤ nthI f (j + 1) → nthI f (j + 1) ≤ 10000 → nthI f j + p.q ≤ nthI f (j + 1) ∧ ((nth p.steps j).hold = false → nthI f (j + 1) ≤ nthI f j + p.s))
theorem AllTo.zero (p : Path) (f : List Int) : AllTo p f 0 := fun j h => absurd h (Nat.not_lt_zero _)
theorem w_small {x y : Int} (h0 : 0 ≤ x) (h1 : x ≤ 10000) (h2 : 0 ≤ y) (h3 : y ≤ 10000) : IntKind.i64.wrap (y - x) = y - x := by
  simp only [IntKind.wrap, IntKind.bits, IntKind.signed]; simp; omega
theorem PathOk.fr0 {p : Path} (h : PathOk p) (k : Nat) (hk : k < p.steps.length) : 0 ≤ (nth p.steps k).fr ∧ (nth p.steps k).by_ ≤ 10000 := by
  obtain ⟨_, _, _, _, _, j⟩ := h
  obtain ⟨⟨_, _, _, _, _, a, b, c⟩, _⟩ := j k hk
  exact ⟨a, c⟩
theorem AllTo.succ {p : Path} {f : List Int} {k : Nat} (h : AllTo p f k) (hP : PathOk p) (hk : k < p.steps.length) (h1 : ¬ nthI f k < (nth p.steps k).fr) (h2 : ¬ (nth p.steps k).by_ < nthI f k) (h3 : ¬ IntKind.i64.wrap (nthI f (k + 1) - nthI f k) < p.q) (h4 : (nth p.steps k).hold = false → ¬ p.s < IntKind.i64.wrap (nthI f (k + 1) - nthI f k)) : AllTo p f (k + 1) := fun j hj => by
  rcases Nat.lt_succ_iff_lt_or_eq.1 hj with h5 | rfl
  · exact h j h5
  · have hb := hP.fr0 j hk
    refine ⟨by omega, by omega, fun a b => ?_⟩
    rw [w_small (by omega) (by omega) a b] at h3 h4
    exact ⟨by omega, fun e => by have := h4 e; omega⟩
theorem Allowed.rng {p : Path} {f : List Int} (h : Allowed p f) (hP : PathOk p) (k : Nat) (hk : k ≤ p.steps.length) : 0 ≤ nthI f k ∧ nthI f k ≤ 10000 := by
  have W := hP.win
  exact ⟨Int.le_trans (W.low k hk) (h.2.low k hk), Int.le_trans (h.2.high k hk) (W.high k hk)⟩
theorem not_allowed1 {p : Path} {f : List Int} {k : Nat} (hk : k < p.steps.length) (h1 : nthI f k < (nth p.steps k).fr) : ¬ Allowed p f := fun h => by
  have := h.2.low k (by omega); unfold lowB Path.at_ at this; rw [if_pos hk] at this; omega
theorem not_allowed2 {p : Path} {f : List Int} {k : Nat} (hk : k < p.steps.length) (h1 : (nth p.steps k).by_ < nthI f k) : ¬ Allowed p f := fun h => by
  have := h.2.high k (by omega); unfold highB Path.at_ at this; rw [if_pos hk] at this; omega
theorem not_allowed3 {p : Path} {f : List Int} {k : Nat} (hP : PathOk p) (hk : k < p.steps.length) (h1 : IntKind.i64.wrap (nthI f (k + 1) - nthI f k) < p.q) : ¬ Allowed p f := fun h => by
  have a := h.rng hP k (by omega)
  have b := h.rng hP (k + 1) (by omega)
  rw [w_small a.1 a.2 b.1 b.2] at h1
  have := h.2.quick k hk
  omega
theorem not_allowed4 {p : Path} {f : List Int} {k : Nat} (hP : PathOk p) (hk : k < p.steps.length) (hh : (nth p.steps k).hold = false) (h1 : p.s < IntKind.i64.wrap (nthI f (k + 1) - nthI f k)) : ¬ Allowed p f := fun h => by
  have a := h.rng hP k (by omega)
  have b := h.rng hP (k + 1) (by omega)
  rw [w_small a.1 a.2 b.1 b.2] at h1
  have := h.2.slow k hk hh
  omega
theorem not_allowed5 {p : Path} {f : List Int} (h1 : nthI f p.steps.length < p.fr) : ¬ Allowed p f := fun h => by
  have := h.2.low _ (Nat.le_refl _); unfold lowB at this; rw [if_neg (Nat.lt_irrefl _)] at this; omega
theorem not_allowed6 {p : Path} {f : List Int} (h1 : p.by_ < nthI f p.steps.length) : ¬ Allowed p f := fun h => by
  have := h.2.high _ (Nat.le_refl _); unfold highB at this; rw [if_neg (Nat.lt_irrefl _)] at this; omega
theorem AllTo.done {p : Path} {f : List Int} (h : AllTo p f p.steps.length) (hP : PathOk p) (hl : f.length = p.steps.length + 1) (h1 : ¬ nthI f p.steps.length < p.fr) (h2 : ¬ p.by_ < nthI f p.steps.length) : Allowed p f := by
  have rng : ∀ j, j ≤ p.steps.length → 0 ≤ nthI f j ∧ nthI f j ≤ 10000 := fun j hj => by
    rcases Nat.lt_or_ge j p.steps.length with h3 | h3
    · have a := h j h3; have b := hP.fr0 j h3; omega
    · obtain rfl : j = p.steps.length := by omega
      have a := hP.2.2.1; have b := hP.2.2.2.2.1; omega
  refine ⟨hl, ⟨fun k hk => ?_, fun k hk => ?_, fun k hk => ?_, fun k hk hh => ?_⟩⟩
  · unfold lowB
    split
    · rename_i h3; exact (h k h3).1
    · obtain rfl : k = p.steps.length := by omega
      omega
  · unfold highB
    split
    · rename_i h3; exact (h k h3).2.1
    · obtain rfl : k = p.steps.length := by omega
      omega
  · have r := rng (k + 1) (by omega)
    exact ((h k hk).2.2 r.1 r.2).1
  · have r := rng (k + 1) (by omega)
    exact ((h k hk).2.2 r.1 r.2).2 hh
end LL
set_option maxRecDepth 100000 in
set_option maxHeartbeats 8000000 in
theorem wfAllowed_c (p : LL.Path) (f : List Int) (A F : Option Addr) (c m : Nat) (w : World) (hP : LL.PathOk p) (h : RdS w A p.steps.length c p.steps) (hF : RdI w F f.length m f) : Calls Try.prog 31 #[.agg #[.int .i64 p.q, .int .i64 p.s, .slice A p.steps.length c, .int .i64 p.fr, .int .i64 p.by_], .slice F f.length m] w fun e w' => e = .returned (.bool (decide (LL.Allowed p f))) ∧ Below w.heap.size w w' := by
  have hl40 := hP.2.1.2
  have hr1 := hF.room
  have kP0 := Blk.new w #[.int .i64 p.q, .int .i64 p.s, .slice A p.steps.length c, .int .i64 p.fr, .int .i64 p.by_] 43
  by_cases hlen : f.length = p.steps.length + 1
  rotate_left
  · have hneg : decide (LL.Allowed p f) = false := decide_eq_false fun h => hlen h.1
    rw [hneg]
    have hl' : ¬ ((f.length : Int) = (p.steps.length : Int) + 1) := by omega
    have hl2 : ((f.length : Int) != (p.steps.length : Int) + 1) = true := by simp [hl']
    clear hlen
    go_enter Try.func31, Try.ntmps31
    go_wp2
    go_ret
    exact ⟨rfl, (by repeat' (first | with_reducible exact Below.refl _ _ | with_reducible assumption | with_reducible refine b_alloc ?_ _ | with_reducible refine b_drewN ?_ _ | with_reducible refine b_drew ?_ | with_reducible refine b_set ?_ (by first | (simp only [World.size_setCell, World.size_alloc, World.size_drew]; omega) | (simp; done) | (simp; omega)) _ | with_reducible refine b_step ?_ (by with_reducible assumption)))⟩
  rw [hlen] at hF ⊢
  have hlen' := Lib.hid hlen
  clear hlen
  go_enter Try.func31, Try.ntmps31
  go_wp2
  go_loopw [6, 7] (fun i s wr => ∃ k : Nat, k ≤ p.steps.length ∧ i = .int .i64 k ∧ LL.AllTo p f k ∧ Blk wr w.heap.size #[.int .i64 p.q, .int .i64 p.s, .slice A p.steps.length c, .int .i64 p.fr, .int .i64 p.by_] 43 ∧ Below w.heap.size w wr) (fun i _ _ => p.steps.length - (intOf i).toNat)
  case atStart => exact ⟨0, by omega, rfl, LL.AllTo.zero _ _, kP0, (by repeat' (first | with_reducible exact Below.refl _ _ | with_reducible assumption | with_reducible refine b_alloc ?_ _ | with_reducible refine b_drewN ?_ _ | with_reducible refine b_drew ?_ | with_reducible refine b_set ?_ (by first | (simp only [World.size_setCell, World.size_alloc, World.size_drew]; omega) | (simp; done) | (simp; omega)) _ | with_reducible refine b_step ?_ (by with_reducible assumption)))⟩
  case round =>
    obtain ⟨k, hk, rfl, hA, kP, hb⟩ := hrel
    clear kP0
    obtain ⟨e0, f0, l0⟩ := kP.cells
    obtain ⟨hc, hf, hl⟩ := bcell hb
    obtain ⟨b', off', rfl, hbw'⟩ := hF.addr (by omega)
    by_cases hlt : k < p.steps.length
    · obtain ⟨b, off, rfl, hbw⟩ := h.addr (by omega)
      obtain ⟨d0, d1, d2, d3, d4, d5, d6⟩ := h.S7 k hlt
      have x0 := hF.S1 k (by omega)
      have x1 := hF.S1 (k + 1) (by omega)
      have hS := fun a b c d => hA.succ hP hlt a b c d
      have hN1 := LL.not_allowed1 (f := f) hlt
      have hN2 := LL.not_allowed2 (f := f) hlt
      have hN3 := LL.not_allowed3 (f := f) hP hlt
      have hN4 := LL.not_allowed4 (f := f) hP hlt
      generalize LL.nth p.steps k = z at *
      generalize LL.nthI f k = x at *
      generalize LL.nthI f (k + 1) = y at *
      replace hS := Lib.hid hS
      replace hN1 := Lib.hid hN1
      replace hN2 := Lib.hid hN2
      replace hN3 := Lib.hid hN3
      replace hN4 := Lib.hid hN4
      generalize z.hold = zh at *
      by_cases t1 : x < z.fr
      · have t1' := t1
        have hneg : decide (LL.Allowed p f) = false := decide_eq_false (hN1.out t1)
        go_upto_region 8 with fail
        refine wp_name (fun W => Blk W w.heap.size #[.int .i64 p.q, .int .i64 p.s, .slice (some ⟨b, off, none⟩) p.steps.length c, .int .i64 p.fr, .int .i64 p.by_] 43 ∧ Blk W wr.heap.size #[.int .i64 z.x, .int .i64 z.y, .int .i64 z.lo, .int .i64 z.hi, .int .i64 z.fr, .int .i64 z.by_, .bool zh] 79 ∧ Below w.heap.size w W) ⟨kP.a _, Blk.new _ _ _, b_alloc hb _⟩ ?_
        clear e0 f0 l0 hc hf hl
        rintro W ⟨kP9, kS, hb9⟩
        generalize wr.heap.size = bs at *
        obtain ⟨e0, f0, l0⟩ := kP9.cells
        obtain ⟨e1, f1, l1⟩ := kS.cells
        obtain ⟨hc, hf, hl⟩ := bcell hb9
        ((refine calm_b (by kernel_rfl) (by kernel_rfl) ?_); (repeat (first | ((apply sure_cons (hg := rfl)); (focus ((intro w' hS'); (obtain ⟨hcS, hfS, hlS⟩ := bcell hS'); (try simp only [World.size_setCell, World.size_alloc, World.size_drew] at hS' hcS hfS hlS); (go_simp); (try go_bits); (try ((first | rw [if_pos (by omega)] | rw [if_neg (by omega)]); go_simp)); (first | (with_reducible rfl) | (with_reducible exact rfl) | (with_reducible exact ⟨rfl, hS'⟩) | fail))); (simp only [Act.put, List.setIfInBounds_toArray, List.set_cons_zero, List.set_cons_succ])) | ((apply sure_off (hg := rfl)); (simp only [Act.put, List.setIfInBounds_toArray, List.set_cons_zero, List.set_cons_succ])))); (refine sure_nil ?_))
        intro w' hS'
        go_wp2
        go_ret
        exact ⟨by (first | rfl | rw [hneg]), (by repeat' (first | with_reducible exact Below.refl _ _ | with_reducible assumption | with_reducible refine b_alloc ?_ _ | with_reducible refine b_drewN ?_ _ | with_reducible refine b_drew ?_ | with_reducible refine b_set ?_ (by first | (simp only [World.size_setCell, World.size_alloc, World.size_drew]; omega) | (simp; done) | (simp; omega)) _ | with_reducible refine b_step ?_ (by with_reducible assumption)))⟩
      by_cases t2 : z.by_ < x
      · have t1' := t1
        have hneg : decide (LL.Allowed p f) = false := decide_eq_false (hN2.out t2)
        go_upto_region 8 with fail
        refine wp_name (fun W => Blk W w.heap.size #[.int .i64 p.q, .int .i64 p.s, .slice (some ⟨b, off, none⟩) p.steps.length c, .int .i64 p.fr, .int .i64 p.by_] 43 ∧ Blk W wr.heap.size #[.int .i64 z.x, .int .i64 z.y, .int .i64 z.lo, .int .i64 z.hi, .int .i64 z.fr, .int .i64 z.by_, .bool zh] 79 ∧ Below w.heap.size w W) ⟨kP.a _, Blk.new _ _ _, b_alloc hb _⟩ ?_
        clear e0 f0 l0 hc hf hl
        rintro W ⟨kP9, kS, hb9⟩
        generalize wr.heap.size = bs at *
        obtain ⟨e0, f0, l0⟩ := kP9.cells
        obtain ⟨e1, f1, l1⟩ := kS.cells
        obtain ⟨hc, hf, hl⟩ := bcell hb9
        ((refine calm_b (by kernel_rfl) (by kernel_rfl) ?_); (repeat (first | ((apply sure_cons (hg := rfl)); (focus ((intro w' hS'); (obtain ⟨hcS, hfS, hlS⟩ := bcell hS'); (try simp only [World.size_setCell, World.size_alloc, World.size_drew] at hS' hcS hfS hlS); (go_simp); (try go_bits); (try ((first | rw [if_pos (by omega)] | rw [if_neg (by omega)]); go_simp)); (first | (with_reducible rfl) | (with_reducible exact rfl) | (with_reducible exact ⟨rfl, hS'⟩) | fail))); (simp only [Act.put, List.setIfInBounds_toArray, List.set_cons_zero, List.set_cons_succ])) | ((apply sure_off (hg := rfl)); (simp only [Act.put, List.setIfInBounds_toArray, List.set_cons_zero, List.set_cons_succ])))); (refine sure_nil ?_))
        intro w' hS'
        go_wp2
        go_ret
        exact ⟨by (first | rfl | rw [hneg]), (by repeat' (first | with_reducible exact Below.refl _ _ | with_reducible assumption | with_reducible refine b_alloc ?_ _ | with_reducible refine b_drewN ?_ _ | with_reducible refine b_drew ?_ | with_reducible refine b_set ?_ (by first | (simp only [World.size_setCell, World.size_alloc, World.size_drew]; omega) | (simp; done) | (simp; omega)) _ | with_reducible refine b_step ?_ (by with_reducible assumption)))⟩
      generalize hD : IntKind.i64.wrap (y - x) = D at *
      have hD' := Lib.hid hD
      by_cases t3 : D < p.q
      · have t1' := t1
        have hneg : decide (LL.Allowed p f) = false := decide_eq_false (hN3.out t3)
        go_upto_region 8 with fail
        refine wp_name (fun W => Blk W w.heap.size #[.int .i64 p.q, .int .i64 p.s, .slice (some ⟨b, off, none⟩) p.steps.length c, .int .i64 p.fr, .int .i64 p.by_] 43 ∧ Blk W wr.heap.size #[.int .i64 z.x, .int .i64 z.y, .int .i64 z.lo, .int .i64 z.hi, .int .i64 z.fr, .int .i64 z.by_, .bool zh] 79 ∧ Below w.heap.size w W) ⟨kP.a _, Blk.new _ _ _, b_alloc hb _⟩ ?_
        clear e0 f0 l0 hc hf hl
        rintro W ⟨kP9, kS, hb9⟩
        generalize wr.heap.size = bs at *
        obtain ⟨e0, f0, l0⟩ := kP9.cells
        obtain ⟨e1, f1, l1⟩ := kS.cells
        obtain ⟨hc, hf, hl⟩ := bcell hb9
        ((refine calm_b (by kernel_rfl) (by kernel_rfl) ?_); (repeat (first | ((apply sure_cons (hg := rfl)); (focus ((intro w' hS'); (obtain ⟨hcS, hfS, hlS⟩ := bcell hS'); (try simp only [World.size_setCell, World.size_alloc, World.size_drew] at hS' hcS hfS hlS); (go_simp); (try go_bits); (try ((first | rw [if_pos (by omega)] | rw [if_neg (by omega)]); go_simp)); (first | (with_reducible rfl) | (with_reducible exact rfl) | (with_reducible exact ⟨rfl, hS'⟩) | fail))); (simp only [Act.put, List.setIfInBounds_toArray, List.set_cons_zero, List.set_cons_succ])) | ((apply sure_off (hg := rfl)); (simp only [Act.put, List.setIfInBounds_toArray, List.set_cons_zero, List.set_cons_succ])))); (refine sure_nil ?_))
        intro w' hS'
        go_wp2
        go_ret
        exact ⟨by (first | rfl | rw [hneg]), (by repeat' (first | with_reducible exact Below.refl _ _ | with_reducible assumption | with_reducible refine b_alloc ?_ _ | with_reducible refine b_drewN ?_ _ | with_reducible refine b_drew ?_ | with_reducible refine b_set ?_ (by first | (simp only [World.size_setCell, World.size_alloc, World.size_drew]; omega) | (simp; done) | (simp; omega)) _ | with_reducible refine b_step ?_ (by with_reducible assumption)))⟩
      cases zh
      · by_cases t4 : p.s < D
        · have t1' := t1
          have hneg : decide (LL.Allowed p f) = false := decide_eq_false (hN4.out rfl t4)
          go_upto_region 8 with fail
          refine wp_name (fun W => Blk W w.heap.size #[.int .i64 p.q, .int .i64 p.s, .slice (some ⟨b, off, none⟩) p.steps.length c, .int .i64 p.fr, .int .i64 p.by_] 43 ∧ Blk W wr.heap.size #[.int .i64 z.x, .int .i64 z.y, .int .i64 z.lo, .int .i64 z.hi, .int .i64 z.fr, .int .i64 z.by_, .bool false] 79 ∧ Below w.heap.size w W) ⟨kP.a _, Blk.new _ _ _, b_alloc hb _⟩ ?_
          clear e0 f0 l0 hc hf hl
          rintro W ⟨kP9, kS, hb9⟩
          generalize wr.heap.size = bs at *
          obtain ⟨e0, f0, l0⟩ := kP9.cells
          obtain ⟨e1, f1, l1⟩ := kS.cells
          obtain ⟨hc, hf, hl⟩ := bcell hb9
          ((refine calm_b (by kernel_rfl) (by kernel_rfl) ?_); (repeat (first | ((apply sure_cons (hg := rfl)); (focus ((intro w' hS'); (obtain ⟨hcS, hfS, hlS⟩ := bcell hS'); (try simp only [World.size_setCell, World.size_alloc, World.size_drew] at hS' hcS hfS hlS); (go_simp); (try go_bits); (try ((first | rw [if_pos (by omega)] | rw [if_neg (by omega)]); go_simp)); (first | (with_reducible rfl) | (with_reducible exact rfl) | (with_reducible exact ⟨rfl, hS'⟩) | fail))); (simp only [Act.put, List.setIfInBounds_toArray, List.set_cons_zero, List.set_cons_succ])) | ((apply sure_off (hg := rfl)); (simp only [Act.put, List.setIfInBounds_toArray, List.set_cons_zero, List.set_cons_succ])))); (refine sure_nil ?_))
          intro w' hS'
          go_wp2
          go_ret
          exact ⟨by (first | rfl | rw [hneg]), (by repeat' (first | with_reducible exact Below.refl _ _ | with_reducible assumption | with_reducible refine b_alloc ?_ _ | with_reducible refine b_drewN ?_ _ | with_reducible refine b_drew ?_ | with_reducible refine b_set ?_ (by first | (simp only [World.size_setCell, World.size_alloc, World.size_drew]; omega) | (simp; done) | (simp; omega)) _ | with_reducible refine b_step ?_ (by with_reducible assumption)))⟩
        · have t1' := t1
          go_upto_region 8 with fail
          refine wp_name (fun W => Blk W w.heap.size #[.int .i64 p.q, .int .i64 p.s, .slice (some ⟨b, off, none⟩) p.steps.length c, .int .i64 p.fr, .int .i64 p.by_] 43 ∧ Blk W wr.heap.size #[.int .i64 z.x, .int .i64 z.y, .int .i64 z.lo, .int .i64 z.hi, .int .i64 z.fr, .int .i64 z.by_, .bool false] 79 ∧ Below w.heap.size w W) ⟨kP.a _, Blk.new _ _ _, b_alloc hb _⟩ ?_
          clear e0 f0 l0 hc hf hl
          rintro W ⟨kP9, kS, hb9⟩
          generalize wr.heap.size = bs at *
          obtain ⟨e0, f0, l0⟩ := kP9.cells
          obtain ⟨e1, f1, l1⟩ := kS.cells
          obtain ⟨hc, hf, hl⟩ := bcell hb9
          ((refine calm_b (by kernel_rfl) (by kernel_rfl) ?_); (repeat (first | ((apply sure_cons (hg := rfl)); (focus ((intro w' hS'); (obtain ⟨hcS, hfS, hlS⟩ := bcell hS'); (try simp only [World.size_setCell, World.size_alloc, World.size_drew] at hS' hcS hfS hlS); (go_simp); (try go_bits); (try ((first | rw [if_pos (by omega)] | rw [if_neg (by omega)]); go_simp)); (first | (with_reducible rfl) | (with_reducible exact rfl) | (with_reducible exact ⟨rfl, hS'⟩) | fail))); (simp only [Act.put, List.setIfInBounds_toArray, List.set_cons_zero, List.set_cons_succ])) | ((apply sure_off (hg := rfl)); (simp only [Act.put, List.setIfInBounds_toArray, List.set_cons_zero, List.set_cons_succ])))); (refine sure_nil ?_))
          intro w' hS'
          go_wp2
          go_roundw
          case rel => exact ⟨k + 1, by omega, by go_num, hS.out t1 t2 t3 (fun _ => t4), kP9.b hS', b_step hb9 hS'⟩
          case measure => simp [intOf]; omega
      · have t1' := t1
        go_upto_region 8 with fail
        refine wp_name (fun W => Blk W w.heap.size #[.int .i64 p.q, .int .i64 p.s, .slice (some ⟨b, off, none⟩) p.steps.length c, .int .i64 p.fr, .int .i64 p.by_] 43 ∧ Blk W wr.heap.size #[.int .i64 z.x, .int .i64 z.y, .int .i64 z.lo, .int .i64 z.hi, .int .i64 z.fr, .int .i64 z.by_, .bool true] 79 ∧ Below w.heap.size w W) ⟨kP.a _, Blk.new _ _ _, b_alloc hb _⟩ ?_
        clear e0 f0 l0 hc hf hl
        rintro W ⟨kP9, kS, hb9⟩
        generalize wr.heap.size = bs at *
        obtain ⟨e0, f0, l0⟩ := kP9.cells
        obtain ⟨e1, f1, l1⟩ := kS.cells
        obtain ⟨hc, hf, hl⟩ := bcell hb9
        ((refine calm_b (by kernel_rfl) (by kernel_rfl) ?_); (repeat (first | ((apply sure_cons (hg := rfl)); (focus ((intro w' hS'); (obtain ⟨hcS, hfS, hlS⟩ := bcell hS'); (try simp only [World.size_setCell, World.size_alloc, World.size_drew] at hS' hcS hfS hlS); (go_simp); (try go_bits); (try ((first | rw [if_pos (by omega)] | rw [if_neg (by omega)]); go_simp)); (first | (with_reducible rfl) | (with_reducible exact rfl) | (with_reducible exact ⟨rfl, hS'⟩) | fail))); (simp only [Act.put, List.setIfInBounds_toArray, List.set_cons_zero, List.set_cons_succ])) | ((apply sure_off (hg := rfl)); (simp only [Act.put, List.setIfInBounds_toArray, List.set_cons_zero, List.set_cons_succ])))); (refine sure_nil ?_))
        intro w' hS'
        go_wp2
        go_roundw
        case rel => exact ⟨k + 1, by omega, by go_num, hS.out t1 t2 t3 (fun e => by cases e), kP9.b hS', b_step hb9 hS'⟩
        case measure => simp [intOf]; omega
    · obtain rfl : k = p.steps.length := by omega
      have x0 := hF.S1 p.steps.length (by omega)
      have hN5 := LL.not_allowed5 (p := p) (f := f)
      have hN6 := LL.not_allowed6 (p := p) (f := f)
      have hN7 := fun a b => hA.done hP hlen'.out a b
      generalize LL.nthI f p.steps.length = x at *
      replace hN5 := Lib.hid hN5
      replace hN6 := Lib.hid hN6
      replace hN7 := Lib.hid hN7
      by_cases t1 : x < p.fr
      · have u1 : ¬ p.fr ≤ x := by omega
        have hneg : decide (LL.Allowed p f) = false := decide_eq_false (hN5.out t1)
        go_upto_region 10 with fail
        ((refine calm_b (by kernel_rfl) (by kernel_rfl) ?_); (repeat (first | ((apply sure_cons (hg := rfl)); (focus ((intro w' hS'); (obtain ⟨hcS, hfS, hlS⟩ := bcell hS'); (try simp only [World.size_setCell, World.size_alloc, World.size_drew] at hS' hcS hfS hlS); (go_simp); (try go_bits); (try ((first | rw [if_pos (by omega)] | rw [if_neg (by omega)]); go_simp)); (first | (with_reducible rfl) | (with_reducible exact rfl) | (with_reducible exact ⟨rfl, hS'⟩) | fail))); (simp only [Act.put, List.setIfInBounds_toArray, List.set_cons_zero, List.set_cons_succ])) | ((apply sure_off (hg := rfl)); (simp only [Act.put, List.setIfInBounds_toArray, List.set_cons_zero, List.set_cons_succ])))); (refine sure_nil ?_))
        intro w' hS'
        go_wp2
        go_ret
        exact ⟨by (first | rfl | rw [hneg]), (by repeat' (first | with_reducible exact Below.refl _ _ | with_reducible assumption | with_reducible refine b_alloc ?_ _ | with_reducible refine b_drewN ?_ _ | with_reducible refine b_drew ?_ | with_reducible refine b_set ?_ (by first | (simp only [World.size_setCell, World.size_alloc, World.size_drew]; omega) | (simp; done) | (simp; omega)) _ | with_reducible refine b_step ?_ (by with_reducible assumption)))⟩
      have u1 : p.fr ≤ x := by omega
      by_cases t2 : p.by_ < x
      · have u2 : ¬ x ≤ p.by_ := by omega
        have hneg : decide (LL.Allowed p f) = false := decide_eq_false (hN6.out t2)
        go_upto_region 10 with fail
        ((refine calm_b (by kernel_rfl) (by kernel_rfl) ?_); (repeat (first | ((apply sure_cons (hg := rfl)); (focus ((intro w' hS'); (obtain ⟨hcS, hfS, hlS⟩ := bcell hS'); (try simp only [World.size_setCell, World.size_alloc, World.size_drew] at hS' hcS hfS hlS); (go_simp); (try go_bits); (try ((first | rw [if_pos (by omega)] | rw [if_neg (by omega)]); go_simp)); (first | (with_reducible rfl) | (with_reducible exact rfl) | (with_reducible exact ⟨rfl, hS'⟩) | fail))); (simp only [Act.put, List.setIfInBounds_toArray, List.set_cons_zero, List.set_cons_succ])) | ((apply sure_off (hg := rfl)); (simp only [Act.put, List.setIfInBounds_toArray, List.set_cons_zero, List.set_cons_succ])))); (refine sure_nil ?_))
        intro w' hS'
        go_wp2
        go_ret
        exact ⟨by (first | rfl | rw [hneg]), (by repeat' (first | with_reducible exact Below.refl _ _ | with_reducible assumption | with_reducible refine b_alloc ?_ _ | with_reducible refine b_drewN ?_ _ | with_reducible refine b_drew ?_ | with_reducible refine b_set ?_ (by first | (simp only [World.size_setCell, World.size_alloc, World.size_drew]; omega) | (simp; done) | (simp; omega)) _ | with_reducible refine b_step ?_ (by with_reducible assumption)))⟩
      · have u2 : x ≤ p.by_ := by omega
        have hneg : decide (LL.Allowed p f) = true := decide_eq_true (hN7.out t1 t2)
        go_upto_region 10 with fail
        ((refine calm_b (by kernel_rfl) (by kernel_rfl) ?_); (repeat (first | ((apply sure_cons (hg := rfl)); (focus ((intro w' hS'); (obtain ⟨hcS, hfS, hlS⟩ := bcell hS'); (try simp only [World.size_setCell, World.size_alloc, World.size_drew] at hS' hcS hfS hlS); (go_simp); (try go_bits); (try ((first | rw [if_pos (by omega)] | rw [if_neg (by omega)]); go_simp)); (first | (with_reducible rfl) | (with_reducible exact rfl) | (with_reducible exact ⟨rfl, hS'⟩) | fail))); (simp only [Act.put, List.setIfInBounds_toArray, List.set_cons_zero, List.set_cons_succ])) | ((apply sure_off (hg := rfl)); (simp only [Act.put, List.setIfInBounds_toArray, List.set_cons_zero, List.set_cons_succ])))); (refine sure_nil ?_))
        intro w' hS'
        go_wp2
        go_ret
        exact ⟨by (first | rfl | rw [hneg]), (by repeat' (first | with_reducible exact Below.refl _ _ | with_reducible assumption | with_reducible refine b_alloc ?_ _ | with_reducible refine b_drewN ?_ _ | with_reducible refine b_drew ?_ | with_reducible refine b_set ?_ (by first | (simp only [World.size_setCell, World.size_alloc, World.size_drew]; omega) | (simp; done) | (simp; omega)) _ | with_reducible refine b_step ?_ (by with_reducible assumption)))⟩
end Go.Proofs.Ytpeojnknfonmlaa
