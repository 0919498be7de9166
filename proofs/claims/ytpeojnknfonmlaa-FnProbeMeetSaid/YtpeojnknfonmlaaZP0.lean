/- The laws' own: when two boxes, two tubes are near. -/
import Derived.Test.YtpeojnknfonmlaaPI
import Derived.Test.YtpeojnknfonmlaaJ2
import Derived.Test.YtpeojnknfonmlaaJ4
set_option linter.unusedVariables false
set_option linter.unusedSimpArgs false
namespace Go.Proofs.Ytpeojnknfonmlaa
open Go.RowKit
def LL.ab (d : Int) : Int := if d < 0 then -d else d
theorem LL.ab_neg {d : Int} (h : d < 0) : LL.ab d = -d := if_pos h
theorem LL.ab_pos {d : Int} (h : ¬ d < 0) : LL.ab d = d := if_neg h
theorem LL.ab_in {d : Int} (h : LL.In d (-1) 1) : LL.ab d < 2 := by obtain ⟨a, b⟩ := h; unfold LL.ab; split <;> omega
theorem LL.ab_out {d : Int} (h : ¬ LL.In d (-1) 1) : 2 ≤ LL.ab d := by
  unfold LL.ab
  by_cases c : d < 0
  · rw [if_pos c]
    by_cases e : 2 ≤ -d
    · exact e
    · exact absurd ⟨by omega, by omega⟩ h
  · rw [if_neg c]
    by_cases e : 2 ≤ d
    · exact e
    · exact absurd ⟨by omega, by omega⟩ h
theorem wpAbs_c (d : Int) (w : World) (h0 : -100 ≤ d) (h1 : d ≤ 100) : Calls Try.prog 66 #[.int .i64 d] w fun e w' => e = .returned (.int .i64 (LL.ab d)) ∧ w = w' := by
  go_enter Try.func66, Try.ntmps66
  by_cases h : d < 0
  · rw [LL.ab_neg h]
    go_wp2
    go_ret
    exact ⟨rfl, rfl⟩
  · rw [LL.ab_pos h]
    go_wp2
    go_ret
    exact ⟨rfl, rfl⟩
/-- what has not been found up to a level -/
def LL.NoLev (a b : LL.Box) (k : Int) : Prop := ∀ v, a.lo ≤ v → v < k → ¬ (b.lo ≤ v ∧ v ≤ b.hi)
attribute [local go_sem] w_lt_add w_le_of w_le_add max2_i min2_i
set_option maxRecDepth 100000 in
set_option maxHeartbeats 4000000 in
theorem wpNear_c (a b : LL.Box) (t : Int) (ha : LL.BoxOk a) (hb : LL.BoxOk b) (h0 : -100000 ≤ t) (h1 : t ≤ 100000) (w : World) : Calls Try.prog 16 #[.agg #[.int .i64 a.x, .int .i64 a.y, .int .i64 a.lo, .int .i64 a.hi, .int .i64 a.i, .int .i64 a.o], .agg #[.int .i64 b.x, .int .i64 b.y, .int .i64 b.lo, .int .i64 b.hi, .int .i64 b.i, .int .i64 b.o], .int .i64 t] w fun e w' => e = .returned (.bool (decide (LL.NearAt a b t))) ∧ Below w.heap.size w w' := by
  obtain ⟨⟨a0, a1⟩, ⟨a2, a3⟩, a4, a5, a6, a7, a8, a9⟩ := ha
  obtain ⟨⟨b0, b1⟩, ⟨b2, b3⟩, b4, b5, b6, b7, b8, b9⟩ := hb
  go_enter Try.func16, Try.ntmps16
  have kA0 := (Blk.new w #[.int .i64 a.x, .int .i64 a.y, .int .i64 a.lo, .int .i64 a.hi, .int .i64 a.i, .int .i64 a.o] 36).a (.cells #[.int .i64 b.x, .int .i64 b.y, .int .i64 b.lo, .int .i64 b.hi, .int .i64 b.i, .int .i64 b.o] 36)
  have kB0 := Blk.new' (w := w.alloc (.cells #[.int .i64 a.x, .int .i64 a.y, .int .i64 a.lo, .int .i64 a.hi, .int .i64 a.i, .int .i64 a.o] 36)) (g := w.heap.size + 1) #[.int .i64 b.x, .int .i64 b.y, .int .i64 b.lo, .int .i64 b.hi, .int .i64 b.i, .int .i64 b.o] 36 (by simp)
  by_cases c0 : t < a.i
  · have hno : ¬ LL.NearAt a b t := fun h => by obtain ⟨⟨h1, h2⟩, ⟨h3, h4⟩, h5, h6, -⟩ := h; omega
    rw [decide_eq_false hno]
    go_wp2_with (go_at_call 66; refine (wpAbs_c _ _ (by omega) (by omega)).mono ?_; rintro e w' ⟨rfl, rfl⟩)
    go_ret
    exact ⟨rfl, (by repeat' (first | with_reducible exact Below.refl _ _ | with_reducible assumption | with_reducible refine b_alloc ?_ _ | with_reducible refine b_drewN ?_ _ | with_reducible refine b_drew ?_ | with_reducible refine b_set ?_ (by first | (simp only [World.size_setCell, World.size_alloc, World.size_drew]; omega) | (simp; done) | (simp; omega)) _ | with_reducible refine b_step ?_ (by with_reducible assumption)))⟩
  by_cases c1 : a.o < t
  · have hno : ¬ LL.NearAt a b t := fun h => by obtain ⟨⟨h1, h2⟩, ⟨h3, h4⟩, h5, h6, -⟩ := h; omega
    rw [decide_eq_false hno]
    go_wp2_with (go_at_call 66; refine (wpAbs_c _ _ (by omega) (by omega)).mono ?_; rintro e w' ⟨rfl, rfl⟩)
    go_ret
    exact ⟨rfl, (by repeat' (first | with_reducible exact Below.refl _ _ | with_reducible assumption | with_reducible refine b_alloc ?_ _ | with_reducible refine b_drewN ?_ _ | with_reducible refine b_drew ?_ | with_reducible refine b_set ?_ (by first | (simp only [World.size_setCell, World.size_alloc, World.size_drew]; omega) | (simp; done) | (simp; omega)) _ | with_reducible refine b_step ?_ (by with_reducible assumption)))⟩
  by_cases c2 : t < b.i
  · have hno : ¬ LL.NearAt a b t := fun h => by obtain ⟨⟨h1, h2⟩, ⟨h3, h4⟩, h5, h6, -⟩ := h; omega
    rw [decide_eq_false hno]
    go_wp2_with (go_at_call 66; refine (wpAbs_c _ _ (by omega) (by omega)).mono ?_; rintro e w' ⟨rfl, rfl⟩)
    go_ret
    exact ⟨rfl, (by repeat' (first | with_reducible exact Below.refl _ _ | with_reducible assumption | with_reducible refine b_alloc ?_ _ | with_reducible refine b_drewN ?_ _ | with_reducible refine b_drew ?_ | with_reducible refine b_set ?_ (by first | (simp only [World.size_setCell, World.size_alloc, World.size_drew]; omega) | (simp; done) | (simp; omega)) _ | with_reducible refine b_step ?_ (by with_reducible assumption)))⟩
  by_cases c3 : b.o < t
  · have hno : ¬ LL.NearAt a b t := fun h => by obtain ⟨⟨h1, h2⟩, ⟨h3, h4⟩, h5, h6, -⟩ := h; omega
    rw [decide_eq_false hno]
    go_wp2_with (go_at_call 66; refine (wpAbs_c _ _ (by omega) (by omega)).mono ?_; rintro e w' ⟨rfl, rfl⟩)
    go_ret
    exact ⟨rfl, (by repeat' (first | with_reducible exact Below.refl _ _ | with_reducible assumption | with_reducible refine b_alloc ?_ _ | with_reducible refine b_drewN ?_ _ | with_reducible refine b_drew ?_ | with_reducible refine b_set ?_ (by first | (simp only [World.size_setCell, World.size_alloc, World.size_drew]; omega) | (simp; done) | (simp; omega)) _ | with_reducible refine b_step ?_ (by with_reducible assumption)))⟩
  by_cases c4 : ¬ LL.In (a.x - b.x) (-1) 1
  · have hno : ¬ LL.NearAt a b t := fun h => by obtain ⟨⟨h1, h2⟩, ⟨h3, h4⟩, h5, h6, -⟩ := h; exact c4 h5
    rw [decide_eq_false hno]
    have hx := LL.ab_out c4
    go_wp2_with (go_at_call 66; refine (wpAbs_c _ _ (by omega) (by omega)).mono ?_; rintro e w' ⟨rfl, rfl⟩)
    go_ret
    exact ⟨rfl, (by repeat' (first | with_reducible exact Below.refl _ _ | with_reducible assumption | with_reducible refine b_alloc ?_ _ | with_reducible refine b_drewN ?_ _ | with_reducible refine b_drew ?_ | with_reducible refine b_set ?_ (by first | (simp only [World.size_setCell, World.size_alloc, World.size_drew]; omega) | (simp; done) | (simp; omega)) _ | with_reducible refine b_step ?_ (by with_reducible assumption)))⟩
  have hx := LL.ab_in (Decidable.not_not.1 c4)
  by_cases c5 : ¬ LL.In (a.y - b.y) (-1) 1
  · have hno : ¬ LL.NearAt a b t := fun h => by obtain ⟨⟨h1, h2⟩, ⟨h3, h4⟩, h5, h6, -⟩ := h; exact c5 h6
    rw [decide_eq_false hno]
    have hy := LL.ab_out c5
    go_wp2_with (go_at_call 66; refine (wpAbs_c _ _ (by omega) (by omega)).mono ?_; rintro e w' ⟨rfl, rfl⟩)
    go_ret
    exact ⟨rfl, (by repeat' (first | with_reducible exact Below.refl _ _ | with_reducible assumption | with_reducible refine b_alloc ?_ _ | with_reducible refine b_drewN ?_ _ | with_reducible refine b_drew ?_ | with_reducible refine b_set ?_ (by first | (simp only [World.size_setCell, World.size_alloc, World.size_drew]; omega) | (simp; done) | (simp; omega)) _ | with_reducible refine b_step ?_ (by with_reducible assumption)))⟩
  have hy := LL.ab_in (Decidable.not_not.1 c5)
  have n4 := Decidable.not_not.1 c4
  have n6 := Decidable.not_not.1 c5
  have hyes : ∀ v, (a.lo ≤ v ∧ v ≤ a.hi) → (b.lo ≤ v ∧ v ≤ b.hi) → LL.NearAt a b t := fun v h1 h2 => ⟨⟨by omega, by omega⟩, ⟨by omega, by omega⟩, n4, n6, v, h1, h2⟩
  replace hyes := Lib.hid hyes
  clear n4 n6
  go_wp2_with (go_at_call 66; refine (wpAbs_c _ _ (by omega) (by omega)).mono ?_; rintro e w' ⟨rfl, rfl⟩)
  clear hx hy
  go_loopw [7] (fun i wr => ∃ k : Int, a.lo ≤ k ∧ k ≤ a.hi + 1 ∧ i = .int .i64 k ∧ LL.NoLev a b k ∧ Blk wr w.heap.size #[.int .i64 a.x, .int .i64 a.y, .int .i64 a.lo, .int .i64 a.hi, .int .i64 a.i, .int .i64 a.o] 36 ∧ Blk wr (w.heap.size + 1) #[.int .i64 b.x, .int .i64 b.y, .int .i64 b.lo, .int .i64 b.hi, .int .i64 b.i, .int .i64 b.o] 36 ∧ Below w.heap.size w wr) (fun i _ => (a.hi + 1 - intOf i).toNat)
  case atStart => exact ⟨a.lo, by omega, by omega, rfl, fun v h1 h2 => by omega, kA0, kB0, (by repeat' (first | with_reducible exact Below.refl _ _ | with_reducible assumption | with_reducible refine b_alloc ?_ _ | with_reducible refine b_drewN ?_ _ | with_reducible refine b_drew ?_ | with_reducible refine b_set ?_ (by first | (simp only [World.size_setCell, World.size_alloc, World.size_drew]; omega) | (simp; done) | (simp; omega)) _ | with_reducible refine b_step ?_ (by with_reducible assumption)))⟩
  case round =>
    obtain ⟨k, hk0, hk1, rfl, hno, kA, kB, hbw⟩ := hrel
    clear kA0 kB0
    obtain ⟨e0, f0, l0⟩ := kA.cells
    obtain ⟨e1, f1, l1⟩ := kB.cells
    replace hno := Lib.hid hno
    by_cases hlt : k ≤ a.hi
    · by_cases hin : b.lo ≤ k ∧ k ≤ b.hi
      · have hy := hyes.out k ⟨hk0, hlt⟩ hin
        obtain ⟨hi0, hi1⟩ := hin
        replace hy := Lib.hid hy
        go_wp2
        go_ret
        exact ⟨(by rw [decide_eq_true hy.out]; rfl), (by repeat' (first | with_reducible exact Below.refl _ _ | with_reducible assumption | with_reducible refine b_alloc ?_ _ | with_reducible refine b_drewN ?_ _ | with_reducible refine b_drew ?_ | with_reducible refine b_set ?_ (by first | (simp only [World.size_setCell, World.size_alloc, World.size_drew]; omega) | (simp; done) | (simp; omega)) _ | with_reducible refine b_step ?_ (by with_reducible assumption)))⟩
      · have hno2 : LL.NoLev a b (k + 1) := fun v h1 h2 => by
          by_cases hv : v = k
          · subst hv; exact hin
          · exact hno.out v h1 (by omega)
        replace hno2 := Lib.hid hno2
        by_cases hi0 : b.lo ≤ k
        · have hi1 : ¬ k ≤ b.hi := fun h => hin ⟨hi0, h⟩
          go_wp2
          go_roundw
          case rel => exact ⟨k + 1, by omega, by omega, by go_num, hno2.out, kA, kB, hbw⟩
          case measure => simp [intOf]; omega
        · go_wp2
          go_roundw
          case rel => exact ⟨k + 1, by omega, by omega, by go_num, hno2.out, kA, kB, hbw⟩
          case measure => simp [intOf]; omega
    · have hn9 : ¬ LL.NearAt a b t := fun h => by
        obtain ⟨-, -, -, -, v, ⟨h1, h2⟩, h3⟩ := h
        exact hno.out v h1 (by omega) h3
      replace hn9 := Lib.hid hn9
      go_wp2
      go_ret
      exact ⟨(by rw [decide_eq_false hn9.out]; rfl), (by repeat' (first | with_reducible exact Below.refl _ _ | with_reducible assumption | with_reducible refine b_alloc ?_ _ | with_reducible refine b_drewN ?_ _ | with_reducible refine b_drew ?_ | with_reducible refine b_set ?_ (by first | (simp only [World.size_setCell, World.size_alloc, World.size_drew]; omega) | (simp; done) | (simp; omega)) _ | with_reducible refine b_step ?_ (by with_reducible assumption)))⟩
def LL.NoneIn (xs ys : List LL.Box) (t : Int) (i j : Nat) : Prop := ∀ i' j', (i' < i ∧ j' < ys.length) ∨ (i' = i ∧ j' < j) → ¬ LL.NearAt (LL.nthB xs i') (LL.nthB ys j') t
set_option maxRecDepth 100000 in
set_option maxHeartbeats 4000000 in
theorem wpNearAt_c (sa sb : ByteArray) (xs ys : List LL.Box) (A B : Option Addr) (c d : Nat) (t : Int) (ha : ∀ i, i < xs.length → LL.BoxOk (LL.nthB xs i)) (hb : ∀ i, i < ys.length → LL.BoxOk (LL.nthB ys i)) (h0 : -100000 ≤ t) (h1 : t ≤ 100000) (w : World) (h : RdB w A xs.length c xs) (h' : RdB w B ys.length d ys) : Calls Try.prog 17 #[.agg #[.string sa, .slice A xs.length c], .agg #[.string sb, .slice B ys.length d], .int .i64 t] w fun e w' => e = .returned (.bool (decide (LL.NearS xs ys t))) ∧ Below w.heap.size w w' := by
  have kA0 := (Blk.new w #[.string sa, .slice A xs.length c] 25).a (.cells #[.string sb, .slice B ys.length d] 25)
  have kB0 := Blk.new' (w := w.alloc (.cells #[.string sa, .slice A xs.length c] 25)) (g := w.heap.size + 1) #[.string sb, .slice B ys.length d] 25 (by simp)
  have hox := Lib.hid ha
  have hoy := Lib.hid hb
  have hroom := h.room
  have hroom' := h'.room
  clear ha hb
  go_enter Try.func17, Try.ntmps17
  go_wp2
  go_loopw [7, 8] (fun i j wr => ∃ k : Nat, k ≤ xs.length ∧ i = .int .i64 k ∧ LL.NoneIn xs ys t k 0 ∧ Blk wr w.heap.size #[.string sa, .slice A xs.length c] 25 ∧ Blk wr (w.heap.size + 1) #[.string sb, .slice B ys.length d] 25 ∧ Below w.heap.size w wr) (fun i _ _ => xs.length - (intOf i).toNat)
  case atStart => exact ⟨0, by omega, rfl, fun i' j' h => by omega, kA0, kB0, (by repeat' (first | with_reducible exact Below.refl _ _ | with_reducible assumption | with_reducible refine b_alloc ?_ _ | with_reducible refine b_drewN ?_ _ | with_reducible refine b_drew ?_ | with_reducible refine b_set ?_ (by first | (simp only [World.size_setCell, World.size_alloc, World.size_drew]; omega) | (simp; done) | (simp; omega)) _ | with_reducible refine b_step ?_ (by with_reducible assumption)))⟩
  case round =>
    obtain ⟨i, hik, rfl, hno, kA, kB, hbw⟩ := hrel
    clear kA0 kB0
    obtain ⟨e0, f0, l0⟩ := kA.cells
    obtain ⟨e1, f1, l1⟩ := kB.cells
    replace hno := Lib.hid hno
    by_cases hi : i < xs.length
    · obtain ⟨bA, oA, rfl, hbA⟩ := h.addr (by omega)
      go_wp2
      go_loopw [8] (fun j wq => ∃ k : Nat, k ≤ ys.length ∧ j = .int .i64 k ∧ LL.NoneIn xs ys t i k ∧ Blk wq w.heap.size #[.string sa, .slice (some ⟨bA, oA, none⟩) xs.length c] 25 ∧ Blk wq (w.heap.size + 1) #[.string sb, .slice B ys.length d] 25 ∧ Below w.heap.size w wq) (fun j _ => ys.length - (intOf j).toNat)
      case atStart => exact ⟨0, by omega, rfl, hno.out, kA, kB, hbw⟩
      case round =>
        clear e0 f0 l0 e1 f1 l1 kA kB hbw hno
        obtain ⟨j, hjk, rfl, hno, kA, kB, hbw⟩ := hrel
        replace hno := Lib.hid hno
        obtain ⟨e0, f0, l0⟩ := kA.cells
        obtain ⟨e1, f1, l1⟩ := kB.cells
        obtain ⟨gc, gf, gl⟩ := bcell hbw
        by_cases hj : j < ys.length
        · obtain ⟨bB, oB, rfl, hbB⟩ := h'.addr (by omega)
          obtain ⟨c0, c1, c2, c3, c4, c5⟩ := h.S6 i hi
          obtain ⟨d0, d1, d2, d3, d4, d5⟩ := h'.S6 j hj
          have oi := Lib.hid (hox.out i hi)
          have oj := Lib.hid (hoy.out j hj)
          by_cases hN : LL.NearAt (LL.nthB xs i) (LL.nthB ys j) t
          · have hyes : decide (LL.NearS xs ys t) = true := decide_eq_true ⟨i, j, hi, hj, hN⟩
            have hdN := decide_eq_true hN
            replace hyes := Lib.hid hyes
            clear hN
            generalize hza : LL.nthB xs i = za at *
            generalize hzb : LL.nthB ys j = zb at *
            go_wp2
            ((refine calm_b (by kernel_rfl) (by kernel_rfl) ?_); (repeat (first | ((apply sure_cons (hg := rfl)); (focus ((intro w' hS'); (obtain ⟨hcS, hfS, hlS⟩ := bcell hS'); (try simp only [World.size_setCell, World.size_alloc, World.size_drew] at hS' hcS hfS hlS); (go_simp); (try go_bits); (try ((first | rw [if_pos (by omega)] | rw [if_neg (by omega)]); go_simp)); (first | (with_reducible rfl) | (with_reducible exact rfl) | (with_reducible exact ⟨rfl, hS'⟩) | (go_at_call 16; go_loud (refine (wpNear_c za zb t oi.out oj.out h0 h1 _).mono ?_); rintro e w'' ⟨rfl, hb⟩; rw [hdN]; exact ⟨rfl, b_to hS' hb (by have h1 := hS'.size; (try simp only [World.size_setCell, World.size_alloc, World.size_drew] at h1); omega)⟩)))); (simp only [Act.put, List.setIfInBounds_toArray, List.set_cons_zero, List.set_cons_succ])) | ((apply sure_off (hg := rfl)); (simp only [Act.put, List.setIfInBounds_toArray, List.set_cons_zero, List.set_cons_succ])))); (refine sure_nil ?_))
            intro w' hS'
            go_wp2
            go_ret
            exact ⟨(by rw [hyes.out]; rfl), (by repeat' (first | with_reducible exact Below.refl _ _ | with_reducible assumption | with_reducible refine b_alloc ?_ _ | with_reducible refine b_drewN ?_ _ | with_reducible refine b_drew ?_ | with_reducible refine b_set ?_ (by first | (simp only [World.size_setCell, World.size_alloc, World.size_drew]; omega) | (simp; done) | (simp; omega)) _ | with_reducible refine b_step ?_ (by with_reducible assumption)))⟩
          · have hno2 : LL.NoneIn xs ys t i (j + 1) := fun i' j' h => by
              rcases h with h | ⟨rfl, h⟩
              · exact hno.out i' j' (.inl h)
              · by_cases c : j' = j
                · subst c; exact hN
                · exact hno.out i' j' (.inr ⟨rfl, by omega⟩)
            replace hno2 := Lib.hid hno2
            have hdN := decide_eq_false hN
            clear hN
            generalize hza : LL.nthB xs i = za at *
            generalize hzb : LL.nthB ys j = zb at *
            go_wp2
            ((refine calm_b (by kernel_rfl) (by kernel_rfl) ?_); (repeat (first | ((apply sure_cons (hg := rfl)); (focus ((intro w' hS'); (obtain ⟨hcS, hfS, hlS⟩ := bcell hS'); (try simp only [World.size_setCell, World.size_alloc, World.size_drew] at hS' hcS hfS hlS); (go_simp); (try go_bits); (try ((first | rw [if_pos (by omega)] | rw [if_neg (by omega)]); go_simp)); (first | (with_reducible rfl) | (with_reducible exact rfl) | (with_reducible exact ⟨rfl, hS'⟩) | (go_at_call 16; go_loud (refine (wpNear_c za zb t oi.out oj.out h0 h1 _).mono ?_); rintro e w'' ⟨rfl, hb⟩; rw [hdN]; exact ⟨rfl, b_to hS' hb (by have h1 := hS'.size; (try simp only [World.size_setCell, World.size_alloc, World.size_drew] at h1); omega)⟩)))); (simp only [Act.put, List.setIfInBounds_toArray, List.set_cons_zero, List.set_cons_succ])) | ((apply sure_off (hg := rfl)); (simp only [Act.put, List.setIfInBounds_toArray, List.set_cons_zero, List.set_cons_succ])))); (refine sure_nil ?_))
            intro w' hS'
            go_wp2
            go_roundw
            case rel => exact ⟨j + 1, by omega, by go_num, hno2.out, kA.b hS', kB.b hS', b_step hbw hS'⟩
            case measure => simp [intOf]; omega
        · obtain rfl : j = ys.length := by omega
          have hno2 : LL.NoneIn xs ys t (i + 1) 0 := fun i' j' h => by
            rcases h with ⟨h, h3⟩ | ⟨_, h⟩
            · by_cases c : i' = i
              · exact hno.out i' j' (.inr ⟨c, h3⟩)
              · exact hno.out i' j' (.inl ⟨by omega, h3⟩)
            · omega
          replace hno2 := Lib.hid hno2
          go_wp2
          go_roundw
          case rel => exact ⟨i + 1, by omega, by go_num, hno2.out, kA, kB, hbw⟩
          case measure => simp [intOf]; omega
    · obtain rfl : i = xs.length := by omega
      have hn9 : ¬ LL.NearS xs ys t := fun ⟨i', j', h1, h2, h3⟩ => hno.out i' j' (.inl ⟨h1, h2⟩) h3
      replace hn9 := Lib.hid hn9
      go_wp2
      go_ret
      exact ⟨(by rw [decide_eq_false hn9.out]; rfl), (by repeat' (first | with_reducible exact Below.refl _ _ | with_reducible assumption | with_reducible refine b_alloc ?_ _ | with_reducible refine b_drewN ?_ _ | with_reducible refine b_drew ?_ | with_reducible refine b_set ?_ (by first | (simp only [World.size_setCell, World.size_alloc, World.size_drew]; omega) | (simp; done) | (simp; omega)) _ | with_reducible refine b_step ?_ (by with_reducible assumption)))⟩
set_option maxRecDepth 100000 in
set_option maxHeartbeats 4000000 in
theorem wpEver_c (sa sb : ByteArray) (xs ys : List LL.Box) (A B : Option Addr) (c d : Nat) (ha : ∀ i, i < xs.length → LL.BoxOk (LL.nthB xs i)) (hb : ∀ i, i < ys.length → LL.BoxOk (LL.nthB ys i)) (hne : ¬ LL.Ever xs ys) (w : World) (h : RdB w A xs.length c xs) (h' : RdB w B ys.length d ys) : Calls Try.prog 15 #[.agg #[.string sa, .slice A xs.length c], .agg #[.string sb, .slice B ys.length d]] w fun e w' => e = .returned (.bool false) ∧ Below w.heap.size w w' := by
  have kA := (Blk.new w #[.string sa, .slice A xs.length c] 25).a (.cells #[.string sb, .slice B ys.length d] 25)
  have kB := Blk.new' (w := w.alloc (.cells #[.string sa, .slice A xs.length c] 25)) (g := w.heap.size + 1) #[.string sb, .slice B ys.length d] 25 (by simp)
  have hbw : Below w.heap.size w ((w.alloc (.cells #[.string sa, .slice A xs.length c] 25)).alloc (.cells #[.string sb, .slice B ys.length d] 25)) := (by repeat' (first | with_reducible exact Below.refl _ _ | with_reducible assumption | with_reducible refine b_alloc ?_ _ | with_reducible refine b_drewN ?_ _ | with_reducible refine b_drew ?_ | with_reducible refine b_set ?_ (by first | (simp only [World.size_setCell, World.size_alloc, World.size_drew]; omega) | (simp; done) | (simp; omega)) _ | with_reducible refine b_step ?_ (by with_reducible assumption)))
  have htx : ∀ i, i < xs.length → 0 ≤ (LL.nthB xs i).i ∧ (LL.nthB xs i).i ≤ 10000 := fun i hi => by have := ha i hi; exact ⟨this.2.2.2.2.2.1, by have a := this.2.2.2.2.2.2.1; have b := this.2.2.2.2.2.2.2; omega⟩
  have hty : ∀ i, i < ys.length → 0 ≤ (LL.nthB ys i).i ∧ (LL.nthB ys i).i ≤ 10000 := fun i hi => by have := hb i hi; exact ⟨this.2.2.2.2.2.1, by have a := this.2.2.2.2.2.2.1; have b := this.2.2.2.2.2.2.2; omega⟩
  have hox := Lib.hid ha
  have hoy := Lib.hid hb
  replace htx := Lib.hid htx
  replace hty := Lib.hid hty
  have hroom := h.room
  have hroom' := h'.room
  clear ha hb
  go_enter Try.func15, Try.ntmps15
  obtain ⟨e0, f0, l0⟩ := kA.cells
  obtain ⟨e1, f1, l1⟩ := kB.cells
  go_wp2
  go_loopw [5] (fun i wr => ∃ k : Nat, k ≤ xs.length ∧ i = .int .i64 k ∧ (∀ i', i' < k → ¬ LL.NearS xs ys (LL.nthB xs i').i) ∧ Blk wr w.heap.size #[.string sa, .slice A xs.length c] 25 ∧ Blk wr (w.heap.size + 1) #[.string sb, .slice B ys.length d] 25 ∧ Below w.heap.size w wr) (fun i _ => xs.length - (intOf i).toNat)
  case atStart => exact ⟨0, by omega, rfl, fun i' h => by omega, kA, kB, by exact (by repeat' (first | with_reducible exact Below.refl _ _ | with_reducible assumption | with_reducible refine b_alloc ?_ _ | with_reducible refine b_drewN ?_ _ | with_reducible refine b_drew ?_ | with_reducible refine b_set ?_ (by first | (simp only [World.size_setCell, World.size_alloc, World.size_drew]; omega) | (simp; done) | (simp; omega)) _ | with_reducible refine b_step ?_ (by with_reducible assumption)))⟩
  case round =>
    clear kA kB hbw e0 f0 l0 e1 f1 l1
    obtain ⟨i, hik, rfl, hno, kA, kB, hbw⟩ := hrel
    obtain ⟨e0, f0, l0⟩ := kA.cells
    obtain ⟨e1, f1, l1⟩ := kB.cells
    obtain ⟨gc, gf, gl⟩ := bcell hbw
    replace hno := Lib.hid hno
    by_cases hi : i < xs.length
    · obtain ⟨bA, oA, rfl, hbA⟩ := h.addr (by omega)
      obtain ⟨c0, c1, c2, c3, c4, c5⟩ := h.S6 i hi
      obtain ⟨t0, t1⟩ := htx.out i hi
      have hN : ¬ LL.NearS xs ys (LL.nthB xs i).i := fun hn => hne (.inl ⟨i, hi, hn⟩)
      have hno2 : ∀ i', i' < i + 1 → ¬ LL.NearS xs ys (LL.nthB xs i').i := fun i' h => by
        by_cases c : i' = i
        · subst c; exact hN
        · exact hno.out i' (by omega)
      replace hno2 := Lib.hid hno2
      have hdN := decide_eq_false hN
      clear hN
      generalize LL.nthB xs i = za at *
      go_wp2
      ((refine calm_b (by kernel_rfl) (by kernel_rfl) ?_); (repeat (first | ((apply sure_cons (hg := rfl)); (focus ((intro w' hS'); (obtain ⟨hcS, hfS, hlS⟩ := bcell hS'); (try simp only [World.size_setCell, World.size_alloc, World.size_drew] at hS' hcS hfS hlS); (go_simp); (try go_bits); (try ((first | rw [if_pos (by omega)] | rw [if_neg (by omega)]); go_simp)); (first | (with_reducible rfl) | (with_reducible exact rfl) | (with_reducible exact ⟨rfl, hS'⟩) | (go_at_call 17; go_loud (refine (wpNearAt_c sa sb xs ys _ _ c d za.i hox.out hoy.out (by omega) (by omega) _ (h.mono (b_step hbw hS')) (h'.mono (b_step hbw hS'))).mono ?_); rintro e w'' ⟨rfl, hb⟩; rw [hdN]; exact ⟨rfl, b_to hS' hb (by have h1 := hS'.size; (try simp only [World.size_setCell, World.size_alloc, World.size_drew] at h1); omega)⟩)))); (simp only [Act.put, List.setIfInBounds_toArray, List.set_cons_zero, List.set_cons_succ])) | ((apply sure_off (hg := rfl)); (simp only [Act.put, List.setIfInBounds_toArray, List.set_cons_zero, List.set_cons_succ])))); (refine sure_nil ?_))
      intro w' hS'
      go_wp2
      go_roundw
      case rel => exact ⟨i + 1, by omega, by go_num, hno2.out, kA.b hS', kB.b hS', b_step hbw hS'⟩
      case measure => simp [intOf]; omega
    · go_wp2
      go_loopw [6] (fun i wr => ∃ k : Nat, k ≤ ys.length ∧ i = .int .i64 k ∧ (∀ i', i' < k → ¬ LL.NearS xs ys (LL.nthB ys i').i) ∧ Blk wr w.heap.size #[.string sa, .slice A xs.length c] 25 ∧ Blk wr (w.heap.size + 1) #[.string sb, .slice B ys.length d] 25 ∧ Below w.heap.size w wr) (fun i _ => ys.length - (intOf i).toNat)
      case atStart => exact ⟨0, by omega, rfl, fun i' h => by omega, kA, kB, by exact (by repeat' (first | with_reducible exact Below.refl _ _ | with_reducible assumption | with_reducible refine b_alloc ?_ _ | with_reducible refine b_drewN ?_ _ | with_reducible refine b_drew ?_ | with_reducible refine b_set ?_ (by first | (simp only [World.size_setCell, World.size_alloc, World.size_drew]; omega) | (simp; done) | (simp; omega)) _ | with_reducible refine b_step ?_ (by with_reducible assumption)))⟩
      case round =>
        clear kA kB hbw e0 f0 l0 e1 f1 l1
        obtain ⟨i, hik, rfl, hno, kA, kB, hbw⟩ := hrel
        obtain ⟨e0, f0, l0⟩ := kA.cells
        obtain ⟨e1, f1, l1⟩ := kB.cells
        obtain ⟨gc, gf, gl⟩ := bcell hbw
        replace hno := Lib.hid hno
        by_cases hi : i < ys.length
        · obtain ⟨bA, oA, rfl, hbA⟩ := h'.addr (by omega)
          obtain ⟨c0, c1, c2, c3, c4, c5⟩ := h'.S6 i hi
          obtain ⟨t0, t1⟩ := hty.out i hi
          have hN : ¬ LL.NearS xs ys (LL.nthB ys i).i := fun hn => hne (.inr ⟨i, hi, hn⟩)
          have hno2 : ∀ i', i' < i + 1 → ¬ LL.NearS xs ys (LL.nthB ys i').i := fun i' h => by
            by_cases c : i' = i
            · subst c; exact hN
            · exact hno.out i' (by omega)
          replace hno2 := Lib.hid hno2
          have hdN := decide_eq_false hN
          clear hN
          generalize LL.nthB ys i = za at *
          go_wp2
          ((refine calm_b (by kernel_rfl) (by kernel_rfl) ?_); (repeat (first | ((apply sure_cons (hg := rfl)); (focus ((intro w' hS'); (obtain ⟨hcS, hfS, hlS⟩ := bcell hS'); (try simp only [World.size_setCell, World.size_alloc, World.size_drew] at hS' hcS hfS hlS); (go_simp); (try go_bits); (try ((first | rw [if_pos (by omega)] | rw [if_neg (by omega)]); go_simp)); (first | (with_reducible rfl) | (with_reducible exact rfl) | (with_reducible exact ⟨rfl, hS'⟩) | (go_at_call 17; go_loud (refine (wpNearAt_c sa sb xs ys _ _ c d za.i hox.out hoy.out (by omega) (by omega) _ (h.mono (b_step hbw hS')) (h'.mono (b_step hbw hS'))).mono ?_); rintro e w'' ⟨rfl, hb⟩; rw [hdN]; exact ⟨rfl, b_to hS' hb (by have h1 := hS'.size; (try simp only [World.size_setCell, World.size_alloc, World.size_drew] at h1); omega)⟩)))); (simp only [Act.put, List.setIfInBounds_toArray, List.set_cons_zero, List.set_cons_succ])) | ((apply sure_off (hg := rfl)); (simp only [Act.put, List.setIfInBounds_toArray, List.set_cons_zero, List.set_cons_succ])))); (refine sure_nil ?_))
          intro w' hS'
          go_wp2
          go_roundw
          case rel => exact ⟨i + 1, by omega, by go_num, hno2.out, kA.b hS', kB.b hS', b_step hbw hS'⟩
          case measure => simp [intOf]; omega
        · go_wp2
          go_ret
          exact ⟨rfl, (by repeat' (first | with_reducible exact Below.refl _ _ | with_reducible assumption | with_reducible refine b_alloc ?_ _ | with_reducible refine b_drewN ?_ _ | with_reducible refine b_drew ?_ | with_reducible refine b_set ?_ (by first | (simp only [World.size_setCell, World.size_alloc, World.size_drew]; omega) | (simp; done) | (simp; omega)) _ | with_reducible refine b_step ?_ (by with_reducible assumption)))⟩
end Go.Proofs.Ytpeojnknfonmlaa
