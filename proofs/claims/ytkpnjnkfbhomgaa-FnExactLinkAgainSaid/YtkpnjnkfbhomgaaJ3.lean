/- The laws' helpers for slices of plain structs. -/
import Derived.Test.YtkpnjnkfbhomgaaJ2
import Derived.Test.YtkpnjnkfbhomgaaJ1

set_option linter.unusedVariables false
set_option linter.unusedSimpArgs false
namespace Go.Proofs.Ytkpnjnkfbhomgaa
open Go.RowKit
attribute [local go_sem] w_lt_add w_le_of w_le_add max2_i min2_i
theorem toFlyStep_c (s : LL.Step) (w : World) : Calls Try.prog 118 #[.agg #[.int .i64 s.x, .int .i64 s.y, .int .i64 s.lo, .int .i64 s.hi, .int .i64 s.fr, .int .i64 s.by_, .bool s.hold]] w fun e w' => e = .returned (.agg #[.int .i64 s.x, .int .i64 s.y, .int .i64 s.lo, .int .i64 s.hi, .int .i64 s.fr, .int .i64 s.by_, .bool s.hold]) ∧ Below w.heap.size w w' := by
  go_enter Try.func118, Try.ntmps118
  go_wp2
  go_returns
  exact ⟨rfl, (by repeat' (first | with_reducible exact Below.refl _ _ | with_reducible assumption | with_reducible refine b_alloc ?_ _ | with_reducible refine b_drewN ?_ _ | with_reducible refine b_drew ?_ | with_reducible refine b_set ?_ (by first | (simp only [World.size_setCell, World.size_alloc, World.size_drew]; omega) | (simp; done) | (simp; omega)) _ | with_reducible refine b_step ?_ (by with_reducible assumption)))⟩
set_option maxHeartbeats 1000000 in
theorem toFlyStepS_c (xs : List LL.Step) (A : Option Addr) (c : Nat) (w : World) (h : RdS w A xs.length c xs) : Calls Try.prog 80 #[.slice A xs.length c] w (Mk stepC 7 56 146 w xs) := by
  have hroom := h.room
  go_enter Try.func80, Try.ntmps80
  go_wp2_with (at_make; (refine wp_make rfl _ _ _ rfl stepE (.agg (stepC LL.z0).toArray) LL.z0 Try.underlying42 (by kernel_rfl) rfl xs.length rfl rfl hroom (by decide) ?_); intro g w1 hg hO hb hgl; have hge : w.heap.size ≤ g := (by omega); clear hg)
  go_loopw [4] (fun i wr => ∃ k : Nat, k ≤ xs.length ∧ i = .int .i64 k ∧ Own stepC 7 56 146 wr (.slice (some ⟨g, 0, none⟩) xs.length xs.length) (upto LL.z0 xs k) ∧ Below w.heap.size w wr) (fun i _ => xs.length - (intOf i).toNat)
  case atStart => exact ⟨0, Nat.zero_le _, rfl, by rw [upto_zero]; exact hO, hb⟩
  case round =>
    clear hO hb hgl
    obtain ⟨k, hk, rfl, hO, hb⟩ := hrel
    obtain ⟨hc, hf, hl⟩ := bcell hb
    by_cases hlt : k < xs.length
    · obtain ⟨b, off, rfl, hbw⟩ := h.addr (by omega)
      obtain ⟨c0, c1, c2, c3, c4, c5, c6⟩ := h.S7 k hlt
      have hul := Lib.hid (upto_len LL.z0 xs k hk)
      go_wp2_with (first | (go_at_call 118; go_loud (refine (toFlyStep_c _ _).mono ?_); rintro e w2 ⟨rfl, hb⟩; (repeat (with_reducible first | replace hb := b_un hb | replace hb := b_unN hb)); obtain ⟨hc, hf, hl⟩ := bcell hb; obtain ⟨gc, gf, gl⟩ := bcell (b_step (w := w) (by repeat' (first | with_reducible exact Below.refl _ _ | with_reducible assumption | with_reducible refine b_alloc ?_ _ | with_reducible refine b_drewN ?_ _ | with_reducible refine b_drew ?_ | with_reducible refine b_set ?_ (by first | (simp only [World.size_setCell, World.size_alloc, World.size_drew]; omega) | (simp; done) | (simp; omega)) _ | with_reducible refine b_step ?_ (by with_reducible assumption))) hb); have hz := hb.size; (try simp at hz); skip) | ((with_reducible refine gate_st 146 21 rfl ?_); (refine wp_put (bytes := 56) (e := 146) (cap := xs.length) 146 21 _ rfl rfl rfl stepE hul.out k (LL.nth xs k) _ rfl rfl rfl rfl ?_ ?_ hlt ?_); (kernel_rfl); (exact (by repeat' (first | with_reducible assumption | with_reducible refine Own.a ?_ _ | with_reducible refine Own.d ?_ | with_reducible refine Own.dN ?_ _ | with_reducible refine Own.b ?_ (by with_reducible assumption)))); intro w3 hO2 hg2))
      go_roundw
      case rel => exact ⟨k + 1, by omega, by go_num, by rw [← upto_set _ _ _ hlt]; exact hO2, b_grown (by repeat' (first | with_reducible exact Below.refl _ _ | with_reducible assumption | with_reducible refine b_alloc ?_ _ | with_reducible refine b_drewN ?_ _ | with_reducible refine b_drew ?_ | with_reducible refine b_set ?_ (by first | (simp only [World.size_setCell, World.size_alloc, World.size_drew]; omega) | (simp; done) | (simp; omega)) _ | with_reducible refine b_step ?_ (by with_reducible assumption))) hg2 hge⟩
      case measure => simp [intOf]; omega
    · obtain rfl : k = xs.length := by omega
      rw [upto_all] at hO
      go_wp2
      go_ret
      exact ⟨_, rfl, hO, fun k hk => by cases hk; exact hge, hb⟩
theorem eqFlyStep_c (s : LL.Step) (w : World) : Calls Try.prog 119 #[.agg #[.int .i64 s.x, .int .i64 s.y, .int .i64 s.lo, .int .i64 s.hi, .int .i64 s.fr, .int .i64 s.by_, .bool s.hold], .agg #[.int .i64 s.x, .int .i64 s.y, .int .i64 s.lo, .int .i64 s.hi, .int .i64 s.fr, .int .i64 s.by_, .bool s.hold]] w fun e w' => e = .returned (.bool true) ∧ Below w.heap.size w w' := by
  go_enter Try.func119, Try.ntmps119
  go_wp2
  go_ret
  exact ⟨rfl, (by repeat' (first | with_reducible exact Below.refl _ _ | with_reducible assumption | with_reducible refine b_alloc ?_ _ | with_reducible refine b_drewN ?_ _ | with_reducible refine b_drew ?_ | with_reducible refine b_set ?_ (by first | (simp only [World.size_setCell, World.size_alloc, World.size_drew]; omega) | (simp; done) | (simp; omega)) _ | with_reducible refine b_step ?_ (by with_reducible assumption)))⟩
set_option maxHeartbeats 1000000 in
theorem eqFlyStepS_c (xs : List LL.Step) (A A' : Option Addr) (c c' : Nat) (w : World) (h : RdS w A xs.length c xs) (h' : RdS w A' xs.length c' xs) : Calls Try.prog 83 #[.slice A xs.length c, .slice A' xs.length c'] w fun e w' => e = .returned (.bool true) ∧ Below w.heap.size w w' := by
  have hroom := h.room
  go_enter Try.func83, Try.ntmps83
  go_wp2
  go_loopw [5] (fun i wr => ∃ k : Nat, k ≤ xs.length ∧ i = .int .i64 k ∧ Below w.heap.size w wr) (fun i _ => xs.length - (intOf i).toNat)
  case atStart => exact ⟨0, Nat.zero_le _, rfl, Below.refl _ _⟩
  case round =>
    obtain ⟨k, hk, rfl, hb⟩ := hrel
    obtain ⟨hc, hf, hl⟩ := bcell hb
    by_cases hlt : k < xs.length
    · obtain ⟨b, off, rfl, hbw⟩ := h.addr (by omega)
      obtain ⟨b', off', rfl, hbw'⟩ := h'.addr (by omega)
      obtain ⟨c0, c1, c2, c3, c4, c5, c6⟩ := h.S7 k hlt
      obtain ⟨d0, d1, d2, d3, d4, d5, d6⟩ := h'.S7 k hlt
      go_wp2
      go_region_with (go_at_call 119; go_loud (refine (eqFlyStep_c _ _).mono ?_); rintro e w2 ⟨rfl, hb⟩; (repeat (with_reducible first | replace hb := b_un hb | replace hb := b_unN hb)); obtain ⟨hc, hf, hl⟩ := bcell hb; obtain ⟨gc, gf, gl⟩ := bcell (b_step (w := w) (by repeat' (first | with_reducible exact Below.refl _ _ | with_reducible assumption | with_reducible refine b_alloc ?_ _ | with_reducible refine b_drewN ?_ _ | with_reducible refine b_drew ?_ | with_reducible refine b_set ?_ (by first | (simp only [World.size_setCell, World.size_alloc, World.size_drew]; omega) | (simp; done) | (simp; omega)) _ | with_reducible refine b_step ?_ (by with_reducible assumption))) hb); have hz := hb.size; (try simp at hz); skip)
      all_goals (try simp only [List.getElem_toArray, List.getElem_cons_succ, List.getElem_cons_zero, Act.put, List.setIfInBounds_toArray, List.set_cons_zero, List.set_cons_succ])
      all_goals go_wp2
      all_goals go_roundw
      all_goals (try case rel => exact ⟨k + 1, by omega, by go_num, (by repeat' (first | with_reducible exact Below.refl _ _ | with_reducible assumption | with_reducible refine b_alloc ?_ _ | with_reducible refine b_drewN ?_ _ | with_reducible refine b_drew ?_ | with_reducible refine b_set ?_ (by first | (simp only [World.size_setCell, World.size_alloc, World.size_drew]; omega) | (simp; done) | (simp; omega)) _ | with_reducible refine b_step ?_ (by with_reducible assumption)))⟩)
      all_goals (simp [intOf]; omega)
    · obtain rfl : k = xs.length := by omega
      go_wp2
      go_ret
      exact ⟨rfl, hb⟩
theorem szFlyStepS_c (n : Nat) (left : Int) (A : Option Addr) (c : Nat) (w : World) (h0 : 0 ≤ left) (h1 : left ≤ 1048576) (hn : n ≤ 140737488355328) : Calls Try.prog 76 #[.slice A n c, .int .i64 left] w fun e w' => e = .returned (.int .i64 (LL.sz left n)) ∧ w = w' := by
  go_enter Try.func76, Try.ntmps76
  go_wp2
  all_goals go_ret
  all_goals exact ⟨ri (by simp only [LL.sz]; split <;> omega), rfl⟩
set_option maxHeartbeats 1000000 in
theorem toProbeBoxS_c (xs : List LL.Box) (A : Option Addr) (c : Nat) (w : World) (h : RdB w A xs.length c xs) : Calls Try.prog 106 #[.slice A xs.length c] w (Mk boxC 6 48 133 w xs) := by
  have hroom := h.room
  go_enter Try.func106, Try.ntmps106
  go_wp2_with (at_make; (refine wp_make rfl _ _ _ rfl boxE (.agg (boxC LL.b0).toArray) LL.b0 Try.underlying89 (by kernel_rfl) rfl xs.length rfl rfl hroom (by decide) ?_); intro g w1 hg hO hb hgl; have hge : w.heap.size ≤ g := (by omega); clear hg)
  go_loopw [4] (fun i wr => ∃ k : Nat, k ≤ xs.length ∧ i = .int .i64 k ∧ Own boxC 6 48 133 wr (.slice (some ⟨g, 0, none⟩) xs.length xs.length) (upto LL.b0 xs k) ∧ Below w.heap.size w wr) (fun i _ => xs.length - (intOf i).toNat)
  case atStart => exact ⟨0, Nat.zero_le _, rfl, by rw [upto_zero]; exact hO, hb⟩
  case round =>
    clear hO hb hgl
    obtain ⟨k, hk, rfl, hO, hb⟩ := hrel
    obtain ⟨hc, hf, hl⟩ := bcell hb
    by_cases hlt : k < xs.length
    · obtain ⟨b, off, rfl, hbw⟩ := h.addr (by omega)
      obtain ⟨c0, c1, c2, c3, c4, c5⟩ := h.S6 k hlt
      have hul := Lib.hid (upto_len LL.b0 xs k hk)
      go_wp2_with (first | (go_at_call 130; go_loud (refine (toProbeBox_c _ _).mono ?_); rintro e w2 ⟨rfl, hb⟩; (repeat (with_reducible first | replace hb := b_un hb | replace hb := b_unN hb)); obtain ⟨hc, hf, hl⟩ := bcell hb; obtain ⟨gc, gf, gl⟩ := bcell (b_step (w := w) (by repeat' (first | with_reducible exact Below.refl _ _ | with_reducible assumption | with_reducible refine b_alloc ?_ _ | with_reducible refine b_drewN ?_ _ | with_reducible refine b_drew ?_ | with_reducible refine b_set ?_ (by first | (simp only [World.size_setCell, World.size_alloc, World.size_drew]; omega) | (simp; done) | (simp; omega)) _ | with_reducible refine b_step ?_ (by with_reducible assumption))) hb); have hz := hb.size; (try simp at hz); skip) | ((with_reducible refine gate_st 133 21 rfl ?_); (refine wp_put (bytes := 48) (e := 133) (cap := xs.length) 133 21 _ rfl rfl rfl boxE hul.out k (LL.nthB xs k) _ rfl rfl rfl rfl ?_ ?_ hlt ?_); (kernel_rfl); (exact (by repeat' (first | with_reducible assumption | with_reducible refine Own.a ?_ _ | with_reducible refine Own.d ?_ | with_reducible refine Own.dN ?_ _ | with_reducible refine Own.b ?_ (by with_reducible assumption)))); intro w3 hO2 hg2))
      go_roundw
      case rel => exact ⟨k + 1, by omega, by go_num, by rw [← upto_set _ _ _ hlt]; exact hO2, b_grown (by repeat' (first | with_reducible exact Below.refl _ _ | with_reducible assumption | with_reducible refine b_alloc ?_ _ | with_reducible refine b_drewN ?_ _ | with_reducible refine b_drew ?_ | with_reducible refine b_set ?_ (by first | (simp only [World.size_setCell, World.size_alloc, World.size_drew]; omega) | (simp; done) | (simp; omega)) _ | with_reducible refine b_step ?_ (by with_reducible assumption))) hg2 hge⟩
      case measure => simp [intOf]; omega
    · obtain rfl : k = xs.length := by omega
      rw [upto_all] at hO
      go_wp2
      go_ret
      exact ⟨_, rfl, hO, fun k hk => by cases hk; exact hge, hb⟩
set_option maxHeartbeats 1000000 in
theorem eqProbeBoxS_c (xs : List LL.Box) (A A' : Option Addr) (c c' : Nat) (w : World) (h : RdB w A xs.length c xs) (h' : RdB w A' xs.length c' xs) : Calls Try.prog 108 #[.slice A xs.length c, .slice A' xs.length c'] w fun e w' => e = .returned (.bool true) ∧ Below w.heap.size w w' := by
  have hroom := h.room
  go_enter Try.func108, Try.ntmps108
  go_wp2
  go_loopw [5] (fun i wr => ∃ k : Nat, k ≤ xs.length ∧ i = .int .i64 k ∧ Below w.heap.size w wr) (fun i _ => xs.length - (intOf i).toNat)
  case atStart => exact ⟨0, Nat.zero_le _, rfl, Below.refl _ _⟩
  case round =>
    obtain ⟨k, hk, rfl, hb⟩ := hrel
    obtain ⟨hc, hf, hl⟩ := bcell hb
    by_cases hlt : k < xs.length
    · obtain ⟨b, off, rfl, hbw⟩ := h.addr (by omega)
      obtain ⟨b', off', rfl, hbw'⟩ := h'.addr (by omega)
      obtain ⟨c0, c1, c2, c3, c4, c5⟩ := h.S6 k hlt
      obtain ⟨d0, d1, d2, d3, d4, d5⟩ := h'.S6 k hlt
      go_wp2
      go_region_with (go_at_call 131; go_loud (refine (eqProbeBox_c _ _).mono ?_); rintro e w2 ⟨rfl, hb⟩; (repeat (with_reducible first | replace hb := b_un hb | replace hb := b_unN hb)); obtain ⟨hc, hf, hl⟩ := bcell hb; obtain ⟨gc, gf, gl⟩ := bcell (b_step (w := w) (by repeat' (first | with_reducible exact Below.refl _ _ | with_reducible assumption | with_reducible refine b_alloc ?_ _ | with_reducible refine b_drewN ?_ _ | with_reducible refine b_drew ?_ | with_reducible refine b_set ?_ (by first | (simp only [World.size_setCell, World.size_alloc, World.size_drew]; omega) | (simp; done) | (simp; omega)) _ | with_reducible refine b_step ?_ (by with_reducible assumption))) hb); have hz := hb.size; (try simp at hz); skip)
      all_goals (try simp only [List.getElem_toArray, List.getElem_cons_succ, List.getElem_cons_zero, Act.put, List.setIfInBounds_toArray, List.set_cons_zero, List.set_cons_succ])
      all_goals go_wp2
      all_goals go_roundw
      all_goals (try case rel => exact ⟨k + 1, by omega, by go_num, (by repeat' (first | with_reducible exact Below.refl _ _ | with_reducible assumption | with_reducible refine b_alloc ?_ _ | with_reducible refine b_drewN ?_ _ | with_reducible refine b_drew ?_ | with_reducible refine b_set ?_ (by first | (simp only [World.size_setCell, World.size_alloc, World.size_drew]; omega) | (simp; done) | (simp; omega)) _ | with_reducible refine b_step ?_ (by with_reducible assumption)))⟩)
      all_goals (simp [intOf]; omega)
    · obtain rfl : k = xs.length := by omega
      go_wp2
      go_ret
      exact ⟨rfl, hb⟩
theorem szProbeBoxS_c (n : Nat) (left : Int) (A : Option Addr) (c : Nat) (w : World) (h0 : 0 ≤ left) (h1 : left ≤ 1048576) (hn : n ≤ 140737488355328) : Calls Try.prog 103 #[.slice A n c, .int .i64 left] w fun e w' => e = .returned (.int .i64 (LL.sz left n)) ∧ w = w' := by
  go_enter Try.func103, Try.ntmps103
  go_wp2
  all_goals go_ret
  all_goals exact ⟨ri (by simp only [LL.sz]; split <;> omega), rfl⟩
end Go.Proofs.Ytkpnjnkfbhomgaa

/- Rows of whole numbers: the laws' helpers; FlyWhere. -/
set_option linter.unusedVariables false
set_option linter.unusedSimpArgs false
namespace Go.Proofs.Ytkpnjnkfbhomgaa
open Go.RowKit
attribute [local go_sem] w_lt_add w_le_of w_le_add max2_i min2_i
namespace LL
/-- the same, out of the walk's sight -/
def Same {α : Type} (a b : α) : Prop := a = b
theorem Same.trans {α : Type} {a b c : α} (h : Same a b) (k : b = c) : Same a c := Eq.trans h k
theorem Same.out {α : Type} {a b : α} (h : Same a b) : a = b := h
def nthI (l : List Int) (i : Nat) : Int := l.getD i 0
/-- the first from k on that is such, of n -/
def seek (p : Nat → Bool) : Nat → Nat → Int × Bool
  | 0, _ => (0, false)
  | n + 1, k => if p k then ((k : Int), true) else seek p n (k + 1)
def seekTo (p : Nat → Bool) (m k : Nat) : Int × Bool := seek p (m - k) k
theorem seekTo_end (p : Nat → Bool) (m k : Nat) (h : m ≤ k) : seekTo p m k = (0, false) := by unfold seekTo; rw [show m - k = 0 by omega]; rfl
theorem seekTo_hit {p : Nat → Bool} {m k : Nat} (h : k < m) (hp : p k = true) : seekTo p m k = ((k : Int), true) := by
  unfold seekTo; rw [show m - k = (m - k - 1) + 1 by omega, seek, if_pos hp]
theorem seekTo_miss {p : Nat → Bool} {m k : Nat} (h : k < m) (hp : p k = false) : seekTo p m k = seekTo p m (k + 1) := by
  unfold seekTo; rw [show m - k = (m - k - 1) + 1 by omega, seek, if_neg (by simp [hp])]; rw [show m - (k + 1) = m - k - 1 by omega]
def whereP (f : List Int) (t : Int) (k : Nat) : Bool := decide (nthI f k ≤ t ∧ t < nthI f (k + 1))
def whr (f : List Int) (t : Int) : Int × Bool := seekTo (whereP f t) (f.length - 1) 0
end LL
abbrev RdI := Rd intC 1 8
theorem Rd.S1 {w : World} {b off n c : Nat} {xs : List Int} (h : RdI w (some ⟨b, off, none⟩) n c xs) (k : Nat) (hk : k < n) : w.cell? ⟨b, off + k, none⟩ = some (.int .i64 (LL.nthI xs k)) := by
  have hc : ∀ j u, (intC (LL.nthI xs k))[j]? = some u → _ := h.here 0 k hk
  simpa using hc 0 _ rfl
theorem rt2' {a b : Int × Bool} (h : a = b) : Ending.returned (.tuple #[.int .i64 a.1, .bool a.2]) = .returned (.tuple #[.int .i64 b.1, .bool b.2]) := by rw [h]
theorem Own.cells1 {e g n c : Nat} {w : World} {xs : List Int} (h : Own intC 1 8 e w (.slice (some ⟨g, 0, none⟩) n c) xs) (hn : xs.length = n) (k : Nat) (hk : k < n) : w.cell? ⟨g, k, none⟩ = some (.int .i64 (LL.nthI xs k)) ∧ w.frozen? ⟨g, k, none⟩ = false := by
  subst hn
  obtain ⟨A1, k1, e1, hR⟩ := h.rd intE
  cases e1
  have c0 := hR.S1 k hk
  rw [Nat.zero_add] at c0
  refine ⟨c0, ?_⟩
  rcases h.row.2 with ⟨hv, _⟩ | ⟨g', cap', cur, hv, hb, hh, hnc, hcm, hcs, _⟩
  · cases hv
  · cases hv; simp [World.frozen?, hh]
theorem Own.set1 {e g n c : Nat} {w : World} {xs : List Int} (h : Own intC 1 8 e w (.slice (some ⟨g, 0, none⟩) n c) xs) (hn : xs.length = n) (k : Nat) (hk : k < n) (x : Int) : Own intC 1 8 e (w.setCell ⟨g, k, none⟩ (.int .i64 x)) (.slice (some ⟨g, 0, none⟩) n c) (xs.set k x) := by
  subst hn
  obtain ⟨hrow, hg⟩ := ownsRow_setCells [.int .i64 x] (k * 1 + 0) h.row
  rw [flat_setMany intE xs k 0 x x [.int .i64 x] hk (by simp) (by simp [intC])] at hrow
  exact ⟨by rw [List.length_set]; simpa [World.setCells] using hrow, by rw [List.length_set]; exact h.room⟩
set_option maxHeartbeats 1000000 in
theorem toIntS_c (xs : List Int) (A : Option Addr) (c : Nat) (w : World) (h : RdI w A xs.length c xs) : Calls Try.prog 92 #[.slice A xs.length c] w (Mk intC 1 8 3 w xs) := by
  have hroom := h.room
  go_enter Try.func92, Try.ntmps92
  go_wp2_with (at_make; (refine wp_make rfl _ _ _ rfl intE (.int .i64 0) 0 Try.underlying69 (by kernel_rfl) rfl xs.length rfl rfl hroom (by decide) ?_); intro g w1 hg hO hb hgl; have hge : w.heap.size ≤ g := (by omega); clear hg)
  go_loopw [4] (fun i wr => ∃ k : Nat, k ≤ xs.length ∧ i = .int .i64 k ∧ Own intC 1 8 3 wr (.slice (some ⟨g, 0, none⟩) xs.length xs.length) (upto 0 xs k) ∧ Below w.heap.size w wr) (fun i _ => xs.length - (intOf i).toNat)
  case atStart => exact ⟨0, Nat.zero_le _, rfl, by rw [upto_zero]; exact hO, hb⟩
  case round =>
    clear hO hb hgl
    obtain ⟨k, hk, rfl, hO, hb⟩ := hrel
    obtain ⟨hc, hf, hl⟩ := bcell hb
    by_cases hlt : k < xs.length
    · obtain ⟨b, off, rfl, hbw⟩ := h.addr (by omega)
      have c0 := h.S1 k hlt
      obtain ⟨e0, e1⟩ := hO.cells1 (upto_len 0 xs k hk) k hlt
      have hgl := (hO.row.lt _ rfl).2
      go_wp2
      go_roundw
      case rel => exact ⟨k + 1, by omega, by go_num, by rw [← upto_set _ _ _ hlt]; exact hO.set1 (upto_len 0 xs k hk) k hlt _, (by repeat' (first | with_reducible exact Below.refl _ _ | with_reducible assumption | with_reducible refine b_alloc ?_ _ | with_reducible refine b_drewN ?_ _ | with_reducible refine b_drew ?_ | with_reducible refine b_set ?_ (by first | (simp only [World.size_setCell, World.size_alloc, World.size_drew]; omega) | (simp; done) | (simp; omega)) _ | with_reducible refine b_step ?_ (by with_reducible assumption)))⟩
      case measure => simp [intOf]; omega
    · obtain rfl : k = xs.length := by omega
      rw [upto_all] at hO
      go_wp2
      go_ret
      exact ⟨_, rfl, hO, fun k hk => by cases hk; exact hge, hb⟩
set_option maxHeartbeats 1000000 in
theorem eqIntS_c (xs : List Int) (A A' : Option Addr) (c c' : Nat) (w : World) (h : RdI w A xs.length c xs) (h' : RdI w A' xs.length c' xs) : Calls Try.prog 98 #[.slice A xs.length c, .slice A' xs.length c'] w fun e w' => e = .returned (.bool true) ∧ Below w.heap.size w w' := by
  have hroom := h.room
  go_enter Try.func98, Try.ntmps98
  go_wp2
  go_loopw [5] (fun i wr => ∃ k : Nat, k ≤ xs.length ∧ i = .int .i64 k ∧ Below w.heap.size w wr) (fun i _ => xs.length - (intOf i).toNat)
  case atStart => exact ⟨0, Nat.zero_le _, rfl, Below.refl _ _⟩
  case round =>
    obtain ⟨k, hk, rfl, hb⟩ := hrel
    obtain ⟨hc, hf, hl⟩ := bcell hb
    by_cases hlt : k < xs.length
    · obtain ⟨b, off, rfl, hbw⟩ := h.addr (by omega)
      obtain ⟨b', off', rfl, hbw'⟩ := h'.addr (by omega)
      have c0 := h.S1 k hlt
      have d0 := h'.S1 k hlt
      go_wp2
      go_region_with skip
      all_goals (try simp only [List.getElem_toArray, List.getElem_cons_succ, List.getElem_cons_zero, Act.put, List.setIfInBounds_toArray, List.set_cons_zero, List.set_cons_succ])
      all_goals go_wp2
      all_goals go_roundw
      all_goals (try case rel => exact ⟨k + 1, by omega, by go_num, (by repeat' (first | with_reducible exact Below.refl _ _ | with_reducible assumption | with_reducible refine b_alloc ?_ _ | with_reducible refine b_drewN ?_ _ | with_reducible refine b_drew ?_ | with_reducible refine b_set ?_ (by first | (simp only [World.size_setCell, World.size_alloc, World.size_drew]; omega) | (simp; done) | (simp; omega)) _ | with_reducible refine b_step ?_ (by with_reducible assumption)))⟩)
      all_goals (simp [intOf]; omega)
    · obtain rfl : k = xs.length := by omega
      go_wp2
      go_ret
      exact ⟨rfl, hb⟩
end Go.Proofs.Ytkpnjnkfbhomgaa

/- Tubes: FlyWithin, of the program and of the reference. -/
set_option linter.unusedVariables false
set_option linter.unusedSimpArgs false
namespace Go.Proofs.Ytkpnjnkfbhomgaa
open Go.RowKit
attribute [local go_sem] w_lt_add w_le_of w_le_add max2_i min2_i
namespace LL
def Has (b : Box) (x y l t : Int) : Prop := b.x = x ∧ b.y = y ∧ In l b.lo b.hi ∧ In t b.i b.o
instance (b : Box) (x y l t : Int) : Decidable (Has b x y l t) := inferInstanceAs (Decidable (_ ∧ _))
/-- of the first k boxes none is such -/
def None_ (P : Box → Prop) (l : List Box) (k : Nat) : Prop := ∀ j, j < k → ¬ P (nthB l j)
theorem None_.zero (P : Box → Prop) (l : List Box) : None_ P l 0 := fun _ h => absurd h (Nat.not_lt_zero _)
theorem None_.succ {P : Box → Prop} {l : List Box} {k : Nat} (h : None_ P l k) (hk : ¬ P (nthB l k)) : None_ P l (k + 1) := fun j hj => by
  rcases Nat.lt_succ_iff_lt_or_eq.1 hj with h1 | rfl
  · exact h j h1
  · exact hk
theorem nthB_mem {l : List Box} {k : Nat} (h : k < l.length) : nthB l k ∈ l := by
  unfold nthB; rw [List.getD_eq_getElem?_getD, List.getElem?_eq_getElem h]; exact List.getElem_mem h
theorem None_.all {P : Box → Prop} {l : List Box} (h : None_ P l l.length) : ¬ ∃ b ∈ l, P b := fun ⟨b, hb, hP⟩ => by
  obtain ⟨i, hi, e⟩ := List.getElem_of_mem hb
  refine h i hi ?_
  unfold nthB; rw [List.getD_eq_getElem?_getD, List.getElem?_eq_getElem hi, e]; exact hP
theorem some_at {P : Box → Prop} {l : List Box} {k : Nat} (h : k < l.length) (hP : P (nthB l k)) : ∃ b ∈ l, P b := ⟨_, nthB_mem h, hP⟩
def Within (l : List Box) (x y v t : Int) : Prop := ∃ b ∈ l, Has b x y v t
instance (l : List Box) (x y v t : Int) : Decidable (Within l x y v t) := inferInstanceAs (Decidable (∃ b ∈ l, _))
end LL
end Go.Proofs.Ytkpnjnkfbhomgaa

/- Paths: the laws' helpers, and the reference's FlyPathOk. -/
set_option linter.unusedVariables false
set_option linter.unusedSimpArgs false
namespace Go.Proofs.Ytkpnjnkfbhomgaa
open Go.RowKit
attribute [local go_sem] w_lt_add w_le_of w_le_add max2_i min2_i
theorem Own.s_ge {α : Type} {enc : α → List Value} {sz bytes e : Nat} {w : World} {v : Value} {xs : List α} (h : Own enc sz bytes e w v xs) {B : Nat} (hge : ∀ k, v.ownBlock = some k → B ≤ k) {p : Addr} (hp : p.block < B) (u : Value) : Own enc sz bytes e (w.setCell p u) v xs :=
  h.s u fun k hk => by have := hge k hk; omega
/-- a call has made a path -/
def MkP (e : Nat) (w : World) (p : LL.Path) (en : Ending) (w' : World) : Prop := ∃ v, en = .returned (.agg #[.int .i64 p.q, .int .i64 p.s, v, .int .i64 p.fr, .int .i64 p.by_]) ∧ Own stepC 7 56 e w' v p.steps ∧ (∀ k, v.ownBlock = some k → w.heap.size ≤ k) ∧ Below w.heap.size w w'
set_option maxHeartbeats 1000000 in
theorem toFlyPath_c (p : LL.Path) (A : Option Addr) (c : Nat) (w : World) (h : RdS w A p.steps.length c p.steps) : Calls Try.prog 34 #[.agg #[.int .i64 p.q, .int .i64 p.s, .slice A p.steps.length c, .int .i64 p.fr, .int .i64 p.by_]] w (MkP 146 w p) := by
  go_enter Try.func34, Try.ntmps34
  go_wp2_with (first | (go_at_call 79; go_loud (refine (toFlyKind_c _ _ _).mono ?_); rintro e w1 ⟨rfl, hb⟩; (repeat (with_reducible first | replace hb := b_un hb | replace hb := b_unN hb)); obtain ⟨hc, hf, hl⟩ := bcell hb; obtain ⟨gc, gf, gl⟩ := bcell (b_step (w := w) (by repeat' (first | with_reducible exact Below.refl _ _ | with_reducible assumption | with_reducible refine b_alloc ?_ _ | with_reducible refine b_drewN ?_ _ | with_reducible refine b_drew ?_ | with_reducible refine b_set ?_ (by first | (simp only [World.size_setCell, World.size_alloc, World.size_drew]; omega) | (simp; done) | (simp; omega)) _ | with_reducible refine b_step ?_ (by with_reducible assumption))) hb); have hz := hb.size; (try simp at hz); have yw1_0 : w.heap.size < w1.heap.size := (by omega); have yw1_1 : w.heap.size + 1 < w1.heap.size := (by omega); have yw1_2 : w.heap.size + 1 + 1 < w1.heap.size := (by omega)) | (go_at_call 80; refine (toFlyStepS_c _ _ _ _ (by exact Rd.mono (by with_reducible assumption) (by repeat' (first | with_reducible exact Below.refl _ _ | with_reducible assumption | with_reducible refine b_alloc ?_ _ | with_reducible refine b_drewN ?_ _ | with_reducible refine b_drew ?_ | with_reducible refine b_set ?_ (by first | (simp only [World.size_setCell, World.size_alloc, World.size_drew]; omega) | (simp; done) | (simp; omega)) _ | with_reducible refine b_step ?_ (by with_reducible assumption))))).mono ?_; rintro e w2 ⟨v1, rfl, hO, hge, hb⟩; obtain ⟨A1, k1, rfl, hR⟩ := hO.rd stepE; (repeat (with_reducible first | replace hb := b_un hb | replace hb := b_unN hb)); obtain ⟨hc, hf, hl⟩ := bcell hb; obtain ⟨gc, gf, gl⟩ := bcell (b_step (w := w) (by repeat' (first | with_reducible exact Below.refl _ _ | with_reducible assumption | with_reducible refine b_alloc ?_ _ | with_reducible refine b_drewN ?_ _ | with_reducible refine b_drew ?_ | with_reducible refine b_set ?_ (by first | (simp only [World.size_setCell, World.size_alloc, World.size_drew]; omega) | (simp; done) | (simp; omega)) _ | with_reducible refine b_step ?_ (by with_reducible assumption))) hb); have hz := hb.size; (try simp only [World.size_setCell, World.size_alloc, World.size_drew] at hz hge); have yw2_0 : w.heap.size < w2.heap.size := (by omega); have yw2_1 : w.heap.size + 1 < w2.heap.size := (by omega); have yw2_2 : w.heap.size + 1 + 1 < w2.heap.size := (by omega)))
  (refine bodyPost_ret (res_c rfl _ [.int .i64 p.q, .int .i64 p.s, .slice A1 p.steps.length k1, .int .i64 p.fr, .int .i64 p.by_] rfl _ Try.underlying44 rfl (by kernel_rfl) (by simp only [CellsAt, and_true]; and_intros <;> go_simp)) rfl ?_)
  refine ⟨_, rfl, ?_, fun k hk => ?_, (by repeat' (first | with_reducible exact Below.refl _ _ | with_reducible assumption | with_reducible refine b_alloc ?_ _ | with_reducible refine b_drewN ?_ _ | with_reducible refine b_drew ?_ | with_reducible refine b_set ?_ (by first | (simp only [World.size_setCell, World.size_alloc, World.size_drew]; omega) | (simp; done) | (simp; omega)) _ | with_reducible refine b_step ?_ (by with_reducible assumption)))⟩
  · exact (by repeat' (first | with_reducible assumption | with_reducible refine Own.s_ge ?_ (by with_reducible assumption) (by simp only [World.size_setCell]; omega) _ | with_reducible refine Own.a ?_ _ | with_reducible refine Own.d ?_ | with_reducible refine Own.dN ?_ _ | with_reducible refine Own.b ?_ (by with_reducible assumption)))
  · have := hge k hk; omega
set_option maxHeartbeats 1000000 in
theorem eqFlyPath_c (p : LL.Path) (A A' : Option Addr) (c c' : Nat) (w : World) (h : RdS w A p.steps.length c p.steps) (h' : RdS w A' p.steps.length c' p.steps) : Calls Try.prog 36 #[.agg #[.int .i64 p.q, .int .i64 p.s, .slice A p.steps.length c, .int .i64 p.fr, .int .i64 p.by_], .agg #[.int .i64 p.q, .int .i64 p.s, .slice A' p.steps.length c', .int .i64 p.fr, .int .i64 p.by_]] w fun e w' => e = .returned (.bool true) ∧ Below w.heap.size w w' := by
  go_enter Try.func36, Try.ntmps36
  go_wp2_with (first | (go_at_call 82; go_loud (refine (eqFlyKind_c _ _ _).mono ?_); rintro e w1 ⟨rfl, hb⟩; (repeat (with_reducible first | replace hb := b_un hb | replace hb := b_unN hb)); obtain ⟨hc, hf, hl⟩ := bcell hb; obtain ⟨gc, gf, gl⟩ := bcell (b_step (w := w) (by repeat' (first | with_reducible exact Below.refl _ _ | with_reducible assumption | with_reducible refine b_alloc ?_ _ | with_reducible refine b_drewN ?_ _ | with_reducible refine b_drew ?_ | with_reducible refine b_set ?_ (by first | (simp only [World.size_setCell, World.size_alloc, World.size_drew]; omega) | (simp; done) | (simp; omega)) _ | with_reducible refine b_step ?_ (by with_reducible assumption))) hb); have hz := hb.size; (try simp at hz); have yw1_0 : w.heap.size < w1.heap.size := (by omega); have yw1_1 : w.heap.size + 1 < w1.heap.size := (by omega)) | (go_at_call 83; go_loud (refine (eqFlyStepS_c _ _ _ _ _ _ (by exact Rd.mono (by with_reducible assumption) (by repeat' (first | with_reducible exact Below.refl _ _ | with_reducible assumption | with_reducible refine b_alloc ?_ _ | with_reducible refine b_drewN ?_ _ | with_reducible refine b_drew ?_ | with_reducible refine b_set ?_ (by first | (simp only [World.size_setCell, World.size_alloc, World.size_drew]; omega) | (simp; done) | (simp; omega)) _ | with_reducible refine b_step ?_ (by with_reducible assumption)))) (by exact Rd.mono (by with_reducible assumption) (by repeat' (first | with_reducible exact Below.refl _ _ | with_reducible assumption | with_reducible refine b_alloc ?_ _ | with_reducible refine b_drewN ?_ _ | with_reducible refine b_drew ?_ | with_reducible refine b_set ?_ (by first | (simp only [World.size_setCell, World.size_alloc, World.size_drew]; omega) | (simp; done) | (simp; omega)) _ | with_reducible refine b_step ?_ (by with_reducible assumption))))).mono ?_); rintro e w1 ⟨rfl, hb⟩; (repeat (with_reducible first | replace hb := b_un hb | replace hb := b_unN hb)); obtain ⟨hc, hf, hl⟩ := bcell hb; obtain ⟨gc, gf, gl⟩ := bcell (b_step (w := w) (by repeat' (first | with_reducible exact Below.refl _ _ | with_reducible assumption | with_reducible refine b_alloc ?_ _ | with_reducible refine b_drewN ?_ _ | with_reducible refine b_drew ?_ | with_reducible refine b_set ?_ (by first | (simp only [World.size_setCell, World.size_alloc, World.size_drew]; omega) | (simp; done) | (simp; omega)) _ | with_reducible refine b_step ?_ (by with_reducible assumption))) hb); have hz := hb.size; (try simp at hz); have yw1_0 : w.heap.size < w1.heap.size := (by omega); have yw1_1 : w.heap.size + 1 < w1.heap.size := (by omega)))
  go_ret
  exact ⟨rfl, (by repeat' (first | with_reducible exact Below.refl _ _ | with_reducible assumption | with_reducible refine b_alloc ?_ _ | with_reducible refine b_drewN ?_ _ | with_reducible refine b_drew ?_ | with_reducible refine b_set ?_ (by first | (simp only [World.size_setCell, World.size_alloc, World.size_drew]; omega) | (simp; done) | (simp; omega)) _ | with_reducible refine b_step ?_ (by with_reducible assumption)))⟩
theorem szFlyPath_c (q s f g : Int) (n : Nat) (left : Int) (A : Option Addr) (c : Nat) (w : World) (h0 : 0 ≤ left) (h1 : left ≤ 1048576) (hn : n ≤ 140737488355328) : Calls Try.prog 32 #[.agg #[.int .i64 q, .int .i64 s, .slice A n c, .int .i64 f, .int .i64 g], .int .i64 left] w fun e w' => e = .returned (.int .i64 (LL.sz left n)) ∧ Below w.heap.size w w' := by
  go_enter Try.func32, Try.ntmps32
  go_wp2_with (go_at_call 76; refine (szFlyStepS_c _ _ _ _ _ h0 h1 hn).mono ?_; rintro e w' ⟨rfl, rfl⟩)
  all_goals go_ret
  all_goals exact ⟨ri (by simp only [LL.sz] at *; (try omega)), (by repeat' (first | with_reducible exact Below.refl _ _ | with_reducible assumption | with_reducible refine b_alloc ?_ _ | with_reducible refine b_drewN ?_ _ | with_reducible refine b_drew ?_ | with_reducible refine b_set ?_ (by first | (simp only [World.size_setCell, World.size_alloc, World.size_drew]; omega) | (simp; done) | (simp; omega)) _ | with_reducible refine b_step ?_ (by with_reducible assumption)))⟩
end Go.Proofs.Ytkpnjnkfbhomgaa

/- Tubes: FlySmaller, of the program and of the reference. -/
set_option linter.unusedVariables false
set_option linter.unusedSimpArgs false
namespace Go.Proofs.Ytkpnjnkfbhomgaa
open Go.RowKit
attribute [local go_sem] w_lt_add w_le_of w_le_add max2_i min2_i
namespace LL
/-- a holds no moment or no height -/
def Void (a : Box) : Prop := a.hi < a.lo ∨ a.o < a.i
/-- b covers a -/
def Cover (b a : Box) : Prop := a.x = b.x ∧ a.y = b.y ∧ b.lo ≤ a.lo ∧ a.hi ≤ b.hi ∧ b.i ≤ a.i ∧ a.o ≤ b.o
instance (a : Box) : Decidable (Void a) := inferInstanceAs (Decidable (_ ∨ _))
instance (b a : Box) : Decidable (Cover b a) := inferInstanceAs (Decidable (_ ∧ _))
def Some_ (P : Box → Prop) (l : List Box) (k : Nat) : Prop := ∃ j, j < k ∧ P (nthB l j)
def All_ (P : Box → Prop) (l : List Box) (k : Nat) : Prop := ∀ j, j < k → P (nthB l j)
theorem Some_.zero (P : Box → Prop) (l : List Box) : ¬ Some_ P l 0 := fun ⟨_, h, _⟩ => absurd h (Nat.not_lt_zero _)
theorem Some_.succ (P : Box → Prop) (l : List Box) (k : Nat) : Some_ P l (k + 1) ↔ Some_ P l k ∨ P (nthB l k) := by
  constructor
  · rintro ⟨j, hj, hP⟩
    rcases Nat.lt_succ_iff_lt_or_eq.1 hj with h1 | rfl
    · exact .inl ⟨j, h1, hP⟩
    · exact .inr hP
  · rintro (⟨j, hj, hP⟩ | hP)
    · exact ⟨j, by omega, hP⟩
    · exact ⟨k, by omega, hP⟩
theorem Some_.all (P : Box → Prop) (l : List Box) : Some_ P l l.length ↔ ∃ b ∈ l, P b := by
  constructor
  · rintro ⟨j, hj, hP⟩; exact ⟨_, nthB_mem hj, hP⟩
  · rintro ⟨b, hb, hP⟩
    obtain ⟨i, hi, e⟩ := List.getElem_of_mem hb
    refine ⟨i, hi, ?_⟩
    unfold nthB; rw [List.getD_eq_getElem?_getD, List.getElem?_eq_getElem hi, e]; exact hP
theorem All_.zero (P : Box → Prop) (l : List Box) : All_ P l 0 := fun _ h => absurd h (Nat.not_lt_zero _)
theorem All_.succ {P : Box → Prop} {l : List Box} {k : Nat} (h : All_ P l k) (hk : P (nthB l k)) : All_ P l (k + 1) := fun j hj => by
  rcases Nat.lt_succ_iff_lt_or_eq.1 hj with h1 | rfl
  · exact h j h1
  · exact hk
theorem All_.all {P : Box → Prop} {l : List Box} (h : All_ P l l.length) : ∀ b ∈ l, P b := fun b hb => by
  obtain ⟨i, hi, e⟩ := List.getElem_of_mem hb
  have := h i hi
  unfold nthB at this; rw [List.getD_eq_getElem?_getD, List.getElem?_eq_getElem hi, e] at this; exact this
/-- void, or one of them covers it -/
def Held (a : Box) (B : List Box) : Prop := Void a ∨ ∃ b ∈ B, Cover b a
instance (a : Box) (B : List Box) : Decidable (Held a B) := inferInstanceAs (Decidable (_ ∨ _))
def Small (A B : List Box) : Prop := ∀ a ∈ A, Held a B
instance (A B : List Box) : Decidable (Small A B) := inferInstanceAs (Decidable (∀ a ∈ A, _))
theorem not_small {A B : List Box} {k : Nat} (h : k < A.length) (hP : ¬ Held (nthB A k) B) : ¬ Small A B := fun h2 => hP (h2 _ (nthB_mem h))
/-- what the inner loop has found -/
def Found (V : Prop) (a : Box) (B : List Box) (m : Nat) (fd : Bool) : Prop := fd = true ↔ V ∨ Some_ (fun b => Cover b a) B m
theorem Found.zero {V : Prop} [Decidable V] (a : Box) (B : List Box) : Found V a B 0 (decide V) := by simp [Found, Some_.zero]
theorem Found.succ {V : Prop} {a : Box} {B : List Box} {m : Nat} {fd f2 : Bool} (h : Found V a B m fd) (h2 : f2 = true ↔ fd = true ∨ Cover (nthB B m) a) : Found V a B (m + 1) f2 := by
  unfold Found at *; rw [h2, h, Some_.succ, or_assoc]
theorem Found.held {a : Box} {B : List Box} {fd : Bool} (h : Found (Void a) a B B.length fd) : fd = true ↔ Held a B := by unfold Found at h; rw [h, Some_.all]; rfl
theorem Found.held' {a : Box} {B : List Box} {fd : Bool} (hv : ¬ Void a) (h : Found False a B B.length fd) : fd = true ↔ Held a B := by unfold Found at h; rw [h, Some_.all]; simp [Held, hv]
end LL
end Go.Proofs.Ytkpnjnkfbhomgaa
