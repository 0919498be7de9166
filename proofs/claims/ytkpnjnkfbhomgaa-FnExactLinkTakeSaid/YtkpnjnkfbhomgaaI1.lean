/- Rows of whole numbers: the laws' helpers; FlyWhere. -/
import Derived.Test.YtkpnjnkfbhomgaaT1
set_option linter.unusedVariables false
set_option linter.unusedSimpArgs false
namespace Go.Proofs.Ytkpnjnkfbhomgaa
open Go.RowKit
attribute [local go_sem] w_lt_add w_le_of w_le_add max2_i min2_i
namespace LL
/-- the same, out of the walk's sight -/
def Same {α : Type} (a b : α) : Prop := a = b
theorem Same.trans {α : Type} {a b c : α} (h : Same a b) (k : b = c) : Same a c := Eq.trans h k
theorem Same.out {α : Type} {a b : α} (h : Same a b) : a = b := h
def nthI (l : List Int) (i : Nat) : Int := l.getD i 0
/-- the first from k on that is such, of n -/
def seek (p : Nat → Bool) : Nat → Nat → Int × Bool
  | 0, _ => (0, false)
  | n + 1, k => if p k then ((k : Int), true) else seek p n (k + 1)
def seekTo (p : Nat → Bool) (m k : Nat) : Int × Bool := seek p (m - k) k
theorem seekTo_end (p : Nat → Bool) (m k : Nat) (h : m ≤ k) : seekTo p m k = (0, false) := by unfold seekTo; rw [show m - k = 0 by omega]; rfl
theorem seekTo_hit {p : Nat → Bool} {m k : Nat} (h : k < m) (hp : p k = true) : seekTo p m k = ((k : Int), true) := by
  unfold seekTo; rw [show m - k = (m - k - 1) + 1 by omega, seek, if_pos hp]
theorem seekTo_miss {p : Nat → Bool} {m k : Nat} (h : k < m) (hp : p k = false) : seekTo p m k = seekTo p m (k + 1) := by
  unfold seekTo; rw [show m - k = (m - k - 1) + 1 by omega, seek, if_neg (by simp [hp])]; rw [show m - (k + 1) = m - k - 1 by omega]
def whereP (f : List Int) (t : Int) (k : Nat) : Bool := decide (nthI f k ≤ t ∧ t < nthI f (k + 1))
def whr (f : List Int) (t : Int) : Int × Bool := seekTo (whereP f t) (f.length - 1) 0
end LL
abbrev RdI := Rd intC 1 8
theorem Rd.S1 {w : World} {b off n c : Nat} {xs : List Int} (h : RdI w (some ⟨b, off, none⟩) n c xs) (k : Nat) (hk : k < n) : w.cell? ⟨b, off + k, none⟩ = some (.int .i64 (LL.nthI xs k)) := by
  have hc : ∀ j u, (intC (LL.nthI xs k))[j]? = some u → _ := h.here 0 k hk
  simpa using hc 0 _ rfl
theorem rt2' {a b : Int × Bool} (h : a = b) : Ending.returned (.tuple #[.int .i64 a.1, .bool a.2]) = .returned (.tuple #[.int .i64 b.1, .bool b.2]) := by rw [h]
theorem Own.cells1 {e g n c : Nat} {w : World} {xs : List Int} (h : Own intC 1 8 e w (.slice (some ⟨g, 0, none⟩) n c) xs) (hn : xs.length = n) (k : Nat) (hk : k < n) : w.cell? ⟨g, k, none⟩ = some (.int .i64 (LL.nthI xs k)) ∧ w.frozen? ⟨g, k, none⟩ = false := by
  subst hn
  obtain ⟨A1, k1, e1, hR⟩ := h.rd intE
  cases e1
  have c0 := hR.S1 k hk
  rw [Nat.zero_add] at c0
  refine ⟨c0, ?_⟩
  rcases h.row.2 with ⟨hv, _⟩ | ⟨g', cap', cur, hv, hb, hh, hnc, hcm, hcs, _⟩
  · cases hv
  · cases hv; simp [World.frozen?, hh]
theorem Own.set1 {e g n c : Nat} {w : World} {xs : List Int} (h : Own intC 1 8 e w (.slice (some ⟨g, 0, none⟩) n c) xs) (hn : xs.length = n) (k : Nat) (hk : k < n) (x : Int) : Own intC 1 8 e (w.setCell ⟨g, k, none⟩ (.int .i64 x)) (.slice (some ⟨g, 0, none⟩) n c) (xs.set k x) := by
  subst hn
  obtain ⟨hrow, hg⟩ := ownsRow_setCells [.int .i64 x] (k * 1 + 0) h.row
  rw [flat_setMany intE xs k 0 x x [.int .i64 x] hk (by simp) (by simp [intC])] at hrow
  exact ⟨by rw [List.length_set]; simpa [World.setCells] using hrow, by rw [List.length_set]; exact h.room⟩
set_option maxHeartbeats 1000000 in
theorem toIntS_c (xs : List Int) (A : Option Addr) (c : Nat) (w : World) (h : RdI w A xs.length c xs) : Calls Try.prog 92 #[.slice A xs.length c] w (Mk intC 1 8 3 w xs) := by
  have hroom := h.room
  go_enter Try.func92, Try.ntmps92
  go_wp2_with (at_make; (refine wp_make rfl _ _ _ rfl intE (.int .i64 0) 0 Try.underlying69 (by kernel_rfl) rfl xs.length rfl rfl hroom (by decide) ?_); intro g w1 hg hO hb hgl; have hge : w.heap.size ≤ g := (by omega); clear hg)
  go_loopw [4] (fun i wr => ∃ k : Nat, k ≤ xs.length ∧ i = .int .i64 k ∧ Own intC 1 8 3 wr (.slice (some ⟨g, 0, none⟩) xs.length xs.length) (upto 0 xs k) ∧ Below w.heap.size w wr) (fun i _ => xs.length - (intOf i).toNat)
  case atStart => exact ⟨0, Nat.zero_le _, rfl, by rw [upto_zero]; exact hO, hb⟩
  case round =>
    clear hO hb hgl
    obtain ⟨k, hk, rfl, hO, hb⟩ := hrel
    obtain ⟨hc, hf, hl⟩ := bcell hb
    by_cases hlt : k < xs.length
    · obtain ⟨b, off, rfl, hbw⟩ := h.addr (by omega)
      have c0 := h.S1 k hlt
      obtain ⟨e0, e1⟩ := hO.cells1 (upto_len 0 xs k hk) k hlt
      have hgl := (hO.row.lt _ rfl).2
      go_wp2
      go_roundw
      case rel => exact ⟨k + 1, by omega, by go_num, by rw [← upto_set _ _ _ hlt]; exact hO.set1 (upto_len 0 xs k hk) k hlt _, (by repeat' (first | with_reducible exact Below.refl _ _ | with_reducible assumption | with_reducible refine b_alloc ?_ _ | with_reducible refine b_drewN ?_ _ | with_reducible refine b_drew ?_ | with_reducible refine b_set ?_ (by first | (simp only [World.size_setCell, World.size_alloc, World.size_drew]; omega) | (simp; done) | (simp; omega)) _ | with_reducible refine b_step ?_ (by with_reducible assumption)))⟩
      case measure => simp [intOf]; omega
    · obtain rfl : k = xs.length := by omega
      rw [upto_all] at hO
      go_wp2
      go_ret
      exact ⟨_, rfl, hO, fun k hk => by cases hk; exact hge, hb⟩
set_option maxHeartbeats 1000000 in
theorem eqIntS_c (xs : List Int) (A A' : Option Addr) (c c' : Nat) (w : World) (h : RdI w A xs.length c xs) (h' : RdI w A' xs.length c' xs) : Calls Try.prog 98 #[.slice A xs.length c, .slice A' xs.length c'] w fun e w' => e = .returned (.bool true) ∧ Below w.heap.size w w' := by
  have hroom := h.room
  go_enter Try.func98, Try.ntmps98
  go_wp2
  go_loopw [5] (fun i wr => ∃ k : Nat, k ≤ xs.length ∧ i = .int .i64 k ∧ Below w.heap.size w wr) (fun i _ => xs.length - (intOf i).toNat)
  case atStart => exact ⟨0, Nat.zero_le _, rfl, Below.refl _ _⟩
  case round =>
    obtain ⟨k, hk, rfl, hb⟩ := hrel
    obtain ⟨hc, hf, hl⟩ := bcell hb
    by_cases hlt : k < xs.length
    · obtain ⟨b, off, rfl, hbw⟩ := h.addr (by omega)
      obtain ⟨b', off', rfl, hbw'⟩ := h'.addr (by omega)
      have c0 := h.S1 k hlt
      have d0 := h'.S1 k hlt
      go_wp2
      go_region_with skip
      all_goals (try simp only [List.getElem_toArray, List.getElem_cons_succ, List.getElem_cons_zero, Act.put, List.setIfInBounds_toArray, List.set_cons_zero, List.set_cons_succ])
      all_goals go_wp2
      all_goals go_roundw
      all_goals (try case rel => exact ⟨k + 1, by omega, by go_num, (by repeat' (first | with_reducible exact Below.refl _ _ | with_reducible assumption | with_reducible refine b_alloc ?_ _ | with_reducible refine b_drewN ?_ _ | with_reducible refine b_drew ?_ | with_reducible refine b_set ?_ (by first | (simp only [World.size_setCell, World.size_alloc, World.size_drew]; omega) | (simp; done) | (simp; omega)) _ | with_reducible refine b_step ?_ (by with_reducible assumption)))⟩)
      all_goals (simp [intOf]; omega)
    · obtain rfl : k = xs.length := by omega
      go_wp2
      go_ret
      exact ⟨rfl, hb⟩
end Go.Proofs.Ytkpnjnkfbhomgaa
