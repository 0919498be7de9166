/- What a book comes to in parts, as the laws' size functions count. -/
import Derived.Test.YtkpnjnkfbhomgaaJD
import Derived.Test.YtkpnjnkfbhomgaaJG
set_option linter.unusedVariables false
set_option linter.unusedSimpArgs false
namespace Go.Proofs.Ytkpnjnkfbhomgaa
open Go.RowKit
attribute [local go_sem] w_lt_add w_le_of w_le_add max2_i min2_i
theorem LL.sz_sum (l : Int) (n : Nat) : 0 ≤ LL.sz l n → LL.sz l n + n = l := by unfold LL.sz; split <;> omega
def LL.wtHe (u : LL.He) : Int := u.name.size + u.p.steps.length + u.n.steps.length
def LL.wtHeS (us : List LL.He) : Nat → Int
  | 0 => 0
  | k + 1 => LL.wtHeS us k + LL.wtHe (LL.nthH us k)
set_option maxRecDepth 100000 in
set_option maxHeartbeats 2000000 in
theorem szHe_c (u : LL.He) (left : Int) (w : World) (h0 : 0 ≤ left) (h1 : left ≤ 1048576) (hs : u.name.size ≤ 9223372036854775807) (hp : u.p.steps.length ≤ 140737488355328) (hn : u.n.steps.length ≤ 140737488355328) : Calls Try.prog 109 #[.agg #[.string u.name, .int .i64 u.number, .int .i64 u.p.q, .int .i64 u.p.s, .slice u.A u.p.steps.length u.c, .int .i64 u.p.fr, .int .i64 u.p.by_, .int .i64 u.sent, .int .i64 u.n.q, .int .i64 u.n.s, .slice u.B u.n.steps.length u.d, .int .i64 u.n.fr, .int .i64 u.n.by_], .int .i64 left] w fun e w' => (∃ v : Int, e = .returned (.int .i64 v) ∧ v ≤ left ∧ (0 ≤ v → v + (LL.wtHe u) ≤ left)) ∧ Below w.heap.size w w' := by
  have hs' : (u.name.size : Int) ≤ 9223372036854775807 := by omega
  go_enter Try.func109, Try.ntmps109
  by_cases hl : left - u.name.size < 0
  · go_wp2_with fail
    go_ret
    exact ⟨⟨_, rfl, by omega, (fun h9 => by unfold LL.wtHe; omega)⟩, (by repeat' (first | with_reducible exact Below.refl _ _ | with_reducible assumption | with_reducible refine b_alloc ?_ _ | with_reducible refine b_drewN ?_ _ | with_reducible refine b_drew ?_ | with_reducible refine b_set ?_ (by first | (simp only [World.size_setCell, World.size_alloc, World.size_drew]; omega) | (simp; done) | (simp; omega)) _ | with_reducible refine b_step ?_ (by with_reducible assumption)))⟩
  · have q0 : left - u.name.size ≤ left := by omega
    go_wp2_with fail
    refine calls_name (fun W => Below w.heap.size w W ∧ Blk W w.heap.size #[.string u.name, .int .i64 u.number, .int .i64 u.p.q, .int .i64 u.p.s, .slice u.A u.p.steps.length u.c, .int .i64 u.p.fr, .int .i64 u.p.by_, .int .i64 u.sent, .int .i64 u.n.q, .int .i64 u.n.s, .slice u.B u.n.steps.length u.d, .int .i64 u.n.fr, .int .i64 u.n.by_] 138) ⟨(by repeat' (first | with_reducible exact Below.refl _ _ | with_reducible assumption | with_reducible refine b_alloc ?_ _ | with_reducible refine b_drewN ?_ _ | with_reducible refine b_drew ?_ | with_reducible refine b_set ?_ (by first | (simp only [World.size_setCell, World.size_alloc, World.size_drew]; omega) | (simp; done) | (simp; omega)) _ | with_reducible refine b_step ?_ (by with_reducible assumption))), (by repeat' (first | with_reducible assumption | with_reducible exact Blk.new _ _ _ | with_reducible exact Blk.new' _ _ (by first | (simp only [World.size_alloc, World.size_setCell, World.size_drew]; done) | (simp only [World.size_alloc, World.size_setCell, World.size_drew]; omega) | omega) | with_reducible refine Blk.a ?_ _ | with_reducible refine Blk.d ?_ | with_reducible refine Blk.dN ?_ _ | with_reducible refine Blk.s ?_ (by simp only [ne_eq]; omega) _ | with_reducible refine Blk.b ?_ (by with_reducible assumption)))⟩ ?_
    rintro W1 ⟨hb, kP⟩
    refine (szFlyPath_c _ _ _ _ _ _ _ _ _ (by omega) (by omega) hp).mono ?_
    rintro e W2 ⟨rfl, hB⟩
    replace hb := b_step hb hB; replace kP := kP.b hB; clear hB
    have q1 := LL.sz_le (left := left - u.name.size) (by omega) u.p.steps.length
    have r1 := LL.sz_sum (left - u.name.size) u.p.steps.length
    generalize LL.sz (left - u.name.size) u.p.steps.length = v1 at *
    by_cases hv : v1 < 0
    · go_wp2_with fail
      go_ret
      exact ⟨⟨_, rfl, by omega, (fun h9 => by unfold LL.wtHe; omega)⟩, (by repeat' (first | with_reducible exact Below.refl _ _ | with_reducible assumption | with_reducible refine b_alloc ?_ _ | with_reducible refine b_drewN ?_ _ | with_reducible refine b_drew ?_ | with_reducible refine b_set ?_ (by first | (simp only [World.size_setCell, World.size_alloc, World.size_drew]; omega) | (simp; done) | (simp; omega)) _ | with_reducible refine b_step ?_ (by with_reducible assumption)))⟩
    · obtain ⟨ekP, fkP, lkP⟩ := kP.cells
      go_wp2_with fail
      refine calls_name (fun W => Below W2.heap.size W2 W) (by repeat' (first | with_reducible exact Below.refl _ _ | with_reducible assumption | with_reducible refine b_alloc ?_ _ | with_reducible refine b_drewN ?_ _ | with_reducible refine b_drew ?_ | with_reducible refine b_set ?_ (by first | (simp only [World.size_setCell, World.size_alloc, World.size_drew]; omega) | (simp; done) | (simp; omega)) _ | with_reducible refine b_step ?_ (by with_reducible assumption))) ?_; intro W3 hE; clear ekP fkP lkP; replace hb := b_step hb hE; replace kP := kP.b hE; clear hE
      refine (szFlyPath_c _ _ _ _ _ _ _ _ _ (by omega) (by omega) hn).mono ?_
      rintro e W4 ⟨rfl, hB⟩
      replace hb := b_step hb hB
      have q2 := LL.sz_le (left := v1) (by omega) u.n.steps.length
      have r2 := LL.sz_sum v1 u.n.steps.length
      generalize LL.sz v1 u.n.steps.length = v2 at *
      by_cases hv2 : v2 < 0
      · go_wp2_with fail
        go_ret
        exact ⟨⟨_, rfl, by omega, (fun h9 => by unfold LL.wtHe; omega)⟩, (by repeat' (first | with_reducible exact Below.refl _ _ | with_reducible assumption | with_reducible refine b_alloc ?_ _ | with_reducible refine b_drewN ?_ _ | with_reducible refine b_drew ?_ | with_reducible refine b_set ?_ (by first | (simp only [World.size_setCell, World.size_alloc, World.size_drew]; omega) | (simp; done) | (simp; omega)) _ | with_reducible refine b_step ?_ (by with_reducible assumption)))⟩
      · go_wp2_with fail
        go_ret
        exact ⟨⟨_, rfl, by omega, (fun h9 => by unfold LL.wtHe; omega)⟩, (by repeat' (first | with_reducible exact Below.refl _ _ | with_reducible assumption | with_reducible refine b_alloc ?_ _ | with_reducible refine b_drewN ?_ _ | with_reducible refine b_drew ?_ | with_reducible refine b_set ?_ (by first | (simp only [World.size_setCell, World.size_alloc, World.size_drew]; omega) | (simp; done) | (simp; omega)) _ | with_reducible refine b_step ?_ (by with_reducible assumption)))⟩
set_option maxRecDepth 100000 in
set_option maxHeartbeats 2000000 in
theorem szHeS_c (us : List LL.He) (left : Int) (A : Option Addr) (c : Nat) (w : World) (h0 : 0 ≤ left) (h1 : left ≤ 1048576) (h : RdHS w A us.length c us) (hz : ∀ k, k < us.length → (LL.nthH us k).name.size ≤ 9223372036854775807) : Calls Try.prog 54 #[.slice A us.length c, .int .i64 left] w fun e w' => (∃ v : Int, e = .returned (.int .i64 v) ∧ v ≤ 1048576 ∧ (0 ≤ v → v + (us.length + LL.wtHeS us us.length) ≤ left)) ∧ Below w.heap.size w w' := by
  have hroom := h.row.room
  by_cases hs : left - (us.length : Int) < 0
  · go_enter Try.func54, Try.ntmps54
    go_wp2_with fail
    go_ret
    exact ⟨⟨_, rfl, by decide, fun h9 => absurd h9 (by decide)⟩, (by repeat' (first | with_reducible exact Below.refl _ _ | with_reducible assumption | with_reducible refine b_alloc ?_ _ | with_reducible refine b_drewN ?_ _ | with_reducible refine b_drew ?_ | with_reducible refine b_set ?_ (by first | (simp only [World.size_setCell, World.size_alloc, World.size_drew]; omega) | (simp; done) | (simp; omega)) _ | with_reducible refine b_step ?_ (by with_reducible assumption)))⟩
  · go_enter Try.func54, Try.ntmps54
    go_wp2_with fail
    go_loopw [1, 5] (fun l i wr => ∃ (k : Nat) (v : Int), k ≤ us.length ∧ l = .int .i64 v ∧ 0 ≤ v ∧ v ≤ 1048576 ∧ v + (us.length + LL.wtHeS us k) ≤ left ∧ i = .int .i64 k ∧ Below w.heap.size w wr) (fun _ i _ => us.length - (intOf i).toNat)
    case atStart => exact ⟨0, left - (us.length : Int), Nat.zero_le _, by go_num, by omega, by omega, by simp only [LL.wtHeS]; omega, rfl, Below.refl _ _⟩
    case round =>
      obtain ⟨k, v, hk, rfl, v0, v1, vw, rfl, hb⟩ := hrel
      obtain ⟨gc, gf, gl⟩ := bcell hb
      by_cases hlt : k < us.length
      · obtain ⟨b, off, rfl, hbw⟩ := h.row.addr (by omega)
        obtain ⟨c0, c1, c2, c3, c4, c5, c6, c7, c8, c9, c10, c11, c12⟩ := h.S13 k hlt
        have r1 := (h.el k hlt).p.room
        have r2 := (h.el k hlt).n.room
        have r3 := hz k hlt
        go_wp2_with fail
        refine (szHe_c (LL.nthH us k) v _ v0 v1 r3 (by omega) (by omega)).mono ?_
        rintro e W2 ⟨⟨v2, rfl, q1, q3⟩, hB⟩
        by_cases hn : v2 < 0
        · go_wp2_with fail
          go_ret
          exact ⟨⟨_, rfl, by decide, fun h9 => absurd h9 (by decide)⟩, b_step hb hB⟩
        · go_wp2_with fail
          go_roundw
          case rel => exact ⟨k + 1, v2, by omega, rfl, by omega, by omega, by have := q3 (by omega); simp only [LL.wtHeS]; omega, by go_num, b_step hb hB⟩
          case measure => simp [intOf]; omega
      · obtain rfl : k = us.length := by omega
        go_wp2_with fail
        go_ret
        exact ⟨⟨_, rfl, v1, fun _ => vw⟩, hb⟩
set_option maxRecDepth 100000 in
theorem szBook_c (last : Int) (us : List LL.He) (left : Int) (A : Option Addr) (c : Nat) (w : World) (h0 : 0 ≤ left) (h1 : left ≤ 1048576) (h : RdHS w A us.length c us) (hz : ∀ k, k < us.length → (LL.nthH us k).name.size ≤ 9223372036854775807) : Calls Try.prog 16 #[.agg #[.int .i64 last, .slice A us.length c], .int .i64 left] w fun e w' => (∃ v : Int, e = .returned (.int .i64 v) ∧ v ≤ 1048576 ∧ (0 ≤ v → v + (us.length + LL.wtHeS us us.length) ≤ left)) ∧ Below w.heap.size w w' := by
  go_enter Try.func16, Try.ntmps16
  go_wp2_with fail
  refine calls_name (fun W => Below w.heap.size w W) (by repeat' (first | with_reducible exact Below.refl _ _ | with_reducible assumption | with_reducible refine b_alloc ?_ _ | with_reducible refine b_drewN ?_ _ | with_reducible refine b_drew ?_ | with_reducible refine b_set ?_ (by first | (simp only [World.size_setCell, World.size_alloc, World.size_drew]; omega) | (simp; done) | (simp; omega)) _ | with_reducible refine b_step ?_ (by with_reducible assumption))) ?_
  intro W1 hb
  refine (szHeS_c us left A c _ h0 h1 (h.mono hb) hz).mono ?_
  rintro e W2 ⟨⟨v, rfl, hv, hw⟩, hB⟩
  replace hb := b_step hb hB
  clear hB
  by_cases hn : v < 0
  · go_wp2_with fail
    go_ret
    exact ⟨⟨_, rfl, by omega, fun h9 => absurd h9 (by decide)⟩, (by repeat' (first | with_reducible exact Below.refl _ _ | with_reducible assumption | with_reducible refine b_alloc ?_ _ | with_reducible refine b_drewN ?_ _ | with_reducible refine b_drew ?_ | with_reducible refine b_set ?_ (by first | (simp only [World.size_setCell, World.size_alloc, World.size_drew]; omega) | (simp; done) | (simp; omega)) _ | with_reducible refine b_step ?_ (by with_reducible assumption)))⟩
  · go_wp2_with fail
    go_ret
    exact ⟨⟨_, rfl, by omega, hw⟩, (by repeat' (first | with_reducible exact Below.refl _ _ | with_reducible assumption | with_reducible refine b_alloc ?_ _ | with_reducible refine b_drewN ?_ _ | with_reducible refine b_drew ?_ | with_reducible refine b_set ?_ (by first | (simp only [World.size_setCell, World.size_alloc, World.size_drew]; omega) | (simp; done) | (simp; omega)) _ | with_reducible refine b_step ?_ (by with_reducible assumption)))⟩
end Go.Proofs.Ytkpnjnkfbhomgaa
