/- Books: measured, and opened. -/
import Derived.Test.YtkpnjnkfbhomgaaJD
import Derived.Test.YtkpnjnkfbhomgaaJE

set_option linter.unusedVariables false
set_option linter.unusedSimpArgs false
namespace Go.Proofs.Ytkpnjnkfbhomgaa
open Go.RowKit
attribute [local go_sem] w_lt_add w_le_of w_le_add max2_i min2_i
theorem LL.sz_le' {left : Int} (h : 0 ≤ left) (n : Nat) : LL.sz left n ≤ left := LL.sz_le h n
set_option maxRecDepth 100000 in
set_option maxHeartbeats 2000000 in
theorem szLinkHeld_c (u : LL.He) (left : Int) (w : World) (h0 : 0 ≤ left) (h1 : left ≤ 1048576) (hs : u.name.size ≤ 9223372036854775807) (hp : u.p.steps.length ≤ 140737488355328) (hn : u.n.steps.length ≤ 140737488355328) : Calls Try.prog 109 #[.agg #[.string u.name, .int .i64 u.number, .int .i64 u.p.q, .int .i64 u.p.s, .slice u.A u.p.steps.length u.c, .int .i64 u.p.fr, .int .i64 u.p.by_, .int .i64 u.sent, .int .i64 u.n.q, .int .i64 u.n.s, .slice u.B u.n.steps.length u.d, .int .i64 u.n.fr, .int .i64 u.n.by_], .int .i64 left] w fun e w' => (∃ v : Int, e = .returned (.int .i64 v) ∧ v ≤ left) ∧ Below w.heap.size w w' := by
  have hs' : (u.name.size : Int) ≤ 9223372036854775807 := by omega
  go_enter Try.func109, Try.ntmps109
  by_cases hl : left - u.name.size < 0
  · go_wp2_with fail
    go_ret
    exact ⟨⟨_, rfl, by omega⟩, (by repeat' (first | with_reducible exact Below.refl _ _ | with_reducible assumption | with_reducible refine b_alloc ?_ _ | with_reducible refine b_drewN ?_ _ | with_reducible refine b_drew ?_ | with_reducible refine b_set ?_ (by first | (simp only [World.size_setCell, World.size_alloc, World.size_drew]; omega) | (simp; done) | (simp; omega)) _ | with_reducible refine b_step ?_ (by with_reducible assumption)))⟩
  · have q0 : left - u.name.size ≤ left := by omega
    go_wp2_with fail
    refine calls_name (fun W => Below w.heap.size w W ∧ Blk W w.heap.size #[.string u.name, .int .i64 u.number, .int .i64 u.p.q, .int .i64 u.p.s, .slice u.A u.p.steps.length u.c, .int .i64 u.p.fr, .int .i64 u.p.by_, .int .i64 u.sent, .int .i64 u.n.q, .int .i64 u.n.s, .slice u.B u.n.steps.length u.d, .int .i64 u.n.fr, .int .i64 u.n.by_] 138) ⟨(by repeat' (first | with_reducible exact Below.refl _ _ | with_reducible assumption | with_reducible refine b_alloc ?_ _ | with_reducible refine b_drewN ?_ _ | with_reducible refine b_drew ?_ | with_reducible refine b_set ?_ (by first | (simp only [World.size_setCell, World.size_alloc, World.size_drew]; omega) | (simp; done) | (simp; omega)) _ | with_reducible refine b_step ?_ (by with_reducible assumption))), (by repeat' (first | with_reducible assumption | with_reducible exact Blk.new _ _ _ | with_reducible exact Blk.new' _ _ (by first | (simp only [World.size_alloc, World.size_setCell, World.size_drew]; done) | (simp only [World.size_alloc, World.size_setCell, World.size_drew]; omega) | omega) | with_reducible refine Blk.a ?_ _ | with_reducible refine Blk.d ?_ | with_reducible refine Blk.dN ?_ _ | with_reducible refine Blk.s ?_ (by simp only [ne_eq]; omega) _ | with_reducible refine Blk.b ?_ (by with_reducible assumption)))⟩ ?_
    rintro W1 ⟨hb, kP⟩
    refine (szFlyPath_c _ _ _ _ _ _ _ _ _ (by omega) (by omega) hp).mono ?_
    rintro e W2 ⟨rfl, hB⟩
    replace hb := b_step hb hB; replace kP := kP.b hB; clear hB
    have q1 := LL.sz_le (left := left - u.name.size) (by omega) u.p.steps.length
    generalize LL.sz (left - u.name.size) u.p.steps.length = v1 at *
    by_cases hv : v1 < 0
    · go_wp2_with fail
      go_ret
      exact ⟨⟨_, rfl, by omega⟩, (by repeat' (first | with_reducible exact Below.refl _ _ | with_reducible assumption | with_reducible refine b_alloc ?_ _ | with_reducible refine b_drewN ?_ _ | with_reducible refine b_drew ?_ | with_reducible refine b_set ?_ (by first | (simp only [World.size_setCell, World.size_alloc, World.size_drew]; omega) | (simp; done) | (simp; omega)) _ | with_reducible refine b_step ?_ (by with_reducible assumption)))⟩
    · obtain ⟨ekP, fkP, lkP⟩ := kP.cells
      go_wp2_with fail
      refine calls_name (fun W => Below W2.heap.size W2 W) (by repeat' (first | with_reducible exact Below.refl _ _ | with_reducible assumption | with_reducible refine b_alloc ?_ _ | with_reducible refine b_drewN ?_ _ | with_reducible refine b_drew ?_ | with_reducible refine b_set ?_ (by first | (simp only [World.size_setCell, World.size_alloc, World.size_drew]; omega) | (simp; done) | (simp; omega)) _ | with_reducible refine b_step ?_ (by with_reducible assumption))) ?_; intro W3 hE; clear ekP fkP lkP; replace hb := b_step hb hE; replace kP := kP.b hE; clear hE
      refine (szFlyPath_c _ _ _ _ _ _ _ _ _ (by omega) (by omega) hn).mono ?_
      rintro e W4 ⟨rfl, hB⟩
      replace hb := b_step hb hB
      have q2 := LL.sz_le (left := v1) (by omega) u.n.steps.length
      generalize LL.sz v1 u.n.steps.length = v2 at *
      by_cases hv2 : v2 < 0
      · go_wp2_with fail
        go_ret
        exact ⟨⟨_, rfl, by omega⟩, (by repeat' (first | with_reducible exact Below.refl _ _ | with_reducible assumption | with_reducible refine b_alloc ?_ _ | with_reducible refine b_drewN ?_ _ | with_reducible refine b_drew ?_ | with_reducible refine b_set ?_ (by first | (simp only [World.size_setCell, World.size_alloc, World.size_drew]; omega) | (simp; done) | (simp; omega)) _ | with_reducible refine b_step ?_ (by with_reducible assumption)))⟩
      · go_wp2_with fail
        go_ret
        exact ⟨⟨_, rfl, by omega⟩, (by repeat' (first | with_reducible exact Below.refl _ _ | with_reducible assumption | with_reducible refine b_alloc ?_ _ | with_reducible refine b_drewN ?_ _ | with_reducible refine b_drew ?_ | with_reducible refine b_set ?_ (by first | (simp only [World.size_setCell, World.size_alloc, World.size_drew]; omega) | (simp; done) | (simp; omega)) _ | with_reducible refine b_step ?_ (by with_reducible assumption)))⟩
set_option maxRecDepth 100000 in
set_option maxHeartbeats 2000000 in
theorem szLinkHeldS_c (us : List LL.He) (left : Int) (A : Option Addr) (c : Nat) (w : World) (h0 : 0 ≤ left) (h1 : left ≤ 1048576) (h : RdHS w A us.length c us) (hz : ∀ k, k < us.length → (LL.nthH us k).name.size ≤ 9223372036854775807) : Calls Try.prog 54 #[.slice A us.length c, .int .i64 left] w fun e w' => (∃ v : Int, e = .returned (.int .i64 v) ∧ v ≤ 1048576) ∧ Below w.heap.size w w' := by
  have hroom := h.row.room
  by_cases hs : left - (us.length : Int) < 0
  · go_enter Try.func54, Try.ntmps54
    go_wp2_with fail
    go_ret
    exact ⟨⟨_, rfl, by decide⟩, (by repeat' (first | with_reducible exact Below.refl _ _ | with_reducible assumption | with_reducible refine b_alloc ?_ _ | with_reducible refine b_drewN ?_ _ | with_reducible refine b_drew ?_ | with_reducible refine b_set ?_ (by first | (simp only [World.size_setCell, World.size_alloc, World.size_drew]; omega) | (simp; done) | (simp; omega)) _ | with_reducible refine b_step ?_ (by with_reducible assumption)))⟩
  · go_enter Try.func54, Try.ntmps54
    go_wp2_with fail
    go_loopw [1, 5] (fun l i wr => ∃ (k : Nat) (v : Int), k ≤ us.length ∧ l = .int .i64 v ∧ 0 ≤ v ∧ v ≤ 1048576 ∧ i = .int .i64 k ∧ Below w.heap.size w wr) (fun _ i _ => us.length - (intOf i).toNat)
    case atStart => exact ⟨0, left - (us.length : Int), Nat.zero_le _, by go_num, by omega, by omega, rfl, Below.refl _ _⟩
    case round =>
      obtain ⟨k, v, hk, rfl, v0, v1, rfl, hb⟩ := hrel
      obtain ⟨gc, gf, gl⟩ := bcell hb
      by_cases hlt : k < us.length
      · obtain ⟨b, off, rfl, hbw⟩ := h.row.addr (by omega)
        obtain ⟨c0, c1, c2, c3, c4, c5, c6, c7, c8, c9, c10, c11, c12⟩ := h.S13 k hlt
        have r1 := (h.el k hlt).p.room
        have r2 := (h.el k hlt).n.room
        have r3 := hz k hlt
        go_wp2_with fail
        refine (szLinkHeld_c (LL.nthH us k) v _ v0 v1 r3 (by omega) (by omega)).mono ?_
        rintro e W2 ⟨⟨v2, rfl, q1⟩, hB⟩
        by_cases hn : v2 < 0
        · go_wp2_with fail
          go_ret
          exact ⟨⟨_, rfl, by decide⟩, b_step hb hB⟩
        · go_wp2_with fail
          go_roundw
          case rel => exact ⟨k + 1, v2, by omega, rfl, by omega, by omega, by go_num, b_step hb hB⟩
          case measure => simp [intOf]; omega
      · obtain rfl : k = us.length := by omega
        go_wp2_with fail
        go_ret
        exact ⟨⟨_, rfl, v1⟩, hb⟩
end Go.Proofs.Ytkpnjnkfbhomgaa

/- Marks: the text of a mark. -/
set_option linter.unusedVariables false
set_option linter.unusedSimpArgs false
namespace Go.Proofs.Ytkpnjnkfbhomgaa
open Go.RowKit
attribute [local go_sem] w_lt_add w_le_of w_le_add max2_i min2_i
namespace LL
def dig (n : Nat) : ByteArray := List.foldl (fun r (n : Int) => r.push (UInt8.ofNat n.toNat)) ByteArray.empty [48 + (n : Int) % 10]
theorem dig_size (n : Nat) : (dig n).size = 1 := rfl
/-- the digits of n ahead of a text -/
def tx (n : Nat) (out : ByteArray) : ByteArray := if h : n = 0 then out else tx (n / 10) (dig n ++ out)
termination_by n
decreasing_by omega
theorem tx_zero (out : ByteArray) : tx 0 out = out := by rw [tx]; simp
theorem tx_pos {n : Nat} (h : 0 < n) (out : ByteArray) : tx n out = tx (n / 10) (dig n ++ out) := by rw [tx]; simp [show n ≠ 0 by omega]
/-- the text of a mark -/
def txt (k : Int) : ByteArray := if k ≤ 0 then ⟨#[109, 48]⟩ else ⟨#[109]⟩ ++ tx k.toNat ⟨#[]⟩
end LL
set_option maxRecDepth 100000 in
set_option maxHeartbeats 1000000 in
theorem markText_c (k : Int) (h0 : 0 ≤ k) (h1 : k ≤ 9007199254740992) (w : World) : Calls Try.prog 115 #[.int .i64 k] w fun e w' => e = .returned (.string (LL.txt k)) ∧ Below w.heap.size w w' := by
  go_enter Try.func115, Try.ntmps115
  by_cases hk : k ≤ 0
  · have ht : LL.txt k = ⟨#[109, 48]⟩ := if_pos hk
    have Ht := Lib.hid ht
    clear ht
    go_wp2_with fail
    go_ret
    exact ⟨by rw [Ht.out]; rfl, (by repeat' (first | with_reducible exact Below.refl _ _ | with_reducible assumption | with_reducible refine b_alloc ?_ _ | with_reducible refine b_drewN ?_ _ | with_reducible refine b_drew ?_ | with_reducible refine b_set ?_ (by first | (simp only [World.size_setCell, World.size_alloc, World.size_drew]; omega) | (simp; done) | (simp; omega)) _ | with_reducible refine b_step ?_ (by with_reducible assumption)))⟩
  · have ht : LL.txt k = ⟨#[109]⟩ ++ LL.tx k.toNat ⟨#[]⟩ := if_neg hk
    have Ht := Lib.hid ht
    clear ht
    go_wp2_with fail
    go_loopw [0, 3] (fun kv s wr => ∃ (n : Nat) (out : ByteArray), kv = .int .i64 n ∧ s = .string out ∧ n + out.size ≤ 9007199254740992 ∧ LL.Same (LL.tx k.toNat ⟨#[]⟩) (LL.tx n out) ∧ Below w.heap.size w wr) (fun kv _ _ => (intOf kv).toNat)
    case atStart => exact ⟨k.toNat, ⟨#[]⟩, by simp; omega, rfl, by show k.toNat + 0 ≤ _; omega, (rfl : _ = _), (by repeat' (first | with_reducible exact Below.refl _ _ | with_reducible assumption | with_reducible refine b_alloc ?_ _ | with_reducible refine b_drewN ?_ _ | with_reducible refine b_drew ?_ | with_reducible refine b_set ?_ (by first | (simp only [World.size_setCell, World.size_alloc, World.size_drew]; omega) | (simp; done) | (simp; omega)) _ | with_reducible refine b_step ?_ (by with_reducible assumption)))⟩
    case round =>
      obtain ⟨n, out, rfl, rfl, hn, hs, hb⟩ := hrel
      by_cases hp : 0 < n
      · go_wp2_with fail
        rw [run_convert_bytes_string _ _ _ 5 _ _ _ Try.underlying170 Try.underlying5 Try.underlying9, run_bytesToString _ ⟨wr.heap.size, 0, none⟩ 1 1 [(48 + (n : Int) % 10)] (by go_simp)]
        rw [show List.foldl (fun r (n : Int) => r.push (UInt8.ofNat n.toNat)) ByteArray.empty [48 + (n : Int) % 10] = LL.dig n from rfl]
        have hsz := LL.dig_size n
        have hst := hs.trans (LL.tx_pos hp out)
        generalize LL.dig n = dg at *
        go_wp2_with fail
        go_roundw
        case rel => exact ⟨n / 10, dg ++ out, by go_num, rfl, by rw [ByteArray.size_append]; omega, hst, (by repeat' (first | with_reducible exact Below.refl _ _ | with_reducible assumption | with_reducible refine b_alloc ?_ _ | with_reducible refine b_drewN ?_ _ | with_reducible refine b_drew ?_ | with_reducible refine b_set ?_ (by first | (simp only [World.size_setCell, World.size_alloc, World.size_drew]; omega) | (simp; done) | (simp; omega)) _ | with_reducible refine b_step ?_ (by with_reducible assumption)))⟩
        case measure => simp [intOf]; omega
      · obtain rfl : n = 0 := by omega
        have he := hs.out.trans (LL.tx_zero out)
        have He := Lib.hid he
        clear he
        go_wp2_with fail
        go_ret
        exact ⟨by rw [Ht.out, He.out]; rfl, (by repeat' (first | with_reducible exact Below.refl _ _ | with_reducible assumption | with_reducible refine b_alloc ?_ _ | with_reducible refine b_drewN ?_ _ | with_reducible refine b_drew ?_ | with_reducible refine b_set ?_ (by first | (simp only [World.size_setCell, World.size_alloc, World.size_drew]; omega) | (simp; done) | (simp; omega)) _ | with_reducible refine b_step ?_ (by with_reducible assumption)))⟩
set_option maxRecDepth 100000 in
theorem szLinkBook_c (last : Int) (us : List LL.He) (left : Int) (A : Option Addr) (c : Nat) (w : World) (h0 : 0 ≤ left) (h1 : left ≤ 1048576) (h : RdHS w A us.length c us) (hz : ∀ k, k < us.length → (LL.nthH us k).name.size ≤ 9223372036854775807) : Calls Try.prog 16 #[.agg #[.int .i64 last, .slice A us.length c], .int .i64 left] w fun e w' => (∃ v : Int, e = .returned (.int .i64 v) ∧ v ≤ 1048576) ∧ Below w.heap.size w w' := by
  go_enter Try.func16, Try.ntmps16
  go_wp2_with fail
  refine calls_name (fun W => Below w.heap.size w W) (by repeat' (first | with_reducible exact Below.refl _ _ | with_reducible assumption | with_reducible refine b_alloc ?_ _ | with_reducible refine b_drewN ?_ _ | with_reducible refine b_drew ?_ | with_reducible refine b_set ?_ (by first | (simp only [World.size_setCell, World.size_alloc, World.size_drew]; omega) | (simp; done) | (simp; omega)) _ | with_reducible refine b_step ?_ (by with_reducible assumption))) ?_
  intro W1 hb
  refine (szLinkHeldS_c us left A c _ h0 h1 (h.mono hb) hz).mono ?_
  rintro e W2 ⟨⟨v, rfl, hv⟩, hB⟩
  replace hb := b_step hb hB
  clear hB
  by_cases hn : v < 0
  · go_wp2_with fail
    go_ret
    exact ⟨⟨_, rfl, by omega⟩, (by repeat' (first | with_reducible exact Below.refl _ _ | with_reducible assumption | with_reducible refine b_alloc ?_ _ | with_reducible refine b_drewN ?_ _ | with_reducible refine b_drew ?_ | with_reducible refine b_set ?_ (by first | (simp only [World.size_setCell, World.size_alloc, World.size_drew]; omega) | (simp; done) | (simp; omega)) _ | with_reducible refine b_step ?_ (by with_reducible assumption)))⟩
  · go_wp2_with fail
    go_ret
    exact ⟨⟨_, rfl, by omega⟩, (by repeat' (first | with_reducible exact Below.refl _ _ | with_reducible assumption | with_reducible refine b_alloc ?_ _ | with_reducible refine b_drewN ?_ _ | with_reducible refine b_drew ?_ | with_reducible refine b_set ?_ (by first | (simp only [World.size_setCell, World.size_alloc, World.size_drew]; omega) | (simp; done) | (simp; omega)) _ | with_reducible refine b_step ?_ (by with_reducible assumption)))⟩
end Go.Proofs.Ytkpnjnkfbhomgaa
