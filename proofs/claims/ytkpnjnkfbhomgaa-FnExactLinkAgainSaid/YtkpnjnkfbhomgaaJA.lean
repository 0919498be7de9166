/- Tubes: names and boxes, of the program and of the reference. -/
import Derived.Test.YtkpnjnkfbhomgaaJ3
import Derived.Test.YtkpnjnkfbhomgaaJ5
import Derived.Test.YtkpnjnkfbhomgaaJ6
import Derived.Test.YtkpnjnkfbhomgaaJ7

set_option linter.unusedVariables false
set_option linter.unusedSimpArgs false
namespace Go.Proofs.Ytkpnjnkfbhomgaa
open Go.RowKit
attribute [local go_sem] w_lt_add w_le_of w_le_add max2_i min2_i
namespace LL
/-- a byte that may stand in a name -/
def CharOk (c : Int) : Prop := 97 ≤ c ∧ c ≤ 122 ∨ 48 ≤ c ∧ c ≤ 57 ∨ c = 45
instance (c : Int) : Decidable (CharOk c) := inferInstanceAs (Decidable (_ ∨ _))
def chr (s : ByteArray) (k : Nat) : Int := if h : k < s.size then (s[k].toNat : Int) else 0
theorem chr_at {s : ByteArray} {k : Nat} (h : k < s.size) : chr s k = (s[k].toNat : Int) := dif_pos h
def AllChr (s : ByteArray) (k : Nat) : Prop := ∀ j, j < k → CharOk (chr s j)
instance (s : ByteArray) (k : Nat) : Decidable (AllChr s k) := inferInstanceAs (Decidable (∀ j, j < k → _))
theorem AllChr.zero (s : ByteArray) : AllChr s 0 := fun _ h => absurd h (Nat.not_lt_zero _)
theorem AllChr.succ {s : ByteArray} {k : Nat} (h : AllChr s k) (hk : CharOk (chr s k)) : AllChr s (k + 1) := fun j hj => by
  rcases Nat.lt_succ_iff_lt_or_eq.1 hj with h1 | rfl
  · exact h j h1
  · exact hk
def NameOk (s : ByteArray) : Prop := In (s.size : Int) 1 8 ∧ AllChr s s.size
instance (s : ByteArray) : Decidable (NameOk s) := inferInstanceAs (Decidable (_ ∧ _))
theorem NameOk.bad {s : ByteArray} {k : Nat} (hk : k < s.size) (h : ¬ CharOk (chr s k)) : ¬ NameOk s := fun h2 => h (h2.2 k hk)
def BoxesOk (l : List Box) : Prop := l.length ≤ 40 ∧ ∀ b ∈ l, BoxOk b
instance (l : List Box) : Decidable (BoxesOk l) := inferInstanceAs (Decidable (_ ∧ _))
def TubeOk (s : ByteArray) (l : List Box) : Prop := NameOk s ∧ BoxesOk l
instance (s : ByteArray) (l : List Box) : Decidable (TubeOk s l) := inferInstanceAs (Decidable (_ ∧ _))
theorem BoxesOk.bad {l : List Box} {k : Nat} (hk : k < l.length) (h : ¬ BoxOk (nthB l k)) : ¬ BoxesOk l := fun h2 => h (h2.2 _ (nthB_mem hk))
end LL
set_option maxHeartbeats 2000000 in
theorem spec_l12NameOk_c (s : ByteArray) (hs : s.size ≤ 9223372036854775807) (w : World) : Calls Try.prog 104 #[.string s] w fun e w' => e = .returned (.bool (decide (LL.NameOk s))) ∧ w = w' := by
  by_cases H1 : LL.In (↑s.size) 1 8
  · have h10 := H1.1
    have h11 := H1.2
    go_enter Try.func104, Try.ntmps104
    go_wp2_with (go_at_call 129; refine (spec_l11In_c _ _ _ _).mono ?_; rintro e w' ⟨rfl, rfl⟩)
    go_loop [3] (fun i => ∃ k : Nat, k ≤ s.size ∧ i = .int .i64 k ∧ LL.AllChr s k) (fun i => s.size - (intOf i).toNat)
    case atStart => exact ⟨0, Nat.zero_le _, rfl, LL.AllChr.zero _⟩
    case round =>
      obtain ⟨k, hk, rfl, hg⟩ := hrel
      by_cases hlt : k < s.size
      · have hc := LL.chr_at hlt
        have Hc := Lib.hid hc
        clear hc
        go_wp2
        all_goals first
          | (go_ret; refine ⟨rd_ (iff_of_false (LL.NameOk.bad hlt (fun h9 => ?_)) (by simp)), rfl⟩; rw [Hc.out] at h9; simp only [LL.CharOk] at h9; (try simp at *); omega)
          | (go_round; (case rel => refine ⟨k + 1, by omega, by go_num, hg.succ ?_⟩; rw [Hc.out]; simp only [LL.CharOk]; (try simp at *); omega); (case measure => simp [intOf]; omega))
      · obtain rfl : k = s.size := by omega
        go_wp2
        go_ret
        exact ⟨rd_ (iff_of_true ⟨H1, hg⟩ rfl), rfl⟩
  · go_enter Try.func104, Try.ntmps104
    go_wp2_with (go_at_call 129; refine (spec_l11In_c _ _ _ _).mono ?_; rintro e w' ⟨rfl, rfl⟩)
    go_ret
    exact ⟨rd_ (iff_of_false (fun h9 => H1 h9.1) (by simp)), rfl⟩
set_option maxHeartbeats 2000000 in
theorem spec_ProbeTubeOk_c (s : ByteArray) (xs : List LL.Box) (A : Option Addr) (c : Nat) (hs : s.size ≤ 9223372036854775807) (w : World) (h : RdB w A xs.length c xs) : Calls Try.prog 50 #[.agg #[.string s, .slice A xs.length c]] w fun e w' => e = .returned (.bool (decide (LL.TubeOk s xs))) ∧ Below w.heap.size w w' := by
  have hroom := h.room
  by_cases hN : LL.NameOk s
  · by_cases hl40 : xs.length ≤ 40
    · go_enter Try.func50, Try.ntmps50
      go_wp2_with (go_at_call 104; refine (spec_l12NameOk_c _ hs _).mono ?_; rintro e w' ⟨rfl, rfl⟩)
      go_loopw [3] (fun i wr => ∃ k : Nat, k ≤ xs.length ∧ i = .int .i64 k ∧ LL.All_ LL.BoxOk xs k ∧ Blk wr w.heap.size #[.string s, .slice A xs.length c] 91 ∧ Below w.heap.size w wr) (fun i _ => xs.length - (intOf i).toNat)
      case atStart => exact ⟨0, Nat.zero_le _, rfl, LL.All_.zero _ _, (by repeat' (first | with_reducible assumption | with_reducible exact Blk.new _ _ _ | with_reducible exact Blk.new' _ _ (by first | (simp only [World.size_alloc, World.size_setCell, World.size_drew]; done) | (simp only [World.size_alloc, World.size_setCell, World.size_drew]; omega) | omega) | with_reducible refine Blk.a ?_ _ | with_reducible refine Blk.d ?_ | with_reducible refine Blk.dN ?_ _ | with_reducible refine Blk.s ?_ (by simp only [ne_eq]; omega) _ | with_reducible refine Blk.b ?_ (by with_reducible assumption))), (by repeat' (first | with_reducible exact Below.refl _ _ | with_reducible assumption | with_reducible refine b_alloc ?_ _ | with_reducible refine b_drewN ?_ _ | with_reducible refine b_drew ?_ | with_reducible refine b_set ?_ (by first | (simp only [World.size_setCell, World.size_alloc, World.size_drew]; omega) | (simp; done) | (simp; omega)) _ | with_reducible refine b_step ?_ (by with_reducible assumption)))⟩
      case round =>
        obtain ⟨k, hk, rfl, hg, kT, hb⟩ := hrel
        obtain ⟨eT, fT, lT⟩ := kT.cells
        obtain ⟨gc, gf, gl⟩ := bcell hb
        by_cases hlt : k < xs.length
        · obtain ⟨b, off, rfl, hbw⟩ := h.addr (by omega)
          obtain ⟨c0, c1, c2, c3, c4, c5⟩ := h.S6 k hlt
          by_cases hB : LL.BoxOk (LL.nthB xs k)
          · go_wp2_with (go_at_call 105; go_loud (refine (spec_ProbeBoxOk_c _ _).mono ?_); rintro e w2 ⟨rfl, hb⟩; (repeat (with_reducible first | replace hb := b_un hb | replace hb := b_unN hb)); obtain ⟨hc, hf, hl⟩ := bcell hb; obtain ⟨gc, gf, gl⟩ := bcell (b_step (w := w) (by repeat' (first | with_reducible exact Below.refl _ _ | with_reducible assumption | with_reducible refine b_alloc ?_ _ | with_reducible refine b_drewN ?_ _ | with_reducible refine b_drew ?_ | with_reducible refine b_set ?_ (by first | (simp only [World.size_setCell, World.size_alloc, World.size_drew]; omega) | (simp; done) | (simp; omega)) _ | with_reducible refine b_step ?_ (by with_reducible assumption))) hb); have hz := hb.size; (try simp at hz); skip)
            go_roundw
            case rel => exact ⟨k + 1, by omega, by go_num, hg.succ hB, kT.b hb, (by repeat' (first | with_reducible exact Below.refl _ _ | with_reducible assumption | with_reducible refine b_alloc ?_ _ | with_reducible refine b_drewN ?_ _ | with_reducible refine b_drew ?_ | with_reducible refine b_set ?_ (by first | (simp only [World.size_setCell, World.size_alloc, World.size_drew]; omega) | (simp; done) | (simp; omega)) _ | with_reducible refine b_step ?_ (by with_reducible assumption)))⟩
            case measure => simp [intOf]; omega
          · go_wp2_with (go_at_call 105; go_loud (refine (spec_ProbeBoxOk_c _ _).mono ?_); rintro e w2 ⟨rfl, hb⟩; (repeat (with_reducible first | replace hb := b_un hb | replace hb := b_unN hb)); obtain ⟨hc, hf, hl⟩ := bcell hb; obtain ⟨gc, gf, gl⟩ := bcell (b_step (w := w) (by repeat' (first | with_reducible exact Below.refl _ _ | with_reducible assumption | with_reducible refine b_alloc ?_ _ | with_reducible refine b_drewN ?_ _ | with_reducible refine b_drew ?_ | with_reducible refine b_set ?_ (by first | (simp only [World.size_setCell, World.size_alloc, World.size_drew]; omega) | (simp; done) | (simp; omega)) _ | with_reducible refine b_step ?_ (by with_reducible assumption))) hb); have hz := hb.size; (try simp at hz); skip)
            go_ret
            exact ⟨rd_ (iff_of_false (fun h9 => LL.BoxesOk.bad hlt hB h9.2) (by simp)), (by repeat' (first | with_reducible exact Below.refl _ _ | with_reducible assumption | with_reducible refine b_alloc ?_ _ | with_reducible refine b_drewN ?_ _ | with_reducible refine b_drew ?_ | with_reducible refine b_set ?_ (by first | (simp only [World.size_setCell, World.size_alloc, World.size_drew]; omega) | (simp; done) | (simp; omega)) _ | with_reducible refine b_step ?_ (by with_reducible assumption)))⟩
        · obtain rfl : k = xs.length := by omega
          go_wp2
          go_ret
          exact ⟨rd_ (iff_of_true ⟨hN, hl40, hg.all⟩ rfl), hb⟩
    · go_enter Try.func50, Try.ntmps50
      go_wp2_with (go_at_call 104; refine (spec_l12NameOk_c _ hs _).mono ?_; rintro e w' ⟨rfl, rfl⟩)
      go_ret
      exact ⟨rd_ (iff_of_false (fun h9 => hl40 h9.2.1) (by simp)), (by repeat' (first | with_reducible exact Below.refl _ _ | with_reducible assumption | with_reducible refine b_alloc ?_ _ | with_reducible refine b_drewN ?_ _ | with_reducible refine b_drew ?_ | with_reducible refine b_set ?_ (by first | (simp only [World.size_setCell, World.size_alloc, World.size_drew]; omega) | (simp; done) | (simp; omega)) _ | with_reducible refine b_step ?_ (by with_reducible assumption)))⟩
  · go_enter Try.func50, Try.ntmps50
    go_wp2_with (go_at_call 104; refine (spec_l12NameOk_c _ hs _).mono ?_; rintro e w' ⟨rfl, rfl⟩)
    go_ret
    exact ⟨rd_ (iff_of_false (fun h9 => hN h9.1) (by simp)), (by repeat' (first | with_reducible exact Below.refl _ _ | with_reducible assumption | with_reducible refine b_alloc ?_ _ | with_reducible refine b_drewN ?_ _ | with_reducible refine b_drew ?_ | with_reducible refine b_set ?_ (by first | (simp only [World.size_setCell, World.size_alloc, World.size_drew]; omega) | (simp; done) | (simp; omega)) _ | with_reducible refine b_step ?_ (by with_reducible assumption)))⟩
set_option maxHeartbeats 4000000 in
theorem impl_ProbeTubeOk_c (s : ByteArray) (xs : List LL.Box) (A : Option Addr) (c : Nat) (hs : s.size ≤ 9223372036854775807) (w : World) (h : RdB w A xs.length c xs) : Calls Try.prog 52 #[.agg #[.string s, .slice A xs.length c]] w fun e w' => e = .returned (.bool (decide (LL.TubeOk s xs))) ∧ Below w.heap.size w w' := by
  have hroom := h.room
  by_cases hN1 : LL.In (s.size : Int) 1 8
  · have h10 := hN1.1
    have h11 := hN1.2
    by_cases hl40 : xs.length ≤ 40
    · go_enter Try.func52, Try.ntmps52
      go_wp2_with (go_at_call 60; refine (impl_in_c _ _ _ _).mono ?_; rintro e w' ⟨rfl, rfl⟩)
      go_loopw [3] (fun i wr => ∃ k : Nat, k ≤ s.size ∧ i = .int .i64 k ∧ LL.AllChr s k ∧ Blk wr w.heap.size #[.string s, .slice A xs.length c] 91 ∧ Below w.heap.size w wr) (fun i _ => s.size - (intOf i).toNat)
      case atStart => exact ⟨0, Nat.zero_le _, rfl, LL.AllChr.zero _, (by repeat' (first | with_reducible assumption | with_reducible exact Blk.new _ _ _ | with_reducible exact Blk.new' _ _ (by first | (simp only [World.size_alloc, World.size_setCell, World.size_drew]; done) | (simp only [World.size_alloc, World.size_setCell, World.size_drew]; omega) | omega) | with_reducible refine Blk.a ?_ _ | with_reducible refine Blk.d ?_ | with_reducible refine Blk.dN ?_ _ | with_reducible refine Blk.s ?_ (by simp only [ne_eq]; omega) _ | with_reducible refine Blk.b ?_ (by with_reducible assumption))), (by repeat' (first | with_reducible exact Below.refl _ _ | with_reducible assumption | with_reducible refine b_alloc ?_ _ | with_reducible refine b_drewN ?_ _ | with_reducible refine b_drew ?_ | with_reducible refine b_set ?_ (by first | (simp only [World.size_setCell, World.size_alloc, World.size_drew]; omega) | (simp; done) | (simp; omega)) _ | with_reducible refine b_step ?_ (by with_reducible assumption)))⟩
      case round =>
        obtain ⟨k, hk, rfl, hg, kT, hb⟩ := hrel
        obtain ⟨eT, fT, lT⟩ := kT.cells
        by_cases hlt : k < s.size
        · have hc := LL.chr_at hlt
          have Hc := Lib.hid hc
          clear hc
          go_wp2
          all_goals first
            | (go_ret; refine ⟨rd_ (iff_of_false (fun h8 => LL.NameOk.bad hlt (fun h9 => ?_) h8.1) (by simp)), (by repeat' (first | with_reducible exact Below.refl _ _ | with_reducible assumption | with_reducible refine b_alloc ?_ _ | with_reducible refine b_drewN ?_ _ | with_reducible refine b_drew ?_ | with_reducible refine b_set ?_ (by first | (simp only [World.size_setCell, World.size_alloc, World.size_drew]; omega) | (simp; done) | (simp; omega)) _ | with_reducible refine b_step ?_ (by with_reducible assumption)))⟩; rw [Hc.out] at h9; simp only [LL.CharOk] at h9; (try simp at *); omega)
            | (go_roundw; (case rel => refine ⟨k + 1, by omega, by go_num, hg.succ ?_, kT, hb⟩; rw [Hc.out]; simp only [LL.CharOk]; (try simp at *); omega); (case measure => simp [intOf]; omega))
        · have hks : k = s.size := by omega
          rw [hks] at hg
          clear hks
          have hdk : decide ((k : Int) < (s.size : Int)) = false := by simp; omega
          have hdk2 : decide (k < s.size) = false := by simp; omega
          go_wp2
          obtain ⟨wo, rfl⟩ : ∃ wo : World, wo = wr := ⟨_, rfl⟩
          go_loopw [51] (fun i wr => ∃ m : Nat, m ≤ xs.length ∧ i = .int .i64 m ∧ LL.All_ LL.BoxOk xs m ∧ Below w.heap.size w wr) (fun i _ => xs.length - (intOf i).toNat)
          case atStart => exact ⟨0, Nat.zero_le _, rfl, LL.All_.zero _ _, (by repeat' (first | with_reducible exact Below.refl _ _ | with_reducible assumption | with_reducible refine b_alloc ?_ _ | with_reducible refine b_drewN ?_ _ | with_reducible refine b_drew ?_ | with_reducible refine b_set ?_ (by first | (simp only [World.size_setCell, World.size_alloc, World.size_drew]; omega) | (simp; done) | (simp; omega)) _ | with_reducible refine b_step ?_ (by with_reducible assumption)))⟩
          case round =>
            clear kT hb eT fT lT
            obtain ⟨m, hm, rfl, hgm, hb⟩ := hrel
            obtain ⟨gc, gf, gl⟩ := bcell hb
            by_cases hltm : m < xs.length
            · obtain ⟨b, off, rfl, hbw⟩ := h.addr (by omega)
              obtain ⟨c0, c1, c2, c3, c4, c5⟩ := h.S6 m hltm
              by_cases hB : LL.BoxOk (LL.nthB xs m)
              · go_wp2_with (go_at_call 107; go_loud (refine (impl_ProbeBoxOk_c _ _).mono ?_); rintro e w2 ⟨rfl, hb⟩; (repeat (with_reducible first | replace hb := b_un hb | replace hb := b_unN hb)); obtain ⟨hc, hf, hl⟩ := bcell hb; obtain ⟨gc, gf, gl⟩ := bcell (b_step (w := w) (by repeat' (first | with_reducible exact Below.refl _ _ | with_reducible assumption | with_reducible refine b_alloc ?_ _ | with_reducible refine b_drewN ?_ _ | with_reducible refine b_drew ?_ | with_reducible refine b_set ?_ (by first | (simp only [World.size_setCell, World.size_alloc, World.size_drew]; omega) | (simp; done) | (simp; omega)) _ | with_reducible refine b_step ?_ (by with_reducible assumption))) hb); have hz := hb.size; (try simp at hz); skip)
                go_roundw
                case rel => exact ⟨m + 1, by omega, by go_num, hgm.succ hB, (by repeat' (first | with_reducible exact Below.refl _ _ | with_reducible assumption | with_reducible refine b_alloc ?_ _ | with_reducible refine b_drewN ?_ _ | with_reducible refine b_drew ?_ | with_reducible refine b_set ?_ (by first | (simp only [World.size_setCell, World.size_alloc, World.size_drew]; omega) | (simp; done) | (simp; omega)) _ | with_reducible refine b_step ?_ (by with_reducible assumption)))⟩
                case measure => simp [intOf]; omega
              · go_wp2_with (go_at_call 107; go_loud (refine (impl_ProbeBoxOk_c _ _).mono ?_); rintro e w2 ⟨rfl, hb⟩; (repeat (with_reducible first | replace hb := b_un hb | replace hb := b_unN hb)); obtain ⟨hc, hf, hl⟩ := bcell hb; obtain ⟨gc, gf, gl⟩ := bcell (b_step (w := w) (by repeat' (first | with_reducible exact Below.refl _ _ | with_reducible assumption | with_reducible refine b_alloc ?_ _ | with_reducible refine b_drewN ?_ _ | with_reducible refine b_drew ?_ | with_reducible refine b_set ?_ (by first | (simp only [World.size_setCell, World.size_alloc, World.size_drew]; omega) | (simp; done) | (simp; omega)) _ | with_reducible refine b_step ?_ (by with_reducible assumption))) hb); have hz := hb.size; (try simp at hz); skip)
                go_ret
                exact ⟨rd_ (iff_of_false (fun h9 => LL.BoxesOk.bad hltm hB h9.2) (by simp)), (by repeat' (first | with_reducible exact Below.refl _ _ | with_reducible assumption | with_reducible refine b_alloc ?_ _ | with_reducible refine b_drewN ?_ _ | with_reducible refine b_drew ?_ | with_reducible refine b_set ?_ (by first | (simp only [World.size_setCell, World.size_alloc, World.size_drew]; omega) | (simp; done) | (simp; omega)) _ | with_reducible refine b_step ?_ (by with_reducible assumption)))⟩
            · obtain rfl : m = xs.length := by omega
              go_wp2
              go_ret
              exact ⟨rd_ (iff_of_true ⟨⟨hN1, hg⟩, hl40, hgm.all⟩ rfl), hb⟩
    · go_enter Try.func52, Try.ntmps52
      go_wp2_with (go_at_call 60; refine (impl_in_c _ _ _ _).mono ?_; rintro e w' ⟨rfl, rfl⟩)
      go_ret
      exact ⟨rd_ (iff_of_false (fun h9 => hl40 h9.2.1) (by simp)), (by repeat' (first | with_reducible exact Below.refl _ _ | with_reducible assumption | with_reducible refine b_alloc ?_ _ | with_reducible refine b_drewN ?_ _ | with_reducible refine b_drew ?_ | with_reducible refine b_set ?_ (by first | (simp only [World.size_setCell, World.size_alloc, World.size_drew]; omega) | (simp; done) | (simp; omega)) _ | with_reducible refine b_step ?_ (by with_reducible assumption)))⟩
  · go_enter Try.func52, Try.ntmps52
    go_wp2_with (go_at_call 60; refine (impl_in_c _ _ _ _).mono ?_; rintro e w' ⟨rfl, rfl⟩)
    go_ret
    exact ⟨rd_ (iff_of_false (fun h9 => hN1 h9.1.1) (by simp)), (by repeat' (first | with_reducible exact Below.refl _ _ | with_reducible assumption | with_reducible refine b_alloc ?_ _ | with_reducible refine b_drewN ?_ _ | with_reducible refine b_drew ?_ | with_reducible refine b_set ?_ (by first | (simp only [World.size_setCell, World.size_alloc, World.size_drew]; omega) | (simp; done) | (simp; omega)) _ | with_reducible refine b_step ?_ (by with_reducible assumption)))⟩
/-- a call has made a tube -/
def MkT (e : Nat) (w : World) (s : ByteArray) (xs : List LL.Box) (en : Ending) (w' : World) : Prop := ∃ A c, en = .returned (.agg #[.string s, .slice A xs.length c]) ∧ Own boxC 6 48 e w' (.slice A xs.length c) xs ∧ (∀ k, Value.ownBlock (.slice A xs.length c) = some k → w.heap.size ≤ k) ∧ Below w.heap.size w w'
set_option maxHeartbeats 1000000 in
theorem toProbeTube_c (s : ByteArray) (xs : List LL.Box) (A : Option Addr) (c : Nat) (w : World) (h : RdB w A xs.length c xs) : Calls Try.prog 51 #[.agg #[.string s, .slice A xs.length c]] w (MkT 133 w s xs) := by
  go_enter Try.func51, Try.ntmps51
  go_wp2_with (go_at_call 106; refine (toProbeBoxS_c _ _ _ _ (by exact Rd.mono (by with_reducible assumption) (by repeat' (first | with_reducible exact Below.refl _ _ | with_reducible assumption | with_reducible refine b_alloc ?_ _ | with_reducible refine b_drewN ?_ _ | with_reducible refine b_drew ?_ | with_reducible refine b_set ?_ (by first | (simp only [World.size_setCell, World.size_alloc, World.size_drew]; omega) | (simp; done) | (simp; omega)) _ | with_reducible refine b_step ?_ (by with_reducible assumption))))).mono ?_; rintro e w2 ⟨v1, rfl, hO, hge, hb⟩; obtain ⟨A1, k1, rfl, hR⟩ := hO.rd boxE; (repeat (with_reducible first | replace hb := b_un hb | replace hb := b_unN hb)); obtain ⟨hc, hf, hl⟩ := bcell hb; obtain ⟨gc, gf, gl⟩ := bcell (b_step (w := w) (by repeat' (first | with_reducible exact Below.refl _ _ | with_reducible assumption | with_reducible refine b_alloc ?_ _ | with_reducible refine b_drewN ?_ _ | with_reducible refine b_drew ?_ | with_reducible refine b_set ?_ (by first | (simp only [World.size_setCell, World.size_alloc, World.size_drew]; omega) | (simp; done) | (simp; omega)) _ | with_reducible refine b_step ?_ (by with_reducible assumption))) hb); have hz := hb.size; (try simp only [World.size_setCell, World.size_alloc, World.size_drew] at hz hge); have yw2_0 : w.heap.size < w2.heap.size := (by omega); have yw2_1 : w.heap.size + 1 < w2.heap.size := (by omega); have yw2_2 : w.heap.size + 1 + 1 < w2.heap.size := (by omega))
  (refine bodyPost_ret (res_c rfl _ [.string s, .slice A1 xs.length k1] rfl _ Try.underlying91 rfl (by kernel_rfl) (by simp only [CellsAt, and_true]; and_intros <;> go_simp)) rfl ?_)
  refine ⟨_, _, rfl, ?_, fun k hk => ?_, (by repeat' (first | with_reducible exact Below.refl _ _ | with_reducible assumption | with_reducible refine b_alloc ?_ _ | with_reducible refine b_drewN ?_ _ | with_reducible refine b_drew ?_ | with_reducible refine b_set ?_ (by first | (simp only [World.size_setCell, World.size_alloc, World.size_drew]; omega) | (simp; done) | (simp; omega)) _ | with_reducible refine b_step ?_ (by with_reducible assumption)))⟩
  · exact (by repeat' (first | with_reducible assumption | with_reducible refine Own.s_ge ?_ (by with_reducible assumption) (by simp only [World.size_setCell]; omega) _ | with_reducible refine Own.a ?_ _ | with_reducible refine Own.d ?_ | with_reducible refine Own.dN ?_ _ | with_reducible refine Own.b ?_ (by with_reducible assumption)))
  · have := hge k hk; omega
set_option maxHeartbeats 1000000 in
theorem eqProbeTube_c (s : ByteArray) (xs : List LL.Box) (A A' : Option Addr) (c c' : Nat) (w : World) (h : RdB w A xs.length c xs) (h' : RdB w A' xs.length c' xs) : Calls Try.prog 53 #[.agg #[.string s, .slice A xs.length c], .agg #[.string s, .slice A' xs.length c']] w fun e w' => e = .returned (.bool true) ∧ Below w.heap.size w w' := by
  go_enter Try.func53, Try.ntmps53
  go_wp2_with (go_at_call 108; go_loud (refine (eqProbeBoxS_c _ _ _ _ _ _ (by exact Rd.mono (by with_reducible assumption) (by repeat' (first | with_reducible exact Below.refl _ _ | with_reducible assumption | with_reducible refine b_alloc ?_ _ | with_reducible refine b_drewN ?_ _ | with_reducible refine b_drew ?_ | with_reducible refine b_set ?_ (by first | (simp only [World.size_setCell, World.size_alloc, World.size_drew]; omega) | (simp; done) | (simp; omega)) _ | with_reducible refine b_step ?_ (by with_reducible assumption)))) (by exact Rd.mono (by with_reducible assumption) (by repeat' (first | with_reducible exact Below.refl _ _ | with_reducible assumption | with_reducible refine b_alloc ?_ _ | with_reducible refine b_drewN ?_ _ | with_reducible refine b_drew ?_ | with_reducible refine b_set ?_ (by first | (simp only [World.size_setCell, World.size_alloc, World.size_drew]; omega) | (simp; done) | (simp; omega)) _ | with_reducible refine b_step ?_ (by with_reducible assumption))))).mono ?_); rintro e w1 ⟨rfl, hb⟩; (repeat (with_reducible first | replace hb := b_un hb | replace hb := b_unN hb)); obtain ⟨hc, hf, hl⟩ := bcell hb; obtain ⟨gc, gf, gl⟩ := bcell (b_step (w := w) (by repeat' (first | with_reducible exact Below.refl _ _ | with_reducible assumption | with_reducible refine b_alloc ?_ _ | with_reducible refine b_drewN ?_ _ | with_reducible refine b_drew ?_ | with_reducible refine b_set ?_ (by first | (simp only [World.size_setCell, World.size_alloc, World.size_drew]; omega) | (simp; done) | (simp; omega)) _ | with_reducible refine b_step ?_ (by with_reducible assumption))) hb); have hz := hb.size; (try simp at hz); have yw1_0 : w.heap.size < w1.heap.size := (by omega); have yw1_1 : w.heap.size + 1 < w1.heap.size := (by omega))
  go_ret
  exact ⟨rfl, (by repeat' (first | with_reducible exact Below.refl _ _ | with_reducible assumption | with_reducible refine b_alloc ?_ _ | with_reducible refine b_drewN ?_ _ | with_reducible refine b_drew ?_ | with_reducible refine b_set ?_ (by first | (simp only [World.size_setCell, World.size_alloc, World.size_drew]; omega) | (simp; done) | (simp; omega)) _ | with_reducible refine b_step ?_ (by with_reducible assumption)))⟩
/-- what is left behind a name and so many boxes -/
def LL.szT (left : Int) (s n : Nat) : Int := if left - s < 0 then -1 else LL.sz (left - s) n
theorem LL.szT_le {left : Int} (h : 0 ≤ left) (s n : Nat) : LL.szT left s n ≤ left := by unfold LL.szT LL.sz; split <;> (try split) <;> omega
theorem szProbeTube_c (s : ByteArray) (n : Nat) (left : Int) (A : Option Addr) (c : Nat) (w : World) (h0 : 0 ≤ left) (h1 : left ≤ 1048576) (hs : s.size ≤ 9223372036854775807) (hn : n ≤ 140737488355328) : Calls Try.prog 49 #[.agg #[.string s, .slice A n c], .int .i64 left] w fun e w' => e = .returned (.int .i64 (LL.szT left s.size n)) ∧ Below w.heap.size w w' := by
  by_cases hl : left - s.size < 0
  · go_enter Try.func49, Try.ntmps49
    go_wp2
    go_ret
    exact ⟨ri (by simp only [LL.szT, if_pos hl]), (by repeat' (first | with_reducible exact Below.refl _ _ | with_reducible assumption | with_reducible refine b_alloc ?_ _ | with_reducible refine b_drewN ?_ _ | with_reducible refine b_drew ?_ | with_reducible refine b_set ?_ (by first | (simp only [World.size_setCell, World.size_alloc, World.size_drew]; omega) | (simp; done) | (simp; omega)) _ | with_reducible refine b_step ?_ (by with_reducible assumption)))⟩
  · have hl2 : 0 ≤ left - s.size := by omega
    go_enter Try.func49, Try.ntmps49
    go_wp2_with (go_at_call 103; refine (szProbeBoxS_c _ _ _ _ _ hl2 (by omega) hn).mono ?_; rintro e w' ⟨rfl, rfl⟩)
    all_goals go_ret
    all_goals exact ⟨ri (by unfold LL.szT; rw [if_neg (by omega)]; (try (simp only [LL.sz] at *; omega))), (by repeat' (first | with_reducible exact Below.refl _ _ | with_reducible assumption | with_reducible refine b_alloc ?_ _ | with_reducible refine b_drewN ?_ _ | with_reducible refine b_drew ?_ | with_reducible refine b_set ?_ (by first | (simp only [World.size_setCell, World.size_alloc, World.size_drew]; omega) | (simp; done) | (simp; omega)) _ | with_reducible refine b_step ?_ (by with_reducible assumption)))⟩
end Go.Proofs.Ytkpnjnkfbhomgaa

/- A tube from a tick on: ProbeCut of the program and of the reference. -/
set_option linter.unusedVariables false
set_option linter.unusedSimpArgs false
namespace Go.Proofs.Ytkpnjnkfbhomgaa
open Go.RowKit
attribute [local go_sem] w_lt_add w_le_of w_le_add max2_i min2_i ite_max ite_min
namespace LL
def cutB (fr : Int) (b : Box) : Box := ⟨b.x, b.y, b.lo, b.hi, max b.i fr, b.o⟩
/-- what is left of the first k boxes from a tick on -/
def cutTo (xs : List Box) (fr : Int) (k : Nat) : List Box := ((xs.take k).filter (fun b => decide (fr ≤ b.o))).map (cutB fr)
theorem cutTo_zero (xs : List Box) (fr : Int) : cutTo xs fr 0 = [] := rfl
theorem take_nthB {xs : List Box} {k : Nat} (h : k < xs.length) : xs.take (k + 1) = xs.take k ++ [nthB xs k] := by
  rw [List.take_succ_eq_append_getElem h]; unfold nthB; rw [List.getD_eq_getElem?_getD, List.getElem?_eq_getElem h]; rfl
theorem cutTo_on {xs : List Box} {fr : Int} {k : Nat} (h : k < xs.length) (ho : fr ≤ (nthB xs k).o) : cutTo xs fr (k + 1) = cutTo xs fr k ++ [cutB fr (nthB xs k)] := by
  unfold cutTo; rw [take_nthB h, List.filter_append, List.map_append]; simp [ho]
theorem cutTo_off {xs : List Box} {fr : Int} {k : Nat} (h : k < xs.length) (ho : ¬ fr ≤ (nthB xs k).o) : cutTo xs fr (k + 1) = cutTo xs fr k := by
  unfold cutTo; rw [take_nthB h, List.filter_append, List.map_append]; simp [ho]
theorem cutTo_len (xs : List Box) (fr : Int) (k : Nat) : (cutTo xs fr k).length ≤ k := by
  unfold cutTo; rw [List.length_map]; exact Nat.le_trans (List.length_filter_le _ _) (List.length_take_le _ _)
def cutL (s : ByteArray) (xs : List Box) (fr : Int) : List Box := if TubeOk s xs then cutTo xs fr xs.length else []
def cutN (s : ByteArray) (xs : List Box) : ByteArray := if TubeOk s xs then s else ⟨#[]⟩
theorem cutL_yes {s : ByteArray} {xs : List Box} {fr : Int} (h : TubeOk s xs) : cutL s xs fr = cutTo xs fr xs.length := if_pos h
theorem cutL_no {s : ByteArray} {xs : List Box} {fr : Int} (h : ¬ TubeOk s xs) : cutL s xs fr = [] := if_neg h
theorem cutN_yes {s : ByteArray} {xs : List Box} (h : TubeOk s xs) : cutN s xs = s := if_pos h
theorem cutN_no {s : ByteArray} {xs : List Box} (h : ¬ TubeOk s xs) : cutN s xs = ⟨#[]⟩ := if_neg h
end LL
theorem wpl_name {P : Program} {ops : Array Oper} {Q : Exit → Act → World → Prop} {l : List Oper} {a : Act} {w : World} (R : World → Prop) (h0 : R w) (h : ∀ w, R w → wpList P ops Q l a w) : wpList P ops Q l a w := h w h0
theorem mkT_nil {w w' : World} {e : Nat} {s : ByteArray} {xs : List LL.Box} {fr : Int} (h : ¬ LL.TubeOk s xs) (hb : Below w.heap.size w w') : MkT e w (LL.cutN s xs) (LL.cutL s xs fr) (.returned (.agg #[.string ⟨#[]⟩, .slice none 0 0])) w' := by
  rw [LL.cutN_no h, LL.cutL_no h]
  exact ⟨none, 0, rfl, ⟨World.ownsRow_nil _ _ _ _, by simp⟩, fun k hk => by simp [Value.ownBlock] at hk, hb⟩
set_option maxRecDepth 100000 in
set_option maxHeartbeats 4000000 in
theorem impl_ProbeCut_c (s : ByteArray) (xs : List LL.Box) (A : Option Addr) (c : Nat) (fr : Int) (hs : s.size ≤ 9223372036854775807) (w : World) (h : RdB w A xs.length c xs) : Calls Try.prog 122 #[.agg #[.string s, .slice A xs.length c], .int .i64 fr] w (MkT 133 w (LL.cutN s xs) (LL.cutL s xs fr)) := by
  have hroom := h.room
  go_enter Try.func122, Try.ntmps122
  go_wp2_with fail
  refine calls_name (fun W => Below w.heap.size w W ∧ Blk W w.heap.size #[.string s, .slice A xs.length c] 91 ∧ Blk W (w.heap.size + 1) #[.string ⟨#[]⟩, .slice none 0 0] 91) ⟨(by repeat' (first | with_reducible exact Below.refl _ _ | with_reducible assumption | with_reducible refine b_alloc ?_ _ | with_reducible refine b_drewN ?_ _ | with_reducible refine b_drew ?_ | with_reducible refine b_set ?_ (by first | (simp only [World.size_setCell, World.size_alloc, World.size_drew]; omega) | (simp; done) | (simp; omega)) _ | with_reducible refine b_step ?_ (by with_reducible assumption))), (by repeat' (first | with_reducible assumption | with_reducible exact Blk.new _ _ _ | with_reducible exact Blk.new' _ _ (by first | (simp only [World.size_alloc, World.size_setCell, World.size_drew]; done) | (simp only [World.size_alloc, World.size_setCell, World.size_drew]; omega) | omega) | with_reducible refine Blk.a ?_ _ | with_reducible refine Blk.d ?_ | with_reducible refine Blk.dN ?_ _ | with_reducible refine Blk.s ?_ (by simp only [ne_eq]; omega) _ | with_reducible refine Blk.b ?_ (by with_reducible assumption))), (by repeat' (first | with_reducible assumption | with_reducible exact Blk.new _ _ _ | with_reducible exact Blk.new' _ _ (by first | (simp only [World.size_alloc, World.size_setCell, World.size_drew]; done) | (simp only [World.size_alloc, World.size_setCell, World.size_drew]; omega) | omega) | with_reducible refine Blk.a ?_ _ | with_reducible refine Blk.d ?_ | with_reducible refine Blk.dN ?_ _ | with_reducible refine Blk.s ?_ (by simp only [ne_eq]; omega) _ | with_reducible refine Blk.b ?_ (by with_reducible assumption)))⟩ ?_
  rintro W1 ⟨hb, kP, kR⟩
  refine (impl_ProbeTubeOk_c s xs A c hs _ (h.mono hb)).mono ?_
  rintro e W2 ⟨rfl, hB⟩
  replace hb := b_step hb hB; replace kP := kP.b hB; replace kR := kR.b hB; clear hB
  by_cases hT : LL.TubeOk s xs
  · rw [decide_eq_true hT]
    have hR2 := kR.cells.2.2
    obtain ⟨ekP, fkP, lkP⟩ := kP.cells
    go_wp2_with fail
    refine wp_name (fun W => Below W2.heap.size W2 W ∧ Blk W W2.heap.size #[.string s, .slice none 0 0] 91) ⟨(by repeat' (first | with_reducible exact Below.refl _ _ | with_reducible assumption | with_reducible refine b_alloc ?_ _ | with_reducible refine b_drewN ?_ _ | with_reducible refine b_drew ?_ | with_reducible refine b_set ?_ (by first | (simp only [World.size_setCell, World.size_alloc, World.size_drew]; omega) | (simp; done) | (simp; omega)) _ | with_reducible refine b_step ?_ (by with_reducible assumption))), Blk.new _ _ _⟩ ?_
    rintro W3 ⟨hE, kX⟩
    clear ekP fkP lkP
    replace hb := b_step hb hE; replace kP := kP.b hE; replace kR := kR.b hE; clear hE
    generalize W2.heap.size = gx at *
    go_loopw [18] (fun i wr => ∃ (k : Nat) (Ao : Option Addr) (co : Nat), k ≤ xs.length ∧ i = .int .i64 k ∧ Below w.heap.size w wr ∧ Blk wr (w.heap.size + 1) #[.string ⟨#[]⟩, .slice none 0 0] 91 ∧ Blk wr gx #[.string s, .slice Ao (LL.cutTo xs fr k).length co] 91 ∧ Own boxC 6 48 133 wr (.slice Ao (LL.cutTo xs fr k).length co) (LL.cutTo xs fr k) ∧ (∀ b, Value.ownBlock (.slice Ao (LL.cutTo xs fr k).length co) = some b → w.heap.size + 1 < b ∧ b ≠ gx)) (fun i _ => xs.length - (intOf i).toNat)
    case atStart => exact ⟨0, none, 0, Nat.zero_le _, rfl, hb, kR, kX, ⟨World.ownsRow_nil _ _ _ _, by simp [LL.cutTo_zero]⟩, fun b hb => by simp [Value.ownBlock] at hb⟩
    case round =>
      clear hb kR kX kP
      obtain ⟨k, Ao, co, hk, rfl, hb, kR, kX, hO, hO2⟩ := hrel
      by_cases hlt : k < xs.length
      · obtain ⟨b, off, rfl, hbw⟩ := h.addr (by omega)
        obtain ⟨c0, c1, c2, c3, c4, c5⟩ := h.S6 k hlt
        obtain ⟨gc, gf, gl⟩ := bcell hb
        obtain ⟨ekX, fkX, lkX⟩ := kX.cells
        by_cases ho : fr ≤ (LL.nthB xs k).o
        · have hOb := fun b hb => (hO.row.lt b hb).2
          have hlen := LL.cutTo_len xs fr k
          go_wp2_with (at_builtin; go_loud (refine wp_app (xs := LL.cutTo xs fr k) (ys := [LL.cutB fr (LL.nthB xs k)]) (bytes := 48) (e := 133) rfl _ _ _ rfl boxE (.agg (boxC LL.b0).toArray) Try.underlying89 (by kernel_rfl) rfl (by decide) (v := .slice Ao (LL.cutTo xs fr k).length co) rfl (by repeat' (first | with_reducible assumption | with_reducible refine Own.s ?_ _ (fun k hk => by have := hOb k hk; (try simp only); omega) | with_reducible refine Own.a ?_ _ | with_reducible refine Own.d ?_ | with_reducible refine Own.dN ?_ _ | with_reducible refine Own.b ?_ (by with_reducible assumption))) rfl (Rd.one (x := LL.cutB fr (LL.nthB xs k)) (Blk.new' _ _ (by simp)) rfl (by decide)) (by omega) ?_); intro v7 w7 hO7 hg7 hat7; obtain ⟨A7, c7, rfl, -⟩ := hO7.rd boxE; have kX7 : Blk w7 gx #[.string s, .slice Ao (LL.cutTo xs fr k).length co] 91 := (by refine Blk.grown ?_ hg7 (fun e9 => (hO2 _ e9).2 rfl); exact (by repeat' (first | with_reducible assumption | with_reducible exact Blk.new _ _ _ | with_reducible exact Blk.new' _ _ (by first | (simp only [World.size_alloc, World.size_setCell, World.size_drew]; done) | (simp only [World.size_alloc, World.size_setCell, World.size_drew]; omega) | omega) | with_reducible refine Blk.a ?_ _ | with_reducible refine Blk.d ?_ | with_reducible refine Blk.dN ?_ _ | with_reducible refine Blk.s ?_ (by simp only [ne_eq]; omega) _ | with_reducible refine Blk.b ?_ (by with_reducible assumption)))); have kR7 : Blk w7 (w.heap.size + 1) #[.string ⟨#[]⟩, .slice none 0 0] 91 := (by refine Blk.grown ?_ hg7 (fun e9 => by have := (hO2 _ e9).1; omega); exact (by repeat' (first | with_reducible assumption | with_reducible exact Blk.new _ _ _ | with_reducible exact Blk.new' _ _ (by first | (simp only [World.size_alloc, World.size_setCell, World.size_drew]; done) | (simp only [World.size_alloc, World.size_setCell, World.size_drew]; omega) | omega) | with_reducible refine Blk.a ?_ _ | with_reducible refine Blk.d ?_ | with_reducible refine Blk.dN ?_ _ | with_reducible refine Blk.s ?_ (by simp only [ne_eq]; omega) _ | with_reducible refine Blk.b ?_ (by with_reducible assumption)))); have hb7 : Below w.heap.size w w7 := (by refine b_grown' ?_ hg7 ?_ (fun g' hg' => by have := (hO2 _ hg').1; omega); exact (by repeat' (first | with_reducible exact Below.refl _ _ | with_reducible assumption | with_reducible refine b_alloc ?_ _ | with_reducible refine b_drewN ?_ _ | with_reducible refine b_drew ?_ | with_reducible refine b_set ?_ (by first | (simp only [World.size_setCell, World.size_alloc, World.size_drew]; omega) | (simp; done) | (simp; omega)) _ | with_reducible refine b_step ?_ (by with_reducible assumption))); (simp only [World.size_setCell, World.size_alloc]; have := hb.size; omega)); have hz7 := hg7.size; (simp only [World.size_setCell, World.size_alloc] at hz7 hat7); obtain ⟨eX7, fX7, lX7⟩ := kX7.cells)
          go_roundw
          case rel =>
            have E := LL.cutTo_on hlt ho
            refine ⟨k + 1, A7, c7, by omega, by go_num, b_set hb7 (by simp only; omega) _, kR7.s (by simp only [ne_eq]; omega) _, by rw [E]; simpa using kX7.put 1 (.slice A7 (LL.cutTo xs fr k ++ [LL.cutB fr (LL.nthB xs k)]).length c7), ?_, fun j hj => ?_⟩
            · rw [E]
              refine Own.s (v := .slice A7 (LL.cutTo xs fr k ++ [LL.cutB fr (LL.nthB xs k)]).length c7) hO7 _ (fun j hj => ?_)
              rcases hat7 with h9 | h9
              · rw [h9] at hj; exact (hO2 _ hj).2
              · rw [h9] at hj; cases hj; simp only; omega
            · rw [E] at hj
              rcases hat7 with h9 | h9
              · rw [h9] at hj; exact hO2 _ hj
              · rw [h9] at hj; cases hj; omega
          case measure => simp [intOf]; omega
        · go_wp2_with fail
          go_roundw
          case rel => exact ⟨k + 1, Ao, co, by omega, by go_num, (by repeat' (first | with_reducible exact Below.refl _ _ | with_reducible assumption | with_reducible refine b_alloc ?_ _ | with_reducible refine b_drewN ?_ _ | with_reducible refine b_drew ?_ | with_reducible refine b_set ?_ (by first | (simp only [World.size_setCell, World.size_alloc, World.size_drew]; omega) | (simp; done) | (simp; omega)) _ | with_reducible refine b_step ?_ (by with_reducible assumption))), (by repeat' (first | with_reducible assumption | with_reducible exact Blk.new _ _ _ | with_reducible exact Blk.new' _ _ (by first | (simp only [World.size_alloc, World.size_setCell, World.size_drew]; done) | (simp only [World.size_alloc, World.size_setCell, World.size_drew]; omega) | omega) | with_reducible refine Blk.a ?_ _ | with_reducible refine Blk.d ?_ | with_reducible refine Blk.dN ?_ _ | with_reducible refine Blk.s ?_ (by simp only [ne_eq]; omega) _ | with_reducible refine Blk.b ?_ (by with_reducible assumption))), by rw [LL.cutTo_off hlt ho]; exact (by repeat' (first | with_reducible assumption | with_reducible exact Blk.new _ _ _ | with_reducible exact Blk.new' _ _ (by first | (simp only [World.size_alloc, World.size_setCell, World.size_drew]; done) | (simp only [World.size_alloc, World.size_setCell, World.size_drew]; omega) | omega) | with_reducible refine Blk.a ?_ _ | with_reducible refine Blk.d ?_ | with_reducible refine Blk.dN ?_ _ | with_reducible refine Blk.s ?_ (by simp only [ne_eq]; omega) _ | with_reducible refine Blk.b ?_ (by with_reducible assumption))), by rw [LL.cutTo_off hlt ho]; exact hO.a _, by rw [LL.cutTo_off hlt ho]; exact hO2⟩
          case measure => simp [intOf]; omega
      · obtain rfl : k = xs.length := by omega
        obtain ⟨ekX, fkX, lkX⟩ := kX.cells; obtain ⟨ekR, fkR, lkR⟩ := kR.cells
        go_wp2_with fail
        (refine bodyPost_ret (res_c rfl _ [.string s, .slice Ao (LL.cutTo xs fr xs.length).length co] rfl _ Try.underlying91 rfl (by kernel_rfl) (by simp only [CellsAt, and_true]; and_intros <;> go_simp)) rfl ?_)
        rw [LL.cutN_yes hT, LL.cutL_yes hT]
        exact ⟨Ao, co, rfl, (hO.s _ (fun k hk => by have := hO2 k hk; simp only; omega)).s _ (fun k hk => by have := hO2 k hk; simp only; omega), fun k hk => by have := hO2 k hk; omega, (by repeat' (first | with_reducible exact Below.refl _ _ | with_reducible assumption | with_reducible refine b_alloc ?_ _ | with_reducible refine b_drewN ?_ _ | with_reducible refine b_drew ?_ | with_reducible refine b_set ?_ (by first | (simp only [World.size_setCell, World.size_alloc, World.size_drew]; omega) | (simp; done) | (simp; omega)) _ | with_reducible refine b_step ?_ (by with_reducible assumption)))⟩
  · rw [decide_eq_false hT]
    obtain ⟨ekP, fkP, lkP⟩ := kP.cells; obtain ⟨ekR, fkR, lkR⟩ := kR.cells
    go_wp2_with fail
    (refine bodyPost_ret (res_c rfl _ [.string ⟨#[]⟩, .slice none 0 0] rfl _ Try.underlying91 rfl (by kernel_rfl) (by simp only [CellsAt, and_true]; and_intros <;> go_simp)) rfl ?_)
    exact mkT_nil hT (by repeat' (first | with_reducible exact Below.refl _ _ | with_reducible assumption | with_reducible refine b_alloc ?_ _ | with_reducible refine b_drewN ?_ _ | with_reducible refine b_drew ?_ | with_reducible refine b_set ?_ (by first | (simp only [World.size_setCell, World.size_alloc, World.size_drew]; omega) | (simp; done) | (simp; omega)) _ | with_reducible refine b_step ?_ (by with_reducible assumption)))
set_option maxRecDepth 100000 in
set_option maxHeartbeats 4000000 in
theorem spec_ProbeCut_c (s : ByteArray) (xs : List LL.Box) (A : Option Addr) (c : Nat) (fr : Int) (hs : s.size ≤ 9223372036854775807) (w : World) (h : RdB w A xs.length c xs) : Calls Try.prog 138 #[.agg #[.string s, .slice A xs.length c], .int .i64 fr] w (MkT 133 w (LL.cutN s xs) (LL.cutL s xs fr)) := by
  have hroom := h.room
  go_enter Try.func138, Try.ntmps138
  go_wp2_with fail
  refine calls_name (fun W => Below w.heap.size w W ∧ Blk W w.heap.size #[.string s, .slice A xs.length c] 91 ∧ Blk W (w.heap.size + 1) #[.string ⟨#[]⟩, .slice none 0 0] 91 ∧ Blk W (w.heap.size + 1 + 1) #[.string s, .slice none 0 0] 91) ⟨(by repeat' (first | with_reducible exact Below.refl _ _ | with_reducible assumption | with_reducible refine b_alloc ?_ _ | with_reducible refine b_drewN ?_ _ | with_reducible refine b_drew ?_ | with_reducible refine b_set ?_ (by first | (simp only [World.size_setCell, World.size_alloc, World.size_drew]; omega) | (simp; done) | (simp; omega)) _ | with_reducible refine b_step ?_ (by with_reducible assumption))), (by repeat' (first | with_reducible assumption | with_reducible exact Blk.new _ _ _ | with_reducible exact Blk.new' _ _ (by first | (simp only [World.size_alloc, World.size_setCell, World.size_drew]; done) | (simp only [World.size_alloc, World.size_setCell, World.size_drew]; omega) | omega) | with_reducible refine Blk.a ?_ _ | with_reducible refine Blk.d ?_ | with_reducible refine Blk.dN ?_ _ | with_reducible refine Blk.s ?_ (by simp only [ne_eq]; omega) _ | with_reducible refine Blk.b ?_ (by with_reducible assumption))), (by repeat' (first | with_reducible assumption | with_reducible exact Blk.new _ _ _ | with_reducible exact Blk.new' _ _ (by first | (simp only [World.size_alloc, World.size_setCell, World.size_drew]; done) | (simp only [World.size_alloc, World.size_setCell, World.size_drew]; omega) | omega) | with_reducible refine Blk.a ?_ _ | with_reducible refine Blk.d ?_ | with_reducible refine Blk.dN ?_ _ | with_reducible refine Blk.s ?_ (by simp only [ne_eq]; omega) _ | with_reducible refine Blk.b ?_ (by with_reducible assumption))), (by repeat' (first | with_reducible assumption | with_reducible exact Blk.new _ _ _ | with_reducible exact Blk.new' _ _ (by first | (simp only [World.size_alloc, World.size_setCell, World.size_drew]; done) | (simp only [World.size_alloc, World.size_setCell, World.size_drew]; omega) | omega) | with_reducible refine Blk.a ?_ _ | with_reducible refine Blk.d ?_ | with_reducible refine Blk.dN ?_ _ | with_reducible refine Blk.s ?_ (by simp only [ne_eq]; omega) _ | with_reducible refine Blk.b ?_ (by with_reducible assumption)))⟩ ?_
  rintro W1 ⟨hb, kP, kR, kX⟩
  refine (spec_ProbeTubeOk_c s xs A c hs _ (h.mono hb)).mono ?_
  rintro e W2 ⟨rfl, hB⟩
  replace hb := b_step hb hB; replace kP := kP.b hB; replace kR := kR.b hB; replace kX := kX.b hB; clear hB
  by_cases hT : LL.TubeOk s xs
  · rw [decide_eq_true hT]
    have hgx : w.heap.size + 1 < w.heap.size + 1 + 1 := by omega
    generalize hgg : w.heap.size + 1 + 1 = gx at *
    have Hgg := Lib.hid hgg
    clear hgg
    go_wp2_with fail
    go_loopw [6] (fun i wr => ∃ (k : Nat) (Ao : Option Addr) (co : Nat), k ≤ xs.length ∧ i = .int .i64 k ∧ Below w.heap.size w wr ∧ Blk wr w.heap.size #[.string s, .slice A xs.length c] 91 ∧ Blk wr (w.heap.size + 1) #[.string ⟨#[]⟩, .slice none 0 0] 91 ∧ Blk wr gx #[.string s, .slice Ao (LL.cutTo xs fr k).length co] 91 ∧ Own boxC 6 48 133 wr (.slice Ao (LL.cutTo xs fr k).length co) (LL.cutTo xs fr k) ∧ (∀ b, Value.ownBlock (.slice Ao (LL.cutTo xs fr k).length co) = some b → w.heap.size + 1 < b ∧ b ≠ gx)) (fun i _ => xs.length - (intOf i).toNat)
    case atStart => exact ⟨0, none, 0, Nat.zero_le _, rfl, hb, kP, kR, kX, ⟨World.ownsRow_nil _ _ _ _, by simp [LL.cutTo_zero]⟩, fun b hb => by simp [Value.ownBlock] at hb⟩
    case round =>
      clear hb kR kX kP
      obtain ⟨k, Ao, co, hk, rfl, hb, kP, kR, kX, hO, hO2⟩ := hrel
      obtain ⟨ekP, fkP, lkP⟩ := kP.cells
      by_cases hlt : k < xs.length
      · obtain ⟨b, off, rfl, hbw⟩ := h.addr (by omega)
        obtain ⟨c0, c1, c2, c3, c4, c5⟩ := h.S6 k hlt
        obtain ⟨gc, gf, gl⟩ := bcell hb
        obtain ⟨ekX, fkX, lkX⟩ := kX.cells
        by_cases ho : fr ≤ (LL.nthB xs k).o
        · have hOb := fun b hb => (hO.row.lt b hb).2
          have hlen := LL.cutTo_len xs fr k
          by_cases hi : (LL.nthB xs k).i < fr
          · have hmx : max (LL.nthB xs k).i fr = fr := by omega
            have Hmx := Lib.hid hmx
            clear hmx
            go_wp2_with (at_builtin; go_loud (refine wp_app (xs := LL.cutTo xs fr k) (ys := [LL.cutB fr (LL.nthB xs k)]) (bytes := 48) (e := 133) rfl _ _ _ rfl boxE (.agg (boxC LL.b0).toArray) Try.underlying89 (by kernel_rfl) rfl (by decide) (v := .slice Ao (LL.cutTo xs fr k).length co) rfl (by repeat' (first | with_reducible assumption | with_reducible refine Own.s ?_ _ (fun k hk => by have := hOb k hk; (try simp only); omega) | with_reducible refine Own.a ?_ _ | with_reducible refine Own.d ?_ | with_reducible refine Own.dN ?_ _ | with_reducible refine Own.b ?_ (by with_reducible assumption))) rfl (Rd.one (x := LL.cutB fr (LL.nthB xs k)) (Blk.new' _ _ (by simp)) (by simp only [boxC, LL.cutB, Hmx.out]) (by decide)) (by omega) ?_); intro v7 w7 hO7 hg7 hat7; obtain ⟨A7, c7, rfl, -⟩ := hO7.rd boxE; have kX7 : Blk w7 gx #[.string s, .slice Ao (LL.cutTo xs fr k).length co] 91 := (by refine Blk.grown ?_ hg7 (fun e9 => (hO2 _ e9).2 rfl); exact (by repeat' (first | with_reducible assumption | with_reducible exact Blk.new _ _ _ | with_reducible exact Blk.new' _ _ (by first | (simp only [World.size_alloc, World.size_setCell, World.size_drew]; done) | (simp only [World.size_alloc, World.size_setCell, World.size_drew]; omega) | omega) | with_reducible refine Blk.a ?_ _ | with_reducible refine Blk.d ?_ | with_reducible refine Blk.dN ?_ _ | with_reducible refine Blk.s ?_ (by simp only [ne_eq]; omega) _ | with_reducible refine Blk.b ?_ (by with_reducible assumption)))); have kR7 : Blk w7 (w.heap.size + 1) #[.string ⟨#[]⟩, .slice none 0 0] 91 := (by refine Blk.grown ?_ hg7 (fun e9 => by have := (hO2 _ e9).1; omega); exact (by repeat' (first | with_reducible assumption | with_reducible exact Blk.new _ _ _ | with_reducible exact Blk.new' _ _ (by first | (simp only [World.size_alloc, World.size_setCell, World.size_drew]; done) | (simp only [World.size_alloc, World.size_setCell, World.size_drew]; omega) | omega) | with_reducible refine Blk.a ?_ _ | with_reducible refine Blk.d ?_ | with_reducible refine Blk.dN ?_ _ | with_reducible refine Blk.s ?_ (by simp only [ne_eq]; omega) _ | with_reducible refine Blk.b ?_ (by with_reducible assumption)))); have kP7 : Blk w7 w.heap.size #[.string s, .slice (some ⟨b, off, none⟩) xs.length c] 91 := (by refine Blk.grown ?_ hg7 (fun e9 => by have := (hO2 _ e9).1; omega); exact (by repeat' (first | with_reducible assumption | with_reducible exact Blk.new _ _ _ | with_reducible exact Blk.new' _ _ (by first | (simp only [World.size_alloc, World.size_setCell, World.size_drew]; done) | (simp only [World.size_alloc, World.size_setCell, World.size_drew]; omega) | omega) | with_reducible refine Blk.a ?_ _ | with_reducible refine Blk.d ?_ | with_reducible refine Blk.dN ?_ _ | with_reducible refine Blk.s ?_ (by simp only [ne_eq]; omega) _ | with_reducible refine Blk.b ?_ (by with_reducible assumption)))); have hb7 : Below w.heap.size w w7 := (by refine b_grown' ?_ hg7 ?_ (fun g' hg' => by have := (hO2 _ hg').1; omega); exact (by repeat' (first | with_reducible exact Below.refl _ _ | with_reducible assumption | with_reducible refine b_alloc ?_ _ | with_reducible refine b_drewN ?_ _ | with_reducible refine b_drew ?_ | with_reducible refine b_set ?_ (by first | (simp only [World.size_setCell, World.size_alloc, World.size_drew]; omega) | (simp; done) | (simp; omega)) _ | with_reducible refine b_step ?_ (by with_reducible assumption))); (simp only [World.size_setCell, World.size_alloc]; have := hb.size; omega)); have hz7 := hg7.size; (simp only [World.size_setCell, World.size_alloc] at hz7 hat7); obtain ⟨eX7, fX7, lX7⟩ := kX7.cells)
            go_roundw
            case rel =>
              have E := LL.cutTo_on hlt ho
              refine ⟨k + 1, A7, c7, by omega, by go_num, b_set hb7 (by simp only; omega) _, kP7.s (by simp only [ne_eq]; omega) _, kR7.s (by simp only [ne_eq]; omega) _, by rw [E]; simpa using kX7.put 1 (.slice A7 (LL.cutTo xs fr k ++ [LL.cutB fr (LL.nthB xs k)]).length c7), ?_, fun j hj => ?_⟩
              · rw [E]
                refine Own.s (v := .slice A7 (LL.cutTo xs fr k ++ [LL.cutB fr (LL.nthB xs k)]).length c7) hO7 _ (fun j hj => ?_)
                rcases hat7 with h9 | h9
                · rw [h9] at hj; exact (hO2 _ hj).2
                · rw [h9] at hj; cases hj; simp only; omega
              · rw [E] at hj
                rcases hat7 with h9 | h9
                · rw [h9] at hj; exact hO2 _ hj
                · rw [h9] at hj; cases hj; omega
            case measure => simp [intOf]; omega
          · have hmx : max (LL.nthB xs k).i fr = (LL.nthB xs k).i := by omega
            have Hmx := Lib.hid hmx
            clear hmx
            go_wp2_with (at_builtin; go_loud (refine wp_app (xs := LL.cutTo xs fr k) (ys := [LL.cutB fr (LL.nthB xs k)]) (bytes := 48) (e := 133) rfl _ _ _ rfl boxE (.agg (boxC LL.b0).toArray) Try.underlying89 (by kernel_rfl) rfl (by decide) (v := .slice Ao (LL.cutTo xs fr k).length co) rfl (by repeat' (first | with_reducible assumption | with_reducible refine Own.s ?_ _ (fun k hk => by have := hOb k hk; (try simp only); omega) | with_reducible refine Own.a ?_ _ | with_reducible refine Own.d ?_ | with_reducible refine Own.dN ?_ _ | with_reducible refine Own.b ?_ (by with_reducible assumption))) rfl (Rd.one (x := LL.cutB fr (LL.nthB xs k)) (Blk.new' _ _ (by simp)) (by simp only [boxC, LL.cutB, Hmx.out]) (by decide)) (by omega) ?_); intro v7 w7 hO7 hg7 hat7; obtain ⟨A7, c7, rfl, -⟩ := hO7.rd boxE; have kX7 : Blk w7 gx #[.string s, .slice Ao (LL.cutTo xs fr k).length co] 91 := (by refine Blk.grown ?_ hg7 (fun e9 => (hO2 _ e9).2 rfl); exact (by repeat' (first | with_reducible assumption | with_reducible exact Blk.new _ _ _ | with_reducible exact Blk.new' _ _ (by first | (simp only [World.size_alloc, World.size_setCell, World.size_drew]; done) | (simp only [World.size_alloc, World.size_setCell, World.size_drew]; omega) | omega) | with_reducible refine Blk.a ?_ _ | with_reducible refine Blk.d ?_ | with_reducible refine Blk.dN ?_ _ | with_reducible refine Blk.s ?_ (by simp only [ne_eq]; omega) _ | with_reducible refine Blk.b ?_ (by with_reducible assumption)))); have kR7 : Blk w7 (w.heap.size + 1) #[.string ⟨#[]⟩, .slice none 0 0] 91 := (by refine Blk.grown ?_ hg7 (fun e9 => by have := (hO2 _ e9).1; omega); exact (by repeat' (first | with_reducible assumption | with_reducible exact Blk.new _ _ _ | with_reducible exact Blk.new' _ _ (by first | (simp only [World.size_alloc, World.size_setCell, World.size_drew]; done) | (simp only [World.size_alloc, World.size_setCell, World.size_drew]; omega) | omega) | with_reducible refine Blk.a ?_ _ | with_reducible refine Blk.d ?_ | with_reducible refine Blk.dN ?_ _ | with_reducible refine Blk.s ?_ (by simp only [ne_eq]; omega) _ | with_reducible refine Blk.b ?_ (by with_reducible assumption)))); have kP7 : Blk w7 w.heap.size #[.string s, .slice (some ⟨b, off, none⟩) xs.length c] 91 := (by refine Blk.grown ?_ hg7 (fun e9 => by have := (hO2 _ e9).1; omega); exact (by repeat' (first | with_reducible assumption | with_reducible exact Blk.new _ _ _ | with_reducible exact Blk.new' _ _ (by first | (simp only [World.size_alloc, World.size_setCell, World.size_drew]; done) | (simp only [World.size_alloc, World.size_setCell, World.size_drew]; omega) | omega) | with_reducible refine Blk.a ?_ _ | with_reducible refine Blk.d ?_ | with_reducible refine Blk.dN ?_ _ | with_reducible refine Blk.s ?_ (by simp only [ne_eq]; omega) _ | with_reducible refine Blk.b ?_ (by with_reducible assumption)))); have hb7 : Below w.heap.size w w7 := (by refine b_grown' ?_ hg7 ?_ (fun g' hg' => by have := (hO2 _ hg').1; omega); exact (by repeat' (first | with_reducible exact Below.refl _ _ | with_reducible assumption | with_reducible refine b_alloc ?_ _ | with_reducible refine b_drewN ?_ _ | with_reducible refine b_drew ?_ | with_reducible refine b_set ?_ (by first | (simp only [World.size_setCell, World.size_alloc, World.size_drew]; omega) | (simp; done) | (simp; omega)) _ | with_reducible refine b_step ?_ (by with_reducible assumption))); (simp only [World.size_setCell, World.size_alloc]; have := hb.size; omega)); have hz7 := hg7.size; (simp only [World.size_setCell, World.size_alloc] at hz7 hat7); obtain ⟨eX7, fX7, lX7⟩ := kX7.cells)
            go_roundw
            case rel =>
              have E := LL.cutTo_on hlt ho
              refine ⟨k + 1, A7, c7, by omega, by go_num, b_set hb7 (by simp only; omega) _, kP7.s (by simp only [ne_eq]; omega) _, kR7.s (by simp only [ne_eq]; omega) _, by rw [E]; simpa using kX7.put 1 (.slice A7 (LL.cutTo xs fr k ++ [LL.cutB fr (LL.nthB xs k)]).length c7), ?_, fun j hj => ?_⟩
              · rw [E]
                refine Own.s (v := .slice A7 (LL.cutTo xs fr k ++ [LL.cutB fr (LL.nthB xs k)]).length c7) hO7 _ (fun j hj => ?_)
                rcases hat7 with h9 | h9
                · rw [h9] at hj; exact (hO2 _ hj).2
                · rw [h9] at hj; cases hj; simp only; omega
              · rw [E] at hj
                rcases hat7 with h9 | h9
                · rw [h9] at hj; exact hO2 _ hj
                · rw [h9] at hj; cases hj; omega
            case measure => simp [intOf]; omega
        · go_wp2_with fail
          go_roundw
          case rel => exact ⟨k + 1, Ao, co, by omega, by go_num, (by repeat' (first | with_reducible exact Below.refl _ _ | with_reducible assumption | with_reducible refine b_alloc ?_ _ | with_reducible refine b_drewN ?_ _ | with_reducible refine b_drew ?_ | with_reducible refine b_set ?_ (by first | (simp only [World.size_setCell, World.size_alloc, World.size_drew]; omega) | (simp; done) | (simp; omega)) _ | with_reducible refine b_step ?_ (by with_reducible assumption))), (by repeat' (first | with_reducible assumption | with_reducible exact Blk.new _ _ _ | with_reducible exact Blk.new' _ _ (by first | (simp only [World.size_alloc, World.size_setCell, World.size_drew]; done) | (simp only [World.size_alloc, World.size_setCell, World.size_drew]; omega) | omega) | with_reducible refine Blk.a ?_ _ | with_reducible refine Blk.d ?_ | with_reducible refine Blk.dN ?_ _ | with_reducible refine Blk.s ?_ (by simp only [ne_eq]; omega) _ | with_reducible refine Blk.b ?_ (by with_reducible assumption))), (by repeat' (first | with_reducible assumption | with_reducible exact Blk.new _ _ _ | with_reducible exact Blk.new' _ _ (by first | (simp only [World.size_alloc, World.size_setCell, World.size_drew]; done) | (simp only [World.size_alloc, World.size_setCell, World.size_drew]; omega) | omega) | with_reducible refine Blk.a ?_ _ | with_reducible refine Blk.d ?_ | with_reducible refine Blk.dN ?_ _ | with_reducible refine Blk.s ?_ (by simp only [ne_eq]; omega) _ | with_reducible refine Blk.b ?_ (by with_reducible assumption))), by rw [LL.cutTo_off hlt ho]; exact (by repeat' (first | with_reducible assumption | with_reducible exact Blk.new _ _ _ | with_reducible exact Blk.new' _ _ (by first | (simp only [World.size_alloc, World.size_setCell, World.size_drew]; done) | (simp only [World.size_alloc, World.size_setCell, World.size_drew]; omega) | omega) | with_reducible refine Blk.a ?_ _ | with_reducible refine Blk.d ?_ | with_reducible refine Blk.dN ?_ _ | with_reducible refine Blk.s ?_ (by simp only [ne_eq]; omega) _ | with_reducible refine Blk.b ?_ (by with_reducible assumption))), by rw [LL.cutTo_off hlt ho]; exact hO.a _, by rw [LL.cutTo_off hlt ho]; exact hO2⟩
          case measure => simp [intOf]; omega
      · obtain rfl : k = xs.length := by omega
        obtain ⟨ekX, fkX, lkX⟩ := kX.cells; obtain ⟨ekR, fkR, lkR⟩ := kR.cells
        go_wp2_with fail
        (refine bodyPost_ret (res_c rfl _ [.string s, .slice Ao (LL.cutTo xs fr xs.length).length co] rfl _ Try.underlying91 rfl (by kernel_rfl) (by simp only [CellsAt, and_true]; and_intros <;> go_simp)) rfl ?_)
        rw [LL.cutN_yes hT, LL.cutL_yes hT]
        exact ⟨Ao, co, rfl, (hO.s _ (fun k hk => by have := hO2 k hk; simp only; omega)).s _ (fun k hk => by have := hO2 k hk; simp only; omega), fun k hk => by have := hO2 k hk; omega, (by repeat' (first | with_reducible exact Below.refl _ _ | with_reducible assumption | with_reducible refine b_alloc ?_ _ | with_reducible refine b_drewN ?_ _ | with_reducible refine b_drew ?_ | with_reducible refine b_set ?_ (by first | (simp only [World.size_setCell, World.size_alloc, World.size_drew]; omega) | (simp; done) | (simp; omega)) _ | with_reducible refine b_step ?_ (by with_reducible assumption)))⟩
  · rw [decide_eq_false hT]
    obtain ⟨ekR, fkR, lkR⟩ := kR.cells
    go_wp2_with fail
    (refine bodyPost_ret (res_c rfl _ [.string ⟨#[]⟩, .slice none 0 0] rfl _ Try.underlying91 rfl (by kernel_rfl) (by simp only [CellsAt, and_true]; and_intros <;> go_simp)) rfl ?_)
    exact mkT_nil hT (by repeat' (first | with_reducible exact Below.refl _ _ | with_reducible assumption | with_reducible refine b_alloc ?_ _ | with_reducible refine b_drewN ?_ _ | with_reducible refine b_drew ?_ | with_reducible refine b_set ?_ (by first | (simp only [World.size_setCell, World.size_alloc, World.size_drew]; omega) | (simp; done) | (simp; omega)) _ | with_reducible refine b_step ?_ (by with_reducible assumption)))
end Go.Proofs.Ytkpnjnkfbhomgaa

/- Plain mathematics: words, aircraft, staying and going on. -/
set_option linter.unusedVariables false
set_option linter.unusedSimpArgs false
namespace Go.Proofs.Ytkpnjnkfbhomgaa.LL
structure Word where
  kind : Int
  name : ByteArray
  number : Int
  path : Path
structure Craft where
  name : ByteArray
  number : Int
  no : Int
  path : Path
  flown : List Int
/-- a path that is none -/
def NoPath (p : Path) : Prop := p.q = 0 ∧ p.s = 0 ∧ p.steps.length = 0 ∧ p.fr = 0 ∧ p.by_ = 0
instance (p : Path) : Decidable (NoPath p) := inferInstanceAs (Decidable (_ ∧ _))
def WordOk (w : Word) : Prop := In w.kind 1 6 ∧ NameOk w.name ∧ In w.number 1 1000000 ∧ ((w.kind ≤ 2 ∧ Flies w.path) ∨ (2 < w.kind ∧ NoPath w.path))
instance (w : Word) : Decidable (WordOk w) := inferInstanceAs (Decidable (_ ∧ _))
theorem tube_nil (s : ByteArray) : TubeOk s [] ↔ NameOk s := ⟨fun h => h.1, fun h => ⟨h, by simp, by simp⟩⟩
/-! ### waiting on the ground -/
/-- the path whose first step is not entered up to a tick -/
def wtP (p : Path) (t : Int) : Path := ⟨p.q, p.s, tab p.steps.length (upd (fun i => nth p.steps i) 0 (setW (nth p.steps 0) (max (nth p.steps 0).fr (t + 1)) (nth p.steps 0).by_)), p.fr, p.by_⟩
theorem wtP_len (p : Path) (t : Int) : (wtP p t).steps.length = p.steps.length := tab_len _ _
theorem wtP_at (p : Path) (t : Int) (i : Nat) (h : i < p.steps.length) : (wtP p t).at_ i = if i = 0 then setW (nth p.steps 0) (max (nth p.steps 0).fr (t + 1)) (nth p.steps 0).by_ else p.at_ i := tab_getD h
theorem wtP_lowB (p : Path) (t : Int) (h0 : 0 < p.steps.length) (k : Nat) (hk : k ≤ p.steps.length) : lowB (wtP p t) k = if k = 0 then max (lowB p 0) (t + 1) else lowB p k := by
  unfold lowB
  rw [wtP_len]
  by_cases h1 : k < p.steps.length
  · rw [if_pos h1, if_pos h1, wtP_at p t k h1]
    by_cases h2 : k = 0
    · subst h2; rw [if_pos rfl, if_pos rfl, if_pos h0]; rfl
    · rw [if_neg h2, if_neg h2]
  · rw [if_neg h1, if_neg h1, if_neg (by omega)]; rfl
theorem wtP_highB (p : Path) (t : Int) (k : Nat) (hk : k ≤ p.steps.length) : highB (wtP p t) k = highB p k := by
  unfold highB
  rw [wtP_len]
  by_cases h1 : k < p.steps.length
  · rw [if_pos h1, if_pos h1, wtP_at p t k h1]
    by_cases h2 : k = 0
    · subst h2; rw [if_pos rfl]; rfl
    · rw [if_neg h2]
  · rw [if_neg h1, if_neg h1]; rfl
theorem wtP_hold (p : Path) (t : Int) (k : Nat) (hk : k < p.steps.length) : ((wtP p t).at_ k).hold = (p.at_ k).hold := by
  rw [wtP_at p t k hk]
  split
  · rename_i h; subst h; rfl
  · rfl
theorem wtP_flight {p : Path} {t : Int} {f : Nat → Int} (h0 : 0 < p.steps.length) : Flight (wtP p t) f ↔ Flight p f ∧ t < f 0 := by
  constructor
  · intro h
    have l := fun k (hk : k ≤ p.steps.length) => h.low k (by rw [wtP_len]; exact hk)
    have u := fun k (hk : k ≤ p.steps.length) => h.high k (by rw [wtP_len]; exact hk)
    have l0 := l 0 (Nat.zero_le _)
    rw [wtP_lowB p t h0 0 (Nat.zero_le _), if_pos rfl] at l0
    refine ⟨⟨fun k hk => ?_, fun k hk => ?_, fun k hk => h.quick k (by rw [wtP_len]; exact hk), fun k hk hh => h.slow k (by rw [wtP_len]; exact hk) (by rw [wtP_hold p t k hk]; exact hh)⟩, by omega⟩
    · have := l k hk
      rw [wtP_lowB p t h0 k hk] at this
      split at this
      · rename_i e; subst e; omega
      · exact this
    · have := u k hk
      rwa [wtP_highB p t k hk] at this
  · rintro ⟨h, ht⟩
    refine ⟨fun k hk => ?_, fun k hk => ?_, fun k hk => h.quick k (by rw [wtP_len] at hk; exact hk), fun k hk hh => ?_⟩
    · rw [wtP_len] at hk
      rw [wtP_lowB p t h0 k hk]
      have := h.low k hk
      split
      · rename_i e; subst e; omega
      · exact this
    · rw [wtP_len] at hk
      rw [wtP_highB p t k hk]; exact h.high k hk
    · rw [wtP_len] at hk
      exact h.slow k hk (by rw [← wtP_hold p t k hk]; exact hh)
theorem waits_iff {p : Path} {t : Int} (h : PathOk p) : SpansOk (wtP p t) ↔ SpansOk p ∧ t < hi p 0 := by
  have h0 : 0 < p.steps.length := by have := h.2.1.1; omega
  rw [spans_iff (p := wtP p t) h.qs, spans_iff h.qs]
  constructor
  · rintro ⟨f, hf⟩
    obtain ⟨hf, ht⟩ := (wtP_flight h0).1 hf
    exact ⟨⟨f, hf⟩, by have := (hf.in_ 0 (Nat.zero_le _)).2; omega⟩
  · rintro ⟨hS, ht⟩
    exact ⟨hi p, (wtP_flight h0).2 ⟨flight_hi h.qs ((spans_iff h.qs).2 hS), ht⟩⟩
theorem wtP_win {p : Path} {t : Int} (h : PathOk p) : Win (wtP p t) := by
  have W := h.win
  have h0 : 0 < p.steps.length := by have := h.2.1.1; omega
  refine ⟨W.q0, W.q1, W.s0, W.s1, fun k hk => ?_, fun k hk => ?_⟩
  · rw [wtP_len] at hk; rw [wtP_lowB p t h0 k hk]; have := W.low k hk; split
    · rename_i e; subst e; omega
    · exact this
  · rw [wtP_len] at hk; rw [wtP_highB p t k hk]; exact W.high k hk
def Waits (p : Path) (t : Int) : Prop := PathOk p ∧ SpansOk (wtP p t)
instance (p : Path) (t : Int) : Decidable (Waits p t) := inferInstanceAs (Decidable (_ ∧ _))
theorem waits_flies {p : Path} {t : Int} : Waits p t ↔ Flies p ∧ t < hi p 0 := ⟨fun h => ⟨⟨h.1, ((waits_iff h.1).1 h.2).1⟩, ((waits_iff h.1).1 h.2).2⟩, fun h => ⟨h.1.1, (waits_iff h.1.1).2 ⟨h.1.2, h.2⟩⟩⟩
/-- who has flown so can stay where they are behind a tick -/
def Stays (p : Path) (f : List Int) (t : Int) : Prop := if f.length = 0 then Waits p t else CanRest p ((f.length : Int) - 1) (nthI f (f.length - 1)) t
instance (p : Path) (f : List Int) (t : Int) : Decidable (Stays p f t) := by unfold Stays; split <;> infer_instance
theorem stays_none {p : Path} {f : List Int} {t : Int} (h : f.length = 0) : Stays p f t ↔ Waits p t := by unfold Stays; rw [if_pos h]
theorem stays_some {p : Path} {f : List Int} {t : Int} (h : f.length ≠ 0) : Stays p f t ↔ CanRest p ((f.length : Int) - 1) (nthI f (f.length - 1)) t := by unfold Stays; rw [if_neg h]
def MayGo (p : Path) (f : List Int) (t : Int) : Prop := CanNext p f ∧ In t (nextLo p f) (nextHi p f)
instance (p : Path) (f : List Int) (t : Int) : Decidable (MayGo p f t) := inferInstanceAs (Decidable (_ ∧ _))
def CraftOk (c : Craft) (t : Int) : Prop := NameOk c.name ∧ In c.number 1 1000000 ∧ In c.no 0 1000000 ∧ c.no ≠ c.number ∧ In t 0 10000 ∧ CanNext c.path c.flown ∧ (0 < c.flown.length → nthI c.flown (c.flown.length - 1) ≤ t) ∧ Stays c.path c.flown t
instance (c : Craft) (t : Int) : Decidable (CraftOk c t) := inferInstanceAs (Decidable (_ ∧ _))
def Must (c : Craft) (t : Int) : Prop := MayGo c.path c.flown t ∧ ¬ Stays c.path c.flown t
instance (c : Craft) (t : Int) : Decidable (Must c t) := inferInstanceAs (Decidable (_ ∧ _))
/-- the ticks at which one may go on are small -/
theorem MayGo.small {p : Path} {f : List Int} {t : Int} (h : MayGo p f t) : 0 ≤ t ∧ t ≤ 10000 := by
  obtain ⟨hC, h1, h2⟩ := h
  have hC' := hC
  obtain ⟨hP, hl, hS⟩ := hC
  have W := hdP_win hP hl
  unfold nextLo at h1; unfold nextHi at h2
  rw [if_pos hC'] at h1 h2
  have := lo_0 _ W f.length (by rw [hdP_len]; exact hl)
  have := hi_1 _ W f.length (by rw [hdP_len]; exact hl)
  omega
def CanMove (c : Craft) (t : Int) : Prop := NameOk c.name ∧ MayGo c.path c.flown t
instance (c : Craft) (t : Int) : Decidable (CanMove c t) := inferInstanceAs (Decidable (_ ∧ _))
def movedF (c : Craft) (t : Int) : List Int := if CanMove c t then c.flown ++ [t] else c.flown
end Go.Proofs.Ytkpnjnkfbhomgaa.LL
