/- Tubes: names and boxes, of the program and of the reference. -/
import Derived.Test.YtpeojnknfonmlaaJ3
import Derived.Test.YtpeojnknfonmlaaJ5
set_option linter.unusedVariables false
set_option linter.unusedSimpArgs false
namespace Go.Proofs.Ytpeojnknfonmlaa
open Go.RowKit
attribute [local go_sem] w_lt_add w_le_of w_le_add max2_i min2_i
namespace LL
/-- a byte that may stand in a name -/
def CharOk (c : Int) : Prop := 97 ≤ c ∧ c ≤ 122 ∨ 48 ≤ c ∧ c ≤ 57 ∨ c = 45
instance (c : Int) : Decidable (CharOk c) := inferInstanceAs (Decidable (_ ∨ _))
def chr (s : ByteArray) (k : Nat) : Int := if h : k < s.size then (s[k].toNat : Int) else 0
theorem chr_at {s : ByteArray} {k : Nat} (h : k < s.size) : chr s k = (s[k].toNat : Int) := dif_pos h
def AllChr (s : ByteArray) (k : Nat) : Prop := ∀ j, j < k → CharOk (chr s j)
instance (s : ByteArray) (k : Nat) : Decidable (AllChr s k) := inferInstanceAs (Decidable (∀ j, j < k → _))
theorem AllChr.zero (s : ByteArray) : AllChr s 0 := fun _ h => absurd h (Nat.not_lt_zero _)
theorem AllChr.succ {s : ByteArray} {k : Nat} (h : AllChr s k) (hk : CharOk (chr s k)) : AllChr s (k + 1) := fun j hj => by
  rcases Nat.lt_succ_iff_lt_or_eq.1 hj with h1 | rfl
  · exact h j h1
  · exact hk
def NameOk (s : ByteArray) : Prop := In (s.size : Int) 1 8 ∧ AllChr s s.size
instance (s : ByteArray) : Decidable (NameOk s) := inferInstanceAs (Decidable (_ ∧ _))
theorem NameOk.bad {s : ByteArray} {k : Nat} (hk : k < s.size) (h : ¬ CharOk (chr s k)) : ¬ NameOk s := fun h2 => h (h2.2 k hk)
def BoxesOk (l : List Box) : Prop := l.length ≤ 40 ∧ ∀ b ∈ l, BoxOk b
instance (l : List Box) : Decidable (BoxesOk l) := inferInstanceAs (Decidable (_ ∧ _))
def TubeOk (s : ByteArray) (l : List Box) : Prop := NameOk s ∧ BoxesOk l
instance (s : ByteArray) (l : List Box) : Decidable (TubeOk s l) := inferInstanceAs (Decidable (_ ∧ _))
theorem BoxesOk.bad {l : List Box} {k : Nat} (hk : k < l.length) (h : ¬ BoxOk (nthB l k)) : ¬ BoxesOk l := fun h2 => h (h2.2 _ (nthB_mem hk))
end LL
set_option maxHeartbeats 2000000 in
theorem spec_l12NameOk_c (s : ByteArray) (hs : s.size ≤ 9223372036854775807) (w : World) : Calls Try.prog 64 #[.string s] w fun e w' => e = .returned (.bool (decide (LL.NameOk s))) ∧ w = w' := by
  by_cases H1 : LL.In (↑s.size) 1 8
  · have h10 := H1.1
    have h11 := H1.2
    go_enter Try.func64, Try.ntmps64
    go_wp2_with (go_at_call 104; refine (spec_l11In_c _ _ _ _).mono ?_; rintro e w' ⟨rfl, rfl⟩)
    go_loop [3] (fun i => ∃ k : Nat, k ≤ s.size ∧ i = .int .i64 k ∧ LL.AllChr s k) (fun i => s.size - (intOf i).toNat)
    case atStart => exact ⟨0, Nat.zero_le _, rfl, LL.AllChr.zero _⟩
    case round =>
      obtain ⟨k, hk, rfl, hg⟩ := hrel
      by_cases hlt : k < s.size
      · have hc := LL.chr_at hlt
        have Hc := Lib.hid hc
        clear hc
        go_wp2
        all_goals first
          | (go_ret; refine ⟨rd_ (iff_of_false (LL.NameOk.bad hlt (fun h9 => ?_)) (by simp)), rfl⟩; rw [Hc.out] at h9; simp only [LL.CharOk] at h9; (try simp at *); omega)
          | (go_round; (case rel => refine ⟨k + 1, by omega, by go_num, hg.succ ?_⟩; rw [Hc.out]; simp only [LL.CharOk]; (try simp at *); omega); (case measure => simp [intOf]; omega))
      · obtain rfl : k = s.size := by omega
        go_wp2
        go_ret
        exact ⟨rd_ (iff_of_true ⟨H1, hg⟩ rfl), rfl⟩
  · go_enter Try.func64, Try.ntmps64
    go_wp2_with (go_at_call 104; refine (spec_l11In_c _ _ _ _).mono ?_; rintro e w' ⟨rfl, rfl⟩)
    go_ret
    exact ⟨rd_ (iff_of_false (fun h9 => H1 h9.1) (by simp)), rfl⟩
set_option maxHeartbeats 2000000 in
theorem spec_ProbeTubeOk_c (s : ByteArray) (xs : List LL.Box) (A : Option Addr) (c : Nat) (hs : s.size ≤ 9223372036854775807) (w : World) (h : RdB w A xs.length c xs) : Calls Try.prog 14 #[.agg #[.string s, .slice A xs.length c]] w fun e w' => e = .returned (.bool (decide (LL.TubeOk s xs))) ∧ Below w.heap.size w w' := by
  have hroom := h.room
  by_cases hN : LL.NameOk s
  · by_cases hl40 : xs.length ≤ 40
    · go_enter Try.func14, Try.ntmps14
      go_wp2_with (go_at_call 64; refine (spec_l12NameOk_c _ hs _).mono ?_; rintro e w' ⟨rfl, rfl⟩)
      go_loopw [3] (fun i wr => ∃ k : Nat, k ≤ xs.length ∧ i = .int .i64 k ∧ LL.All_ LL.BoxOk xs k ∧ Blk wr w.heap.size #[.string s, .slice A xs.length c] 25 ∧ Below w.heap.size w wr) (fun i _ => xs.length - (intOf i).toNat)
      case atStart => exact ⟨0, Nat.zero_le _, rfl, LL.All_.zero _ _, (by repeat' (first | with_reducible assumption | with_reducible exact Blk.new _ _ _ | with_reducible exact Blk.new' _ _ (by first | (simp only [World.size_alloc, World.size_setCell, World.size_drew]; done) | (simp only [World.size_alloc, World.size_setCell, World.size_drew]; omega) | omega) | with_reducible refine Blk.a ?_ _ | with_reducible refine Blk.d ?_ | with_reducible refine Blk.dN ?_ _ | with_reducible refine Blk.s ?_ (by simp only [ne_eq]; omega) _ | with_reducible refine Blk.b ?_ (by with_reducible assumption))), (by repeat' (first | with_reducible exact Below.refl _ _ | with_reducible assumption | with_reducible refine b_alloc ?_ _ | with_reducible refine b_drewN ?_ _ | with_reducible refine b_drew ?_ | with_reducible refine b_set ?_ (by first | (simp only [World.size_setCell, World.size_alloc, World.size_drew]; omega) | (simp; done) | (simp; omega)) _ | with_reducible refine b_step ?_ (by with_reducible assumption)))⟩
      case round =>
        obtain ⟨k, hk, rfl, hg, kT, hb⟩ := hrel
        obtain ⟨eT, fT, lT⟩ := kT.cells
        obtain ⟨gc, gf, gl⟩ := bcell hb
        by_cases hlt : k < xs.length
        · obtain ⟨b, off, rfl, hbw⟩ := h.addr (by omega)
          obtain ⟨c0, c1, c2, c3, c4, c5⟩ := h.S6 k hlt
          by_cases hB : LL.BoxOk (LL.nthB xs k)
          · go_wp2_with (go_at_call 65; go_loud (refine (spec_ProbeBoxOk_c _ _).mono ?_); rintro e w2 ⟨rfl, hb⟩; (repeat (with_reducible first | replace hb := b_un hb | replace hb := b_unN hb)); obtain ⟨hc, hf, hl⟩ := bcell hb; obtain ⟨gc, gf, gl⟩ := bcell (b_step (w := w) (by repeat' (first | with_reducible exact Below.refl _ _ | with_reducible assumption | with_reducible refine b_alloc ?_ _ | with_reducible refine b_drewN ?_ _ | with_reducible refine b_drew ?_ | with_reducible refine b_set ?_ (by first | (simp only [World.size_setCell, World.size_alloc, World.size_drew]; omega) | (simp; done) | (simp; omega)) _ | with_reducible refine b_step ?_ (by with_reducible assumption))) hb); have hz := hb.size; (try simp at hz); skip)
            go_roundw
            case rel => exact ⟨k + 1, by omega, by go_num, hg.succ hB, kT.b hb, (by repeat' (first | with_reducible exact Below.refl _ _ | with_reducible assumption | with_reducible refine b_alloc ?_ _ | with_reducible refine b_drewN ?_ _ | with_reducible refine b_drew ?_ | with_reducible refine b_set ?_ (by first | (simp only [World.size_setCell, World.size_alloc, World.size_drew]; omega) | (simp; done) | (simp; omega)) _ | with_reducible refine b_step ?_ (by with_reducible assumption)))⟩
            case measure => simp [intOf]; omega
          · go_wp2_with (go_at_call 65; go_loud (refine (spec_ProbeBoxOk_c _ _).mono ?_); rintro e w2 ⟨rfl, hb⟩; (repeat (with_reducible first | replace hb := b_un hb | replace hb := b_unN hb)); obtain ⟨hc, hf, hl⟩ := bcell hb; obtain ⟨gc, gf, gl⟩ := bcell (b_step (w := w) (by repeat' (first | with_reducible exact Below.refl _ _ | with_reducible assumption | with_reducible refine b_alloc ?_ _ | with_reducible refine b_drewN ?_ _ | with_reducible refine b_drew ?_ | with_reducible refine b_set ?_ (by first | (simp only [World.size_setCell, World.size_alloc, World.size_drew]; omega) | (simp; done) | (simp; omega)) _ | with_reducible refine b_step ?_ (by with_reducible assumption))) hb); have hz := hb.size; (try simp at hz); skip)
            go_ret
            exact ⟨rd_ (iff_of_false (fun h9 => LL.BoxesOk.bad hlt hB h9.2) (by simp)), (by repeat' (first | with_reducible exact Below.refl _ _ | with_reducible assumption | with_reducible refine b_alloc ?_ _ | with_reducible refine b_drewN ?_ _ | with_reducible refine b_drew ?_ | with_reducible refine b_set ?_ (by first | (simp only [World.size_setCell, World.size_alloc, World.size_drew]; omega) | (simp; done) | (simp; omega)) _ | with_reducible refine b_step ?_ (by with_reducible assumption)))⟩
        · obtain rfl : k = xs.length := by omega
          go_wp2
          go_ret
          exact ⟨rd_ (iff_of_true ⟨hN, hl40, hg.all⟩ rfl), hb⟩
    · go_enter Try.func14, Try.ntmps14
      go_wp2_with (go_at_call 64; refine (spec_l12NameOk_c _ hs _).mono ?_; rintro e w' ⟨rfl, rfl⟩)
      go_ret
      exact ⟨rd_ (iff_of_false (fun h9 => hl40 h9.2.1) (by simp)), (by repeat' (first | with_reducible exact Below.refl _ _ | with_reducible assumption | with_reducible refine b_alloc ?_ _ | with_reducible refine b_drewN ?_ _ | with_reducible refine b_drew ?_ | with_reducible refine b_set ?_ (by first | (simp only [World.size_setCell, World.size_alloc, World.size_drew]; omega) | (simp; done) | (simp; omega)) _ | with_reducible refine b_step ?_ (by with_reducible assumption)))⟩
  · go_enter Try.func14, Try.ntmps14
    go_wp2_with (go_at_call 64; refine (spec_l12NameOk_c _ hs _).mono ?_; rintro e w' ⟨rfl, rfl⟩)
    go_ret
    exact ⟨rd_ (iff_of_false (fun h9 => hN h9.1) (by simp)), (by repeat' (first | with_reducible exact Below.refl _ _ | with_reducible assumption | with_reducible refine b_alloc ?_ _ | with_reducible refine b_drewN ?_ _ | with_reducible refine b_drew ?_ | with_reducible refine b_set ?_ (by first | (simp only [World.size_setCell, World.size_alloc, World.size_drew]; omega) | (simp; done) | (simp; omega)) _ | with_reducible refine b_step ?_ (by with_reducible assumption)))⟩
set_option maxHeartbeats 4000000 in
theorem impl_ProbeTubeOk_c (s : ByteArray) (xs : List LL.Box) (A : Option Addr) (c : Nat) (hs : s.size ≤ 9223372036854775807) (w : World) (h : RdB w A xs.length c xs) : Calls Try.prog 61 #[.agg #[.string s, .slice A xs.length c]] w fun e w' => e = .returned (.bool (decide (LL.TubeOk s xs))) ∧ Below w.heap.size w w' := by
  have hroom := h.room
  by_cases hN1 : LL.In (s.size : Int) 1 8
  · have h10 := hN1.1
    have h11 := hN1.2
    by_cases hl40 : xs.length ≤ 40
    · go_enter Try.func61, Try.ntmps61
      go_wp2_with (go_at_call 70; refine (impl_in_c _ _ _ _).mono ?_; rintro e w' ⟨rfl, rfl⟩)
      go_loopw [3] (fun i wr => ∃ k : Nat, k ≤ s.size ∧ i = .int .i64 k ∧ LL.AllChr s k ∧ Blk wr w.heap.size #[.string s, .slice A xs.length c] 25 ∧ Below w.heap.size w wr) (fun i _ => s.size - (intOf i).toNat)
      case atStart => exact ⟨0, Nat.zero_le _, rfl, LL.AllChr.zero _, (by repeat' (first | with_reducible assumption | with_reducible exact Blk.new _ _ _ | with_reducible exact Blk.new' _ _ (by first | (simp only [World.size_alloc, World.size_setCell, World.size_drew]; done) | (simp only [World.size_alloc, World.size_setCell, World.size_drew]; omega) | omega) | with_reducible refine Blk.a ?_ _ | with_reducible refine Blk.d ?_ | with_reducible refine Blk.dN ?_ _ | with_reducible refine Blk.s ?_ (by simp only [ne_eq]; omega) _ | with_reducible refine Blk.b ?_ (by with_reducible assumption))), (by repeat' (first | with_reducible exact Below.refl _ _ | with_reducible assumption | with_reducible refine b_alloc ?_ _ | with_reducible refine b_drewN ?_ _ | with_reducible refine b_drew ?_ | with_reducible refine b_set ?_ (by first | (simp only [World.size_setCell, World.size_alloc, World.size_drew]; omega) | (simp; done) | (simp; omega)) _ | with_reducible refine b_step ?_ (by with_reducible assumption)))⟩
      case round =>
        obtain ⟨k, hk, rfl, hg, kT, hb⟩ := hrel
        obtain ⟨eT, fT, lT⟩ := kT.cells
        by_cases hlt : k < s.size
        · have hc := LL.chr_at hlt
          have Hc := Lib.hid hc
          clear hc
          go_wp2
          all_goals first
            | (go_ret; refine ⟨rd_ (iff_of_false (fun h8 => LL.NameOk.bad hlt (fun h9 => ?_) h8.1) (by simp)), (by repeat' (first | with_reducible exact Below.refl _ _ | with_reducible assumption | with_reducible refine b_alloc ?_ _ | with_reducible refine b_drewN ?_ _ | with_reducible refine b_drew ?_ | with_reducible refine b_set ?_ (by first | (simp only [World.size_setCell, World.size_alloc, World.size_drew]; omega) | (simp; done) | (simp; omega)) _ | with_reducible refine b_step ?_ (by with_reducible assumption)))⟩; rw [Hc.out] at h9; simp only [LL.CharOk] at h9; (try simp at *); omega)
            | (go_roundw; (case rel => refine ⟨k + 1, by omega, by go_num, hg.succ ?_, kT, hb⟩; rw [Hc.out]; simp only [LL.CharOk]; (try simp at *); omega); (case measure => simp [intOf]; omega))
        · have hks : k = s.size := by omega
          rw [hks] at hg
          clear hks
          have hdk : decide ((k : Int) < (s.size : Int)) = false := by simp; omega
          have hdk2 : decide (k < s.size) = false := by simp; omega
          go_wp2
          obtain ⟨wo, rfl⟩ : ∃ wo : World, wo = wr := ⟨_, rfl⟩
          go_loopw [51] (fun i wr => ∃ m : Nat, m ≤ xs.length ∧ i = .int .i64 m ∧ LL.All_ LL.BoxOk xs m ∧ Below w.heap.size w wr) (fun i _ => xs.length - (intOf i).toNat)
          case atStart => exact ⟨0, Nat.zero_le _, rfl, LL.All_.zero _ _, (by repeat' (first | with_reducible exact Below.refl _ _ | with_reducible assumption | with_reducible refine b_alloc ?_ _ | with_reducible refine b_drewN ?_ _ | with_reducible refine b_drew ?_ | with_reducible refine b_set ?_ (by first | (simp only [World.size_setCell, World.size_alloc, World.size_drew]; omega) | (simp; done) | (simp; omega)) _ | with_reducible refine b_step ?_ (by with_reducible assumption)))⟩
          case round =>
            clear kT hb eT fT lT
            obtain ⟨m, hm, rfl, hgm, hb⟩ := hrel
            obtain ⟨gc, gf, gl⟩ := bcell hb
            by_cases hltm : m < xs.length
            · obtain ⟨b, off, rfl, hbw⟩ := h.addr (by omega)
              obtain ⟨c0, c1, c2, c3, c4, c5⟩ := h.S6 m hltm
              by_cases hB : LL.BoxOk (LL.nthB xs m)
              · go_wp2_with (go_at_call 102; go_loud (refine (impl_ProbeBoxOk_c _ _).mono ?_); rintro e w2 ⟨rfl, hb⟩; (repeat (with_reducible first | replace hb := b_un hb | replace hb := b_unN hb)); obtain ⟨hc, hf, hl⟩ := bcell hb; obtain ⟨gc, gf, gl⟩ := bcell (b_step (w := w) (by repeat' (first | with_reducible exact Below.refl _ _ | with_reducible assumption | with_reducible refine b_alloc ?_ _ | with_reducible refine b_drewN ?_ _ | with_reducible refine b_drew ?_ | with_reducible refine b_set ?_ (by first | (simp only [World.size_setCell, World.size_alloc, World.size_drew]; omega) | (simp; done) | (simp; omega)) _ | with_reducible refine b_step ?_ (by with_reducible assumption))) hb); have hz := hb.size; (try simp at hz); skip)
                go_roundw
                case rel => exact ⟨m + 1, by omega, by go_num, hgm.succ hB, (by repeat' (first | with_reducible exact Below.refl _ _ | with_reducible assumption | with_reducible refine b_alloc ?_ _ | with_reducible refine b_drewN ?_ _ | with_reducible refine b_drew ?_ | with_reducible refine b_set ?_ (by first | (simp only [World.size_setCell, World.size_alloc, World.size_drew]; omega) | (simp; done) | (simp; omega)) _ | with_reducible refine b_step ?_ (by with_reducible assumption)))⟩
                case measure => simp [intOf]; omega
              · go_wp2_with (go_at_call 102; go_loud (refine (impl_ProbeBoxOk_c _ _).mono ?_); rintro e w2 ⟨rfl, hb⟩; (repeat (with_reducible first | replace hb := b_un hb | replace hb := b_unN hb)); obtain ⟨hc, hf, hl⟩ := bcell hb; obtain ⟨gc, gf, gl⟩ := bcell (b_step (w := w) (by repeat' (first | with_reducible exact Below.refl _ _ | with_reducible assumption | with_reducible refine b_alloc ?_ _ | with_reducible refine b_drewN ?_ _ | with_reducible refine b_drew ?_ | with_reducible refine b_set ?_ (by first | (simp only [World.size_setCell, World.size_alloc, World.size_drew]; omega) | (simp; done) | (simp; omega)) _ | with_reducible refine b_step ?_ (by with_reducible assumption))) hb); have hz := hb.size; (try simp at hz); skip)
                go_ret
                exact ⟨rd_ (iff_of_false (fun h9 => LL.BoxesOk.bad hltm hB h9.2) (by simp)), (by repeat' (first | with_reducible exact Below.refl _ _ | with_reducible assumption | with_reducible refine b_alloc ?_ _ | with_reducible refine b_drewN ?_ _ | with_reducible refine b_drew ?_ | with_reducible refine b_set ?_ (by first | (simp only [World.size_setCell, World.size_alloc, World.size_drew]; omega) | (simp; done) | (simp; omega)) _ | with_reducible refine b_step ?_ (by with_reducible assumption)))⟩
            · obtain rfl : m = xs.length := by omega
              go_wp2
              go_ret
              exact ⟨rd_ (iff_of_true ⟨⟨hN1, hg⟩, hl40, hgm.all⟩ rfl), hb⟩
    · go_enter Try.func61, Try.ntmps61
      go_wp2_with (go_at_call 70; refine (impl_in_c _ _ _ _).mono ?_; rintro e w' ⟨rfl, rfl⟩)
      go_ret
      exact ⟨rd_ (iff_of_false (fun h9 => hl40 h9.2.1) (by simp)), (by repeat' (first | with_reducible exact Below.refl _ _ | with_reducible assumption | with_reducible refine b_alloc ?_ _ | with_reducible refine b_drewN ?_ _ | with_reducible refine b_drew ?_ | with_reducible refine b_set ?_ (by first | (simp only [World.size_setCell, World.size_alloc, World.size_drew]; omega) | (simp; done) | (simp; omega)) _ | with_reducible refine b_step ?_ (by with_reducible assumption)))⟩
  · go_enter Try.func61, Try.ntmps61
    go_wp2_with (go_at_call 70; refine (impl_in_c _ _ _ _).mono ?_; rintro e w' ⟨rfl, rfl⟩)
    go_ret
    exact ⟨rd_ (iff_of_false (fun h9 => hN1 h9.1.1) (by simp)), (by repeat' (first | with_reducible exact Below.refl _ _ | with_reducible assumption | with_reducible refine b_alloc ?_ _ | with_reducible refine b_drewN ?_ _ | with_reducible refine b_drew ?_ | with_reducible refine b_set ?_ (by first | (simp only [World.size_setCell, World.size_alloc, World.size_drew]; omega) | (simp; done) | (simp; omega)) _ | with_reducible refine b_step ?_ (by with_reducible assumption)))⟩
end Go.Proofs.Ytpeojnknfonmlaa
