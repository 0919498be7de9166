/- Tubes within tubes. -/
import Derived.Test.YtbpkaoagpndnpaaP2
set_option linter.unusedVariables false
set_option linter.unusedSimpArgs false
namespace Go.Proofs.Ytbpkaoagpndnpaa
open Go.RowKit
attribute [local go_sem] w_lt_add w_le_of w_le_add max2_i min2_i
namespace LL
def TubeSmall (sa : ByteArray) (xa : List Box) (sb : ByteArray) (xb : List Box) : Prop := TubeOk sa xa ∧ TubeOk sb xb ∧ ∀ a ∈ xa, ∃ b ∈ xb, Cover b a
instance (sa : ByteArray) (xa : List Box) (sb : ByteArray) (xb : List Box) : Decidable (TubeSmall sa xa sb xb) := inferInstanceAs (Decidable (_ ∧ _ ∧ (∀ a ∈ xa, ∃ b ∈ xb, _)))
theorem Found.any {a : Box} {B : List Box} {fd : Bool} (h : Found False a B B.length fd) : fd = true ↔ ∃ b ∈ B, Cover b a := by unfold Found at h; rw [h, Some_.all]; simp
end LL
theorem spec_l12Cover_c (b s : LL.Box) (w : World) : Calls Try.prog 73 #[.agg #[.int .i64 b.x, .int .i64 b.y, .int .i64 b.lo, .int .i64 b.hi, .int .i64 b.i, .int .i64 b.o], .agg #[.int .i64 s.x, .int .i64 s.y, .int .i64 s.lo, .int .i64 s.hi, .int .i64 s.i, .int .i64 s.o]] w fun e w' => e = .returned (.bool (decide (LL.Cover b s))) ∧ Below w.heap.size w w' := by
  go_enter Try.func73, Try.ntmps73
  go_wp2
  all_goals go_ret
  all_goals exact ⟨rd_ (by simp [LL.Cover] at * <;> omega), (by repeat' (first | with_reducible exact Below.refl _ _ | with_reducible assumption | with_reducible refine b_alloc ?_ _ | with_reducible refine b_drewN ?_ _ | with_reducible refine b_drew ?_ | with_reducible refine b_set ?_ (by first | (simp only [World.size_setCell, World.size_alloc, World.size_drew]; omega) | (simp; done) | (simp; omega)) _ | with_reducible refine b_step ?_ (by with_reducible assumption)))⟩
theorem impl_within_c (s b : LL.Box) (w : World) : Calls Try.prog 74 #[.agg #[.int .i64 s.x, .int .i64 s.y, .int .i64 s.lo, .int .i64 s.hi, .int .i64 s.i, .int .i64 s.o], .agg #[.int .i64 b.x, .int .i64 b.y, .int .i64 b.lo, .int .i64 b.hi, .int .i64 b.i, .int .i64 b.o]] w fun e w' => e = .returned (.bool (decide (LL.Cover b s))) ∧ Below w.heap.size w w' := by
  go_enter Try.func74, Try.ntmps74
  go_wp2
  all_goals go_ret
  all_goals exact ⟨rd_ (by simp [LL.Cover] at * <;> omega), (by repeat' (first | with_reducible exact Below.refl _ _ | with_reducible assumption | with_reducible refine b_alloc ?_ _ | with_reducible refine b_drewN ?_ _ | with_reducible refine b_drew ?_ | with_reducible refine b_set ?_ (by first | (simp only [World.size_setCell, World.size_alloc, World.size_drew]; omega) | (simp; done) | (simp; omega)) _ | with_reducible refine b_step ?_ (by with_reducible assumption)))⟩
set_option maxRecDepth 100000 in
set_option maxHeartbeats 4000000 in
theorem impl_ProbeSmaller_c (sa : ByteArray) (xa : List LL.Box) (sb : ByteArray) (xb : List LL.Box) (A : Option Addr) (c : Nat) (B : Option Addr) (d : Nat) (hsa : sa.size ≤ 9223372036854775807) (hsb : sb.size ≤ 9223372036854775807) (w : World) (h : RdB w A xa.length c xa) (h' : RdB w B xb.length d xb) : Calls Try.prog 47 #[.agg #[.string sa, .slice A xa.length c], .agg #[.string sb, .slice B xb.length d]] w fun e w' => e = .returned (.bool (decide (LL.TubeSmall sa xa sb xb))) ∧ Below w.heap.size w w' := by
  have hroom := h.room
  have hroom' := h'.room
  by_cases hA : LL.TubeOk sa xa
  · by_cases hB : LL.TubeOk sb xb
    · go_enter Try.func47, Try.ntmps47
      go_wp2_with (go_at_call 42; go_loud (refine (impl_ProbeTubeOk_c _ _ _ _ (by assumption) _ (by exact Rd.mono (by with_reducible assumption) (by repeat' (first | with_reducible exact Below.refl _ _ | with_reducible assumption | with_reducible refine b_alloc ?_ _ | with_reducible refine b_drewN ?_ _ | with_reducible refine b_drew ?_ | with_reducible refine b_set ?_ (by first | (simp only [World.size_setCell, World.size_alloc, World.size_drew]; omega) | (simp; done) | (simp; omega)) _ | with_reducible refine b_step ?_ (by with_reducible assumption))))).mono ?_); rintro e w9 ⟨rfl, hb⟩; (repeat (with_reducible first | replace hb := b_un hb | replace hb := b_unN hb)); obtain ⟨hc, hf, hl⟩ := bcell hb; obtain ⟨gc, gf, gl⟩ := bcell (b_step (w := w) (by repeat' (first | with_reducible exact Below.refl _ _ | with_reducible assumption | with_reducible refine b_alloc ?_ _ | with_reducible refine b_drewN ?_ _ | with_reducible refine b_drew ?_ | with_reducible refine b_set ?_ (by first | (simp only [World.size_setCell, World.size_alloc, World.size_drew]; omega) | (simp; done) | (simp; omega)) _ | with_reducible refine b_step ?_ (by with_reducible assumption))) hb); have hz := hb.size; (try simp at hz); have yw9_0 : w.heap.size < w9.heap.size := (by omega); have yw9_1 : w.heap.size + 1 < w9.heap.size := (by omega))
      have kA0 : Blk w9 w.heap.size #[.string sa, .slice A xa.length c] 69 := (by repeat' (first | with_reducible assumption | with_reducible exact Blk.new _ _ _ | with_reducible exact Blk.new' _ _ (by first | (simp only [World.size_alloc, World.size_setCell, World.size_drew]; done) | (simp only [World.size_alloc, World.size_setCell, World.size_drew]; omega) | omega) | with_reducible refine Blk.a ?_ _ | with_reducible refine Blk.d ?_ | with_reducible refine Blk.dN ?_ _ | with_reducible refine Blk.s ?_ (by simp only [ne_eq]; omega) _ | with_reducible refine Blk.b ?_ (by with_reducible assumption)))
      have kB0 : Blk w9 (w.heap.size + 1) #[.string sb, .slice B xb.length d] 69 := (by repeat' (first | with_reducible assumption | with_reducible exact Blk.new _ _ _ | with_reducible exact Blk.new' _ _ (by first | (simp only [World.size_alloc, World.size_setCell, World.size_drew]; done) | (simp only [World.size_alloc, World.size_setCell, World.size_drew]; omega) | omega) | with_reducible refine Blk.a ?_ _ | with_reducible refine Blk.d ?_ | with_reducible refine Blk.dN ?_ _ | with_reducible refine Blk.s ?_ (by simp only [ne_eq]; omega) _ | with_reducible refine Blk.b ?_ (by with_reducible assumption)))
      have hb0 : Below w.heap.size w w9 := (by repeat' (first | with_reducible exact Below.refl _ _ | with_reducible assumption | with_reducible refine b_alloc ?_ _ | with_reducible refine b_drewN ?_ _ | with_reducible refine b_drew ?_ | with_reducible refine b_set ?_ (by first | (simp only [World.size_setCell, World.size_alloc, World.size_drew]; omega) | (simp; done) | (simp; omega)) _ | with_reducible refine b_step ?_ (by with_reducible assumption)))
      clear hb hc hf hl gc gf gl hz yw9_0 yw9_1
      clear hb hc hf hl gc gf gl hz yw9_0 yw9_1
      go_loopw [21] (fun i wr => ∃ k : Nat, k ≤ xa.length ∧ i = .int .i64 k ∧ LL.All_ (fun a => ∃ b ∈ xb, LL.Cover b a) xa k ∧ Blk wr w.heap.size #[.string sa, .slice A xa.length c] 69 ∧ Blk wr (w.heap.size + 1) #[.string sb, .slice B xb.length d] 69 ∧ Below w.heap.size w wr) (fun i _ => xa.length - (intOf i).toNat)
      case atStart => exact ⟨0, Nat.zero_le _, rfl, LL.All_.zero _ _, kA0, kB0, hb0⟩
      case round =>
        clear kA0 kB0 hb0
        obtain ⟨k, hk, rfl, hn, kA, kB, hb⟩ := hrel
        obtain ⟨eA, fA, lA⟩ := kA.cells
        obtain ⟨eB, fB, lB⟩ := kB.cells
        obtain ⟨gc, gf, gl⟩ := bcell hb
        by_cases hlt : k < xa.length
        · obtain ⟨b, off, rfl, hbw⟩ := h.addr (by omega)
          obtain ⟨c0, c1, c2, c3, c4, c5⟩ := h.S6 k hlt
          go_wp2
          obtain ⟨wo, rfl⟩ : ∃ wo : World, wo = wr := ⟨_, rfl⟩
          go_loopw [7, 28] (fun f i w3 => ∃ (m : Nat) (fd : Bool), m ≤ xb.length ∧ i = .int .i64 m ∧ f = .bool fd ∧ LL.Found False (LL.nthB xa k) xb m fd ∧ Blk w3 wo.heap.size #[.int .i64 (LL.nthB xa k).x, .int .i64 (LL.nthB xa k).y, .int .i64 (LL.nthB xa k).lo, .int .i64 (LL.nthB xa k).hi, .int .i64 (LL.nthB xa k).i, .int .i64 (LL.nthB xa k).o] 32 ∧ Blk w3 w.heap.size #[.string sa, .slice (some ⟨b, off, none⟩) xa.length c] 69 ∧ Blk w3 (w.heap.size + 1) #[.string sb, .slice B xb.length d] 69 ∧ Below w.heap.size w w3) (fun _ i _ => xb.length - (intOf i).toNat)
          case atStart => exact ⟨0, _, Nat.zero_le _, rfl, rfl, by simpa using LL.Found.zero (V := False) (LL.nthB xa k) xb, Blk.new _ _ _, kA.a _, kB.a _, (by repeat' (first | with_reducible exact Below.refl _ _ | with_reducible assumption | with_reducible refine b_alloc ?_ _ | with_reducible refine b_drewN ?_ _ | with_reducible refine b_drew ?_ | with_reducible refine b_set ?_ (by first | (simp only [World.size_setCell, World.size_alloc, World.size_drew]; omega) | (simp; done) | (simp; omega)) _ | with_reducible refine b_step ?_ (by with_reducible assumption)))⟩
          case round =>
            clear kA kB hb eA fA lA eB fB lB gc gf gl
            obtain ⟨m, fd, hm, rfl, rfl, hF, kX, kA, kB, hb⟩ := hrel
            obtain ⟨eA, fA, lA⟩ := kA.cells
            obtain ⟨eB, fB, lB⟩ := kB.cells
            obtain ⟨eX, fX, lX⟩ := kX.cells
            obtain ⟨gc, gf, gl⟩ := bcell hb
            by_cases hlm : m < xb.length
            · obtain ⟨b', off', rfl, hbw'⟩ := h'.addr (by omega)
              obtain ⟨d0, d1, d2, d3, d4, d5⟩ := h'.S6 m hlm
              cases fd
              · go_wp2_with (go_at_call 74; go_loud (refine (impl_within_c _ _ _).mono ?_); rintro e w8 ⟨rfl, hb⟩; (repeat (with_reducible first | replace hb := b_un hb | replace hb := b_unN hb)); obtain ⟨hc, hf, hl⟩ := bcell hb; obtain ⟨gc, gf, gl⟩ := bcell (b_step (w := w) (by repeat' (first | with_reducible exact Below.refl _ _ | with_reducible assumption | with_reducible refine b_alloc ?_ _ | with_reducible refine b_drewN ?_ _ | with_reducible refine b_drew ?_ | with_reducible refine b_set ?_ (by first | (simp only [World.size_setCell, World.size_alloc, World.size_drew]; omega) | (simp; done) | (simp; omega)) _ | with_reducible refine b_step ?_ (by with_reducible assumption))) hb); have hz := hb.size; (try simp at hz); skip)
                go_roundw
                case rel => exact ⟨m + 1, _, by omega, by go_num, rfl, hF.succ (by simp), (kX.a _).b hb, (kA.a _).b hb, (kB.a _).b hb, (by repeat' (first | with_reducible exact Below.refl _ _ | with_reducible assumption | with_reducible refine b_alloc ?_ _ | with_reducible refine b_drewN ?_ _ | with_reducible refine b_drew ?_ | with_reducible refine b_set ?_ (by first | (simp only [World.size_setCell, World.size_alloc, World.size_drew]; omega) | (simp; done) | (simp; omega)) _ | with_reducible refine b_step ?_ (by with_reducible assumption)))⟩
                case measure => simp [intOf]; omega
              · go_wp2
                go_roundw
                case rel => exact ⟨m + 1, _, by omega, by go_num, rfl, hF.succ (by simp), kX.a _, kA.a _, kB.a _, (by repeat' (first | with_reducible exact Below.refl _ _ | with_reducible assumption | with_reducible refine b_alloc ?_ _ | with_reducible refine b_drewN ?_ _ | with_reducible refine b_drew ?_ | with_reducible refine b_set ?_ (by first | (simp only [World.size_setCell, World.size_alloc, World.size_drew]; omega) | (simp; done) | (simp; omega)) _ | with_reducible refine b_step ?_ (by with_reducible assumption)))⟩
                case measure => simp [intOf]; omega
            · obtain rfl : m = xb.length := by omega
              cases fd
              · go_wp2
                go_ret
                exact ⟨rd_ (iff_of_false (fun h9 => absurd (hF.any.2 (h9.2.2 _ (LL.nthB_mem hlt))) (by simp)) (by simp)), hb⟩
              · go_wp2
                go_roundw
                case rel => exact ⟨k + 1, by omega, by go_num, hn.succ (hF.any.1 rfl), kA, kB, hb⟩
                case measure => simp [intOf]; omega
        · obtain rfl : k = xa.length := by omega
          go_wp2
          go_ret
          exact ⟨rd_ (iff_of_true ⟨hA, hB, hn.all⟩ rfl), hb⟩
    · go_enter Try.func47, Try.ntmps47
      go_wp2_with (go_at_call 42; go_loud (refine (impl_ProbeTubeOk_c _ _ _ _ (by assumption) _ (by exact Rd.mono (by with_reducible assumption) (by repeat' (first | with_reducible exact Below.refl _ _ | with_reducible assumption | with_reducible refine b_alloc ?_ _ | with_reducible refine b_drewN ?_ _ | with_reducible refine b_drew ?_ | with_reducible refine b_set ?_ (by first | (simp only [World.size_setCell, World.size_alloc, World.size_drew]; omega) | (simp; done) | (simp; omega)) _ | with_reducible refine b_step ?_ (by with_reducible assumption))))).mono ?_); rintro e w9 ⟨rfl, hb⟩; (repeat (with_reducible first | replace hb := b_un hb | replace hb := b_unN hb)); obtain ⟨hc, hf, hl⟩ := bcell hb; obtain ⟨gc, gf, gl⟩ := bcell (b_step (w := w) (by repeat' (first | with_reducible exact Below.refl _ _ | with_reducible assumption | with_reducible refine b_alloc ?_ _ | with_reducible refine b_drewN ?_ _ | with_reducible refine b_drew ?_ | with_reducible refine b_set ?_ (by first | (simp only [World.size_setCell, World.size_alloc, World.size_drew]; omega) | (simp; done) | (simp; omega)) _ | with_reducible refine b_step ?_ (by with_reducible assumption))) hb); have hz := hb.size; (try simp at hz); have yw9_0 : w.heap.size < w9.heap.size := (by omega); have yw9_1 : w.heap.size + 1 < w9.heap.size := (by omega))
      go_ret
      exact ⟨rd_ (iff_of_false (fun h9 => hB h9.2.1) (by simp)), (by repeat' (first | with_reducible exact Below.refl _ _ | with_reducible assumption | with_reducible refine b_alloc ?_ _ | with_reducible refine b_drewN ?_ _ | with_reducible refine b_drew ?_ | with_reducible refine b_set ?_ (by first | (simp only [World.size_setCell, World.size_alloc, World.size_drew]; omega) | (simp; done) | (simp; omega)) _ | with_reducible refine b_step ?_ (by with_reducible assumption)))⟩
  · go_enter Try.func47, Try.ntmps47
    go_wp2_with (go_at_call 42; go_loud (refine (impl_ProbeTubeOk_c _ _ _ _ (by assumption) _ (by exact Rd.mono (by with_reducible assumption) (by repeat' (first | with_reducible exact Below.refl _ _ | with_reducible assumption | with_reducible refine b_alloc ?_ _ | with_reducible refine b_drewN ?_ _ | with_reducible refine b_drew ?_ | with_reducible refine b_set ?_ (by first | (simp only [World.size_setCell, World.size_alloc, World.size_drew]; omega) | (simp; done) | (simp; omega)) _ | with_reducible refine b_step ?_ (by with_reducible assumption))))).mono ?_); rintro e w9 ⟨rfl, hb⟩; (repeat (with_reducible first | replace hb := b_un hb | replace hb := b_unN hb)); obtain ⟨hc, hf, hl⟩ := bcell hb; obtain ⟨gc, gf, gl⟩ := bcell (b_step (w := w) (by repeat' (first | with_reducible exact Below.refl _ _ | with_reducible assumption | with_reducible refine b_alloc ?_ _ | with_reducible refine b_drewN ?_ _ | with_reducible refine b_drew ?_ | with_reducible refine b_set ?_ (by first | (simp only [World.size_setCell, World.size_alloc, World.size_drew]; omega) | (simp; done) | (simp; omega)) _ | with_reducible refine b_step ?_ (by with_reducible assumption))) hb); have hz := hb.size; (try simp at hz); have yw9_0 : w.heap.size < w9.heap.size := (by omega); have yw9_1 : w.heap.size + 1 < w9.heap.size := (by omega))
    go_ret
    exact ⟨rd_ (iff_of_false (fun h9 => hA h9.1) (by simp)), (by repeat' (first | with_reducible exact Below.refl _ _ | with_reducible assumption | with_reducible refine b_alloc ?_ _ | with_reducible refine b_drewN ?_ _ | with_reducible refine b_drew ?_ | with_reducible refine b_set ?_ (by first | (simp only [World.size_setCell, World.size_alloc, World.size_drew]; omega) | (simp; done) | (simp; omega)) _ | with_reducible refine b_step ?_ (by with_reducible assumption)))⟩
set_option maxRecDepth 100000 in
set_option maxHeartbeats 4000000 in
theorem spec_ProbeSmaller_c (sa : ByteArray) (xa : List LL.Box) (sb : ByteArray) (xb : List LL.Box) (A : Option Addr) (c : Nat) (B : Option Addr) (d : Nat) (hsa : sa.size ≤ 9223372036854775807) (hsb : sb.size ≤ 9223372036854775807) (w : World) (h : RdB w A xa.length c xa) (h' : RdB w B xb.length d xb) : Calls Try.prog 46 #[.agg #[.string sa, .slice A xa.length c], .agg #[.string sb, .slice B xb.length d]] w fun e w' => e = .returned (.bool (decide (LL.TubeSmall sa xa sb xb))) ∧ Below w.heap.size w w' := by
  have hroom := h.room
  have hroom' := h'.room
  by_cases hA : LL.TubeOk sa xa
  · by_cases hB : LL.TubeOk sb xb
    · go_enter Try.func46, Try.ntmps46
      go_wp2_with (go_at_call 40; go_loud (refine (spec_ProbeTubeOk_c _ _ _ _ (by assumption) _ (by exact Rd.mono (by with_reducible assumption) (by repeat' (first | with_reducible exact Below.refl _ _ | with_reducible assumption | with_reducible refine b_alloc ?_ _ | with_reducible refine b_drewN ?_ _ | with_reducible refine b_drew ?_ | with_reducible refine b_set ?_ (by first | (simp only [World.size_setCell, World.size_alloc, World.size_drew]; omega) | (simp; done) | (simp; omega)) _ | with_reducible refine b_step ?_ (by with_reducible assumption))))).mono ?_); rintro e w9 ⟨rfl, hb⟩; (repeat (with_reducible first | replace hb := b_un hb | replace hb := b_unN hb)); obtain ⟨hc, hf, hl⟩ := bcell hb; obtain ⟨gc, gf, gl⟩ := bcell (b_step (w := w) (by repeat' (first | with_reducible exact Below.refl _ _ | with_reducible assumption | with_reducible refine b_alloc ?_ _ | with_reducible refine b_drewN ?_ _ | with_reducible refine b_drew ?_ | with_reducible refine b_set ?_ (by first | (simp only [World.size_setCell, World.size_alloc, World.size_drew]; omega) | (simp; done) | (simp; omega)) _ | with_reducible refine b_step ?_ (by with_reducible assumption))) hb); have hz := hb.size; (try simp at hz); have yw9_0 : w.heap.size < w9.heap.size := (by omega); have yw9_1 : w.heap.size + 1 < w9.heap.size := (by omega))
      have kA0 : Blk w9 w.heap.size #[.string sa, .slice A xa.length c] 69 := (by repeat' (first | with_reducible assumption | with_reducible exact Blk.new _ _ _ | with_reducible exact Blk.new' _ _ (by first | (simp only [World.size_alloc, World.size_setCell, World.size_drew]; done) | (simp only [World.size_alloc, World.size_setCell, World.size_drew]; omega) | omega) | with_reducible refine Blk.a ?_ _ | with_reducible refine Blk.d ?_ | with_reducible refine Blk.dN ?_ _ | with_reducible refine Blk.s ?_ (by simp only [ne_eq]; omega) _ | with_reducible refine Blk.b ?_ (by with_reducible assumption)))
      have kB0 : Blk w9 (w.heap.size + 1) #[.string sb, .slice B xb.length d] 69 := (by repeat' (first | with_reducible assumption | with_reducible exact Blk.new _ _ _ | with_reducible exact Blk.new' _ _ (by first | (simp only [World.size_alloc, World.size_setCell, World.size_drew]; done) | (simp only [World.size_alloc, World.size_setCell, World.size_drew]; omega) | omega) | with_reducible refine Blk.a ?_ _ | with_reducible refine Blk.d ?_ | with_reducible refine Blk.dN ?_ _ | with_reducible refine Blk.s ?_ (by simp only [ne_eq]; omega) _ | with_reducible refine Blk.b ?_ (by with_reducible assumption)))
      have hb0 : Below w.heap.size w w9 := (by repeat' (first | with_reducible exact Below.refl _ _ | with_reducible assumption | with_reducible refine b_alloc ?_ _ | with_reducible refine b_drewN ?_ _ | with_reducible refine b_drew ?_ | with_reducible refine b_set ?_ (by first | (simp only [World.size_setCell, World.size_alloc, World.size_drew]; omega) | (simp; done) | (simp; omega)) _ | with_reducible refine b_step ?_ (by with_reducible assumption)))
      clear hb hc hf hl gc gf gl hz yw9_0 yw9_1
      clear hb hc hf hl gc gf gl hz yw9_0 yw9_1
      go_loopw [5] (fun i wr => ∃ k : Nat, k ≤ xa.length ∧ i = .int .i64 k ∧ LL.All_ (fun a => ∃ b ∈ xb, LL.Cover b a) xa k ∧ Blk wr w.heap.size #[.string sa, .slice A xa.length c] 69 ∧ Blk wr (w.heap.size + 1) #[.string sb, .slice B xb.length d] 69 ∧ Below w.heap.size w wr) (fun i _ => xa.length - (intOf i).toNat)
      case atStart => exact ⟨0, Nat.zero_le _, rfl, LL.All_.zero _ _, kA0, kB0, hb0⟩
      case round =>
        clear kA0 kB0 hb0
        obtain ⟨k, hk, rfl, hn, kA, kB, hb⟩ := hrel
        obtain ⟨eA, fA, lA⟩ := kA.cells
        obtain ⟨eB, fB, lB⟩ := kB.cells
        obtain ⟨gc, gf, gl⟩ := bcell hb
        by_cases hlt : k < xa.length
        · obtain ⟨b, off, rfl, hbw⟩ := h.addr (by omega)
          obtain ⟨c0, c1, c2, c3, c4, c5⟩ := h.S6 k hlt
          go_wp2
          obtain ⟨wo, rfl⟩ : ∃ wo : World, wo = wr := ⟨_, rfl⟩
          go_loopw [6, 7] (fun f i w3 => ∃ (m : Nat) (fd : Bool), m ≤ xb.length ∧ i = .int .i64 m ∧ f = .bool fd ∧ LL.Found False (LL.nthB xa k) xb m fd ∧ Blk w3 w.heap.size #[.string sa, .slice (some ⟨b, off, none⟩) xa.length c] 69 ∧ Blk w3 (w.heap.size + 1) #[.string sb, .slice B xb.length d] 69 ∧ Below w.heap.size w w3) (fun _ i _ => xb.length - (intOf i).toNat)
          case atStart => exact ⟨0, _, Nat.zero_le _, rfl, rfl, by simpa using LL.Found.zero (V := False) (LL.nthB xa k) xb, kA, kB, (by repeat' (first | with_reducible exact Below.refl _ _ | with_reducible assumption | with_reducible refine b_alloc ?_ _ | with_reducible refine b_drewN ?_ _ | with_reducible refine b_drew ?_ | with_reducible refine b_set ?_ (by first | (simp only [World.size_setCell, World.size_alloc, World.size_drew]; omega) | (simp; done) | (simp; omega)) _ | with_reducible refine b_step ?_ (by with_reducible assumption)))⟩
          case round =>
            clear kA kB hb eA fA lA eB fB lB gc gf gl
            obtain ⟨m, fd, hm, rfl, rfl, hF, kA, kB, hb⟩ := hrel
            obtain ⟨eA, fA, lA⟩ := kA.cells
            obtain ⟨eB, fB, lB⟩ := kB.cells
            obtain ⟨gc, gf, gl⟩ := bcell hb
            by_cases hlm : m < xb.length
            · obtain ⟨b', off', rfl, hbw'⟩ := h'.addr (by omega)
              obtain ⟨d0, d1, d2, d3, d4, d5⟩ := h'.S6 m hlm
              cases fd
              · go_wp2_with fail
                ((refine calm_b (by kernel_rfl) (by kernel_rfl) ?_); (repeat (first | ((apply sure_cons (hg := rfl)); (focus ((intro w' hS'); (obtain ⟨hcS, hfS, hlS⟩ := bcell hS'); (try simp only [World.size_setCell, World.size_alloc, World.size_drew] at hS' hcS hfS hlS); (go_simp); (try go_bits); (try ((first | rw [if_pos (by omega)] | rw [if_neg (by omega)]); go_simp)); (first | (with_reducible rfl) | (with_reducible exact rfl) | (with_reducible exact ⟨rfl, hS'⟩) | (go_at_call 73; go_loud (refine (spec_l12Cover_c _ _ _).mono ?_); rintro e w'' ⟨rfl, hb⟩; (first | (subst hb; exact ⟨rfl, hS'⟩) | exact ⟨rfl, b_to hS' hb (by first | exact Nat.le_refl _ | (have h1 := hS'.size; (try simp only [World.size_setCell, World.size_alloc, World.size_drew] at h1); omega))⟩))))); (simp only [Act.put, List.setIfInBounds_toArray, List.set_cons_zero, List.set_cons_succ])) | ((apply sure_off (hg := rfl)); (simp only [Act.put, List.setIfInBounds_toArray, List.set_cons_zero, List.set_cons_succ])))); (refine sure_nil ?_))
                intro w8 hS8
                go_wp2_with fail
                go_roundw
                case rel => exact ⟨m + 1, _, by omega, by go_num, rfl, hF.succ (by simp), kA.b hS8, kB.b hS8, b_step hb hS8⟩
                case measure => simp [intOf]; omega
              · go_wp2_with fail
                ((refine calm_b (by kernel_rfl) (by kernel_rfl) ?_); (repeat (first | ((apply sure_cons (hg := rfl)); (focus ((intro w' hS'); (obtain ⟨hcS, hfS, hlS⟩ := bcell hS'); (try simp only [World.size_setCell, World.size_alloc, World.size_drew] at hS' hcS hfS hlS); (go_simp); (try go_bits); (try ((first | rw [if_pos (by omega)] | rw [if_neg (by omega)]); go_simp)); (first | (with_reducible rfl) | (with_reducible exact rfl) | (with_reducible exact ⟨rfl, hS'⟩) | fail))); (simp only [Act.put, List.setIfInBounds_toArray, List.set_cons_zero, List.set_cons_succ])) | ((apply sure_off (hg := rfl)); (simp only [Act.put, List.setIfInBounds_toArray, List.set_cons_zero, List.set_cons_succ])))); (refine sure_nil ?_))
                intro w8 hS8
                go_wp2_with fail
                go_roundw
                case rel => exact ⟨m + 1, _, by omega, by go_num, rfl, hF.succ (by simp), kA.b hS8, kB.b hS8, b_step hb hS8⟩
                case measure => simp [intOf]; omega
            · obtain rfl : m = xb.length := by omega
              cases fd
              · go_wp2
                go_ret
                exact ⟨rd_ (iff_of_false (fun h9 => absurd (hF.any.2 (h9.2.2 _ (LL.nthB_mem hlt))) (by simp)) (by simp)), hb⟩
              · go_wp2
                go_roundw
                case rel => exact ⟨k + 1, by omega, by go_num, hn.succ (hF.any.1 rfl), kA, kB, hb⟩
                case measure => simp [intOf]; omega
        · obtain rfl : k = xa.length := by omega
          go_wp2
          go_ret
          exact ⟨rd_ (iff_of_true ⟨hA, hB, hn.all⟩ rfl), hb⟩
    · go_enter Try.func46, Try.ntmps46
      go_wp2_with (go_at_call 40; go_loud (refine (spec_ProbeTubeOk_c _ _ _ _ (by assumption) _ (by exact Rd.mono (by with_reducible assumption) (by repeat' (first | with_reducible exact Below.refl _ _ | with_reducible assumption | with_reducible refine b_alloc ?_ _ | with_reducible refine b_drewN ?_ _ | with_reducible refine b_drew ?_ | with_reducible refine b_set ?_ (by first | (simp only [World.size_setCell, World.size_alloc, World.size_drew]; omega) | (simp; done) | (simp; omega)) _ | with_reducible refine b_step ?_ (by with_reducible assumption))))).mono ?_); rintro e w9 ⟨rfl, hb⟩; (repeat (with_reducible first | replace hb := b_un hb | replace hb := b_unN hb)); obtain ⟨hc, hf, hl⟩ := bcell hb; obtain ⟨gc, gf, gl⟩ := bcell (b_step (w := w) (by repeat' (first | with_reducible exact Below.refl _ _ | with_reducible assumption | with_reducible refine b_alloc ?_ _ | with_reducible refine b_drewN ?_ _ | with_reducible refine b_drew ?_ | with_reducible refine b_set ?_ (by first | (simp only [World.size_setCell, World.size_alloc, World.size_drew]; omega) | (simp; done) | (simp; omega)) _ | with_reducible refine b_step ?_ (by with_reducible assumption))) hb); have hz := hb.size; (try simp at hz); have yw9_0 : w.heap.size < w9.heap.size := (by omega); have yw9_1 : w.heap.size + 1 < w9.heap.size := (by omega))
      go_ret
      exact ⟨rd_ (iff_of_false (fun h9 => hB h9.2.1) (by simp)), (by repeat' (first | with_reducible exact Below.refl _ _ | with_reducible assumption | with_reducible refine b_alloc ?_ _ | with_reducible refine b_drewN ?_ _ | with_reducible refine b_drew ?_ | with_reducible refine b_set ?_ (by first | (simp only [World.size_setCell, World.size_alloc, World.size_drew]; omega) | (simp; done) | (simp; omega)) _ | with_reducible refine b_step ?_ (by with_reducible assumption)))⟩
  · go_enter Try.func46, Try.ntmps46
    go_wp2_with (go_at_call 40; go_loud (refine (spec_ProbeTubeOk_c _ _ _ _ (by assumption) _ (by exact Rd.mono (by with_reducible assumption) (by repeat' (first | with_reducible exact Below.refl _ _ | with_reducible assumption | with_reducible refine b_alloc ?_ _ | with_reducible refine b_drewN ?_ _ | with_reducible refine b_drew ?_ | with_reducible refine b_set ?_ (by first | (simp only [World.size_setCell, World.size_alloc, World.size_drew]; omega) | (simp; done) | (simp; omega)) _ | with_reducible refine b_step ?_ (by with_reducible assumption))))).mono ?_); rintro e w9 ⟨rfl, hb⟩; (repeat (with_reducible first | replace hb := b_un hb | replace hb := b_unN hb)); obtain ⟨hc, hf, hl⟩ := bcell hb; obtain ⟨gc, gf, gl⟩ := bcell (b_step (w := w) (by repeat' (first | with_reducible exact Below.refl _ _ | with_reducible assumption | with_reducible refine b_alloc ?_ _ | with_reducible refine b_drewN ?_ _ | with_reducible refine b_drew ?_ | with_reducible refine b_set ?_ (by first | (simp only [World.size_setCell, World.size_alloc, World.size_drew]; omega) | (simp; done) | (simp; omega)) _ | with_reducible refine b_step ?_ (by with_reducible assumption))) hb); have hz := hb.size; (try simp at hz); have yw9_0 : w.heap.size < w9.heap.size := (by omega); have yw9_1 : w.heap.size + 1 < w9.heap.size := (by omega))
    go_ret
    exact ⟨rd_ (iff_of_false (fun h9 => hA h9.1) (by simp)), (by repeat' (first | with_reducible exact Below.refl _ _ | with_reducible assumption | with_reducible refine b_alloc ?_ _ | with_reducible refine b_drewN ?_ _ | with_reducible refine b_drew ?_ | with_reducible refine b_set ?_ (by first | (simp only [World.size_setCell, World.size_alloc, World.size_drew]; omega) | (simp; done) | (simp; omega)) _ | with_reducible refine b_step ?_ (by with_reducible assumption)))⟩
end Go.Proofs.Ytbpkaoagpndnpaa
