/- What is drawn: a path late. -/
import Derived.Test.YtpeojnknfonmlaaRC
import Derived.Test.YtpeojnknfonmlaaJ7
import Derived.Test.YtpeojnknfonmlaaS3
set_option linter.unusedVariables false
set_option linter.unusedSimpArgs false
namespace Go.Proofs.Ytpeojnknfonmlaa
open Go.RowKit
theorem LL.shiftM_len (p : LL.Path) (d : Int) : (LL.shiftM p d).steps.length ≤ p.steps.length := by
  unfold LL.shiftM; split
  · unfold LL.shP; rw [LL.tab_len]; exact Nat.le_refl _
  · exact Nat.zero_le _
set_option maxRecDepth 100000 in
set_option maxHeartbeats 4000000 in
theorem spec_l10Late_c (p : LL.Path) (A : Option Addr) (c B : Nat) (w : World) (h40 : p.steps.length ≤ 40) (hO : Own stepC 7 56 79 w (.slice A p.steps.length c) p.steps) (hB : B ≤ w.heap.size) (hfr : ∀ j, (Value.slice A p.steps.length c).ownBlock = some j → B ≤ j) : Calls Try.prog 105 #[.agg #[.int .i64 p.q, .int .i64 p.s, .slice A p.steps.length c, .int .i64 p.fr, .int .i64 p.by_]] w fun e w' => ∃ (p' : LL.Path) (A : Option Addr) (c : Nat), e = .returned (.agg #[.int .i64 p'.q, .int .i64 p'.s, .slice A p'.steps.length c, .int .i64 p'.fr, .int .i64 p'.by_]) ∧ p'.steps.length ≤ 40 ∧ Own stepC 7 56 79 w' (.slice A p'.steps.length c) p'.steps ∧ (∀ j, (Value.slice A p'.steps.length c).ownBlock = some j → B ≤ j) ∧ Below w.heap.size w w' := by
  have h := hO.rd_at' stepE
  have kP0 := Blk.new w #[.int .i64 p.q, .int .i64 p.s, .slice A p.steps.length c, .int .i64 p.fr, .int .i64 p.by_] 43
  replace hfr := Lib.hid hfr
  go_enter Try.func105, Try.ntmps105
  go_wp2
  go_loopw [3, 4] (fun m i wr => ∃ (k : Nat) (m' : Int), k ≤ p.steps.length ∧ i = .int .i64 k ∧ m = .int .i64 m' ∧ Blk wr w.heap.size #[.int .i64 p.q, .int .i64 p.s, .slice A p.steps.length c, .int .i64 p.fr, .int .i64 p.by_] 43 ∧ Blk wr (w.heap.size + 1) #[.int .i64 0, .int .i64 0, .slice none 0 0, .int .i64 0, .int .i64 0] 43 ∧ Below w.heap.size w wr) (fun _ i _ => p.steps.length - (intOf i).toNat)
  case atStart => exact ⟨0, _, by omega, rfl, rfl, (by repeat' (first | with_reducible assumption | with_reducible exact Blk.new _ _ _ | with_reducible exact Blk.new' _ _ (by first | (simp only [World.size_alloc, World.size_setCell, World.size_drew]; done) | (simp only [World.size_alloc, World.size_setCell, World.size_drew]; omega) | omega) | with_reducible refine Blk.a ?_ _ | with_reducible refine Blk.d ?_ | with_reducible refine Blk.dN ?_ _ | with_reducible refine Blk.s ?_ (by simp only [ne_eq]; omega) _ | with_reducible refine Blk.b ?_ (by with_reducible assumption))), (by repeat' (first | with_reducible assumption | with_reducible exact Blk.new _ _ _ | with_reducible exact Blk.new' _ _ (by first | (simp only [World.size_alloc, World.size_setCell, World.size_drew]; done) | (simp only [World.size_alloc, World.size_setCell, World.size_drew]; omega) | omega) | with_reducible refine Blk.a ?_ _ | with_reducible refine Blk.d ?_ | with_reducible refine Blk.dN ?_ _ | with_reducible refine Blk.s ?_ (by simp only [ne_eq]; omega) _ | with_reducible refine Blk.b ?_ (by with_reducible assumption))), (by repeat' (first | with_reducible exact Below.refl _ _ | with_reducible assumption | with_reducible refine b_alloc ?_ _ | with_reducible refine b_drewN ?_ _ | with_reducible refine b_drew ?_ | with_reducible refine b_set ?_ (by first | (simp only [World.size_setCell, World.size_alloc, World.size_drew]; omega) | (simp; done) | (simp; omega)) _ | with_reducible refine b_step ?_ (by with_reducible assumption)))⟩
  case round =>
    obtain ⟨k, m, hk, rfl, rfl, kP, kR, hb⟩ := hrel
    obtain ⟨e0, f0, l0⟩ := kP.cells
    obtain ⟨hc, hf, hl⟩ := bcell hb
    by_cases hlt : k < p.steps.length
    · obtain ⟨b, off, rfl, hbw⟩ := h.addr (by omega)
      obtain ⟨d0, d1, d2, d3, d4, d5, d6⟩ := h.S7 k hlt
      go_wp2_with (go_at_call 87; refine (spec_l1Max_c _ _ _).mono ?_; rintro e w' ⟨rfl, rfl⟩)
      go_roundw
      case rel => exact ⟨k + 1, _, by omega, by go_num, rfl, kP, kR, hb⟩
      case measure => simp [intOf]; omega
    · obtain ⟨e1, f1, l1⟩ := kR.cells
      go_wp2_with (go_at_call 20; go_loud (refine (spec_FlyShift_c p A c _ _ (h.mono hb)).mono ?_); intro e w2 hM; obtain ⟨p2, hp2, b2, hM⟩ : ∃ p2 : LL.Path, p2.steps.length ≤ 40 ∧ ∃ b2, MkPB 79 _ p2 b2 e w2 := ⟨_, Nat.le_trans (LL.shiftM_len _ _) h40, _, hM⟩; obtain ⟨A2, c2, rfl, hO2, hOg2, hB2⟩ := hM.gop2; obtain ⟨hc2, hf2, hl2⟩ := bcell hB2; have hz := hB2.size)
      · (refine bodyPost_ret (res_c rfl _ [.int .i64 p.q, .int .i64 p.s, .slice A p.steps.length c, .int .i64 p.fr, .int .i64 p.by_] rfl _ Try.underlying43 rfl (by kernel_rfl) (by simp only [CellsAt, and_true]; and_intros <;> go_simp)) rfl ?_)
        refine ⟨p, A, c, rfl, h40, ?_, hfr.out, (by repeat' (first | with_reducible exact Below.refl _ _ | with_reducible assumption | with_reducible refine b_alloc ?_ _ | with_reducible refine b_drewN ?_ _ | with_reducible refine b_drew ?_ | with_reducible refine b_set ?_ (by first | (simp only [World.size_setCell, World.size_alloc, World.size_drew]; omega) | (simp; done) | (simp; omega)) _ | with_reducible refine b_step ?_ (by with_reducible assumption)))⟩
        have hb3 := b_step hb hB2
        exact hO.b (by exact (by repeat' (first | with_reducible exact Below.refl _ _ | with_reducible assumption | with_reducible refine b_alloc ?_ _ | with_reducible refine b_drewN ?_ _ | with_reducible refine b_drew ?_ | with_reducible refine b_set ?_ (by first | (simp only [World.size_setCell, World.size_alloc, World.size_drew]; omega) | (simp; done) | (simp; omega)) _ | with_reducible refine b_step ?_ (by with_reducible assumption))))
      · (refine bodyPost_ret (res_c rfl _ [.int .i64 p2.q, .int .i64 p2.s, .slice A2 p2.steps.length c2, .int .i64 p2.fr, .int .i64 p2.by_] rfl _ Try.underlying43 rfl (by kernel_rfl) (by simp only [CellsAt, and_true]; and_intros <;> go_simp)) rfl ?_)
        have hz0 := hb.size
        have hg3 : ∀ j, (Value.slice A2 p2.steps.length c2).ownBlock = some j → j ≠ w.heap.size + 1 := fun j hj => by have := hOg2 j hj; omega
        refine ⟨p2, A2, c2, rfl, hp2, ?_, fun j hj => by have := hOg2 j hj; omega, (by repeat' (first | with_reducible exact Below.refl _ _ | with_reducible assumption | with_reducible refine b_alloc ?_ _ | with_reducible refine b_drewN ?_ _ | with_reducible refine b_drew ?_ | with_reducible refine b_set ?_ (by first | (simp only [World.size_setCell, World.size_alloc, World.size_drew]; omega) | (simp; done) | (simp; omega)) _ | with_reducible refine b_step ?_ (by with_reducible assumption)))⟩
        exact (by repeat' (first | with_reducible assumption | with_reducible refine Own.s ?_ _ (fun k hk => by have := hg3 k hk; (try simp only); omega) | with_reducible refine Own.a ?_ _ | with_reducible refine Own.d ?_ | with_reducible refine Own.dN ?_ _ | with_reducible refine Own.b ?_ (by with_reducible assumption)))
end Go.Proofs.Ytpeojnknfonmlaa
