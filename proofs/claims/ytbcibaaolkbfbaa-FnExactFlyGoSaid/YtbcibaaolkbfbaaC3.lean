/- A path with all ticks later by so many: the reference's. -/
import Derived.Test.YtbcibaaolkbfbaaC2
set_option linter.unusedVariables false
set_option linter.unusedSimpArgs false
namespace Go.Proofs.Ytbcibaaolkbfbaa
open Go.RowKit
attribute [local go_sem] w_lt_add w_le_of w_le_add max2_i min2_i
theorem MkPB.gop2 {e : Nat} {w w' : World} {p : LL.Path} {b : Bool} {en : Ending} (h : MkPB e w p b en w') : ∃ A c, en = .returned (.tuple #[.agg #[.int .i64 p.q, .int .i64 p.s, .slice A p.steps.length c, .int .i64 p.fr, .int .i64 p.by_], .bool b]) ∧ Own stepC 7 56 e w' (.slice A p.steps.length c) p.steps ∧ (∀ k, Value.ownBlock (.slice A p.steps.length c) = some k → w.heap.size ≤ k) ∧ Below w.heap.size w w' := by
  obtain ⟨v, rfl, hO, hg, hb⟩ := h
  obtain ⟨A, c, rfl, _⟩ := hO.rd stepE
  exact ⟨A, c, rfl, hO, hg, hb⟩
theorem MkPB.none {e : Nat} {w w' : World} (hb : Below w.heap.size w w') : MkPB e w LL.p0 false (.returned (.tuple #[.agg #[.int .i64 0, .int .i64 0, .slice none 0 0, .int .i64 0, .int .i64 0], .bool false])) w' :=
  ⟨_, rfl, ⟨World.ownsRow_nil _ _ _ _, by simp [LL.p0]⟩, fun k hk => by simp [Value.ownBlock] at hk, hb⟩
set_option maxRecDepth 100000 in
set_option maxHeartbeats 4000000 in
theorem spec_FlyShift_c (p : LL.Path) (A : Option Addr) (c : Nat) (d : Int) (w : World) (h : RdS w A p.steps.length c p.steps) : Calls Try.prog 22 #[.agg #[.int .i64 p.q, .int .i64 p.s, .slice A p.steps.length c, .int .i64 p.fr, .int .i64 p.by_], .int .i64 d] w (MkPB 79 w (LL.shiftM p d) (decide (LL.ShOk p d))) := by
  have hroom := h.room
  by_cases hP : LL.PathOk p
  · by_cases hD : LL.In d (-10000) 10000
    · have hn0 : 0 < p.steps.length := by have := hP.2.1.1; omega
      have hn1 : p.steps.length ≤ 40 := by have := hP.2.1.2; omega
      have hOk : decide (LL.PathOk p) = true := decide_eq_true hP
      go_enter Try.func22, Try.ntmps22
      go_wp2_with fail
      refine calls_name (fun W => Below w.heap.size w W ∧ Blk W w.heap.size #[.int .i64 p.q, .int .i64 p.s, .slice A p.steps.length c, .int .i64 p.fr, .int .i64 p.by_] 33 ∧ Blk W (w.heap.size + 1) #[.int .i64 0, .int .i64 0, .slice none 0 0, .int .i64 0, .int .i64 0] 33) ⟨(by repeat' (first | with_reducible exact Below.refl _ _ | with_reducible assumption | with_reducible refine b_alloc ?_ _ | with_reducible refine b_drewN ?_ _ | with_reducible refine b_drew ?_ | with_reducible refine b_set ?_ (by first | (simp only [World.size_setCell, World.size_alloc, World.size_drew]; omega) | (simp; done) | (simp; omega)) _ | with_reducible refine b_step ?_ (by with_reducible assumption))), (by repeat' (first | with_reducible assumption | with_reducible exact Blk.new _ _ _ | with_reducible exact Blk.new' _ _ (by first | (simp only [World.size_alloc, World.size_setCell, World.size_drew]; done) | (simp only [World.size_alloc, World.size_setCell, World.size_drew]; omega) | omega) | with_reducible refine Blk.a ?_ _ | with_reducible refine Blk.d ?_ | with_reducible refine Blk.dN ?_ _ | with_reducible refine Blk.s ?_ (by simp only [ne_eq]; omega) _ | with_reducible refine Blk.b ?_ (by with_reducible assumption))), (by repeat' (first | with_reducible assumption | with_reducible exact Blk.new _ _ _ | with_reducible exact Blk.new' _ _ (by first | (simp only [World.size_alloc, World.size_setCell, World.size_drew]; done) | (simp only [World.size_alloc, World.size_setCell, World.size_drew]; omega) | omega) | with_reducible refine Blk.a ?_ _ | with_reducible refine Blk.d ?_ | with_reducible refine Blk.dN ?_ _ | with_reducible refine Blk.s ?_ (by simp only [ne_eq]; omega) _ | with_reducible refine Blk.b ?_ (by with_reducible assumption)))⟩ ?_
      rintro W1 ⟨hb, kP, kR⟩
      refine (spec_FlyPathOk_c p A c _ (h.mono hb)).mono ?_
      rintro e W2 ⟨rfl, hB⟩
      replace hb := b_step hb hB; replace kP := kP.b hB; replace kR := kR.b hB; clear hB
      rw [hOk]
      obtain ⟨ekP, fkP, lkP⟩ := kP.cells; obtain ⟨ekR, fkR, lkR⟩ := kR.cells
      go_wp2_with (go_at_call 57; refine (spec_l1In_c _ _ _ _).mono ?_; rintro e w' ⟨rfl, rfl⟩)
      refine calls_name (fun W => Below W2.heap.size W2 W) (by repeat' (first | with_reducible exact Below.refl _ _ | with_reducible assumption | with_reducible refine b_alloc ?_ _ | with_reducible refine b_drewN ?_ _ | with_reducible refine b_drew ?_ | with_reducible refine b_set ?_ (by first | (simp only [World.size_setCell, World.size_alloc, World.size_drew]; omega) | (simp; done) | (simp; omega)) _ | with_reducible refine b_step ?_ (by with_reducible assumption))) ?_; intro W3 hE; clear ekP fkP lkP ekR fkR lkR; replace hb := b_step hb hE; replace kP := kP.b hE; replace kR := kR.b hE; clear hE
      refine (spec_l2Copy_c p A c _ (h.mono hb)).mono ?_
      intro e W4 hM
      obtain ⟨A2, c2, rfl, hO, hOg, hB⟩ := hM.gop
      have hO2 : ∀ k, Value.ownBlock (.slice A2 p.steps.length c2) = some k → w.heap.size + 1 < k := fun k hk => by have := hOg k hk; have := kR.cells.2.2; omega
      have hO3 : ∀ k, Value.ownBlock (.slice A2 p.steps.length c2) = some k → k < W4.heap.size := fun k hk => (hO.row.lt k hk).2
      replace hb := b_step hb hB; replace kP := kP.b hB; replace kR := kR.b hB; clear hB
      have hX0 : w.heap.size + 1 < W4.heap.size := kR.cells.2.2
      clear hM hOg
      go_wp2_with fail
      refine wp_name (fun W => Below w.heap.size w W ∧ Blk W (w.heap.size + 1) #[.int .i64 0, .int .i64 0, .slice none 0 0, .int .i64 0, .int .i64 0] 33 ∧ Blk W W4.heap.size #[.int .i64 p.q, .int .i64 p.s, .slice A2 p.steps.length c2, .int .i64 p.fr, .int .i64 p.by_] 33 ∧ Own stepC 7 56 79 W (.slice A2 p.steps.length c2) (LL.tab p.steps.length (LL.mix (LL.shF p d) p.steps LL.z0 0))) ⟨(by repeat' (first | with_reducible exact Below.refl _ _ | with_reducible assumption | with_reducible refine b_alloc ?_ _ | with_reducible refine b_drewN ?_ _ | with_reducible refine b_drew ?_ | with_reducible refine b_set ?_ (by first | (simp only [World.size_setCell, World.size_alloc, World.size_drew]; omega) | (simp; done) | (simp; omega)) _ | with_reducible refine b_step ?_ (by with_reducible assumption))), (by repeat' (first | with_reducible assumption | with_reducible exact Blk.new _ _ _ | with_reducible exact Blk.new' _ _ (by first | (simp only [World.size_alloc, World.size_setCell, World.size_drew]; done) | (simp only [World.size_alloc, World.size_setCell, World.size_drew]; omega) | omega) | with_reducible refine Blk.a ?_ _ | with_reducible refine Blk.d ?_ | with_reducible refine Blk.dN ?_ _ | with_reducible refine Blk.s ?_ (by simp only [ne_eq]; omega) _ | with_reducible refine Blk.b ?_ (by with_reducible assumption))), Blk.new _ _ _, by rw [LL.mix_zero]; exact hO.a _⟩ ?_
      clear hb kP kR hO
      rintro W5 ⟨hb, kR, kX, hO⟩
      generalize W4.heap.size = gx at kX hX0 hO3 ⊢
      go_loopw [7] (fun i wr => ∃ k : Nat, k ≤ p.steps.length ∧ i = .int .i64 k ∧ Below w.heap.size w wr ∧ Blk wr (w.heap.size + 1) #[.int .i64 0, .int .i64 0, .slice none 0 0, .int .i64 0, .int .i64 0] 33 ∧ Blk wr gx #[.int .i64 p.q, .int .i64 p.s, .slice A2 p.steps.length c2, .int .i64 p.fr, .int .i64 p.by_] 33 ∧ Own stepC 7 56 79 wr (.slice A2 p.steps.length c2) (LL.tab p.steps.length (LL.mix (LL.shF p d) p.steps LL.z0 k))) (fun i _ => p.steps.length - (intOf i).toNat)
      case atStart => exact ⟨0, Nat.zero_le _, rfl, hb, kR, kX, hO⟩
      case round =>
        clear hb kR kX hO
        obtain ⟨k, hk, rfl, hb, kR, kX, hO⟩ := hrel
        obtain ⟨ekX, fkX, lkX⟩ := kX.cells
        by_cases hlt : k < p.steps.length
        · obtain ⟨g, rfl⟩ := hO.someA (by rw [LL.tab_len]; omega)
          have hgl := hO2 g rfl
          have hgl3 := hO3 g rfl
          have hSt := hO.St k hlt
          rw [LL.mix_here] at hSt
          obtain ⟨c4, c5, f0, gl⟩ := hSt
          have hw := (hP.2.2.2.2.2 k hlt).1
          obtain ⟨_, _, _, _, _, w0, w1, w2⟩ := hw
          simp only [LL.nth] at w0 w1 w2
          obtain ⟨hd0, hd1⟩ := hD
          generalize hs : p.steps.getD k LL.z0 = s at c4 c5 w0 w1 w2
          have Hs := Lib.hid hs
          clear hs
          go_wp2_with fail
          ((refine calm_tail_b 13 (by kernel_rfl) (by kernel_rfl) ?_); (simp only [List.take_succ_cons, List.take_zero, List.drop_succ_cons, List.drop_zero]); (repeat ((apply sure_cons (hg := rfl)); (focus ((intro w' hS'); (obtain ⟨hcS, hfS, hlS⟩ := bcell hS'); (try simp only [World.size_setCell, World.size_alloc, World.size_drew] at hS' hcS hfS hlS); (go_simp); (try go_bits); (try ((first | rw [if_pos (by omega)] | rw [if_neg (by omega)]); go_simp)); (first | (with_reducible rfl) | (with_reducible exact rfl) | (with_reducible exact ⟨rfl, hS'⟩) | fail))); (simp only [Act.put, List.setIfInBounds_toArray, List.set_cons_zero, List.set_cons_succ]))); (refine sure_nil ?_))
          intro W6 hS6
          clear ekX fkX lkX
          clear c4 c5 f0 gl
          replace hb := b_step hb hS6; replace kR := kR.b hS6; replace kX := kX.b hS6; replace hO := hO.b hS6; clear hS6
          obtain ⟨ekX, fkX, lkX⟩ := kX.cells
          have hSt := hO.St k hlt
          rw [LL.mix_here, Hs.out] at hSt
          obtain ⟨c4, c5, f0, gl⟩ := hSt
          go_wp2_with fail
          refine wp_name (fun W => Below w.heap.size w W ∧ Blk W (w.heap.size + 1) #[.int .i64 0, .int .i64 0, .slice none 0 0, .int .i64 0, .int .i64 0] 33 ∧ Blk W gx #[.int .i64 p.q, .int .i64 p.s, .slice (some ⟨g, 0, none⟩) p.steps.length c2, .int .i64 p.fr, .int .i64 p.by_] 33 ∧ Own stepC 7 56 79 W (.slice (some ⟨g, 0, none⟩) p.steps.length c2) (LL.tab p.steps.length (LL.upd (LL.mix (LL.shF p d) p.steps LL.z0 k) k ⟨s.x, s.y, s.lo, s.hi, s.fr + d, s.by_, s.hold⟩))) ⟨b_set hb (by simp only; omega) _, kR.s (by simp only [ne_eq]; omega) _, kX.s (by simp only [ne_eq]; omega) _, hO.updSt k hlt 4 (x := .int .i64 (s.fr + d)) (s := ⟨s.x, s.y, s.lo, s.hi, s.fr + d, s.by_, s.hold⟩) (by omega) (by rw [LL.mix_here, Hs.out]; rfl) rfl⟩ ?_
          clear ekX fkX lkX
          clear hb kR kX hO c4 c5 f0 gl
          rintro W7 ⟨hb, kR, kX, hO⟩
          obtain ⟨ekX, fkX, lkX⟩ := kX.cells
          have hSt := hO.St k hlt
          rw [LL.upd_same] at hSt
          obtain ⟨c4, c5, f0, gl⟩ := hSt
          ((refine calm_tail_b 13 (by kernel_rfl) (by kernel_rfl) ?_); (simp only [List.take_succ_cons, List.take_zero, List.drop_succ_cons, List.drop_zero]); (repeat ((apply sure_cons (hg := rfl)); (focus ((intro w' hS'); (obtain ⟨hcS, hfS, hlS⟩ := bcell hS'); (try simp only [World.size_setCell, World.size_alloc, World.size_drew] at hS' hcS hfS hlS); (go_simp); (try go_bits); (try ((first | rw [if_pos (by omega)] | rw [if_neg (by omega)]); go_simp)); (first | (with_reducible rfl) | (with_reducible exact rfl) | (with_reducible exact ⟨rfl, hS'⟩) | fail))); (simp only [Act.put, List.setIfInBounds_toArray, List.set_cons_zero, List.set_cons_succ]))); (refine sure_nil ?_))
          intro W8 hS8
          clear ekX fkX lkX
          clear c4 c5 f0 gl
          replace hb := b_step hb hS8; replace kR := kR.b hS8; replace kX := kX.b hS8; replace hO := hO.b hS8; clear hS8
          obtain ⟨ekX, fkX, lkX⟩ := kX.cells
          have hSt := hO.St k hlt
          rw [LL.upd_same] at hSt
          obtain ⟨c4, c5, f0, gl⟩ := hSt
          go_wp2_with fail
          go_roundw
          case rel =>
            have hs := Hs.out
            refine ⟨k + 1, by omega, by go_num, b_set hb (by simp only; omega) _, kR.s (by simp only [ne_eq]; omega) _, kX.s (by simp only [ne_eq]; omega) _, ?_⟩
            exact hO.updSt k hlt 5 (x := .int .i64 (s.by_ + d)) (s := LL.shF p d k) (by omega) (by rw [LL.upd_same]; simp only [LL.shF, LL.shS, LL.nth, hs]; rfl) (by rw [LL.upd_upd, LL.mix_next])
          case measure => simp [intOf]; omega
        · obtain rfl : k = p.steps.length := by omega
          rw [LL.mix_all] at hO
          have HP0 := Lib.hid hP
          obtain ⟨_, _, v0, v1, v2, _⟩ := hP
          obtain ⟨hd0, hd1⟩ := hD
          go_wp2_with fail
          refine calls_name (fun W => Below w.heap.size w W ∧ Blk W gx #[.int .i64 p.q, .int .i64 p.s, .slice A2 p.steps.length c2, .int .i64 (p.fr + d), .int .i64 (p.by_ + d)] 33 ∧ Blk W (w.heap.size + 1) #[.int .i64 0, .int .i64 0, .slice none 0 0, .int .i64 0, .int .i64 0] 33 ∧ Own stepC 7 56 79 W (.slice A2 p.steps.length c2) (LL.tab p.steps.length (LL.shF p d))) ⟨(by repeat' (first | with_reducible exact Below.refl _ _ | with_reducible assumption | with_reducible refine b_alloc ?_ _ | with_reducible refine b_drewN ?_ _ | with_reducible refine b_drew ?_ | with_reducible refine b_set ?_ (by first | (simp only [World.size_setCell, World.size_alloc, World.size_drew]; omega) | (simp; done) | (simp; omega)) _ | with_reducible refine b_step ?_ (by with_reducible assumption))), by simpa using (kX.put 3 (.int .i64 (p.fr + d))).put 4 (.int .i64 (p.by_ + d)), (by repeat' (first | with_reducible assumption | with_reducible exact Blk.new _ _ _ | with_reducible exact Blk.new' _ _ (by first | (simp only [World.size_alloc, World.size_setCell, World.size_drew]; done) | (simp only [World.size_alloc, World.size_setCell, World.size_drew]; omega) | omega) | with_reducible refine Blk.a ?_ _ | with_reducible refine Blk.d ?_ | with_reducible refine Blk.dN ?_ _ | with_reducible refine Blk.s ?_ (by simp only [ne_eq]; omega) _ | with_reducible refine Blk.b ?_ (by with_reducible assumption))), (hO.s _ (fun k hk => by have := hO3 k hk; simp only; omega)).s _ (fun k hk => by have := hO3 k hk; simp only; omega)⟩ ?_
          clear ekX fkX lkX
          clear hb kX kR hO
          rintro W6 ⟨hb, kX, kR, hO⟩
          have hl : (LL.shP p d).steps.length = p.steps.length := LL.tab_len _ _
          have HC := spec_FlyPathOk_c (LL.shP p d) A2 c2 W6 (by rw [hl]; exact hO.rd_at' stepE)
          rw [hl] at HC
          refine HC.mono ?_
          clear HC
          rintro e W7 ⟨rfl, hB⟩
          replace hb := b_step hb hB; replace kX := kX.b hB; replace kR := kR.b hB; replace hO := hO.b hB; clear hB
          obtain ⟨ekX, fkX, lkX⟩ := kX.cells; obtain ⟨ekR, fkR, lkR⟩ := kR.cells
          by_cases hQ : LL.PathOk (LL.shP p d)
          · rw [decide_eq_true hQ]
            go_wp2_with fail
            (refine bodyPost_ret (res_ct rfl _ [.int .i64 p.q, .int .i64 p.s, .slice A2 p.steps.length c2, .int .i64 (p.fr + d), .int .i64 (p.by_ + d)] rfl _ rfl _ Try.underlying33 rfl (by kernel_rfl) (by simp only [CellsAt, and_true]; and_intros <;> go_simp)) rfl ?_)
            have hS : LL.ShOk p d := ⟨HP0.out, ⟨hd0, hd1⟩, hQ⟩
            rw [LL.shiftM_yes hS, decide_eq_true hS]
            exact ⟨_, rfl, ((((hO.s _ (fun k hk => by have := hO2 k hk; simp only; omega)).s _ (fun k hk => by have := hO2 k hk; simp only; omega)).s _ (fun k hk => by have := hO2 k hk; simp only; omega)).s _ (fun k hk => by have := hO2 k hk; simp only; omega)).s _ (fun k hk => by have := hO2 k hk; simp only; omega), fun k hk => by have := hO2 k hk; omega, (by repeat' (first | with_reducible exact Below.refl _ _ | with_reducible assumption | with_reducible refine b_alloc ?_ _ | with_reducible refine b_drewN ?_ _ | with_reducible refine b_drew ?_ | with_reducible refine b_set ?_ (by first | (simp only [World.size_setCell, World.size_alloc, World.size_drew]; omega) | (simp; done) | (simp; omega)) _ | with_reducible refine b_step ?_ (by with_reducible assumption)))⟩
          · rw [decide_eq_false hQ]
            go_wp2_with fail
            (refine bodyPost_ret (res_ct rfl _ [.int .i64 0, .int .i64 0, .slice none 0 0, .int .i64 0, .int .i64 0] rfl _ rfl _ Try.underlying33 rfl (by kernel_rfl) (by simp only [CellsAt, and_true]; and_intros <;> go_simp)) rfl ?_)
            have hS : ¬ LL.ShOk p d := fun hS => hQ hS.2.2
            rw [LL.shiftM_no hS, decide_eq_false hS]
            exact MkPB.none (by repeat' (first | with_reducible exact Below.refl _ _ | with_reducible assumption | with_reducible refine b_alloc ?_ _ | with_reducible refine b_drewN ?_ _ | with_reducible refine b_drew ?_ | with_reducible refine b_set ?_ (by first | (simp only [World.size_setCell, World.size_alloc, World.size_drew]; omega) | (simp; done) | (simp; omega)) _ | with_reducible refine b_step ?_ (by with_reducible assumption)))
    · go_enter Try.func22, Try.ntmps22
      go_wp2_with fail
      refine calls_name (fun W => Below w.heap.size w W ∧ Blk W w.heap.size #[.int .i64 p.q, .int .i64 p.s, .slice A p.steps.length c, .int .i64 p.fr, .int .i64 p.by_] 33 ∧ Blk W (w.heap.size + 1) #[.int .i64 0, .int .i64 0, .slice none 0 0, .int .i64 0, .int .i64 0] 33) ⟨(by repeat' (first | with_reducible exact Below.refl _ _ | with_reducible assumption | with_reducible refine b_alloc ?_ _ | with_reducible refine b_drewN ?_ _ | with_reducible refine b_drew ?_ | with_reducible refine b_set ?_ (by first | (simp only [World.size_setCell, World.size_alloc, World.size_drew]; omega) | (simp; done) | (simp; omega)) _ | with_reducible refine b_step ?_ (by with_reducible assumption))), (by repeat' (first | with_reducible assumption | with_reducible exact Blk.new _ _ _ | with_reducible exact Blk.new' _ _ (by first | (simp only [World.size_alloc, World.size_setCell, World.size_drew]; done) | (simp only [World.size_alloc, World.size_setCell, World.size_drew]; omega) | omega) | with_reducible refine Blk.a ?_ _ | with_reducible refine Blk.d ?_ | with_reducible refine Blk.dN ?_ _ | with_reducible refine Blk.s ?_ (by simp only [ne_eq]; omega) _ | with_reducible refine Blk.b ?_ (by with_reducible assumption))), (by repeat' (first | with_reducible assumption | with_reducible exact Blk.new _ _ _ | with_reducible exact Blk.new' _ _ (by first | (simp only [World.size_alloc, World.size_setCell, World.size_drew]; done) | (simp only [World.size_alloc, World.size_setCell, World.size_drew]; omega) | omega) | with_reducible refine Blk.a ?_ _ | with_reducible refine Blk.d ?_ | with_reducible refine Blk.dN ?_ _ | with_reducible refine Blk.s ?_ (by simp only [ne_eq]; omega) _ | with_reducible refine Blk.b ?_ (by with_reducible assumption)))⟩ ?_
      rintro W1 ⟨hb, kP, kR⟩
      refine (spec_FlyPathOk_c p A c _ (h.mono hb)).mono ?_
      rintro e W2 ⟨rfl, hB⟩
      replace hb := b_step hb hB; replace kP := kP.b hB; replace kR := kR.b hB; clear hB
      rw [decide_eq_true hP]
      obtain ⟨ekP, fkP, lkP⟩ := kP.cells; obtain ⟨ekR, fkR, lkR⟩ := kR.cells
      go_wp2_with (go_at_call 57; refine (spec_l1In_c _ _ _ _).mono ?_; rintro e w' ⟨rfl, rfl⟩)
      (refine bodyPost_ret (res_ct rfl _ [.int .i64 0, .int .i64 0, .slice none 0 0, .int .i64 0, .int .i64 0] rfl _ rfl _ Try.underlying33 rfl (by kernel_rfl) (by simp only [CellsAt, and_true]; and_intros <;> go_simp)) rfl ?_)
      have hS : ¬ LL.ShOk p d := fun hS => hD hS.2.1
      rw [LL.shiftM_no hS, decide_eq_false hS]
      exact MkPB.none (by repeat' (first | with_reducible exact Below.refl _ _ | with_reducible assumption | with_reducible refine b_alloc ?_ _ | with_reducible refine b_drewN ?_ _ | with_reducible refine b_drew ?_ | with_reducible refine b_set ?_ (by first | (simp only [World.size_setCell, World.size_alloc, World.size_drew]; omega) | (simp; done) | (simp; omega)) _ | with_reducible refine b_step ?_ (by with_reducible assumption)))
  · go_enter Try.func22, Try.ntmps22
    go_wp2_with fail
    refine calls_name (fun W => Below w.heap.size w W ∧ Blk W w.heap.size #[.int .i64 p.q, .int .i64 p.s, .slice A p.steps.length c, .int .i64 p.fr, .int .i64 p.by_] 33 ∧ Blk W (w.heap.size + 1) #[.int .i64 0, .int .i64 0, .slice none 0 0, .int .i64 0, .int .i64 0] 33) ⟨(by repeat' (first | with_reducible exact Below.refl _ _ | with_reducible assumption | with_reducible refine b_alloc ?_ _ | with_reducible refine b_drewN ?_ _ | with_reducible refine b_drew ?_ | with_reducible refine b_set ?_ (by first | (simp only [World.size_setCell, World.size_alloc, World.size_drew]; omega) | (simp; done) | (simp; omega)) _ | with_reducible refine b_step ?_ (by with_reducible assumption))), (by repeat' (first | with_reducible assumption | with_reducible exact Blk.new _ _ _ | with_reducible exact Blk.new' _ _ (by first | (simp only [World.size_alloc, World.size_setCell, World.size_drew]; done) | (simp only [World.size_alloc, World.size_setCell, World.size_drew]; omega) | omega) | with_reducible refine Blk.a ?_ _ | with_reducible refine Blk.d ?_ | with_reducible refine Blk.dN ?_ _ | with_reducible refine Blk.s ?_ (by simp only [ne_eq]; omega) _ | with_reducible refine Blk.b ?_ (by with_reducible assumption))), (by repeat' (first | with_reducible assumption | with_reducible exact Blk.new _ _ _ | with_reducible exact Blk.new' _ _ (by first | (simp only [World.size_alloc, World.size_setCell, World.size_drew]; done) | (simp only [World.size_alloc, World.size_setCell, World.size_drew]; omega) | omega) | with_reducible refine Blk.a ?_ _ | with_reducible refine Blk.d ?_ | with_reducible refine Blk.dN ?_ _ | with_reducible refine Blk.s ?_ (by simp only [ne_eq]; omega) _ | with_reducible refine Blk.b ?_ (by with_reducible assumption)))⟩ ?_
    rintro W1 ⟨hb, kP, kR⟩
    refine (spec_FlyPathOk_c p A c _ (h.mono hb)).mono ?_
    rintro e W2 ⟨rfl, hB⟩
    replace hb := b_step hb hB; replace kP := kP.b hB; replace kR := kR.b hB; clear hB
    rw [decide_eq_false hP]
    obtain ⟨ekP, fkP, lkP⟩ := kP.cells; obtain ⟨ekR, fkR, lkR⟩ := kR.cells
    go_wp2_with fail
    (refine bodyPost_ret (res_ct rfl _ [.int .i64 0, .int .i64 0, .slice none 0 0, .int .i64 0, .int .i64 0] rfl _ rfl _ Try.underlying33 rfl (by kernel_rfl) (by simp only [CellsAt, and_true]; and_intros <;> go_simp)) rfl ?_)
    have hS : ¬ LL.ShOk p d := fun hS => hP hS.1
    rw [LL.shiftM_no hS, decide_eq_false hS]
    exact MkPB.none (by repeat' (first | with_reducible exact Below.refl _ _ | with_reducible assumption | with_reducible refine b_alloc ?_ _ | with_reducible refine b_drewN ?_ _ | with_reducible refine b_drew ?_ | with_reducible refine b_set ?_ (by first | (simp only [World.size_setCell, World.size_alloc, World.size_drew]; omega) | (simp; done) | (simp; omega)) _ | with_reducible refine b_step ?_ (by with_reducible assumption)))
end Go.Proofs.Ytbcibaaolkbfbaa
