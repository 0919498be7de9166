/- The law of turning: up to when all can turn. -/
import Derived.Test.YtpeojnknfonmlaaRT
import Derived.Test.YtpeojnknfonmlaaZY0
import Derived.Test.YtpeojnknfonmlaaD2
set_option linter.unusedVariables false
set_option linter.unusedSimpArgs false
namespace Go.Proofs.Ytpeojnknfonmlaa
open Go.RowKit
theorem wfAll_n (p q : LL.Path) (ts : List LL.Box) (A B T : Option Addr) (c d m : Nat) (now : Int) (r : Bool) (hr : LL.allTo p q ts now 0 false = r) (hn0 : -10 ≤ now) (hn1 : now ≤ 30000) (w : World) (h : RdS w A p.steps.length c p.steps) (h' : RdS w B q.steps.length d q.steps) (ht : RdB w T ts.length m ts) : Calls Try.prog 58 #[.agg #[.int .i64 p.q, .int .i64 p.s, .slice A p.steps.length c, .int .i64 p.fr, .int .i64 p.by_], .agg #[.int .i64 q.q, .int .i64 q.s, .slice B q.steps.length d, .int .i64 q.fr, .int .i64 q.by_], .slice T ts.length m, .int .i64 now] w fun e w' => e = .returned (.bool r) ∧ Below w.heap.size w w' := by
  subst hr; exact wfAll_c p q ts A B T c d m now hn0 hn1 w h h' ht
attribute [local go_sem] w_lt_add w_le_of w_le_add max2_i min2_i
set_option maxRecDepth 100000 in
set_option maxHeartbeats 8000000 in
theorem FnFlyTurn_c (xs : List Int) (F : Option Addr) (m : Nat) (w : World) (h : Rd u8C 1 1 w F xs.length m xs) (hx : ∀ k, 0 ≤ LL.nthI xs k ∧ LL.nthI xs k ≤ 255) : Calls Try.prog 10 #[.slice F xs.length m] w fun e w' => e = .returned (.bool true) ∧ Below w.heap.size w w' := by
  replace hx := Lib.hid hx
  by_cases hbig : (1048576 : Int) < xs.length
  · go_enter Try.func10, Try.ntmps10
    go_wp2
    go_ret
    exact ⟨rfl, (by repeat' (first | with_reducible exact Below.refl _ _ | with_reducible assumption | with_reducible refine b_alloc ?_ _ | with_reducible refine b_drewN ?_ _ | with_reducible refine b_drew ?_ | with_reducible refine b_set ?_ (by first | (simp only [World.size_setCell, World.size_alloc, World.size_drew]; omega) | (simp; done) | (simp; omega)) _ | with_reducible refine b_step ?_ (by with_reducible assumption)))⟩
  go_enter Try.func10, Try.ntmps10
  go_upto_region 4 with (go_at_call 53; refine (spec_DrawFlyTurnBy_c xs F m _ h hx.out).mono ?_; rintro e w1 ⟨p, A, c, q, B, d, t, rfl, hS, hQ, ht0, ht1, hb1⟩)
  obtain ⟨g0, g1, g2, g3, g4⟩ := LL.turn_all (p := p) (q := q) ht0
  go_upto_region 5 with (go_at_call 54; go_loud (refine (impl_FlyTurnBy_c p q A B c d t _ (by exact Rd.mono (by with_reducible assumption) (by repeat' (first | with_reducible exact Below.refl _ _ | with_reducible assumption | with_reducible refine b_alloc ?_ _ | with_reducible refine b_drewN ?_ _ | with_reducible refine b_drew ?_ | with_reducible refine b_set ?_ (by first | (simp only [World.size_setCell, World.size_alloc, World.size_drew]; omega) | (simp; done) | (simp; omega)) _ | with_reducible refine b_step ?_ (by with_reducible assumption)))) (by exact Rd.mono (by with_reducible assumption) (by repeat' (first | with_reducible exact Below.refl _ _ | with_reducible assumption | with_reducible refine b_alloc ?_ _ | with_reducible refine b_drewN ?_ _ | with_reducible refine b_drew ?_ | with_reducible refine b_set ?_ (by first | (simp only [World.size_setCell, World.size_alloc, World.size_drew]; omega) | (simp; done) | (simp; omega)) _ | with_reducible refine b_step ?_ (by with_reducible assumption))))).mono ?_); rintro e w2 ⟨rfl, hB2⟩)
  have kp : Blk w2 w1.heap.size #[.int .i64 p.q, .int .i64 p.s, .slice A p.steps.length c, .int .i64 p.fr, .int .i64 p.by_] 43 := (by repeat' (first | with_reducible assumption | with_reducible exact Blk.new _ _ _ | with_reducible exact Blk.new' _ _ (by first | (simp only [World.size_alloc, World.size_setCell, World.size_drew]; done) | (simp only [World.size_alloc, World.size_setCell, World.size_drew]; omega) | omega) | with_reducible refine Blk.a ?_ _ | with_reducible refine Blk.d ?_ | with_reducible refine Blk.dN ?_ _ | with_reducible refine Blk.s ?_ (by simp only [ne_eq]; omega) _ | with_reducible refine Blk.b ?_ (by with_reducible assumption)))
  have kq : Blk w2 (w1.heap.size + 1) #[.int .i64 q.q, .int .i64 q.s, .slice B q.steps.length d, .int .i64 q.fr, .int .i64 q.by_] 43 := (by repeat' (first | with_reducible assumption | with_reducible exact Blk.new _ _ _ | with_reducible exact Blk.new' _ _ (by first | (simp only [World.size_alloc, World.size_setCell, World.size_drew]; done) | (simp only [World.size_alloc, World.size_setCell, World.size_drew]; omega) | omega) | with_reducible refine Blk.a ?_ _ | with_reducible refine Blk.d ?_ | with_reducible refine Blk.dN ?_ _ | with_reducible refine Blk.s ?_ (by simp only [ne_eq]; omega) _ | with_reducible refine Blk.b ?_ (by with_reducible assumption)))
  have hS2 : RdS w2 A p.steps.length c p.steps := (by exact Rd.mono (by with_reducible assumption) (by repeat' (first | with_reducible exact Below.refl _ _ | with_reducible assumption | with_reducible refine b_alloc ?_ _ | with_reducible refine b_drewN ?_ _ | with_reducible refine b_drew ?_ | with_reducible refine b_set ?_ (by first | (simp only [World.size_setCell, World.size_alloc, World.size_drew]; omega) | (simp; done) | (simp; omega)) _ | with_reducible refine b_step ?_ (by with_reducible assumption))))
  have hQ2 : RdS w2 B q.steps.length d q.steps := (by exact Rd.mono (by with_reducible assumption) (by repeat' (first | with_reducible exact Below.refl _ _ | with_reducible assumption | with_reducible refine b_alloc ?_ _ | with_reducible refine b_drewN ?_ _ | with_reducible refine b_drew ?_ | with_reducible refine b_set ?_ (by first | (simp only [World.size_setCell, World.size_alloc, World.size_drew]; omega) | (simp; done) | (simp; omega)) _ | with_reducible refine b_step ?_ (by with_reducible assumption))))
  have hb2 : Below w.heap.size w w2 := (by repeat' (first | with_reducible exact Below.refl _ _ | with_reducible assumption | with_reducible refine b_alloc ?_ _ | with_reducible refine b_drewN ?_ _ | with_reducible refine b_drew ?_ | with_reducible refine b_set ?_ (by first | (simp only [World.size_setCell, World.size_alloc, World.size_drew]; omega) | (simp; done) | (simp; omega)) _ | with_reducible refine b_step ?_ (by with_reducible assumption)))
  clear hB2 hS hQ hb1
  generalize w1.heap.size = bp at *
  have hty : decide (LL.PathOk q) = decide (LL.PathOk q) := rfl
  generalize hby : LL.turnBy p q t = by_ at *
  generalize hsh : LL.shared p q = sh
  obtain ⟨e0, f0, l0⟩ := kp.cells
  obtain ⟨e1, f1, l1⟩ := kq.cells
  ((refine calm_b (by kernel_rfl) (by kernel_rfl) ?_); (repeat (first | ((apply sure_cons (hg := rfl)); (focus ((intro w' hS'); (obtain ⟨hcS, hfS, hlS⟩ := bcell hS'); (try simp only [World.size_setCell, World.size_alloc, World.size_drew] at hS' hcS hfS hlS); (go_simp); (try go_bits); (try ((first | rw [if_pos (by omega)] | rw [if_neg (by omega)]); go_simp)); (first | (with_reducible rfl) | (with_reducible exact rfl) | (with_reducible exact ⟨rfl, hS'⟩) | (first | (go_at_call 55; go_loud (refine (spec_FlyTurnBy_c p q A B c d t _ (hS2.mono hS') (hQ2.mono hS')).mono ?_); rintro e w'' ⟨rfl, hb⟩; (first | (subst hb; exact ⟨rfl, hS'⟩) | exact ⟨rfl, b_to hS' hb (by first | exact Nat.le_refl _ | (have h1 := hS'.size; (try simp only [World.size_setCell, World.size_alloc, World.size_drew] at h1); omega))⟩)) | (go_at_call 56; go_loud (refine (impl_FlyShared_c p q A B c d _ (hS2.mono hS') (hQ2.mono hS')).mono ?_); rintro e w'' ⟨rfl, hb⟩; (first | (subst hb; exact ⟨rfl, hS'⟩) | exact ⟨rfl, b_to hS' hb (by first | exact Nat.le_refl _ | (have h1 := hS'.size; (try simp only [World.size_setCell, World.size_alloc, World.size_drew] at h1); omega))⟩)) | (go_at_call 57; go_loud (refine (spec_FlyShared_c p q A B c d _ (hS2.mono hS') (hQ2.mono hS')).mono ?_); rintro e w'' ⟨rfl, hb⟩; (first | (subst hb; exact ⟨rfl, hS'⟩) | exact ⟨rfl, b_to hS' hb (by first | exact Nat.le_refl _ | (have h1 := hS'.size; (try simp only [World.size_setCell, World.size_alloc, World.size_drew] at h1); omega))⟩)))))); (simp only [Act.put, List.setIfInBounds_toArray, List.set_cons_zero, List.set_cons_succ])) | ((apply sure_off (hg := rfl)); (simp only [Act.put, List.setIfInBounds_toArray, List.set_cons_zero, List.set_cons_succ])))); (refine sure_nil ?_))
  intro w3 hS3
  replace hb2 := b_step hb2 hS3
  replace kp := kp.b hS3
  replace kq := kq.b hS3
  replace hS2 := hS2.mono hS3
  replace hQ2 := hQ2.mono hS3
  clear hS3 e0 f0 l0 e1 f1 l1
  obtain ⟨e0, f0, l0⟩ := kp.cells
  obtain ⟨e1, f1, l1⟩ := kq.cells
  go_upto_region 8 with (go_at_call 25; go_loud (refine (impl_FlyTube_c p A c _ (by exact Rd.mono (by with_reducible assumption) (by repeat' (first | with_reducible exact Below.refl _ _ | with_reducible assumption | with_reducible refine b_alloc ?_ _ | with_reducible refine b_drewN ?_ _ | with_reducible refine b_drew ?_ | with_reducible refine b_set ?_ (by first | (simp only [World.size_setCell, World.size_alloc, World.size_drew]; omega) | (simp; done) | (simp; omega)) _ | with_reducible refine b_step ?_ (by with_reducible assumption))))).mono ?_); intro e w4 hM; obtain ⟨A4, c4, rfl, hO4, -, hB4⟩ := hM.go boxE)
  have hT4 := hO4.rd_at' boxE
  have hb4 := b_step hb2 hB4
  have kp4 := kp.b hB4
  have kq4 := kq.b hB4
  have hS4 := hS2.mono hB4
  have hQ4 := hQ2.mono hB4
  clear hO4 hB4 hb2 kp kq hS2 hQ2 e0 f0 l0 e1 f1 l1 hby hsh hty
  have lp := blk_lt kp4.at_
  have lq := blk_lt kq4.at_
  obtain ⟨e0, f0, l0⟩ := kp4.cells
  obtain ⟨e1, f1, l1⟩ := kq4.cells
  replace g2 := Lib.hid g2
  replace g3 := Lib.hid g3
  replace g4 := Lib.hid g4
  go_wp2
  go_loopw [8] (fun s wr => ∃ u : Int, t ≤ u ∧ u ≤ 30000 ∧ s = .int .i64 u ∧ Below w4.heap.size w4 wr) (fun s _ => (by_ + 1 - intOf s).toNat)
  case atStart => exact ⟨t, by omega, by omega, rfl, (by repeat' (first | with_reducible exact Below.refl _ _ | with_reducible assumption | with_reducible refine b_alloc ?_ _ | with_reducible refine b_drewN ?_ _ | with_reducible refine b_drew ?_ | with_reducible refine b_set ?_ (by first | (simp only [World.size_setCell, World.size_alloc, World.size_drew]; omega) | (simp; done) | (simp; omega)) _ | with_reducible refine b_step ?_ (by with_reducible assumption)))⟩
  case round =>
    obtain ⟨u, hu0, hu1, rfl, hb⟩ := hrel
    obtain ⟨hc, hf, hl⟩ := bcell hb
    have hzb := hb.size
    have lp2 : bp < wr.heap.size := by omega
    have lq2 : bp + 1 < wr.heap.size := by omega
    by_cases hle : u ≤ by_
    · have hal := Lib.hid (g2.out u hu0 hle)
      go_wp2_with (go_at_call 58; go_loud (refine (wfAll_n p q (LL.tubeM p) A B _ c d c4 u true hal.out (by omega) (by omega) _ (hS4.mono (by repeat' (first | with_reducible exact Below.refl _ _ | with_reducible assumption | with_reducible refine b_alloc ?_ _ | with_reducible refine b_drewN ?_ _ | with_reducible refine b_drew ?_ | with_reducible refine b_set ?_ (by first | (simp only [World.size_setCell, World.size_alloc, World.size_drew]; omega) | (simp; done) | (simp; omega)) _ | with_reducible refine b_step ?_ (by with_reducible assumption)))) (hQ4.mono (by repeat' (first | with_reducible exact Below.refl _ _ | with_reducible assumption | with_reducible refine b_alloc ?_ _ | with_reducible refine b_drewN ?_ _ | with_reducible refine b_drew ?_ | with_reducible refine b_set ?_ (by first | (simp only [World.size_setCell, World.size_alloc, World.size_drew]; omega) | (simp; done) | (simp; omega)) _ | with_reducible refine b_step ?_ (by with_reducible assumption)))) (hT4.mono (by repeat' (first | with_reducible exact Below.refl _ _ | with_reducible assumption | with_reducible refine b_alloc ?_ _ | with_reducible refine b_drewN ?_ _ | with_reducible refine b_drew ?_ | with_reducible refine b_set ?_ (by first | (simp only [World.size_setCell, World.size_alloc, World.size_drew]; omega) | (simp; done) | (simp; omega)) _ | with_reducible refine b_step ?_ (by with_reducible assumption))))).mono ?_); rintro e w5 ⟨rfl, hB5⟩; obtain ⟨hc5, hf5, hl5⟩ := bcell hB5; have hz5 := hB5.size; have yw5_0 : bp < w5.heap.size := (by omega); have yw5_1 : bp + 1 < w5.heap.size := (by omega))
      go_roundw
      case rel => exact ⟨u + 1 + (by_ - t) / 9, by omega, by omega, by go_num, b_step hb hB5⟩
      case measure => simp only [intOf]; omega
    · by_cases hge : t ≤ by_
      · by_cases hlt : by_ < 10000
        · have hal := Lib.hid (g3.out hge hlt)
          go_wp2_with (go_at_call 58; go_loud (refine (wfAll_n p q (LL.tubeM p) A B _ c d c4 (by_ + 1) false hal.out (by omega) (by omega) _ (hS4.mono (by repeat' (first | with_reducible exact Below.refl _ _ | with_reducible assumption | with_reducible refine b_alloc ?_ _ | with_reducible refine b_drewN ?_ _ | with_reducible refine b_drew ?_ | with_reducible refine b_set ?_ (by first | (simp only [World.size_setCell, World.size_alloc, World.size_drew]; omega) | (simp; done) | (simp; omega)) _ | with_reducible refine b_step ?_ (by with_reducible assumption)))) (hQ4.mono (by repeat' (first | with_reducible exact Below.refl _ _ | with_reducible assumption | with_reducible refine b_alloc ?_ _ | with_reducible refine b_drewN ?_ _ | with_reducible refine b_drew ?_ | with_reducible refine b_set ?_ (by first | (simp only [World.size_setCell, World.size_alloc, World.size_drew]; omega) | (simp; done) | (simp; omega)) _ | with_reducible refine b_step ?_ (by with_reducible assumption)))) (hT4.mono (by repeat' (first | with_reducible exact Below.refl _ _ | with_reducible assumption | with_reducible refine b_alloc ?_ _ | with_reducible refine b_drewN ?_ _ | with_reducible refine b_drew ?_ | with_reducible refine b_set ?_ (by first | (simp only [World.size_setCell, World.size_alloc, World.size_drew]; omega) | (simp; done) | (simp; omega)) _ | with_reducible refine b_step ?_ (by with_reducible assumption))))).mono ?_); rintro e w5 ⟨rfl, hB5⟩; obtain ⟨hc5, hf5, hl5⟩ := bcell hB5; have hz5 := hB5.size; have yw5_0 : bp < w5.heap.size := (by omega); have yw5_1 : bp + 1 < w5.heap.size := (by omega))
          go_ret
          exact ⟨rfl, b_step hb4 (by repeat' (first | with_reducible exact Below.refl _ _ | with_reducible assumption | with_reducible refine b_alloc ?_ _ | with_reducible refine b_drewN ?_ _ | with_reducible refine b_drew ?_ | with_reducible refine b_set ?_ (by first | (simp only [World.size_setCell, World.size_alloc, World.size_drew]; omega) | (simp; done) | (simp; omega)) _ | with_reducible refine b_step ?_ (by with_reducible assumption)))⟩
        · have h10 : (by_ == 10000) = true := by have : by_ = 10000 := by omega
                                                 rw [this]; rfl
          have hm1 : (by_ == -1) = false := beq_eq_false_iff_ne.2 (by omega)
          go_wp2
          go_ret
          exact ⟨rfl, b_step hb4 (by repeat' (first | with_reducible exact Below.refl _ _ | with_reducible assumption | with_reducible refine b_alloc ?_ _ | with_reducible refine b_drewN ?_ _ | with_reducible refine b_drew ?_ | with_reducible refine b_set ?_ (by first | (simp only [World.size_setCell, World.size_alloc, World.size_drew]; omega) | (simp; done) | (simp; omega)) _ | with_reducible refine b_step ?_ (by with_reducible assumption)))⟩
      · obtain ⟨h9, hcase⟩ := g4.out (by omega)
        subst h9
        clear g2 g3 g4 g0 g1
        by_cases h10 : 10000 < t
        · go_wp2
          go_ret
          exact ⟨rfl, b_step hb4 (by repeat' (first | with_reducible exact Below.refl _ _ | with_reducible assumption | with_reducible refine b_alloc ?_ _ | with_reducible refine b_drewN ?_ _ | with_reducible refine b_drew ?_ | with_reducible refine b_set ?_ (by first | (simp only [World.size_setCell, World.size_alloc, World.size_drew]; omega) | (simp; done) | (simp; omega)) _ | with_reducible refine b_step ?_ (by with_reducible assumption)))⟩
        · cases hal : LL.allTo p q (LL.tubeM p) t 0 false
          · clear hcase
            replace hal := Lib.hid hal
            go_wp2_with (go_at_call 58; go_loud (refine (wfAll_n p q (LL.tubeM p) A B _ c d c4 t false hal.out (by omega) (by omega) _ (hS4.mono (by repeat' (first | with_reducible exact Below.refl _ _ | with_reducible assumption | with_reducible refine b_alloc ?_ _ | with_reducible refine b_drewN ?_ _ | with_reducible refine b_drew ?_ | with_reducible refine b_set ?_ (by first | (simp only [World.size_setCell, World.size_alloc, World.size_drew]; omega) | (simp; done) | (simp; omega)) _ | with_reducible refine b_step ?_ (by with_reducible assumption)))) (hQ4.mono (by repeat' (first | with_reducible exact Below.refl _ _ | with_reducible assumption | with_reducible refine b_alloc ?_ _ | with_reducible refine b_drewN ?_ _ | with_reducible refine b_drew ?_ | with_reducible refine b_set ?_ (by first | (simp only [World.size_setCell, World.size_alloc, World.size_drew]; omega) | (simp; done) | (simp; omega)) _ | with_reducible refine b_step ?_ (by with_reducible assumption)))) (hT4.mono (by repeat' (first | with_reducible exact Below.refl _ _ | with_reducible assumption | with_reducible refine b_alloc ?_ _ | with_reducible refine b_drewN ?_ _ | with_reducible refine b_drew ?_ | with_reducible refine b_set ?_ (by first | (simp only [World.size_setCell, World.size_alloc, World.size_drew]; omega) | (simp; done) | (simp; omega)) _ | with_reducible refine b_step ?_ (by with_reducible assumption))))).mono ?_); rintro e w5 ⟨rfl, hB5⟩; obtain ⟨hc5, hf5, hl5⟩ := bcell hB5; have hz5 := hB5.size; have yw5_0 : bp < w5.heap.size := (by omega); have yw5_1 : bp + 1 < w5.heap.size := (by omega))
            go_ret
            exact ⟨rfl, b_step hb4 (by repeat' (first | with_reducible exact Below.refl _ _ | with_reducible assumption | with_reducible refine b_alloc ?_ _ | with_reducible refine b_drewN ?_ _ | with_reducible refine b_drew ?_ | with_reducible refine b_set ?_ (by first | (simp only [World.size_setCell, World.size_alloc, World.size_drew]; omega) | (simp; done) | (simp; omega)) _ | with_reducible refine b_step ?_ (by with_reducible assumption)))⟩
          · have hnq : ¬ LL.PathOk q := by
              rcases hcase with h | h | h
              · exact absurd h h10
              · rw [hal] at h; cases h
              · exact h
            clear hcase
            replace hal := Lib.hid hal
            replace hnq := Lib.hid hnq
            go_wp2_with (first | (go_at_call 58; go_loud (refine (wfAll_n p q (LL.tubeM p) A B _ c d c4 t true hal.out (by omega) (by omega) _ (hS4.mono (by repeat' (first | with_reducible exact Below.refl _ _ | with_reducible assumption | with_reducible refine b_alloc ?_ _ | with_reducible refine b_drewN ?_ _ | with_reducible refine b_drew ?_ | with_reducible refine b_set ?_ (by first | (simp only [World.size_setCell, World.size_alloc, World.size_drew]; omega) | (simp; done) | (simp; omega)) _ | with_reducible refine b_step ?_ (by with_reducible assumption)))) (hQ4.mono (by repeat' (first | with_reducible exact Below.refl _ _ | with_reducible assumption | with_reducible refine b_alloc ?_ _ | with_reducible refine b_drewN ?_ _ | with_reducible refine b_drew ?_ | with_reducible refine b_set ?_ (by first | (simp only [World.size_setCell, World.size_alloc, World.size_drew]; omega) | (simp; done) | (simp; omega)) _ | with_reducible refine b_step ?_ (by with_reducible assumption)))) (hT4.mono (by repeat' (first | with_reducible exact Below.refl _ _ | with_reducible assumption | with_reducible refine b_alloc ?_ _ | with_reducible refine b_drewN ?_ _ | with_reducible refine b_drew ?_ | with_reducible refine b_set ?_ (by first | (simp only [World.size_setCell, World.size_alloc, World.size_drew]; omega) | (simp; done) | (simp; omega)) _ | with_reducible refine b_step ?_ (by with_reducible assumption))))).mono ?_); rintro e w5 ⟨rfl, hB5⟩; obtain ⟨hc5, hf5, hl5⟩ := bcell hB5; have hz5 := hB5.size; have yw5_0 : bp < w5.heap.size := (by omega); have yw5_1 : bp + 1 < w5.heap.size := (by omega)) | (go_at_call 26; go_loud (refine (spec_FlyPathOk_c q B d _ (hQ4.mono (by repeat' (first | with_reducible exact Below.refl _ _ | with_reducible assumption | with_reducible refine b_alloc ?_ _ | with_reducible refine b_drewN ?_ _ | with_reducible refine b_drew ?_ | with_reducible refine b_set ?_ (by first | (simp only [World.size_setCell, World.size_alloc, World.size_drew]; omega) | (simp; done) | (simp; omega)) _ | with_reducible refine b_step ?_ (by with_reducible assumption))))).mono ?_); rintro e w6 ⟨e9, hB6⟩; go_loud (rw [decide_eq_false hnq.out] at e9); subst e9))
            go_ret
            exact ⟨rfl, b_step hb4 (by repeat' (first | with_reducible exact Below.refl _ _ | with_reducible assumption | with_reducible refine b_alloc ?_ _ | with_reducible refine b_drewN ?_ _ | with_reducible refine b_drew ?_ | with_reducible refine b_set ?_ (by first | (simp only [World.size_setCell, World.size_alloc, World.size_drew]; omega) | (simp; done) | (simp; omega)) _ | with_reducible refine b_step ?_ (by with_reducible assumption)))⟩
end Go.Proofs.Ytpeojnknfonmlaa
