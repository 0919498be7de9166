/- The law of what is left of a path. -/
import Derived.Test.YtpeojnknfonmlaaRQ
import Derived.Test.YtpeojnknfonmlaaPG
import Derived.Test.YtpeojnknfonmlaaRG
import Derived.Test.YtpeojnknfonmlaaJ8
import Derived.Test.YtpeojnknfonmlaaC6
import Derived.Test.YtpeojnknfonmlaaJ9
import Derived.Test.YtpeojnknfonmlaaS4
import Derived.Test.YtpeojnknfonmlaaJ6
import Derived.Test.YtpeojnknfonmlaaX4
import Derived.Test.YtpeojnknfonmlaaJ4
set_option linter.unusedVariables false
set_option linter.unusedSimpArgs false
namespace Go.Proofs.Ytpeojnknfonmlaa
open Go.RowKit
theorem LL.rest_firsts {p : LL.Path} {st en now : Int} (h : LL.CanRest p st en now) : (LL.firstM (LL.rsP p st en now)).length = (LL.rsP p st en now).steps.length + 1 ∧ (LL.lastM (LL.rsP p st en now)).length = (LL.rsP p st en now).steps.length + 1 ∧ LL.nthI (LL.firstM (LL.rsP p st en now)) 0 = en ∧ LL.nthI (LL.lastM (LL.rsP p st en now)) 0 = en ∧ now < LL.nthI (LL.firstM (LL.rsP p st en now)) 1 := by
  have F := h.flies'
  obtain ⟨a, b, c⟩ := LL.rest_first h
  have n1 := F.1.2.1.1
  exact ⟨LL.first_len F, LL.last_len F, by rw [LL.first_nth F 0 (Nat.zero_le _)]; exact a, by rw [LL.last_nth F 0 (Nat.zero_le _)]; exact b, by rw [LL.first_nth F 1 (by omega)]; exact c⟩
theorem LL.p0_no : ¬ LL.Flies LL.p0 := fun h => by have := h.1.1.1; exact absurd this (by decide)
theorem LL.spans_len' (p : LL.Path) : (LL.spans p).length = p.steps.length + 1 := LL.tab_len _ _
theorem LL.spans_zero (p : LL.Path) : LL.nthP (LL.spans p) 0 = ⟨LL.lo p 0, LL.hi p 0⟩ := LL.tab_getD (Nat.succ_pos _)
attribute [local go_sem] w_lt_add w_le_of w_le_add max2_i min2_i
set_option maxRecDepth 100000 in
set_option maxHeartbeats 8000000 in
theorem FnFlyRest_c (xs : List Int) (F : Option Addr) (m : Nat) (w : World) (h : Rd u8C 1 1 w F xs.length m xs) (hx : ∀ k, 0 ≤ LL.nthI xs k ∧ LL.nthI xs k ≤ 255) : Calls Try.prog 8 #[.slice F xs.length m] w fun e w' => e = .returned (.bool true) ∧ Below w.heap.size w w' := by
  replace hx := Lib.hid hx
  by_cases hbig : (1048576 : Int) < xs.length
  · go_enter Try.func8, Try.ntmps8
    go_wp2
    go_ret
    exact ⟨rfl, (by repeat' (first | with_reducible exact Below.refl _ _ | with_reducible assumption | with_reducible refine b_alloc ?_ _ | with_reducible refine b_drewN ?_ _ | with_reducible refine b_drew ?_ | with_reducible refine b_set ?_ (by first | (simp only [World.size_setCell, World.size_alloc, World.size_drew]; omega) | (simp; done) | (simp; omega)) _ | with_reducible refine b_step ?_ (by with_reducible assumption)))⟩
  go_enter Try.func8, Try.ntmps8
  go_upto_region 4 with (go_at_call 42; refine (spec_DrawFlyRest_c xs F m _ h hx.out).mono ?_; rintro e w1 ⟨p, A, c, k, en, t, rfl, hp, hS, hb1⟩)
  go_upto_region 10 with (first | (go_at_call 43; go_loud (refine (impl_FlyRest_c p A c k en t _ (by exact Rd.mono (by with_reducible assumption) (by repeat' (first | with_reducible exact Below.refl _ _ | with_reducible assumption | with_reducible refine b_alloc ?_ _ | with_reducible refine b_drewN ?_ _ | with_reducible refine b_drew ?_ | with_reducible refine b_set ?_ (by first | (simp only [World.size_setCell, World.size_alloc, World.size_drew]; omega) | (simp; done) | (simp; omega)) _ | with_reducible refine b_step ?_ (by with_reducible assumption))))).mono ?_); intro e w2 hM; obtain ⟨A2, c2, rfl, hO2, -, hB2⟩ := hM.gop2; have hS2 := hO2.rd_at' stepE; obtain ⟨hc2, hf2, hl2⟩ := bcell hB2; have hz2 := hB2.size; (try simp only [World.size_alloc, World.size_drew] at hz2); have yw2_0 : w1.heap.size < w2.heap.size := (by omega)) | (go_at_call 44; go_loud (refine (spec_FlyRest_c p A c k en t _ (by exact Rd.mono (by with_reducible assumption) (by repeat' (first | with_reducible exact Below.refl _ _ | with_reducible assumption | with_reducible refine b_alloc ?_ _ | with_reducible refine b_drewN ?_ _ | with_reducible refine b_drew ?_ | with_reducible refine b_set ?_ (by first | (simp only [World.size_setCell, World.size_alloc, World.size_drew]; omega) | (simp; done) | (simp; omega)) _ | with_reducible refine b_step ?_ (by with_reducible assumption))))).mono ?_); intro e w3 hM; obtain ⟨A3, c3, rfl, hO3, -, hB3⟩ := hM.gop2; have hS3 := hO3.rd_at' stepE; obtain ⟨hc3, hf3, hl3⟩ := bcell hB3; have hz3 := hB3.size; (try simp only [World.size_alloc, World.size_drew] at hz3); have yw3_0 : w1.heap.size < w3.heap.size := (by omega); have yw3_1 : w2.heap.size < w3.heap.size := (by omega)) | (go_at_call 45; go_loud (refine (impl_FlySeen_c p A c k t _ (by exact Rd.mono (by with_reducible assumption) (by repeat' (first | with_reducible exact Below.refl _ _ | with_reducible assumption | with_reducible refine b_alloc ?_ _ | with_reducible refine b_drewN ?_ _ | with_reducible refine b_drew ?_ | with_reducible refine b_set ?_ (by first | (simp only [World.size_setCell, World.size_alloc, World.size_drew]; omega) | (simp; done) | (simp; omega)) _ | with_reducible refine b_step ?_ (by with_reducible assumption))))).mono ?_); intro e w4 hM; obtain ⟨A4, c4, rfl, hO4, -, hB4⟩ := hM.gop2; have hS4 := hO4.rd_at' stepE; obtain ⟨hc4, hf4, hl4⟩ := bcell hB4; have hz4 := hB4.size; (try simp only [World.size_alloc, World.size_drew] at hz4); have yw4_0 : w1.heap.size < w4.heap.size := (by omega); have yw4_1 : w2.heap.size < w4.heap.size := (by omega); have yw4_2 : w3.heap.size < w4.heap.size := (by omega)) | (go_at_call 46; go_loud (refine (spec_FlySeen_c p A c k t _ (by exact Rd.mono (by with_reducible assumption) (by repeat' (first | with_reducible exact Below.refl _ _ | with_reducible assumption | with_reducible refine b_alloc ?_ _ | with_reducible refine b_drewN ?_ _ | with_reducible refine b_drew ?_ | with_reducible refine b_set ?_ (by first | (simp only [World.size_setCell, World.size_alloc, World.size_drew]; omega) | (simp; done) | (simp; omega)) _ | with_reducible refine b_step ?_ (by with_reducible assumption))))).mono ?_); intro e w5 hM; obtain ⟨A5, c5, rfl, hO5, -, hB5⟩ := hM.gop2; have hS5 := hO5.rd_at' stepE; obtain ⟨hc5, hf5, hl5⟩ := bcell hB5; have hz5 := hB5.size; (try simp only [World.size_alloc, World.size_drew] at hz5); have yw5_0 : w1.heap.size < w5.heap.size := (by omega); have yw5_1 : w2.heap.size < w5.heap.size := (by omega); have yw5_2 : w3.heap.size < w5.heap.size := (by omega); have yw5_3 : w4.heap.size < w5.heap.size := (by omega)) | (have hq9 := hB6; go_at_call 21; go_loud (refine (wfPath_c (LL.seenM p k t) _ _ _ _ _ (by exact Rd.mono (by with_reducible assumption) (by repeat' (first | with_reducible exact Below.refl _ _ | with_reducible assumption | with_reducible refine b_alloc ?_ _ | with_reducible refine b_drewN ?_ _ | with_reducible refine b_drew ?_ | with_reducible refine b_set ?_ (by first | (simp only [World.size_setCell, World.size_alloc, World.size_drew]; omega) | (simp; done) | (simp; omega)) _ | with_reducible refine b_step ?_ (by with_reducible assumption)))) (by exact Rd.mono (by with_reducible assumption) (by repeat' (first | with_reducible exact Below.refl _ _ | with_reducible assumption | with_reducible refine b_alloc ?_ _ | with_reducible refine b_drewN ?_ _ | with_reducible refine b_drew ?_ | with_reducible refine b_set ?_ (by first | (simp only [World.size_setCell, World.size_alloc, World.size_drew]; omega) | (simp; done) | (simp; omega)) _ | with_reducible refine b_step ?_ (by with_reducible assumption))))).mono ?_); rintro e w7 ⟨rfl, hB7⟩; obtain ⟨hc7, hf7, hl7⟩ := bcell hB7; have hz7 := hB7.size; (try simp only [World.size_alloc, World.size_drew] at hz7); have yw7_0 : w1.heap.size < w7.heap.size := (by omega); have yw7_1 : w2.heap.size < w7.heap.size := (by omega); have yw7_2 : w3.heap.size < w7.heap.size := (by omega); have yw7_3 : w4.heap.size < w7.heap.size := (by omega); have yw7_4 : w5.heap.size < w7.heap.size := (by omega)) | (go_at_call 21; go_loud (refine (wfPath_c (LL.restM p k en t) _ _ _ _ _ (by exact Rd.mono (by with_reducible assumption) (by repeat' (first | with_reducible exact Below.refl _ _ | with_reducible assumption | with_reducible refine b_alloc ?_ _ | with_reducible refine b_drewN ?_ _ | with_reducible refine b_drew ?_ | with_reducible refine b_set ?_ (by first | (simp only [World.size_setCell, World.size_alloc, World.size_drew]; omega) | (simp; done) | (simp; omega)) _ | with_reducible refine b_step ?_ (by with_reducible assumption)))) (by exact Rd.mono (by with_reducible assumption) (by repeat' (first | with_reducible exact Below.refl _ _ | with_reducible assumption | with_reducible refine b_alloc ?_ _ | with_reducible refine b_drewN ?_ _ | with_reducible refine b_drew ?_ | with_reducible refine b_set ?_ (by first | (simp only [World.size_setCell, World.size_alloc, World.size_drew]; omega) | (simp; done) | (simp; omega)) _ | with_reducible refine b_step ?_ (by with_reducible assumption))))).mono ?_); rintro e w6 ⟨rfl, hB6⟩; obtain ⟨hc6, hf6, hl6⟩ := bcell hB6; have hz6 := hB6.size; (try simp only [World.size_alloc, World.size_drew] at hz6); have yw6_0 : w1.heap.size < w6.heap.size := (by omega); have yw6_1 : w2.heap.size < w6.heap.size := (by omega); have yw6_2 : w3.heap.size < w6.heap.size := (by omega); have yw6_3 : w4.heap.size < w6.heap.size := (by omega); have yw6_4 : w5.heap.size < w6.heap.size := (by omega)))
  have hSp : RdS w7 A p.steps.length c p.steps := (by exact Rd.mono (by with_reducible assumption) (by repeat' (first | with_reducible exact Below.refl _ _ | with_reducible assumption | with_reducible refine b_alloc ?_ _ | with_reducible refine b_drewN ?_ _ | with_reducible refine b_drew ?_ | with_reducible refine b_set ?_ (by first | (simp only [World.size_setCell, World.size_alloc, World.size_drew]; omega) | (simp; done) | (simp; omega)) _ | with_reducible refine b_step ?_ (by with_reducible assumption))))
  have hSq : RdS w7 A2 (LL.restM p k en t).steps.length c2 (LL.restM p k en t).steps := (by exact Rd.mono (by with_reducible assumption) (by repeat' (first | with_reducible exact Below.refl _ _ | with_reducible assumption | with_reducible refine b_alloc ?_ _ | with_reducible refine b_drewN ?_ _ | with_reducible refine b_drew ?_ | with_reducible refine b_set ?_ (by first | (simp only [World.size_setCell, World.size_alloc, World.size_drew]; omega) | (simp; done) | (simp; omega)) _ | with_reducible refine b_step ?_ (by with_reducible assumption))))
  have hSr : RdS w7 A4 (LL.seenM p k t).steps.length c4 (LL.seenM p k t).steps := (by exact Rd.mono (by with_reducible assumption) (by repeat' (first | with_reducible exact Below.refl _ _ | with_reducible assumption | with_reducible refine b_alloc ?_ _ | with_reducible refine b_drewN ?_ _ | with_reducible refine b_drew ?_ | with_reducible refine b_set ?_ (by first | (simp only [World.size_setCell, World.size_alloc, World.size_drew]; omega) | (simp; done) | (simp; omega)) _ | with_reducible refine b_step ?_ (by with_reducible assumption))))
  have kp : Blk w7 w1.heap.size #[.int .i64 p.q, .int .i64 p.s, .slice A p.steps.length c, .int .i64 p.fr, .int .i64 p.by_] 43 := (by repeat' (first | with_reducible assumption | with_reducible exact Blk.new _ _ _ | with_reducible exact Blk.new' _ _ (by first | (simp only [World.size_alloc, World.size_setCell, World.size_drew]; done) | (simp only [World.size_alloc, World.size_setCell, World.size_drew]; omega) | omega) | with_reducible refine Blk.a ?_ _ | with_reducible refine Blk.d ?_ | with_reducible refine Blk.dN ?_ _ | with_reducible refine Blk.s ?_ (by simp only [ne_eq]; omega) _ | with_reducible refine Blk.b ?_ (by with_reducible assumption)))
  have kq : Blk w7 w2.heap.size #[.int .i64 (LL.restM p k en t).q, .int .i64 (LL.restM p k en t).s, .slice A2 (LL.restM p k en t).steps.length c2, .int .i64 (LL.restM p k en t).fr, .int .i64 (LL.restM p k en t).by_] 43 := (by repeat' (first | with_reducible assumption | with_reducible exact Blk.new _ _ _ | with_reducible exact Blk.new' _ _ (by first | (simp only [World.size_alloc, World.size_setCell, World.size_drew]; done) | (simp only [World.size_alloc, World.size_setCell, World.size_drew]; omega) | omega) | with_reducible refine Blk.a ?_ _ | with_reducible refine Blk.d ?_ | with_reducible refine Blk.dN ?_ _ | with_reducible refine Blk.s ?_ (by simp only [ne_eq]; omega) _ | with_reducible refine Blk.b ?_ (by with_reducible assumption)))
  have kr : Blk w7 w4.heap.size #[.int .i64 (LL.seenM p k t).q, .int .i64 (LL.seenM p k t).s, .slice A4 (LL.seenM p k t).steps.length c4, .int .i64 (LL.seenM p k t).fr, .int .i64 (LL.seenM p k t).by_] 43 := (by repeat' (first | with_reducible assumption | with_reducible exact Blk.new _ _ _ | with_reducible exact Blk.new' _ _ (by first | (simp only [World.size_alloc, World.size_setCell, World.size_drew]; done) | (simp only [World.size_alloc, World.size_setCell, World.size_drew]; omega) | omega) | with_reducible refine Blk.a ?_ _ | with_reducible refine Blk.d ?_ | with_reducible refine Blk.dN ?_ _ | with_reducible refine Blk.s ?_ (by simp only [ne_eq]; omega) _ | with_reducible refine Blk.b ?_ (by with_reducible assumption)))
  have hb7 : Below w.heap.size w w7 := (by repeat' (first | with_reducible exact Below.refl _ _ | with_reducible assumption | with_reducible refine b_alloc ?_ _ | with_reducible refine b_drewN ?_ _ | with_reducible refine b_drew ?_ | with_reducible refine b_set ?_ (by first | (simp only [World.size_setCell, World.size_alloc, World.size_drew]; omega) | (simp; done) | (simp; omega)) _ | with_reducible refine b_step ?_ (by with_reducible assumption)))
  clear hO2 hO3 hO4 hO5 hS2 hS3 hS4 hS5 hB2 hB3 hB4 hB5 hB6 hB7 hc2 hf2 hl2 hc3 hf3 hl3 hc4 hf4 hl4 hc5 hf5 hl5 hc6 hf6 hl6 hc7 hf7 hl7 hb1 hS
  generalize w1.heap.size = bp at *
  generalize w2.heap.size = bq at *
  generalize w4.heap.size = br at *
  have lp := blk_lt kp.at_
  have lq := blk_lt kq.at_
  have lr := blk_lt kr.at_
  obtain ⟨e0, f0, l0⟩ := kp.cells
  obtain ⟨e1, f1, l1⟩ := kq.cells
  obtain ⟨e2, f2, l2⟩ := kr.cells
  generalize hok : decide (LL.CanRest p k en t) = ok at *
  go_upto_if 82 with fail
  go_cut [] (fun wc => Below w7.heap.size w7 wc)
  case first =>
    by_cases hR : LL.CanRest p k en t
    · rw [decide_eq_true hR] at hok
      subst hok
      obtain ⟨hlq8, hlq9, x80, x90, x81⟩ := LL.rest_firsts hR
      have hPq := hR.flies'.1
      have hn1 := hPq.2.1.1
      rw [LL.restM_yes hR] at hSq kq e1
      have hE2 : LL.restM p k en t = LL.rsP p k en t := LL.restM_yes hR
      (try simp only [hE2])
      generalize LL.rsP p k en t = q at *
      clear hE2
      obtain ⟨f81, x81', x82⟩ : ∃ z, LL.nthI (LL.firstM q) 1 = z ∧ t < z := ⟨_, rfl, x81⟩
      clear x81
      have x81 := x81'
      obtain ⟨f91, x91⟩ : ∃ z, LL.nthI (LL.lastM q) 1 = z := ⟨_, rfl⟩
      go_upto_region 13 with (first | (go_at_call 22; go_loud (refine (impl_FlyFirst_c q A2 c2 _ (by exact Rd.mono (by with_reducible assumption) (by repeat' (first | with_reducible exact Below.refl _ _ | with_reducible assumption | with_reducible refine b_alloc ?_ _ | with_reducible refine b_drewN ?_ _ | with_reducible refine b_drew ?_ | with_reducible refine b_set ?_ (by first | (simp only [World.size_setCell, World.size_alloc, World.size_drew]; omega) | (simp; done) | (simp; omega)) _ | with_reducible refine b_step ?_ (by with_reducible assumption))))).mono ?_); intro e w8 hM; obtain ⟨A8, c8, e9, hO8, -, hB8⟩ := hM.go intE; rw [hlq8] at e9 hO8; subst e9; have hI8 := hO8.rd_at' intE; obtain ⟨b8, o8, rfl, hb8⟩ := hI8.addr (by omega); have d80 := hI8.S1 0 (by omega); have d81 := hI8.S1 1 (by omega); rw [x80] at d80; rw [x81] at d81; (simp only [Nat.add_zero] at d80); obtain ⟨hc8, hf8, hll8⟩ := bcell hB8; have hz8 := hB8.size; (try simp only [World.size_alloc, World.size_drew] at hz8); have yw8_0 : bp < w8.heap.size := (by omega); have yw8_1 : bq < w8.heap.size := (by omega); have yw8_2 : br < w8.heap.size := (by omega)) | (go_at_call 37; go_loud (refine (impl_FlyLast_c q A2 c2 _ (by exact Rd.mono (by with_reducible assumption) (by repeat' (first | with_reducible exact Below.refl _ _ | with_reducible assumption | with_reducible refine b_alloc ?_ _ | with_reducible refine b_drewN ?_ _ | with_reducible refine b_drew ?_ | with_reducible refine b_set ?_ (by first | (simp only [World.size_setCell, World.size_alloc, World.size_drew]; omega) | (simp; done) | (simp; omega)) _ | with_reducible refine b_step ?_ (by with_reducible assumption))))).mono ?_); intro e w9 hM; obtain ⟨A9, c9, e9, hO9, -, hB9⟩ := hM.go intE; rw [hlq9] at e9 hO9; subst e9; have hI9 := hO9.rd_at' intE; obtain ⟨b9, o9, rfl, hb9⟩ := hI9.addr (by omega); have d90 := hI9.S1 0 (by omega); have d91 := hI9.S1 1 (by omega); rw [x90] at d90; rw [x91] at d91; (simp only [Nat.add_zero] at d90); obtain ⟨hc9, hf9, hll9⟩ := bcell hB9; have hz9 := hB9.size; (try simp only [World.size_alloc, World.size_drew] at hz9); have yw9_0 : bp < w9.heap.size := (by omega); have yw9_1 : bq < w9.heap.size := (by omega); have yw9_2 : br < w9.heap.size := (by omega)))
      have hqq := Lib.hid hPq
      go_wp2_with (go_at_call 47; go_loud (refine (impl_FlyPathOk_c q A2 c2 _ (by exact Rd.mono (by with_reducible assumption) (by repeat' (first | with_reducible exact Below.refl _ _ | with_reducible assumption | with_reducible refine b_alloc ?_ _ | with_reducible refine b_drewN ?_ _ | with_reducible refine b_drew ?_ | with_reducible refine b_set ?_ (by first | (simp only [World.size_setCell, World.size_alloc, World.size_drew]; omega) | (simp; done) | (simp; omega)) _ | with_reducible refine b_step ?_ (by with_reducible assumption))))).mono ?_); rintro e w10 ⟨e9, hB10⟩; go_loud (rw [decide_eq_true hqq.out] at e9); subst e9)
      go_meet
      case rel => exact (by repeat' (first | with_reducible exact Below.refl _ _ | with_reducible assumption | with_reducible refine b_alloc ?_ _ | with_reducible refine b_drewN ?_ _ | with_reducible refine b_drew ?_ | with_reducible refine b_set ?_ (by first | (simp only [World.size_setCell, World.size_alloc, World.size_drew]; omega) | (simp; done) | (simp; omega)) _ | with_reducible refine b_step ?_ (by with_reducible assumption)))
    · rw [decide_eq_false hR] at hok
      subst hok
      go_wp2
      go_meet
      case rel => exact (by repeat' (first | with_reducible exact Below.refl _ _ | with_reducible assumption | with_reducible refine b_alloc ?_ _ | with_reducible refine b_drewN ?_ _ | with_reducible refine b_drew ?_ | with_reducible refine b_set ?_ (by first | (simp only [World.size_setCell, World.size_alloc, World.size_drew]; omega) | (simp; done) | (simp; omega)) _ | with_reducible refine b_step ?_ (by with_reducible assumption)))
  have hbc := hcut
  clear hcut e0 f0 l0 e1 f1 l1 e2 f2 l2 kq hSq hok
  replace kp := kp.b hbc
  replace kr := kr.b hbc
  replace hSp := hSp.mono hbc
  replace hSr := hSr.mono hbc
  replace hb7 := b_step hb7 hbc
  clear hbc lp lq lr
  have lp := blk_lt kp.at_
  have lr := blk_lt kr.at_
  obtain ⟨e0, f0, l0⟩ := kp.cells
  obtain ⟨e2, f2, l2⟩ := kr.cells
  by_cases hC : LL.CanSeen p k t
  · have hsm := LL.seen_small hC
    have hsc := fun u a b => LL.seen_can hC u a b
    have hss : ∀ u, LL.lo (LL.snP p k t) 0 ≤ u → u ≤ LL.hi (LL.snP p k t) 0 → LL.Small (LL.tubeM (LL.rsP p k u t)) (LL.tubeM (LL.snP p k t)) := fun u a b => by
      have F := hC.flies'
      have g1 := ((LL.tl_flight hC.lt).1 (LL.flight_lo F.1.qs F.2)).2.1
      have g2 := ((LL.tl_flight hC.lt).1 (LL.flight_hi F.1.qs F.2)).2.2.1
      exact LL.rest_small hC (LL.seen_can hC u a b) (Int.le_trans g1 a) (Int.le_trans b (by unfold LL.snP at *; omega))
    obtain ⟨y0, y1, y2⟩ := LL.seen_rng hC
    have hFr := hC.flies'
    have hE2 : LL.seenM p k t = LL.snP p k t := LL.seenM_yes hC
    rw [decide_eq_true hC]
    rw [hE2] at kr e2 hSr
    (try simp only [hE2])
    generalize LL.snP p k t = r at *
    clear hE2 hC
    go_upto_region 18 with (go_at_call 24; go_loud (refine (impl_FlySpans_c r A4 c4 _ (by exact Rd.mono (by with_reducible assumption) (by repeat' (first | with_reducible exact Below.refl _ _ | with_reducible assumption | with_reducible refine b_alloc ?_ _ | with_reducible refine b_drewN ?_ _ | with_reducible refine b_drew ?_ | with_reducible refine b_set ?_ (by first | (simp only [World.size_setCell, World.size_alloc, World.size_drew]; omega) | (simp; done) | (simp; omega)) _ | with_reducible refine b_step ?_ (by with_reducible assumption))))).mono ?_); intro e w8 hM; go_loud (rw [LL.spansM_yes hFr, decide_eq_true hFr] at hM); obtain ⟨A8, c8, e9, hO8, -, hB8⟩ := hM.go2 spanE; rw [LL.spans_len'] at e9 hO8; subst e9; have hL8 := hO8.rd_at' spanE)
    obtain ⟨bL, oL, rfl, hbL⟩ := hL8.addr (by omega)
    obtain ⟨d0, d1⟩ := hL8.S2 0 (by omega)
    rw [LL.spans_zero] at d0 d1
    simp only [Nat.zero_mul, Nat.add_zero] at d0 d1
    have hb8 := b_step hb7 hB8
    replace kp := kp.b hB8
    replace kr := kr.b hB8
    replace hSp := hSp.mono hB8
    replace hSr := hSr.mono hB8
    clear hB8 hO8 hL8 hb7 e0 f0 l0 e2 f2 l2 lp lr hFr
    have lp := blk_lt kp.at_
    have lr := blk_lt kr.at_
    generalize LL.lo r 0 = lo at *
    generalize LL.hi r 0 = hi at *
    replace hsm := Lib.hid hsm
    replace hsc := Lib.hid hsc
    replace hss := Lib.hid hss
    go_wp2
    go_loopw [19, 20, 21] (fun tt x y wr => ∃ u : Int, lo ≤ u ∧ u ≤ 20000 ∧ tt = .int .i64 u ∧ Below w8.heap.size w8 wr) (fun tt _ _ _ => (hi + 1 - intOf tt).toNat)
    case atStart => exact ⟨lo, by omega, by omega, rfl, (by repeat' (first | with_reducible exact Below.refl _ _ | with_reducible assumption | with_reducible refine b_alloc ?_ _ | with_reducible refine b_drewN ?_ _ | with_reducible refine b_drew ?_ | with_reducible refine b_set ?_ (by first | (simp only [World.size_setCell, World.size_alloc, World.size_drew]; omega) | (simp; done) | (simp; omega)) _ | with_reducible refine b_step ?_ (by with_reducible assumption)))⟩
    case round =>
      obtain ⟨u, hu0, hu1, rfl, hb⟩ := hrel
      obtain ⟨hc, hf, hl⟩ := bcell hb
      have kp9 := kp.b hb
      have kr9 := kr.b hb
      have hSp9 := hSp.mono hb
      have hSr9 := hSr.mono hb
      obtain ⟨e0, f0, l0⟩ := kp.cells
      obtain ⟨e2, f2, l2⟩ := kr.cells
      by_cases hle : u ≤ hi
      · have hcr := hsc.out u hu0 hle
        have hsu := Lib.hid (hss.out u hu0 hle)
        have lpb := blk_lt kp9.at_
        have lrb := blk_lt kr9.at_
        go_upto_region 22 with (go_at_call 43; go_loud (refine (impl_FlyRest_c p A c k u t _ (by exact Rd.mono (by with_reducible assumption) (by repeat' (first | with_reducible exact Below.refl _ _ | with_reducible assumption | with_reducible refine b_alloc ?_ _ | with_reducible refine b_drewN ?_ _ | with_reducible refine b_drew ?_ | with_reducible refine b_set ?_ (by first | (simp only [World.size_setCell, World.size_alloc, World.size_drew]; omega) | (simp; done) | (simp; omega)) _ | with_reducible refine b_step ?_ (by with_reducible assumption))))).mono ?_); intro e w9 hM; go_loud (rw [LL.restM_yes hcr, decide_eq_true hcr] at hM); obtain ⟨A9, c9, rfl, hO9, -, hB9⟩ := hM.gop2; have hS9 := hO9.rd_at' stepE; have hz9 := hB9.size)
        have kx : Blk (w9.alloc (.cells #[.int .i64 (LL.rsP p k u t).q, .int .i64 (LL.rsP p k u t).s, .slice A9 (LL.rsP p k u t).steps.length c9, .int .i64 (LL.rsP p k u t).fr, .int .i64 (LL.rsP p k u t).by_] 43)) w9.heap.size #[.int .i64 (LL.rsP p k u t).q, .int .i64 (LL.rsP p k u t).s, .slice A9 (LL.rsP p k u t).steps.length c9, .int .i64 (LL.rsP p k u t).fr, .int .i64 (LL.rsP p k u t).by_] 43 := Blk.new _ _ _
        refine wp_name (fun W => Blk W w9.heap.size #[.int .i64 (LL.rsP p k u t).q, .int .i64 (LL.rsP p k u t).s, .slice A9 (LL.rsP p k u t).steps.length c9, .int .i64 (LL.rsP p k u t).fr, .int .i64 (LL.rsP p k u t).by_] 43 ∧ RdS W A9 (LL.rsP p k u t).steps.length c9 (LL.rsP p k u t).steps ∧ Below wr.heap.size wr W) ⟨kx, (by exact Rd.mono (by with_reducible assumption) (by repeat' (first | with_reducible exact Below.refl _ _ | with_reducible assumption | with_reducible refine b_alloc ?_ _ | with_reducible refine b_drewN ?_ _ | with_reducible refine b_drew ?_ | with_reducible refine b_set ?_ (by first | (simp only [World.size_setCell, World.size_alloc, World.size_drew]; omega) | (simp; done) | (simp; omega)) _ | with_reducible refine b_step ?_ (by with_reducible assumption)))), (by repeat' (first | with_reducible exact Below.refl _ _ | with_reducible assumption | with_reducible refine b_alloc ?_ _ | with_reducible refine b_drewN ?_ _ | with_reducible refine b_drew ?_ | with_reducible refine b_set ?_ (by first | (simp only [World.size_setCell, World.size_alloc, World.size_drew]; omega) | (simp; done) | (simp; omega)) _ | with_reducible refine b_step ?_ (by with_reducible assumption)))⟩ ?_
        clear kx hO9 hS9 hB9 e0 f0 l0 e2 f2 l2 hc hf hl hcr
        rintro W ⟨kx, hSx, hbW⟩
        generalize w9.heap.size = bx at *
        generalize LL.rsP p k u t = q at *
        have kr10 := kr9.b hbW
        have hSr10 := hSr9.mono hbW
        obtain ⟨e1, f1, l1⟩ := kx.cells
        obtain ⟨e2, f2, l2⟩ := kr10.cells
        refine rel_b [(4, fun v W => ∃ A9 c9, v = .slice A9 (LL.tubeM q).length c9 ∧ RdB W A9 (LL.tubeM q).length c9 (LL.tubeM q)), (6, fun v W => ∃ A9 c9, v = .slice A9 (LL.tubeM r).length c9 ∧ RdB W A9 (LL.tubeM r).length c9 (LL.tubeM r)), (7, fun v _ => v = .bool true)] (by kernel_rfl) (by kernel_rfl) ?_
        iterate 4 ((apply rel_plain (hR := rfl) (hF := fun _ => trivial) (hg := rfl)); (focus ((intro w' hL'); (obtain ⟨hcS, hfS, hlS⟩ := bcell hL'); (try simp only [World.size_setCell, World.size_alloc, World.size_drew] at hcS hfS hlS); (go_simp); (try go_bits); (try (first | (rw [if_pos (by omega)]; done) | (rw [if_neg (by omega)]; done) | (rw [if_pos (by omega)]; go_simp) | (rw [if_neg (by omega)]; go_simp))); (first | with_reducible rfl | exact rfl | skip))); (simp only [Act.put, List.setIfInBounds_toArray, List.set_cons_zero, List.set_cons_succ]))
        ((apply rel_told (hR := rfl) (hg := rfl)); (focus ((intro w' hL' hD'); (obtain ⟨hcS, hfS, hlS⟩ := bcell hL'); (try simp only [World.size_setCell, World.size_alloc, World.size_drew] at hcS hfS hlS); (go_simp); (try go_bits); (try (first | (rw [if_pos (by omega)]; done) | (rw [if_neg (by omega)]; done) | (rw [if_pos (by omega)]; go_simp) | (rw [if_neg (by omega)]; go_simp))); ((go_at_call 25); (refine (impl_FlyTube_c q A9 c9 _ (hSx.mono hL')).mono ?_); (intro e w'' hM); (obtain ⟨A2x, c2x, rfl, hO2x, -, hBx⟩ := hM.go boxE); (refine ⟨_, rfl, hBx, ?_⟩); ((repeat (first | (refine Tell.hit rfl ?_) | (refine Tell.skip rfl ?_))); exact ⟨A2x, c2x, rfl, hO2x.rd_at' boxE⟩)))); (intro v' w0' hv'); (replace hv' := Tell.out hv' rfl); (obtain ⟨A2p, c2p, rfl, -⟩ := hv'); (simp only [Act.put, List.setIfInBounds_toArray, List.set_cons_zero, List.set_cons_succ]))
        ((apply rel_plain (hR := rfl) (hF := fun _ => trivial) (hg := rfl)); (focus ((intro w' hL'); (obtain ⟨hcS, hfS, hlS⟩ := bcell hL'); (try simp only [World.size_setCell, World.size_alloc, World.size_drew] at hcS hfS hlS); (go_simp); (try go_bits); (try (first | (rw [if_pos (by omega)]; done) | (rw [if_neg (by omega)]; done) | (rw [if_pos (by omega)]; go_simp) | (rw [if_neg (by omega)]; go_simp))); (first | with_reducible rfl | exact rfl | skip))); (simp only [Act.put, List.setIfInBounds_toArray, List.set_cons_zero, List.set_cons_succ]))
        ((apply rel_told (hR := rfl) (hg := rfl)); (focus ((intro w' hL' hD'); (obtain ⟨hcS, hfS, hlS⟩ := bcell hL'); (try simp only [World.size_setCell, World.size_alloc, World.size_drew] at hcS hfS hlS); (go_simp); (try go_bits); (try (first | (rw [if_pos (by omega)]; done) | (rw [if_neg (by omega)]; done) | (rw [if_pos (by omega)]; go_simp) | (rw [if_neg (by omega)]; go_simp))); ((go_at_call 25); (refine (impl_FlyTube_c r A4 c4 _ (hSr10.mono hL')).mono ?_); (intro e w'' hM); (obtain ⟨A2x, c2x, rfl, hO2x, -, hBx⟩ := hM.go boxE); (refine ⟨_, rfl, hBx, ?_⟩); ((repeat (first | (refine Tell.hit rfl ?_) | (refine Tell.skip rfl ?_))); exact ⟨A2x, c2x, rfl, hO2x.rd_at' boxE⟩)))); (intro v' w0' hv'); (replace hv' := Tell.out hv' rfl); (obtain ⟨A3p, c3p, rfl, -⟩ := hv'); (simp only [Act.put, List.setIfInBounds_toArray, List.set_cons_zero, List.set_cons_succ]))
        ((apply rel_told (hR := rfl) (hg := rfl)); (focus ((intro w' hL' hD'); (obtain ⟨hcS, hfS, hlS⟩ := bcell hL'); (try simp only [World.size_setCell, World.size_alloc, World.size_drew] at hcS hfS hlS); (go_simp); (try go_bits); (try (first | (rw [if_pos (by omega)]; done) | (rw [if_neg (by omega)]; done) | (rw [if_pos (by omega)]; go_simp) | (rw [if_neg (by omega)]; go_simp))); ((obtain ⟨va, hva, A8a, c8a, e8a, hR8a⟩ := Known.out (hD' ⟨4, .data⟩ (by simp) rfl) rfl); (injection e8a with e8a e8ax e8ay; subst e8a e8ay); (obtain ⟨vb, hvb, A8b, c8b, e8b, hR8b⟩ := Known.out (hD' ⟨6, .data⟩ (by simp) rfl) rfl); (injection e8b with e8b e8bx e8by; subst e8b e8by); ((go_at_call 48); (refine (impl_FlySmaller_c _ _ _ _ _ _ _ (hR8a.mono hva) (hR8b.mono hvb)).mono ?_); (rintro e w'' ⟨rfl, hb''⟩); (refine ⟨_, rfl, ?_, ?_⟩); (focus (first | exact hb'' | (subst hb''; exact Le.refl _))); ((repeat (first | (refine Tell.hit rfl ?_) | (refine Tell.skip rfl ?_))); exact (by rw [decide_eq_true hsu.out])))))); (intro v' w0' hv'); (replace hv' := Tell.out hv' rfl); (obtain rfl := hv'); (simp only [Act.put, List.setIfInBounds_toArray, List.set_cons_zero, List.set_cons_succ]))
        iterate 2 ((apply rel_plain (hR := rfl) (hF := fun _ => trivial) (hg := rfl)); (focus ((intro w' hL'); (obtain ⟨hcS, hfS, hlS⟩ := bcell hL'); (try simp only [World.size_setCell, World.size_alloc, World.size_drew] at hcS hfS hlS); (go_simp); (try go_bits); (try (first | (rw [if_pos (by omega)]; done) | (rw [if_neg (by omega)]; done) | (rw [if_pos (by omega)]; go_simp) | (rw [if_neg (by omega)]; go_simp))); (first | with_reducible rfl | exact rfl | skip))); (simp only [Act.put, List.setIfInBounds_toArray, List.set_cons_zero, List.set_cons_succ]))
        refine rel_nil ?_
        intro W12 hE hF9
        clear hF9 e1 f1 l1 e2 f2 l2
        have hb12 : Below w8.heap.size w8 W12 := b_step hb (b_step hbW hE)
        obtain ⟨hc, hf, hl⟩ := bcell hb12
        go_upto_region 20 with fail
        ((refine calm_b (by kernel_rfl) (by kernel_rfl) ?_); (repeat (first | ((apply sure_cons (hg := rfl)); (focus ((intro w' hS'); (obtain ⟨hcS, hfS, hlS⟩ := bcell hS'); (try simp only [World.size_setCell, World.size_alloc, World.size_drew] at hS' hcS hfS hlS); (go_simp); (try go_bits); (try ((first | rw [if_pos (by omega)] | rw [if_neg (by omega)]); go_simp)); (first | (with_reducible rfl) | (with_reducible exact rfl) | (with_reducible exact ⟨rfl, hS'⟩) | fail))); (simp only [Act.put, List.setIfInBounds_toArray, List.set_cons_zero, List.set_cons_succ])) | ((apply sure_off (hg := rfl)); (simp only [Act.put, List.setIfInBounds_toArray, List.set_cons_zero, List.set_cons_succ])))); (refine sure_nil ?_))
        intro w' hS'
        (try simp only [List.getElem_toArray, List.getElem_cons_succ, List.getElem_cons_zero, Act.put, List.setIfInBounds_toArray, List.set_cons_zero, List.set_cons_succ])
        go_roundw
        case rel =>
          (repeat apply Exists.intro)
          refine ⟨⟨u + 1 + (hi - lo) / 5, by omega, by omega, rfl, b_step hb12 hS'⟩, ?_⟩
          rfl
        case measure => simp [intOf]; omega
      · go_upto_region 24 with fail
        refine rel_b [(1, fun v W => ∃ A9 c9, v = .slice A9 (LL.tubeM r).length c9 ∧ RdB W A9 (LL.tubeM r).length c9 (LL.tubeM r)), (3, fun v W => ∃ A9 c9, v = .slice A9 (LL.tubeM p).length c9 ∧ RdB W A9 (LL.tubeM p).length c9 (LL.tubeM p)), (4, fun v _ => v = .bool true)] (by kernel_rfl) (by kernel_rfl) ?_
        ((apply rel_plain (hR := rfl) (hF := fun _ => trivial) (hg := rfl)); (focus ((intro w' hL'); (obtain ⟨hcS, hfS, hlS⟩ := bcell hL'); (try simp only [World.size_setCell, World.size_alloc, World.size_drew] at hcS hfS hlS); (go_simp); (try go_bits); (try (first | (rw [if_pos (by omega)]; done) | (rw [if_neg (by omega)]; done) | (rw [if_pos (by omega)]; go_simp) | (rw [if_neg (by omega)]; go_simp))); (first | with_reducible rfl | exact rfl | skip))); (simp only [Act.put, List.setIfInBounds_toArray, List.set_cons_zero, List.set_cons_succ]))
        ((apply rel_told (hR := rfl) (hg := rfl)); (focus ((intro w' hL' hD'); (obtain ⟨hcS, hfS, hlS⟩ := bcell hL'); (try simp only [World.size_setCell, World.size_alloc, World.size_drew] at hcS hfS hlS); (go_simp); (try go_bits); (try (first | (rw [if_pos (by omega)]; done) | (rw [if_neg (by omega)]; done) | (rw [if_pos (by omega)]; go_simp) | (rw [if_neg (by omega)]; go_simp))); ((go_at_call 25); (refine (impl_FlyTube_c r A4 c4 _ (hSr9.mono hL')).mono ?_); (intro e w'' hM); (obtain ⟨A2x, c2x, rfl, hO2x, -, hBx⟩ := hM.go boxE); (refine ⟨_, rfl, hBx, ?_⟩); ((repeat (first | (refine Tell.hit rfl ?_) | (refine Tell.skip rfl ?_))); exact ⟨A2x, c2x, rfl, hO2x.rd_at' boxE⟩)))); (intro v' w0' hv'); (replace hv' := Tell.out hv' rfl); (obtain ⟨A2p, c2p, rfl, -⟩ := hv'); (simp only [Act.put, List.setIfInBounds_toArray, List.set_cons_zero, List.set_cons_succ]))
        ((apply rel_plain (hR := rfl) (hF := fun _ => trivial) (hg := rfl)); (focus ((intro w' hL'); (obtain ⟨hcS, hfS, hlS⟩ := bcell hL'); (try simp only [World.size_setCell, World.size_alloc, World.size_drew] at hcS hfS hlS); (go_simp); (try go_bits); (try (first | (rw [if_pos (by omega)]; done) | (rw [if_neg (by omega)]; done) | (rw [if_pos (by omega)]; go_simp) | (rw [if_neg (by omega)]; go_simp))); (first | with_reducible rfl | exact rfl | skip))); (simp only [Act.put, List.setIfInBounds_toArray, List.set_cons_zero, List.set_cons_succ]))
        ((apply rel_told (hR := rfl) (hg := rfl)); (focus ((intro w' hL' hD'); (obtain ⟨hcS, hfS, hlS⟩ := bcell hL'); (try simp only [World.size_setCell, World.size_alloc, World.size_drew] at hcS hfS hlS); (go_simp); (try go_bits); (try (first | (rw [if_pos (by omega)]; done) | (rw [if_neg (by omega)]; done) | (rw [if_pos (by omega)]; go_simp) | (rw [if_neg (by omega)]; go_simp))); ((go_at_call 25); (refine (impl_FlyTube_c p A c _ (hSp9.mono hL')).mono ?_); (intro e w'' hM); (obtain ⟨A2x, c2x, rfl, hO2x, -, hBx⟩ := hM.go boxE); (refine ⟨_, rfl, hBx, ?_⟩); ((repeat (first | (refine Tell.hit rfl ?_) | (refine Tell.skip rfl ?_))); exact ⟨A2x, c2x, rfl, hO2x.rd_at' boxE⟩)))); (intro v' w0' hv'); (replace hv' := Tell.out hv' rfl); (obtain ⟨A3p, c3p, rfl, -⟩ := hv'); (simp only [Act.put, List.setIfInBounds_toArray, List.set_cons_zero, List.set_cons_succ]))
        ((apply rel_told (hR := rfl) (hg := rfl)); (focus ((intro w' hL' hD'); (obtain ⟨hcS, hfS, hlS⟩ := bcell hL'); (try simp only [World.size_setCell, World.size_alloc, World.size_drew] at hcS hfS hlS); (go_simp); (try go_bits); (try (first | (rw [if_pos (by omega)]; done) | (rw [if_neg (by omega)]; done) | (rw [if_pos (by omega)]; go_simp) | (rw [if_neg (by omega)]; go_simp))); ((obtain ⟨va, hva, A8a, c8a, e8a, hR8a⟩ := Known.out (hD' ⟨1, .data⟩ (by simp) rfl) rfl); (injection e8a with e8a e8ax e8ay; subst e8a e8ay); (obtain ⟨vb, hvb, A8b, c8b, e8b, hR8b⟩ := Known.out (hD' ⟨3, .data⟩ (by simp) rfl) rfl); (injection e8b with e8b e8bx e8by; subst e8b e8by); ((go_at_call 48); (refine (impl_FlySmaller_c _ _ _ _ _ _ _ (hR8a.mono hva) (hR8b.mono hvb)).mono ?_); (rintro e w'' ⟨rfl, hb''⟩); (refine ⟨_, rfl, ?_, ?_⟩); (focus (first | exact hb'' | (subst hb''; exact Le.refl _))); ((repeat (first | (refine Tell.hit rfl ?_) | (refine Tell.skip rfl ?_))); exact (by rw [decide_eq_true hsm.out])))))); (intro v' w0' hv'); (replace hv' := Tell.out hv' rfl); (obtain rfl := hv'); (simp only [Act.put, List.setIfInBounds_toArray, List.set_cons_zero, List.set_cons_succ]))
        ((apply rel_plain (hR := rfl) (hF := fun _ => trivial) (hg := rfl)); (focus ((intro w' hL'); (obtain ⟨hcS, hfS, hlS⟩ := bcell hL'); (try simp only [World.size_setCell, World.size_alloc, World.size_drew] at hcS hfS hlS); (go_simp); (try go_bits); (try (first | (rw [if_pos (by omega)]; done) | (rw [if_neg (by omega)]; done) | (rw [if_pos (by omega)]; go_simp) | (rw [if_neg (by omega)]; go_simp))); (first | with_reducible rfl | exact rfl | skip))); (simp only [Act.put, List.setIfInBounds_toArray, List.set_cons_zero, List.set_cons_succ]))
        refine rel_nil ?_
        intro W12 hE hF9
        clear hF9
        go_wp2
        go_ret
        exact ⟨rfl, b_step hb8 (b_step hb hE)⟩
  · have hE2 : LL.seenM p k t = LL.p0 := LL.seenM_no hC
    rw [decide_eq_false hC]
    rw [hE2] at kr e2 hSr
    (try simp only [hE2])
    go_wp2_with (go_at_call 25; go_loud (refine (impl_FlyTube_c LL.p0 A4 c4 _ (by exact Rd.mono (by with_reducible assumption) (by repeat' (first | with_reducible exact Below.refl _ _ | with_reducible assumption | with_reducible refine b_alloc ?_ _ | with_reducible refine b_drewN ?_ _ | with_reducible refine b_drew ?_ | with_reducible refine b_set ?_ (by first | (simp only [World.size_setCell, World.size_alloc, World.size_drew]; omega) | (simp; done) | (simp; omega)) _ | with_reducible refine b_step ?_ (by with_reducible assumption))))).mono ?_); intro e w8 hM; go_loud (rw [LL.tubeM_no LL.p0_no] at hM); obtain ⟨A8, c8, rfl, hO8, -, hB8⟩ := hM.go boxE)
    go_ret
    exact ⟨rfl, (by repeat' (first | with_reducible exact Below.refl _ _ | with_reducible assumption | with_reducible refine b_alloc ?_ _ | with_reducible refine b_drewN ?_ _ | with_reducible refine b_drew ?_ | with_reducible refine b_set ?_ (by first | (simp only [World.size_setCell, World.size_alloc, World.size_drew]; omega) | (simp; done) | (simp; omega)) _ | with_reducible refine b_step ?_ (by with_reducible assumption)))⟩
end Go.Proofs.Ytpeojnknfonmlaa
