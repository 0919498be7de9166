/- The law of going on: just the ticks that are told. -/
import Derived.Test.YtpeojnknfonmlaaRM
import Derived.Test.YtpeojnknfonmlaaPG
import Derived.Test.YtpeojnknfonmlaaD4
import Derived.Test.YtpeojnknfonmlaaRH
set_option linter.unusedVariables false
set_option linter.unusedSimpArgs false
namespace Go.Proofs.Ytpeojnknfonmlaa
open Go.RowKit
theorem wfAllowed_m (p : LL.Path) (f : List Int) (n : Nat) (hn : f.length = n) (A F : Option Addr) (c m : Nat) (w : World) (hP : LL.PathOk p) (h : RdS w A p.steps.length c p.steps) (hF : RdI w F n m f) : Calls Try.prog 31 #[.agg #[.int .i64 p.q, .int .i64 p.s, .slice A p.steps.length c, .int .i64 p.fr, .int .i64 p.by_], .slice F n m] w fun e w' => e = .returned (.bool (decide (LL.Allowed p f))) ∧ Below w.heap.size w w' := by
  subst hn; exact wfAllowed_c p f A F c m w hP h hF
theorem FlyGo_n (p : LL.Path) (f : List Int) (n : Nat) (hn : f.length = n) (asked : List Int) (A F G : Option Addr) (c m m2 : Nat) (w : World) (h : RdS w A p.steps.length c p.steps) (hF : RdI w F n m f) (hG : RdI w G asked.length m2 asked) : Calls Try.prog 41 #[.agg #[.int .i64 p.q, .int .i64 p.s, .slice A p.steps.length c, .int .i64 p.fr, .int .i64 p.by_], .slice F n m, .slice G asked.length m2] w (Mk2 intC 1 8 3 w (LL.goL p f asked) (LL.goB p f asked)) := by
  subst hn; exact impl_FlyGo_c p f asked A F G c m m2 w h hF hG
attribute [local go_sem] w_lt_add w_le_of w_le_add max2_i min2_i
set_option maxRecDepth 100000 in
set_option maxHeartbeats 8000000 in
theorem FnFlyNext_c (xs : List Int) (F : Option Addr) (m : Nat) (w : World) (h : Rd u8C 1 1 w F xs.length m xs) (hx : ∀ k, 0 ≤ LL.nthI xs k ∧ LL.nthI xs k ≤ 255) : Calls Try.prog 7 #[.slice F xs.length m] w fun e w' => e = .returned (.bool true) ∧ Below w.heap.size w w' := by
  replace hx := Lib.hid hx
  by_cases hbig : (1048576 : Int) < xs.length
  · go_enter Try.func7, Try.ntmps7
    go_wp2
    go_ret
    exact ⟨rfl, (by repeat' (first | with_reducible exact Below.refl _ _ | with_reducible assumption | with_reducible refine b_alloc ?_ _ | with_reducible refine b_drewN ?_ _ | with_reducible refine b_drew ?_ | with_reducible refine b_set ?_ (by first | (simp only [World.size_setCell, World.size_alloc, World.size_drew]; omega) | (simp; done) | (simp; omega)) _ | with_reducible refine b_step ?_ (by with_reducible assumption)))⟩
  go_enter Try.func7, Try.ntmps7
  go_upto_region 4 with (go_at_call 38; refine (spec_DrawFlyNext_c xs F m _ h hx.out).mono ?_; rintro e w1 ⟨p, A, c, f, B, d, rfl, hp, hfl, hS, hI, hb1⟩)
  go_upto_region 8 with (first | (go_at_call 39; go_loud (refine (impl_FlyNext_c p f A B c d _ (by exact Rd.mono (by with_reducible assumption) (by repeat' (first | with_reducible exact Below.refl _ _ | with_reducible assumption | with_reducible refine b_alloc ?_ _ | with_reducible refine b_drewN ?_ _ | with_reducible refine b_drew ?_ | with_reducible refine b_set ?_ (by first | (simp only [World.size_setCell, World.size_alloc, World.size_drew]; omega) | (simp; done) | (simp; omega)) _ | with_reducible refine b_step ?_ (by with_reducible assumption)))) (by exact Rd.mono (by with_reducible assumption) (by repeat' (first | with_reducible exact Below.refl _ _ | with_reducible assumption | with_reducible refine b_alloc ?_ _ | with_reducible refine b_drewN ?_ _ | with_reducible refine b_drew ?_ | with_reducible refine b_set ?_ (by first | (simp only [World.size_setCell, World.size_alloc, World.size_drew]; omega) | (simp; done) | (simp; omega)) _ | with_reducible refine b_step ?_ (by with_reducible assumption))))).mono ?_); rintro e w2 ⟨rfl, hB2⟩; obtain ⟨hc2, hf2, hl2⟩ := bcell hB2; have hz2 := hB2.size; (try simp only [World.size_alloc] at hz2); have yw2_0 : w1.heap.size < w2.heap.size := (by omega)) | (go_at_call 40; go_loud (refine (spec_FlyNext_c p f A B c d _ (by exact Rd.mono (by with_reducible assumption) (by repeat' (first | with_reducible exact Below.refl _ _ | with_reducible assumption | with_reducible refine b_alloc ?_ _ | with_reducible refine b_drewN ?_ _ | with_reducible refine b_drew ?_ | with_reducible refine b_set ?_ (by first | (simp only [World.size_setCell, World.size_alloc, World.size_drew]; omega) | (simp; done) | (simp; omega)) _ | with_reducible refine b_step ?_ (by with_reducible assumption)))) (by exact Rd.mono (by with_reducible assumption) (by repeat' (first | with_reducible exact Below.refl _ _ | with_reducible assumption | with_reducible refine b_alloc ?_ _ | with_reducible refine b_drewN ?_ _ | with_reducible refine b_drew ?_ | with_reducible refine b_set ?_ (by first | (simp only [World.size_setCell, World.size_alloc, World.size_drew]; omega) | (simp; done) | (simp; omega)) _ | with_reducible refine b_step ?_ (by with_reducible assumption))))).mono ?_); rintro e w3 ⟨rfl, hB3⟩; obtain ⟨hc3, hf3, hl3⟩ := bcell hB3; have hz3 := hB3.size; (try simp only [World.size_alloc] at hz3); have yw3_0 : w1.heap.size < w3.heap.size := (by omega); have yw3_1 : w2.heap.size < w3.heap.size := (by omega)))
  refine wp_name (fun W => Below w.heap.size w W ∧ Blk W w1.heap.size #[.int .i64 p.q, .int .i64 p.s, .slice A p.steps.length c, .int .i64 p.fr, .int .i64 p.by_] 43 ∧ Blk W w2.heap.size #[.int .i64 (LL.nextLo p f), .int .i64 (LL.nextHi p f)] 60 ∧ RdS W A p.steps.length c p.steps ∧ RdI W B f.length d f) ⟨(by repeat' (first | with_reducible exact Below.refl _ _ | with_reducible assumption | with_reducible refine b_alloc ?_ _ | with_reducible refine b_drewN ?_ _ | with_reducible refine b_drew ?_ | with_reducible refine b_set ?_ (by first | (simp only [World.size_setCell, World.size_alloc, World.size_drew]; omega) | (simp; done) | (simp; omega)) _ | with_reducible refine b_step ?_ (by with_reducible assumption))), (by repeat' (first | with_reducible assumption | with_reducible exact Blk.new _ _ _ | with_reducible exact Blk.new' _ _ (by first | (simp only [World.size_alloc, World.size_setCell, World.size_drew]; done) | (simp only [World.size_alloc, World.size_setCell, World.size_drew]; omega) | omega) | with_reducible refine Blk.a ?_ _ | with_reducible refine Blk.d ?_ | with_reducible refine Blk.dN ?_ _ | with_reducible refine Blk.s ?_ (by simp only [ne_eq]; omega) _ | with_reducible refine Blk.b ?_ (by with_reducible assumption))), (by repeat' (first | with_reducible assumption | with_reducible exact Blk.new _ _ _ | with_reducible exact Blk.new' _ _ (by first | (simp only [World.size_alloc, World.size_setCell, World.size_drew]; done) | (simp only [World.size_alloc, World.size_setCell, World.size_drew]; omega) | omega) | with_reducible refine Blk.a ?_ _ | with_reducible refine Blk.d ?_ | with_reducible refine Blk.dN ?_ _ | with_reducible refine Blk.s ?_ (by simp only [ne_eq]; omega) _ | with_reducible refine Blk.b ?_ (by with_reducible assumption))), (by exact Rd.mono (by with_reducible assumption) (by repeat' (first | with_reducible exact Below.refl _ _ | with_reducible assumption | with_reducible refine b_alloc ?_ _ | with_reducible refine b_drewN ?_ _ | with_reducible refine b_drew ?_ | with_reducible refine b_set ?_ (by first | (simp only [World.size_setCell, World.size_alloc, World.size_drew]; omega) | (simp; done) | (simp; omega)) _ | with_reducible refine b_step ?_ (by with_reducible assumption)))), (by exact Rd.mono (by with_reducible assumption) (by repeat' (first | with_reducible exact Below.refl _ _ | with_reducible assumption | with_reducible refine b_alloc ?_ _ | with_reducible refine b_drewN ?_ _ | with_reducible refine b_drew ?_ | with_reducible refine b_set ?_ (by first | (simp only [World.size_setCell, World.size_alloc, World.size_drew]; omega) | (simp; done) | (simp; omega)) _ | with_reducible refine b_step ?_ (by with_reducible assumption))))⟩ ?_
  clear hb1 hB2 hB3 hc2 hf2 hl2 hc3 hf3 hl3 hz2 hz3 yw2_0 yw3_0 yw3_1 hS hI
  rintro W4 ⟨hb4, kP, kS, hS, hI⟩
  generalize w1.heap.size = bp at *
  generalize w2.heap.size = bs at *
  generalize w3.heap.size = bs3 at *
  have lP := blk_lt kP.at_
  have lS := blk_lt kS.at_
  obtain ⟨e0, f0, l0⟩ := kP.cells
  obtain ⟨e1, f1, l1⟩ := kS.cells
  by_cases hC : LL.CanNext p f
  · rw [decide_eq_true hC]
    obtain ⟨hn0, hn1⟩ := LL.next_rng hC
    have hn2 := LL.next_le hC
    have hE := fun t => LL.go_at (t := t) hC
    have hO := fun t => LL.go_off (t := t) hC
    have hPok := hC.1
    replace hE := Lib.hid hE
    replace hO := Lib.hid hO
    generalize LL.nextLo p f = lo at *
    generalize LL.nextHi p f = hi at *
    go_wp2
    go_loopw [11, 12, 13, 14, 15, 16, 17] (fun dd a b c d e f wr => ∃ dz : Int, dd = .int .i64 dz ∧ -1 ≤ dz ∧ dz ≤ 2 ∧ Below W4.heap.size W4 wr) (fun dd _ _ _ _ _ _ _ => (2 - intOf dd).toNat)
    case atStart => exact ⟨-1, rfl, by omega, by omega, (by repeat' (first | with_reducible exact Below.refl _ _ | with_reducible assumption | with_reducible refine b_alloc ?_ _ | with_reducible refine b_drewN ?_ _ | with_reducible refine b_drew ?_ | with_reducible refine b_set ?_ (by first | (simp only [World.size_setCell, World.size_alloc, World.size_drew]; omega) | (simp; done) | (simp; omega)) _ | with_reducible refine b_step ?_ (by with_reducible assumption)))⟩
    case round =>
      obtain ⟨dz, rfl, hd0, hd1, hb⟩ := hrel
      clear e0 f0 l0 e1 f1 l1
      have hb5 := b_step hb4 hb
      replace kP := kP.b hb
      replace kS := kS.b hb
      replace hS := hS.mono hb
      replace hI := hI.mono hb
      obtain ⟨e0, f0, l0⟩ := kP.cells
      obtain ⟨e1, f1, l1⟩ := kS.cells
      by_cases hd2 : dz ≤ 1
      · go_upto_region 14 with fail
        clear e0 f0 l0 e1 f1 l1
        go_cut [12] (fun v wc => ∃ (A2 : Option Addr) (c2 : Nat), v = .slice A2 (f.length + 1) c2 ∧ Own intC 1 8 3 wc (.slice A2 (f.length + 1) c2) (f ++ [lo + dz]) ∧ Below wr.heap.size wr wc)
        case first =>
          have hlf := hI.len
          obtain ⟨e1, f1, l1⟩ := kS.cells
          refine rel_tail_b 8 [(0, fun v W => ∃ g, v = .slice (some ⟨g, 0, none⟩) 0 0 ∧ Own intC 1 8 3 W (.slice (some ⟨g, 0, none⟩) 0 0) [] ∧ wr.heap.size ≤ g), (2, fun v W => ∃ A9 c9, v = .slice A9 f.length c9 ∧ Own intC 1 8 3 W (.slice A9 f.length c9) f ∧ (∀ j, Value.ownBlock (.slice A9 f.length c9) = some j → wr.heap.size ≤ j)), (7, fun v W => ∃ g2, v = .slice (some ⟨g2, 0, none⟩) 1 1 ∧ Blk W g2 #[.int .i64 (lo + dz)] 3)] (by kernel_rfl) (by kernel_rfl) ?_
          simp only [List.take_succ_cons, List.take_zero, List.drop_succ_cons, List.drop_zero]
          ((apply rel_told (hR := rfl) (hg := rfl)); (focus ((intro w' hL' hD'); (obtain ⟨hcS, hfS, hlS⟩ := bcell hL'); (try simp only [World.size_setCell, World.size_alloc, World.size_drew] at hcS hfS hlS); (go_simp); (try go_bits); (try (first | (rw [if_pos (by omega)]; done) | (rw [if_neg (by omega)]; done) | (rw [if_pos (by omega)]; go_simp) | (rw [if_neg (by omega)]; go_simp))); (refine ⟨b_alloc (Below.refl _ _) _, ?_⟩; ((repeat (first | (refine Tell.hit rfl ?_) | (refine Tell.skip rfl ?_))); exact ⟨_, rfl, Own.made' rfl, hL'.size⟩)))); (intro v' w0' hv'); (replace hv' := Tell.out hv' rfl); (obtain ⟨g, rfl, hgo, hg⟩ := hv'); (simp only [Act.put, List.setIfInBounds_toArray, List.set_cons_zero, List.set_cons_succ]))
          ((apply rel_plain (hR := rfl) (hF := fun _ => trivial) (hg := rfl)); (focus ((intro w' hL'); (obtain ⟨hcS, hfS, hlS⟩ := bcell hL'); (try simp only [World.size_setCell, World.size_alloc, World.size_drew] at hcS hfS hlS); (go_simp); (try go_bits); (try (first | (rw [if_pos (by omega)]; done) | (rw [if_neg (by omega)]; done) | (rw [if_pos (by omega)]; go_simp) | (rw [if_neg (by omega)]; go_simp))); (first | with_reducible rfl | exact rfl | skip))); (simp only [Act.put, List.setIfInBounds_toArray, List.set_cons_zero, List.set_cons_succ]))
          ((apply rel_told (hR := rfl) (hg := rfl)); (focus ((intro w' hL' hD'); ((obtain ⟨w8, hl8, g8, e8, hO8, hg8⟩ := Known.out (hD' ⟨0, .data⟩ (by simp) rfl) rfl); (injection e8 with e8; injection e8 with e8; injection e8 with e8; subst e8); (replace hO8 := hO8.b hl8); (refine ran_app (bytes := 8) (e := 3) _ _ _ rfl intE (.int .i64 0) Try.underlying49 (by kernel_rfl) rfl (by decide) rfl hO8 rfl (hI.mono hL') ?_); (intro v' w'' hO' hB' hat); (obtain ⟨A', c', rfl, -⟩ := hO'.rd intE); ((repeat (first | (refine Tell.hit rfl ?_) | (refine Tell.skip rfl ?_))); exact ⟨A', c', rfl, hO', fun j hj => by have := hL'.size; rcases hat with h9 | h9 <;> (rw [h9] at hj; cases hj; omega)⟩)))); (intro v' w0' hv'); (replace hv' := Tell.out hv' rfl); (obtain ⟨A2, c2, rfl, -⟩ := hv'); (simp only [Act.put, List.setIfInBounds_toArray, List.set_cons_zero, List.set_cons_succ]))
          iterate 4 ((apply rel_plain (hR := rfl) (hF := fun _ => trivial) (hg := rfl)); (focus ((intro w' hL'); (obtain ⟨hcS, hfS, hlS⟩ := bcell hL'); (try simp only [World.size_setCell, World.size_alloc, World.size_drew] at hcS hfS hlS); (go_simp); (try go_bits); (try (first | (rw [if_pos (by omega)]; done) | (rw [if_neg (by omega)]; done) | (rw [if_pos (by omega)]; go_simp) | (rw [if_neg (by omega)]; go_simp))); (first | with_reducible rfl | exact rfl | skip))); (simp only [Act.put, List.setIfInBounds_toArray, List.set_cons_zero, List.set_cons_succ]))
          ((apply rel_told (hR := rfl) (hg := rfl)); (focus ((intro w' hL' hD'); (obtain ⟨hcS, hfS, hlS⟩ := bcell hL'); (try simp only [World.size_setCell, World.size_alloc, World.size_drew] at hcS hfS hlS); (go_simp); (try go_bits); (try (first | (rw [if_pos (by omega)]; done) | (rw [if_neg (by omega)]; done) | (rw [if_pos (by omega)]; go_simp) | (rw [if_neg (by omega)]; go_simp))); (refine ⟨b_alloc (Below.refl _ _) _, ?_⟩; ((repeat (first | (refine Tell.hit rfl ?_) | (refine Tell.skip rfl ?_))); exact ⟨_, rfl, Blk.new _ _ _⟩)))); (intro v' w0' hv'); (replace hv' := Tell.out hv' rfl); (obtain ⟨g2, rfl, -⟩ := hv'); (simp only [Act.put, List.setIfInBounds_toArray, List.set_cons_zero, List.set_cons_succ]))
          refine rel_nil ?_
          intro W2 hL2 hF2
          obtain ⟨w8, hl8, A8, c8, e8, hO8, hg8⟩ := Known.out (hF2 2) rfl
          injection e8 with e8 _ e9; subst e8 e9
          obtain ⟨w9, hl9, g9, e9, kG⟩ := Known.out (hF2 7) rfl
          injection e9 with e9; injection e9 with e9; injection e9 with e9; subst e9
          have hO2 := hO8.b hl8
          have kG2 := kG.b hl9
          clear hF2 hl8 hO8 hl9 kG e1 f1 l1
          go_wp2_with (at_builtin; go_loud (refine wp_app (bytes := 8) (e := 3) rfl _ _ _ rfl intE (.int .i64 0) Try.underlying49 (by kernel_rfl) rfl (by decide) (v := .slice A2 f.length c2) rfl hO2 rfl (Rd.one (x := lo + dz) kG2 rfl (by decide)) (by omega) ?_); intro v7 w7 hO7 hg7 hat7)
          have hql : (f ++ [lo + dz]).length = f.length + 1 := List.length_append ..
          generalize f ++ [lo + dz] = q at *
          obtain ⟨A7, c7, rfl, -⟩ := hO7.rd intE
          rw [hql] at hO7
          go_meet
          case rel => exact ⟨A7, c7, by rw [hql], hO7, b_grown' (w := wr) hL2 hg7 hL2.size (fun j e => hg8 j e)⟩
        obtain ⟨Aa, ca, rfl, hOa, hBa⟩ := hcut
        go_upto_region 15 with fail
        have kP5 := kP.b hBa
        have kS5 := kS.b hBa
        have hS5 := hS.mono hBa
        have hI5 := hI.mono hBa
        have hIa := hOa.rd_at' intE
        have hb6 := b_step hb hBa
        clear hOa hBa kP kS hS hI hb5 hb
        go_cut [13] (fun v wd => ∃ (A2 : Option Addr) (c2 : Nat), v = .slice A2 (f.length + 1) c2 ∧ Own intC 1 8 3 wd (.slice A2 (f.length + 1) c2) (f ++ [hi + dz]) ∧ Below wc.heap.size wc wd)
        case first =>
          have hlf := hI5.len
          obtain ⟨e1, f1, l1⟩ := kS5.cells
          refine rel_tail_b 8 [(0, fun v W => ∃ g, v = .slice (some ⟨g, 0, none⟩) 0 0 ∧ Own intC 1 8 3 W (.slice (some ⟨g, 0, none⟩) 0 0) [] ∧ wc.heap.size ≤ g), (2, fun v W => ∃ A9 c9, v = .slice A9 f.length c9 ∧ Own intC 1 8 3 W (.slice A9 f.length c9) f ∧ (∀ j, Value.ownBlock (.slice A9 f.length c9) = some j → wc.heap.size ≤ j)), (7, fun v W => ∃ g2, v = .slice (some ⟨g2, 0, none⟩) 1 1 ∧ Blk W g2 #[.int .i64 (hi + dz)] 3)] (by kernel_rfl) (by kernel_rfl) ?_
          simp only [List.take_succ_cons, List.take_zero, List.drop_succ_cons, List.drop_zero]
          ((apply rel_told (hR := rfl) (hg := rfl)); (focus ((intro w' hL' hD'); (obtain ⟨hcS, hfS, hlS⟩ := bcell hL'); (try simp only [World.size_setCell, World.size_alloc, World.size_drew] at hcS hfS hlS); (go_simp); (try go_bits); (try (first | (rw [if_pos (by omega)]; done) | (rw [if_neg (by omega)]; done) | (rw [if_pos (by omega)]; go_simp) | (rw [if_neg (by omega)]; go_simp))); (refine ⟨b_alloc (Below.refl _ _) _, ?_⟩; ((repeat (first | (refine Tell.hit rfl ?_) | (refine Tell.skip rfl ?_))); exact ⟨_, rfl, Own.made' rfl, hL'.size⟩)))); (intro v' w0' hv'); (replace hv' := Tell.out hv' rfl); (obtain ⟨g, rfl, hgo, hg⟩ := hv'); (simp only [Act.put, List.setIfInBounds_toArray, List.set_cons_zero, List.set_cons_succ]))
          ((apply rel_plain (hR := rfl) (hF := fun _ => trivial) (hg := rfl)); (focus ((intro w' hL'); (obtain ⟨hcS, hfS, hlS⟩ := bcell hL'); (try simp only [World.size_setCell, World.size_alloc, World.size_drew] at hcS hfS hlS); (go_simp); (try go_bits); (try (first | (rw [if_pos (by omega)]; done) | (rw [if_neg (by omega)]; done) | (rw [if_pos (by omega)]; go_simp) | (rw [if_neg (by omega)]; go_simp))); (first | with_reducible rfl | exact rfl | skip))); (simp only [Act.put, List.setIfInBounds_toArray, List.set_cons_zero, List.set_cons_succ]))
          ((apply rel_told (hR := rfl) (hg := rfl)); (focus ((intro w' hL' hD'); ((obtain ⟨w8, hl8, g8, e8, hO8, hg8⟩ := Known.out (hD' ⟨0, .data⟩ (by simp) rfl) rfl); (injection e8 with e8; injection e8 with e8; injection e8 with e8; subst e8); (replace hO8 := hO8.b hl8); (refine ran_app (bytes := 8) (e := 3) _ _ _ rfl intE (.int .i64 0) Try.underlying49 (by kernel_rfl) rfl (by decide) rfl hO8 rfl (hI5.mono hL') ?_); (intro v' w'' hO' hB' hat); (obtain ⟨A', c', rfl, -⟩ := hO'.rd intE); ((repeat (first | (refine Tell.hit rfl ?_) | (refine Tell.skip rfl ?_))); exact ⟨A', c', rfl, hO', fun j hj => by have := hL'.size; rcases hat with h9 | h9 <;> (rw [h9] at hj; cases hj; omega)⟩)))); (intro v' w0' hv'); (replace hv' := Tell.out hv' rfl); (obtain ⟨A2, c2, rfl, -⟩ := hv'); (simp only [Act.put, List.setIfInBounds_toArray, List.set_cons_zero, List.set_cons_succ]))
          iterate 4 ((apply rel_plain (hR := rfl) (hF := fun _ => trivial) (hg := rfl)); (focus ((intro w' hL'); (obtain ⟨hcS, hfS, hlS⟩ := bcell hL'); (try simp only [World.size_setCell, World.size_alloc, World.size_drew] at hcS hfS hlS); (go_simp); (try go_bits); (try (first | (rw [if_pos (by omega)]; done) | (rw [if_neg (by omega)]; done) | (rw [if_pos (by omega)]; go_simp) | (rw [if_neg (by omega)]; go_simp))); (first | with_reducible rfl | exact rfl | skip))); (simp only [Act.put, List.setIfInBounds_toArray, List.set_cons_zero, List.set_cons_succ]))
          ((apply rel_told (hR := rfl) (hg := rfl)); (focus ((intro w' hL' hD'); (obtain ⟨hcS, hfS, hlS⟩ := bcell hL'); (try simp only [World.size_setCell, World.size_alloc, World.size_drew] at hcS hfS hlS); (go_simp); (try go_bits); (try (first | (rw [if_pos (by omega)]; done) | (rw [if_neg (by omega)]; done) | (rw [if_pos (by omega)]; go_simp) | (rw [if_neg (by omega)]; go_simp))); (refine ⟨b_alloc (Below.refl _ _) _, ?_⟩; ((repeat (first | (refine Tell.hit rfl ?_) | (refine Tell.skip rfl ?_))); exact ⟨_, rfl, Blk.new _ _ _⟩)))); (intro v' w0' hv'); (replace hv' := Tell.out hv' rfl); (obtain ⟨g2, rfl, -⟩ := hv'); (simp only [Act.put, List.setIfInBounds_toArray, List.set_cons_zero, List.set_cons_succ]))
          refine rel_nil ?_
          intro W2 hL2 hF2
          obtain ⟨w8, hl8, A8, c8, e8, hO8, hg8⟩ := Known.out (hF2 2) rfl
          injection e8 with e8 _ e9; subst e8 e9
          obtain ⟨w9, hl9, g9, e9, kG⟩ := Known.out (hF2 7) rfl
          injection e9 with e9; injection e9 with e9; injection e9 with e9; subst e9
          have hO2 := hO8.b hl8
          have kG2 := kG.b hl9
          clear hF2 hl8 hO8 hl9 kG e1 f1 l1
          go_wp2_with (at_builtin; go_loud (refine wp_app (bytes := 8) (e := 3) rfl _ _ _ rfl intE (.int .i64 0) Try.underlying49 (by kernel_rfl) rfl (by decide) (v := .slice A2 f.length c2) rfl hO2 rfl (Rd.one (x := hi + dz) kG2 rfl (by decide)) (by omega) ?_); intro v7 w7 hO7 hg7 hat7)
          have hql : (f ++ [hi + dz]).length = f.length + 1 := List.length_append ..
          generalize f ++ [hi + dz] = q at *
          obtain ⟨A7, c7, rfl, -⟩ := hO7.rd intE
          rw [hql] at hO7
          go_meet
          case rel => exact ⟨A7, c7, by rw [hql], hO7, b_grown' (w := wc) hL2 hg7 hL2.size (fun j e => hg8 j e)⟩
        obtain ⟨Ab, cb, rfl, hOb, hBb⟩ := hcut
        have kP6 := kP5.b hBb
        have kS6 := kS5.b hBb
        have hS := hS5.mono hBb
        have hI := hI5.mono hBb
        replace hIa := hIa.mono hBb
        have hIb := hOb.rd_at' intE
        have hb7 := b_step hb6 hBb
        clear hOb hBb kP5 kS5 hS5 hI5 hb6
        obtain ⟨e0, f0, l0⟩ := kP6.cells
        obtain ⟨e1, f1, l1⟩ := kS6.cells
        have lPd := blk_lt kP6.at_
        have lSd := blk_lt kS6.at_
        have laE : (f ++ [lo + dz]).length = f.length + 1 := List.length_append ..
        have laL : (f ++ [hi + dz]).length = f.length + 1 := List.length_append ..
        go_upto_region 17 with (go_at_call 41; go_loud (refine (FlyGo_n p (f ++ [lo + dz]) (f.length + 1) laE [] A Aa _ c ca 0 _ (by exact Rd.mono (by with_reducible assumption) (by repeat' (first | with_reducible exact Below.refl _ _ | with_reducible assumption | with_reducible refine b_alloc ?_ _ | with_reducible refine b_drewN ?_ _ | with_reducible refine b_drew ?_ | with_reducible refine b_set ?_ (by first | (simp only [World.size_setCell, World.size_alloc, World.size_drew]; omega) | (simp; done) | (simp; omega)) _ | with_reducible refine b_step ?_ (by with_reducible assumption)))) (by exact Rd.mono (by with_reducible assumption) (by repeat' (first | with_reducible exact Below.refl _ _ | with_reducible assumption | with_reducible refine b_alloc ?_ _ | with_reducible refine b_drewN ?_ _ | with_reducible refine b_drew ?_ | with_reducible refine b_set ?_ (by first | (simp only [World.size_setCell, World.size_alloc, World.size_drew]; omega) | (simp; done) | (simp; omega)) _ | with_reducible refine b_step ?_ (by with_reducible assumption)))) ⟨rfl, by simp, by simp, fun h => absurd h (by simp)⟩).mono ?_); intro e w6 hM; obtain ⟨A6, c6, rfl, hO6, -, hB6⟩ := hM.go2 intE; have hI6 := hO6.rd_at' intE; obtain ⟨hc6, hf6, hl6⟩ := bcell hB6; have hz6 := hB6.size; (try simp only [World.size_alloc] at hz6); have y06 : bp < w6.heap.size := (by omega); have y16 : bs < w6.heap.size := (by omega))
        go_upto_region 18 with (go_at_call 41; go_loud (refine (FlyGo_n p (f ++ [hi + dz]) (f.length + 1) laL [] A Ab _ c cb 0 _ (by exact Rd.mono (by with_reducible assumption) (by repeat' (first | with_reducible exact Below.refl _ _ | with_reducible assumption | with_reducible refine b_alloc ?_ _ | with_reducible refine b_drewN ?_ _ | with_reducible refine b_drew ?_ | with_reducible refine b_set ?_ (by first | (simp only [World.size_setCell, World.size_alloc, World.size_drew]; omega) | (simp; done) | (simp; omega)) _ | with_reducible refine b_step ?_ (by with_reducible assumption)))) (by exact Rd.mono (by with_reducible assumption) (by repeat' (first | with_reducible exact Below.refl _ _ | with_reducible assumption | with_reducible refine b_alloc ?_ _ | with_reducible refine b_drewN ?_ _ | with_reducible refine b_drew ?_ | with_reducible refine b_set ?_ (by first | (simp only [World.size_setCell, World.size_alloc, World.size_drew]; omega) | (simp; done) | (simp; omega)) _ | with_reducible refine b_step ?_ (by with_reducible assumption)))) ⟨rfl, by simp, by simp, fun h => absurd h (by simp)⟩).mono ?_); intro e w7 hM; obtain ⟨A7, c7, rfl, hO7, -, hB7⟩ := hM.go2 intE; have hI7 := hO7.rd_at' intE; obtain ⟨hc7, hf7, hl7⟩ := bcell hB7; have hz7 := hB7.size; (try simp only [World.size_alloc] at hz7); have y07 : bp < w7.heap.size := (by omega); have y17 : bs < w7.heap.size := (by omega))
        have yE := hE.out (lo + dz)
        have nE := hO.out (lo + dz)
        have yL := hE.out (hi + dz)
        have nL := hO.out (hi + dz)
        have kP8 : Blk w7 bp #[.int .i64 p.q, .int .i64 p.s, .slice A p.steps.length c, .int .i64 p.fr, .int .i64 p.by_] 43 := (by repeat' (first | with_reducible assumption | with_reducible exact Blk.new _ _ _ | with_reducible exact Blk.new' _ _ (by first | (simp only [World.size_alloc, World.size_setCell, World.size_drew]; done) | (simp only [World.size_alloc, World.size_setCell, World.size_drew]; omega) | omega) | with_reducible refine Blk.a ?_ _ | with_reducible refine Blk.d ?_ | with_reducible refine Blk.dN ?_ _ | with_reducible refine Blk.s ?_ (by simp only [ne_eq]; omega) _ | with_reducible refine Blk.b ?_ (by with_reducible assumption)))
        have kS8 : Blk w7 bs #[.int .i64 lo, .int .i64 hi] 60 := (by repeat' (first | with_reducible assumption | with_reducible exact Blk.new _ _ _ | with_reducible exact Blk.new' _ _ (by first | (simp only [World.size_alloc, World.size_setCell, World.size_drew]; done) | (simp only [World.size_alloc, World.size_setCell, World.size_drew]; omega) | omega) | with_reducible refine Blk.a ?_ _ | with_reducible refine Blk.d ?_ | with_reducible refine Blk.dN ?_ _ | with_reducible refine Blk.s ?_ (by simp only [ne_eq]; omega) _ | with_reducible refine Blk.b ?_ (by with_reducible assumption)))
        have hS8 : RdS w7 A p.steps.length c p.steps := (by exact Rd.mono (by with_reducible assumption) (by repeat' (first | with_reducible exact Below.refl _ _ | with_reducible assumption | with_reducible refine b_alloc ?_ _ | with_reducible refine b_drewN ?_ _ | with_reducible refine b_drew ?_ | with_reducible refine b_set ?_ (by first | (simp only [World.size_setCell, World.size_alloc, World.size_drew]; omega) | (simp; done) | (simp; omega)) _ | with_reducible refine b_step ?_ (by with_reducible assumption))))
        have hI6' := hI6.mono (b_step (b_alloc (Below.refl _ _) _) hB7)
        have hb8 : Below W4.heap.size W4 w7 := (by repeat' (first | with_reducible exact Below.refl _ _ | with_reducible assumption | with_reducible refine b_alloc ?_ _ | with_reducible refine b_drewN ?_ _ | with_reducible refine b_drew ?_ | with_reducible refine b_set ?_ (by first | (simp only [World.size_setCell, World.size_alloc, World.size_drew]; omega) | (simp; done) | (simp; omega)) _ | with_reducible refine b_step ?_ (by with_reducible assumption)))
        clear e0 f0 l0 e1 f1 l1 hB6 hB7 hc6 hf6 hl6 hc7 hf7 hl7 hO6 hO7 hIa hIb kP6 kS6 hS hI hb7
        generalize LL.goL p (f ++ [lo + dz]) [] = fa at *
        generalize LL.goB p (f ++ [lo + dz]) [] = ea at *
        generalize LL.goL p (f ++ [hi + dz]) [] = ga at *
        generalize LL.goB p (f ++ [hi + dz]) [] = eb at *
        obtain ⟨e0, f0, l0⟩ := kP8.cells
        obtain ⟨e1, f1, l1⟩ := kS8.cells
        have lP8 := blk_lt kP8.at_
        have lS8 := blk_lt kS8.at_
        rcases (show dz = -1 ∨ dz = 0 ∨ dz = 1 by omega) with rfl | rfl | rfl
        · have qE := (nE (by omega)).1
          subst qE
          by_cases hw1 : lo ≤ hi + -1
          · obtain ⟨qL, aL⟩ := yL (by omega)
            subst qL
            clear yE nE yL nL hE hO
            go_wp2_with (go_at_call 31; go_loud (refine (wfAllowed_m p (ga) _ rfl A A7 c c7 _ hPok (by exact Rd.mono (by with_reducible assumption) (by repeat' (first | with_reducible exact Below.refl _ _ | with_reducible assumption | with_reducible refine b_alloc ?_ _ | with_reducible refine b_drewN ?_ _ | with_reducible refine b_drew ?_ | with_reducible refine b_set ?_ (by first | (simp only [World.size_setCell, World.size_alloc, World.size_drew]; omega) | (simp; done) | (simp; omega)) _ | with_reducible refine b_step ?_ (by with_reducible assumption)))) (by exact Rd.mono (by with_reducible assumption) (by repeat' (first | with_reducible exact Below.refl _ _ | with_reducible assumption | with_reducible refine b_alloc ?_ _ | with_reducible refine b_drewN ?_ _ | with_reducible refine b_drew ?_ | with_reducible refine b_set ?_ (by first | (simp only [World.size_setCell, World.size_alloc, World.size_drew]; omega) | (simp; done) | (simp; omega)) _ | with_reducible refine b_step ?_ (by with_reducible assumption))))).mono ?_); rintro e w11 ⟨e9, hB11⟩; go_loud (rw [decide_eq_true aL] at e9); subst e9; obtain ⟨hc11, hf11, hl11⟩ := bcell hB11; have hz11 := hB11.size)
            go_roundw
            case rel => exact ⟨_, rfl, by omega, by omega, b_step hb8 (by repeat' (first | with_reducible exact Below.refl _ _ | with_reducible assumption | with_reducible refine b_alloc ?_ _ | with_reducible refine b_drewN ?_ _ | with_reducible refine b_drew ?_ | with_reducible refine b_set ?_ (by first | (simp only [World.size_setCell, World.size_alloc, World.size_drew]; omega) | (simp; done) | (simp; omega)) _ | with_reducible refine b_step ?_ (by with_reducible assumption)))⟩
            case measure => simp [intOf]
          · have qL := (nL (by omega)).1
            subst qL
            clear yE nE yL nL hE hO
            go_wp2_with fail
            go_roundw
            case rel => exact ⟨_, rfl, by omega, by omega, b_step hb8 (by repeat' (first | with_reducible exact Below.refl _ _ | with_reducible assumption | with_reducible refine b_alloc ?_ _ | with_reducible refine b_drewN ?_ _ | with_reducible refine b_drew ?_ | with_reducible refine b_set ?_ (by first | (simp only [World.size_setCell, World.size_alloc, World.size_drew]; omega) | (simp; done) | (simp; omega)) _ | with_reducible refine b_step ?_ (by with_reducible assumption)))⟩
            case measure => simp [intOf]
        · obtain ⟨qE, aE⟩ := yE (by omega)
          obtain ⟨qL, aL⟩ := yL (by omega)
          subst qE qL
          clear yE nE yL nL hE hO
          go_wp2_with (first | (have hq9 := hB10; go_at_call 31; go_loud (refine (wfAllowed_m p (ga) _ rfl A A7 c c7 _ hPok (by exact Rd.mono (by with_reducible assumption) (by repeat' (first | with_reducible exact Below.refl _ _ | with_reducible assumption | with_reducible refine b_alloc ?_ _ | with_reducible refine b_drewN ?_ _ | with_reducible refine b_drew ?_ | with_reducible refine b_set ?_ (by first | (simp only [World.size_setCell, World.size_alloc, World.size_drew]; omega) | (simp; done) | (simp; omega)) _ | with_reducible refine b_step ?_ (by with_reducible assumption)))) (by exact Rd.mono (by with_reducible assumption) (by repeat' (first | with_reducible exact Below.refl _ _ | with_reducible assumption | with_reducible refine b_alloc ?_ _ | with_reducible refine b_drewN ?_ _ | with_reducible refine b_drew ?_ | with_reducible refine b_set ?_ (by first | (simp only [World.size_setCell, World.size_alloc, World.size_drew]; omega) | (simp; done) | (simp; omega)) _ | with_reducible refine b_step ?_ (by with_reducible assumption))))).mono ?_); rintro e w11 ⟨e9, hB11⟩; go_loud (rw [decide_eq_true aL] at e9); subst e9; obtain ⟨hc11, hf11, hl11⟩ := bcell hB11; have hz11 := hB11.size) | (go_at_call 31; go_loud (refine (wfAllowed_m p (fa) _ rfl A A6 c c6 _ hPok (by exact Rd.mono (by with_reducible assumption) (by repeat' (first | with_reducible exact Below.refl _ _ | with_reducible assumption | with_reducible refine b_alloc ?_ _ | with_reducible refine b_drewN ?_ _ | with_reducible refine b_drew ?_ | with_reducible refine b_set ?_ (by first | (simp only [World.size_setCell, World.size_alloc, World.size_drew]; omega) | (simp; done) | (simp; omega)) _ | with_reducible refine b_step ?_ (by with_reducible assumption)))) (by exact Rd.mono (by with_reducible assumption) (by repeat' (first | with_reducible exact Below.refl _ _ | with_reducible assumption | with_reducible refine b_alloc ?_ _ | with_reducible refine b_drewN ?_ _ | with_reducible refine b_drew ?_ | with_reducible refine b_set ?_ (by first | (simp only [World.size_setCell, World.size_alloc, World.size_drew]; omega) | (simp; done) | (simp; omega)) _ | with_reducible refine b_step ?_ (by with_reducible assumption))))).mono ?_); rintro e w10 ⟨e9, hB10⟩; go_loud (rw [decide_eq_true aE] at e9); subst e9; obtain ⟨hc10, hf10, hl10⟩ := bcell hB10; have hz10 := hB10.size))
          go_roundw
          case rel => exact ⟨_, rfl, by omega, by omega, b_step hb8 (by repeat' (first | with_reducible exact Below.refl _ _ | with_reducible assumption | with_reducible refine b_alloc ?_ _ | with_reducible refine b_drewN ?_ _ | with_reducible refine b_drew ?_ | with_reducible refine b_set ?_ (by first | (simp only [World.size_setCell, World.size_alloc, World.size_drew]; omega) | (simp; done) | (simp; omega)) _ | with_reducible refine b_step ?_ (by with_reducible assumption)))⟩
          case measure => simp [intOf]
        · have qL := (nL (by omega)).1
          subst qL
          by_cases hw1 : lo + 1 ≤ hi
          · obtain ⟨qE, aE⟩ := yE (by omega)
            subst qE
            clear yE nE yL nL hE hO
            go_wp2_with (go_at_call 31; go_loud (refine (wfAllowed_m p (fa) _ rfl A A6 c c6 _ hPok (by exact Rd.mono (by with_reducible assumption) (by repeat' (first | with_reducible exact Below.refl _ _ | with_reducible assumption | with_reducible refine b_alloc ?_ _ | with_reducible refine b_drewN ?_ _ | with_reducible refine b_drew ?_ | with_reducible refine b_set ?_ (by first | (simp only [World.size_setCell, World.size_alloc, World.size_drew]; omega) | (simp; done) | (simp; omega)) _ | with_reducible refine b_step ?_ (by with_reducible assumption)))) (by exact Rd.mono (by with_reducible assumption) (by repeat' (first | with_reducible exact Below.refl _ _ | with_reducible assumption | with_reducible refine b_alloc ?_ _ | with_reducible refine b_drewN ?_ _ | with_reducible refine b_drew ?_ | with_reducible refine b_set ?_ (by first | (simp only [World.size_setCell, World.size_alloc, World.size_drew]; omega) | (simp; done) | (simp; omega)) _ | with_reducible refine b_step ?_ (by with_reducible assumption))))).mono ?_); rintro e w10 ⟨e9, hB10⟩; go_loud (rw [decide_eq_true aE] at e9); subst e9; obtain ⟨hc10, hf10, hl10⟩ := bcell hB10; have hz10 := hB10.size)
            go_roundw
            case rel => exact ⟨_, rfl, by omega, by omega, b_step hb8 (by repeat' (first | with_reducible exact Below.refl _ _ | with_reducible assumption | with_reducible refine b_alloc ?_ _ | with_reducible refine b_drewN ?_ _ | with_reducible refine b_drew ?_ | with_reducible refine b_set ?_ (by first | (simp only [World.size_setCell, World.size_alloc, World.size_drew]; omega) | (simp; done) | (simp; omega)) _ | with_reducible refine b_step ?_ (by with_reducible assumption)))⟩
            case measure => simp [intOf]
          · have qE := (nE (by omega)).1
            subst qE
            clear yE nE yL nL hE hO
            go_wp2_with fail
            go_roundw
            case rel => exact ⟨_, rfl, by omega, by omega, b_step hb8 (by repeat' (first | with_reducible exact Below.refl _ _ | with_reducible assumption | with_reducible refine b_alloc ?_ _ | with_reducible refine b_drewN ?_ _ | with_reducible refine b_drew ?_ | with_reducible refine b_set ?_ (by first | (simp only [World.size_setCell, World.size_alloc, World.size_drew]; omega) | (simp; done) | (simp; omega)) _ | with_reducible refine b_step ?_ (by with_reducible assumption)))⟩
            case measure => simp [intOf]
      · go_wp2
        go_ret
        exact ⟨rfl, hb5⟩
  · rw [decide_eq_false hC]
    go_upto_region 10 with (go_at_call 41; go_loud (refine (impl_FlyGo_c p (f) [] A B _ c d 0 _ (by exact Rd.mono (by with_reducible assumption) (by repeat' (first | with_reducible exact Below.refl _ _ | with_reducible assumption | with_reducible refine b_alloc ?_ _ | with_reducible refine b_drewN ?_ _ | with_reducible refine b_drew ?_ | with_reducible refine b_set ?_ (by first | (simp only [World.size_setCell, World.size_alloc, World.size_drew]; omega) | (simp; done) | (simp; omega)) _ | with_reducible refine b_step ?_ (by with_reducible assumption)))) (by exact Rd.mono (by with_reducible assumption) (by repeat' (first | with_reducible exact Below.refl _ _ | with_reducible assumption | with_reducible refine b_alloc ?_ _ | with_reducible refine b_drewN ?_ _ | with_reducible refine b_drew ?_ | with_reducible refine b_set ?_ (by first | (simp only [World.size_setCell, World.size_alloc, World.size_drew]; omega) | (simp; done) | (simp; omega)) _ | with_reducible refine b_step ?_ (by with_reducible assumption)))) ⟨rfl, by simp, by simp, fun h => absurd h (by simp)⟩).mono ?_); intro e w6 hM; obtain ⟨A6, c6, rfl, hO6, -, hB6⟩ := hM.go2 intE; have hI6 := hO6.rd_at' intE; obtain ⟨hc6, hf6, hl6⟩ := bcell hB6; have hz6 := hB6.size; (try simp only [World.size_alloc] at hz6))
    rcases LL.go_stuck hC with ⟨q1, q2⟩ | ⟨q0, q1, q2⟩
    · rw [q1, q2]
      go_wp2
      go_ret
      exact ⟨rfl, (by repeat' (first | with_reducible exact Below.refl _ _ | with_reducible assumption | with_reducible refine b_alloc ?_ _ | with_reducible refine b_drewN ?_ _ | with_reducible refine b_drew ?_ | with_reducible refine b_set ?_ (by first | (simp only [World.size_setCell, World.size_alloc, World.size_drew]; omega) | (simp; done) | (simp; omega)) _ | with_reducible refine b_step ?_ (by with_reducible assumption)))⟩
    · rw [q1]
      have hS6 : RdS w6 A p.steps.length c p.steps := (by exact Rd.mono (by with_reducible assumption) (by repeat' (first | with_reducible exact Below.refl _ _ | with_reducible assumption | with_reducible refine b_alloc ?_ _ | with_reducible refine b_drewN ?_ _ | with_reducible refine b_drew ?_ | with_reducible refine b_set ?_ (by first | (simp only [World.size_setCell, World.size_alloc, World.size_drew]; omega) | (simp; done) | (simp; omega)) _ | with_reducible refine b_step ?_ (by with_reducible assumption))))
      have hI6' : RdI w6 B f.length d f := (by exact Rd.mono (by with_reducible assumption) (by repeat' (first | with_reducible exact Below.refl _ _ | with_reducible assumption | with_reducible refine b_alloc ?_ _ | with_reducible refine b_drewN ?_ _ | with_reducible refine b_drew ?_ | with_reducible refine b_set ?_ (by first | (simp only [World.size_setCell, World.size_alloc, World.size_drew]; omega) | (simp; done) | (simp; omega)) _ | with_reducible refine b_step ?_ (by with_reducible assumption))))
      go_wp2_with (go_at_call 35; go_loud (refine (impl_FlyLawful_c p f A B c d _ (by exact Rd.mono (by with_reducible assumption) (by repeat' (first | with_reducible exact Below.refl _ _ | with_reducible assumption | with_reducible refine b_alloc ?_ _ | with_reducible refine b_drewN ?_ _ | with_reducible refine b_drew ?_ | with_reducible refine b_set ?_ (by first | (simp only [World.size_setCell, World.size_alloc, World.size_drew]; omega) | (simp; done) | (simp; omega)) _ | with_reducible refine b_step ?_ (by with_reducible assumption)))) (by exact Rd.mono (by with_reducible assumption) (by repeat' (first | with_reducible exact Below.refl _ _ | with_reducible assumption | with_reducible refine b_alloc ?_ _ | with_reducible refine b_drewN ?_ _ | with_reducible refine b_drew ?_ | with_reducible refine b_set ?_ (by first | (simp only [World.size_setCell, World.size_alloc, World.size_drew]; omega) | (simp; done) | (simp; omega)) _ | with_reducible refine b_step ?_ (by with_reducible assumption))))).mono ?_); rintro e w7 ⟨e9, hB7⟩; go_loud (rw [decide_eq_true q2] at e9); subst e9)
      go_ret
      exact ⟨rfl, (by repeat' (first | with_reducible exact Below.refl _ _ | with_reducible assumption | with_reducible refine b_alloc ?_ _ | with_reducible refine b_drewN ?_ _ | with_reducible refine b_drew ?_ | with_reducible refine b_set ?_ (by first | (simp only [World.size_setCell, World.size_alloc, World.size_drew]; omega) | (simp; done) | (simp; omega)) _ | with_reducible refine b_step ?_ (by with_reducible assumption)))⟩
end Go.Proofs.Ytpeojnknfonmlaa
