/- What is drawn: boxes spoilt. -/
import Derived.Test.YtpeojnknfonmlaaQB
set_option linter.unusedVariables false
set_option linter.unusedSimpArgs false
namespace Go.Proofs.Ytpeojnknfonmlaa
open Go.RowKit
def sel (l : List Int) (v : Int) : Int := l.getD v.toNat 0
theorem arr4s {v a b c d : Int} (h0 : 0 ≤ v) (h1 : v < 4) : #[Value.int .i64 a, .int .i64 b, .int .i64 c, .int .i64 d][v.toNat]? = some (.int .i64 (sel [a, b, c, d] v)) := by
  rcases (show v = 0 ∨ v = 1 ∨ v = 2 ∨ v = 3 by omega) with rfl | rfl | rfl | rfl <;> rfl
theorem arr4g {v a b c d : Int} (h0 : 0 ≤ v) (h1 : v < 4) (h : v.toNat < #[Value.int .i64 a, .int .i64 b, .int .i64 c, .int .i64 d].size) : #[Value.int .i64 a, .int .i64 b, .int .i64 c, .int .i64 d][v.toNat]'h = .int .i64 (sel [a, b, c, d] v) := by
  have := arr4s (v := v) (a := a) (b := b) (c := c) (d := d) h0 h1
  rw [Array.getElem?_eq_getElem h] at this
  exact Option.some.inj this
theorem arr4l {v a b c d : Int} (h0 : 0 ≤ v) (h1 : v < 4) (h : v.toNat < [Value.int .i64 a, .int .i64 b, .int .i64 c, .int .i64 d].length) : [Value.int .i64 a, .int .i64 b, .int .i64 c, .int .i64 d][v.toNat]'h = .int .i64 (sel [a, b, c, d] v) := arr4g h0 h1 h
theorem arr2s {v a b : Int} (h0 : 0 ≤ v) (h1 : v < 2) : #[Value.int .i64 a, .int .i64 b][v.toNat]? = some (.int .i64 (sel [a, b] v)) := by
  rcases (show v = 0 ∨ v = 1 by omega) with rfl | rfl <;> rfl
theorem arr2g {v a b : Int} (h0 : 0 ≤ v) (h1 : v < 2) (h : v.toNat < #[Value.int .i64 a, .int .i64 b].size) : #[Value.int .i64 a, .int .i64 b][v.toNat]'h = .int .i64 (sel [a, b] v) := by
  have := arr2s (v := v) (a := a) (b := b) h0 h1
  rw [Array.getElem?_eq_getElem h] at this
  exact Option.some.inj this
theorem arr2l {v a b : Int} (h0 : 0 ≤ v) (h1 : v < 2) (h : v.toNat < [Value.int .i64 a, .int .i64 b].length) : [Value.int .i64 a, .int .i64 b][v.toNat]'h = .int .i64 (sel [a, b] v) := arr2g h0 h1 h
attribute [local go_sem] arr4s arr4g arr4l arr2s arr2g arr2l
theorem BSt.al {t e : TypeId} {w W : World} {g R b N : Nat} {x : LL.Box} (h : BSt t e w g R b N x W) {o : Obj} : BSt t e w g R b N x (W.alloc o) := ⟨gr_alloc h.gr o, h.rd.a o, h.kR.a o, h.kB.a o, h.lt⟩
set_option maxRecDepth 100000 in
set_option maxHeartbeats 4000000 in
theorem spec_l11SpoilBox_c (g N : Nat) (x : LL.Box) (w : World) (hr : Rdr 116 w g N) (hN : N ≤ 1000000) : Calls Try.prog 113 #[.pointer (some ⟨g, 0, none⟩), .agg #[.int .i64 x.x, .int .i64 x.y, .int .i64 x.lo, .int .i64 x.hi, .int .i64 x.i, .int .i64 x.o]] w fun e w' => ∃ x : LL.Box, e = .returned (.agg #[.int .i64 x.x, .int .i64 x.y, .int .i64 x.lo, .int .i64 x.hi, .int .i64 x.i, .int .i64 x.o]) ∧ GrownS w w' (fun k => k = g) ∧ Rdr 116 w' g (N + 30) := by
  have hlt := hr.lt
  have n0 : w.heap.size ≠ g := by omega
  go_enter Try.func113, Try.ntmps113
  go_upto_region 1 with fail
  have hP0 : BSt 116 36 w g (w.heap.size + 1) w.heap.size N x ((w.alloc (.cells #[.int .i64 x.x, .int .i64 x.y, .int .i64 x.lo, .int .i64 x.hi, .int .i64 x.i, .int .i64 x.o] 36)).alloc (.cells #[.int .i64 0, .int .i64 0, .int .i64 0, .int .i64 0, .int .i64 0, .int .i64 0] 36)) := ⟨(by repeat' (first | with_reducible exact GrownS.refl _ _ | with_reducible assumption | with_reducible refine gr_alloc ?_ _ | with_reducible refine gr_drew ?_ | with_reducible refine gr_s1 ?_ (by omega) _ _ | with_reducible refine GrownS.trans ?_ (by with_reducible assumption) | with_reducible refine gr_b ?_ (by with_reducible assumption))), (by repeat' (first | with_reducible assumption | with_reducible refine Rdr.a ?_ _ | with_reducible refine Rdr.d ?_ | with_reducible refine Rdr.s1 ?_ (by omega) _ _ | with_reducible refine Rdr.b ?_ (by with_reducible assumption))), (by repeat' (first | with_reducible assumption | with_reducible exact Blk.new _ _ _ | with_reducible exact Blk.new' _ _ (by simp only [World.size_alloc, World.size_setCell, World.size_drew]) | with_reducible exact Blk.new' _ _ (by omega) | with_reducible refine Blk.a ?_ _ | with_reducible refine Blk.d ?_ | with_reducible refine Blk.dN ?_ _ | with_reducible refine Blk.s ?_ (by simp only [ne_eq]; omega) _ | with_reducible refine Blk.b ?_ (by with_reducible assumption) | with_reducible refine Blk.g1 ?_ (by with_reducible assumption) (by omega))), (by repeat' (first | with_reducible assumption | with_reducible exact Blk.new _ _ _ | with_reducible exact Blk.new' _ _ (by simp only [World.size_alloc, World.size_setCell, World.size_drew]) | with_reducible exact Blk.new' _ _ (by omega) | with_reducible refine Blk.a ?_ _ | with_reducible refine Blk.d ?_ | with_reducible refine Blk.dN ?_ _ | with_reducible refine Blk.s ?_ (by simp only [ne_eq]; omega) _ | with_reducible refine Blk.b ?_ (by with_reducible assumption) | with_reducible refine Blk.g1 ?_ (by with_reducible assumption) (by omega))), by omega⟩
  have nb : w.heap.size ≠ g := n0
  refine wp_name (fun W => BSt 116 36 w g (w.heap.size + 1) w.heap.size N x W) hP0 ?_
  clear hP0
  rintro W hP3
  have hR := hP3.rd
  have lb := blk_lt hP3.kB.at_
  generalize hbb : w.heap.size = b at *
  replace hbb := Lib.hid hbb
  go_upto_block 0 with (go_at_call 100; (refine pick11_mono (N := ?_) ?_ ?_ ?_); (rotate_left); (focus (exact (by repeat' (first | with_reducible assumption | with_reducible refine Rdr.a ?_ _ | with_reducible refine Rdr.d ?_ | with_reducible refine Rdr.s1 ?_ (by omega) _ _ | with_reducible refine Rdr.b ?_ (by with_reducible assumption))))); (focus omega); intro v1 w4 hv0 hv1 hg1 hr1; obtain ⟨hc, hf⟩ := gcell1 hg1; (try simp only [World.size_drew] at hc hf); have hz := hg1.size; (try simp only [World.size_setCell, World.size_alloc, World.size_drew] at hz); (try have hv2 := pk_lt hv1 (by omega)); have yw4_0 : b < w4.heap.size := (by omega))
  have hP4 := hP3.go hg1 hr1
  clear hg1 hr1 hc hf hz hP3 hR lb
  go_cut [] (fun wc => BAny 116 36 w g (b + 1) b (N + 20) wc)
  case first =>
    have hR := hP4.rd
    obtain ⟨e1, f1, l1⟩ := hP4.kB.cells
    have lb := blk_lt hP4.kB.at_
    have n4 : w4.heap.size ≠ g := by have := hR.lt; omega
    rcases (show v1 = 0 ∨ v1 = 1 ∨ v1 = 2 ∨ v1 = 3 ∨ v1 = 4 ∨ v1 = 5 by omega) with rfl | rfl | rfl | rfl | rfl | rfl
    · go_wp2_with (go_at_call 100; (refine pick11_mono (N := ?_) ?_ ?_ ?_); (rotate_left); (focus (exact (by repeat' (first | with_reducible assumption | with_reducible refine Rdr.a ?_ _ | with_reducible refine Rdr.d ?_ | with_reducible refine Rdr.s1 ?_ (by omega) _ _ | with_reducible refine Rdr.b ?_ (by with_reducible assumption))))); (focus omega); intro v1 w5 hv0 hv1 hg1 hr1; obtain ⟨hc, hf⟩ := gcell1 hg1; (try simp only [World.size_drew] at hc hf); have hz := hg1.size; (try simp only [World.size_setCell, World.size_alloc, World.size_drew] at hz); (try have hv2 := pk_lt hv1 (by omega)); have yw5_0 : b < w5.heap.size := (by omega); have yw5_1 : w4.heap.size < w5.heap.size := (by omega))
      go_meet
      case rel => exact BSt.any (hP4.al.go hg1 hr1) 0 (by omega) _ (by omega)
    · go_wp2_with (go_at_call 100; (refine pick11_mono (N := ?_) ?_ ?_ ?_); (rotate_left); (focus (exact (by repeat' (first | with_reducible assumption | with_reducible refine Rdr.a ?_ _ | with_reducible refine Rdr.d ?_ | with_reducible refine Rdr.s1 ?_ (by omega) _ _ | with_reducible refine Rdr.b ?_ (by with_reducible assumption))))); (focus omega); intro v1 w5 hv0 hv1 hg1 hr1; obtain ⟨hc, hf⟩ := gcell1 hg1; (try simp only [World.size_drew] at hc hf); have hz := hg1.size; (try simp only [World.size_setCell, World.size_alloc, World.size_drew] at hz); (try have hv2 := pk_lt hv1 (by omega)); have yw5_0 : b < w5.heap.size := (by omega); have yw5_1 : w4.heap.size < w5.heap.size := (by omega))
      go_meet
      case rel => exact BSt.any (hP4.al.go hg1 hr1) 1 (by omega) _ (by omega)
    · go_wp2
      refine rel2_tail_b 11 [(5, IsArr 3, ArrIn g 3), (7, IsPick 3, NoFact), (9, IsInt, NoFact)] hR (by kernel_rfl) (by kernel_rfl) ?_
      simp only [List.take_succ_cons, List.take_zero, List.drop_succ_cons, List.drop_zero]
      iterate 5 ((apply rel2_plain (hR := rfl) (hF := fun _ => trivial) (hg := rfl)); (focus ((intro w' hL'); (obtain ⟨hcS, hfS⟩ := gcell1 hL'); (go_simp); (try go_bits); (try (first | (rw [if_pos (by omega)]; done) | (rw [if_neg (by omega)]; done) | (rw [if_pos (by omega)]; go_simp) | (rw [if_neg (by omega)]; go_simp))); (first | with_reducible rfl | exact rfl | skip))); (simp only [Act.put, List.setIfInBounds_toArray, List.set_cons_zero, List.set_cons_succ]))
      ((apply rel2_told (hR := rfl) (hg := rfl)); (focus ((refine ⟨.slice (some ⟨0, 0, none⟩) 3 3, ?_⟩); ((repeat (first | (refine Tell2.hits rfl ?_) | (refine Tell2.skips rfl ?_))); exact ⟨0, rfl⟩))); (focus ((intro w' M hL' hR' hM' hD'); (obtain ⟨hcS, hfS⟩ := gcell1 hL'); skip; (go_simp); (try go_bits); (try (first | (rw [if_pos (by omega)]; done) | (rw [if_neg (by omega)]; done) | (rw [if_pos (by omega)]; go_simp) | (rw [if_neg (by omega)]; go_simp))); (refine ⟨gr_alloc (GrownS.refl _ _) _, ?_, (hR'.a _).up (by omega)⟩; ((repeat (first | (refine Tell2.hit rfl ?_) | (refine Tell2.skip rfl ?_))); exact ⟨⟨_, rfl⟩, ArrIn.mk3 (by have := hL'.size; omega)⟩)))); (intro v' hv'); (replace hv' := Tell2.outs hv' rfl); (obtain ⟨ba, rfl⟩ := hv'); (simp only [Act.put, List.setIfInBounds_toArray, List.set_cons_zero, List.set_cons_succ]))
      ((apply rel2_plain (hR := rfl) (hF := fun _ => trivial) (hg := rfl)); (focus ((intro w' hL'); (obtain ⟨hcS, hfS⟩ := gcell1 hL'); (go_simp); (try go_bits); (try (first | (rw [if_pos (by omega)]; done) | (rw [if_neg (by omega)]; done) | (rw [if_pos (by omega)]; go_simp) | (rw [if_neg (by omega)]; go_simp))); (first | with_reducible rfl | exact rfl | skip))); (simp only [Act.put, List.setIfInBounds_toArray, List.set_cons_zero, List.set_cons_succ]))
      ((apply rel2_told (hR := rfl) (hg := rfl)); (focus ((refine ⟨.int .i64 0, ?_⟩); ((repeat (first | (refine Tell2.hits rfl ?_) | (refine Tell2.skips rfl ?_))); exact ⟨0, rfl, Int.le_refl _, .inr rfl⟩))); (focus ((intro w' M hL' hR' hM' hD'); (obtain ⟨hcS, hfS⟩ := gcell1 hL'); skip; (go_simp); (try go_bits); (try (first | (rw [if_pos (by omega)]; done) | (rw [if_neg (by omega)]; done) | (rw [if_pos (by omega)]; go_simp) | (rw [if_neg (by omega)]; go_simp))); ((go_at_call 100); (refine (spec_pick11_c _ M _ _ hR' (by omega)).mono ?_); (rintro e w'' ⟨vp, rfl, h0, h1, hg, hr⟩); (refine ⟨_, rfl, hg, ?_, hr⟩); ((repeat (first | (refine Tell2.hit rfl ?_) | (refine Tell2.skip rfl ?_))); exact ⟨⟨vp, rfl, h0, h1⟩, trivial⟩)))); (intro v' hv'); (replace hv' := Tell2.outs hv' rfl); (obtain ⟨v1, rfl, hv0, hv1⟩ := hv'); (simp only [Act.put, List.setIfInBounds_toArray, List.set_cons_zero, List.set_cons_succ]))
      have hv2 := pk_lt hv1 (by omega)
      ((apply rel2_deps (hR := rfl) (hg := rfl)); (focus ((intro w' hL'); (obtain ⟨hcS, hfS⟩ := gcell1 hL'); (go_simp); (try go_bits); (try (first | (rw [if_pos (by omega)]; done) | (rw [if_neg (by omega)]; done) | (rw [if_pos (by omega)]; go_simp) | (rw [if_neg (by omega)]; go_simp))); (first | with_reducible rfl | exact rfl | skip))); (simp only [Act.put, List.setIfInBounds_toArray, List.set_cons_zero, List.set_cons_succ]))
      ((apply rel2_told (hR := rfl) (hg := rfl)); (focus ((refine ⟨.int .i64 0, ?_⟩); ((repeat (first | (refine Tell2.hits rfl ?_) | (refine Tell2.skips rfl ?_))); exact ⟨0, rfl⟩))); (focus ((intro w' M hL' hR' hM' hD'); (obtain ⟨hcS, hfS⟩ := gcell1 hL'); (obtain ⟨wk0, hlk0, hak⟩ := Known2.out (hD' ⟨8, .data⟩ (by simp) rfl ⟨5, .data⟩ (by simp) rfl) rfl; obtain ⟨zz, hzz⟩ := ArrIn.at_ hak hlk0 v1.toNat (by omega)); (go_simp); (try go_bits); (try (first | (rw [if_pos (by omega)]; done) | (rw [if_neg (by omega)]; done) | (rw [if_pos (by omega)]; go_simp) | (rw [if_neg (by omega)]; go_simp))); (refine ⟨GrownS.refl _ _, ?_, hR'.up (by omega)⟩; ((repeat (first | (refine Tell2.hit rfl ?_) | (refine Tell2.skip rfl ?_))); exact ⟨⟨_, rfl⟩, trivial⟩)))); (intro v' hv'); (replace hv' := Tell2.outs hv' rfl); (obtain ⟨zl, rfl⟩ := hv'); (simp only [Act.put, List.setIfInBounds_toArray, List.set_cons_zero, List.set_cons_succ]))
      ((apply rel2_plain (hR := rfl) (hF := fun _ => trivial) (hg := rfl)); (focus ((intro w' hL'); (obtain ⟨hcS, hfS⟩ := gcell1 hL'); (go_simp); (try go_bits); (try (first | (rw [if_pos (by omega)]; done) | (rw [if_neg (by omega)]; done) | (rw [if_pos (by omega)]; go_simp) | (rw [if_neg (by omega)]; go_simp))); (first | with_reducible rfl | exact rfl | skip))); (simp only [Act.put, List.setIfInBounds_toArray, List.set_cons_zero, List.set_cons_succ]))
      refine rel2_nil ?_
      intro w6 hL6 hR6 hF6
      clear hF6
      have h6 := hP4.go hL6 hR6
      obtain ⟨hc, hf⟩ := gcell1 hL6
      go_wp2
      go_meet
      case rel => exact h6.any 2 (by omega) _ (by omega)
    · go_wp2_with (go_at_call 100; (refine pick11_mono (N := ?_) ?_ ?_ ?_); (rotate_left); (focus (exact (by repeat' (first | with_reducible assumption | with_reducible refine Rdr.a ?_ _ | with_reducible refine Rdr.d ?_ | with_reducible refine Rdr.s1 ?_ (by omega) _ _ | with_reducible refine Rdr.b ?_ (by with_reducible assumption))))); (focus omega); intro v1 w5 hv0 hv1 hg1 hr1; obtain ⟨hc, hf⟩ := gcell1 hg1; (try simp only [World.size_drew] at hc hf); have hz := hg1.size; (try simp only [World.size_setCell, World.size_alloc, World.size_drew] at hz); (try have hv2 := pk_lt hv1 (by omega)); have yw5_0 : b < w5.heap.size := (by omega); have yw5_1 : w4.heap.size < w5.heap.size := (by omega))
      go_meet
      case rel => exact BSt.any (hP4.al.go hg1 hr1) 3 (by omega) _ (by omega)
    · go_wp2
      refine rel2_tail_b 11 [(5, IsArr 3, ArrIn g 3), (7, IsPick 3, NoFact), (9, IsInt, NoFact)] hR (by kernel_rfl) (by kernel_rfl) ?_
      simp only [List.take_succ_cons, List.take_zero, List.drop_succ_cons, List.drop_zero]
      iterate 5 ((apply rel2_plain (hR := rfl) (hF := fun _ => trivial) (hg := rfl)); (focus ((intro w' hL'); (obtain ⟨hcS, hfS⟩ := gcell1 hL'); (go_simp); (try go_bits); (try (first | (rw [if_pos (by omega)]; done) | (rw [if_neg (by omega)]; done) | (rw [if_pos (by omega)]; go_simp) | (rw [if_neg (by omega)]; go_simp))); (first | with_reducible rfl | exact rfl | skip))); (simp only [Act.put, List.setIfInBounds_toArray, List.set_cons_zero, List.set_cons_succ]))
      ((apply rel2_told (hR := rfl) (hg := rfl)); (focus ((refine ⟨.slice (some ⟨0, 0, none⟩) 3 3, ?_⟩); ((repeat (first | (refine Tell2.hits rfl ?_) | (refine Tell2.skips rfl ?_))); exact ⟨0, rfl⟩))); (focus ((intro w' M hL' hR' hM' hD'); (obtain ⟨hcS, hfS⟩ := gcell1 hL'); skip; (go_simp); (try go_bits); (try (first | (rw [if_pos (by omega)]; done) | (rw [if_neg (by omega)]; done) | (rw [if_pos (by omega)]; go_simp) | (rw [if_neg (by omega)]; go_simp))); (refine ⟨gr_alloc (GrownS.refl _ _) _, ?_, (hR'.a _).up (by omega)⟩; ((repeat (first | (refine Tell2.hit rfl ?_) | (refine Tell2.skip rfl ?_))); exact ⟨⟨_, rfl⟩, ArrIn.mk3 (by have := hL'.size; omega)⟩)))); (intro v' hv'); (replace hv' := Tell2.outs hv' rfl); (obtain ⟨ba, rfl⟩ := hv'); (simp only [Act.put, List.setIfInBounds_toArray, List.set_cons_zero, List.set_cons_succ]))
      ((apply rel2_plain (hR := rfl) (hF := fun _ => trivial) (hg := rfl)); (focus ((intro w' hL'); (obtain ⟨hcS, hfS⟩ := gcell1 hL'); (go_simp); (try go_bits); (try (first | (rw [if_pos (by omega)]; done) | (rw [if_neg (by omega)]; done) | (rw [if_pos (by omega)]; go_simp) | (rw [if_neg (by omega)]; go_simp))); (first | with_reducible rfl | exact rfl | skip))); (simp only [Act.put, List.setIfInBounds_toArray, List.set_cons_zero, List.set_cons_succ]))
      ((apply rel2_told (hR := rfl) (hg := rfl)); (focus ((refine ⟨.int .i64 0, ?_⟩); ((repeat (first | (refine Tell2.hits rfl ?_) | (refine Tell2.skips rfl ?_))); exact ⟨0, rfl, Int.le_refl _, .inr rfl⟩))); (focus ((intro w' M hL' hR' hM' hD'); (obtain ⟨hcS, hfS⟩ := gcell1 hL'); skip; (go_simp); (try go_bits); (try (first | (rw [if_pos (by omega)]; done) | (rw [if_neg (by omega)]; done) | (rw [if_pos (by omega)]; go_simp) | (rw [if_neg (by omega)]; go_simp))); ((go_at_call 100); (refine (spec_pick11_c _ M _ _ hR' (by omega)).mono ?_); (rintro e w'' ⟨vp, rfl, h0, h1, hg, hr⟩); (refine ⟨_, rfl, hg, ?_, hr⟩); ((repeat (first | (refine Tell2.hit rfl ?_) | (refine Tell2.skip rfl ?_))); exact ⟨⟨vp, rfl, h0, h1⟩, trivial⟩)))); (intro v' hv'); (replace hv' := Tell2.outs hv' rfl); (obtain ⟨v1, rfl, hv0, hv1⟩ := hv'); (simp only [Act.put, List.setIfInBounds_toArray, List.set_cons_zero, List.set_cons_succ]))
      have hv2 := pk_lt hv1 (by omega)
      ((apply rel2_deps (hR := rfl) (hg := rfl)); (focus ((intro w' hL'); (obtain ⟨hcS, hfS⟩ := gcell1 hL'); (go_simp); (try go_bits); (try (first | (rw [if_pos (by omega)]; done) | (rw [if_neg (by omega)]; done) | (rw [if_pos (by omega)]; go_simp) | (rw [if_neg (by omega)]; go_simp))); (first | with_reducible rfl | exact rfl | skip))); (simp only [Act.put, List.setIfInBounds_toArray, List.set_cons_zero, List.set_cons_succ]))
      ((apply rel2_told (hR := rfl) (hg := rfl)); (focus ((refine ⟨.int .i64 0, ?_⟩); ((repeat (first | (refine Tell2.hits rfl ?_) | (refine Tell2.skips rfl ?_))); exact ⟨0, rfl⟩))); (focus ((intro w' M hL' hR' hM' hD'); (obtain ⟨hcS, hfS⟩ := gcell1 hL'); (obtain ⟨wk0, hlk0, hak⟩ := Known2.out (hD' ⟨8, .data⟩ (by simp) rfl ⟨5, .data⟩ (by simp) rfl) rfl; obtain ⟨zz, hzz⟩ := ArrIn.at_ hak hlk0 v1.toNat (by omega)); (go_simp); (try go_bits); (try (first | (rw [if_pos (by omega)]; done) | (rw [if_neg (by omega)]; done) | (rw [if_pos (by omega)]; go_simp) | (rw [if_neg (by omega)]; go_simp))); (refine ⟨GrownS.refl _ _, ?_, hR'.up (by omega)⟩; ((repeat (first | (refine Tell2.hit rfl ?_) | (refine Tell2.skip rfl ?_))); exact ⟨⟨_, rfl⟩, trivial⟩)))); (intro v' hv'); (replace hv' := Tell2.outs hv' rfl); (obtain ⟨zl, rfl⟩ := hv'); (simp only [Act.put, List.setIfInBounds_toArray, List.set_cons_zero, List.set_cons_succ]))
      ((apply rel2_plain (hR := rfl) (hF := fun _ => trivial) (hg := rfl)); (focus ((intro w' hL'); (obtain ⟨hcS, hfS⟩ := gcell1 hL'); (go_simp); (try go_bits); (try (first | (rw [if_pos (by omega)]; done) | (rw [if_neg (by omega)]; done) | (rw [if_pos (by omega)]; go_simp) | (rw [if_neg (by omega)]; go_simp))); (first | with_reducible rfl | exact rfl | skip))); (simp only [Act.put, List.setIfInBounds_toArray, List.set_cons_zero, List.set_cons_succ]))
      refine rel2_nil ?_
      intro w6 hL6 hR6 hF6
      clear hF6
      have h6 := hP4.go hL6 hR6
      obtain ⟨hc, hf⟩ := gcell1 hL6
      go_wp2
      go_meet
      case rel => exact h6.any 4 (by omega) _ (by omega)
    · go_wp2_with (go_at_call 100; (refine pick11_mono (N := ?_) ?_ ?_ ?_); (rotate_left); (focus (exact (by repeat' (first | with_reducible assumption | with_reducible refine Rdr.a ?_ _ | with_reducible refine Rdr.d ?_ | with_reducible refine Rdr.s1 ?_ (by omega) _ _ | with_reducible refine Rdr.b ?_ (by with_reducible assumption))))); (focus omega); intro v1 w5 hv0 hv1 hg1 hr1; obtain ⟨hc, hf⟩ := gcell1 hg1; (try simp only [World.size_drew] at hc hf); have hz := hg1.size; (try simp only [World.size_setCell, World.size_alloc, World.size_drew] at hz); (try have hv2 := pk_lt hv1 (by omega)); have yw5_0 : b < w5.heap.size := (by omega); have yw5_1 : w4.heap.size < w5.heap.size := (by omega))
      go_meet
      case rel => exact BSt.any (hP4.al.go hg1 hr1) 5 (by omega) _ (by omega)
  obtain ⟨y, hP5⟩ := hcut
  clear hP4
  obtain ⟨e1, f1, l1⟩ := hP5.kB.cells
  obtain ⟨e0, f0, l0⟩ := hP5.kR.cells
  have hG := hP5.gr
  have hR := hP5.rd
  go_wp2
  have hbb2 := hbb.out
  (refine bodyPost_ret (res_c rfl _ [.int .i64 y.x, .int .i64 y.y, .int .i64 y.lo, .int .i64 y.hi, .int .i64 y.i, .int .i64 y.o] rfl _ Try.underlying36 rfl (by kernel_rfl) (by simp only [CellsAt, and_true]; and_intros <;> go_simp)) rfl ?_)
  exact ⟨y, rfl, (by repeat' (first | with_reducible exact GrownS.refl _ _ | with_reducible assumption | with_reducible refine gr_alloc ?_ _ | with_reducible refine gr_drew ?_ | with_reducible refine gr_s1 ?_ (by omega) _ _ | with_reducible refine GrownS.trans ?_ (by with_reducible assumption) | with_reducible refine gr_b ?_ (by with_reducible assumption))), Rdr.up (N := N + 20) (by repeat' (first | with_reducible assumption | with_reducible refine Rdr.a ?_ _ | with_reducible refine Rdr.d ?_ | with_reducible refine Rdr.s1 ?_ (by omega) _ _ | with_reducible refine Rdr.b ?_ (by with_reducible assumption))) (by omega)⟩
theorem l11SpoilBox_mono {Q : Ending → World → Prop} {g N : Nat} {x : LL.Box} {w : World} (hr : Rdr 116 w g N) (hN : N ≤ 1000000) (hk : ∀ (x : LL.Box) (w' : World), GrownS w w' (fun k => k = g) → Rdr 116 w' g (N + 30) → Q (.returned (.agg #[.int .i64 x.x, .int .i64 x.y, .int .i64 x.lo, .int .i64 x.hi, .int .i64 x.i, .int .i64 x.o])) w') : Calls Try.prog 113 #[.pointer (some ⟨g, 0, none⟩), .agg #[.int .i64 x.x, .int .i64 x.y, .int .i64 x.lo, .int .i64 x.hi, .int .i64 x.i, .int .i64 x.o]] w Q :=
  (spec_l11SpoilBox_c g N x w hr hN).mono fun e w' ⟨x, he, hg, hr'⟩ => by subst he; exact hk x w' hg hr'
end Go.Proofs.Ytpeojnknfonmlaa
