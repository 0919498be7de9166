/- What is drawn: a path spoilt. -/
import Derived.Test.YtpeojnknfonmlaaRD0
import Derived.Test.YtpeojnknfonmlaaHB
set_option linter.unusedVariables false
set_option linter.unusedSimpArgs false
namespace Go.Proofs.Ytpeojnknfonmlaa
open Go.RowKit
set_option maxRecDepth 100000 in
set_option maxHeartbeats 4000000 in
theorem spec_l10Spoil_c (g N : Nat) (p : LL.Path) (A : Option Addr) (c : Nat) (w : World) (hr : Rdr 121 w g N) (hN : N ≤ 100000) (h1 : 1 ≤ p.steps.length) (h40 : p.steps.length ≤ 40) (hS : RdS w A p.steps.length c p.steps) : Calls Try.prog 94 #[.pointer (some ⟨g, 0, none⟩), .agg #[.int .i64 p.q, .int .i64 p.s, .slice A p.steps.length c, .int .i64 p.fr, .int .i64 p.by_]] w fun e w' => ∃ (p : LL.Path) (A : Option Addr) (c : Nat), e = .returned (.agg #[.int .i64 p.q, .int .i64 p.s, .slice A p.steps.length c, .int .i64 p.fr, .int .i64 p.by_]) ∧ p.steps.length ≤ 60 ∧ Own stepC 7 56 79 w' (.slice A p.steps.length c) p.steps ∧ (∀ j, (Value.slice A p.steps.length c).ownBlock = some j → w.heap.size ≤ j) ∧ GrownS w w' (fun k => k = g) ∧ Rdr 121 w' g (N + 500) := by
  have hlt := hr.lt
  have n0 : w.heap.size ≠ g := by omega
  go_enter Try.func94, Try.ntmps94
  go_upto_region 2 with (go_at_call 73; go_loud (refine (spec_l2Copy_c p A c _ (by exact Rd.mono (by with_reducible assumption) (by repeat' (first | with_reducible exact Below.refl _ _ | with_reducible assumption | with_reducible refine b_alloc ?_ _ | with_reducible refine b_drewN ?_ _ | with_reducible refine b_drew ?_ | with_reducible refine b_set ?_ (by first | (simp only [World.size_setCell, World.size_alloc, World.size_drew]; omega) | (simp; done) | (simp; omega)) _ | with_reducible refine b_step ?_ (by with_reducible assumption))))).mono ?_); intro e w2 hM; obtain ⟨A2, c2, rfl, hO2, hOg2, hB2⟩ := hM.gop; have hz := hB2.size; (try simp only [World.size_setCell, World.size_alloc, World.size_drew] at hz hOg2))
  have hP : PSt w g (w.heap.size + 1) w2.heap.size p.q p.s (.slice A2 p.steps.length c2) p.steps p.fr p.by_ N (w2.alloc (.cells #[.int .i64 p.q, .int .i64 p.s, .slice A2 p.steps.length c2, .int .i64 p.fr, .int .i64 p.by_] 43)) :=
    ⟨gr_alloc (gr_b (gr_alloc (gr_alloc (GrownS.refl _ _) _) _) hB2) _, (by repeat' (first | with_reducible assumption | with_reducible refine Rdr.a ?_ _ | with_reducible refine Rdr.d ?_ | with_reducible refine Rdr.s1 ?_ (by omega) _ _ | with_reducible refine Rdr.b ?_ (by with_reducible assumption))), (by repeat' (first | with_reducible assumption | with_reducible exact Blk.new _ _ _ | with_reducible exact Blk.new' _ _ (by first | (simp only [World.size_alloc, World.size_setCell, World.size_drew]; done) | (simp only [World.size_alloc, World.size_setCell, World.size_drew]; omega) | omega) | with_reducible refine Blk.a ?_ _ | with_reducible refine Blk.d ?_ | with_reducible refine Blk.dN ?_ _ | with_reducible refine Blk.s ?_ (by simp only [ne_eq]; omega) _ | with_reducible refine Blk.b ?_ (by with_reducible assumption))), Blk.new _ _ _, hO2.a _, fun j hj => by have := hOg2 j hj; omega, by omega⟩
  refine wp_name (fun W => PSt w g (w.heap.size + 1) w2.heap.size p.q p.s (.slice A2 p.steps.length c2) p.steps p.fr p.by_ N W) hP ?_
  clear hO2 hOg2 hB2 hP
  rintro W hP
  generalize w2.heap.size = bp at *
  have hR := hP.rd
  obtain ⟨e0, f0, l0⟩ := hP.kP.cells
  have nb : bp ≠ g := by have := hP.lt; omega
  go_upto_region 3 with (go_at_call 69; (refine pick_mono (N := ?_) ?_ ?_ ?_); (rotate_left); (focus (exact (by repeat' (first | with_reducible assumption | with_reducible refine Rdr.a ?_ _ | with_reducible refine Rdr.d ?_ | with_reducible refine Rdr.s1 ?_ (by omega) _ _ | with_reducible refine Rdr.b ?_ (by with_reducible assumption))))); (focus omega); intro v1 w3 hv0 hv1 hg1 hr1; obtain ⟨hc, hf⟩ := gcell1 hg1; (try simp only [World.size_drew] at hc hf); have hz := hg1.size; (try simp only [World.size_setCell, World.size_alloc, World.size_drew] at hz); have yw3_0 : bp < w3.heap.size := (by omega))
  obtain ⟨k, rfl⟩ : ∃ k : Nat, v1 = k := ⟨v1.toNat, by omega⟩
  have hk : k < p.steps.length := by omega
  have hP3 := hP.go hg1 hr1
  clear hv0 hv1 hg1 hr1 hc hf hz hP hR e0 f0 l0
  have hR := hP3.rd
  have lb := blk_lt hP3.kP.at_
  go_upto_block 0 with (go_at_call 69; (refine pick_mono (N := ?_) ?_ ?_ ?_); (rotate_left); (focus (exact (by repeat' (first | with_reducible assumption | with_reducible refine Rdr.a ?_ _ | with_reducible refine Rdr.d ?_ | with_reducible refine Rdr.s1 ?_ (by omega) _ _ | with_reducible refine Rdr.b ?_ (by with_reducible assumption))))); (focus omega); intro v1 w4 hv0 hv1 hg1 hr1; obtain ⟨hc, hf⟩ := gcell1 hg1; (try simp only [World.size_drew] at hc hf); have hz := hg1.size; (try simp only [World.size_setCell, World.size_alloc, World.size_drew] at hz); have yw4_0 : bp < w4.heap.size := (by omega))
  have hP4 := hP3.go hg1 hr1
  clear hg1 hr1 hc hf hz hP3 hR lb
  obtain ⟨a, rfl⟩ := hP4.row.someA (by omega)
  go_cut [] (fun wc => PF w g (w.heap.size + 1) bp (N + 400) wc)
  case first =>
    have hR := hP4.rd
    obtain ⟨e0, f0, l0⟩ := hP4.kP.cells
    obtain ⟨d0, d1, d2, d3, d4, d5, d6⟩ := (hP4.row.rd_at stepE rfl).S7 k hk
    simp only [Nat.zero_add] at d0 d1 d2 d3 d4 d5 d6
    obtain ⟨fa, la⟩ := hP4.row.unfrozen (by omega)
    have n4 : w4.heap.size ≠ g := by have := hP4.lt; have := hP4.gr.size; omega
    have la1 : a < w4.heap.size + 1 := by omega
    have lb1 : bp < w4.heap.size + 1 := by omega
    have na : a ≠ g := by have := hP4.fr a rfl; omega
    generalize LL.nth p.steps k = z at d0 d1 d2 d3 d4 d5 d6
    rcases (show v1 = 0 ∨ v1 = 1 ∨ v1 = 2 ∨ v1 = 3 ∨ v1 = 4 ∨ v1 = 5 ∨ v1 = 6 ∨ v1 = 7 ∨ v1 = 8 ∨ v1 = 9 ∨ v1 = 10 ∨ v1 = 11 by omega) with rfl | rfl | rfl | rfl | rfl | rfl | rfl | rfl | rfl | rfl | rfl | rfl
    · go_wp2_with ((go_at_call 69; (refine pick_mono (N := ?_) ?_ ?_ ?_); (rotate_left); (focus (exact (by repeat' (first | with_reducible assumption | with_reducible refine Rdr.a ?_ _ | with_reducible refine Rdr.d ?_ | with_reducible refine Rdr.s1 ?_ (by omega) _ _ | with_reducible refine Rdr.b ?_ (by with_reducible assumption))))); (focus omega); intro v1 w5 hv0 hv1 hg1 hr1; obtain ⟨hc, hf⟩ := gcell1 hg1; (try simp only [World.size_drew] at hc hf); have hz := hg1.size; (try simp only [World.size_setCell, World.size_alloc, World.size_drew] at hz); have yw5_0 : bp < w5.heap.size := (by omega); have yw5_1 : a < w5.heap.size := (by omega)); (try have hv2 := pk_lt hv1 (by omega)))
      go_meet
      case rel => exact ((hP4.go hg1 hr1).pQ _).pf (by omega) (by omega)
    · go_wp2
      refine rel2_tail_b 16 [(10, IsArr 3, ArrIn g 3), (12, IsPick 3, NoFact), (14, IsInt, NoFact)] hR (by kernel_rfl) (by kernel_rfl) ?_
      simp only [List.take_succ_cons, List.take_zero, List.drop_succ_cons, List.drop_zero]
      iterate 10 ((apply rel2_plain (hR := rfl) (hF := fun _ => trivial) (hg := rfl)); (focus ((intro w' hL'); (obtain ⟨hcS, hfS⟩ := gcell1 hL'); (go_simp); (try go_bits); (try (first | (rw [if_pos (by omega)]; done) | (rw [if_neg (by omega)]; done) | (rw [if_pos (by omega)]; go_simp) | (rw [if_neg (by omega)]; go_simp))); (first | with_reducible rfl | exact rfl | skip))); (simp only [Act.put, List.setIfInBounds_toArray, List.set_cons_zero, List.set_cons_succ]))
      ((apply rel2_told (hR := rfl) (hg := rfl)); (focus ((refine ⟨.slice (some ⟨0, 0, none⟩) 3 3, ?_⟩); ((repeat (first | (refine Tell2.hits rfl ?_) | (refine Tell2.skips rfl ?_))); exact ⟨0, rfl⟩))); (focus ((intro w' M hL' hR' hM' hD'); (obtain ⟨hcS, hfS⟩ := gcell1 hL'); skip; (go_simp); (try go_bits); (try (first | (rw [if_pos (by omega)]; done) | (rw [if_neg (by omega)]; done) | (rw [if_pos (by omega)]; go_simp) | (rw [if_neg (by omega)]; go_simp))); (refine ⟨gr_alloc (GrownS.refl _ _) _, ?_, (hR'.a _).up (by omega)⟩; ((repeat (first | (refine Tell2.hit rfl ?_) | (refine Tell2.skip rfl ?_))); exact ⟨⟨_, rfl⟩, ArrIn.mk3 (by have := hL'.size; omega)⟩)))); (intro v' hv'); (replace hv' := Tell2.outs hv' rfl); (obtain ⟨ba, rfl⟩ := hv'); (simp only [Act.put, List.setIfInBounds_toArray, List.set_cons_zero, List.set_cons_succ]))
      ((apply rel2_plain (hR := rfl) (hF := fun _ => trivial) (hg := rfl)); (focus ((intro w' hL'); (obtain ⟨hcS, hfS⟩ := gcell1 hL'); (go_simp); (try go_bits); (try (first | (rw [if_pos (by omega)]; done) | (rw [if_neg (by omega)]; done) | (rw [if_pos (by omega)]; go_simp) | (rw [if_neg (by omega)]; go_simp))); (first | with_reducible rfl | exact rfl | skip))); (simp only [Act.put, List.setIfInBounds_toArray, List.set_cons_zero, List.set_cons_succ]))
      ((apply rel2_told (hR := rfl) (hg := rfl)); (focus ((refine ⟨.int .i64 0, ?_⟩); ((repeat (first | (refine Tell2.hits rfl ?_) | (refine Tell2.skips rfl ?_))); exact ⟨0, rfl, Int.le_refl _, .inr rfl⟩))); (focus ((intro w' M hL' hR' hM' hD'); (obtain ⟨hcS, hfS⟩ := gcell1 hL'); skip; (go_simp); (try go_bits); (try (first | (rw [if_pos (by omega)]; done) | (rw [if_neg (by omega)]; done) | (rw [if_pos (by omega)]; go_simp) | (rw [if_neg (by omega)]; go_simp))); ((go_at_call 69); (refine (spec_pick_c _ M _ _ hR' (by omega)).mono ?_); (rintro e w'' ⟨vp, rfl, h0, h1, hg, hr⟩); (refine ⟨_, rfl, hg, ?_, hr⟩); ((repeat (first | (refine Tell2.hit rfl ?_) | (refine Tell2.skip rfl ?_))); exact ⟨⟨vp, rfl, h0, h1⟩, trivial⟩)))); (intro v' hv'); (replace hv' := Tell2.outs hv' rfl); (obtain ⟨v1, rfl, hv0, hv1⟩ := hv'); (simp only [Act.put, List.setIfInBounds_toArray, List.set_cons_zero, List.set_cons_succ]))
      have hv2 := pk_lt hv1 (by omega)
      ((apply rel2_deps (hR := rfl) (hg := rfl)); (focus ((intro w' hL'); (obtain ⟨hcS, hfS⟩ := gcell1 hL'); (go_simp); (try go_bits); (try (first | (rw [if_pos (by omega)]; done) | (rw [if_neg (by omega)]; done) | (rw [if_pos (by omega)]; go_simp) | (rw [if_neg (by omega)]; go_simp))); (first | with_reducible rfl | exact rfl | skip))); (simp only [Act.put, List.setIfInBounds_toArray, List.set_cons_zero, List.set_cons_succ]))
      ((apply rel2_told (hR := rfl) (hg := rfl)); (focus ((refine ⟨.int .i64 0, ?_⟩); ((repeat (first | (refine Tell2.hits rfl ?_) | (refine Tell2.skips rfl ?_))); exact ⟨0, rfl⟩))); (focus ((intro w' M hL' hR' hM' hD'); (obtain ⟨hcS, hfS⟩ := gcell1 hL'); (obtain ⟨wk0, hlk0, hak⟩ := Known2.out (hD' ⟨13, .data⟩ (by simp) rfl ⟨10, .data⟩ (by simp) rfl) rfl; obtain ⟨zz, hzz⟩ := ArrIn.at_ hak hlk0 v1.toNat (by omega)); (go_simp); (try go_bits); (try (first | (rw [if_pos (by omega)]; done) | (rw [if_neg (by omega)]; done) | (rw [if_pos (by omega)]; go_simp) | (rw [if_neg (by omega)]; go_simp))); (refine ⟨GrownS.refl _ _, ?_, hR'.up (by omega)⟩; ((repeat (first | (refine Tell2.hit rfl ?_) | (refine Tell2.skip rfl ?_))); exact ⟨⟨_, rfl⟩, trivial⟩)))); (intro v' hv'); (replace hv' := Tell2.outs hv' rfl); (obtain ⟨zl, rfl⟩ := hv'); (simp only [Act.put, List.setIfInBounds_toArray, List.set_cons_zero, List.set_cons_succ]))
      ((apply rel2_plain (hR := rfl) (hF := fun _ => trivial) (hg := rfl)); (focus ((intro w' hL'); (obtain ⟨hcS, hfS⟩ := gcell1 hL'); (go_simp); (try go_bits); (try (first | (rw [if_pos (by omega)]; done) | (rw [if_neg (by omega)]; done) | (rw [if_pos (by omega)]; go_simp) | (rw [if_neg (by omega)]; go_simp))); (first | with_reducible rfl | exact rfl | skip))); (simp only [Act.put, List.setIfInBounds_toArray, List.set_cons_zero, List.set_cons_succ]))
      refine rel2_nil ?_
      intro w6 hL6 hR6 hF6
      clear hF6
      have h6 := hP4.go hL6 hR6
      obtain ⟨hc, hf⟩ := gcell1 hL6
      go_wp2
      go_meet
      case rel => exact PSt.pR6 (j := 0) h6 hk (by omega) (by omega) (by omega)
    · go_wp2
      refine rel2_tail_b 7 [(4, IsPick 6, NoFact)] hR (by kernel_rfl) (by kernel_rfl) ?_
      simp only [List.take_succ_cons, List.take_zero, List.drop_succ_cons, List.drop_zero]
      iterate 4 ((apply rel2_plain (hR := rfl) (hF := fun _ => trivial) (hg := rfl)); (focus ((intro w' hL'); (obtain ⟨hcS, hfS⟩ := gcell1 hL'); (go_simp); (try go_bits); (try (first | (rw [if_pos (by omega)]; done) | (rw [if_neg (by omega)]; done) | (rw [if_pos (by omega)]; go_simp) | (rw [if_neg (by omega)]; go_simp))); (first | with_reducible rfl | exact rfl | skip))); (simp only [Act.put, List.setIfInBounds_toArray, List.set_cons_zero, List.set_cons_succ]))
      ((apply rel2_told (hR := rfl) (hg := rfl)); (focus ((refine ⟨.int .i64 0, ?_⟩); ((repeat (first | (refine Tell2.hits rfl ?_) | (refine Tell2.skips rfl ?_))); exact ⟨0, rfl, Int.le_refl _, .inr rfl⟩))); (focus ((intro w' M hL' hR' hM' hD'); (obtain ⟨hcS, hfS⟩ := gcell1 hL'); skip; (go_simp); (try go_bits); (try (first | (rw [if_pos (by omega)]; done) | (rw [if_neg (by omega)]; done) | (rw [if_pos (by omega)]; go_simp) | (rw [if_neg (by omega)]; go_simp))); ((go_at_call 69); (refine (spec_pick_c _ M _ _ hR' (by omega)).mono ?_); (rintro e w'' ⟨vp, rfl, h0, h1, hg, hr⟩); (refine ⟨_, rfl, hg, ?_, hr⟩); ((repeat (first | (refine Tell2.hit rfl ?_) | (refine Tell2.skip rfl ?_))); exact ⟨⟨vp, rfl, h0, h1⟩, trivial⟩)))); (intro v' hv'); (replace hv' := Tell2.outs hv' rfl); (obtain ⟨v1, rfl, hv0, hv1⟩ := hv'); (simp only [Act.put, List.setIfInBounds_toArray, List.set_cons_zero, List.set_cons_succ]))
      ((apply rel2_plain (hR := rfl) (hF := fun _ => trivial) (hg := rfl)); (focus ((intro w' hL'); (obtain ⟨hcS, hfS⟩ := gcell1 hL'); (go_simp); (try go_bits); (try (first | (rw [if_pos (by omega)]; done) | (rw [if_neg (by omega)]; done) | (rw [if_pos (by omega)]; go_simp) | (rw [if_neg (by omega)]; go_simp))); (first | with_reducible rfl | exact rfl | skip))); (simp only [Act.put, List.setIfInBounds_toArray, List.set_cons_zero, List.set_cons_succ]))
      ((apply rel2_plain (hR := rfl) (hF := fun _ => trivial) (hg := rfl)); (focus ((intro w' hL'); (obtain ⟨hcS, hfS⟩ := gcell1 hL'); (go_simp); (try go_bits); (try (first | (rw [if_pos (by omega)]; done) | (rw [if_neg (by omega)]; done) | (rw [if_pos (by omega)]; go_simp) | (rw [if_neg (by omega)]; go_simp))); (first | with_reducible rfl | exact rfl | skip))); (simp only [Act.put, List.setIfInBounds_toArray, List.set_cons_zero, List.set_cons_succ]))
      refine rel2_nil ?_
      intro w6 hL6 hR6 hF6
      clear hF6
      have h6 := hP4.go hL6 hR6
      obtain ⟨hc, hf⟩ := gcell1 hL6
      go_wp2
      go_meet
      case rel => exact PSt.pR6 (j := 2) h6 hk (by omega) (by omega) (by omega)
    · go_wp2
      refine rel2_tail_b 6 [(4, IsPick 9, NoFact)] hR (by kernel_rfl) (by kernel_rfl) ?_
      simp only [List.take_succ_cons, List.take_zero, List.drop_succ_cons, List.drop_zero]
      iterate 4 ((apply rel2_plain (hR := rfl) (hF := fun _ => trivial) (hg := rfl)); (focus ((intro w' hL'); (obtain ⟨hcS, hfS⟩ := gcell1 hL'); (go_simp); (try go_bits); (try (first | (rw [if_pos (by omega)]; done) | (rw [if_neg (by omega)]; done) | (rw [if_pos (by omega)]; go_simp) | (rw [if_neg (by omega)]; go_simp))); (first | with_reducible rfl | exact rfl | skip))); (simp only [Act.put, List.setIfInBounds_toArray, List.set_cons_zero, List.set_cons_succ]))
      ((apply rel2_told (hR := rfl) (hg := rfl)); (focus ((refine ⟨.int .i64 0, ?_⟩); ((repeat (first | (refine Tell2.hits rfl ?_) | (refine Tell2.skips rfl ?_))); exact ⟨0, rfl, Int.le_refl _, .inr rfl⟩))); (focus ((intro w' M hL' hR' hM' hD'); (obtain ⟨hcS, hfS⟩ := gcell1 hL'); skip; (go_simp); (try go_bits); (try (first | (rw [if_pos (by omega)]; done) | (rw [if_neg (by omega)]; done) | (rw [if_pos (by omega)]; go_simp) | (rw [if_neg (by omega)]; go_simp))); ((go_at_call 69); (refine (spec_pick_c _ M _ _ hR' (by omega)).mono ?_); (rintro e w'' ⟨vp, rfl, h0, h1, hg, hr⟩); (refine ⟨_, rfl, hg, ?_, hr⟩); ((repeat (first | (refine Tell2.hit rfl ?_) | (refine Tell2.skip rfl ?_))); exact ⟨⟨vp, rfl, h0, h1⟩, trivial⟩)))); (intro v' hv'); (replace hv' := Tell2.outs hv' rfl); (obtain ⟨v1, rfl, hv0, hv1⟩ := hv'); (simp only [Act.put, List.setIfInBounds_toArray, List.set_cons_zero, List.set_cons_succ]))
      ((apply rel2_plain (hR := rfl) (hF := fun _ => trivial) (hg := rfl)); (focus ((intro w' hL'); (obtain ⟨hcS, hfS⟩ := gcell1 hL'); (go_simp); (try go_bits); (try (first | (rw [if_pos (by omega)]; done) | (rw [if_neg (by omega)]; done) | (rw [if_pos (by omega)]; go_simp) | (rw [if_neg (by omega)]; go_simp))); (first | with_reducible rfl | exact rfl | skip))); (simp only [Act.put, List.setIfInBounds_toArray, List.set_cons_zero, List.set_cons_succ]))
      refine rel2_nil ?_
      intro w6 hL6 hR6 hF6
      clear hF6
      have h6 := hP4.go hL6 hR6
      obtain ⟨hc, hf⟩ := gcell1 hL6
      go_wp2
      go_meet
      case rel => exact PSt.pR6 (j := 3) h6 hk (by omega) (by omega) (by omega)
    · go_wp2
      refine rel2_tail_b 22 [(16, IsArr 3, ArrIn g 3), (18, IsPick 3, NoFact), (20, IsInt, NoFact)] hR (by kernel_rfl) (by kernel_rfl) ?_
      simp only [List.take_succ_cons, List.take_zero, List.drop_succ_cons, List.drop_zero]
      iterate 16 ((apply rel2_plain (hR := rfl) (hF := fun _ => trivial) (hg := rfl)); (focus ((intro w' hL'); (obtain ⟨hcS, hfS⟩ := gcell1 hL'); (go_simp); (try go_bits); (try (first | (rw [if_pos (by omega)]; done) | (rw [if_neg (by omega)]; done) | (rw [if_pos (by omega)]; go_simp) | (rw [if_neg (by omega)]; go_simp))); (first | with_reducible rfl | exact rfl | skip))); (simp only [Act.put, List.setIfInBounds_toArray, List.set_cons_zero, List.set_cons_succ]))
      ((apply rel2_told (hR := rfl) (hg := rfl)); (focus ((refine ⟨.slice (some ⟨0, 0, none⟩) 3 3, ?_⟩); ((repeat (first | (refine Tell2.hits rfl ?_) | (refine Tell2.skips rfl ?_))); exact ⟨0, rfl⟩))); (focus ((intro w' M hL' hR' hM' hD'); (obtain ⟨hcS, hfS⟩ := gcell1 hL'); skip; (go_simp); (try go_bits); (try (first | (rw [if_pos (by omega)]; done) | (rw [if_neg (by omega)]; done) | (rw [if_pos (by omega)]; go_simp) | (rw [if_neg (by omega)]; go_simp))); (refine ⟨gr_alloc (GrownS.refl _ _) _, ?_, (hR'.a _).up (by omega)⟩; ((repeat (first | (refine Tell2.hit rfl ?_) | (refine Tell2.skip rfl ?_))); exact ⟨⟨_, rfl⟩, ArrIn.mk3 (by have := hL'.size; omega)⟩)))); (intro v' hv'); (replace hv' := Tell2.outs hv' rfl); (obtain ⟨ba, rfl⟩ := hv'); (simp only [Act.put, List.setIfInBounds_toArray, List.set_cons_zero, List.set_cons_succ]))
      ((apply rel2_plain (hR := rfl) (hF := fun _ => trivial) (hg := rfl)); (focus ((intro w' hL'); (obtain ⟨hcS, hfS⟩ := gcell1 hL'); (go_simp); (try go_bits); (try (first | (rw [if_pos (by omega)]; done) | (rw [if_neg (by omega)]; done) | (rw [if_pos (by omega)]; go_simp) | (rw [if_neg (by omega)]; go_simp))); (first | with_reducible rfl | exact rfl | skip))); (simp only [Act.put, List.setIfInBounds_toArray, List.set_cons_zero, List.set_cons_succ]))
      ((apply rel2_told (hR := rfl) (hg := rfl)); (focus ((refine ⟨.int .i64 0, ?_⟩); ((repeat (first | (refine Tell2.hits rfl ?_) | (refine Tell2.skips rfl ?_))); exact ⟨0, rfl, Int.le_refl _, .inr rfl⟩))); (focus ((intro w' M hL' hR' hM' hD'); (obtain ⟨hcS, hfS⟩ := gcell1 hL'); skip; (go_simp); (try go_bits); (try (first | (rw [if_pos (by omega)]; done) | (rw [if_neg (by omega)]; done) | (rw [if_pos (by omega)]; go_simp) | (rw [if_neg (by omega)]; go_simp))); ((go_at_call 69); (refine (spec_pick_c _ M _ _ hR' (by omega)).mono ?_); (rintro e w'' ⟨vp, rfl, h0, h1, hg, hr⟩); (refine ⟨_, rfl, hg, ?_, hr⟩); ((repeat (first | (refine Tell2.hit rfl ?_) | (refine Tell2.skip rfl ?_))); exact ⟨⟨vp, rfl, h0, h1⟩, trivial⟩)))); (intro v' hv'); (replace hv' := Tell2.outs hv' rfl); (obtain ⟨v1, rfl, hv0, hv1⟩ := hv'); (simp only [Act.put, List.setIfInBounds_toArray, List.set_cons_zero, List.set_cons_succ]))
      have hv2 := pk_lt hv1 (by omega)
      ((apply rel2_deps (hR := rfl) (hg := rfl)); (focus ((intro w' hL'); (obtain ⟨hcS, hfS⟩ := gcell1 hL'); (go_simp); (try go_bits); (try (first | (rw [if_pos (by omega)]; done) | (rw [if_neg (by omega)]; done) | (rw [if_pos (by omega)]; go_simp) | (rw [if_neg (by omega)]; go_simp))); (first | with_reducible rfl | exact rfl | skip))); (simp only [Act.put, List.setIfInBounds_toArray, List.set_cons_zero, List.set_cons_succ]))
      ((apply rel2_told (hR := rfl) (hg := rfl)); (focus ((refine ⟨.int .i64 0, ?_⟩); ((repeat (first | (refine Tell2.hits rfl ?_) | (refine Tell2.skips rfl ?_))); exact ⟨0, rfl⟩))); (focus ((intro w' M hL' hR' hM' hD'); (obtain ⟨hcS, hfS⟩ := gcell1 hL'); (obtain ⟨wk0, hlk0, hak⟩ := Known2.out (hD' ⟨19, .data⟩ (by simp) rfl ⟨16, .data⟩ (by simp) rfl) rfl; obtain ⟨zz, hzz⟩ := ArrIn.at_ hak hlk0 v1.toNat (by omega)); (go_simp); (try go_bits); (try (first | (rw [if_pos (by omega)]; done) | (rw [if_neg (by omega)]; done) | (rw [if_pos (by omega)]; go_simp) | (rw [if_neg (by omega)]; go_simp))); (refine ⟨GrownS.refl _ _, ?_, hR'.up (by omega)⟩; ((repeat (first | (refine Tell2.hit rfl ?_) | (refine Tell2.skip rfl ?_))); exact ⟨⟨_, rfl⟩, trivial⟩)))); (intro v' hv'); (replace hv' := Tell2.outs hv' rfl); (obtain ⟨zl, rfl⟩ := hv'); (simp only [Act.put, List.setIfInBounds_toArray, List.set_cons_zero, List.set_cons_succ]))
      ((apply rel2_plain (hR := rfl) (hF := fun _ => trivial) (hg := rfl)); (focus ((intro w' hL'); (obtain ⟨hcS, hfS⟩ := gcell1 hL'); (go_simp); (try go_bits); (try (first | (rw [if_pos (by omega)]; done) | (rw [if_neg (by omega)]; done) | (rw [if_pos (by omega)]; go_simp) | (rw [if_neg (by omega)]; go_simp))); (first | with_reducible rfl | exact rfl | skip))); (simp only [Act.put, List.setIfInBounds_toArray, List.set_cons_zero, List.set_cons_succ]))
      refine rel2_nil ?_
      intro w6 hL6 hR6 hF6
      clear hF6
      have h6 := hP4.go hL6 hR6
      obtain ⟨hc, hf⟩ := gcell1 hL6
      go_wp2
      go_meet
      case rel => exact PSt.pR6 (j := 4) h6 hk (by omega) (by omega) (by omega)
    · go_wp2
      refine rel2_tail_b 15 [(9, IsArr 4, ArrIn g 4), (11, IsPick 4, NoFact), (13, IsInt, NoFact)] hR (by kernel_rfl) (by kernel_rfl) ?_
      simp only [List.take_succ_cons, List.take_zero, List.drop_succ_cons, List.drop_zero]
      iterate 9 ((apply rel2_plain (hR := rfl) (hF := fun _ => trivial) (hg := rfl)); (focus ((intro w' hL'); (obtain ⟨hcS, hfS⟩ := gcell1 hL'); (go_simp); (try go_bits); (try (first | (rw [if_pos (by omega)]; done) | (rw [if_neg (by omega)]; done) | (rw [if_pos (by omega)]; go_simp) | (rw [if_neg (by omega)]; go_simp))); (first | with_reducible rfl | exact rfl | skip))); (simp only [Act.put, List.setIfInBounds_toArray, List.set_cons_zero, List.set_cons_succ]))
      ((apply rel2_told (hR := rfl) (hg := rfl)); (focus ((refine ⟨.slice (some ⟨0, 0, none⟩) 4 4, ?_⟩); ((repeat (first | (refine Tell2.hits rfl ?_) | (refine Tell2.skips rfl ?_))); exact ⟨0, rfl⟩))); (focus ((intro w' M hL' hR' hM' hD'); (obtain ⟨hcS, hfS⟩ := gcell1 hL'); skip; (go_simp); (try go_bits); (try (first | (rw [if_pos (by omega)]; done) | (rw [if_neg (by omega)]; done) | (rw [if_pos (by omega)]; go_simp) | (rw [if_neg (by omega)]; go_simp))); (refine ⟨gr_alloc (GrownS.refl _ _) _, ?_, (hR'.a _).up (by omega)⟩; ((repeat (first | (refine Tell2.hit rfl ?_) | (refine Tell2.skip rfl ?_))); exact ⟨⟨_, rfl⟩, ArrIn.mk4 (by have := hL'.size; omega)⟩)))); (intro v' hv'); (replace hv' := Tell2.outs hv' rfl); (obtain ⟨ba, rfl⟩ := hv'); (simp only [Act.put, List.setIfInBounds_toArray, List.set_cons_zero, List.set_cons_succ]))
      ((apply rel2_plain (hR := rfl) (hF := fun _ => trivial) (hg := rfl)); (focus ((intro w' hL'); (obtain ⟨hcS, hfS⟩ := gcell1 hL'); (go_simp); (try go_bits); (try (first | (rw [if_pos (by omega)]; done) | (rw [if_neg (by omega)]; done) | (rw [if_pos (by omega)]; go_simp) | (rw [if_neg (by omega)]; go_simp))); (first | with_reducible rfl | exact rfl | skip))); (simp only [Act.put, List.setIfInBounds_toArray, List.set_cons_zero, List.set_cons_succ]))
      ((apply rel2_told (hR := rfl) (hg := rfl)); (focus ((refine ⟨.int .i64 0, ?_⟩); ((repeat (first | (refine Tell2.hits rfl ?_) | (refine Tell2.skips rfl ?_))); exact ⟨0, rfl, Int.le_refl _, .inr rfl⟩))); (focus ((intro w' M hL' hR' hM' hD'); (obtain ⟨hcS, hfS⟩ := gcell1 hL'); skip; (go_simp); (try go_bits); (try (first | (rw [if_pos (by omega)]; done) | (rw [if_neg (by omega)]; done) | (rw [if_pos (by omega)]; go_simp) | (rw [if_neg (by omega)]; go_simp))); ((go_at_call 69); (refine (spec_pick_c _ M _ _ hR' (by omega)).mono ?_); (rintro e w'' ⟨vp, rfl, h0, h1, hg, hr⟩); (refine ⟨_, rfl, hg, ?_, hr⟩); ((repeat (first | (refine Tell2.hit rfl ?_) | (refine Tell2.skip rfl ?_))); exact ⟨⟨vp, rfl, h0, h1⟩, trivial⟩)))); (intro v' hv'); (replace hv' := Tell2.outs hv' rfl); (obtain ⟨v1, rfl, hv0, hv1⟩ := hv'); (simp only [Act.put, List.setIfInBounds_toArray, List.set_cons_zero, List.set_cons_succ]))
      have hv2 := pk_lt hv1 (by omega)
      ((apply rel2_deps (hR := rfl) (hg := rfl)); (focus ((intro w' hL'); (obtain ⟨hcS, hfS⟩ := gcell1 hL'); (go_simp); (try go_bits); (try (first | (rw [if_pos (by omega)]; done) | (rw [if_neg (by omega)]; done) | (rw [if_pos (by omega)]; go_simp) | (rw [if_neg (by omega)]; go_simp))); (first | with_reducible rfl | exact rfl | skip))); (simp only [Act.put, List.setIfInBounds_toArray, List.set_cons_zero, List.set_cons_succ]))
      ((apply rel2_told (hR := rfl) (hg := rfl)); (focus ((refine ⟨.int .i64 0, ?_⟩); ((repeat (first | (refine Tell2.hits rfl ?_) | (refine Tell2.skips rfl ?_))); exact ⟨0, rfl⟩))); (focus ((intro w' M hL' hR' hM' hD'); (obtain ⟨hcS, hfS⟩ := gcell1 hL'); (obtain ⟨wk0, hlk0, hak⟩ := Known2.out (hD' ⟨12, .data⟩ (by simp) rfl ⟨9, .data⟩ (by simp) rfl) rfl; obtain ⟨zz, hzz⟩ := ArrIn.at_ hak hlk0 v1.toNat (by omega)); (go_simp); (try go_bits); (try (first | (rw [if_pos (by omega)]; done) | (rw [if_neg (by omega)]; done) | (rw [if_pos (by omega)]; go_simp) | (rw [if_neg (by omega)]; go_simp))); (refine ⟨GrownS.refl _ _, ?_, hR'.up (by omega)⟩; ((repeat (first | (refine Tell2.hit rfl ?_) | (refine Tell2.skip rfl ?_))); exact ⟨⟨_, rfl⟩, trivial⟩)))); (intro v' hv'); (replace hv' := Tell2.outs hv' rfl); (obtain ⟨zl, rfl⟩ := hv'); (simp only [Act.put, List.setIfInBounds_toArray, List.set_cons_zero, List.set_cons_succ]))
      ((apply rel2_plain (hR := rfl) (hF := fun _ => trivial) (hg := rfl)); (focus ((intro w' hL'); (obtain ⟨hcS, hfS⟩ := gcell1 hL'); (go_simp); (try go_bits); (try (first | (rw [if_pos (by omega)]; done) | (rw [if_neg (by omega)]; done) | (rw [if_pos (by omega)]; go_simp) | (rw [if_neg (by omega)]; go_simp))); (first | with_reducible rfl | exact rfl | skip))); (simp only [Act.put, List.setIfInBounds_toArray, List.set_cons_zero, List.set_cons_succ]))
      refine rel2_nil ?_
      intro w6 hL6 hR6 hF6
      clear hF6
      have h6 := hP4.go hL6 hR6
      obtain ⟨hc, hf⟩ := gcell1 hL6
      go_wp2
      go_meet
      case rel => exact PSt.pR6 (j := 5) h6 hk (by omega) (by omega) (by omega)
    · go_wp2
      refine rel2_tail_b 5 [(3, IsPick 3, NoFact)] hR (by kernel_rfl) (by kernel_rfl) ?_
      simp only [List.take_succ_cons, List.take_zero, List.drop_succ_cons, List.drop_zero]
      iterate 3 ((apply rel2_plain (hR := rfl) (hF := fun _ => trivial) (hg := rfl)); (focus ((intro w' hL'); (obtain ⟨hcS, hfS⟩ := gcell1 hL'); (go_simp); (try go_bits); (try (first | (rw [if_pos (by omega)]; done) | (rw [if_neg (by omega)]; done) | (rw [if_pos (by omega)]; go_simp) | (rw [if_neg (by omega)]; go_simp))); (first | with_reducible rfl | exact rfl | skip))); (simp only [Act.put, List.setIfInBounds_toArray, List.set_cons_zero, List.set_cons_succ]))
      ((apply rel2_told (hR := rfl) (hg := rfl)); (focus ((refine ⟨.int .i64 0, ?_⟩); ((repeat (first | (refine Tell2.hits rfl ?_) | (refine Tell2.skips rfl ?_))); exact ⟨0, rfl, Int.le_refl _, .inr rfl⟩))); (focus ((intro w' M hL' hR' hM' hD'); (obtain ⟨hcS, hfS⟩ := gcell1 hL'); skip; (go_simp); (try go_bits); (try (first | (rw [if_pos (by omega)]; done) | (rw [if_neg (by omega)]; done) | (rw [if_pos (by omega)]; go_simp) | (rw [if_neg (by omega)]; go_simp))); ((go_at_call 69); (refine (spec_pick_c _ M _ _ hR' (by omega)).mono ?_); (rintro e w'' ⟨vp, rfl, h0, h1, hg, hr⟩); (refine ⟨_, rfl, hg, ?_, hr⟩); ((repeat (first | (refine Tell2.hit rfl ?_) | (refine Tell2.skip rfl ?_))); exact ⟨⟨vp, rfl, h0, h1⟩, trivial⟩)))); (intro v' hv'); (replace hv' := Tell2.outs hv' rfl); (obtain ⟨v1, rfl, hv0, hv1⟩ := hv'); (simp only [Act.put, List.setIfInBounds_toArray, List.set_cons_zero, List.set_cons_succ]))
      ((apply rel2_plain (hR := rfl) (hF := fun _ => trivial) (hg := rfl)); (focus ((intro w' hL'); (obtain ⟨hcS, hfS⟩ := gcell1 hL'); (go_simp); (try go_bits); (try (first | (rw [if_pos (by omega)]; done) | (rw [if_neg (by omega)]; done) | (rw [if_pos (by omega)]; go_simp) | (rw [if_neg (by omega)]; go_simp))); (first | with_reducible rfl | exact rfl | skip))); (simp only [Act.put, List.setIfInBounds_toArray, List.set_cons_zero, List.set_cons_succ]))
      refine rel2_nil ?_
      intro w6 hL6 hR6 hF6
      clear hF6
      have h6 := hP4.go hL6 hR6
      obtain ⟨hc, hf⟩ := gcell1 hL6
      go_wp2
      go_meet
      case rel => exact (h6.pF _).pf (by omega) (by omega)
    · go_wp2
      refine rel2_tail_b 7 [(2, IsArr 4, ArrIn g 4), (4, IsPick 4, NoFact), (6, IsInt, NoFact)] hR (by kernel_rfl) (by kernel_rfl) ?_
      simp only [List.take_succ_cons, List.take_zero, List.drop_succ_cons, List.drop_zero]
      iterate 2 ((apply rel2_plain (hR := rfl) (hF := fun _ => trivial) (hg := rfl)); (focus ((intro w' hL'); (obtain ⟨hcS, hfS⟩ := gcell1 hL'); (go_simp); (try go_bits); (try (first | (rw [if_pos (by omega)]; done) | (rw [if_neg (by omega)]; done) | (rw [if_pos (by omega)]; go_simp) | (rw [if_neg (by omega)]; go_simp))); (first | with_reducible rfl | exact rfl | skip))); (simp only [Act.put, List.setIfInBounds_toArray, List.set_cons_zero, List.set_cons_succ]))
      ((apply rel2_told (hR := rfl) (hg := rfl)); (focus ((refine ⟨.slice (some ⟨0, 0, none⟩) 4 4, ?_⟩); ((repeat (first | (refine Tell2.hits rfl ?_) | (refine Tell2.skips rfl ?_))); exact ⟨0, rfl⟩))); (focus ((intro w' M hL' hR' hM' hD'); (obtain ⟨hcS, hfS⟩ := gcell1 hL'); skip; (go_simp); (try go_bits); (try (first | (rw [if_pos (by omega)]; done) | (rw [if_neg (by omega)]; done) | (rw [if_pos (by omega)]; go_simp) | (rw [if_neg (by omega)]; go_simp))); (refine ⟨gr_alloc (GrownS.refl _ _) _, ?_, (hR'.a _).up (by omega)⟩; ((repeat (first | (refine Tell2.hit rfl ?_) | (refine Tell2.skip rfl ?_))); exact ⟨⟨_, rfl⟩, ArrIn.mk4 (by have := hL'.size; omega)⟩)))); (intro v' hv'); (replace hv' := Tell2.outs hv' rfl); (obtain ⟨ba, rfl⟩ := hv'); (simp only [Act.put, List.setIfInBounds_toArray, List.set_cons_zero, List.set_cons_succ]))
      ((apply rel2_plain (hR := rfl) (hF := fun _ => trivial) (hg := rfl)); (focus ((intro w' hL'); (obtain ⟨hcS, hfS⟩ := gcell1 hL'); (go_simp); (try go_bits); (try (first | (rw [if_pos (by omega)]; done) | (rw [if_neg (by omega)]; done) | (rw [if_pos (by omega)]; go_simp) | (rw [if_neg (by omega)]; go_simp))); (first | with_reducible rfl | exact rfl | skip))); (simp only [Act.put, List.setIfInBounds_toArray, List.set_cons_zero, List.set_cons_succ]))
      ((apply rel2_told (hR := rfl) (hg := rfl)); (focus ((refine ⟨.int .i64 0, ?_⟩); ((repeat (first | (refine Tell2.hits rfl ?_) | (refine Tell2.skips rfl ?_))); exact ⟨0, rfl, Int.le_refl _, .inr rfl⟩))); (focus ((intro w' M hL' hR' hM' hD'); (obtain ⟨hcS, hfS⟩ := gcell1 hL'); skip; (go_simp); (try go_bits); (try (first | (rw [if_pos (by omega)]; done) | (rw [if_neg (by omega)]; done) | (rw [if_pos (by omega)]; go_simp) | (rw [if_neg (by omega)]; go_simp))); ((go_at_call 69); (refine (spec_pick_c _ M _ _ hR' (by omega)).mono ?_); (rintro e w'' ⟨vp, rfl, h0, h1, hg, hr⟩); (refine ⟨_, rfl, hg, ?_, hr⟩); ((repeat (first | (refine Tell2.hit rfl ?_) | (refine Tell2.skip rfl ?_))); exact ⟨⟨vp, rfl, h0, h1⟩, trivial⟩)))); (intro v' hv'); (replace hv' := Tell2.outs hv' rfl); (obtain ⟨v1, rfl, hv0, hv1⟩ := hv'); (simp only [Act.put, List.setIfInBounds_toArray, List.set_cons_zero, List.set_cons_succ]))
      have hv2 := pk_lt hv1 (by omega)
      ((apply rel2_deps (hR := rfl) (hg := rfl)); (focus ((intro w' hL'); (obtain ⟨hcS, hfS⟩ := gcell1 hL'); (go_simp); (try go_bits); (try (first | (rw [if_pos (by omega)]; done) | (rw [if_neg (by omega)]; done) | (rw [if_pos (by omega)]; go_simp) | (rw [if_neg (by omega)]; go_simp))); (first | with_reducible rfl | exact rfl | skip))); (simp only [Act.put, List.setIfInBounds_toArray, List.set_cons_zero, List.set_cons_succ]))
      ((apply rel2_told (hR := rfl) (hg := rfl)); (focus ((refine ⟨.int .i64 0, ?_⟩); ((repeat (first | (refine Tell2.hits rfl ?_) | (refine Tell2.skips rfl ?_))); exact ⟨0, rfl⟩))); (focus ((intro w' M hL' hR' hM' hD'); (obtain ⟨hcS, hfS⟩ := gcell1 hL'); (obtain ⟨wk0, hlk0, hak⟩ := Known2.out (hD' ⟨5, .data⟩ (by simp) rfl ⟨2, .data⟩ (by simp) rfl) rfl; obtain ⟨zz, hzz⟩ := ArrIn.at_ hak hlk0 v1.toNat (by omega)); (go_simp); (try go_bits); (try (first | (rw [if_pos (by omega)]; done) | (rw [if_neg (by omega)]; done) | (rw [if_pos (by omega)]; go_simp) | (rw [if_neg (by omega)]; go_simp))); (refine ⟨GrownS.refl _ _, ?_, hR'.up (by omega)⟩; ((repeat (first | (refine Tell2.hit rfl ?_) | (refine Tell2.skip rfl ?_))); exact ⟨⟨_, rfl⟩, trivial⟩)))); (intro v' hv'); (replace hv' := Tell2.outs hv' rfl); (obtain ⟨zl, rfl⟩ := hv'); (simp only [Act.put, List.setIfInBounds_toArray, List.set_cons_zero, List.set_cons_succ]))
      refine rel2_nil ?_
      intro w6 hL6 hR6 hF6
      clear hF6
      have h6 := hP4.go hL6 hR6
      obtain ⟨hc, hf⟩ := gcell1 hL6
      go_wp2
      go_meet
      case rel => exact (h6.pB _).pf (by omega) (by omega)
    · have hcap := (hP4.row.rd_at stepE rfl).cap
      go_wp2
      go_meet
      case rel =>
        have hT := hP4.pT (k := k) (by omega)
        have hkl : (p.steps.take k).length = k := by rw [List.length_take]; omega
        exact ⟨_, _, _, _, p.steps.take k, _, _, by omega, by rw [hkl]; exact hT.up (by omega)⟩
    · have hlP := hP4.lt
      go_wp2
      go_loopw [7] (fun s wr => ∃ (A : Option Addr) (c : Nat) (xs : List LL.Step), 1 ≤ xs.length ∧ xs.length ≤ 41 ∧ PSt w g (w.heap.size + 1) bp p.q p.s (.slice A xs.length c) xs p.fr p.by_ (N + 1 + 1 + 7 * xs.length) wr) (fun _ wr => 42 - lenOf (wr.cell? ⟨bp, 2, none⟩))
      case atStart => exact ⟨_, c2, p.steps, by omega, by omega, hP4.up (by omega)⟩
      case round =>
        obtain ⟨A5, c5, xs, hx1, hx2, h5⟩ := hrel
        clear hP4 hR e0 f0 l0 d0 d1 d2 d3 d4 d5 d6 fa la la1 lb1
        obtain ⟨m, hm⟩ : ∃ m, xs.length = m + 1 := ⟨xs.length - 1, by omega⟩
        rw [hm] at h5
        obtain ⟨a5, rfl⟩ := h5.row.someA (by omega)
        have hR := h5.rd
        obtain ⟨e0, f0, l0⟩ := h5.kP.cells
        obtain ⟨d0, d1, d2, d3, d4, d5, d6⟩ := (h5.row.rd_at stepE hm).S7 m (by omega)
        simp only [Nat.zero_add] at d0 d1 d2 d3 d4 d5 d6
        have la := h5.row.lt1 a5 rfl
        have na5 : a5 ≠ g := by have := h5.fr a5 rfl; omega
        generalize LL.nth xs m = z5 at d0 d1 d2 d3 d4 d5 d6
        have hW5 := h5.gr.size
        go_wp2
        refine rel2_tail_b 6 [(4, IsPick 2, NoFact)] hR (by kernel_rfl) (by kernel_rfl) ?_
        simp only [List.take_succ_cons, List.take_zero, List.drop_succ_cons, List.drop_zero]
        iterate 4 ((apply rel2_plain (hR := rfl) (hF := fun _ => trivial) (hg := rfl)); (focus ((intro w' hL'); (obtain ⟨hcS, hfS⟩ := gcell1 hL'); (go_simp); (try go_bits); (try (first | (rw [if_pos (by omega)]; done) | (rw [if_neg (by omega)]; done) | (rw [if_pos (by omega)]; go_simp) | (rw [if_neg (by omega)]; go_simp))); (first | with_reducible rfl | exact rfl | skip))); (simp only [Act.put, List.setIfInBounds_toArray, List.set_cons_zero, List.set_cons_succ]))
        ((apply rel2_told (hR := rfl) (hg := rfl)); (focus ((refine ⟨.int .i64 0, ?_⟩); ((repeat (first | (refine Tell2.hits rfl ?_) | (refine Tell2.skips rfl ?_))); exact ⟨0, rfl, Int.le_refl _, .inr rfl⟩))); (focus ((intro w' M hL' hR' hM' hD'); (obtain ⟨hcS, hfS⟩ := gcell1 hL'); skip; (go_simp); (try go_bits); (try (first | (rw [if_pos (by omega)]; done) | (rw [if_neg (by omega)]; done) | (rw [if_pos (by omega)]; go_simp) | (rw [if_neg (by omega)]; go_simp))); ((go_at_call 69); (refine (spec_pick_c _ M _ _ hR' (by omega)).mono ?_); (rintro e w'' ⟨vp, rfl, h0, h1, hg, hr⟩); (refine ⟨_, rfl, hg, ?_, hr⟩); ((repeat (first | (refine Tell2.hit rfl ?_) | (refine Tell2.skip rfl ?_))); exact ⟨⟨vp, rfl, h0, h1⟩, trivial⟩)))); (intro v' hv'); (replace hv' := Tell2.outs hv' rfl); (obtain ⟨v1, rfl, hv0, hv1⟩ := hv'); (simp only [Act.put, List.setIfInBounds_toArray, List.set_cons_zero, List.set_cons_succ]))
        ((apply rel2_plain (hR := rfl) (hF := fun _ => trivial) (hg := rfl)); (focus ((intro w' hL'); (obtain ⟨hcS, hfS⟩ := gcell1 hL'); (go_simp); (try go_bits); (try (first | (rw [if_pos (by omega)]; done) | (rw [if_neg (by omega)]; done) | (rw [if_pos (by omega)]; go_simp) | (rw [if_neg (by omega)]; go_simp))); (first | with_reducible rfl | exact rfl | skip))); (simp only [Act.put, List.setIfInBounds_toArray, List.set_cons_zero, List.set_cons_succ]))
        refine rel2_nil ?_
        intro w6 hL6 hR6 hF6
        clear hF6
        have h6 := h5.go hL6 hR6
        have hz6 := hL6.size
        have r6 := h6.row.lt1
        have n6 : w6.heap.size ≠ g := by omega
        have r6' : ∀ j, (Value.slice (some ⟨a5, 0, none⟩) (m + 1) c5).ownBlock = some j → j ≠ w6.heap.size := fun j hj => by have := r6 j hj; omega
        have b6 := blk_lt h6.kP.at_
        replace r6' := Lib.hid r6'
        clear r6
        obtain ⟨hc, hf⟩ := gcell1 hL6
        by_cases hlm : ((m : Int) + 1 < 40 + v1)
        · go_upto_if 161 with fail
          have hs6 : Blk (w6.alloc (.cells #[.int .i64 z5.x, .int .i64 z5.y, .int .i64 z5.lo, .int .i64 z5.hi, .int .i64 z5.fr, .int .i64 z5.by_, .bool z5.hold] 79)) w6.heap.size #[.int .i64 z5.x, .int .i64 z5.y, .int .i64 z5.lo, .int .i64 z5.hi, .int .i64 z5.fr, .int .i64 z5.by_, .bool z5.hold] 79 := Blk.new _ _ _
          have h7 := h6.al (.cells #[.int .i64 z5.x, .int .i64 z5.y, .int .i64 z5.lo, .int .i64 z5.hi, .int .i64 z5.fr, .int .i64 z5.by_, .bool z5.hold] 79)
          go_cut [7] (fun v7 wc => v7 = .pointer (some ⟨w6.heap.size, 0, none⟩) ∧ (∃ x0, Blk wc w6.heap.size #[.int .i64 x0, .int .i64 z5.y, .int .i64 z5.lo, .int .i64 z5.hi, .int .i64 z5.fr, .int .i64 z5.by_, .bool z5.hold] 79) ∧ PSt w g (w.heap.size + 1) bp p.q p.s (.slice (some ⟨a5, 0, none⟩) (m + 1) c5) xs p.fr p.by_ (N + 1 + 1 + 7 * (m + 2)) wc)
          case first =>
            clear hc hf
            go_wp2
            · go_meet
              case rel => exact ⟨rfl, ⟨_, Blk.new _ _ _⟩, (h6.al _).up (by omega)⟩
            · go_meet
              case rel => exact ⟨rfl, ⟨_, Blk.new _ _ _⟩, (h6.al _).up (by omega)⟩
          obtain ⟨rfl, ⟨x0, kS⟩, h8⟩ := hcut
          clear hc hf hs6 h7 h6 hL6
          have kP8 := h8.kP
          obtain ⟨e5, f5, l5⟩ := kS.cells
          obtain ⟨e6, f6, l6⟩ := kP8.cells
          have nq : (Value.slice (some ⟨a5, 0, none⟩) (m + 1) c5).ownBlock ≠ some bp := fun e => h8.row.neB2 kP8 (by decide) _ e rfl
          generalize w6.heap.size = bs at *
          go_wp2_with ((at_builtin; go_loud (refine wp_app (bytes := 56) (e := 79) rfl _ _ _ rfl stepE (.agg (stepC LL.z0).toArray) Try.underlying41 (by kernel_rfl) rfl (by decide) (v := (.slice (some ⟨a5, 0, none⟩) (m + 1) c5)) rfl (h8.row.a _) rfl (Rd.one (x := (⟨x0, z5.y, z5.lo, z5.hi, z5.fr, z5.by_, z5.hold⟩ : LL.Step)) (Blk.new _ _ _) rfl (by decide)) (by omega) ?_); intro v7 w7 hO7 hg7 hat7); obtain ⟨A7, c7, e9, -⟩ := hO7.rd stepE; rw [show (xs ++ [(⟨x0, z5.y, z5.lo, z5.hi, z5.fr, z5.by_, z5.hold⟩ : LL.Step)]).length = m + 2 by simp [hm]] at e9; subst e9; have kP7 := (kP8.a (.cells #[.int .i64 x0, .int .i64 z5.y, .int .i64 z5.lo, .int .i64 z5.hi, .int .i64 z5.fr, .int .i64 z5.by_, .bool z5.hold] 79)).grown hg7 nq; obtain ⟨e7, f7, l7⟩ := kP7.cells)
          have h9 := (h8.al _).app hO7 hg7 hat7
          have hl9 : (xs ++ [(⟨x0, z5.y, z5.lo, z5.hi, z5.fr, z5.by_, z5.hold⟩ : LL.Step)]).length = m + 2 := by simp [hm]
          have m9 := h9.kP.cells.1 2
          have m5 := h5.kP.cells.1 2
          go_roundw
          case rel => exact ⟨A7, c7, xs ++ [(⟨x0, z5.y, z5.lo, z5.hi, z5.fr, z5.by_, z5.hold⟩ : LL.Step)], by omega, by omega, by rw [hl9]; exact h9⟩
          case measure =>
            rw [m9, m5]
            simp [lenOf]
            omega
        · go_wp2
          go_meet
          case rel => exact ⟨_, _, _, _, xs, _, _, by omega, by rw [hm]; exact h6.up (by omega)⟩
    · go_wp2
      go_region
      all_goals (try simp only [List.getElem_toArray, List.getElem_cons_succ, List.getElem_cons_zero, Act.put, List.setIfInBounds_toArray, List.set_cons_zero, List.set_cons_succ])
      all_goals go_wp2
      all_goals (go_meet; case rel => (refine PF.dr (PSt.pR7 (M := N + 400) (q := p.q) (s := p.s) (fr := p.fr) (by_ := p.by_) (c := c2) (xs := p.steps) (N := N + 1 + 1) ?_ hk (by omega) (by omega)); exact (by repeat' (first | with_reducible assumption | with_reducible refine PSt.al ?_ _ | with_reducible refine PSt.dr ?_ | with_reducible refine PSt.go ?_ (by with_reducible assumption) (by with_reducible assumption)))))
    · clear e0 f0 l0 d0 d1 d2 d3 d4 d5 d6
      have hP5 := hP4
      clear hP4
      generalize hm : p.steps.length = L at *
      obtain ⟨m, rfl⟩ : ∃ m, L = m + 1 := ⟨L - 1, by omega⟩
      obtain ⟨e0, f0, l0⟩ := hP5.kP.cells
      obtain ⟨d0, d1, d2, d3, d4, d5, d6⟩ := (hP5.row.rd_at stepE hm).S7 m (by omega)
      simp only [Nat.zero_add] at d0 d1 d2 d3 d4 d5 d6
      generalize LL.nth p.steps m = z5 at d0 d1 d2 d3 d4 d5 d6
      have hl9 : (p.steps ++ [z5]).length = m + 2 := by simp [hm]
      replace hm := Lib.hid hm
      replace hl9 := Lib.hid hl9
      go_wp2
      have nq : (Value.slice (some ⟨a, 0, none⟩) (m + 1) c2).ownBlock ≠ some bp := fun e => hP5.row.neB2 hP5.kP (by decide) _ e rfl
      refine rel_tail_b 11 [(10, fun v W => ∃ g2, v = .slice (some ⟨g2, 0, none⟩) 1 1 ∧ Blk W g2 (stepC z5).toArray 79)] (by kernel_rfl) (by kernel_rfl) ?_
      simp only [List.take_succ_cons, List.take_zero, List.drop_succ_cons, List.drop_zero]
      iterate 10 ((apply rel_plain (hR := rfl) (hF := fun _ => trivial) (hg := rfl)); (focus ((intro w' hL'); (obtain ⟨hcS, hfS, hlS⟩ := bcell hL'); (try simp only [World.size_setCell, World.size_alloc, World.size_drew] at hcS hfS hlS); (go_simp); (try go_bits); (try (first | (rw [if_pos (by omega)]; done) | (rw [if_neg (by omega)]; done) | (rw [if_pos (by omega)]; go_simp) | (rw [if_neg (by omega)]; go_simp))); (first | with_reducible rfl | exact rfl | skip))); (simp only [Act.put, List.setIfInBounds_toArray, List.set_cons_zero, List.set_cons_succ]))
      ((apply rel_told (hR := rfl) (hg := rfl)); (focus ((intro w' hL' hD'); (obtain ⟨hcS, hfS, hlS⟩ := bcell hL'); (try simp only [World.size_setCell, World.size_alloc, World.size_drew] at hcS hfS hlS); (go_simp); (try go_bits); (try (first | (rw [if_pos (by omega)]; done) | (rw [if_neg (by omega)]; done) | (rw [if_pos (by omega)]; go_simp) | (rw [if_neg (by omega)]; go_simp))); (refine ⟨b_alloc (Below.refl _ _) _, ?_⟩; ((repeat (first | (refine Tell.hit rfl ?_) | (refine Tell.skip rfl ?_))); exact ⟨_, rfl, Blk.new _ _ _⟩)))); (intro v' w0' hv'); (replace hv' := Tell.out hv' rfl); (obtain ⟨g2, rfl, -⟩ := hv'); (simp only [Act.put, List.setIfInBounds_toArray, List.set_cons_zero, List.set_cons_succ]))
      refine rel_nil ?_
      intro W9 hL9 hF9
      obtain ⟨w0, hl0, g', hg', kG⟩ := Known.out (hF9 10) rfl
      injection hg' with hg'
      injection hg' with hg'
      cases hg'
      replace kG := kG.b hl0
      clear hF9 hl0
      have h9 := hP5.bl hL9
      have kP9 := h9.kP
      obtain ⟨e6, f6, l6⟩ := kP9.cells
      go_wp2_with (at_builtin; go_loud (refine wp_app (bytes := 56) (e := 79) rfl _ _ _ rfl stepE (.agg (stepC LL.z0).toArray) Try.underlying41 (by kernel_rfl) rfl (by decide) (v := (.slice (some ⟨a, 0, none⟩) (m + 1) c2)) rfl h9.row rfl (Rd.one (x := z5) kG rfl (by decide)) (by have := hm.out; omega) ?_); intro v7 w7 hO7 hg7 hat7; obtain ⟨A7, c7, e9, -⟩ := hO7.rd stepE; rw [hl9.out] at e9; subst e9; have kP7 := kP9.grown hg7 nq; obtain ⟨e7, f7, l7⟩ := kP7.cells)
      have h10 := h9.app hO7 hg7 hat7
      go_meet
      case rel => exact ⟨_, _, A7, c7, p.steps ++ [z5], _, _, by rw [hl9.out]; have := hm.out; omega, by rw [hl9.out]; exact h10.up (by omega)⟩
  obtain ⟨q, s, A5, c5, xs, fr, by_, hl, h5⟩ := hcut
  clear hP4
  have hl3 := h5.lt
  have nR := h5.row.neB2 h5.kR (by decide)
  have hO5 := h5.row
  have hfr := h5.fr
  have hG5 := h5.gr
  have hR5 := h5.rd
  obtain ⟨e5, f5, l5⟩ := h5.kR.cells
  obtain ⟨e6, f6, l6⟩ := h5.kP.cells
  clear h5
  replace nR := Lib.hid nR
  replace hfr := Lib.hid hfr
  go_wp2
  (refine bodyPost_ret (res_c rfl _ [.int .i64 q, .int .i64 s, .slice A5 xs.length c5, .int .i64 fr, .int .i64 by_] rfl _ Try.underlying43 rfl (by kernel_rfl) (by simp only [CellsAt, and_true]; and_intros <;> go_simp)) rfl ?_)
  have nR' := nR.out
  refine ⟨⟨q, s, xs, fr, by_⟩, A5, c5, rfl, hl, ?_, hfr.out, (by repeat' (first | with_reducible exact GrownS.refl _ _ | with_reducible assumption | with_reducible refine gr_alloc ?_ _ | with_reducible refine gr_drew ?_ | with_reducible refine gr_s1 ?_ (by omega) _ _ | with_reducible refine GrownS.trans ?_ (by with_reducible assumption) | with_reducible refine gr_b ?_ (by with_reducible assumption))), Rdr.up (N := N + 400) (by repeat' (first | with_reducible assumption | with_reducible refine Rdr.a ?_ _ | with_reducible refine Rdr.d ?_ | with_reducible refine Rdr.s1 ?_ (by omega) _ _ | with_reducible refine Rdr.b ?_ (by with_reducible assumption))) (by omega)⟩
  exact (by repeat' (first | with_reducible assumption | with_reducible refine Own.s ?_ _ (fun k hk => by have := nR' k hk; (try simp only); omega) | with_reducible refine Own.a ?_ _ | with_reducible refine Own.d ?_ | with_reducible refine Own.dN ?_ _ | with_reducible refine Own.b ?_ (by with_reducible assumption)))
theorem l10Spoil_mono {Q : Ending → World → Prop} {g N : Nat} {w : World} {p : LL.Path} {A : Option Addr} {c : Nat} (hS : RdS w A p.steps.length c p.steps) (h1 : 1 ≤ p.steps.length) (h40 : p.steps.length ≤ 40) (hr : Rdr 121 w g N) (hN : N ≤ 100000) (hk : ∀ (p : LL.Path) (A : Option Addr) (c : Nat) (w' : World), p.steps.length ≤ 60 → Own stepC 7 56 79 w' (.slice A p.steps.length c) p.steps → (∀ j, (Value.slice A p.steps.length c).ownBlock = some j → w.heap.size ≤ j) → GrownS w w' (fun k => k = g) → Rdr 121 w' g (N + 500) → Q (.returned (.agg #[.int .i64 p.q, .int .i64 p.s, .slice A p.steps.length c, .int .i64 p.fr, .int .i64 p.by_])) w') : Calls Try.prog 94 #[.pointer (some ⟨g, 0, none⟩), .agg #[.int .i64 p.q, .int .i64 p.s, .slice A p.steps.length c, .int .i64 p.fr, .int .i64 p.by_]] w Q :=
  (spec_l10Spoil_c g N p A c w hr hN h1 h40 hS).mono fun e w' ⟨p, A, c, he, h2, h3, h4, h5, h6⟩ => by subst he; exact hk p A c w' h2 h3 h4 h5 h6
end Go.Proofs.Ytpeojnknfonmlaa
