/- What is drawn: a path that shares the first steps of another one. -/
import Derived.Test.YtpeojnknfonmlaaRF
set_option linter.unusedVariables false
set_option linter.unusedSimpArgs false
namespace Go.Proofs.Ytpeojnknfonmlaa
open Go.RowKit
set_option maxRecDepth 100000 in
set_option maxHeartbeats 8000000 in
theorem spec_l10Other_c (g N : Nat) (p : LL.Path) (A : Option Addr) (c : Nat) (w : World) (hr : Rdr 121 w g N) (hN : N ≤ 90000) (h60 : p.steps.length ≤ 60) (hO : Own stepC 7 56 79 w (.slice A p.steps.length c) p.steps) (hne : ∀ j, (Value.slice A p.steps.length c).ownBlock = some j → j ≠ g) : Calls Try.prog 93 #[.pointer (some ⟨g, 0, none⟩), .agg #[.int .i64 p.q, .int .i64 p.s, .slice A p.steps.length c, .int .i64 p.fr, .int .i64 p.by_]] w fun e w' => ∃ (p : LL.Path) (A : Option Addr) (c : Nat), e = .returned (.agg #[.int .i64 p.q, .int .i64 p.s, .slice A p.steps.length c, .int .i64 p.fr, .int .i64 p.by_]) ∧ p.steps.length ≤ 60 ∧ Own stepC 7 56 79 w' (.slice A p.steps.length c) p.steps ∧ (∀ j, (Value.slice A p.steps.length c).ownBlock = some j → w.heap.size ≤ j) ∧ GrownS w w' (fun k => k = g) ∧ Rdr 121 w' g (N + 3100) := by
  have hlt := hr.lt
  have n0 : w.heap.size ≠ g := by omega
  have n1 : w.heap.size + 1 ≠ g := by omega
  replace hne := Lib.hid hne
  go_enter Try.func93, Try.ntmps93
  by_cases hpos : ¬ 0 < p.steps.length
  · have hn' : ((p.steps.length : Int) == 0) = true := by have h0 : (p.steps.length : Int) = 0 := by omega
                                                          rw [h0]; rfl
    have kR := (Blk.new' (w := w.alloc (.cells #[.int .i64 p.q, .int .i64 p.s, .slice A p.steps.length c, .int .i64 p.fr, .int .i64 p.by_] 43)) (g := w.heap.size + 1) #[.int .i64 0, .int .i64 0, .slice none 0 0, .int .i64 0, .int .i64 0] 43 (by simp))
    have hG0 : GrownS w ((w.alloc (.cells #[.int .i64 p.q, .int .i64 p.s, .slice A p.steps.length c, .int .i64 p.fr, .int .i64 p.by_] 43)).alloc (.cells #[.int .i64 0, .int .i64 0, .slice none 0 0, .int .i64 0, .int .i64 0] 43)) (fun k => k = g) := (by repeat' (first | with_reducible exact GrownS.refl _ _ | with_reducible assumption | with_reducible refine gr_alloc ?_ _ | with_reducible refine gr_drew ?_ | with_reducible refine gr_s1 ?_ (by omega) _ _ | with_reducible refine GrownS.trans ?_ (by with_reducible assumption) | with_reducible refine gr_b ?_ (by with_reducible assumption)))
    go_wp2_with (go_at_call 95; (refine l10Path_mono (N := N) (by repeat' (first | with_reducible assumption | with_reducible refine Rdr.a ?_ _ | with_reducible refine Rdr.d ?_ | with_reducible refine Rdr.s1 ?_ (by omega) _ _ | with_reducible refine Rdr.b ?_ (by with_reducible assumption))) (by omega) ?_); intro q B d w3 hp1 hp2 hO3 hfr3 hg3 hr3; have kR3 := kR.g1 hg3 n1; obtain ⟨e0, f0, l0⟩ := kR3.cells; have hnR := hO3.neB2 kR3 (by decide); replace hnR := Lib.hid hnR; have hG3 := hG0.trans hg3; (simp only [World.size_alloc] at hfr3))
    (refine bodyPost_ret (res_c rfl _ [.int .i64 q.q, .int .i64 q.s, .slice B q.steps.length d, .int .i64 q.fr, .int .i64 q.by_] rfl _ Try.underlying43 rfl (by kernel_rfl) (by simp only [CellsAt, and_true]; and_intros <;> go_simp)) rfl ?_)
    have hnR6 := hnR.out
    refine ⟨q, B, d, rfl, by omega, ?_, fun j hj => by have := hfr3 j hj; omega, (by repeat' (first | with_reducible exact GrownS.refl _ _ | with_reducible assumption | with_reducible refine gr_alloc ?_ _ | with_reducible refine gr_drew ?_ | with_reducible refine gr_s1 ?_ (by omega) _ _ | with_reducible refine GrownS.trans ?_ (by with_reducible assumption) | with_reducible refine gr_b ?_ (by with_reducible assumption))), Rdr.up (N := N + 3000) (by repeat' (first | with_reducible assumption | with_reducible refine Rdr.a ?_ _ | with_reducible refine Rdr.d ?_ | with_reducible refine Rdr.s1 ?_ (by omega) _ _ | with_reducible refine Rdr.b ?_ (by with_reducible assumption))) (by omega)⟩
    exact (by repeat' (first | with_reducible assumption | with_reducible refine Own.s ?_ _ (fun k hk => by have := hnR6 k hk; (try simp only); omega) | with_reducible refine Own.a ?_ _ | with_reducible refine Own.d ?_ | with_reducible refine Own.dN ?_ _ | with_reducible refine Own.b ?_ (by with_reducible assumption)))
  · replace hpos : 0 < p.steps.length := by omega
    go_upto_region 4 with ((go_at_call 69; (refine pick_mono (N := ?_) ?_ ?_ ?_); (rotate_left); (focus (exact (by repeat' (first | with_reducible assumption | with_reducible refine Rdr.a ?_ _ | with_reducible refine Rdr.d ?_ | with_reducible refine Rdr.s1 ?_ (by omega) _ _ | with_reducible refine Rdr.b ?_ (by with_reducible assumption))))); (focus omega); intro v1 w3 hv0 hv1 hg1 hr1; obtain ⟨hc, hf⟩ := gcell1 hg1; (try simp only [World.size_drew] at hc hf); have hz := hg1.size; (try simp only [World.size_setCell, World.size_alloc, World.size_drew] at hz); have yw3_0 : w.heap.size < w3.heap.size := (by omega)); (try have hv2 := pk_lt hv1 (by omega)))
    obtain ⟨k, rfl⟩ : ∃ k : Nat, v1 = k := ⟨v1.toNat, by omega⟩
    have hk : k < p.steps.length := by omega
    have hS3 : RdS w3 A p.steps.length c p.steps := Own.rd_at' (e := 79) (((hO.a _).a _).gS hg1 (fun j hj e => hne.out j hj e)) stepE
    have kR3 : Blk w3 (w.heap.size + 1) #[.int .i64 0, .int .i64 0, .slice none 0 0, .int .i64 0, .int .i64 0] 43 := (Blk.new' (w := w.alloc (.cells #[.int .i64 p.q, .int .i64 p.s, .slice A p.steps.length c, .int .i64 p.fr, .int .i64 p.by_] 43)) (g := w.heap.size + 1) #[.int .i64 0, .int .i64 0, .slice none 0 0, .int .i64 0, .int .i64 0] 43 (by simp)).g1 hg1 n1
    have hG3 : GrownS w w3 (fun k => k = g) := gr_alloc (gr_alloc (GrownS.refl _ _) _) _ |>.trans hg1
    have hR3 := hr1
    go_upto_region 5 with (go_at_call 73; go_loud (refine (spec_l2Copy_c p A c _ (by exact Rd.mono (by with_reducible assumption) (by repeat' (first | with_reducible exact Below.refl _ _ | with_reducible assumption | with_reducible refine b_alloc ?_ _ | with_reducible refine b_drewN ?_ _ | with_reducible refine b_drew ?_ | with_reducible refine b_set ?_ (by first | (simp only [World.size_setCell, World.size_alloc, World.size_drew]; omega) | (simp; done) | (simp; omega)) _ | with_reducible refine b_step ?_ (by with_reducible assumption))))).mono ?_); intro e w4 hM; obtain ⟨A2, c2, rfl, hO2, hOg2, hB2⟩ := hM.gop)
    have hz4 := hB2.size
    have hP : PSt w g (w.heap.size + 1) w4.heap.size p.q p.s (.slice A2 p.steps.length c2) p.steps p.fr p.by_ (N + 1) (w4.alloc (.cells #[.int .i64 p.q, .int .i64 p.s, .slice A2 p.steps.length c2, .int .i64 p.fr, .int .i64 p.by_] 43)) :=
      ⟨gr_alloc (gr_b hG3 hB2) _, (hR3.b hB2).a _, (kR3.b hB2).a _, Blk.new _ _ _, hO2.a _, fun j hj => by have := hOg2 j hj; omega, by omega⟩
    refine wp_name (fun W => PSt w g (w.heap.size + 1) w4.heap.size p.q p.s (.slice A2 p.steps.length c2) p.steps p.fr p.by_ (N + 1) W) hP ?_
    clear hO2 hOg2 hB2 hP hS3 kR3 hG3 hR3 hc hf hg1 hr1 hv0 hv1 hv2
    rintro W hP
    generalize w4.heap.size = bp at *
    have hR := hP.rd
    go_upto_block 0 with ((go_at_call 69; (refine pick_mono (N := ?_) ?_ ?_ ?_); (rotate_left); (focus (exact (by repeat' (first | with_reducible assumption | with_reducible refine Rdr.a ?_ _ | with_reducible refine Rdr.d ?_ | with_reducible refine Rdr.s1 ?_ (by omega) _ _ | with_reducible refine Rdr.b ?_ (by with_reducible assumption))))); (focus omega); intro v1 w5 hv0 hv1 hg1 hr1; obtain ⟨hc, hf⟩ := gcell1 hg1; (try simp only [World.size_drew] at hc hf); have hz := hg1.size; (try simp only [World.size_setCell, World.size_alloc, World.size_drew] at hz); skip); (try have hv2 := pk_lt hv1 (by omega)))
    have hP4 := hP.go hg1 hr1
    clear hg1 hr1 hc hf hP hR
    go_cut [] (fun wc => PF w g (w.heap.size + 1) bp (N + 2600) wc)
    case first =>
      by_cases hv0' : v1 = 0
      · subst hv0'
        go_wp2
        go_loopw [7] (fun ii wr => ∃ (i : Nat) (A : Option Addr) (c : Nat) (xs : List LL.Step), ii = .int .i64 i ∧ xs.length = p.steps.length ∧ i ≤ p.steps.length ∧ PSt w g (w.heap.size + 1) bp p.q p.s (.slice A xs.length c) xs p.fr p.by_ (N + 3 + 20 * i) wr) (fun ii _ => p.steps.length - (intOf ii).toNat)
        case atStart => exact ⟨k, _, _, p.steps, rfl, rfl, by omega, hP4.up (by omega)⟩
        case round =>
          obtain ⟨i, A, c, xs, rfl, hxl, hi, h5⟩ := hrel
          clear hP4
          have hxl0 := Lib.hid hxl
          have hxl1 : xs.length ≤ p.steps.length := by omega
          have hxl2 : p.steps.length ≤ xs.length := by omega
          clear hxl
          obtain ⟨e0, f0, l0⟩ := h5.kP.cells
          have nb : bp ≠ g := by have := h5.lt; omega
          by_cases hlt : i < xs.length
          · obtain ⟨a, rfl⟩ := h5.row.someA (by omega)
            obtain ⟨d0, d1, d2, d3, d4, d5, d6⟩ := (h5.row.rd_at stepE rfl).S7 i (by omega)
            simp only [Nat.zero_add] at d0 d1 d2 d3 d4 d5 d6
            obtain ⟨fa, la⟩ := h5.row.unfrozen (by omega)
            have na : a ≠ g := by have := h5.fr a rfl; have := h5.lt; omega
            generalize hz : LL.nth xs i = z at d0 d1 d2 d3 d4 d5 d6
            replace hz := Lib.hid hz
            go_wp2
            refine rel2_tail_b 15 [(10, IsPick 9, NoFact), (12, IsInt, NoFact)] h5.rd (by kernel_rfl) (by kernel_rfl) ?_
            simp only [List.take_succ_cons, List.take_zero, List.drop_succ_cons, List.drop_zero]
            iterate 10 ((apply rel2_plain (hR := rfl) (hF := fun _ => trivial) (hg := rfl)); (focus ((intro w' hL'); (obtain ⟨hcS, hfS⟩ := gcell1 hL'); (go_simp); (try go_bits); (try (first | (rw [if_pos (by omega)]; done) | (rw [if_neg (by omega)]; done) | (rw [if_pos (by omega)]; go_simp) | (rw [if_neg (by omega)]; go_simp))); (first | with_reducible rfl | exact rfl | skip))); (simp only [Act.put, List.setIfInBounds_toArray, List.set_cons_zero, List.set_cons_succ]))
            ((apply rel2_told (hR := rfl) (hg := rfl)); (focus ((refine ⟨.int .i64 0, ?_⟩); ((repeat (first | (refine Tell2.hits rfl ?_) | (refine Tell2.skips rfl ?_))); exact ⟨0, rfl, Int.le_refl _, .inr rfl⟩))); (focus ((intro w' M hL' hR' hM' hD'); (obtain ⟨hcS, hfS⟩ := gcell1 hL'); skip; (go_simp); (try go_bits); (try (first | (rw [if_pos (by omega)]; done) | (rw [if_neg (by omega)]; done) | (rw [if_pos (by omega)]; go_simp) | (rw [if_neg (by omega)]; go_simp))); ((go_at_call 69); (refine (spec_pick_c _ M _ _ hR' (by omega)).mono ?_); (rintro e w'' ⟨vp, rfl, h0, h1, hg, hr⟩); (refine ⟨_, rfl, hg, ?_, hr⟩); ((repeat (first | (refine Tell2.hit rfl ?_) | (refine Tell2.skip rfl ?_))); exact ⟨⟨vp, rfl, h0, h1⟩, trivial⟩)))); (intro v' hv'); (replace hv' := Tell2.outs hv' rfl); (obtain ⟨v1, rfl, hv0, hv1⟩ := hv'); (simp only [Act.put, List.setIfInBounds_toArray, List.set_cons_zero, List.set_cons_succ]))
            ((apply rel2_plain (hR := rfl) (hF := fun _ => trivial) (hg := rfl)); (focus ((intro w' hL'); (obtain ⟨hcS, hfS⟩ := gcell1 hL'); (go_simp); (try go_bits); (try (first | (rw [if_pos (by omega)]; done) | (rw [if_neg (by omega)]; done) | (rw [if_pos (by omega)]; go_simp) | (rw [if_neg (by omega)]; go_simp))); (first | with_reducible rfl | exact rfl | skip))); (simp only [Act.put, List.setIfInBounds_toArray, List.set_cons_zero, List.set_cons_succ]))
            ((apply rel2_told (hR := rfl) (hg := rfl)); (focus ((refine ⟨.int .i64 0, ?_⟩); ((repeat (first | (refine Tell2.hits rfl ?_) | (refine Tell2.skips rfl ?_))); exact ⟨0, rfl⟩))); (focus ((intro w' M hL' hR' hM' hD'); (obtain ⟨hcS, hfS⟩ := gcell1 hL'); skip; (go_simp); (try go_bits); (try (first | (rw [if_pos (by omega)]; done) | (rw [if_neg (by omega)]; done) | (rw [if_pos (by omega)]; go_simp) | (rw [if_neg (by omega)]; go_simp))); ((go_at_call 88); (refine (spec_l1Min_c _ _ _).mono ?_); (rintro e w'' ⟨rfl, rfl⟩); (refine ⟨_, rfl, GrownS.refl _ _, ?_, hR'.up (by omega)⟩); ((repeat (first | (refine Tell2.hit rfl ?_) | (refine Tell2.skip rfl ?_))); exact ⟨⟨_, rfl⟩, trivial⟩)))); (intro v' hv'); (replace hv' := Tell2.outs hv' rfl); (obtain ⟨zm, rfl⟩ := hv'); (simp only [Act.put, List.setIfInBounds_toArray, List.set_cons_zero, List.set_cons_succ]))
            iterate 2 ((apply rel2_plain (hR := rfl) (hF := fun _ => trivial) (hg := rfl)); (focus ((intro w' hL'); (obtain ⟨hcS, hfS⟩ := gcell1 hL'); (go_simp); (try go_bits); (try (first | (rw [if_pos (by omega)]; done) | (rw [if_neg (by omega)]; done) | (rw [if_pos (by omega)]; go_simp) | (rw [if_neg (by omega)]; go_simp))); (first | with_reducible rfl | exact rfl | skip))); (simp only [Act.put, List.setIfInBounds_toArray, List.set_cons_zero, List.set_cons_succ]))
            refine rel2_nil ?_
            intro w6 hL6 hR6 hF6
            clear hF6
            have h6 := h5.go hL6 hR6
            obtain ⟨hc, hf⟩ := gcell1 hL6
            go_wp2
            have h7 := h6.pR (k := i) (j := 5) (x := ⟨z.x, z.y, z.lo, z.hi, z.fr, zm, z.hold⟩) (u := .int .i64 zm) hlt (by omega) (by have := hz.out; unfold LL.nth at this; rw [this]; rfl)
            have hxs : (xs.set i (⟨z.x, z.y, z.lo, z.hi, z.fr, zm, z.hold⟩ : LL.Step)).length = xs.length := List.length_set ..
            go_roundw
            case rel => exact ⟨i + 1, _, c, xs.set i ⟨z.x, z.y, z.lo, z.hi, z.fr, zm, z.hold⟩, by go_num, by rw [hxs]; exact hxl0.out, by omega, h7.up (by omega)⟩
            case measure => simp only [intOf]; omega
          · go_upto_region 11 with fail
            refine rel2_tail_b 7 [(3, IsPick 20, NoFact), (5, IsInt, NoFact)] h5.rd (by kernel_rfl) (by kernel_rfl) ?_
            simp only [List.take_succ_cons, List.take_zero, List.drop_succ_cons, List.drop_zero]
            iterate 3 ((apply rel2_plain (hR := rfl) (hF := fun _ => trivial) (hg := rfl)); (focus ((intro w' hL'); (obtain ⟨hcS, hfS⟩ := gcell1 hL'); (go_simp); (try go_bits); (try (first | (rw [if_pos (by omega)]; done) | (rw [if_neg (by omega)]; done) | (rw [if_pos (by omega)]; go_simp) | (rw [if_neg (by omega)]; go_simp))); (first | with_reducible rfl | exact rfl | skip))); (simp only [Act.put, List.setIfInBounds_toArray, List.set_cons_zero, List.set_cons_succ]))
            ((apply rel2_told (hR := rfl) (hg := rfl)); (focus ((refine ⟨.int .i64 0, ?_⟩); ((repeat (first | (refine Tell2.hits rfl ?_) | (refine Tell2.skips rfl ?_))); exact ⟨0, rfl, Int.le_refl _, .inr rfl⟩))); (focus ((intro w' M hL' hR' hM' hD'); (obtain ⟨hcS, hfS⟩ := gcell1 hL'); skip; (go_simp); (try go_bits); (try (first | (rw [if_pos (by omega)]; done) | (rw [if_neg (by omega)]; done) | (rw [if_pos (by omega)]; go_simp) | (rw [if_neg (by omega)]; go_simp))); ((go_at_call 69); (refine (spec_pick_c _ M _ _ hR' (by omega)).mono ?_); (rintro e w'' ⟨vp, rfl, h0, h1, hg, hr⟩); (refine ⟨_, rfl, hg, ?_, hr⟩); ((repeat (first | (refine Tell2.hit rfl ?_) | (refine Tell2.skip rfl ?_))); exact ⟨⟨vp, rfl, h0, h1⟩, trivial⟩)))); (intro v' hv'); (replace hv' := Tell2.outs hv' rfl); (obtain ⟨v1, rfl, hv0, hv1⟩ := hv'); (simp only [Act.put, List.setIfInBounds_toArray, List.set_cons_zero, List.set_cons_succ]))
            ((apply rel2_plain (hR := rfl) (hF := fun _ => trivial) (hg := rfl)); (focus ((intro w' hL'); (obtain ⟨hcS, hfS⟩ := gcell1 hL'); (go_simp); (try go_bits); (try (first | (rw [if_pos (by omega)]; done) | (rw [if_neg (by omega)]; done) | (rw [if_pos (by omega)]; go_simp) | (rw [if_neg (by omega)]; go_simp))); (first | with_reducible rfl | exact rfl | skip))); (simp only [Act.put, List.setIfInBounds_toArray, List.set_cons_zero, List.set_cons_succ]))
            ((apply rel2_told (hR := rfl) (hg := rfl)); (focus ((refine ⟨.int .i64 0, ?_⟩); ((repeat (first | (refine Tell2.hits rfl ?_) | (refine Tell2.skips rfl ?_))); exact ⟨0, rfl⟩))); (focus ((intro w' M hL' hR' hM' hD'); (obtain ⟨hcS, hfS⟩ := gcell1 hL'); skip; (go_simp); (try go_bits); (try (first | (rw [if_pos (by omega)]; done) | (rw [if_neg (by omega)]; done) | (rw [if_pos (by omega)]; go_simp) | (rw [if_neg (by omega)]; go_simp))); ((go_at_call 88); (refine (spec_l1Min_c _ _ _).mono ?_); (rintro e w'' ⟨rfl, rfl⟩); (refine ⟨_, rfl, GrownS.refl _ _, ?_, hR'.up (by omega)⟩); ((repeat (first | (refine Tell2.hit rfl ?_) | (refine Tell2.skip rfl ?_))); exact ⟨⟨_, rfl⟩, trivial⟩)))); (intro v' hv'); (replace hv' := Tell2.outs hv' rfl); (obtain ⟨zm, rfl⟩ := hv'); (simp only [Act.put, List.setIfInBounds_toArray, List.set_cons_zero, List.set_cons_succ]))
            ((apply rel2_plain (hR := rfl) (hF := fun _ => trivial) (hg := rfl)); (focus ((intro w' hL'); (obtain ⟨hcS, hfS⟩ := gcell1 hL'); (go_simp); (try go_bits); (try (first | (rw [if_pos (by omega)]; done) | (rw [if_neg (by omega)]; done) | (rw [if_pos (by omega)]; go_simp) | (rw [if_neg (by omega)]; go_simp))); (first | with_reducible rfl | exact rfl | skip))); (simp only [Act.put, List.setIfInBounds_toArray, List.set_cons_zero, List.set_cons_succ]))
            refine rel2_nil ?_
            intro w6 hL6 hR6 hF6
            clear hF6
            have h6 := h5.go hL6 hR6
            obtain ⟨hc, hf⟩ := gcell1 hL6
            go_wp2
            go_meet
            case rel => exact (h6.pB _).pf (by omega) (by omega)
      by_cases hv1' : v1 = 1
      · subst hv1'
        have hR := hP4.rd
        go_upto_region 14 with ((go_at_call 69; (refine pick_mono (N := ?_) ?_ ?_ ?_); (rotate_left); (focus (exact (by repeat' (first | with_reducible assumption | with_reducible refine Rdr.a ?_ _ | with_reducible refine Rdr.d ?_ | with_reducible refine Rdr.s1 ?_ (by omega) _ _ | with_reducible refine Rdr.b ?_ (by with_reducible assumption))))); (focus omega); intro v1 w6 hv0 hv1 hg1 hr1; obtain ⟨hc, hf⟩ := gcell1 hg1; (try simp only [World.size_drew] at hc hf); have hz := hg1.size; (try simp only [World.size_setCell, World.size_alloc, World.size_drew] at hz); skip); (try have hv2 := pk_lt hv1 (by omega)))
        have hP5 := hP4.go hg1 hr1
        clear hg1 hr1 hc hf hP4 hR
        have hd0 : 0 ≤ v1 := hv0
        go_wp2
        go_loopw [9] (fun ii wr => ∃ (i : Nat) (A : Option Addr) (c : Nat) (xs : List LL.Step), ii = .int .i64 i ∧ xs.length = p.steps.length ∧ i ≤ p.steps.length ∧ PSt w g (w.heap.size + 1) bp p.q p.s (.slice A xs.length c) xs p.fr p.by_ (N + 4 + 40 * i) wr) (fun ii _ => p.steps.length - (intOf ii).toNat)
        case atStart => exact ⟨k, _, _, p.steps, rfl, rfl, by omega, hP5.up (by omega)⟩
        case round =>
          obtain ⟨i, A, c, xs, rfl, hxl, hi, h5⟩ := hrel
          clear hP5
          have hxl0 := Lib.hid hxl
          have hxl1 : xs.length ≤ p.steps.length := by omega
          have hxl2 : p.steps.length ≤ xs.length := by omega
          clear hxl
          obtain ⟨e0, f0, l0⟩ := h5.kP.cells
          have nb : bp ≠ g := by have := h5.lt; omega
          by_cases hlt : i < xs.length
          · obtain ⟨a, rfl⟩ := h5.row.someA (by omega)
            obtain ⟨d0, d1, d2, d3, d4, d5, d6⟩ := (h5.row.rd_at stepE rfl).S7 i (by omega)
            simp only [Nat.zero_add] at d0 d1 d2 d3 d4 d5 d6
            obtain ⟨fa, la⟩ := h5.row.unfrozen (by omega)
            have na : a ≠ g := by have := h5.fr a rfl; have := h5.lt; omega
            generalize hz : LL.nth xs i = z at d0 d1 d2 d3 d4 d5 d6
            replace hz := Lib.hid hz
            go_wp2
            refine rel2_tail_b 14 [(11, IsInt, NoFact)] h5.rd (by kernel_rfl) (by kernel_rfl) ?_
            simp only [List.take_succ_cons, List.take_zero, List.drop_succ_cons, List.drop_zero]
            iterate 11 ((apply rel2_plain (hR := rfl) (hF := fun _ => trivial) (hg := rfl)); (focus ((intro w' hL'); (obtain ⟨hcS, hfS⟩ := gcell1 hL'); (go_simp); (try go_bits); (try (first | (rw [if_pos (by omega)]; done) | (rw [if_neg (by omega)]; done) | (rw [if_pos (by omega)]; go_simp) | (rw [if_neg (by omega)]; go_simp))); (first | with_reducible rfl | exact rfl | skip))); (simp only [Act.put, List.setIfInBounds_toArray, List.set_cons_zero, List.set_cons_succ]))
            ((apply rel2_told (hR := rfl) (hg := rfl)); (focus ((refine ⟨.int .i64 0, ?_⟩); ((repeat (first | (refine Tell2.hits rfl ?_) | (refine Tell2.skips rfl ?_))); exact ⟨0, rfl⟩))); (focus ((intro w' M hL' hR' hM' hD'); (obtain ⟨hcS, hfS⟩ := gcell1 hL'); skip; (go_simp); (try go_bits); (try (first | (rw [if_pos (by omega)]; done) | (rw [if_neg (by omega)]; done) | (rw [if_pos (by omega)]; go_simp) | (rw [if_neg (by omega)]; go_simp))); ((go_at_call 88); (refine (spec_l1Min_c _ _ _).mono ?_); (rintro e w'' ⟨rfl, rfl⟩); (refine ⟨_, rfl, GrownS.refl _ _, ?_, hR'.up (by omega)⟩); ((repeat (first | (refine Tell2.hit rfl ?_) | (refine Tell2.skip rfl ?_))); exact ⟨⟨_, rfl⟩, trivial⟩)))); (intro v' hv'); (replace hv' := Tell2.outs hv' rfl); (obtain ⟨zm, rfl⟩ := hv'); (simp only [Act.put, List.setIfInBounds_toArray, List.set_cons_zero, List.set_cons_succ]))
            iterate 2 ((apply rel2_plain (hR := rfl) (hF := fun _ => trivial) (hg := rfl)); (focus ((intro w' hL'); (obtain ⟨hcS, hfS⟩ := gcell1 hL'); (go_simp); (try go_bits); (try (first | (rw [if_pos (by omega)]; done) | (rw [if_neg (by omega)]; done) | (rw [if_pos (by omega)]; go_simp) | (rw [if_neg (by omega)]; go_simp))); (first | with_reducible rfl | exact rfl | skip))); (simp only [Act.put, List.setIfInBounds_toArray, List.set_cons_zero, List.set_cons_succ]))
            refine rel2_nil ?_
            intro w6 hL6 hR6 hF6
            clear hF6
            have h6 := h5.go hL6 hR6
            obtain ⟨hc, hf⟩ := gcell1 hL6
            go_upto_region 18 with fail
            have h7 := h6.pR (k := i) (j := 4) (x := ⟨z.x, z.y, z.lo, z.hi, zm, z.by_, z.hold⟩) (u := .int .i64 zm) hlt (by omega) (by have := hz.out; unfold LL.nth at this; rw [this]; rfl)
            have hxs : (xs.set i (⟨z.x, z.y, z.lo, z.hi, zm, z.by_, z.hold⟩ : LL.Step)).length = xs.length := List.length_set ..
            refine wp_name (fun W => PSt w g (w.heap.size + 1) bp p.q p.s (.slice (some ⟨a, 0, none⟩) (xs.set i (⟨z.x, z.y, z.lo, z.hi, zm, z.by_, z.hold⟩ : LL.Step)).length c) (xs.set i (⟨z.x, z.y, z.lo, z.hi, zm, z.by_, z.hold⟩ : LL.Step)) p.fr p.by_ (N + 4 + 40 * i + 14) W) h7 ?_
            rw [hxs]
            clear h7 h6 hL6 hR6 hc hf d0 d1 d2 d3 d4 d5 d6 e0 f0 l0 fa la na h5 hz
            rintro W7 h7
            have hys : (xs.set i (⟨z.x, z.y, z.lo, z.hi, zm, z.by_, z.hold⟩ : LL.Step)).length = xs.length := hxs
            generalize hyy : xs.set i (⟨z.x, z.y, z.lo, z.hi, zm, z.by_, z.hold⟩ : LL.Step) = ys at *
            clear hyy hxs
            have hysl := Lib.hid hys
            have h7' : PSt w g (w.heap.size + 1) bp p.q p.s (.slice (some ⟨a, 0, none⟩) ys.length c) ys p.fr p.by_ (N + 4 + 40 * i + 14) W7 := by rw [hys]; exact h7
            have hlt' : i < ys.length := by omega
            clear hys
            obtain ⟨e0, f0, l0⟩ := h7.kP.cells
            obtain ⟨d0, d1, d2, d3, d4, d5, d6⟩ := (h7.row.rd_at stepE hysl.out).S7 i hlt
            simp only [Nat.zero_add] at d0 d1 d2 d3 d4 d5 d6
            obtain ⟨fa, la⟩ := h7.row.unfrozen (by omega)
            have na : a ≠ g := by have := h7.fr a rfl; have := h7.lt; omega
            generalize hz : LL.nth ys i = z2 at d0 d1 d2 d3 d4 d5 d6
            replace hz := Lib.hid hz
            refine rel2_tail_b 17 [(12, IsPick 9, NoFact), (14, IsInt, NoFact)] h7.rd (by kernel_rfl) (by kernel_rfl) ?_
            simp only [List.take_succ_cons, List.take_zero, List.drop_succ_cons, List.drop_zero]
            iterate 12 ((apply rel2_plain (hR := rfl) (hF := fun _ => trivial) (hg := rfl)); (focus ((intro w' hL'); (obtain ⟨hcS, hfS⟩ := gcell1 hL'); (go_simp); (try go_bits); (try (first | (rw [if_pos (by omega)]; done) | (rw [if_neg (by omega)]; done) | (rw [if_pos (by omega)]; go_simp) | (rw [if_neg (by omega)]; go_simp))); (first | with_reducible rfl | exact rfl | skip))); (simp only [Act.put, List.setIfInBounds_toArray, List.set_cons_zero, List.set_cons_succ]))
            ((apply rel2_told (hR := rfl) (hg := rfl)); (focus ((refine ⟨.int .i64 0, ?_⟩); ((repeat (first | (refine Tell2.hits rfl ?_) | (refine Tell2.skips rfl ?_))); exact ⟨0, rfl, Int.le_refl _, .inr rfl⟩))); (focus ((intro w' M hL' hR' hM' hD'); (obtain ⟨hcS, hfS⟩ := gcell1 hL'); skip; (go_simp); (try go_bits); (try (first | (rw [if_pos (by omega)]; done) | (rw [if_neg (by omega)]; done) | (rw [if_pos (by omega)]; go_simp) | (rw [if_neg (by omega)]; go_simp))); ((go_at_call 69); (refine (spec_pick_c _ M _ _ hR' (by omega)).mono ?_); (rintro e w'' ⟨vp, rfl, h0, h1, hg, hr⟩); (refine ⟨_, rfl, hg, ?_, hr⟩); ((repeat (first | (refine Tell2.hit rfl ?_) | (refine Tell2.skip rfl ?_))); exact ⟨⟨vp, rfl, h0, h1⟩, trivial⟩)))); (intro v' hv'); (replace hv' := Tell2.outs hv' rfl); (obtain ⟨v1, rfl, hv0, hv1⟩ := hv'); (simp only [Act.put, List.setIfInBounds_toArray, List.set_cons_zero, List.set_cons_succ]))
            ((apply rel2_plain (hR := rfl) (hF := fun _ => trivial) (hg := rfl)); (focus ((intro w' hL'); (obtain ⟨hcS, hfS⟩ := gcell1 hL'); (go_simp); (try go_bits); (try (first | (rw [if_pos (by omega)]; done) | (rw [if_neg (by omega)]; done) | (rw [if_pos (by omega)]; go_simp) | (rw [if_neg (by omega)]; go_simp))); (first | with_reducible rfl | exact rfl | skip))); (simp only [Act.put, List.setIfInBounds_toArray, List.set_cons_zero, List.set_cons_succ]))
            ((apply rel2_told (hR := rfl) (hg := rfl)); (focus ((refine ⟨.int .i64 0, ?_⟩); ((repeat (first | (refine Tell2.hits rfl ?_) | (refine Tell2.skips rfl ?_))); exact ⟨0, rfl⟩))); (focus ((intro w' M hL' hR' hM' hD'); (obtain ⟨hcS, hfS⟩ := gcell1 hL'); skip; (go_simp); (try go_bits); (try (first | (rw [if_pos (by omega)]; done) | (rw [if_neg (by omega)]; done) | (rw [if_pos (by omega)]; go_simp) | (rw [if_neg (by omega)]; go_simp))); ((go_at_call 88); (refine (spec_l1Min_c _ _ _).mono ?_); (rintro e w'' ⟨rfl, rfl⟩); (refine ⟨_, rfl, GrownS.refl _ _, ?_, hR'.up (by omega)⟩); ((repeat (first | (refine Tell2.hit rfl ?_) | (refine Tell2.skip rfl ?_))); exact ⟨⟨_, rfl⟩, trivial⟩)))); (intro v' hv'); (replace hv' := Tell2.outs hv' rfl); (obtain ⟨zm, rfl⟩ := hv'); (simp only [Act.put, List.setIfInBounds_toArray, List.set_cons_zero, List.set_cons_succ]))
            iterate 2 ((apply rel2_plain (hR := rfl) (hF := fun _ => trivial) (hg := rfl)); (focus ((intro w' hL'); (obtain ⟨hcS, hfS⟩ := gcell1 hL'); (go_simp); (try go_bits); (try (first | (rw [if_pos (by omega)]; done) | (rw [if_neg (by omega)]; done) | (rw [if_pos (by omega)]; go_simp) | (rw [if_neg (by omega)]; go_simp))); (first | with_reducible rfl | exact rfl | skip))); (simp only [Act.put, List.setIfInBounds_toArray, List.set_cons_zero, List.set_cons_succ]))
            refine rel2_nil ?_
            intro w6 hL6 hR6 hF6
            clear hF6
            have h6 := h7'.go hL6 hR6
            obtain ⟨hc, hf⟩ := gcell1 hL6
            go_wp2
            have h8 := h6.pR (k := i) (j := 5) (x := ⟨z2.x, z2.y, z2.lo, z2.hi, z2.fr, zm, z2.hold⟩) (u := .int .i64 zm) hlt' (by omega) (by have := hz.out; unfold LL.nth at this; rw [this]; rfl)
            have hzs : (ys.set i (⟨z2.x, z2.y, z2.lo, z2.hi, z2.fr, zm, z2.hold⟩ : LL.Step)).length = ys.length := List.length_set ..
            go_roundw
            case rel => exact ⟨i + 1, _, c, ys.set i ⟨z2.x, z2.y, z2.lo, z2.hi, z2.fr, zm, z2.hold⟩, by go_num, by rw [hzs, hysl.out]; exact hxl0.out, by omega, h8.up (by omega)⟩
            case measure => simp only [intOf]; omega
          · go_upto_region 20 with (go_at_call 88; refine (spec_l1Min_c _ _ _).mono ?_; rintro e w' ⟨rfl, rfl⟩)
            refine wp_name (fun W => ∃ fz, PSt w g (w.heap.size + 1) bp p.q p.s (.slice A xs.length c) xs fz p.by_ (N + 4 + 40 * i) W) ⟨_, h5.pF _⟩ ?_
            clear h5 e0 f0 l0
            rintro W7 ⟨fz, h7⟩
            obtain ⟨e0, f0, l0⟩ := h7.kP.cells
            refine rel2_tail_b 9 [(5, IsPick 20, NoFact), (7, IsInt, NoFact)] h7.rd (by kernel_rfl) (by kernel_rfl) ?_
            simp only [List.take_succ_cons, List.take_zero, List.drop_succ_cons, List.drop_zero]
            iterate 5 ((apply rel2_plain (hR := rfl) (hF := fun _ => trivial) (hg := rfl)); (focus ((intro w' hL'); (obtain ⟨hcS, hfS⟩ := gcell1 hL'); (go_simp); (try go_bits); (try (first | (rw [if_pos (by omega)]; done) | (rw [if_neg (by omega)]; done) | (rw [if_pos (by omega)]; go_simp) | (rw [if_neg (by omega)]; go_simp))); (first | with_reducible rfl | exact rfl | skip))); (simp only [Act.put, List.setIfInBounds_toArray, List.set_cons_zero, List.set_cons_succ]))
            ((apply rel2_told (hR := rfl) (hg := rfl)); (focus ((refine ⟨.int .i64 0, ?_⟩); ((repeat (first | (refine Tell2.hits rfl ?_) | (refine Tell2.skips rfl ?_))); exact ⟨0, rfl, Int.le_refl _, .inr rfl⟩))); (focus ((intro w' M hL' hR' hM' hD'); (obtain ⟨hcS, hfS⟩ := gcell1 hL'); skip; (go_simp); (try go_bits); (try (first | (rw [if_pos (by omega)]; done) | (rw [if_neg (by omega)]; done) | (rw [if_pos (by omega)]; go_simp) | (rw [if_neg (by omega)]; go_simp))); ((go_at_call 69); (refine (spec_pick_c _ M _ _ hR' (by omega)).mono ?_); (rintro e w'' ⟨vp, rfl, h0, h1, hg, hr⟩); (refine ⟨_, rfl, hg, ?_, hr⟩); ((repeat (first | (refine Tell2.hit rfl ?_) | (refine Tell2.skip rfl ?_))); exact ⟨⟨vp, rfl, h0, h1⟩, trivial⟩)))); (intro v' hv'); (replace hv' := Tell2.outs hv' rfl); (obtain ⟨v1, rfl, hv0, hv1⟩ := hv'); (simp only [Act.put, List.setIfInBounds_toArray, List.set_cons_zero, List.set_cons_succ]))
            ((apply rel2_plain (hR := rfl) (hF := fun _ => trivial) (hg := rfl)); (focus ((intro w' hL'); (obtain ⟨hcS, hfS⟩ := gcell1 hL'); (go_simp); (try go_bits); (try (first | (rw [if_pos (by omega)]; done) | (rw [if_neg (by omega)]; done) | (rw [if_pos (by omega)]; go_simp) | (rw [if_neg (by omega)]; go_simp))); (first | with_reducible rfl | exact rfl | skip))); (simp only [Act.put, List.setIfInBounds_toArray, List.set_cons_zero, List.set_cons_succ]))
            ((apply rel2_told (hR := rfl) (hg := rfl)); (focus ((refine ⟨.int .i64 0, ?_⟩); ((repeat (first | (refine Tell2.hits rfl ?_) | (refine Tell2.skips rfl ?_))); exact ⟨0, rfl⟩))); (focus ((intro w' M hL' hR' hM' hD'); (obtain ⟨hcS, hfS⟩ := gcell1 hL'); skip; (go_simp); (try go_bits); (try (first | (rw [if_pos (by omega)]; done) | (rw [if_neg (by omega)]; done) | (rw [if_pos (by omega)]; go_simp) | (rw [if_neg (by omega)]; go_simp))); ((go_at_call 88); (refine (spec_l1Min_c _ _ _).mono ?_); (rintro e w'' ⟨rfl, rfl⟩); (refine ⟨_, rfl, GrownS.refl _ _, ?_, hR'.up (by omega)⟩); ((repeat (first | (refine Tell2.hit rfl ?_) | (refine Tell2.skip rfl ?_))); exact ⟨⟨_, rfl⟩, trivial⟩)))); (intro v' hv'); (replace hv' := Tell2.outs hv' rfl); (obtain ⟨zm, rfl⟩ := hv'); (simp only [Act.put, List.setIfInBounds_toArray, List.set_cons_zero, List.set_cons_succ]))
            ((apply rel2_plain (hR := rfl) (hF := fun _ => trivial) (hg := rfl)); (focus ((intro w' hL'); (obtain ⟨hcS, hfS⟩ := gcell1 hL'); (go_simp); (try go_bits); (try (first | (rw [if_pos (by omega)]; done) | (rw [if_neg (by omega)]; done) | (rw [if_pos (by omega)]; go_simp) | (rw [if_neg (by omega)]; go_simp))); (first | with_reducible rfl | exact rfl | skip))); (simp only [Act.put, List.setIfInBounds_toArray, List.set_cons_zero, List.set_cons_succ]))
            refine rel2_nil ?_
            intro w6 hL6 hR6 hF6
            clear hF6
            have h6 := h7.go hL6 hR6
            obtain ⟨hc, hf⟩ := gcell1 hL6
            go_wp2
            go_meet
            case rel => exact (h6.pB _).pf (by omega) (by omega)
      by_cases hv2' : v1 = 2
      · subst hv2'
        obtain ⟨a2, rfl⟩ := hP4.row.someA (by omega)
        have hO4 := hP4.row
        have hcap := (hO4.rd_at stepE rfl).cap
        obtain ⟨e0, f0, l0⟩ := hP4.kP.cells
        have nb : bp ≠ g := by have := hP4.lt; omega
        go_upto_region 23 with fail
        have hT := hP4.pT (k := k + 1) (by omega)
        have hkl : (p.steps.take (k + 1)).length = k + 1 := by rw [List.length_take]; omega
        refine wp_name (fun W => PSt w g (w.heap.size + 1) bp p.q p.s (.slice (some ⟨a2, 0, none⟩) (k + 1) c2) (p.steps.take (k + 1)) p.fr p.by_ (N + 3) W) (hT.up (by omega)) ?_
        clear hT hP4 hO4 hcap e0 f0 l0
        rintro W6 hP5
        generalize p.steps.take (k + 1) = ts at *
        have hR := hP5.rd
        go_upto_region 24 with ((go_at_call 69; (refine pick_mono (N := ?_) ?_ ?_ ?_); (rotate_left); (focus (exact (by repeat' (first | with_reducible assumption | with_reducible refine Rdr.a ?_ _ | with_reducible refine Rdr.d ?_ | with_reducible refine Rdr.s1 ?_ (by omega) _ _ | with_reducible refine Rdr.b ?_ (by with_reducible assumption))))); (focus omega); intro v1 w7 hv0 hv1 hg1 hr1; obtain ⟨hc, hf⟩ := gcell1 hg1; (try simp only [World.size_drew] at hc hf); have hz := hg1.size; (try simp only [World.size_setCell, World.size_alloc, World.size_drew] at hz); skip); (try have hv2 := pk_lt hv1 (by omega)))
        have hP6 := hP5.go hg1 hr1
        clear hg1 hr1 hc hf hP5 hR
        obtain ⟨m0, rfl⟩ : ∃ m : Nat, v1 = m := ⟨v1.toNat, by omega⟩
        have hP6' : PSt w g (w.heap.size + 1) bp p.q p.s (.slice (some ⟨a2, 0, none⟩) ts.length c2) ts p.fr p.by_ (N + 4) w7 := by rw [hkl]; exact hP6
        have ht1 : 1 ≤ ts.length := by omega
        have ht2 : ts.length ≤ 60 := by omega
        clear hkl hP6
        go_wp2
        go_loopw [10, 11, 12, 13] (fun mm x y z wr => ∃ (m : Nat) (A : Option Addr) (c : Nat) (xs : List LL.Step), mm = .int .i64 m ∧ m ≤ 4 ∧ 1 ≤ xs.length ∧ xs.length + m ≤ 64 ∧ PSt w g (w.heap.size + 1) bp p.q p.s (.slice A xs.length c) xs p.fr p.by_ (N + 4 + 60 * (4 - m)) wr) (fun mm _ _ _ _ => (intOf mm).toNat)
        case atStart => exact ⟨m0, _, c2, ts, rfl, by omega, ht1, by omega, hP6'.up (by omega)⟩
        case round =>
          obtain ⟨m, A, c, xs, rfl, hm, hx1, hx2, h5⟩ := hrel
          clear hP6'
          obtain ⟨e0, f0, l0⟩ := h5.kP.cells
          have nb : bp ≠ g := by have := h5.lt; omega
          by_cases hm0 : 0 < m
          · obtain ⟨m, rfl⟩ : ∃ q, m = q + 1 := ⟨m - 1, by omega⟩
            obtain ⟨L, hL⟩ : ∃ L, xs.length = L + 1 := ⟨xs.length - 1, by omega⟩
            rw [hL] at h5 e0
            obtain ⟨a5, rfl⟩ := h5.row.someA (by omega)
            obtain ⟨d0, d1, d2, d3, d4, d5, d6⟩ := (h5.row.rd_at stepE hL).S7 L (by omega)
            simp only [Nat.zero_add] at d0 d1 d2 d3 d4 d5 d6
            have la := h5.row.lt1 a5 rfl
            generalize LL.nth xs L = z5 at d0 d1 d2 d3 d4 d5 d6
            have hLx := Lib.hid hL
            have hL1 : L ≤ 63 := by omega
            have hL2 : L + 1 + m + 1 ≤ 64 := by omega
            clear hL hx1 hx2
            go_upto_region 27 with fail
            refine wp_name (fun W => ∃ bs, bs = wr.heap.size ∧ PSt w g (w.heap.size + 1) bp p.q p.s (.slice (some ⟨a5, 0, none⟩) (L + 1) c) xs p.fr p.by_ (N + 4 + 60 * (4 - (m + 1))) W ∧ Blk W bs #[.int .i64 z5.x, .int .i64 z5.y, .int .i64 z5.lo, .int .i64 z5.hi, .int .i64 z5.fr, .int .i64 z5.by_, .bool z5.hold] 79 ∧ w.heap.size ≤ bs ∧ bp < bs ∧ (∀ j, (Value.slice (some ⟨a5, 0, none⟩) (L + 1) c).ownBlock = some j → j < bs)) ⟨_, rfl, h5.al _, Blk.new _ _ _, h5.gr.size, blk_lt h5.kP.at_, h5.row.lt1⟩ ?_
            clear h5 e0 f0 l0 d0 d1 d2 d3 d4 d5 d6 la
            rintro W6 ⟨bs, hbs, h6, kS, hs0, hs1, hs2⟩
            have hlt6 := h6.lt
            have nbs : bs ≠ g := by omega
            have hs3 : ∀ j, (Value.slice (some ⟨a5, 0, none⟩) (L + 1) c).ownBlock = some j → j ≠ bs := fun j hj => by have := hs2 j hj; omega
            replace hs3 := Lib.hid hs3
            clear hs2
            obtain ⟨e1, f1, l1⟩ := kS.cells
            have hR := h6.rd
            rw [← hbs]
            clear hbs
            go_upto_region 28 with (go_at_call 106; (refine l10Step_mono (N := ?_) ?_ ?_ ?_); (rotate_left); (focus (exact (by repeat' (first | with_reducible assumption | with_reducible refine Rdr.a ?_ _ | with_reducible refine Rdr.d ?_ | with_reducible refine Rdr.s1 ?_ (by omega) _ _ | with_reducible refine Rdr.b ?_ (by with_reducible assumption))))); (focus omega); intro x2 y2 w7 hg1 hr1; obtain ⟨hc, hf⟩ := gcell1 hg1; (try simp only [World.size_drew] at hc hf); have hz := hg1.size; (try simp only [World.size_setCell, World.size_alloc, World.size_drew] at hz); have yw7_0 : bs < w7.heap.size := (by omega))
            have h7 := h6.go hg1 hr1
            have k7 := kS.g1 hg1 nbs
            clear hc hf hg1 hr1 h6 kS hR e1 f1 l1
            obtain ⟨e1, f1, l1⟩ := k7.cells
            go_upto_region 31 with fail
            have h8 := ((h7.st (b := bs) (by omega) hs3.out 0 (.int .i64 x2)).st (b := bs) (by omega) hs3.out 1 (.int .i64 y2)).st (b := bs) (by omega) hs3.out 4 (.int .i64 0)
            have k8 : Blk (((w7.setCell ⟨bs, 0, none⟩ (.int .i64 x2)).setCell ⟨bs, 1, none⟩ (.int .i64 y2)).setCell ⟨bs, 4, none⟩ (.int .i64 0)) bs #[.int .i64 x2, .int .i64 y2, .int .i64 z5.lo, .int .i64 z5.hi, .int .i64 0, .int .i64 z5.by_, .bool z5.hold] 79 := by simpa using ((k7.put 0 (.int .i64 x2)).put 1 (.int .i64 y2)).put 4 (.int .i64 0)
            refine wp_name (fun W => PSt w g (w.heap.size + 1) bp p.q p.s (.slice (some ⟨a5, 0, none⟩) (L + 1) c) xs p.fr p.by_ (N + 4 + 60 * (4 - (m + 1)) + 40) W ∧ Blk W bs #[.int .i64 x2, .int .i64 y2, .int .i64 z5.lo, .int .i64 z5.hi, .int .i64 0, .int .i64 z5.by_, .bool z5.hold] 79) ⟨h8, k8⟩ ?_
            clear h8 k8 h7 k7 e1 f1 l1
            rintro W8 ⟨h8, k8⟩
            obtain ⟨e1, f1, l1⟩ := k8.cells
            refine rel2_tail_b 8 [(4, IsPick 20, NoFact), (6, IsInt, NoFact)] h8.rd (by kernel_rfl) (by kernel_rfl) ?_
            simp only [List.take_succ_cons, List.take_zero, List.drop_succ_cons, List.drop_zero]
            iterate 4 ((apply rel2_plain (hR := rfl) (hF := fun _ => trivial) (hg := rfl)); (focus ((intro w' hL'); (obtain ⟨hcS, hfS⟩ := gcell1 hL'); (go_simp); (try go_bits); (try (first | (rw [if_pos (by omega)]; done) | (rw [if_neg (by omega)]; done) | (rw [if_pos (by omega)]; go_simp) | (rw [if_neg (by omega)]; go_simp))); (first | with_reducible rfl | exact rfl | skip))); (simp only [Act.put, List.setIfInBounds_toArray, List.set_cons_zero, List.set_cons_succ]))
            ((apply rel2_told (hR := rfl) (hg := rfl)); (focus ((refine ⟨.int .i64 0, ?_⟩); ((repeat (first | (refine Tell2.hits rfl ?_) | (refine Tell2.skips rfl ?_))); exact ⟨0, rfl, Int.le_refl _, .inr rfl⟩))); (focus ((intro w' M hL' hR' hM' hD'); (obtain ⟨hcS, hfS⟩ := gcell1 hL'); skip; (go_simp); (try go_bits); (try (first | (rw [if_pos (by omega)]; done) | (rw [if_neg (by omega)]; done) | (rw [if_pos (by omega)]; go_simp) | (rw [if_neg (by omega)]; go_simp))); ((go_at_call 69); (refine (spec_pick_c _ M _ _ hR' (by omega)).mono ?_); (rintro e w'' ⟨vp, rfl, h0, h1, hg, hr⟩); (refine ⟨_, rfl, hg, ?_, hr⟩); ((repeat (first | (refine Tell2.hit rfl ?_) | (refine Tell2.skip rfl ?_))); exact ⟨⟨vp, rfl, h0, h1⟩, trivial⟩)))); (intro v' hv'); (replace hv' := Tell2.outs hv' rfl); (obtain ⟨v1, rfl, hv0, hv1⟩ := hv'); (simp only [Act.put, List.setIfInBounds_toArray, List.set_cons_zero, List.set_cons_succ]))
            ((apply rel2_plain (hR := rfl) (hF := fun _ => trivial) (hg := rfl)); (focus ((intro w' hL'); (obtain ⟨hcS, hfS⟩ := gcell1 hL'); (go_simp); (try go_bits); (try (first | (rw [if_pos (by omega)]; done) | (rw [if_neg (by omega)]; done) | (rw [if_pos (by omega)]; go_simp) | (rw [if_neg (by omega)]; go_simp))); (first | with_reducible rfl | exact rfl | skip))); (simp only [Act.put, List.setIfInBounds_toArray, List.set_cons_zero, List.set_cons_succ]))
            ((apply rel2_told (hR := rfl) (hg := rfl)); (focus ((refine ⟨.int .i64 0, ?_⟩); ((repeat (first | (refine Tell2.hits rfl ?_) | (refine Tell2.skips rfl ?_))); exact ⟨0, rfl⟩))); (focus ((intro w' M hL' hR' hM' hD'); (obtain ⟨hcS, hfS⟩ := gcell1 hL'); skip; (go_simp); (try go_bits); (try (first | (rw [if_pos (by omega)]; done) | (rw [if_neg (by omega)]; done) | (rw [if_pos (by omega)]; go_simp) | (rw [if_neg (by omega)]; go_simp))); ((go_at_call 88); (refine (spec_l1Min_c _ _ _).mono ?_); (rintro e w'' ⟨rfl, rfl⟩); (refine ⟨_, rfl, GrownS.refl _ _, ?_, hR'.up (by omega)⟩); ((repeat (first | (refine Tell2.hit rfl ?_) | (refine Tell2.skip rfl ?_))); exact ⟨⟨_, rfl⟩, trivial⟩)))); (intro v' hv'); (replace hv' := Tell2.outs hv' rfl); (obtain ⟨zm, rfl⟩ := hv'); (simp only [Act.put, List.setIfInBounds_toArray, List.set_cons_zero, List.set_cons_succ]))
            ((apply rel2_plain (hR := rfl) (hF := fun _ => trivial) (hg := rfl)); (focus ((intro w' hL'); (obtain ⟨hcS, hfS⟩ := gcell1 hL'); (go_simp); (try go_bits); (try (first | (rw [if_pos (by omega)]; done) | (rw [if_neg (by omega)]; done) | (rw [if_pos (by omega)]; go_simp) | (rw [if_neg (by omega)]; go_simp))); (first | with_reducible rfl | exact rfl | skip))); (simp only [Act.put, List.setIfInBounds_toArray, List.set_cons_zero, List.set_cons_succ]))
            refine rel2_nil ?_
            intro w6 hL6 hR6 hF6
            clear hF6
            have h6 := h8.go hL6 hR6
            obtain ⟨hc, hf⟩ := gcell1 hL6
            have k6 := k8.g1 hL6 nbs
            go_upto_region 32 with fail
            have h9 := h6.st (b := bs) (by omega) hs3.out 5 (.int .i64 zm)
            have k9 : Blk (w6.setCell ⟨bs, 5, none⟩ (.int .i64 zm)) bs #[.int .i64 x2, .int .i64 y2, .int .i64 z5.lo, .int .i64 z5.hi, .int .i64 0, .int .i64 zm, .bool z5.hold] 79 := by simpa using k6.put 5 (.int .i64 zm)
            refine wp_name (fun W => PSt w g (w.heap.size + 1) bp p.q p.s (.slice (some ⟨a5, 0, none⟩) (L + 1) c) xs p.fr p.by_ (N + 4 + 60 * (4 - (m + 1)) + 48) W ∧ Blk W bs #[.int .i64 x2, .int .i64 y2, .int .i64 z5.lo, .int .i64 z5.hi, .int .i64 0, .int .i64 zm, .bool z5.hold] 79) ⟨h9, k9⟩ ?_
            clear h9 k9 h6 k6 h8 k8 hL6 hR6 hc hf e1 f1 l1
            rintro W9 ⟨h9, k9⟩
            have hR := h9.rd
            have lbs := blk_lt k9.at_
            obtain ⟨e1, f1, l1⟩ := k9.cells
            go_upto_region 33 with ((go_at_call 69; (refine pick_mono (N := ?_) ?_ ?_ ?_); (rotate_left); (focus (exact (by repeat' (first | with_reducible assumption | with_reducible refine Rdr.a ?_ _ | with_reducible refine Rdr.d ?_ | with_reducible refine Rdr.s1 ?_ (by omega) _ _ | with_reducible refine Rdr.b ?_ (by with_reducible assumption))))); (focus omega); intro v1 w10 hv0 hv1 hg1 hr1; obtain ⟨hc, hf⟩ := gcell1 hg1; (try simp only [World.size_drew] at hc hf); have hz := hg1.size; (try simp only [World.size_setCell, World.size_alloc, World.size_drew] at hz); have yw10_0 : bs < w10.heap.size := (by omega)); (try have hv2 := pk_lt hv1 (by omega)))
            have k10 := k9.g1 hg1 nbs
            have h10 := h9.go hg1 hr1
            have h11 := fun u => h10.st (b := bs) (by omega) hs3.out 6 u
            have k11 : ∀ q : Bool, Blk (w10.setCell ⟨bs, 6, none⟩ (.bool q)) bs #[.int .i64 x2, .int .i64 y2, .int .i64 z5.lo, .int .i64 z5.hi, .int .i64 0, .int .i64 zm, .bool q] 79 := fun q => by simpa using k10.put 6 (.bool q)
            refine wp_name (fun W => ∃ hd : Bool, PSt w g (w.heap.size + 1) bp p.q p.s (.slice (some ⟨a5, 0, none⟩) (L + 1) c) xs p.fr p.by_ (N + 4 + 60 * (4 - (m + 1)) + 49) W ∧ Blk W bs #[.int .i64 x2, .int .i64 y2, .int .i64 z5.lo, .int .i64 z5.hi, .int .i64 0, .int .i64 zm, .bool hd] 79) ⟨_, h11 _, k11 _⟩ ?_
            clear h11 k11 h10 k10 h9 k9 hR lbs hc hf hg1 hr1 e1 f1 l1
            rintro W11 ⟨hd, h12, kS⟩
            have kP8 := h12.kP
            obtain ⟨e5, f5, l5⟩ := kS.cells
            obtain ⟨e6, f6, l6⟩ := kP8.cells
            have nq : (Value.slice (some ⟨a5, 0, none⟩) (L + 1) c).ownBlock ≠ some bp := fun e => h12.row.neB2 kP8 (by decide) _ e rfl
            have hl9 : (xs ++ [(⟨x2, y2, z5.lo, z5.hi, 0, zm, hd⟩ : LL.Step)]).length = L + 2 := by simp [hLx.out]
            replace hl9 := Lib.hid hl9
            go_wp2_with ((at_builtin; go_loud (refine wp_app (bytes := 56) (e := 79) rfl _ _ _ rfl stepE (.agg (stepC LL.z0).toArray) Try.underlying41 (by kernel_rfl) rfl (by decide) (v := (.slice (some ⟨a5, 0, none⟩) (L + 1) c)) rfl (h12.row.a _) rfl (Rd.one (x := (⟨x2, y2, z5.lo, z5.hi, 0, zm, hd⟩ : LL.Step)) (Blk.new _ _ _) rfl (by decide)) (by have := hLx.out; omega) ?_); intro v7 w7 hO7 hg7 hat7); obtain ⟨A7, c7, e9, -⟩ := hO7.rd stepE; rw [hl9.out] at e9; subst e9; have kP7 := (kP8.a (.cells #[.int .i64 x2, .int .i64 y2, .int .i64 z5.lo, .int .i64 z5.hi, .int .i64 0, .int .i64 zm, .bool hd] 79)).grown hg7 nq; obtain ⟨e7, f7, l7⟩ := kP7.cells)
            have h13 := (h12.al _).app hO7 hg7 hat7
            go_roundw
            case rel => exact ⟨m, A7, c7, xs ++ [(⟨x2, y2, z5.lo, z5.hi, 0, zm, hd⟩ : LL.Step)], by go_num, by omega, by rw [hl9.out]; omega, by rw [hl9.out]; omega, by rw [hl9.out]; exact h13.up (by omega)⟩
            case measure => simp only [intOf]; omega
          · go_upto_if 176 with fail
            go_cut [] (fun wc => ∃ (A : Option Addr) (c : Nat) (xs : List LL.Step), xs.length ≤ 60 ∧ PSt w g (w.heap.size + 1) bp p.q p.s (.slice A xs.length c) xs p.fr p.by_ (N + 300) wc)
            case first =>
              by_cases h40 : (40 : Int) < xs.length
              · obtain ⟨a, rfl⟩ := h5.row.someA (by omega)
                have hcap := (h5.row.rd_at stepE rfl).cap
                have hT := h5.pT (k := 40) (by omega)
                have hkl : (xs.take 40).length = 40 := by rw [List.length_take]; omega
                replace hkl := Lib.hid hkl
                go_wp2
                go_meet
                case rel => exact ⟨_, c, xs.take 40, by rw [hkl.out]; omega, by rw [hkl.out]; exact hT.up (by omega)⟩
              · go_wp2
                go_meet
                case rel => exact ⟨A, c, xs, by omega, h5.up (by omega)⟩
            clear h5 e0 f0 l0
            obtain ⟨A, c, xs, hx3, h5⟩ := hcut
            obtain ⟨e0, f0, l0⟩ := h5.kP.cells
            go_upto_region 37 with fail
            refine wp_name (fun W => PSt w g (w.heap.size + 1) bp p.q p.s (.slice A xs.length c) xs 0 p.by_ (N + 300) W) (h5.pF 0) ?_
            clear h5 e0 f0 l0
            rintro W7 h7
            obtain ⟨e0, f0, l0⟩ := h7.kP.cells
            refine rel2_tail_b 8 [(4, IsPick 40, NoFact), (6, IsInt, NoFact)] h7.rd (by kernel_rfl) (by kernel_rfl) ?_
            simp only [List.take_succ_cons, List.take_zero, List.drop_succ_cons, List.drop_zero]
            iterate 4 ((apply rel2_plain (hR := rfl) (hF := fun _ => trivial) (hg := rfl)); (focus ((intro w' hL'); (obtain ⟨hcS, hfS⟩ := gcell1 hL'); (go_simp); (try go_bits); (try (first | (rw [if_pos (by omega)]; done) | (rw [if_neg (by omega)]; done) | (rw [if_pos (by omega)]; go_simp) | (rw [if_neg (by omega)]; go_simp))); (first | with_reducible rfl | exact rfl | skip))); (simp only [Act.put, List.setIfInBounds_toArray, List.set_cons_zero, List.set_cons_succ]))
            ((apply rel2_told (hR := rfl) (hg := rfl)); (focus ((refine ⟨.int .i64 0, ?_⟩); ((repeat (first | (refine Tell2.hits rfl ?_) | (refine Tell2.skips rfl ?_))); exact ⟨0, rfl, Int.le_refl _, .inr rfl⟩))); (focus ((intro w' M hL' hR' hM' hD'); (obtain ⟨hcS, hfS⟩ := gcell1 hL'); skip; (go_simp); (try go_bits); (try (first | (rw [if_pos (by omega)]; done) | (rw [if_neg (by omega)]; done) | (rw [if_pos (by omega)]; go_simp) | (rw [if_neg (by omega)]; go_simp))); ((go_at_call 69); (refine (spec_pick_c _ M _ _ hR' (by omega)).mono ?_); (rintro e w'' ⟨vp, rfl, h0, h1, hg, hr⟩); (refine ⟨_, rfl, hg, ?_, hr⟩); ((repeat (first | (refine Tell2.hit rfl ?_) | (refine Tell2.skip rfl ?_))); exact ⟨⟨vp, rfl, h0, h1⟩, trivial⟩)))); (intro v' hv'); (replace hv' := Tell2.outs hv' rfl); (obtain ⟨v1, rfl, hv0, hv1⟩ := hv'); (simp only [Act.put, List.setIfInBounds_toArray, List.set_cons_zero, List.set_cons_succ]))
            ((apply rel2_plain (hR := rfl) (hF := fun _ => trivial) (hg := rfl)); (focus ((intro w' hL'); (obtain ⟨hcS, hfS⟩ := gcell1 hL'); (go_simp); (try go_bits); (try (first | (rw [if_pos (by omega)]; done) | (rw [if_neg (by omega)]; done) | (rw [if_pos (by omega)]; go_simp) | (rw [if_neg (by omega)]; go_simp))); (first | with_reducible rfl | exact rfl | skip))); (simp only [Act.put, List.setIfInBounds_toArray, List.set_cons_zero, List.set_cons_succ]))
            ((apply rel2_told (hR := rfl) (hg := rfl)); (focus ((refine ⟨.int .i64 0, ?_⟩); ((repeat (first | (refine Tell2.hits rfl ?_) | (refine Tell2.skips rfl ?_))); exact ⟨0, rfl⟩))); (focus ((intro w' M hL' hR' hM' hD'); (obtain ⟨hcS, hfS⟩ := gcell1 hL'); skip; (go_simp); (try go_bits); (try (first | (rw [if_pos (by omega)]; done) | (rw [if_neg (by omega)]; done) | (rw [if_pos (by omega)]; go_simp) | (rw [if_neg (by omega)]; go_simp))); ((go_at_call 88); (refine (spec_l1Min_c _ _ _).mono ?_); (rintro e w'' ⟨rfl, rfl⟩); (refine ⟨_, rfl, GrownS.refl _ _, ?_, hR'.up (by omega)⟩); ((repeat (first | (refine Tell2.hit rfl ?_) | (refine Tell2.skip rfl ?_))); exact ⟨⟨_, rfl⟩, trivial⟩)))); (intro v' hv'); (replace hv' := Tell2.outs hv' rfl); (obtain ⟨zm, rfl⟩ := hv'); (simp only [Act.put, List.setIfInBounds_toArray, List.set_cons_zero, List.set_cons_succ]))
            ((apply rel2_plain (hR := rfl) (hF := fun _ => trivial) (hg := rfl)); (focus ((intro w' hL'); (obtain ⟨hcS, hfS⟩ := gcell1 hL'); (go_simp); (try go_bits); (try (first | (rw [if_pos (by omega)]; done) | (rw [if_neg (by omega)]; done) | (rw [if_pos (by omega)]; go_simp) | (rw [if_neg (by omega)]; go_simp))); (first | with_reducible rfl | exact rfl | skip))); (simp only [Act.put, List.setIfInBounds_toArray, List.set_cons_zero, List.set_cons_succ]))
            refine rel2_nil ?_
            intro w6 hL6 hR6 hF6
            clear hF6
            have h6 := h7.go hL6 hR6
            obtain ⟨hc, hf⟩ := gcell1 hL6
            go_wp2
            go_meet
            case rel => exact (h6.pB _).pf (by omega) (by omega)
      · have hb0 : (v1 == 0) = false := by simp [hv0']
        have hb1 : (v1 == 1) = false := by simp [hv1']
        have hb2 : (v1 == 2) = false := by simp [hv2']
        go_wp2
        go_meet
        case rel => exact hP4.pf (by omega) (by omega)
    obtain ⟨q, s, A5, c5, xs, fr, by_, hl, h5⟩ := hcut
    clear hP4
    have hl3 := h5.lt
    have nR := h5.row.neB2 h5.kR (by decide)
    have hO5 := h5.row
    have hfr := h5.fr
    have hG5 := h5.gr
    have hR5 := h5.rd
    obtain ⟨e5, f5, l5⟩ := h5.kR.cells
    obtain ⟨e6, f6, l6⟩ := h5.kP.cells
    clear h5
    replace nR := Lib.hid nR
    replace hfr := Lib.hid hfr
    go_wp2
    (refine bodyPost_ret (res_c rfl _ [.int .i64 q, .int .i64 s, .slice A5 xs.length c5, .int .i64 fr, .int .i64 by_] rfl _ Try.underlying43 rfl (by kernel_rfl) (by simp only [CellsAt, and_true]; and_intros <;> go_simp)) rfl ?_)
    have nR' := nR.out
    refine ⟨⟨q, s, xs, fr, by_⟩, A5, c5, rfl, hl, ?_, hfr.out, (by repeat' (first | with_reducible exact GrownS.refl _ _ | with_reducible assumption | with_reducible refine gr_alloc ?_ _ | with_reducible refine gr_drew ?_ | with_reducible refine gr_s1 ?_ (by omega) _ _ | with_reducible refine GrownS.trans ?_ (by with_reducible assumption) | with_reducible refine gr_b ?_ (by with_reducible assumption))), Rdr.up (N := N + 2600) (by repeat' (first | with_reducible assumption | with_reducible refine Rdr.a ?_ _ | with_reducible refine Rdr.d ?_ | with_reducible refine Rdr.s1 ?_ (by omega) _ _ | with_reducible refine Rdr.b ?_ (by with_reducible assumption))) (by omega)⟩
    exact (by repeat' (first | with_reducible assumption | with_reducible refine Own.s ?_ _ (fun k hk => by have := nR' k hk; (try simp only); omega) | with_reducible refine Own.a ?_ _ | with_reducible refine Own.d ?_ | with_reducible refine Own.dN ?_ _ | with_reducible refine Own.b ?_ (by with_reducible assumption)))
end Go.Proofs.Ytpeojnknfonmlaa
