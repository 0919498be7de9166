/- What is drawn: boxes. -/
import Derived.Test.YtpeojnknfonmlaaQA
import Derived.Test.YtpeojnknfonmlaaHB
set_option linter.unusedVariables false
set_option linter.unusedSimpArgs false
namespace Go.Proofs.Ytpeojnknfonmlaa
open Go.RowKit
/-- a box that is being drawn -/
structure BSt (t e : TypeId) (w : World) (g R b N : Nat) (x : LL.Box) (W : World) : Prop where
  gr : GrownS w W (fun k => k = g)
  rd : Rdr t W g N
  kR : Blk W R #[.int .i64 0, .int .i64 0, .int .i64 0, .int .i64 0, .int .i64 0, .int .i64 0] e
  kB : Blk W b #[.int .i64 x.x, .int .i64 x.y, .int .i64 x.lo, .int .i64 x.hi, .int .i64 x.i, .int .i64 x.o] e
  lt : g < w.heap.size ∧ w.heap.size ≤ R ∧ w.heap.size ≤ b ∧ R ≠ b
theorem BSt.go {t e : TypeId} {w W W' : World} {g R b N M : Nat} {x : LL.Box} (h : BSt t e w g R b N x W) (hg : GrownS W W' (fun k => k = g)) (hr : Rdr t W' g M) : BSt t e w g R b M x W' := by
  have hl := h.lt
  exact ⟨h.gr.trans hg, hr, h.kR.g1 hg (by omega), h.kB.g1 hg (by omega), h.lt⟩
theorem BSt.up {t e : TypeId} {w W : World} {g R b N M : Nat} {x : LL.Box} (h : BSt t e w g R b N x W) (hM : N ≤ M) : BSt t e w g R b M x W := { h with rd := h.rd.up hM }
theorem BSt.put {t e : TypeId} {w W : World} {g R b N : Nat} {x y : LL.Box} (h : BSt t e w g R b N x W) (i : Nat) (u : Value) (hy : #[.int .i64 y.x, .int .i64 y.y, .int .i64 y.lo, .int .i64 y.hi, .int .i64 y.i, .int .i64 y.o] = (#[.int .i64 x.x, .int .i64 x.y, .int .i64 x.lo, .int .i64 x.hi, .int .i64 x.i, .int .i64 x.o] : Array Value).setIfInBounds i u) : BSt t e w g R b N y (W.setCell ⟨b, i, none⟩ u) := by
  have hl := h.lt
  exact ⟨gr_s1 h.gr (by omega) i _, h.rd.s1 (by omega) i _, h.kR.s (by simp only [ne_eq]; omega) _, by rw [hy]; exact h.kB.put i u, h.lt⟩
/-- some box -/
def BAny (t e : TypeId) (w : World) (g R b N : Nat) (W : World) : Prop := ∃ x, BSt t e w g R b N x W
theorem BSt.any {t e : TypeId} {w W : World} {g R b N : Nat} {x : LL.Box} (h : BSt t e w g R b N x W) (i : Nat) (hi : i < 6) (z : Int) {M : Nat} (hM : N ≤ M) : BAny t e w g R b M (W.setCell ⟨b, i, none⟩ (.int .i64 z)) := by
  match i, hi with
  | 0, _ => exact ⟨_, (h.put (y := ⟨z, x.y, x.lo, x.hi, x.i, x.o⟩) 0 _ rfl).up hM⟩
  | 1, _ => exact ⟨_, (h.put (y := ⟨x.x, z, x.lo, x.hi, x.i, x.o⟩) 1 _ rfl).up hM⟩
  | 2, _ => exact ⟨_, (h.put (y := ⟨x.x, x.y, z, x.hi, x.i, x.o⟩) 2 _ rfl).up hM⟩
  | 3, _ => exact ⟨_, (h.put (y := ⟨x.x, x.y, x.lo, z, x.i, x.o⟩) 3 _ rfl).up hM⟩
  | 4, _ => exact ⟨_, (h.put (y := ⟨x.x, x.y, x.lo, x.hi, z, x.o⟩) 4 _ rfl).up hM⟩
  | 5, _ => exact ⟨_, (h.put (y := ⟨x.x, x.y, x.lo, x.hi, x.i, z⟩) 5 _ rfl).up hM⟩
set_option maxRecDepth 100000 in
set_option maxHeartbeats 4000000 in
theorem spec_l11DrawBox_c (g N : Nat) (w : World) (hr : Rdr 116 w g N) (hN : N ≤ 1000000) : Calls Try.prog 110 #[.pointer (some ⟨g, 0, none⟩)] w fun e w' => ∃ x : LL.Box, e = .returned (.agg #[.int .i64 x.x, .int .i64 x.y, .int .i64 x.lo, .int .i64 x.hi, .int .i64 x.i, .int .i64 x.o]) ∧ GrownS w w' (fun k => k = g) ∧ Rdr 116 w' g (N + 30) := by
  have hlt := hr.lt
  have n0 : w.heap.size ≠ g := by omega
  go_enter Try.func110, Try.ntmps110
  go_upto_region 2 with (go_at_call 100; (refine pick11_mono (N := ?_) ?_ ?_ ?_); (rotate_left); (focus (exact (by repeat' (first | with_reducible assumption | with_reducible refine Rdr.a ?_ _ | with_reducible refine Rdr.d ?_ | with_reducible refine Rdr.s1 ?_ (by omega) _ _ | with_reducible refine Rdr.b ?_ (by with_reducible assumption))))); (focus omega); intro v1 w1 hv0 hv1 hg1 hr1; obtain ⟨hc, hf⟩ := gcell1 hg1; (try simp only [World.size_drew] at hc hf); have hz := hg1.size; (try simp only [World.size_setCell, World.size_alloc, World.size_drew] at hz); (try have hv2 := pk_lt hv1 (by omega)); have yw1_0 : w.heap.size < w1.heap.size := (by omega))
  refine wp_name (fun W => ∃ b x0 x1 x2 x4, b = w1.heap.size ∧ GrownS w W (fun k => k = g) ∧ Rdr 116 W g (N + 4) ∧ Blk W w.heap.size #[.int .i64 0, .int .i64 0, .int .i64 0, .int .i64 0, .int .i64 0, .int .i64 0] 36 ∧ Blk W b #[.int .i64 x0, .int .i64 x1, .int .i64 x2, .int .i64 0, .int .i64 x4, .int .i64 0] 36 ∧ w.heap.size < b) ?_ ?_
  · exact ⟨_, _, _, _, _, rfl, gr_alloc (by repeat' (first | with_reducible exact GrownS.refl _ _ | with_reducible assumption | with_reducible refine gr_alloc ?_ _ | with_reducible refine gr_drew ?_ | with_reducible refine gr_s1 ?_ (by omega) _ _ | with_reducible refine GrownS.trans ?_ (by with_reducible assumption) | with_reducible refine gr_b ?_ (by with_reducible assumption))) _, (Rdr.up (N := N + 1 + 1 + 1 + 1) (by repeat' (first | with_reducible assumption | with_reducible refine Rdr.a ?_ _ | with_reducible refine Rdr.d ?_ | with_reducible refine Rdr.s1 ?_ (by omega) _ _ | with_reducible refine Rdr.b ?_ (by with_reducible assumption))) (by omega)).a _, (by repeat' (first | with_reducible assumption | with_reducible exact Blk.new _ _ _ | with_reducible exact Blk.new' _ _ (by simp only [World.size_alloc, World.size_setCell, World.size_drew]) | with_reducible exact Blk.new' _ _ (by omega) | with_reducible refine Blk.a ?_ _ | with_reducible refine Blk.d ?_ | with_reducible refine Blk.dN ?_ _ | with_reducible refine Blk.s ?_ (by simp only [ne_eq]; omega) _ | with_reducible refine Blk.b ?_ (by with_reducible assumption) | with_reducible refine Blk.g1 ?_ (by with_reducible assumption) (by omega))), Blk.new _ _ _, by omega⟩
  rintro W ⟨b, x0, x1, x2, x4, rfl, hG, hR, kR, kB, hb⟩
  have hP : BSt 116 36 w g w.heap.size w1.heap.size (N + 4) ⟨x0, x1, x2, 0, x4, 0⟩ W := ⟨hG, hR, kR, kB, hlt, by omega, by omega, by omega⟩
  clear hG hR kR kB hc hf hz hg1 hr1
  generalize w1.heap.size = b at *
  have nb : b ≠ g := by omega
  go_cut [] (fun wc => BAny 116 36 w g w.heap.size b (N + 10) wc)
  case first =>
    obtain ⟨e1, f1, l1⟩ := hP.kB.cells
    have hR := hP.rd
    refine rel2_tail_b 6 [(3, IsPick 3, NoFact)] hR (by kernel_rfl) (by kernel_rfl) ?_
    simp only [List.take_succ_cons, List.take_zero, List.drop_succ_cons, List.drop_zero]
    iterate 3 ((apply rel2_plain (hR := rfl) (hF := fun _ => trivial) (hg := rfl)); (focus ((intro w' hL'); (obtain ⟨hcS, hfS⟩ := gcell1 hL'); (go_simp); (try go_bits); (try (first | (rw [if_pos (by omega)]; done) | (rw [if_neg (by omega)]; done) | (rw [if_pos (by omega)]; go_simp) | (rw [if_neg (by omega)]; go_simp))); (first | with_reducible rfl | exact rfl | skip))); (simp only [Act.put, List.setIfInBounds_toArray, List.set_cons_zero, List.set_cons_succ]))
    ((apply rel2_told (hR := rfl) (hg := rfl)); (focus ((refine ⟨.int .i64 0, ?_⟩); ((repeat (first | (refine Tell2.hits rfl ?_) | (refine Tell2.skips rfl ?_))); exact ⟨0, rfl, Int.le_refl _, .inr rfl⟩))); (focus ((intro w' M hL' hR' hM' hD'); (obtain ⟨hcS, hfS⟩ := gcell1 hL'); skip; (go_simp); (try go_bits); (try (first | (rw [if_pos (by omega)]; done) | (rw [if_neg (by omega)]; done) | (rw [if_pos (by omega)]; go_simp) | (rw [if_neg (by omega)]; go_simp))); ((go_at_call 100); (refine (spec_pick11_c _ M _ _ hR' (by omega)).mono ?_); (rintro e w'' ⟨vp, rfl, h0, h1, hg, hr⟩); (refine ⟨_, rfl, hg, ?_, hr⟩); ((repeat (first | (refine Tell2.hit rfl ?_) | (refine Tell2.skip rfl ?_))); exact ⟨⟨vp, rfl, h0, h1⟩, trivial⟩)))); (intro v' hv'); (replace hv' := Tell2.outs hv' rfl); (obtain ⟨v1, rfl, hv0, hv1⟩ := hv'); (simp only [Act.put, List.setIfInBounds_toArray, List.set_cons_zero, List.set_cons_succ]))
    ((apply rel2_plain (hR := rfl) (hF := fun _ => trivial) (hg := rfl)); (focus ((intro w' hL'); (obtain ⟨hcS, hfS⟩ := gcell1 hL'); (go_simp); (try go_bits); (try (first | (rw [if_pos (by omega)]; done) | (rw [if_neg (by omega)]; done) | (rw [if_pos (by omega)]; go_simp) | (rw [if_neg (by omega)]; go_simp))); (first | with_reducible rfl | exact rfl | skip))); (simp only [Act.put, List.setIfInBounds_toArray, List.set_cons_zero, List.set_cons_succ]))
    ((apply rel2_plain (hR := rfl) (hF := fun _ => trivial) (hg := rfl)); (focus ((intro w' hL'); (obtain ⟨hcS, hfS⟩ := gcell1 hL'); (go_simp); (try go_bits); (try (first | (rw [if_pos (by omega)]; done) | (rw [if_neg (by omega)]; done) | (rw [if_pos (by omega)]; go_simp) | (rw [if_neg (by omega)]; go_simp))); (first | with_reducible rfl | exact rfl | skip))); (simp only [Act.put, List.setIfInBounds_toArray, List.set_cons_zero, List.set_cons_succ]))
    refine rel2_nil ?_
    intro w6 hL6 hR6 hF6
    clear hF6
    have h6 := hP.go hL6 hR6
    obtain ⟨hc, hf⟩ := gcell1 hL6
    go_wp2
    go_meet
    case rel => exact h6.any 3 (by omega) _ (by omega)
  obtain ⟨x, hP2⟩ := hcut
  clear hP
  go_upto_region 3 with fail
  go_cut [] (fun wc => BAny 116 36 w g w.heap.size b (N + 16) wc)
  case first =>
    obtain ⟨e1, f1, l1⟩ := hP2.kB.cells
    have hR := hP2.rd
    refine rel2_tail_b 6 [(3, IsPick 20, NoFact)] hR (by kernel_rfl) (by kernel_rfl) ?_
    simp only [List.take_succ_cons, List.take_zero, List.drop_succ_cons, List.drop_zero]
    iterate 3 ((apply rel2_plain (hR := rfl) (hF := fun _ => trivial) (hg := rfl)); (focus ((intro w' hL'); (obtain ⟨hcS, hfS⟩ := gcell1 hL'); (go_simp); (try go_bits); (try (first | (rw [if_pos (by omega)]; done) | (rw [if_neg (by omega)]; done) | (rw [if_pos (by omega)]; go_simp) | (rw [if_neg (by omega)]; go_simp))); (first | with_reducible rfl | exact rfl | skip))); (simp only [Act.put, List.setIfInBounds_toArray, List.set_cons_zero, List.set_cons_succ]))
    ((apply rel2_told (hR := rfl) (hg := rfl)); (focus ((refine ⟨.int .i64 0, ?_⟩); ((repeat (first | (refine Tell2.hits rfl ?_) | (refine Tell2.skips rfl ?_))); exact ⟨0, rfl, Int.le_refl _, .inr rfl⟩))); (focus ((intro w' M hL' hR' hM' hD'); (obtain ⟨hcS, hfS⟩ := gcell1 hL'); skip; (go_simp); (try go_bits); (try (first | (rw [if_pos (by omega)]; done) | (rw [if_neg (by omega)]; done) | (rw [if_pos (by omega)]; go_simp) | (rw [if_neg (by omega)]; go_simp))); ((go_at_call 100); (refine (spec_pick11_c _ M _ _ hR' (by omega)).mono ?_); (rintro e w'' ⟨vp, rfl, h0, h1, hg, hr⟩); (refine ⟨_, rfl, hg, ?_, hr⟩); ((repeat (first | (refine Tell2.hit rfl ?_) | (refine Tell2.skip rfl ?_))); exact ⟨⟨vp, rfl, h0, h1⟩, trivial⟩)))); (intro v' hv'); (replace hv' := Tell2.outs hv' rfl); (obtain ⟨v1, rfl, hv0, hv1⟩ := hv'); (simp only [Act.put, List.setIfInBounds_toArray, List.set_cons_zero, List.set_cons_succ]))
    ((apply rel2_plain (hR := rfl) (hF := fun _ => trivial) (hg := rfl)); (focus ((intro w' hL'); (obtain ⟨hcS, hfS⟩ := gcell1 hL'); (go_simp); (try go_bits); (try (first | (rw [if_pos (by omega)]; done) | (rw [if_neg (by omega)]; done) | (rw [if_pos (by omega)]; go_simp) | (rw [if_neg (by omega)]; go_simp))); (first | with_reducible rfl | exact rfl | skip))); (simp only [Act.put, List.setIfInBounds_toArray, List.set_cons_zero, List.set_cons_succ]))
    ((apply rel2_plain (hR := rfl) (hF := fun _ => trivial) (hg := rfl)); (focus ((intro w' hL'); (obtain ⟨hcS, hfS⟩ := gcell1 hL'); (go_simp); (try go_bits); (try (first | (rw [if_pos (by omega)]; done) | (rw [if_neg (by omega)]; done) | (rw [if_pos (by omega)]; go_simp) | (rw [if_neg (by omega)]; go_simp))); (first | with_reducible rfl | exact rfl | skip))); (simp only [Act.put, List.setIfInBounds_toArray, List.set_cons_zero, List.set_cons_succ]))
    refine rel2_nil ?_
    intro w6 hL6 hR6 hF6
    clear hF6
    have h6 := hP2.go hL6 hR6
    obtain ⟨hc, hf⟩ := gcell1 hL6
    go_wp2
    go_meet
    case rel => exact h6.any 5 (by omega) _ (by omega)
  obtain ⟨x, hP3⟩ := hcut
  clear hP2
  have hR := hP3.rd
  have lb := blk_lt hP3.kB.at_
  go_upto_block 0 with (go_at_call 100; (refine pick11_mono (N := ?_) ?_ ?_ ?_); (rotate_left); (focus (exact (by repeat' (first | with_reducible assumption | with_reducible refine Rdr.a ?_ _ | with_reducible refine Rdr.d ?_ | with_reducible refine Rdr.s1 ?_ (by omega) _ _ | with_reducible refine Rdr.b ?_ (by with_reducible assumption))))); (focus omega); intro v1 w4 hv0 hv1 hg1 hr1; obtain ⟨hc, hf⟩ := gcell1 hg1; (try simp only [World.size_drew] at hc hf); have hz := hg1.size; (try simp only [World.size_setCell, World.size_alloc, World.size_drew] at hz); (try have hv2 := pk_lt hv1 (by omega)); have yw4_0 : b < w4.heap.size := (by omega))
  have hP4 := hP3.go hg1 hr1
  clear hg1 hr1 hc hf hz hP3 hR lb
  go_cut [] (fun wc => BAny 116 36 w g w.heap.size b (N + 20) wc)
  case first =>
    have hR := hP4.rd
    obtain ⟨e1, f1, l1⟩ := hP4.kB.cells
    have lb := blk_lt hP4.kB.at_
    by_cases h0 : v1 = 0
    · subst h0
      go_wp2_with (go_at_call 100; (refine pick11_mono (N := ?_) ?_ ?_ ?_); (rotate_left); (focus (exact (by repeat' (first | with_reducible assumption | with_reducible refine Rdr.a ?_ _ | with_reducible refine Rdr.d ?_ | with_reducible refine Rdr.s1 ?_ (by omega) _ _ | with_reducible refine Rdr.b ?_ (by with_reducible assumption))))); (focus omega); intro v1 w5 hv0 hv1 hg1 hr1; obtain ⟨hc, hf⟩ := gcell1 hg1; (try simp only [World.size_drew] at hc hf); have hz := hg1.size; (try simp only [World.size_setCell, World.size_alloc, World.size_drew] at hz); (try have hv2 := pk_lt hv1 (by omega)); have yw5_0 : b < w5.heap.size := (by omega))
      go_meet
      case rel => exact (hP4.go hg1 hr1).any 0 (by omega) _ (by omega)
    by_cases h1 : v1 = 1
    · subst h1
      go_wp2_with (go_at_call 100; (refine pick11_mono (N := ?_) ?_ ?_ ?_); (rotate_left); (focus (exact (by repeat' (first | with_reducible assumption | with_reducible refine Rdr.a ?_ _ | with_reducible refine Rdr.d ?_ | with_reducible refine Rdr.s1 ?_ (by omega) _ _ | with_reducible refine Rdr.b ?_ (by with_reducible assumption))))); (focus omega); intro v1 w5 hv0 hv1 hg1 hr1; obtain ⟨hc, hf⟩ := gcell1 hg1; (try simp only [World.size_drew] at hc hf); have hz := hg1.size; (try simp only [World.size_setCell, World.size_alloc, World.size_drew] at hz); (try have hv2 := pk_lt hv1 (by omega)); have yw5_0 : b < w5.heap.size := (by omega))
      go_meet
      case rel =>
        have h5 := (hP4.put (y := ⟨x.x, x.y, x.lo, x.hi, x.i, 10000⟩) 5 (.int .i64 10000) rfl).go hg1 hr1
        exact h5.any 4 (by omega) _ (by omega)
    by_cases h2 : v1 = 2
    · subst h2
      go_wp2
      go_meet
      case rel => exact hP4.any 3 (by omega) _ (by omega)
    · have b0 : (v1 == 0) = false := by simp [h0]
      have b1 : (v1 == 1) = false := by simp [h1]
      have b2 : (v1 == 2) = false := by simp [h2]
      go_wp2
      go_meet
      case rel => exact ⟨x, hP4.up (by omega)⟩
  obtain ⟨y, hP5⟩ := hcut
  clear hP4
  obtain ⟨e1, f1, l1⟩ := hP5.kB.cells
  obtain ⟨e0, f0, l0⟩ := hP5.kR.cells
  have hG := hP5.gr
  have hR := hP5.rd
  go_wp2
  (refine bodyPost_ret (res_c rfl _ [.int .i64 y.x, .int .i64 y.y, .int .i64 y.lo, .int .i64 y.hi, .int .i64 y.i, .int .i64 y.o] rfl _ Try.underlying36 rfl (by kernel_rfl) (by simp only [CellsAt, and_true]; and_intros <;> go_simp)) rfl ?_)
  exact ⟨y, rfl, (by repeat' (first | with_reducible exact GrownS.refl _ _ | with_reducible assumption | with_reducible refine gr_alloc ?_ _ | with_reducible refine gr_drew ?_ | with_reducible refine gr_s1 ?_ (by omega) _ _ | with_reducible refine GrownS.trans ?_ (by with_reducible assumption) | with_reducible refine gr_b ?_ (by with_reducible assumption))), Rdr.up (N := N + 20) (by repeat' (first | with_reducible assumption | with_reducible refine Rdr.a ?_ _ | with_reducible refine Rdr.d ?_ | with_reducible refine Rdr.s1 ?_ (by omega) _ _ | with_reducible refine Rdr.b ?_ (by with_reducible assumption))) (by omega)⟩
theorem l11DrawBox_mono {Q : Ending → World → Prop} {g N : Nat} {w : World} (hr : Rdr 116 w g N) (hN : N ≤ 1000000) (hk : ∀ (x : LL.Box) (w' : World), GrownS w w' (fun k => k = g) → Rdr 116 w' g (N + 30) → Q (.returned (.agg #[.int .i64 x.x, .int .i64 x.y, .int .i64 x.lo, .int .i64 x.hi, .int .i64 x.i, .int .i64 x.o])) w') : Calls Try.prog 110 #[.pointer (some ⟨g, 0, none⟩)] w Q :=
  (spec_l11DrawBox_c g N w hr hN).mono fun e w' ⟨x, he, hg, hr'⟩ => by subst he; exact hk x w' hg hr'
end Go.Proofs.Ytpeojnknfonmlaa
