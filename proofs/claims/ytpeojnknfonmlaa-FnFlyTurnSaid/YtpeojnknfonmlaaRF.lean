/- What is drawn: any path. -/
import Derived.Test.YtpeojnknfonmlaaRD
import Derived.Test.YtpeojnknfonmlaaRE
set_option linter.unusedVariables false
set_option linter.unusedSimpArgs false
namespace Go.Proofs.Ytpeojnknfonmlaa
open Go.RowKit
set_option maxRecDepth 100000 in
set_option maxHeartbeats 4000000 in
theorem spec_l10Any_c (g N : Nat) (w : World) (hr : Rdr 121 w g N) (hN : N ≤ 90000) : Calls Try.prog 68 #[.pointer (some ⟨g, 0, none⟩)] w fun e w' => ∃ (p : LL.Path) (A : Option Addr) (c : Nat), e = .returned (.agg #[.int .i64 p.q, .int .i64 p.s, .slice A p.steps.length c, .int .i64 p.fr, .int .i64 p.by_]) ∧ p.steps.length ≤ 60 ∧ Own stepC 7 56 79 w' (.slice A p.steps.length c) p.steps ∧ (∀ j, (Value.slice A p.steps.length c).ownBlock = some j → w.heap.size ≤ j) ∧ GrownS w w' (fun k => k = g) ∧ Rdr 121 w' g (N + 3600) := by
  have hlt := hr.lt
  have n0 : w.heap.size ≠ g := by omega
  go_enter Try.func68, Try.ntmps68
  go_upto_region 2 with (go_at_call 95; (refine l10Path_mono (N := ?_) ?_ ?_ ?_); (rotate_left); (focus (exact (by repeat' (first | with_reducible assumption | with_reducible refine Rdr.a ?_ _ | with_reducible refine Rdr.d ?_ | with_reducible refine Rdr.s1 ?_ (by omega) _ _ | with_reducible refine Rdr.b ?_ (by with_reducible assumption))))); (focus omega); intro p A c w2 hp1 hp2 hO2 hfr2 hg2 hr2; obtain ⟨hc, hf⟩ := gcell1 hg2; have hz2 := hg2.size; simp only [World.size_alloc] at hz2 hfr2)
  have kR2 : Blk (w2.alloc (.cells #[.int .i64 p.q, .int .i64 p.s, .slice A p.steps.length c, .int .i64 p.fr, .int .i64 p.by_] 43)) w.heap.size #[.int .i64 0, .int .i64 0, .slice none 0 0, .int .i64 0, .int .i64 0] 43 := ((Blk.new w #[.int .i64 0, .int .i64 0, .slice none 0 0, .int .i64 0, .int .i64 0] 43).g1 hg2 n0).a _
  have kP2 := Blk.new w2 #[.int .i64 p.q, .int .i64 p.s, .slice A p.steps.length c, .int .i64 p.fr, .int .i64 p.by_] 43
  have hO3 := hO2.a (.cells #[.int .i64 p.q, .int .i64 p.s, .slice A p.steps.length c, .int .i64 p.fr, .int .i64 p.by_] 43)
  have hr3 := hr2.a (.cells #[.int .i64 p.q, .int .i64 p.s, .slice A p.steps.length c, .int .i64 p.fr, .int .i64 p.by_] 43)
  have hG3 : GrownS w (w2.alloc (.cells #[.int .i64 p.q, .int .i64 p.s, .slice A p.steps.length c, .int .i64 p.fr, .int .i64 p.by_] 43)) (fun k => k = g) := gr_alloc ((gr_alloc (GrownS.refl _ _) _).trans hg2) _
  have hfr3 : ∀ j, (Value.slice A p.steps.length c).ownBlock = some j → w.heap.size + 1 ≤ j := hfr2
  clear hg2 hr2 hO2 hc hf hfr2
  have n2 : w2.heap.size ≠ g := by omega
  generalize w2.alloc (.cells #[.int .i64 p.q, .int .i64 p.s, .slice A p.steps.length c, .int .i64 p.fr, .int .i64 p.by_] 43) = w3 at *
  generalize w2.heap.size = bp at *
  obtain ⟨e0, f0, l0⟩ := kR2.cells
  obtain ⟨e1, f1, l1⟩ := kP2.cells
  replace hfr3 := Lib.hid hfr3
  go_upto_region 3 with (go_at_call 69; (refine pick_mono (N := ?_) ?_ ?_ ?_); (rotate_left); (focus (exact (by repeat' (first | with_reducible assumption | with_reducible refine Rdr.a ?_ _ | with_reducible refine Rdr.d ?_ | with_reducible refine Rdr.s1 ?_ (by omega) _ _ | with_reducible refine Rdr.b ?_ (by with_reducible assumption))))); (focus omega); intro v1 w4 hv0 hv1 hg1 hr1; obtain ⟨hc, hf⟩ := gcell1 hg1; (try simp only [World.size_drew] at hc hf); have hz := hg1.size; (try simp only [World.size_setCell, World.size_alloc, World.size_drew] at hz); have yw4_0 : w.heap.size < w4.heap.size := (by omega); have yw4_1 : bp < w4.heap.size := (by omega))
  have kR4 := kR2.g1 hg1 n0
  have kP4 := kP2.g1 hg1 n2
  have hO4 := hO3.g1 hg1 hfr3.out (by omega)
  have hG4 := hG3.trans hg1
  have hR4 := hr1
  clear hc hf hg1 hr1 hG3 hr3 hO3 kR2 kP2 e0 f0 l0 e1 f1 l1
  obtain ⟨e0, f0, l0⟩ := kR4.cells
  obtain ⟨e1, f1, l1⟩ := kP4.cells
  have hnR := hO4.neB2 kR4 (by decide)
  replace hnR := Lib.hid hnR
  by_cases hv0' : v1 = 0
  · subst hv0'
    go_wp2_with (go_at_call 94; (refine l10Spoil_mono (N := ?_) (p := p) (hO4.rd_at' stepE) hp1 hp2 ?_ ?_ ?_); (rotate_left); (focus (exact hR4)); (focus omega); intro p5 A5 c5 w5 hp5 hO5 hfr5 hg5 hr5; have kR5 := kR4.g1 hg5 n0; obtain ⟨e5, f5, l5⟩ := kR5.cells; have hnR5 := hO5.neB2 kR5 (by decide); replace hnR5 := Lib.hid hnR5; have hG5 := hG4.trans hg5)
    (refine bodyPost_ret (res_c rfl _ [.int .i64 p5.q, .int .i64 p5.s, .slice A5 p5.steps.length c5, .int .i64 p5.fr, .int .i64 p5.by_] rfl _ Try.underlying43 rfl (by kernel_rfl) (by simp only [CellsAt, and_true]; and_intros <;> go_simp)) rfl ?_)
    have hnR6 := hnR5.out
    refine ⟨p5, A5, c5, rfl, hp5, ?_, fun j hj => by have := hfr5 j hj; omega, (by repeat' (first | with_reducible exact GrownS.refl _ _ | with_reducible assumption | with_reducible refine gr_alloc ?_ _ | with_reducible refine gr_drew ?_ | with_reducible refine gr_s1 ?_ (by omega) _ _ | with_reducible refine GrownS.trans ?_ (by with_reducible assumption) | with_reducible refine gr_b ?_ (by with_reducible assumption))), Rdr.up (N := N + 3000 + 1 + 500) (by repeat' (first | with_reducible assumption | with_reducible refine Rdr.a ?_ _ | with_reducible refine Rdr.d ?_ | with_reducible refine Rdr.s1 ?_ (by omega) _ _ | with_reducible refine Rdr.b ?_ (by with_reducible assumption))) (by omega)⟩
    exact (by repeat' (first | with_reducible assumption | with_reducible refine Own.s ?_ _ (fun k hk => by have := hnR6 k hk; (try simp only); omega) | with_reducible refine Own.a ?_ _ | with_reducible refine Own.d ?_ | with_reducible refine Own.dN ?_ _ | with_reducible refine Own.b ?_ (by with_reducible assumption)))
  · by_cases hv1' : v1 = 1
    · subst hv1'
      go_wp2_with (go_at_call 105; refine (spec_l10Late_c p A c w.heap.size _ hp2 hO4 (by have := hG4.size; omega) (fun j hj => by have := hfr3.out j hj; omega)).mono ?_; rintro e w5 ⟨p5, A5, c5, rfl, hp5, hO5, hfr5, hb5⟩; have kR5 := kR4.b hb5; obtain ⟨e5, f5, l5⟩ := kR5.cells; have hnR5 := hO5.neB2 kR5 (by decide); replace hnR5 := Lib.hid hnR5; have hG5 := gr_b hG4 hb5; have hr5 := hR4.b hb5; replace hfr5 := Lib.hid hfr5)
      (refine bodyPost_ret (res_c rfl _ [.int .i64 p5.q, .int .i64 p5.s, .slice A5 p5.steps.length c5, .int .i64 p5.fr, .int .i64 p5.by_] rfl _ Try.underlying43 rfl (by kernel_rfl) (by simp only [CellsAt, and_true]; and_intros <;> go_simp)) rfl ?_)
      have hnR6 := hnR5.out
      refine ⟨p5, A5, c5, rfl, by omega, ?_, hfr5.out, (by repeat' (first | with_reducible exact GrownS.refl _ _ | with_reducible assumption | with_reducible refine gr_alloc ?_ _ | with_reducible refine gr_drew ?_ | with_reducible refine gr_s1 ?_ (by omega) _ _ | with_reducible refine GrownS.trans ?_ (by with_reducible assumption) | with_reducible refine gr_b ?_ (by with_reducible assumption))), Rdr.up (N := N + 3000 + 1) (by repeat' (first | with_reducible assumption | with_reducible refine Rdr.a ?_ _ | with_reducible refine Rdr.d ?_ | with_reducible refine Rdr.s1 ?_ (by omega) _ _ | with_reducible refine Rdr.b ?_ (by with_reducible assumption))) (by omega)⟩
      exact (by repeat' (first | with_reducible assumption | with_reducible refine Own.s ?_ _ (fun k hk => by have := hnR6 k hk; (try simp only); omega) | with_reducible refine Own.a ?_ _ | with_reducible refine Own.d ?_ | with_reducible refine Own.dN ?_ _ | with_reducible refine Own.b ?_ (by with_reducible assumption)))
    · have hb0 : (v1 == 0) = false := by simp [hv0']
      have hb1 : (v1 == 1) = false := by simp [hv1']
      go_wp2
      (refine bodyPost_ret (res_c rfl _ [.int .i64 p.q, .int .i64 p.s, .slice A p.steps.length c, .int .i64 p.fr, .int .i64 p.by_] rfl _ Try.underlying43 rfl (by kernel_rfl) (by simp only [CellsAt, and_true]; and_intros <;> go_simp)) rfl ?_)
      have hnR6 := hnR.out
      refine ⟨p, A, c, rfl, by omega, ?_, fun j hj => by have := hfr3.out j hj; omega, (by repeat' (first | with_reducible exact GrownS.refl _ _ | with_reducible assumption | with_reducible refine gr_alloc ?_ _ | with_reducible refine gr_drew ?_ | with_reducible refine gr_s1 ?_ (by omega) _ _ | with_reducible refine GrownS.trans ?_ (by with_reducible assumption) | with_reducible refine gr_b ?_ (by with_reducible assumption))), Rdr.up (N := N + 3000 + 1) (by repeat' (first | with_reducible assumption | with_reducible refine Rdr.a ?_ _ | with_reducible refine Rdr.d ?_ | with_reducible refine Rdr.s1 ?_ (by omega) _ _ | with_reducible refine Rdr.b ?_ (by with_reducible assumption))) (by omega)⟩
      exact (by repeat' (first | with_reducible assumption | with_reducible refine Own.s ?_ _ (fun k hk => by have := hnR6 k hk; (try simp only); omega) | with_reducible refine Own.a ?_ _ | with_reducible refine Own.d ?_ | with_reducible refine Own.dN ?_ _ | with_reducible refine Own.b ?_ (by with_reducible assumption)))
theorem l10Any_mono {Q : Ending → World → Prop} {g N : Nat} {w : World} (hr : Rdr 121 w g N) (hN : N ≤ 90000) (hk : ∀ (p : LL.Path) (A : Option Addr) (c : Nat) (w' : World), p.steps.length ≤ 60 → Own stepC 7 56 79 w' (.slice A p.steps.length c) p.steps → (∀ j, (Value.slice A p.steps.length c).ownBlock = some j → w.heap.size ≤ j) → GrownS w w' (fun k => k = g) → Rdr 121 w' g (N + 3600) → Q (.returned (.agg #[.int .i64 p.q, .int .i64 p.s, .slice A p.steps.length c, .int .i64 p.fr, .int .i64 p.by_])) w') : Calls Try.prog 68 #[.pointer (some ⟨g, 0, none⟩)] w Q :=
  (spec_l10Any_c g N w hr hN).mono fun e w' ⟨p, A, c, he, h2, h3, h4, h5, h6⟩ => by subst he; exact hk p A c w' h2 h3 h4 h5 h6
theorem arr5 {v a b c d e : Int} (h0 : 0 ≤ v) (h1 : v < 5) : ∃ z, #[Value.int .i64 a, .int .i64 b, .int .i64 c, .int .i64 d, .int .i64 e][v.toNat]? = some (.int .i64 z) := by
  rcases (show v = 0 ∨ v = 1 ∨ v = 2 ∨ v = 3 ∨ v = 4 by omega) with rfl | rfl | rfl | rfl | rfl <;> exact ⟨_, rfl⟩
def sel (l : List Int) (v : Int) : Int := l.getD v.toNat 0
theorem arr5s {v a b c d e : Int} (h0 : 0 ≤ v) (h1 : v < 5) : #[Value.int .i64 a, .int .i64 b, .int .i64 c, .int .i64 d, .int .i64 e][v.toNat]? = some (.int .i64 (sel [a, b, c, d, e] v)) := by
  rcases (show v = 0 ∨ v = 1 ∨ v = 2 ∨ v = 3 ∨ v = 4 by omega) with rfl | rfl | rfl | rfl | rfl <;> rfl
theorem arr5g {v a b c d e : Int} (h0 : 0 ≤ v) (h1 : v < 5) (h : v.toNat < #[Value.int .i64 a, .int .i64 b, .int .i64 c, .int .i64 d, .int .i64 e].size) : #[Value.int .i64 a, .int .i64 b, .int .i64 c, .int .i64 d, .int .i64 e][v.toNat]'h = .int .i64 (sel [a, b, c, d, e] v) := by
  have := arr5s (v := v) (a := a) (b := b) (c := c) (d := d) (e := e) h0 h1
  rw [Array.getElem?_eq_getElem h] at this
  exact Option.some.inj this
theorem arr5l {v a b c d e : Int} (h0 : 0 ≤ v) (h1 : v < 5) (h : v.toNat < [Value.int .i64 a, .int .i64 b, .int .i64 c, .int .i64 d, .int .i64 e].length) : [Value.int .i64 a, .int .i64 b, .int .i64 c, .int .i64 d, .int .i64 e][v.toNat]'h = .int .i64 (sel [a, b, c, d, e] v) := arr5g h0 h1 h
theorem put5z {W : World} {R : Nat} {t : TypeId} {u0 u1 u2 u3 u4 : Value} (h : Blk W R #[.int .i64 0, .int .i64 0, .slice none 0 0, .int .i64 0, .int .i64 0] t) : Blk (((((W.setCell ⟨R, 0, none⟩ u0).setCell ⟨R, 1, none⟩ u1).setCell ⟨R, 2, none⟩ u2).setCell ⟨R, 3, none⟩ u3).setCell ⟨R, 4, none⟩ u4) R #[u0, u1, u2, u3, u4] t := by
  simpa using ((((h.put 0 u0).put 1 u1).put 2 u2).put 3 u3).put 4 u4
attribute [local go_sem] arr5s arr5g arr5l
set_option maxRecDepth 100000 in
set_option maxHeartbeats 4000000 in
theorem spec_DrawFlyShift_c (xs : List Int) (F : Option Addr) (m : Nat) (w : World) (h : Rd u8C 1 1 w F xs.length m xs) (hx : ∀ k, 0 ≤ LL.nthI xs k ∧ LL.nthI xs k ≤ 255) : Calls Try.prog 18 #[.slice F xs.length m] w fun e w' => ∃ (p : LL.Path) (A : Option Addr) (c : Nat) (d : Int), e = .returned (.tuple #[.agg #[.int .i64 p.q, .int .i64 p.s, .slice A p.steps.length c, .int .i64 p.fr, .int .i64 p.by_], .int .i64 d]) ∧ p.steps.length ≤ 60 ∧ RdS w' A p.steps.length c p.steps ∧ Below w.heap.size w w' := by
  replace hx := Lib.hid hx
  go_enter Try.func18, Try.ntmps18
  go_upto_region 2 with (go_at_call 67; refine (spec_l1Open_c xs F m _ (h.mono (by repeat' (first | with_reducible exact Below.refl _ _ | with_reducible assumption | with_reducible refine b_alloc ?_ _ | with_reducible refine b_drewN ?_ _ | with_reducible refine b_drew ?_ | with_reducible refine b_set ?_ (by first | (simp only [World.size_setCell, World.size_alloc, World.size_drew]; omega) | (simp; done) | (simp; omega)) _ | with_reducible refine b_step ?_ (by with_reducible assumption)))) hx.out).mono ?_; rintro e w1 ⟨rfl, hb1, hr1, hz1⟩; (try simp only [World.size_alloc] at hr1 hz1))
  go_upto_region 3 with (go_at_call 68; (refine l10Any_mono (N := ?_) ?_ ?_ ?_); (rotate_left); (focus (exact hr1)); (focus omega); intro p A c w2 hp2 hO2 hfr2 hg2 hr2; obtain ⟨hc, hf⟩ := gcell1 hg2; have hz2 := hg2.size)
  have hR : Rdr 121 (w2.alloc (.cells #[.int .i64 p.q, .int .i64 p.s, .slice A p.steps.length c, .int .i64 p.fr, .int .i64 p.by_] 43)) (w.heap.size + 1) (0 + 3600) := hr2.a _
  have n0 : w.heap.size ≠ w.heap.size + 1 := by omega
  have kR2 : Blk (w2.alloc (.cells #[.int .i64 p.q, .int .i64 p.s, .slice A p.steps.length c, .int .i64 p.fr, .int .i64 p.by_] 43)) w.heap.size #[.int .i64 0, .int .i64 0, .slice none 0 0, .int .i64 0, .int .i64 0] 43 := (((Blk.new w #[.int .i64 0, .int .i64 0, .slice none 0 0, .int .i64 0, .int .i64 0] 43).b (by simpa using hb1)).g1 hg2 n0).a _
  have kP2 := Blk.new w2 #[.int .i64 p.q, .int .i64 p.s, .slice A p.steps.length c, .int .i64 p.fr, .int .i64 p.by_] 43
  have hO3 := hO2.a (.cells #[.int .i64 p.q, .int .i64 p.s, .slice A p.steps.length c, .int .i64 p.fr, .int .i64 p.by_] 43)
  have hB3 : Below w.heap.size w (w2.alloc (.cells #[.int .i64 p.q, .int .i64 p.s, .slice A p.steps.length c, .int .i64 p.fr, .int .i64 p.by_] 43)) := b_alloc (b_gS (b_step (b_alloc (Below.refl _ _) _) hb1) hg2 (by omega) (fun k e => by omega)) _
  have hn2 : w2.heap.size ≠ w.heap.size + 1 := by omega
  have hfr3 : ∀ j, (Value.slice A p.steps.length c).ownBlock = some j → w.heap.size + 2 ≤ j := fun j hj => by have := hfr2 j hj; omega
  clear hg2 hr2 hO2 hc hf hfr2 hb1 hr1
  generalize w2.alloc (.cells #[.int .i64 p.q, .int .i64 p.s, .slice A p.steps.length c, .int .i64 p.fr, .int .i64 p.by_] 43) = w3 at *
  generalize w2.heap.size = bp at *
  obtain ⟨e0, f0, l0⟩ := kR2.cells
  obtain ⟨e1, f1, l1⟩ := kP2.cells
  have lg := hR.lt
  generalize hgg : w.heap.size + 1 = g at *
  replace hgg := Lib.hid hgg
  replace hfr3 := Lib.hid hfr3
  have hnR := hO3.neB2 kR2 (by decide)
  replace hnR := Lib.hid hnR
  have hl1 : g < w3.heap.size + 1 := by omega
  have l01 : w.heap.size < w3.heap.size + 1 := by omega
  have l11 : bp < w3.heap.size + 1 := by omega
  go_cut [3] (fun v3 wc => (∃ d, v3 = .int .i64 d) ∧ Blk wc w.heap.size #[.int .i64 p.q, .int .i64 p.s, .slice A p.steps.length c, .int .i64 p.fr, .int .i64 p.by_] 43 ∧ Own stepC 7 56 79 wc (.slice A p.steps.length c) p.steps ∧ Below w.heap.size w wc)
  case first =>
    go_region_with (((go_at_call 69; (refine pick_mono (N := ?_) ?_ ?_ ?_); (rotate_left); (focus (exact (by repeat' (first | with_reducible assumption | with_reducible refine Rdr.a ?_ _ | with_reducible refine Rdr.d ?_ | with_reducible refine Rdr.s1 ?_ (by omega) _ _ | with_reducible refine Rdr.b ?_ (by with_reducible assumption))))); (focus omega); intro v1 w4 hv0 hv1 hg1 hr1; obtain ⟨hc, hf⟩ := gcell1 hg1; (try simp only [World.size_drew] at hc hf); have hz := hg1.size; (try simp only [World.size_setCell, World.size_alloc, World.size_drew] at hz); have yw4_0 : w.heap.size < w4.heap.size := (by omega); have yw4_1 : bp < w4.heap.size := (by omega)); (try have hv2 := pk_lt hv1 (by omega))); have nw4 : w4.heap.size ≠ g := (by omega))
    all_goals (try simp only [List.getElem_toArray, List.getElem_cons_succ, List.getElem_cons_zero, Act.put, List.setIfInBounds_toArray, List.set_cons_zero, List.set_cons_succ])
    all_goals go_wp2
    all_goals (have hg9 := hgg.out; have hnR6 := hnR.out; have hfr6 := hfr3.out; go_meet; case rel => exact ⟨⟨_, rfl⟩, (by repeat' (first | with_reducible assumption | with_reducible refine Blk.a ?_ _ | with_reducible refine Blk.d ?_ | with_reducible refine put5z ?_ | with_reducible refine Blk.g1 ?_ (by with_reducible assumption) (by omega))), (by repeat' (first | with_reducible assumption | with_reducible refine Own.s ?_ _ hnR6 | with_reducible refine Own.a ?_ _ | with_reducible refine Own.d ?_ | with_reducible refine Own.g1 (B := w.heap.size + 2) ?_ (by with_reducible assumption) hfr6 (by omega))), (by repeat' (first | with_reducible assumption | with_reducible refine b_alloc ?_ _ | with_reducible refine b_drew ?_ | with_reducible refine b_set ?_ (by omega) _ | with_reducible refine b_set ?_ (by simp only; omega) _ | with_reducible refine b_gS ?_ (by with_reducible assumption) (by (try simp only [World.size_setCell, World.size_alloc, World.size_drew]); omega) (fun k e => by omega)))⟩)
  obtain ⟨⟨d, rfl⟩, kR5, hO5, hB5⟩ := hcut
  clear e0 f0 l0 e1 f1 l1
  obtain ⟨e0, f0, l0⟩ := kR5.cells
  go_wp2
  (refine bodyPost_ret (res_ct rfl _ [.int .i64 p.q, .int .i64 p.s, .slice A p.steps.length c, .int .i64 p.fr, .int .i64 p.by_] rfl _ rfl _ Try.underlying43 rfl (by kernel_rfl) (by simp only [CellsAt, and_true]; and_intros <;> go_simp)) rfl ?_)
  exact ⟨p, A, c, d, rfl, hp2, hO5.rd_at' stepE, hB5⟩
end Go.Proofs.Ytpeojnknfonmlaa
