/- What is drawn: a path, and a step, an entry and a tick of a flight along it. -/
import Derived.Test.YtpeojnknfonmlaaRL
import Derived.Test.YtpeojnknfonmlaaPE
import Derived.Test.YtpeojnknfonmlaaHD
set_option linter.unusedVariables false
set_option linter.unusedSimpArgs false
namespace Go.Proofs.Ytpeojnknfonmlaa
open Go.RowKit
theorem res_cttt {P : Program} {w : World} {fn : Func} {p u1 u2 u3 : Tmp} {ty : TypeId} (h : fn.results = #[.cell p ty, .tmp u1, .tmp u2, .tmp u3]) (tmps : Array Value) {g : Nat} (cs : List Value) (hp : tmps.getD p undef = .pointer (some ⟨g, 0, none⟩)) (v1 v2 v3 : Value) (hv1 : tmps.getD u1 undef = v1) (hv2 : tmps.getD u2 undef = v2) (hv3 : tmps.getD u3 undef = v3) (d : TypeDesc) (hu : P.underlying ty = some d)
    (hd : (match d with | .struct _ | .array _ _ => true | _ => false) = true) (hi : (P.info? ty).map (·.size) = some cs.length) (hc : CellsAt w g 0 cs) : (results fn tmps).run P w = .ok (.tuple #[.agg cs.toArray, v1, v2, v3]) w := by
  have hp' : tmps[p]?.getD undef = .pointer (some ⟨g, 0, none⟩) := by simpa using hp
  have e1 : tmps[u1]?.getD undef = v1 := by simpa using hv1
  have e2 : tmps[u2]?.getD undef = v2 := by simpa using hv2
  have e3 : tmps[u3]?.getD undef = v3 := by simpa using hv3
  simp [results, h, hp', e1, e2, e3, asAddr, run_loadVar_cells hc hu hd hi]
/-- a path and a flight that are drawn, beside a reader that is older -/
structure SSt (w : World) (g bp : Nat) (p : LL.Path) (A : Option Addr) (c : Nat) (B : Option Addr) (d : Nat) (f : List Int) (N : Nat) (W : World) : Prop where
  gr : GrownS w W (fun k => k = g)
  rd : Rdr 121 W g N
  kR : Blk W w.heap.size #[.int .i64 0, .int .i64 0, .slice none 0 0, .int .i64 0, .int .i64 0] 43
  kP : Blk W bp #[.int .i64 p.q, .int .i64 p.s, .slice A p.steps.length c, .int .i64 p.fr, .int .i64 p.by_] 43
  rowP : Own stepC 7 56 79 W (.slice A p.steps.length c) p.steps
  rowF : Own intC 1 8 3 W (.slice B f.length d) f
  fP : ∀ j, (Value.slice A p.steps.length c).ownBlock = some j → w.heap.size + 1 ≤ j
  fF : ∀ j, (Value.slice B f.length d).ownBlock = some j → w.heap.size + 1 ≤ j
  lt : g < w.heap.size ∧ w.heap.size < bp ∧ bp < W.heap.size
theorem SSt.go {w W W' : World} {g bp N M c d : Nat} {p : LL.Path} {A B : Option Addr} {f : List Int} (h : SSt w g bp p A c B d f N W) (hg : GrownS W W' (fun k => k = g)) (hr : Rdr 121 W' g M) : SSt w g bp p A c B d f M W' := by
  have hl := h.lt
  have hz := hg.size
  exact ⟨h.gr.trans hg, hr, h.kR.g1 hg (by omega), h.kP.g1 hg (by omega), h.rowP.g1 hg h.fP (by omega), h.rowF.g1 hg h.fF (by omega), h.fP, h.fF, by omega⟩
theorem SSt.up {w W : World} {g bp N M c d : Nat} {p : LL.Path} {A B : Option Addr} {f : List Int} (h : SSt w g bp p A c B d f N W) (hM : N ≤ M) : SSt w g bp p A c B d f M W := { h with rd := h.rd.up hM }
/-- the ticks of a flight that keeps to its path -/
theorem LL.Lawful.rng {p : LL.Path} {f : List Int} (h : LL.Lawful p f) (k : Nat) (hk : k < p.steps.length) : 0 ≤ LL.nthI f k ∧ LL.nthI f k < LL.nthI f (k + 1) ∧ LL.nthI f (k + 1) ≤ 10000 := by
  have hA := (LL.allowed_lawful h.1).2 h
  have a := hA.rng h.1 k (by omega)
  have b := hA.rng h.1 (k + 1) (by omega)
  have c := hA.2.quick k hk
  have d := h.1.1.1
  omega
def AnyV (_ : Value) : Prop := True
theorem SSt.out {w W W' : World} {g bp N c d : Nat} {p : LL.Path} {A B : Option Addr} {f : List Int} {cs1 : Array Value} (h : SSt w g bp p A c B d f N W) (hL : LeR g w.heap.size #[.int .i64 0, .int .i64 0, .slice none 0 0, .int .i64 0, .int .i64 0] cs1 43 W W') : Own stepC 7 56 79 W' (.slice A p.steps.length c) p.steps ∧ GrownS w W' (fun k => k = g) := by
  have hl := h.lt
  have n1 := h.rowP.neB2 h.kR (by decide)
  refine ⟨h.rowP.gS hL.1 (fun k hk e => e.elim (fun e => by have := h.fP k hk; omega) (fun e => n1 k hk e)), hL.1.os.trans h.gr.os, hL.1.tape.trans h.gr.tape, hL.1.output.trans h.gr.output, Nat.le_trans h.gr.size hL.1.size, fun k hk hn => (hL.1.block k (Nat.lt_of_lt_of_le hk h.gr.size) (fun e => e.elim hn (by omega))).trans (h.gr.block k hk hn)⟩
set_option maxRecDepth 100000 in
set_option maxHeartbeats 8000000 in
theorem spec_l10Seen_c (g N : Nat) (w : World) (hr : Rdr 121 w g N) (hN : N ≤ 80000) : Calls Try.prog 84 #[.pointer (some ⟨g, 0, none⟩)] w fun e w' => ∃ (p : LL.Path) (A : Option Addr) (c : Nat) (k en t : Int), e = .returned (.tuple #[.agg #[.int .i64 p.q, .int .i64 p.s, .slice A p.steps.length c, .int .i64 p.fr, .int .i64 p.by_], .int .i64 k, .int .i64 en, .int .i64 t]) ∧ p.steps.length ≤ 60 ∧ Own stepC 7 56 79 w' (.slice A p.steps.length c) p.steps ∧ (∀ j, (Value.slice A p.steps.length c).ownBlock = some j → w.heap.size ≤ j) ∧ (0 ≤ t ∧ t ≤ 20000) ∧ GrownS w w' (fun k => k = g) ∧ Rdr 121 w' g (N + 5200) := by
  have hlt := hr.lt
  have n0 : w.heap.size ≠ g := by omega
  go_enter Try.func84, Try.ntmps84
  go_upto_region 2 with (go_at_call 68; (refine l10Any_mono (N := ?_) ?_ ?_ ?_); (rotate_left); (focus (exact hr.a _)); (focus omega); intro p A c w2 hp2 hO2 hfr2 hg2 hr2; obtain ⟨hc, hf⟩ := gcell1 hg2; have hz2 := hg2.size; simp only [World.size_alloc] at hz2 hfr2)
  have kR3 : Blk (w2.alloc (.cells #[.int .i64 p.q, .int .i64 p.s, .slice A p.steps.length c, .int .i64 p.fr, .int .i64 p.by_] 43)) w.heap.size #[.int .i64 0, .int .i64 0, .slice none 0 0, .int .i64 0, .int .i64 0] 43 := ((Blk.new w #[.int .i64 0, .int .i64 0, .slice none 0 0, .int .i64 0, .int .i64 0] 43).g1 hg2 n0).a _
  have kP3 := Blk.new w2 #[.int .i64 p.q, .int .i64 p.s, .slice A p.steps.length c, .int .i64 p.fr, .int .i64 p.by_] 43
  have hO3 := hO2.a (.cells #[.int .i64 p.q, .int .i64 p.s, .slice A p.steps.length c, .int .i64 p.fr, .int .i64 p.by_] 43)
  have hR3 : Rdr 121 (w2.alloc (.cells #[.int .i64 p.q, .int .i64 p.s, .slice A p.steps.length c, .int .i64 p.fr, .int .i64 p.by_] 43)) g (N + 3600) := hr2.a _
  have hG3 : GrownS w (w2.alloc (.cells #[.int .i64 p.q, .int .i64 p.s, .slice A p.steps.length c, .int .i64 p.fr, .int .i64 p.by_] 43)) (fun k => k = g) := gr_alloc ((gr_alloc (GrownS.refl _ _) _).trans hg2) _
  have hfr3 : ∀ j, (Value.slice A p.steps.length c).ownBlock = some j → w.heap.size + 1 ≤ j := hfr2
  have hbp : w.heap.size < w2.heap.size := by omega
  have hz3 : w2.heap.size < (w2.alloc (.cells #[.int .i64 p.q, .int .i64 p.s, .slice A p.steps.length c, .int .i64 p.fr, .int .i64 p.by_] 43)).heap.size := by simp only [World.size_alloc]; omega
  clear hg2 hr2 hO2 hc hf hfr2
  generalize w2.alloc (.cells #[.int .i64 p.q, .int .i64 p.s, .slice A p.steps.length c, .int .i64 p.fr, .int .i64 p.by_] 43) = w3 at *
  generalize w2.heap.size = bp at *
  obtain ⟨e0, f0, l0⟩ := kR3.cells
  obtain ⟨e1, f1, l1⟩ := kP3.cells
  have hS3 := hO3.rd_at' stepE
  have hfr3' := Lib.hid hfr3
  have hbg : bp ≠ g := by omega
  have lg := hR3.lt
  clear hfr3
  go_cut [7, 8] (fun v7 v8 wc => ∃ (b : Bool) (f : List Int) (B : Option Addr) (d : Nat), v8 = .bool b ∧ v7 = .slice B f.length d ∧ (b = true → LL.Lawful p f) ∧ SSt w g bp p A c B d f (N + 5100) wc)
  case first =>
    go_region_with (first | (go_at_call 78; (refine l10Asked_mono (N := N + 3600) (p := p) hp2 (hS3.mono (by repeat' (first | with_reducible exact Below.refl _ _ | with_reducible assumption | with_reducible refine b_alloc ?_ _ | with_reducible refine b_drewN ?_ _ | with_reducible refine b_drew ?_ | with_reducible refine b_set ?_ (by first | (simp only [World.size_setCell, World.size_alloc, World.size_drew]; omega) | (simp; done) | (simp; omega)) _ | with_reducible refine b_step ?_ (by with_reducible assumption)))) (by repeat' (first | with_reducible assumption | with_reducible refine Rdr.a ?_ _ | with_reducible refine Rdr.d ?_ | with_reducible refine Rdr.s1 ?_ (by omega) _ _ | with_reducible refine Rdr.b ?_ (by with_reducible assumption))) (by omega) ?_); intro ys B4 d4 w4 hy4 hO4 hf4 hg4 hr4; (try simp only [World.size_drew, World.size_alloc] at hf4); obtain ⟨hc, hf⟩ := gcell1 hg4; have kP4 : Blk w4 bp #[.int .i64 p.q, .int .i64 p.s, .slice A p.steps.length c, .int .i64 p.fr, .int .i64 p.by_] 43 := (by repeat' (first | with_reducible assumption | with_reducible refine Blk.a ?_ _ | with_reducible refine Blk.d ?_ | with_reducible refine put5z ?_ | with_reducible refine Blk.g1 ?_ (by with_reducible assumption) (by omega))); have kR4 : Blk w4 w.heap.size #[.int .i64 0, .int .i64 0, .slice none 0 0, .int .i64 0, .int .i64 0] 43 := (by repeat' (first | with_reducible assumption | with_reducible refine Blk.a ?_ _ | with_reducible refine Blk.d ?_ | with_reducible refine put5z ?_ | with_reducible refine Blk.g1 ?_ (by with_reducible assumption) (by omega))); obtain ⟨e4, f4, l4⟩ := kP4.cells; clear hc hf; have hz4 := hg4.size; (try simp only [World.size_drew, World.size_alloc] at hz4); have hI4 := hO4.rd_at' intE; have hP4 : Own stepC 7 56 79 w4 (.slice A p.steps.length c) p.steps := (by repeat' (first | with_reducible assumption | with_reducible refine Own.s ?_ _ hfr3'.out | with_reducible refine Own.a ?_ _ | with_reducible refine Own.d ?_ | with_reducible refine Own.g1 (B := w.heap.size + 1) ?_ (by with_reducible assumption) hfr3'.out (by omega))); have hS4 := hP4.rd_at' stepE) | (go_at_call 50; go_loud (refine (spec_FlyGo_c p [] ys A _ B4 c 0 d4 _ (hS4.mono (by repeat' (first | with_reducible exact Below.refl _ _ | with_reducible assumption | with_reducible refine b_alloc ?_ _ | with_reducible refine b_drewN ?_ _ | with_reducible refine b_drew ?_ | with_reducible refine b_set ?_ (by first | (simp only [World.size_setCell, World.size_alloc, World.size_drew]; omega) | (simp; done) | (simp; omega)) _ | with_reducible refine b_step ?_ (by with_reducible assumption)))) ⟨rfl, by simp, by simp, fun h => absurd h (by simp)⟩ (hI4.mono (by repeat' (first | with_reducible exact Below.refl _ _ | with_reducible assumption | with_reducible refine b_alloc ?_ _ | with_reducible refine b_drewN ?_ _ | with_reducible refine b_drew ?_ | with_reducible refine b_set ?_ (by first | (simp only [World.size_setCell, World.size_alloc, World.size_drew]; omega) | (simp; done) | (simp; omega)) _ | with_reducible refine b_step ?_ (by with_reducible assumption))))).mono ?_); intro e w5 hM; obtain ⟨A5, c5, rfl, hO5, hOg5, hB5⟩ := hM.go2 intE; have hz5 := hB5.size; (try simp only [World.size_alloc] at hz5 hOg5)))
    all_goals (try simp only [List.getElem_toArray, List.getElem_cons_succ, List.getElem_cons_zero, Act.put, List.setIfInBounds_toArray, List.set_cons_zero, List.set_cons_succ])
    all_goals go_wp2
    all_goals (have hlaw : LL.goB p [] ys = true → LL.Lawful p (LL.goL p [] ys) := fun h => (LL.go_len h (by simp)).2.2)
    all_goals (have hfr5 := hfr3'.out; go_meet; case rel => exact ⟨_, _, A5, c5, rfl, rfl, hlaw, ⟨gr_b (by repeat' (first | with_reducible exact GrownS.refl _ _ | with_reducible assumption | with_reducible refine gr_alloc ?_ _ | with_reducible refine gr_drew ?_ | with_reducible refine gr_s1 ?_ (by omega) _ _ | with_reducible refine GrownS.trans ?_ (by with_reducible assumption) | with_reducible refine gr_b ?_ (by with_reducible assumption))) hB5, Rdr.up (N := N + 3600 + 1400) (Rdr.b (by repeat' (first | with_reducible assumption | with_reducible refine Rdr.a ?_ _ | with_reducible refine Rdr.d ?_ | with_reducible refine Rdr.s1 ?_ (by omega) _ _ | with_reducible refine Rdr.b ?_ (by with_reducible assumption))) hB5) (by omega), Blk.b (by repeat' (first | with_reducible assumption | with_reducible refine Blk.a ?_ _ | with_reducible refine Blk.d ?_ | with_reducible refine put5z ?_ | with_reducible refine Blk.g1 ?_ (by with_reducible assumption) (by omega))) hB5, Blk.b (by repeat' (first | with_reducible assumption | with_reducible refine Blk.a ?_ _ | with_reducible refine Blk.d ?_ | with_reducible refine put5z ?_ | with_reducible refine Blk.g1 ?_ (by with_reducible assumption) (by omega))) hB5, Own.b (by repeat' (first | with_reducible assumption | with_reducible refine Own.s ?_ _ hfr5 | with_reducible refine Own.a ?_ _ | with_reducible refine Own.d ?_ | with_reducible refine Own.g1 (B := w.heap.size + 1) ?_ (by with_reducible assumption) hfr5 (by omega))) hB5, hO5, hfr5, (fun j hj => by have := hOg5 j hj; omega), ⟨hlt, hbp, by omega⟩⟩⟩)
  obtain ⟨b, f, B, d, rfl, rfl, hlaw, hF⟩ := hcut
  clear e0 f0 l0 e1 f1 l1 hS3 hR3 hG3 kR3 kP3 hO3 hr
  cases b
  · go_upto_region 4 with fail
    obtain ⟨e0, f0, l0⟩ := hF.kR.cells
    obtain ⟨e1, f1, l1⟩ := hF.kP.cells
    have hlt2 := hF.lt
    have hR := hF.rd
    have hnR := hF.rowP.neB2 hF.kR (by decide)
    replace hnR := Lib.hid hnR
    have kR := hF.kR
    have kP := hF.kP
    have hOP := hF.rowP
    have hGr := hF.gr
    have nbR : bp ≠ w.heap.size := by have := hF.lt; omega
    refine rel4_tail_b (Le := LeR g w.heap.size #[.int .i64 0, .int .i64 0, .slice none 0 0, .int .i64 0, .int .i64 0] #[.int .i64 p.q, .int .i64 p.s, .slice A p.steps.length c, .int .i64 p.fr, .int .i64 p.by_] 43) leR_tr leR_rf (leR_dr n0) 11 [(2, IsPick 3, NoFact), (5, IsPick 9, NoFact), (7, IsPick 20, NoFact), (8, AnyV, fun _ W => Blk W w.heap.size #[.int .i64 p.q, .int .i64 p.s, .slice A p.steps.length c, .int .i64 p.fr, .int .i64 p.by_] 43)] hR (by kernel_rfl) (by kernel_rfl) ?_
    simp only [List.take_succ_cons, List.take_zero, List.drop_succ_cons, List.drop_zero]
    iterate 2 ((apply rel4_plain (hR := rfl) (hF := fun _ => trivial) (hg := rfl)); (focus ((intro w' hL'); (obtain ⟨hcS, hfS⟩ := leR_cell hL'); (go_simp); (try go_bits); (try (first | (rw [if_pos (by omega)]; done) | (rw [if_neg (by omega)]; done) | (rw [if_pos (by omega)]; go_simp) | (rw [if_neg (by omega)]; go_simp))); (first | with_reducible rfl | exact rfl | skip))); (simp only [Act.put, List.setIfInBounds_toArray, List.set_cons_zero, List.set_cons_succ]))
    ((apply rel4_told leR_tr (hR := rfl) (hg := rfl)); (focus ((refine ⟨.int .i64 0, ?_⟩); ((repeat (first | (refine Tell2.hits rfl ?_) | (refine Tell2.skips rfl ?_))); exact ⟨0, rfl, Int.le_refl _, .inr rfl⟩))); (focus ((intro w' M hL' hR' hM' hD'); (go_simp); (go_at_call 69); (refine (spec_pick_c _ M _ _ hR' (by omega)).mono ?_); (rintro e w'' ⟨vp, rfl, h0, h1, hg, hr⟩); (refine ⟨_, rfl, leR_g n0 hg, ?_, hr⟩); ((repeat (first | (refine Tell2.hit rfl ?_) | (refine Tell2.skip rfl ?_))); exact ⟨⟨vp, rfl, h0, h1⟩, trivial⟩))); (intro v' hv'); (replace hv' := Tell2.outs hv' rfl); (obtain ⟨v1, rfl, hv0, hv1⟩ := hv'); (simp only [Act.put, List.setIfInBounds_toArray, List.set_cons_zero, List.set_cons_succ]))
    iterate 2 ((apply rel4_plain (hR := rfl) (hF := fun _ => trivial) (hg := rfl)); (focus ((intro w' hL'); (obtain ⟨hcS, hfS⟩ := leR_cell hL'); (go_simp); (try go_bits); (try (first | (rw [if_pos (by omega)]; done) | (rw [if_neg (by omega)]; done) | (rw [if_pos (by omega)]; go_simp) | (rw [if_neg (by omega)]; go_simp))); (first | with_reducible rfl | exact rfl | skip))); (simp only [Act.put, List.setIfInBounds_toArray, List.set_cons_zero, List.set_cons_succ]))
    ((apply rel4_told leR_tr (hR := rfl) (hg := rfl)); (focus ((refine ⟨.int .i64 0, ?_⟩); ((repeat (first | (refine Tell2.hits rfl ?_) | (refine Tell2.skips rfl ?_))); exact ⟨0, rfl, Int.le_refl _, .inr rfl⟩))); (focus ((intro w' M hL' hR' hM' hD'); (go_simp); (go_at_call 69); (refine (spec_pick_c _ M _ _ hR' (by omega)).mono ?_); (rintro e w'' ⟨vp, rfl, h0, h1, hg, hr⟩); (refine ⟨_, rfl, leR_g n0 hg, ?_, hr⟩); ((repeat (first | (refine Tell2.hit rfl ?_) | (refine Tell2.skip rfl ?_))); exact ⟨⟨vp, rfl, h0, h1⟩, trivial⟩))); (intro v' hv'); (replace hv' := Tell2.outs hv' rfl); (obtain ⟨v1, rfl, hv0, hv1⟩ := hv'); (simp only [Act.put, List.setIfInBounds_toArray, List.set_cons_zero, List.set_cons_succ]))
    ((apply rel4_plain (hR := rfl) (hF := fun _ => trivial) (hg := rfl)); (focus ((intro w' hL'); (obtain ⟨hcS, hfS⟩ := leR_cell hL'); (go_simp); (try go_bits); (try (first | (rw [if_pos (by omega)]; done) | (rw [if_neg (by omega)]; done) | (rw [if_pos (by omega)]; go_simp) | (rw [if_neg (by omega)]; go_simp))); (first | with_reducible rfl | exact rfl | skip))); (simp only [Act.put, List.setIfInBounds_toArray, List.set_cons_zero, List.set_cons_succ]))
    ((apply rel4_told leR_tr (hR := rfl) (hg := rfl)); (focus ((refine ⟨.int .i64 0, ?_⟩); ((repeat (first | (refine Tell2.hits rfl ?_) | (refine Tell2.skips rfl ?_))); exact ⟨0, rfl, Int.le_refl _, .inr rfl⟩))); (focus ((intro w' M hL' hR' hM' hD'); (go_simp); (go_at_call 69); (refine (spec_pick_c _ M _ _ hR' (by omega)).mono ?_); (rintro e w'' ⟨vp, rfl, h0, h1, hg, hr⟩); (refine ⟨_, rfl, leR_g n0 hg, ?_, hr⟩); ((repeat (first | (refine Tell2.hit rfl ?_) | (refine Tell2.skip rfl ?_))); exact ⟨⟨vp, rfl, h0, h1⟩, trivial⟩))); (intro v' hv'); (replace hv' := Tell2.outs hv' rfl); (obtain ⟨v1, rfl, hv0, hv1⟩ := hv'); (simp only [Act.put, List.setIfInBounds_toArray, List.set_cons_zero, List.set_cons_succ]))
    ((apply rel4_told leR_tr (hR := rfl) (hg := rfl)); (focus ((refine ⟨.int .i64 0, ?_⟩); ((repeat (first | (refine Tell2.hits rfl ?_) | (refine Tell2.skips rfl ?_))); exact trivial))); (focus ((intro w' M hL' hR' hM' hD'); (obtain hdi | hdi := hL'.2.1 (.inl kR)); (focus ((obtain ⟨es, fs, ls⟩ := hdi.cells); (go_simp); (refine ⟨leR_st (.inl hdi), ?_, Rdr.up (N := M) (by repeat' (first | with_reducible assumption | with_reducible refine Rdr.a ?_ _ | with_reducible refine Rdr.d ?_ | with_reducible refine Rdr.s1 ?_ (by omega) _ _ | with_reducible refine Rdr.b ?_ (by with_reducible assumption))) (by omega)⟩); ((repeat (first | (refine Tell2.hit rfl ?_) | (refine Tell2.skip rfl ?_))); exact ⟨trivial, leR_put5 (.inl hdi)⟩))); (focus ((obtain ⟨es, fs, ls⟩ := hdi.cells); (go_simp); (refine ⟨leR_st (.inr hdi), ?_, Rdr.up (N := M) (by repeat' (first | with_reducible assumption | with_reducible refine Rdr.a ?_ _ | with_reducible refine Rdr.d ?_ | with_reducible refine Rdr.s1 ?_ (by omega) _ _ | with_reducible refine Rdr.b ?_ (by with_reducible assumption))) (by omega)⟩); ((repeat (first | (refine Tell2.hit rfl ?_) | (refine Tell2.skip rfl ?_))); exact ⟨trivial, leR_put5 (.inr hdi)⟩))))); (intro v' hv'); clear hv'; (simp only [Act.put, List.setIfInBounds_toArray, List.set_cons_zero, List.set_cons_succ]))
    iterate 2 ((apply rel4_plain (hR := rfl) (hF := fun _ => trivial) (hg := rfl)); (focus ((intro w' hL'); (obtain ⟨hcS, hfS⟩ := leR_cell hL'); (go_simp); (try go_bits); (try (first | (rw [if_pos (by omega)]; done) | (rw [if_neg (by omega)]; done) | (rw [if_pos (by omega)]; go_simp) | (rw [if_neg (by omega)]; go_simp))); (first | with_reducible rfl | exact rfl | skip))); (simp only [Act.put, List.setIfInBounds_toArray, List.set_cons_zero, List.set_cons_succ]))
    refine rel4_nil ?_
    intro w6 hL6 hR6 hF6
    obtain ⟨wz, hlz, kZ⟩ := Known4.out (hF6 8) rfl
    have kZ6 := hlz.2.2 kZ
    obtain ⟨hO6, hG6⟩ := hF.out hL6
    clear hF6 hlz kZ e0 f0 l0 e1 f1 l1
    obtain ⟨e0, f0, l0⟩ := kZ6.cells
    go_wp2
    (refine bodyPost_ret (res_cttt rfl _ [.int .i64 p.q, .int .i64 p.s, .slice A p.steps.length c, .int .i64 p.fr, .int .i64 p.by_] rfl _ _ _ rfl rfl rfl _ Try.underlying43 rfl (by kernel_rfl) (by simp only [CellsAt, and_true]; and_intros <;> go_simp)) rfl ?_)
    exact ⟨p, A, c, _, _, _, rfl, hp2, hO6, fun j hj => by have := hfr3'.out j hj; omega, ⟨by omega, by omega⟩, hG6, hR6.up (by omega)⟩
  · have hL := hlaw rfl
    have hrg := hL.rng
    have hn1 := hL.1.2.1.1
    have hfl := hL.2.1
    replace hL := Lib.hid hL
    replace hrg := Lib.hid hrg
    clear hlaw
    obtain ⟨e0, f0, l0⟩ := hF.kR.cells
    obtain ⟨e1, f1, l1⟩ := hF.kP.cells
    have hlt2 := hF.lt
    have hR := hF.rd
    have hnR := hF.rowP.neB2 hF.kR (by decide)
    replace hnR := Lib.hid hnR
    have kR := hF.kR
    have kP := hF.kP
    have hOP := hF.rowP
    have hGr := hF.gr
    go_upto_region 6 with ((go_at_call 69; (refine pick_mono (N := ?_) ?_ ?_ ?_); (rotate_left); (focus (exact (by repeat' (first | with_reducible assumption | with_reducible refine Rdr.a ?_ _ | with_reducible refine Rdr.d ?_ | with_reducible refine Rdr.s1 ?_ (by omega) _ _ | with_reducible refine Rdr.b ?_ (by with_reducible assumption))))); (focus omega); intro v1 w6 hv0 hv1 hg1 hr1; obtain ⟨hc, hf⟩ := gcell1 hg1; (try simp only [World.size_drew] at hc hf); have hz := hg1.size; (try simp only [World.size_setCell, World.size_alloc, World.size_drew] at hz); have yw6_0 : w.heap.size < w6.heap.size := (by omega); have yw6_1 : bp < w6.heap.size := (by omega)); (try have hv2 := pk_lt hv1 (by omega)))
    obtain ⟨k, rfl⟩ : ∃ k : Nat, v1 = k := ⟨v1.toNat, by omega⟩
    have hk : k < p.steps.length := by omega
    have hF2 := hF.go hg1 hr1
    clear hF hv0 hv1 hv2 hg1 hr1 hc hf hR e0 f0 l0 e1 f1 l1 hnR kR kP hOP hGr hlt2
    obtain ⟨e0, f0, l0⟩ := hF2.kR.cells
    obtain ⟨e1, f1, l1⟩ := hF2.kP.cells
    have hlt2 := hF2.lt
    have hR := hF2.rd
    have hnR := hF2.rowP.neB2 hF2.kR (by decide)
    replace hnR := Lib.hid hnR
    have kR := hF2.kR
    have kP := hF2.kP
    have hOP := hF2.rowP
    have hGr := hF2.gr
    obtain ⟨gB, rfl⟩ := hF2.rowF.someA (by omega)
    have d0 := (hF2.rowF.rd_at' intE).S1 k (by omega)
    have d1 := (hF2.rowF.rd_at' intE).S1 (k + 1) (by omega)
    rw [Nat.zero_add] at d0 d1
    obtain ⟨fa, la⟩ := hF2.rowF.unfrozen (by omega)
    have na : gB ≠ g := by have := hF2.fF gB rfl; omega
    obtain ⟨x0, x1, x2⟩ := hrg.out k hk
    have hrg' := hrg
    generalize LL.nthI f k = y0 at d0 x0 x1
    generalize LL.nthI f (k + 1) = y1 at d1 x1 x2
    refine rel2_tail_b 17 [(15, IsPick (y1 - y0), NoFact)] hR (by kernel_rfl) (by kernel_rfl) ?_
    simp only [List.take_succ_cons, List.take_zero, List.drop_succ_cons, List.drop_zero]
    iterate 15 ((apply rel2_plain (hR := rfl) (hF := fun _ => trivial) (hg := rfl)); (focus ((intro w' hL'); (obtain ⟨hcS, hfS⟩ := gcell1 hL'); (go_simp); (try go_bits); (try (first | (rw [if_pos (by omega)]; done) | (rw [if_neg (by omega)]; done) | (rw [if_pos (by omega)]; go_simp) | (rw [if_neg (by omega)]; go_simp))); (first | with_reducible rfl | exact rfl | skip))); (simp only [Act.put, List.setIfInBounds_toArray, List.set_cons_zero, List.set_cons_succ]))
    ((apply rel2_told (hR := rfl) (hg := rfl)); (focus ((refine ⟨.int .i64 0, ?_⟩); ((repeat (first | (refine Tell2.hits rfl ?_) | (refine Tell2.skips rfl ?_))); exact ⟨0, rfl, Int.le_refl _, .inr rfl⟩))); (focus ((intro w' M hL' hR' hM' hD'); (obtain ⟨hcS, hfS⟩ := gcell1 hL'); skip; (go_simp); (try go_bits); (try (first | (rw [if_pos (by omega)]; done) | (rw [if_neg (by omega)]; done) | (rw [if_pos (by omega)]; go_simp) | (rw [if_neg (by omega)]; go_simp))); ((go_at_call 69); (refine (spec_pick_c _ M _ _ hR' (by omega)).mono ?_); (rintro e w'' ⟨vp, rfl, h0, h1, hg, hr⟩); (refine ⟨_, rfl, hg, ?_, hr⟩); ((repeat (first | (refine Tell2.hit rfl ?_) | (refine Tell2.skip rfl ?_))); exact ⟨⟨vp, rfl, h0, h1⟩, trivial⟩)))); (intro v' hv'); (replace hv' := Tell2.outs hv' rfl); (obtain ⟨v1, rfl, hv0, hv1⟩ := hv'); (simp only [Act.put, List.setIfInBounds_toArray, List.set_cons_zero, List.set_cons_succ]))
    ((apply rel2_plain (hR := rfl) (hF := fun _ => trivial) (hg := rfl)); (focus ((intro w' hL'); (obtain ⟨hcS, hfS⟩ := gcell1 hL'); (go_simp); (try go_bits); (try (first | (rw [if_pos (by omega)]; done) | (rw [if_neg (by omega)]; done) | (rw [if_pos (by omega)]; go_simp) | (rw [if_neg (by omega)]; go_simp))); (first | with_reducible rfl | exact rfl | skip))); (simp only [Act.put, List.setIfInBounds_toArray, List.set_cons_zero, List.set_cons_succ]))
    refine rel2_nil ?_
    intro w7 hL7 hR7 hF7
    clear hF7
    have hF3 := hF2.go hL7 hR7
    have ht : 0 ≤ y0 + v1 ∧ y0 + v1 ≤ 10000 := by omega
    obtain ⟨ht0, ht1⟩ := ht
    clear hL7 hR7 hF2 d0 d1 fa la x0 x1 x2 hv0 hv1 e0 f0 l0 e1 f1 l1 hnR kR kP hOP hGr hlt2 hR
    generalize y0 + v1 = tt at *
    have hR := hF3.rd
    have lb := blk_lt hF3.kP.at_
    go_upto_block 0 with ((go_at_call 69; (refine pick_mono (N := ?_) ?_ ?_ ?_); (rotate_left); (focus (exact (by repeat' (first | with_reducible assumption | with_reducible refine Rdr.a ?_ _ | with_reducible refine Rdr.d ?_ | with_reducible refine Rdr.s1 ?_ (by omega) _ _ | with_reducible refine Rdr.b ?_ (by with_reducible assumption))))); (focus omega); intro v1 w8 hv0 hv1 hg1 hr1; obtain ⟨hc, hf⟩ := gcell1 hg1; (try simp only [World.size_drew] at hc hf); have hz := hg1.size; (try simp only [World.size_setCell, World.size_alloc, World.size_drew] at hz); skip); (try have hv2 := pk_lt hv1 (by omega)))
    have hF4 := hF3.go hg1 hr1
    clear hg1 hr1 hc hf hz hF3 hR lb
    by_cases hv1' : v1 = 1
    · subst hv1'
      obtain ⟨e0, f0, l0⟩ := hF4.kR.cells
      obtain ⟨e1, f1, l1⟩ := hF4.kP.cells
      have hlt2 := hF4.lt
      have hR := hF4.rd
      have hnR := hF4.rowP.neB2 hF4.kR (by decide)
      replace hnR := Lib.hid hnR
      have kR := hF4.kR
      have kP := hF4.kP
      have hOP := hF4.rowP
      have hGr := hF4.gr
      have d0 := (hF4.rowF.rd_at' intE).S1 k (by omega)
      rw [Nat.zero_add] at d0
      obtain ⟨fa, la⟩ := hF4.rowF.unfrozen (by omega)
      have na : gB ≠ g := by have := hF4.fF gB rfl; omega
      generalize LL.nthI f k = y0 at d0
      have ngR : gB ≠ w.heap.size := fun e => by have := hF4.rowF.neB2 hF4.kR (by decide) gB rfl; omega
      go_wp2
      have nbR : bp ≠ w.heap.size := by have := hF4.lt; omega
      refine rel4_tail_b (Le := LeR g w.heap.size #[.int .i64 0, .int .i64 0, .slice none 0 0, .int .i64 0, .int .i64 0] #[.int .i64 p.q, .int .i64 p.s, .slice A p.steps.length c, .int .i64 p.fr, .int .i64 p.by_] 43) leR_tr leR_rf (leR_dr n0) 14 [(7, IsPick 5, NoFact), (11, AnyV, fun _ W => Blk W w.heap.size #[.int .i64 p.q, .int .i64 p.s, .slice A p.steps.length c, .int .i64 p.fr, .int .i64 p.by_] 43)] hR (by kernel_rfl) (by kernel_rfl) ?_
      simp only [List.take_succ_cons, List.take_zero, List.drop_succ_cons, List.drop_zero]
      iterate 7 ((apply rel4_plain (hR := rfl) (hF := fun _ => trivial) (hg := rfl)); (focus ((intro w' hL'); (obtain ⟨hcS, hfS⟩ := leR_cell hL'); (go_simp); (try go_bits); (try (first | (rw [if_pos (by omega)]; done) | (rw [if_neg (by omega)]; done) | (rw [if_pos (by omega)]; go_simp) | (rw [if_neg (by omega)]; go_simp))); (first | with_reducible rfl | exact rfl | skip))); (simp only [Act.put, List.setIfInBounds_toArray, List.set_cons_zero, List.set_cons_succ]))
      ((apply rel4_told leR_tr (hR := rfl) (hg := rfl)); (focus ((refine ⟨.int .i64 0, ?_⟩); ((repeat (first | (refine Tell2.hits rfl ?_) | (refine Tell2.skips rfl ?_))); exact ⟨0, rfl, Int.le_refl _, .inr rfl⟩))); (focus ((intro w' M hL' hR' hM' hD'); (go_simp); (go_at_call 69); (refine (spec_pick_c _ M _ _ hR' (by omega)).mono ?_); (rintro e w'' ⟨vp, rfl, h0, h1, hg, hr⟩); (refine ⟨_, rfl, leR_g n0 hg, ?_, hr⟩); ((repeat (first | (refine Tell2.hit rfl ?_) | (refine Tell2.skip rfl ?_))); exact ⟨⟨vp, rfl, h0, h1⟩, trivial⟩))); (intro v' hv'); (replace hv' := Tell2.outs hv' rfl); (obtain ⟨v1, rfl, hv0, hv1⟩ := hv'); (simp only [Act.put, List.setIfInBounds_toArray, List.set_cons_zero, List.set_cons_succ]))
      iterate 3 ((apply rel4_plain (hR := rfl) (hF := fun _ => trivial) (hg := rfl)); (focus ((intro w' hL'); (obtain ⟨hcS, hfS⟩ := leR_cell hL'); (go_simp); (try go_bits); (try (first | (rw [if_pos (by omega)]; done) | (rw [if_neg (by omega)]; done) | (rw [if_pos (by omega)]; go_simp) | (rw [if_neg (by omega)]; go_simp))); (first | with_reducible rfl | exact rfl | skip))); (simp only [Act.put, List.setIfInBounds_toArray, List.set_cons_zero, List.set_cons_succ]))
      ((apply rel4_told leR_tr (hR := rfl) (hg := rfl)); (focus ((refine ⟨.int .i64 0, ?_⟩); ((repeat (first | (refine Tell2.hits rfl ?_) | (refine Tell2.skips rfl ?_))); exact trivial))); (focus ((intro w' M hL' hR' hM' hD'); (obtain hdi | hdi := hL'.2.1 (.inl kR)); (focus ((obtain ⟨es, fs, ls⟩ := hdi.cells); (go_simp); (refine ⟨leR_st (.inl hdi), ?_, Rdr.up (N := M) (by repeat' (first | with_reducible assumption | with_reducible refine Rdr.a ?_ _ | with_reducible refine Rdr.d ?_ | with_reducible refine Rdr.s1 ?_ (by omega) _ _ | with_reducible refine Rdr.b ?_ (by with_reducible assumption))) (by omega)⟩); ((repeat (first | (refine Tell2.hit rfl ?_) | (refine Tell2.skip rfl ?_))); exact ⟨trivial, leR_put5 (.inl hdi)⟩))); (focus ((obtain ⟨es, fs, ls⟩ := hdi.cells); (go_simp); (refine ⟨leR_st (.inr hdi), ?_, Rdr.up (N := M) (by repeat' (first | with_reducible assumption | with_reducible refine Rdr.a ?_ _ | with_reducible refine Rdr.d ?_ | with_reducible refine Rdr.s1 ?_ (by omega) _ _ | with_reducible refine Rdr.b ?_ (by with_reducible assumption))) (by omega)⟩); ((repeat (first | (refine Tell2.hit rfl ?_) | (refine Tell2.skip rfl ?_))); exact ⟨trivial, leR_put5 (.inr hdi)⟩))))); (intro v' hv'); clear hv'; (simp only [Act.put, List.setIfInBounds_toArray, List.set_cons_zero, List.set_cons_succ]))
      iterate 2 ((apply rel4_plain (hR := rfl) (hF := fun _ => trivial) (hg := rfl)); (focus ((intro w' hL'); (obtain ⟨hcS, hfS⟩ := leR_cell hL'); (go_simp); (try go_bits); (try (first | (rw [if_pos (by omega)]; done) | (rw [if_neg (by omega)]; done) | (rw [if_pos (by omega)]; go_simp) | (rw [if_neg (by omega)]; go_simp))); (first | with_reducible rfl | exact rfl | skip))); (simp only [Act.put, List.setIfInBounds_toArray, List.set_cons_zero, List.set_cons_succ]))
      refine rel4_nil ?_
      intro w6 hL6 hR6 hF6
      obtain ⟨wz, hlz, kZ⟩ := Known4.out (hF6 11) rfl
      have kZ6 := hlz.2.2 kZ
      obtain ⟨hO6, hG6⟩ := hF4.out hL6
      clear hF6 hlz kZ e0 f0 l0 e1 f1 l1
      obtain ⟨e0, f0, l0⟩ := kZ6.cells
      go_wp2
      (refine bodyPost_ret (res_cttt rfl _ [.int .i64 p.q, .int .i64 p.s, .slice A p.steps.length c, .int .i64 p.fr, .int .i64 p.by_] rfl _ _ _ rfl rfl rfl _ Try.underlying43 rfl (by kernel_rfl) (by simp only [CellsAt, and_true]; and_intros <;> go_simp)) rfl ?_)
      exact ⟨p, A, c, _, _, _, rfl, hp2, hO6, fun j hj => by have := hfr3'.out j hj; omega, ⟨by omega, by omega⟩, hG6, hR6.up (by omega)⟩
    · have hb1 : (v1 == 1) = false := by simp [hv1']
      go_cut [9, 10] (fun v9 v10 wc => ∃ k' t' : Int, v9 = .int .i64 k' ∧ v10 = .int .i64 t' ∧ (-1 ≤ k' ∧ k' ≤ 100) ∧ (0 ≤ t' ∧ t' ≤ 20000) ∧ SSt w g bp p A c (some ⟨gB, 0, none⟩) d f (N + 5130) wc)
      case first =>
        have hR := hF4.rd
        by_cases hv0' : v1 = 0
        · subst hv0'
          go_wp2_with ((go_at_call 69; (refine pick_mono (N := ?_) ?_ ?_ ?_); (rotate_left); (focus (exact (by repeat' (first | with_reducible assumption | with_reducible refine Rdr.a ?_ _ | with_reducible refine Rdr.d ?_ | with_reducible refine Rdr.s1 ?_ (by omega) _ _ | with_reducible refine Rdr.b ?_ (by with_reducible assumption))))); (focus omega); intro v1 w9 hv0 hv1 hg1 hr1; obtain ⟨hc, hf⟩ := gcell1 hg1; (try simp only [World.size_drew] at hc hf); have hz := hg1.size; (try simp only [World.size_setCell, World.size_alloc, World.size_drew] at hz); skip); (try have hv2 := pk_lt hv1 (by omega)))
          go_meet
          case rel => exact ⟨_, _, rfl, rfl, ⟨by omega, by omega⟩, ⟨by omega, by omega⟩, (hF4.go hg1 hr1).up (by omega)⟩
        by_cases hv2' : v1 = 2
        · subst hv2'
          go_wp2_with ((go_at_call 69; (refine pick_mono (N := ?_) ?_ ?_ ?_); (rotate_left); (focus (exact (by repeat' (first | with_reducible assumption | with_reducible refine Rdr.a ?_ _ | with_reducible refine Rdr.d ?_ | with_reducible refine Rdr.s1 ?_ (by omega) _ _ | with_reducible refine Rdr.b ?_ (by with_reducible assumption))))); (focus omega); intro v1 w9 hv0 hv1 hg1 hr1; obtain ⟨hc, hf⟩ := gcell1 hg1; (try simp only [World.size_drew] at hc hf); have hz := hg1.size; (try simp only [World.size_setCell, World.size_alloc, World.size_drew] at hz); skip); (try have hv2 := pk_lt hv1 (by omega)))
          go_meet
          case rel => exact ⟨_, _, rfl, rfl, ⟨by omega, by omega⟩, ⟨by omega, by omega⟩, (hF4.go hg1 hr1).up (by omega)⟩
        · have hb0 : (v1 == 0) = false := by simp [hv0']
          have hb2 : (v1 == 2) = false := by simp [hv2']
          go_wp2
          go_meet
          case rel => exact ⟨_, _, rfl, rfl, ⟨by omega, by omega⟩, ⟨by omega, by omega⟩, hF4.up (by omega)⟩
      obtain ⟨k', t', rfl, rfl, ⟨hk0, hk1⟩, ⟨ht2, ht3⟩, hF5⟩ := hcut
      clear hF4
      obtain ⟨e0, f0, l0⟩ := hF5.kR.cells
      obtain ⟨e1, f1, l1⟩ := hF5.kP.cells
      have hlt2 := hF5.lt
      have hR := hF5.rd
      have hnR := hF5.rowP.neB2 hF5.kR (by decide)
      replace hnR := Lib.hid hnR
      have kR := hF5.kR
      have kP := hF5.kP
      have hOP := hF5.rowP
      have hGr := hF5.gr
      by_cases hin : 0 ≤ k' ∧ k' ≤ (p.steps.length : Int) - 1
      · obtain ⟨k2, rfl⟩ : ∃ k2 : Nat, k' = k2 := ⟨k'.toNat, by omega⟩
        have hk2 : k2 < p.steps.length := by omega
        have d0 := (hF5.rowF.rd_at' intE).S1 k2 (by omega)
        rw [Nat.zero_add] at d0
        obtain ⟨fa, la⟩ := hF5.rowF.unfrozen (by omega)
        have na : gB ≠ g := by have := hF5.fF gB rfl; omega
        generalize LL.nthI f k2 = y0 at d0
        go_upto_region 16 with (go_at_call 72; refine (spec_l1In_c _ _ _ _).mono ?_; rintro e w' ⟨e9, rfl⟩; rw [decide_eq_true (show LL.In _ _ _ from ⟨by omega, by omega⟩)] at e9; subst e9)
        have ngR : gB ≠ w.heap.size := fun e => by have := hF5.rowF.neB2 hF5.kR (by decide) gB rfl; omega
        have nbR : bp ≠ w.heap.size := by have := hF5.lt; omega
        refine rel4_tail_b (Le := LeR g w.heap.size #[.int .i64 0, .int .i64 0, .slice none 0 0, .int .i64 0, .int .i64 0] #[.int .i64 p.q, .int .i64 p.s, .slice A p.steps.length c, .int .i64 p.fr, .int .i64 p.by_] 43) leR_tr leR_rf (leR_dr n0) 10 [(7, AnyV, fun _ W => Blk W w.heap.size #[.int .i64 p.q, .int .i64 p.s, .slice A p.steps.length c, .int .i64 p.fr, .int .i64 p.by_] 43)] hR (by kernel_rfl) (by kernel_rfl) ?_
        simp only [List.take_succ_cons, List.take_zero, List.drop_succ_cons, List.drop_zero]
        iterate 7 ((apply rel4_plain (hR := rfl) (hF := fun _ => trivial) (hg := rfl)); (focus ((intro w' hL'); (obtain ⟨hcS, hfS⟩ := leR_cell hL'); (go_simp); (try go_bits); (try (first | (rw [if_pos (by omega)]; done) | (rw [if_neg (by omega)]; done) | (rw [if_pos (by omega)]; go_simp) | (rw [if_neg (by omega)]; go_simp))); (first | with_reducible rfl | exact rfl | skip))); (simp only [Act.put, List.setIfInBounds_toArray, List.set_cons_zero, List.set_cons_succ]))
        ((apply rel4_told leR_tr (hR := rfl) (hg := rfl)); (focus ((refine ⟨.int .i64 0, ?_⟩); ((repeat (first | (refine Tell2.hits rfl ?_) | (refine Tell2.skips rfl ?_))); exact trivial))); (focus ((intro w' M hL' hR' hM' hD'); (obtain hdi | hdi := hL'.2.1 (.inl kR)); (focus ((obtain ⟨es, fs, ls⟩ := hdi.cells); (go_simp); (refine ⟨leR_st (.inl hdi), ?_, Rdr.up (N := M) (by repeat' (first | with_reducible assumption | with_reducible refine Rdr.a ?_ _ | with_reducible refine Rdr.d ?_ | with_reducible refine Rdr.s1 ?_ (by omega) _ _ | with_reducible refine Rdr.b ?_ (by with_reducible assumption))) (by omega)⟩); ((repeat (first | (refine Tell2.hit rfl ?_) | (refine Tell2.skip rfl ?_))); exact ⟨trivial, leR_put5 (.inl hdi)⟩))); (focus ((obtain ⟨es, fs, ls⟩ := hdi.cells); (go_simp); (refine ⟨leR_st (.inr hdi), ?_, Rdr.up (N := M) (by repeat' (first | with_reducible assumption | with_reducible refine Rdr.a ?_ _ | with_reducible refine Rdr.d ?_ | with_reducible refine Rdr.s1 ?_ (by omega) _ _ | with_reducible refine Rdr.b ?_ (by with_reducible assumption))) (by omega)⟩); ((repeat (first | (refine Tell2.hit rfl ?_) | (refine Tell2.skip rfl ?_))); exact ⟨trivial, leR_put5 (.inr hdi)⟩))))); (intro v' hv'); clear hv'; (simp only [Act.put, List.setIfInBounds_toArray, List.set_cons_zero, List.set_cons_succ]))
        iterate 2 ((apply rel4_plain (hR := rfl) (hF := fun _ => trivial) (hg := rfl)); (focus ((intro w' hL'); (obtain ⟨hcS, hfS⟩ := leR_cell hL'); (go_simp); (try go_bits); (try (first | (rw [if_pos (by omega)]; done) | (rw [if_neg (by omega)]; done) | (rw [if_pos (by omega)]; go_simp) | (rw [if_neg (by omega)]; go_simp))); (first | with_reducible rfl | exact rfl | skip))); (simp only [Act.put, List.setIfInBounds_toArray, List.set_cons_zero, List.set_cons_succ]))
        refine rel4_nil ?_
        intro w6 hL6 hR6 hF6
        obtain ⟨wz, hlz, kZ⟩ := Known4.out (hF6 7) rfl
        have kZ6 := hlz.2.2 kZ
        obtain ⟨hO6, hG6⟩ := hF5.out hL6
        clear hF6 hlz kZ e0 f0 l0 e1 f1 l1
        obtain ⟨e0, f0, l0⟩ := kZ6.cells
        go_wp2
        (refine bodyPost_ret (res_cttt rfl _ [.int .i64 p.q, .int .i64 p.s, .slice A p.steps.length c, .int .i64 p.fr, .int .i64 p.by_] rfl _ _ _ rfl rfl rfl _ Try.underlying43 rfl (by kernel_rfl) (by simp only [CellsAt, and_true]; and_intros <;> go_simp)) rfl ?_)
        exact ⟨p, A, c, _, _, _, rfl, hp2, hO6, fun j hj => by have := hfr3'.out j hj; omega, ⟨by omega, by omega⟩, hG6, hR6.up (by omega)⟩
      · go_wp2_with (go_at_call 72; refine (spec_l1In_c _ _ _ _).mono ?_; rintro e w' ⟨e9, rfl⟩; rw [decide_eq_false (fun h : LL.In _ _ _ => hin ⟨h.1, h.2⟩)] at e9; subst e9)
        (refine bodyPost_ret (res_cttt rfl _ [.int .i64 p.q, .int .i64 p.s, .slice A p.steps.length c, .int .i64 p.fr, .int .i64 p.by_] rfl _ _ _ rfl rfl rfl _ Try.underlying43 rfl (by kernel_rfl) (by simp only [CellsAt, and_true]; and_intros <;> go_simp)) rfl ?_)
        have hnR6 := hnR.out
        have hfr6 := hfr3'.out
        exact ⟨p, A, c, k', t', t', rfl, hp2, (by repeat' (first | with_reducible assumption | with_reducible refine Own.s ?_ _ hnR6 | with_reducible refine Own.a ?_ _ | with_reducible refine Own.d ?_ | with_reducible refine Own.g1 (B := w.heap.size + 1) ?_ (by with_reducible assumption) hfr6 (by omega))), fun j hj => by have := hfr6 j hj; omega, ⟨ht2, ht3⟩, (by repeat' (first | with_reducible exact GrownS.refl _ _ | with_reducible assumption | with_reducible refine gr_alloc ?_ _ | with_reducible refine gr_drew ?_ | with_reducible refine gr_s1 ?_ (by omega) _ _ | with_reducible refine GrownS.trans ?_ (by with_reducible assumption) | with_reducible refine gr_b ?_ (by with_reducible assumption))), Rdr.up (N := N + 5130) (by repeat' (first | with_reducible assumption | with_reducible refine Rdr.a ?_ _ | with_reducible refine Rdr.d ?_ | with_reducible refine Rdr.s1 ?_ (by omega) _ _ | with_reducible refine Rdr.b ?_ (by with_reducible assumption))) (by omega)⟩
theorem l10Seen_mono {Q : Ending → World → Prop} {g N : Nat} {w : World} (hr : Rdr 121 w g N) (hN : N ≤ 80000) (hk : ∀ (p : LL.Path) (A : Option Addr) (c : Nat) (k en t : Int) (w' : World), p.steps.length ≤ 60 → Own stepC 7 56 79 w' (.slice A p.steps.length c) p.steps → (∀ j, (Value.slice A p.steps.length c).ownBlock = some j → w.heap.size ≤ j) → 0 ≤ t → t ≤ 20000 → GrownS w w' (fun k => k = g) → Rdr 121 w' g (N + 5200) → Q (.returned (.tuple #[.agg #[.int .i64 p.q, .int .i64 p.s, .slice A p.steps.length c, .int .i64 p.fr, .int .i64 p.by_], .int .i64 k, .int .i64 en, .int .i64 t])) w') : Calls Try.prog 84 #[.pointer (some ⟨g, 0, none⟩)] w Q :=
  (spec_l10Seen_c g N w hr hN).mono fun e w' ⟨p, A, c, k, en, t, he, h2, h3, h4, ⟨h5, h6⟩, h7, h8⟩ => by subst he; exact hk p A c k en t w' h2 h3 h4 h5 h6 h7 h8
end Go.Proofs.Ytpeojnknfonmlaa
