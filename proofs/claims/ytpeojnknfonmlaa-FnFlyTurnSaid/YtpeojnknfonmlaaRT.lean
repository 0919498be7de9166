/- What is drawn for the law of turning: two paths and a tick. -/
import Derived.Test.YtpeojnknfonmlaaRN
import Derived.Test.YtpeojnknfonmlaaRS
set_option linter.unusedVariables false
set_option linter.unusedSimpArgs false
namespace Go.Proofs.Ytpeojnknfonmlaa
open Go.RowKit
theorem res_cct3 {P : Program} {w : World} {fn : Func} {p p2 u : Tmp} {ty ty2 : TypeId} (h : fn.results = #[.cell p ty, .cell p2 ty2, .tmp u]) (tmps : Array Value) {g g2 : Nat} (cs cs2 : List Value) (hp : tmps.getD p undef = .pointer (some ⟨g, 0, none⟩)) (hp2 : tmps.getD p2 undef = .pointer (some ⟨g2, 0, none⟩))
    (v : Value) (hv : tmps.getD u undef = v) (d d2 : TypeDesc) (hu : P.underlying ty = some d) (hu2 : P.underlying ty2 = some d2)
    (hd : (match d with | .struct _ | .array _ _ => true | _ => false) = true) (hd2 : (match d2 with | .struct _ | .array _ _ => true | _ => false) = true) (hi : (P.info? ty).map (·.size) = some cs.length) (hi2 : (P.info? ty2).map (·.size) = some cs2.length)
    (hc : CellsAt w g 0 cs) (hc2 : CellsAt w g2 0 cs2) : (results fn tmps).run P w = .ok (.tuple #[.agg cs.toArray, .agg cs2.toArray, v]) w := res_cct h tmps cs cs2 hp hp2 v hv d d2 hu hu2 hd hd2 hi hi2 hc hc2
theorem l10Other_mono {Q : Ending → World → Prop} {g N : Nat} {p : LL.Path} {A : Option Addr} {c : Nat} {w : World} (hr : Rdr 121 w g N) (hN : N ≤ 90000) (h60 : p.steps.length ≤ 60) (hO : Own stepC 7 56 79 w (.slice A p.steps.length c) p.steps) (hne : ∀ j, (Value.slice A p.steps.length c).ownBlock = some j → j ≠ g) (hk : ∀ (p : LL.Path) (A : Option Addr) (c : Nat) (w' : World), p.steps.length ≤ 60 → Own stepC 7 56 79 w' (.slice A p.steps.length c) p.steps → (∀ j, (Value.slice A p.steps.length c).ownBlock = some j → w.heap.size ≤ j) → GrownS w w' (fun k => k = g) → Rdr 121 w' g (N + 3100) → Q (.returned (.agg #[.int .i64 p.q, .int .i64 p.s, .slice A p.steps.length c, .int .i64 p.fr, .int .i64 p.by_])) w') : Calls Try.prog 93 #[.pointer (some ⟨g, 0, none⟩), .agg #[.int .i64 p.q, .int .i64 p.s, .slice A p.steps.length c, .int .i64 p.fr, .int .i64 p.by_]] w Q :=
  (spec_l10Other_c g N p A c w hr hN h60 hO hne).mono fun e w' ⟨p, A, c, he, h1, h2, h3, h4, h5⟩ => by subst he; exact hk p A c w' h1 h2 h3 h4 h5
/-- two paths that are drawn -/
structure TwSt (w : World) (g bp bq : Nat) (p : LL.Path) (A : Option Addr) (c : Nat) (q : LL.Path) (B : Option Addr) (d : Nat) (N : Nat) (W : World) : Prop where
  be : Below w.heap.size w W
  rd : Rdr 121 W g N
  k1 : Blk W w.heap.size #[.int .i64 0, .int .i64 0, .slice none 0 0, .int .i64 0, .int .i64 0] 43
  k2 : Blk W (w.heap.size + 1) #[.int .i64 0, .int .i64 0, .slice none 0 0, .int .i64 0, .int .i64 0] 43
  kP : Blk W bp #[.int .i64 p.q, .int .i64 p.s, .slice A p.steps.length c, .int .i64 p.fr, .int .i64 p.by_] 43
  kQ : Blk W bq #[.int .i64 q.q, .int .i64 q.s, .slice B q.steps.length d, .int .i64 q.fr, .int .i64 q.by_] 43
  rowP : Own stepC 7 56 79 W (.slice A p.steps.length c) p.steps
  rowQ : Own stepC 7 56 79 W (.slice B q.steps.length d) q.steps
  fP : ∀ j, (Value.slice A p.steps.length c).ownBlock = some j → w.heap.size + 3 ≤ j
  fQ : ∀ j, (Value.slice B q.steps.length d).ownBlock = some j → w.heap.size + 3 ≤ j
  lt : g = w.heap.size + 2 ∧ w.heap.size + 3 ≤ bp ∧ w.heap.size + 3 ≤ bq ∧ bp ≠ bq
theorem TwSt.go {w W W' : World} {g bp bq N M c d : Nat} {p q : LL.Path} {A B : Option Addr} (h : TwSt w g bp bq p A c q B d N W) (hg : GrownS W W' (fun k => k = g)) (hr : Rdr 121 W' g M) : TwSt w g bp bq p A c q B d M W' := by
  have hl := h.lt
  have lP := blk_lt h.kP.at_
  exact ⟨b_gS h.be hg (by omega) (fun k e => by omega), hr, h.k1.g1 hg (by omega), h.k2.g1 hg (by omega), h.kP.g1 hg (by omega), h.kQ.g1 hg (by omega), h.rowP.g1 hg h.fP (by omega), h.rowQ.g1 hg h.fQ (by omega), h.fP, h.fQ, h.lt⟩
theorem TwSt.up {w W : World} {g bp bq N M c d : Nat} {p q : LL.Path} {A B : Option Addr} (h : TwSt w g bp bq p A c q B d N W) (hM : N ≤ M) : TwSt w g bp bq p A c q B d M W := { h with rd := h.rd.up hM }
theorem TwSt.bl {w W W' : World} {g bp bq N c d : Nat} {p q : LL.Path} {A B : Option Addr} (h : TwSt w g bp bq p A c q B d N W) (hb : Below W.heap.size W W') : TwSt w g bp bq p A c q B d N W' :=
  ⟨b_step h.be hb, h.rd.b hb, h.k1.b hb, h.k2.b hb, h.kP.b hb, h.kQ.b hb, h.rowP.b hb, h.rowQ.b hb, h.fP, h.fQ, h.lt⟩
/-- another second path -/
theorem TwSt.other {w W : World} {g bp bq N c d e : Nat} {p q r : LL.Path} {A B C : Option Addr} (h : TwSt w g bp bq p A c q B d N W) (hO : Own stepC 7 56 79 W (.slice C r.steps.length e) r.steps) (hf : ∀ j, (Value.slice C r.steps.length e).ownBlock = some j → w.heap.size + 3 ≤ j) : TwSt w g bp bq p A c r C e N (((((W.setCell ⟨bq, 0, none⟩ (.int .i64 r.q)).setCell ⟨bq, 1, none⟩ (.int .i64 r.s)).setCell ⟨bq, 2, none⟩ (.slice C r.steps.length e)).setCell ⟨bq, 3, none⟩ (.int .i64 r.fr)).setCell ⟨bq, 4, none⟩ (.int .i64 r.by_)) := by
  have hl := h.lt
  have nP := h.rowP.neB2 h.kQ (by decide)
  have nQ := hO.neB2 h.kQ (by decide)
  have a1 := h.k1
  have a2 := h.k2
  have a3 := h.rowP
  refine ⟨b_set (b_set (b_set (b_set (b_set h.be (by simp only; omega) _) (by simp only; omega) _) (by simp only; omega) _) (by simp only; omega) _) (by simp only; omega) _, ((((h.rd.s1 (by omega) _ _).s1 (by omega) _ _).s1 (by omega) _ _).s1 (by omega) _ _).s1 (by omega) _ _, (by repeat' (first | with_reducible assumption | with_reducible refine put5z ?_ | with_reducible refine Blk.d ?_ | with_reducible refine Blk.s ?_ (by simp only [ne_eq]; omega) _)), (by repeat' (first | with_reducible assumption | with_reducible refine put5z ?_ | with_reducible refine Blk.d ?_ | with_reducible refine Blk.s ?_ (by simp only [ne_eq]; omega) _)), ?_, ?_, (by repeat' (first | with_reducible assumption | with_reducible refine Own.s ?_ _ (fun k hk => by have := nP k hk; (try simp only); omega) | with_reducible refine Own.a ?_ _ | with_reducible refine Own.d ?_ | with_reducible refine Own.dN ?_ _ | with_reducible refine Own.b ?_ (by with_reducible assumption))), (by repeat' (first | with_reducible assumption | with_reducible refine Own.s ?_ _ (fun k hk => by have := nQ k hk; (try simp only); omega) | with_reducible refine Own.a ?_ _ | with_reducible refine Own.d ?_ | with_reducible refine Own.dN ?_ _ | with_reducible refine Own.b ?_ (by with_reducible assumption))), h.fP, hf, h.lt⟩
  · exact ((((h.kP.s (by simp only [ne_eq]; omega) _).s (by simp only [ne_eq]; omega) _).s (by simp only [ne_eq]; omega) _).s (by simp only [ne_eq]; omega) _).s (by simp only [ne_eq]; omega) _
  · simpa using ((((h.kQ.put 0 (.int .i64 r.q)).put 1 (.int .i64 r.s)).put 2 (.slice C r.steps.length e)).put 3 (.int .i64 r.fr)).put 4 (.int .i64 r.by_)
set_option maxRecDepth 100000 in
set_option maxHeartbeats 8000000 in
theorem spec_DrawFlyTurnBy_c (xs : List Int) (F : Option Addr) (m : Nat) (w : World) (h : Rd u8C 1 1 w F xs.length m xs) (hx : ∀ k, 0 ≤ LL.nthI xs k ∧ LL.nthI xs k ≤ 255) : Calls Try.prog 53 #[.slice F xs.length m] w fun e w' => ∃ (p : LL.Path) (A : Option Addr) (c : Nat) (q : LL.Path) (B : Option Addr) (d : Nat) (t : Int), e = .returned (.tuple #[.agg #[.int .i64 p.q, .int .i64 p.s, .slice A p.steps.length c, .int .i64 p.fr, .int .i64 p.by_], .agg #[.int .i64 q.q, .int .i64 q.s, .slice B q.steps.length d, .int .i64 q.fr, .int .i64 q.by_], .int .i64 t]) ∧ RdS w' A p.steps.length c p.steps ∧ RdS w' B q.steps.length d q.steps ∧ 0 ≤ t ∧ t ≤ 20000 ∧ Below w.heap.size w w' := by
  replace hx := Lib.hid hx
  go_enter Try.func53, Try.ntmps53
  go_upto_region 2 with (go_at_call 67; refine (spec_l1Open_c xs F m _ (h.mono (by repeat' (first | with_reducible exact Below.refl _ _ | with_reducible assumption | with_reducible refine b_alloc ?_ _ | with_reducible refine b_drewN ?_ _ | with_reducible refine b_drew ?_ | with_reducible refine b_set ?_ (by first | (simp only [World.size_setCell, World.size_alloc, World.size_drew]; omega) | (simp; done) | (simp; omega)) _ | with_reducible refine b_step ?_ (by with_reducible assumption)))) hx.out).mono ?_; rintro e w1 ⟨rfl, hb1, hr1, hz1⟩; (try simp only [World.size_alloc] at hr1 hz1))
  have k1 : Blk w1 w.heap.size #[.int .i64 0, .int .i64 0, .slice none 0 0, .int .i64 0, .int .i64 0] 43 := Blk.b ((Blk.new w #[.int .i64 0, .int .i64 0, .slice none 0 0, .int .i64 0, .int .i64 0] 43).a _) hb1
  have k2 : Blk w1 (w.heap.size + 1) #[.int .i64 0, .int .i64 0, .slice none 0 0, .int .i64 0, .int .i64 0] 43 := Blk.b (Blk.new' _ _ (by simp)) hb1
  have hB1 : Below w.heap.size w w1 := b_step (b_alloc (b_alloc (Below.refl _ _) _) _) hb1
  generalize hgg : w.heap.size + 1 + 1 = g at *
  have hgg' : g = w.heap.size + 2 := by omega
  replace hgg' := Lib.hid hgg'
  have n1 : w.heap.size ≠ g := by omega
  have n2 : w.heap.size + 1 ≠ g := by omega
  have ng : w.heap.size ≤ g := by omega
  clear hb1
  go_upto_region 3 with (go_at_call 84; (refine l10Seen_mono (N := 0) hr1 (by omega) ?_); intro p A c k en t w2 hp2 hO2 hfr2 ht0 ht1 hg2 hr2; have hz2 := hg2.size)
  go_upto_region 4 with (go_at_call 93; (refine l10Other_mono (N := 0 + 5200) (p := p) (hr2.a _) (by omega) hp2 (hO2.a _) (fun j hj => by have := hfr2 j hj; omega) ?_); intro q B d w3 hq3 hO3 hfr3 hg3 hr3; have hz3 := hg3.size; (simp only [World.size_alloc] at hz3 hfr3); have kP3 := (Blk.new w2 #[.int .i64 p.q, .int .i64 p.s, .slice A p.steps.length c, .int .i64 p.fr, .int .i64 p.by_] 43).g1 hg3 (by omega); obtain ⟨e1, f1, l1⟩ := kP3.cells)
  have hT : TwSt w g w2.heap.size w3.heap.size p A c q B d (0 + 5200 + 3100) (w3.alloc (.cells #[.int .i64 q.q, .int .i64 q.s, .slice B q.steps.length d, .int .i64 q.fr, .int .i64 q.by_] 43)) := by
    have hg9 := hgg'.out
    exact ⟨b_alloc (b_gS (b_alloc (b_gS hB1 hg2 (by omega) (fun k e => by omega)) _) hg3 (by simp only [World.size_alloc]; omega) (fun k e => by omega)) _, hr3.a _, (((k1.g1 hg2 n1).a _).g1 hg3 n1).a _, (((k2.g1 hg2 n2).a _).g1 hg3 n2).a _, kP3.a _, Blk.new _ _ _, ((hO2.a _).g1 hg3 (B := w1.heap.size) hfr2 (by omega)).a _, hO3.a _, fun j hj => by have := hfr2 j hj; omega, fun j hj => by have := hfr3 j hj; omega, by omega⟩
  refine wp_name (fun W => TwSt w g w2.heap.size w3.heap.size p A c q B d 8300 W) (by exact hT) ?_
  clear hT hg2 hr2 hO2 hfr2 hg3 hr3 hO3 hfr3 kP3 e1 f1 l1 k1 k2 hB1 hr1 hz1
  rintro W hT
  generalize w2.heap.size = bp at *
  generalize w3.heap.size = bq at *
  have hR := hT.rd
  have lq := blk_lt hT.kQ.at_
  have nq : bq ≠ g := by have := hT.lt; omega
  go_upto_if 27 with ((go_at_call 69; (refine pick_mono (N := ?_) ?_ ?_ ?_); (rotate_left); (focus (exact (by repeat' (first | with_reducible assumption | with_reducible refine Rdr.a ?_ _ | with_reducible refine Rdr.d ?_ | with_reducible refine Rdr.s1 ?_ (by omega) _ _ | with_reducible refine Rdr.b ?_ (by with_reducible assumption))))); (focus omega); intro v1 w4 hv0 hv1 hg1 hr1; obtain ⟨hc, hf⟩ := gcell1 hg1; (try simp only [World.size_drew] at hc hf); have hz := hg1.size; (try simp only [World.size_setCell, World.size_alloc, World.size_drew] at hz); have yw4_0 : bq < w4.heap.size := (by omega)); (try have hv2 := pk_lt hv1 (by omega)))
  have hT4 := hT.go hg1 hr1
  clear hT hg1 hr1 hc hf hz hR lq
  go_cut [] (fun wc => ∃ (q : LL.Path) (B : Option Addr) (d : Nat), TwSt w g bp bq p A c q B d 12000 wc)
  case first =>
    by_cases hv0' : v1 = 0
    · subst hv0'
      have hl4 := Lib.hid hT4.lt
      go_wp2_with (first | (have hq9 := hg5; go_at_call 94; go_loud (refine l10Spoil_mono (N := 8300 + 1 + 3000) (p := p5) (hO5.rd_at' stepE) hp51 hp52 hr5 (by omega) ?_); intro p6 A6 c6 w6 hp6 hO6 hfr6 hg6 hr6; have hT6 := hT5.go hg6 hr6; obtain ⟨e6, f6, l6⟩ := hT6.kQ.cells) | (go_at_call 95; go_loud (refine l10Path_mono (N := 8300 + 1) hT4.rd (by omega) ?_); intro p5 A5 c5 w5 hp51 hp52 hO5 hfr5 hg5 hr5; have hT5 := hT4.go hg5 hr5; have hz5 := hg5.size))
      have hl5 := hl4.out
      have lw5 := blk_lt hT5.kQ.at_
      have lz5 := hT5.be.size
      have lg5 := hT5.rd.lt
      go_meet
      case rel => exact ⟨p6, A6, c6, (hT6.other hO6 (fun j hj => by have := hfr6 j hj; omega)).up (by omega)⟩
    · have hb0 : (v1 == 0) = false := by simp [hv0']
      go_wp2
      go_meet
      case rel => exact ⟨q, B, d, hT4.up (by omega)⟩
  clear hT4
  obtain ⟨q, B, d, hT⟩ := hcut
  go_upto_region 6 with fail
  go_cut [40] (fun v wc => (∃ z, v = .bool z) ∧ TwSt w g bp bq p A c q B d 12001 wc)
  case first =>
    have hR := hT.rd
    have lp := blk_lt hT.kP.at_
    have np : bp ≠ g := by have := hT.lt; omega
    obtain ⟨e1, f1, l1⟩ := hT.kP.cells
    go_wp2_with ((go_at_call 69; (refine pick_mono (N := ?_) ?_ ?_ ?_); (rotate_left); (focus (exact (by repeat' (first | with_reducible assumption | with_reducible refine Rdr.a ?_ _ | with_reducible refine Rdr.d ?_ | with_reducible refine Rdr.s1 ?_ (by omega) _ _ | with_reducible refine Rdr.b ?_ (by with_reducible assumption))))); (focus omega); intro v1 w5 hv0 hv1 hg1 hr1; obtain ⟨hc, hf⟩ := gcell1 hg1; (try simp only [World.size_drew] at hc hf); have hz := hg1.size; (try simp only [World.size_setCell, World.size_alloc, World.size_drew] at hz); have yw5_0 : bp < w5.heap.size := (by omega)); (try have hv2 := pk_lt hv1 (by omega)))
    all_goals (go_meet; case rel => exact ⟨⟨_, rfl⟩, hT.go hg1 hr1⟩)
  clear hT
  obtain ⟨⟨z, rfl⟩, hT⟩ := hcut
  go_upto_if 40 with fail
  go_cut [9] (fun v wc => (∃ t : Int, v = .int .i64 t ∧ 0 ≤ t ∧ t ≤ 20000) ∧ TwSt w g bp bq p A c q B d 12001 wc)
  case first =>
    cases z
    · go_wp2
      go_meet
      case rel => exact ⟨⟨t, rfl, ht0, ht1⟩, hT⟩
    · obtain ⟨e1, f1, l1⟩ := hT.kP.cells
      have hS := hT.rowP.rd_at' stepE
      by_cases hF : LL.Flies p
      · have y0 := LL.lo_0 p hF.1.win 0 (Nat.zero_le _)
        have y1 := LL.hi_1 p hF.1.win 0 (Nat.zero_le _)
        have y2 := hF.2.2 0 (Nat.zero_le _)
        have hsl : (LL.spans p).length = p.steps.length + 1 := LL.tab_len _ _
        have hsz : LL.nthP (LL.spans p) 0 = ⟨LL.lo p 0, LL.hi p 0⟩ := LL.tab_getD (Nat.succ_pos _)
        replace hsl := Lib.hid hsl
        go_upto_region 8 with (go_at_call 33; go_loud (refine (spec_FlySpans_c p A c _ hS).mono ?_); intro e w6 hM; go_loud (rw [LL.spansM_yes hF, decide_eq_true hF] at hM); obtain ⟨A6, c6, e9, hO6, -, hB6⟩ := hM.go2 spanE; rw [hsl.out] at e9 hO6; subst e9; have hL6 := hO6.rd_at' spanE)
        obtain ⟨bL, oL, rfl, hbL⟩ := hL6.addr (by omega)
        obtain ⟨d0, d1⟩ := hL6.S2 0 (by omega)
        rw [hsz] at d0
        simp only [Nat.zero_mul, Nat.add_zero] at d0
        clear hsz
        go_wp2
        go_meet
        case rel => exact ⟨⟨_, rfl, by omega, by omega⟩, hT.bl hB6⟩
      · go_wp2_with (go_at_call 33; go_loud (refine (spec_FlySpans_c p A c _ hS).mono ?_); intro e w6 hM; go_loud (rw [LL.spansM_no hF, decide_eq_false hF] at hM); obtain ⟨A6, c6, rfl, hO6, -, hB6⟩ := hM.go2 spanE)
        go_meet
        case rel => exact ⟨⟨t, rfl, ht0, ht1⟩, hT.bl hB6⟩
  clear hT
  obtain ⟨⟨t2, rfl, ht2, ht3⟩, hT⟩ := hcut
  have hlt := Lib.hid hT.lt
  have nq0 : bq ≠ w.heap.size := by have := hlt.out; omega
  have nq1 : bq ≠ w.heap.size + 1 := by have := hlt.out; omega
  have np0 : bp ≠ w.heap.size := by have := hlt.out; omega
  have np1 : bp ≠ w.heap.size + 1 := by have := hlt.out; omega
  have n12 : w.heap.size + 1 ≠ w.heap.size := by omega
  obtain ⟨e0, f0, l0⟩ := hT.k1.cells
  obtain ⟨e1, f1, l1⟩ := hT.k2.cells
  obtain ⟨e2, f2, l2⟩ := hT.kP.cells
  obtain ⟨e3, f3, l3⟩ := hT.kQ.cells
  have k1 := hT.k1
  have k2 := hT.k2
  have hbe := hT.be
  have hP1 := hT.rowP.neB2 hT.k1 (by decide)
  have hP2 := hT.rowP.neB2 hT.k2 (by decide)
  have hQ1 := hT.rowQ.neB2 hT.k1 (by decide)
  have hQ2 := hT.rowQ.neB2 hT.k2 (by decide)
  have hOP := hT.rowP
  have hOQ := hT.rowQ
  have hfP : ∀ k, (Value.slice A p.steps.length c).ownBlock = some k → w.heap.size + 1 < k := fun k hk => by have := hT.fP k hk; omega
  have hfQ : ∀ k, (Value.slice B q.steps.length d).ownBlock = some k → w.heap.size + 1 < k := fun k hk => by have := hT.fQ k hk; omega
  replace hfP := Lib.hid hfP
  replace hfQ := Lib.hid hfQ
  clear hP1 hP2 hQ1 hQ2
  go_upto_region 10 with fail
  go_cut [4] (fun v wc => v = .int .i64 t2 ∧ Blk wc w.heap.size #[.int .i64 p.q, .int .i64 p.s, .slice A p.steps.length c, .int .i64 p.fr, .int .i64 p.by_] 43 ∧ Blk wc (w.heap.size + 1) #[.int .i64 q.q, .int .i64 q.s, .slice B q.steps.length d, .int .i64 q.fr, .int .i64 q.by_] 43 ∧ Own stepC 7 56 79 wc (.slice A p.steps.length c) p.steps ∧ Own stepC 7 56 79 wc (.slice B q.steps.length d) q.steps ∧ Below w.heap.size w wc)
  case first =>
    go_region
    all_goals (try simp only [List.getElem_toArray, List.getElem_cons_succ, List.getElem_cons_zero, Act.put, List.setIfInBounds_toArray, List.set_cons_zero, List.set_cons_succ])
    all_goals go_wp2
    all_goals (have hfP6 := hfP.out; have hfQ6 := hfQ.out; have hlt6 := hlt.out; go_meet; case rel => exact ⟨rfl, (by repeat' (first | with_reducible assumption | with_reducible refine put5z ?_ | with_reducible refine Blk.d ?_ | with_reducible refine Blk.s ?_ (by simp only [ne_eq]; omega) _)), (by repeat' (first | with_reducible assumption | with_reducible refine put5z ?_ | with_reducible refine Blk.d ?_ | with_reducible refine Blk.s ?_ (by simp only [ne_eq]; omega) _)), (by repeat' (first | with_reducible assumption | with_reducible refine Own.s ?_ _ (fun k hk => by have := hfP6 k hk; (try simp only); omega) | with_reducible refine Own.a ?_ _ | with_reducible refine Own.d ?_ | with_reducible refine Own.dN ?_ _ | with_reducible refine Own.b ?_ (by with_reducible assumption))), (by repeat' (first | with_reducible assumption | with_reducible refine Own.s ?_ _ (fun k hk => by have := hfQ6 k hk; (try simp only); omega) | with_reducible refine Own.a ?_ _ | with_reducible refine Own.d ?_ | with_reducible refine Own.dN ?_ _ | with_reducible refine Own.b ?_ (by with_reducible assumption))), (by repeat' (first | with_reducible exact Below.refl _ _ | with_reducible assumption | with_reducible refine b_alloc ?_ _ | with_reducible refine b_drewN ?_ _ | with_reducible refine b_drew ?_ | with_reducible refine b_set ?_ (by first | (simp only [World.size_setCell, World.size_alloc, World.size_drew]; omega) | (simp; done) | (simp; omega)) _ | with_reducible refine b_step ?_ (by with_reducible assumption)))⟩)
  obtain ⟨rfl, k1', k2', hOP', hOQ', hb'⟩ := hcut
  clear e0 f0 l0 e1 f1 l1 e2 f2 l2 e3 f3 l3
  obtain ⟨e0, f0, l0⟩ := k1'.cells
  obtain ⟨e1, f1, l1⟩ := k2'.cells
  go_wp2
  (refine bodyPost_ret (res_cct rfl _ [.int .i64 p.q, .int .i64 p.s, .slice A p.steps.length c, .int .i64 p.fr, .int .i64 p.by_] [.int .i64 q.q, .int .i64 q.s, .slice B q.steps.length d, .int .i64 q.fr, .int .i64 q.by_] rfl rfl _ rfl _ _ Try.underlying43 Try.underlying43 rfl rfl (by kernel_rfl) (by kernel_rfl) (by simp only [CellsAt, and_true]; and_intros <;> go_simp) (by simp only [CellsAt, and_true]; and_intros <;> go_simp)) rfl ?_)
  exact ⟨p, A, c, q, B, d, t2, rfl, hOP'.rd_at' stepE, hOQ'.rd_at' stepE, ht2, ht3, hb'⟩
end Go.Proofs.Ytpeojnknfonmlaa
