/- What is drawn for the law of spans: a path and a flight, one in two a little wrong. -/
import Derived.Test.YtpeojnknfonmlaaRK
import Derived.Test.YtpeojnknfonmlaaD4
set_option linter.unusedVariables false
set_option linter.unusedSimpArgs false
namespace Go.Proofs.Ytpeojnknfonmlaa
open Go.RowKit
/-- a path and a list of ticks that are drawn -/
structure FSt (w : World) (g bp : Nat) (p : LL.Path) (A : Option Addr) (c : Nat) (B : Option Addr) (d : Nat) (f : List Int) (N : Nat) (W : World) : Prop where
  be : Below w.heap.size w W
  rd : Rdr 121 W g N
  kR : Blk W w.heap.size #[.int .i64 0, .int .i64 0, .slice none 0 0, .int .i64 0, .int .i64 0] 43
  kP : Blk W bp #[.int .i64 p.q, .int .i64 p.s, .slice A p.steps.length c, .int .i64 p.fr, .int .i64 p.by_] 43
  rowP : Own stepC 7 56 79 W (.slice A p.steps.length c) p.steps
  rowF : Own intC 1 8 3 W (.slice B f.length d) f
  fP : ∀ j, (Value.slice A p.steps.length c).ownBlock = some j → w.heap.size + 2 ≤ j
  fF : ∀ j, (Value.slice B f.length d).ownBlock = some j → w.heap.size + 2 ≤ j
  lt : w.heap.size < g ∧ g < w.heap.size + 2 ∧ g < bp ∧ w.heap.size + 2 ≤ W.heap.size
theorem FSt.go {w W W' : World} {g bp N M c d : Nat} {p : LL.Path} {A B : Option Addr} {f : List Int} (h : FSt w g bp p A c B d f N W) (hg : GrownS W W' (fun k => k = g)) (hr : Rdr 121 W' g M) : FSt w g bp p A c B d f M W' := by
  have hl := h.lt
  have hz := hg.size
  exact ⟨b_gS h.be hg (by omega) (fun k e => by omega), hr, h.kR.g1 hg (by omega), h.kP.g1 hg (by omega), h.rowP.g1 hg h.fP (by omega), h.rowF.g1 hg h.fF (by omega), h.fP, h.fF, by omega⟩
theorem FSt.up {w W : World} {g bp N M c d : Nat} {p : LL.Path} {A B : Option Addr} {f : List Int} (h : FSt w g bp p A c B d f N W) (hM : N ≤ M) : FSt w g bp p A c B d f M W := { h with rd := h.rd.up hM }
theorem Rd.two {w : World} {g : Nat} {t : TypeId} {a b : Int} (h : Blk w g #[.int .i64 a, .int .i64 b] t) : RdI w (some ⟨g, 0, none⟩) 2 2 [a, b] where
  len := rfl
  cap := Nat.le_refl _
  room := by decide
  at_ _ := ⟨g, 0, rfl, blk_lt h.at_, fun i x hi j u hu => by
    match i, hi with
    | 0, hi => cases hi; match j, hu with | 0, hu => cases hu; exact h.cells.1 0
    | 1, hi => cases hi; match j, hu with | 0, hu => cases hu; exact h.cells.1 1⟩
theorem FSt.ne {w W : World} {g bp N c d : Nat} {p : LL.Path} {A B : Option Addr} {f : List Int} (h : FSt w g bp p A c B d f N W) : ∀ j, (Value.slice A p.steps.length c).ownBlock = some j → (Value.slice B f.length d).ownBlock ≠ some j := fun j hj e => by
  rcases h.rowP.row.2 with ⟨e1, _⟩ | ⟨g1, cap1, cur1, e1, _, hh1, _⟩
  · rw [e1] at hj; simp [Value.ownBlock] at hj
  · rcases h.rowF.row.2 with ⟨e2, _⟩ | ⟨g2, cap2, cur2, e2, _, hh2, _⟩
    · rw [e2] at e; simp [Value.ownBlock] at e
    · rw [e1] at hj; rw [e2] at e
      simp [Value.ownBlock] at hj e
      subst hj; subst e
      have := hh1.symm.trans hh2
      simp at this
theorem FSt.app {w W W' : World} {o : Obj} {g bp N c d d' n : Nat} {p : LL.Path} {A B B' : Option Addr} {f q : List Int} (h : FSt w g bp p A c B d f N W) (hO : Own intC 1 8 3 W' (.slice B' q.length d') q) (hg : (W.alloc o).grownBy W' (Value.slice B n d).ownBlock) (ha : (Value.slice B' q.length d').ownBlock = (Value.slice B n d).ownBlock ∨ (Value.slice B' q.length d').ownBlock = some (W.alloc o).heap.size) : FSt w g bp p A c B' d' q N W' := by
  have hn : (Value.slice B n d).ownBlock = (Value.slice B f.length d).ownBlock := by cases B <;> rfl
  rw [hn] at hg ha
  have hl := h.lt
  have hz := hg.size
  simp only [World.size_alloc] at hz ha
  have n1 := h.rowF.neB2 h.kP (by decide)
  have n2 := h.rowF.neB2 h.kR (by decide)
  refine ⟨b_grown' (w := w) (b_alloc h.be _) hg (by simp only [World.size_alloc]; omega) (fun j e => by have := h.fF j e; omega), (h.rd.a o).gS (GrownS.of hg) (fun j e => by have := h.fF j e; omega), (h.kR.a o).grown hg (fun e => n2 _ e rfl), (h.kP.a o).grown hg (fun e => n1 _ e rfl), (h.rowP.a o).grown hg ?_, hO, h.fP, fun j hj => ?_, by omega⟩
  · cases hv : (Value.slice A p.steps.length c).ownBlock with
    | none => exact .inl rfl
    | some j => exact .inr (fun e => h.ne j hv e.symm)
  · rcases ha with e | e
    · rw [e] at hj; exact h.fF j hj
    · rw [e] at hj; cases hj; omega
theorem FSt.set {w W : World} {g bp N c d k gB : Nat} {p : LL.Path} {A : Option Addr} {f : List Int} (h : FSt w g bp p A c (some ⟨gB, 0, none⟩) d f N W) (hk : k < f.length) (x : Int) : FSt w g bp p A c (some ⟨gB, 0, none⟩) d (f.set k x) N (W.setCell ⟨gB, k, none⟩ (.int .i64 x)) := by
  have hl := h.lt
  have hg := h.fF gB rfl
  have n1 := h.rowF.neB2 h.kP (by decide) gB rfl
  have n2 := h.rowF.neB2 h.kR (by decide) gB rfl
  have hP : ∀ j, (Value.slice A p.steps.length c).ownBlock = some j → j ≠ gB := fun j hj e => by
    subst e
    rcases h.rowP.row.2 with ⟨e1, _⟩ | ⟨g1, cap1, cur1, e1, _, hh1, _⟩
    · rw [e1] at hj; simp [Value.ownBlock] at hj
    · rcases h.rowF.row.2 with ⟨e2, _⟩ | ⟨g2, cap2, cur2, e2, _, hh2, _⟩
      · cases e2
      · rw [e1] at hj
        simp [Value.ownBlock] at hj
        injection e2 with e2; injection e2 with e2; injection e2 with e2
        subst hj; subst e2
        have := hh1.symm.trans hh2
        simp at this
  have hlen : (f.set k x).length = f.length := List.length_set ..
  refine ⟨b_set h.be (by simp only; omega) _, h.rd.s1 (by omega) _ _, h.kR.s (by simp only [ne_eq]; omega) _, h.kP.s (by simp only [ne_eq]; omega) _, h.rowP.s _ hP, ?_, h.fP, ?_, by rw [World.size_setCell]; exact h.lt⟩
  · rw [hlen]; exact h.rowF.set1 rfl k hk x
  · rw [hlen]; exact h.fF
set_option maxRecDepth 100000 in
set_option maxHeartbeats 8000000 in
theorem spec_DrawFlyLawful_c (xs : List Int) (F : Option Addr) (m : Nat) (w : World) (h : Rd u8C 1 1 w F xs.length m xs) (hx : ∀ k, 0 ≤ LL.nthI xs k ∧ LL.nthI xs k ≤ 255) : Calls Try.prog 32 #[.slice F xs.length m] w fun e w' => ∃ (p : LL.Path) (A : Option Addr) (c : Nat) (f : List Int) (B : Option Addr) (d : Nat), e = .returned (.tuple #[.agg #[.int .i64 p.q, .int .i64 p.s, .slice A p.steps.length c, .int .i64 p.fr, .int .i64 p.by_], .slice B f.length d]) ∧ p.steps.length ≤ 60 ∧ RdS w' A p.steps.length c p.steps ∧ RdI w' B f.length d f ∧ Below w.heap.size w w' := by
  replace hx := Lib.hid hx
  have n0 : w.heap.size ≠ w.heap.size + 1 := by omega
  go_enter Try.func32, Try.ntmps32
  go_upto_region 3 with (first | (go_at_call 67; refine (spec_l1Open_c xs F m _ (h.mono (by repeat' (first | with_reducible exact Below.refl _ _ | with_reducible assumption | with_reducible refine b_alloc ?_ _ | with_reducible refine b_drewN ?_ _ | with_reducible refine b_drew ?_ | with_reducible refine b_set ?_ (by first | (simp only [World.size_setCell, World.size_alloc, World.size_drew]; omega) | (simp; done) | (simp; omega)) _ | with_reducible refine b_step ?_ (by with_reducible assumption)))) hx.out).mono ?_; rintro e w1 ⟨rfl, hb1, hr1, hz1⟩; (try simp only [World.size_alloc] at hr1 hz1)) | (go_at_call 68; (refine l10Any_mono (N := ?_) ?_ ?_ ?_); (rotate_left); (focus (exact hr1)); (focus omega); intro p A c w2 hp2 hO2 hfr2 hg2 hr2; obtain ⟨hc, hf⟩ := gcell1 hg2; have hz2 := hg2.size))
  have kR3 : Blk (w2.alloc (.cells #[.int .i64 p.q, .int .i64 p.s, .slice A p.steps.length c, .int .i64 p.fr, .int .i64 p.by_] 43)) w.heap.size #[.int .i64 0, .int .i64 0, .slice none 0 0, .int .i64 0, .int .i64 0] 43 := (((Blk.new w #[.int .i64 0, .int .i64 0, .slice none 0 0, .int .i64 0, .int .i64 0] 43).b (by simpa using hb1)).g1 hg2 n0).a _
  have kP3 := Blk.new w2 #[.int .i64 p.q, .int .i64 p.s, .slice A p.steps.length c, .int .i64 p.fr, .int .i64 p.by_] 43
  have hO3 := hO2.a (.cells #[.int .i64 p.q, .int .i64 p.s, .slice A p.steps.length c, .int .i64 p.fr, .int .i64 p.by_] 43)
  have hR3 : Rdr 121 (w2.alloc (.cells #[.int .i64 p.q, .int .i64 p.s, .slice A p.steps.length c, .int .i64 p.fr, .int .i64 p.by_] 43)) (w.heap.size + 1) (0 + 3600) := hr2.a _
  have hB3 : Below w.heap.size w (w2.alloc (.cells #[.int .i64 p.q, .int .i64 p.s, .slice A p.steps.length c, .int .i64 p.fr, .int .i64 p.by_] 43)) := b_alloc (b_gS (b_step (b_alloc (Below.refl _ _) _) hb1) hg2 (by omega) (fun k e => by omega)) _
  have hfr3 : ∀ j, (Value.slice A p.steps.length c).ownBlock = some j → w.heap.size + 2 ≤ j := fun j hj => by have := hfr2 j hj; omega
  have hbp : w.heap.size + 1 < w2.heap.size := by omega
  have hz3 : w.heap.size + 2 ≤ (w2.alloc (.cells #[.int .i64 p.q, .int .i64 p.s, .slice A p.steps.length c, .int .i64 p.fr, .int .i64 p.by_] 43)).heap.size := by simp only [World.size_alloc]; omega
  clear hg2 hr2 hO2 hc hf hfr2 hb1 hr1
  generalize w2.alloc (.cells #[.int .i64 p.q, .int .i64 p.s, .slice A p.steps.length c, .int .i64 p.fr, .int .i64 p.by_] 43) = w3 at *
  generalize w2.heap.size = bp at *
  obtain ⟨e0, f0, l0⟩ := kR3.cells
  obtain ⟨e1, f1, l1⟩ := kP3.cells
  have hS3 := hO3.rd_at' stepE
  generalize hgg : w.heap.size + 1 = g at *
  have hga : g < w.heap.size + 2 := by omega
  have hgb : w.heap.size < g := by omega
  replace hgg := Lib.hid hgg
  have hfr3' := Lib.hid hfr3
  have hbg : bp ≠ g := by omega
  have n0' : w.heap.size ≠ g := n0
  have lg := hR3.lt
  clear hfr3
  go_cut [6, 7] (fun v6 v7 wc => (∃ b, v7 = .bool b) ∧ ∃ (f : List Int) (B : Option Addr) (d : Nat), v6 = .slice B f.length d ∧ f.length ≤ 61 ∧ FSt w g bp p A c B d f 5100 wc)
  case first =>
    go_region_with (first | (go_at_call 78; (refine l10Asked_mono (N := 0 + 3600) (p := p) hp2 (hS3.mono (by repeat' (first | with_reducible exact Below.refl _ _ | with_reducible assumption | with_reducible refine b_alloc ?_ _ | with_reducible refine b_drewN ?_ _ | with_reducible refine b_drew ?_ | with_reducible refine b_set ?_ (by first | (simp only [World.size_setCell, World.size_alloc, World.size_drew]; omega) | (simp; done) | (simp; omega)) _ | with_reducible refine b_step ?_ (by with_reducible assumption)))) (by repeat' (first | with_reducible assumption | with_reducible refine Rdr.a ?_ _ | with_reducible refine Rdr.d ?_ | with_reducible refine Rdr.s1 ?_ (by omega) _ _ | with_reducible refine Rdr.b ?_ (by with_reducible assumption))) (by omega) ?_); intro ys B4 d4 w4 hy4 hO4 hf4 hg4 hr4; (try simp only [World.size_drew, World.size_alloc] at hf4); obtain ⟨hc, hf⟩ := gcell1 hg4; have kP4 : Blk w4 bp #[.int .i64 p.q, .int .i64 p.s, .slice A p.steps.length c, .int .i64 p.fr, .int .i64 p.by_] 43 := (by repeat' (first | with_reducible assumption | with_reducible refine Blk.a ?_ _ | with_reducible refine Blk.d ?_ | with_reducible refine put5z ?_ | with_reducible refine Blk.g1 ?_ (by with_reducible assumption) (by omega))); have kR4 : Blk w4 w.heap.size #[.int .i64 0, .int .i64 0, .slice none 0 0, .int .i64 0, .int .i64 0] 43 := (by repeat' (first | with_reducible assumption | with_reducible refine Blk.a ?_ _ | with_reducible refine Blk.d ?_ | with_reducible refine put5z ?_ | with_reducible refine Blk.g1 ?_ (by with_reducible assumption) (by omega))); obtain ⟨e4, f4, l4⟩ := kP4.cells; clear hc hf; have hz4 := hg4.size; (try simp only [World.size_drew, World.size_alloc] at hz4); have hI4 := hO4.rd_at' intE; have hP4 : Own stepC 7 56 79 w4 (.slice A p.steps.length c) p.steps := (by repeat' (first | with_reducible assumption | with_reducible refine Own.s ?_ _ hfr3'.out | with_reducible refine Own.a ?_ _ | with_reducible refine Own.d ?_ | with_reducible refine Own.g1 (B := w.heap.size + 2) ?_ (by with_reducible assumption) hfr3'.out (by omega))); have hS4 := hP4.rd_at' stepE) | (go_at_call 50; go_loud (refine (spec_FlyGo_c p [] ys A _ B4 c 0 d4 _ (hS4.mono (by repeat' (first | with_reducible exact Below.refl _ _ | with_reducible assumption | with_reducible refine b_alloc ?_ _ | with_reducible refine b_drewN ?_ _ | with_reducible refine b_drew ?_ | with_reducible refine b_set ?_ (by first | (simp only [World.size_setCell, World.size_alloc, World.size_drew]; omega) | (simp; done) | (simp; omega)) _ | with_reducible refine b_step ?_ (by with_reducible assumption)))) ⟨rfl, by simp, by simp, fun h => absurd h (by simp)⟩ (hI4.mono (by repeat' (first | with_reducible exact Below.refl _ _ | with_reducible assumption | with_reducible refine b_alloc ?_ _ | with_reducible refine b_drewN ?_ _ | with_reducible refine b_drew ?_ | with_reducible refine b_set ?_ (by first | (simp only [World.size_setCell, World.size_alloc, World.size_drew]; omega) | (simp; done) | (simp; omega)) _ | with_reducible refine b_step ?_ (by with_reducible assumption))))).mono ?_); intro e w5 hM; obtain ⟨A5, c5, rfl, hO5, hOg5, hB5⟩ := hM.go2 intE; have hz5 := hB5.size; (try simp only [World.size_alloc] at hz5 hOg5)))
    all_goals (try simp only [List.getElem_toArray, List.getElem_cons_succ, List.getElem_cons_zero, Act.put, List.setIfInBounds_toArray, List.set_cons_zero, List.set_cons_succ])
    all_goals go_wp2
    all_goals (have hl5 : (LL.goL p [] ys).length ≤ 61 := (by have := LL.goL_len (p := p) (f := []) (asked := ys) (N := 61) ⟨by simp, by omega⟩; omega))
    all_goals (have hfr5 := hfr3'.out; go_meet; case rel => exact ⟨⟨_, rfl⟩, _, A5, c5, rfl, hl5, ⟨b_step (by repeat' (first | with_reducible assumption | with_reducible refine b_alloc ?_ _ | with_reducible refine b_drew ?_ | with_reducible refine b_set ?_ (by omega) _ | with_reducible refine b_set ?_ (by simp only; omega) _ | with_reducible refine b_gS ?_ (by with_reducible assumption) (by (try simp only [World.size_setCell, World.size_alloc, World.size_drew]); omega) (fun k e => by omega))) hB5, Rdr.up (N := 0 + 3600 + 1400) (Rdr.b (by repeat' (first | with_reducible assumption | with_reducible refine Rdr.a ?_ _ | with_reducible refine Rdr.d ?_ | with_reducible refine Rdr.s1 ?_ (by omega) _ _ | with_reducible refine Rdr.b ?_ (by with_reducible assumption))) hB5) (by omega), Blk.b (by repeat' (first | with_reducible assumption | with_reducible refine Blk.a ?_ _ | with_reducible refine Blk.d ?_ | with_reducible refine put5z ?_ | with_reducible refine Blk.g1 ?_ (by with_reducible assumption) (by omega))) hB5, Blk.b (by repeat' (first | with_reducible assumption | with_reducible refine Blk.a ?_ _ | with_reducible refine Blk.d ?_ | with_reducible refine put5z ?_ | with_reducible refine Blk.g1 ?_ (by with_reducible assumption) (by omega))) hB5, Own.b (by repeat' (first | with_reducible assumption | with_reducible refine Own.s ?_ _ hfr5 | with_reducible refine Own.a ?_ _ | with_reducible refine Own.d ?_ | with_reducible refine Own.g1 (B := w.heap.size + 2) ?_ (by with_reducible assumption) hfr5 (by omega))) hB5, hO5, hfr5, (fun j hj => by have := hOg5 j hj; omega), ⟨hgb, hga, by omega, by omega⟩⟩⟩)
  obtain ⟨⟨b7, rfl⟩, f, B, d, rfl, hfl, hF⟩ := hcut
  clear e0 f0 l0 e1 f1 l1 hS3 hR3 hB3 kR3 kP3 hO3
  go_upto_region 4 with fail
  go_cut [29] (fun v29 wc => (∃ z, v29 = .bool z ∧ (z = true → 0 < f.length)) ∧ FSt w g bp p A c B d f 5101 wc)
  case first =>
    have hR := hF.rd
    by_cases h0 : (0 : Int) < f.length
    · go_wp2_with (go_at_call 69; (refine pick_mono (N := ?_) ?_ ?_ ?_); (rotate_left); (focus (exact (by repeat' (first | with_reducible assumption | with_reducible refine Rdr.a ?_ _ | with_reducible refine Rdr.d ?_ | with_reducible refine Rdr.s1 ?_ (by omega) _ _ | with_reducible refine Rdr.b ?_ (by with_reducible assumption))))); (focus omega); intro v1 w6 hv0 hv1 hg1 hr1; obtain ⟨hc, hf⟩ := gcell1 hg1; (try simp only [World.size_drew] at hc hf); have hz := hg1.size; (try simp only [World.size_setCell, World.size_alloc, World.size_drew] at hz); skip)
      all_goals (go_meet; case rel => exact ⟨⟨_, rfl, fun _ => by omega⟩, hF.go hg1 hr1⟩)
    · go_wp2
      all_goals (go_meet; case rel => exact ⟨⟨_, rfl, fun e => by cases e⟩, hF.up (by omega)⟩)
  obtain ⟨⟨z, rfl, hz⟩, hF2⟩ := hcut
  clear hF
  go_upto_if 29 with fail
  go_cut [8] (fun v8 wc => ∃ f' : List Int, f'.length = f.length ∧ FSt w g bp p A c B d f' 5130 wc)
  case first =>
    cases z
    · go_wp2
      all_goals (go_meet; case rel => exact ⟨f, rfl, hF2.up (by omega)⟩)
    · have hpos := hz rfl
      have hR := hF2.rd
      have lbp := blk_lt hF2.kP.at_
      go_upto_region 6 with (go_at_call 69; (refine pick_mono (N := ?_) ?_ ?_ ?_); (rotate_left); (focus (exact (by repeat' (first | with_reducible assumption | with_reducible refine Rdr.a ?_ _ | with_reducible refine Rdr.d ?_ | with_reducible refine Rdr.s1 ?_ (by omega) _ _ | with_reducible refine Rdr.b ?_ (by with_reducible assumption))))); (focus omega); intro v1 w6 hv0 hv1 hg1 hr1; obtain ⟨hc, hf⟩ := gcell1 hg1; (try simp only [World.size_drew] at hc hf); have hz := hg1.size; (try simp only [World.size_setCell, World.size_alloc, World.size_drew] at hz); have yw6_0 : bp < w6.heap.size := (by omega))
      obtain ⟨k, rfl⟩ : ∃ k : Nat, v1 = k := ⟨v1.toNat, by omega⟩
      have hk : k < f.length := by omega
      have hF3 := hF2.go hg1 hr1
      clear hv0 hv1 hg1 hr1 hc hf hR
      have hR := hF3.rd
      obtain ⟨gB, rfl⟩ := hF3.rowF.someA (by omega)
      have d0 := (hF3.rowF.rd_at' intE).S1 k hk
      rw [Nat.zero_add] at d0
      obtain ⟨fa, la⟩ := hF3.rowF.unfrozen (by omega)
      have na : gB ≠ g := by have := hF3.fF gB rfl; omega
      generalize LL.nthI f k = x at d0
      refine rel2_tail_b 11 [(7, IsPick 5, NoFact)] hR (by kernel_rfl) (by kernel_rfl) ?_
      simp only [List.take_succ_cons, List.take_zero, List.drop_succ_cons, List.drop_zero]
      iterate 7 ((apply rel2_plain (hR := rfl) (hF := fun _ => trivial) (hg := rfl)); (focus ((intro w' hL'); (obtain ⟨hcS, hfS⟩ := gcell1 hL'); (go_simp); (try go_bits); (try (first | (rw [if_pos (by omega)]; done) | (rw [if_neg (by omega)]; done) | (rw [if_pos (by omega)]; go_simp) | (rw [if_neg (by omega)]; go_simp))); (first | with_reducible rfl | exact rfl | skip))); (simp only [Act.put, List.setIfInBounds_toArray, List.set_cons_zero, List.set_cons_succ]))
      ((apply rel2_told (hR := rfl) (hg := rfl)); (focus ((refine ⟨.int .i64 0, ?_⟩); ((repeat (first | (refine Tell2.hits rfl ?_) | (refine Tell2.skips rfl ?_))); exact ⟨0, rfl, Int.le_refl _, .inr rfl⟩))); (focus ((intro w' M hL' hR' hM' hD'); (obtain ⟨hcS, hfS⟩ := gcell1 hL'); skip; (go_simp); (try go_bits); (try (first | (rw [if_pos (by omega)]; done) | (rw [if_neg (by omega)]; done) | (rw [if_pos (by omega)]; go_simp) | (rw [if_neg (by omega)]; go_simp))); ((go_at_call 69); (refine (spec_pick_c _ M _ _ hR' (by omega)).mono ?_); (rintro e w'' ⟨vp, rfl, h0, h1, hg, hr⟩); (refine ⟨_, rfl, hg, ?_, hr⟩); ((repeat (first | (refine Tell2.hit rfl ?_) | (refine Tell2.skip rfl ?_))); exact ⟨⟨vp, rfl, h0, h1⟩, trivial⟩)))); (intro v' hv'); (replace hv' := Tell2.outs hv' rfl); (obtain ⟨v1, rfl, hv0, hv1⟩ := hv'); (simp only [Act.put, List.setIfInBounds_toArray, List.set_cons_zero, List.set_cons_succ]))
      ((apply rel2_plain (hR := rfl) (hF := fun _ => trivial) (hg := rfl)); (focus ((intro w' hL'); (obtain ⟨hcS, hfS⟩ := gcell1 hL'); (go_simp); (try go_bits); (try (first | (rw [if_pos (by omega)]; done) | (rw [if_neg (by omega)]; done) | (rw [if_pos (by omega)]; go_simp) | (rw [if_neg (by omega)]; go_simp))); (first | with_reducible rfl | exact rfl | skip))); (simp only [Act.put, List.setIfInBounds_toArray, List.set_cons_zero, List.set_cons_succ]))
      ((apply rel2_plain (hR := rfl) (hF := fun _ => trivial) (hg := rfl)); (focus ((intro w' hL'); (obtain ⟨hcS, hfS⟩ := gcell1 hL'); (go_simp); (try go_bits); (try (first | (rw [if_pos (by omega)]; done) | (rw [if_neg (by omega)]; done) | (rw [if_pos (by omega)]; go_simp) | (rw [if_neg (by omega)]; go_simp))); (first | with_reducible rfl | exact rfl | skip))); (simp only [Act.put, List.setIfInBounds_toArray, List.set_cons_zero, List.set_cons_succ]))
      ((apply rel2_plain (hR := rfl) (hF := fun _ => trivial) (hg := rfl)); (focus ((intro w' hL'); (obtain ⟨hcS, hfS⟩ := gcell1 hL'); (go_simp); (try go_bits); (try (first | (rw [if_pos (by omega)]; done) | (rw [if_neg (by omega)]; done) | (rw [if_pos (by omega)]; go_simp) | (rw [if_neg (by omega)]; go_simp))); (first | with_reducible rfl | exact rfl | skip))); (simp only [Act.put, List.setIfInBounds_toArray, List.set_cons_zero, List.set_cons_succ]))
      refine rel2_nil ?_
      intro w7 hL7 hR7 hF7
      clear hF7
      have h7 := hF3.go hL7 hR7
      obtain ⟨hc, hf⟩ := gcell1 hL7
      go_wp2
      go_meet
      case rel => exact ⟨f.set k _, List.length_set .., (h7.set hk _).up (by omega)⟩
  obtain ⟨f', hf', hF4⟩ := hcut
  clear hF2
  have hlt4 := hF4.lt
  have hR4 := hF4.rd
  go_upto_block 0 with (go_at_call 69; (refine pick_mono (N := ?_) ?_ ?_ ?_); (rotate_left); (focus (exact (by repeat' (first | with_reducible assumption | with_reducible refine Rdr.a ?_ _ | with_reducible refine Rdr.d ?_ | with_reducible refine Rdr.s1 ?_ (by omega) _ _ | with_reducible refine Rdr.b ?_ (by with_reducible assumption))))); (focus omega); intro v1 w6 hv0 hv1 hg1 hr1; obtain ⟨hc, hf⟩ := gcell1 hg1; (try simp only [World.size_drew] at hc hf); have hz := hg1.size; (try simp only [World.size_setCell, World.size_alloc, World.size_drew] at hz); skip)
  have hF5 := hF4.go hg1 hr1
  clear hF4 hR4 hg1 hr1 hc hf hz
  go_cut [6] (fun v6 wc => ∃ (f5 : List Int) (B5 : Option Addr) (d5 : Nat), v6 = .slice B5 f5.length d5 ∧ FSt w g bp p A c B5 d5 f5 5140 wc)
  case first =>
    have hI := hF5.rowF
    rw [hf'] at hI
    by_cases h0 : v1 = 0
    · subst h0
      go_wp2_with ((at_builtin; go_loud (refine wp_app (bytes := 8) (e := 3) rfl _ _ _ rfl intE (.int .i64 0) Try.underlying49 (by kernel_rfl) rfl (by decide) (v := (.slice B f.length d)) rfl (hI.a _) rfl (Rd.one (x := (1 : Int)) (Blk.new _ _ _) rfl (by decide)) (by omega) ?_); intro v7 w7 hO7 hg7 hat7); generalize hq : f' ++ [1] = q at hO7; obtain ⟨A7, c7, e9, -⟩ := hO7.rd intE; subst e9)
      go_meet
      case rel => exact ⟨q, A7, c7, rfl, (hF5.app hO7 hg7 hat7).up (by omega)⟩
    · by_cases h1 : v1 = 1
      · subst h1
        go_wp2_with (at_builtin; go_loud (refine wp_app (bytes := 8) (e := 3) rfl _ _ _ rfl intE (.int .i64 0) Try.underlying49 (by kernel_rfl) rfl (by decide) (v := (.slice B f.length d)) rfl (hI.a _) rfl (Rd.two (Blk.new _ _ _)) (by omega) ?_); intro v7 w7 hO7 hg7 hat7; generalize hq : f' ++ [_, _] = q at hO7; obtain ⟨A7, c7, e9, -⟩ := hO7.rd intE; subst e9)
        go_meet
        case rel => exact ⟨q, A7, c7, rfl, (hF5.app hO7 hg7 hat7).up (by omega)⟩
      · have b0 : (v1 == 0) = false := by simp [h0]
        have b1 : (v1 == 1) = false := by simp [h1]
        go_wp2
        go_meet
        case rel => exact ⟨f', B, d, by rw [hf'], hF5.up (by omega)⟩
  obtain ⟨f5, B5, d5, rfl, hF6⟩ := hcut
  clear hF5
  have hR := hF6.kR
  obtain ⟨e0, f0, l0⟩ := hF6.kR.cells
  obtain ⟨e1, f1, l1⟩ := hF6.kP.cells
  have hnR := hF6.rowP.neB2 hF6.kR (by decide)
  have hnF := hF6.rowF.neB2 hF6.kR (by decide)
  have hOP := hF6.rowP
  have hOF := hF6.rowF
  have hbe := hF6.be
  replace hnR := Lib.hid hnR
  replace hnF := Lib.hid hnF
  go_wp2
  (refine bodyPost_ret (res_ct rfl _ [.int .i64 p.q, .int .i64 p.s, .slice A p.steps.length c, .int .i64 p.fr, .int .i64 p.by_] rfl _ rfl _ Try.underlying43 rfl (by kernel_rfl) (by simp only [CellsAt, and_true]; and_intros <;> go_simp)) rfl ?_)
  have hnR6 := hnR.out
  have hnF6 := hnF.out
  refine ⟨p, A, c, f5, B5, d5, rfl, hp2, ?_, ?_, (by repeat' (first | with_reducible exact Below.refl _ _ | with_reducible assumption | with_reducible refine b_alloc ?_ _ | with_reducible refine b_drewN ?_ _ | with_reducible refine b_drew ?_ | with_reducible refine b_set ?_ (by first | (simp only [World.size_setCell, World.size_alloc, World.size_drew]; omega) | (simp; done) | (simp; omega)) _ | with_reducible refine b_step ?_ (by with_reducible assumption)))⟩
  · exact Own.rd_at' (e := 79) (by exact (by repeat' (first | with_reducible assumption | with_reducible refine Own.s ?_ _ (fun k hk => by have := hnR6 k hk; (try simp only); omega) | with_reducible refine Own.a ?_ _ | with_reducible refine Own.d ?_ | with_reducible refine Own.dN ?_ _ | with_reducible refine Own.b ?_ (by with_reducible assumption)))) stepE
  · exact Own.rd_at' (e := 3) (by exact (by repeat' (first | with_reducible assumption | with_reducible refine Own.s ?_ _ (fun k hk => by have := hnF6 k hk; (try simp only); omega) | with_reducible refine Own.a ?_ _ | with_reducible refine Own.d ?_ | with_reducible refine Own.dN ?_ _ | with_reducible refine Own.b ?_ (by with_reducible assumption)))) intE
end Go.Proofs.Ytpeojnknfonmlaa
