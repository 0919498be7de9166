/- What is drawn for the law of going on: a path and how a flight along it has begun. -/
import Derived.Test.YtpeojnknfonmlaaRL
set_option linter.unusedVariables false
set_option linter.unusedSimpArgs false
namespace Go.Proofs.Ytpeojnknfonmlaa
open Go.RowKit
theorem FSt.a {w W : World} {g bp N c d : Nat} {p : LL.Path} {A B : Option Addr} {f : List Int} (h : FSt w g bp p A c B d f N W) (o : Obj) : FSt w g bp p A c B d f N (W.alloc o) := by
  have hl := h.lt
  exact ⟨b_alloc h.be o, h.rd.a o, h.kR.a o, h.kP.a o, h.rowP.a o, h.rowF.a o, h.fP, h.fF, by simp only [World.size_alloc]; omega⟩
/-- another list of ticks, in a row that is made -/
theorem FSt.fresh {w W W6 W7 : World} {g bp N M c d d' : Nat} {p : LL.Path} {A B B' : Option Addr} {f q : List Int} (h : FSt w g bp p A c B d f N W) (h6 : FSt w g bp p A c B d f M W6) (hO : Own intC 1 8 3 W7 (.slice B' q.length d') q) (hg : W6.grownBy W7 (Value.slice (some ⟨W.heap.size, 0, none⟩) 0 0).ownBlock) (ha : (Value.slice B' q.length d').ownBlock = (Value.slice (some ⟨W.heap.size, 0, none⟩) 0 0).ownBlock ∨ (Value.slice B' q.length d').ownBlock = some W6.heap.size) (hz : W.heap.size ≤ W6.heap.size) : FSt w g bp p A c B' d' q M W7 := by
  have hl := h.lt
  have lg := h.rd.lt
  have hz7 := hg.size
  have l1 := blk_lt h.kR.at_
  have l2 := blk_lt h.kP.at_
  have l3 := h.rowP.lt1
  have hv9 : (Value.slice (some ⟨W.heap.size, 0, none⟩) 0 0).ownBlock = some W.heap.size := rfl
  rw [hv9] at ha
  have hgo := GrownS.of hg
  rw [hv9] at hg hgo
  refine ⟨b_grown' (w := w) h6.be hg (by omega) (fun j e => by cases e; omega), h6.rd.gS hgo (fun j e => by cases e; omega), h6.kR.grown hg (fun e => by have := Option.some.inj e; omega), h6.kP.grown hg (fun e => by have := Option.some.inj e; omega), h6.rowP.grown hg ?_, hO, h.fP, fun j hj => ?_, by omega⟩
  · cases hv : (Value.slice A p.steps.length c).ownBlock with
    | none => exact .inl rfl
    | some j => exact .inr (fun e => by have e3 := Option.some.inj e; have := l3 _ hv; omega)
  · rcases ha with e | e <;> (rw [e] at hj; cases hj; omega)
theorem Rd.take {α : Type} {enc : α → List Value} {sz bytes : Nat} {w : World} {A : Option Addr} {n c : Nat} {xs : List α} (h : Rd enc sz bytes w A n c xs) (k : Nat) (hk : k ≤ n) : Rd enc sz bytes w A k c (xs.take k) where
  len := by have := h.len; simp; omega
  cap := by have := h.cap; omega
  room := by
    have := h.room
    exact Nat.le_trans (Nat.mul_le_mul_right _ hk) this
  at_ hn := by
    obtain ⟨b, off, e, hlt, hc⟩ := h.at_ (by omega)
    refine ⟨b, off, e, hlt, fun i x hi => hc i x ?_⟩
    rw [List.getElem?_take] at hi
    split at hi
    · exact hi
    · cases hi
set_option maxRecDepth 100000 in
set_option maxHeartbeats 8000000 in
theorem spec_DrawFlyNext_c (xs : List Int) (F : Option Addr) (m : Nat) (w : World) (h : Rd u8C 1 1 w F xs.length m xs) (hx : ∀ k, 0 ≤ LL.nthI xs k ∧ LL.nthI xs k ≤ 255) : Calls Try.prog 38 #[.slice F xs.length m] w fun e w' => ∃ (p : LL.Path) (A : Option Addr) (c : Nat) (f : List Int) (B : Option Addr) (d : Nat), e = .returned (.tuple #[.agg #[.int .i64 p.q, .int .i64 p.s, .slice A p.steps.length c, .int .i64 p.fr, .int .i64 p.by_], .slice B f.length d]) ∧ p.steps.length ≤ 60 ∧ f.length ≤ 61 ∧ RdS w' A p.steps.length c p.steps ∧ RdI w' B f.length d f ∧ Below w.heap.size w w' := by
  replace hx := Lib.hid hx
  have n0 : w.heap.size ≠ w.heap.size + 1 := by omega
  go_enter Try.func38, Try.ntmps38
  go_upto_region 3 with (first | (go_at_call 67; refine (spec_l1Open_c xs F m _ (h.mono (by repeat' (first | with_reducible exact Below.refl _ _ | with_reducible assumption | with_reducible refine b_alloc ?_ _ | with_reducible refine b_drewN ?_ _ | with_reducible refine b_drew ?_ | with_reducible refine b_set ?_ (by first | (simp only [World.size_setCell, World.size_alloc, World.size_drew]; omega) | (simp; done) | (simp; omega)) _ | with_reducible refine b_step ?_ (by with_reducible assumption)))) hx.out).mono ?_; rintro e w1 ⟨rfl, hb1, hr1, hz1⟩; (try simp only [World.size_alloc] at hr1 hz1)) | (go_at_call 68; (refine l10Any_mono (N := ?_) ?_ ?_ ?_); (rotate_left); (focus (exact hr1)); (focus omega); intro p A c w2 hp2 hO2 hfr2 hg2 hr2; obtain ⟨hc, hf⟩ := gcell1 hg2; have hz2 := hg2.size))
  have kR3 : Blk (w2.alloc (.cells #[.int .i64 p.q, .int .i64 p.s, .slice A p.steps.length c, .int .i64 p.fr, .int .i64 p.by_] 43)) w.heap.size #[.int .i64 0, .int .i64 0, .slice none 0 0, .int .i64 0, .int .i64 0] 43 := (((Blk.new w #[.int .i64 0, .int .i64 0, .slice none 0 0, .int .i64 0, .int .i64 0] 43).b (by simpa using hb1)).g1 hg2 n0).a _
  have kP3 := Blk.new w2 #[.int .i64 p.q, .int .i64 p.s, .slice A p.steps.length c, .int .i64 p.fr, .int .i64 p.by_] 43
  have hO3 := hO2.a (.cells #[.int .i64 p.q, .int .i64 p.s, .slice A p.steps.length c, .int .i64 p.fr, .int .i64 p.by_] 43)
  have hR3 : Rdr 121 (w2.alloc (.cells #[.int .i64 p.q, .int .i64 p.s, .slice A p.steps.length c, .int .i64 p.fr, .int .i64 p.by_] 43)) (w.heap.size + 1) (0 + 3600) := hr2.a _
  have hB3 : Below w.heap.size w (w2.alloc (.cells #[.int .i64 p.q, .int .i64 p.s, .slice A p.steps.length c, .int .i64 p.fr, .int .i64 p.by_] 43)) := b_alloc (b_gS (b_step (b_alloc (Below.refl _ _) _) hb1) hg2 (by omega) (fun k e => by omega)) _
  have hfr3 : ∀ j, (Value.slice A p.steps.length c).ownBlock = some j → w.heap.size + 2 ≤ j := fun j hj => by have := hfr2 j hj; omega
  have hbp : w.heap.size + 1 < w2.heap.size := by omega
  have hz3 : w.heap.size + 2 ≤ (w2.alloc (.cells #[.int .i64 p.q, .int .i64 p.s, .slice A p.steps.length c, .int .i64 p.fr, .int .i64 p.by_] 43)).heap.size := by simp only [World.size_alloc]; omega
  clear hg2 hr2 hO2 hc hf hfr2 hb1 hr1
  generalize w2.alloc (.cells #[.int .i64 p.q, .int .i64 p.s, .slice A p.steps.length c, .int .i64 p.fr, .int .i64 p.by_] 43) = w3 at *
  generalize w2.heap.size = bp at *
  obtain ⟨e0, f0, l0⟩ := kR3.cells
  obtain ⟨e1, f1, l1⟩ := kP3.cells
  have hS3 := hO3.rd_at' stepE
  generalize hgg : w.heap.size + 1 = g at *
  have hga : g < w.heap.size + 2 := by omega
  have hgb : w.heap.size < g := by omega
  replace hgg := Lib.hid hgg
  have hfr3' := Lib.hid hfr3
  have hbg : bp ≠ g := by omega
  have n0' : w.heap.size ≠ g := n0
  have lg := hR3.lt
  clear hfr3
  go_cut [6, 7] (fun v6 v7 wc => (∃ b, v7 = .bool b) ∧ ∃ (f : List Int) (B : Option Addr) (d : Nat), v6 = .slice B f.length d ∧ f.length ≤ 61 ∧ FSt w g bp p A c B d f 5100 wc)
  case first =>
    go_region_with (first | (go_at_call 78; (refine l10Asked_mono (N := 0 + 3600) (p := p) hp2 (hS3.mono (by repeat' (first | with_reducible exact Below.refl _ _ | with_reducible assumption | with_reducible refine b_alloc ?_ _ | with_reducible refine b_drewN ?_ _ | with_reducible refine b_drew ?_ | with_reducible refine b_set ?_ (by first | (simp only [World.size_setCell, World.size_alloc, World.size_drew]; omega) | (simp; done) | (simp; omega)) _ | with_reducible refine b_step ?_ (by with_reducible assumption)))) (by repeat' (first | with_reducible assumption | with_reducible refine Rdr.a ?_ _ | with_reducible refine Rdr.d ?_ | with_reducible refine Rdr.s1 ?_ (by omega) _ _ | with_reducible refine Rdr.b ?_ (by with_reducible assumption))) (by omega) ?_); intro ys B4 d4 w4 hy4 hO4 hf4 hg4 hr4; (try simp only [World.size_drew, World.size_alloc] at hf4); obtain ⟨hc, hf⟩ := gcell1 hg4; have kP4 : Blk w4 bp #[.int .i64 p.q, .int .i64 p.s, .slice A p.steps.length c, .int .i64 p.fr, .int .i64 p.by_] 43 := (by repeat' (first | with_reducible assumption | with_reducible refine Blk.a ?_ _ | with_reducible refine Blk.d ?_ | with_reducible refine put5z ?_ | with_reducible refine Blk.g1 ?_ (by with_reducible assumption) (by omega))); have kR4 : Blk w4 w.heap.size #[.int .i64 0, .int .i64 0, .slice none 0 0, .int .i64 0, .int .i64 0] 43 := (by repeat' (first | with_reducible assumption | with_reducible refine Blk.a ?_ _ | with_reducible refine Blk.d ?_ | with_reducible refine put5z ?_ | with_reducible refine Blk.g1 ?_ (by with_reducible assumption) (by omega))); obtain ⟨e4, f4, l4⟩ := kP4.cells; clear hc hf; have hz4 := hg4.size; (try simp only [World.size_drew, World.size_alloc] at hz4); have hI4 := hO4.rd_at' intE; have hP4 : Own stepC 7 56 79 w4 (.slice A p.steps.length c) p.steps := (by repeat' (first | with_reducible assumption | with_reducible refine Own.s ?_ _ hfr3'.out | with_reducible refine Own.a ?_ _ | with_reducible refine Own.d ?_ | with_reducible refine Own.g1 (B := w.heap.size + 2) ?_ (by with_reducible assumption) hfr3'.out (by omega))); have hS4 := hP4.rd_at' stepE) | (go_at_call 50; go_loud (refine (spec_FlyGo_c p [] ys A _ B4 c 0 d4 _ (hS4.mono (by repeat' (first | with_reducible exact Below.refl _ _ | with_reducible assumption | with_reducible refine b_alloc ?_ _ | with_reducible refine b_drewN ?_ _ | with_reducible refine b_drew ?_ | with_reducible refine b_set ?_ (by first | (simp only [World.size_setCell, World.size_alloc, World.size_drew]; omega) | (simp; done) | (simp; omega)) _ | with_reducible refine b_step ?_ (by with_reducible assumption)))) ⟨rfl, by simp, by simp, fun h => absurd h (by simp)⟩ (hI4.mono (by repeat' (first | with_reducible exact Below.refl _ _ | with_reducible assumption | with_reducible refine b_alloc ?_ _ | with_reducible refine b_drewN ?_ _ | with_reducible refine b_drew ?_ | with_reducible refine b_set ?_ (by first | (simp only [World.size_setCell, World.size_alloc, World.size_drew]; omega) | (simp; done) | (simp; omega)) _ | with_reducible refine b_step ?_ (by with_reducible assumption))))).mono ?_); intro e w5 hM; obtain ⟨A5, c5, rfl, hO5, hOg5, hB5⟩ := hM.go2 intE; have hz5 := hB5.size; (try simp only [World.size_alloc] at hz5 hOg5)))
    all_goals (try simp only [List.getElem_toArray, List.getElem_cons_succ, List.getElem_cons_zero, Act.put, List.setIfInBounds_toArray, List.set_cons_zero, List.set_cons_succ])
    all_goals go_wp2
    all_goals (have hl5 : (LL.goL p [] ys).length ≤ 61 := (by have := LL.goL_len (p := p) (f := []) (asked := ys) (N := 61) ⟨by simp, by omega⟩; omega))
    all_goals (have hfr5 := hfr3'.out; go_meet; case rel => exact ⟨⟨_, rfl⟩, _, A5, c5, rfl, hl5, ⟨b_step (by repeat' (first | with_reducible assumption | with_reducible refine b_alloc ?_ _ | with_reducible refine b_drew ?_ | with_reducible refine b_set ?_ (by omega) _ | with_reducible refine b_set ?_ (by simp only; omega) _ | with_reducible refine b_gS ?_ (by with_reducible assumption) (by (try simp only [World.size_setCell, World.size_alloc, World.size_drew]); omega) (fun k e => by omega))) hB5, Rdr.up (N := 0 + 3600 + 1400) (Rdr.b (by repeat' (first | with_reducible assumption | with_reducible refine Rdr.a ?_ _ | with_reducible refine Rdr.d ?_ | with_reducible refine Rdr.s1 ?_ (by omega) _ _ | with_reducible refine Rdr.b ?_ (by with_reducible assumption))) hB5) (by omega), Blk.b (by repeat' (first | with_reducible assumption | with_reducible refine Blk.a ?_ _ | with_reducible refine Blk.d ?_ | with_reducible refine put5z ?_ | with_reducible refine Blk.g1 ?_ (by with_reducible assumption) (by omega))) hB5, Blk.b (by repeat' (first | with_reducible assumption | with_reducible refine Blk.a ?_ _ | with_reducible refine Blk.d ?_ | with_reducible refine put5z ?_ | with_reducible refine Blk.g1 ?_ (by with_reducible assumption) (by omega))) hB5, Own.b (by repeat' (first | with_reducible assumption | with_reducible refine Own.s ?_ _ hfr5 | with_reducible refine Own.a ?_ _ | with_reducible refine Own.d ?_ | with_reducible refine Own.g1 (B := w.heap.size + 2) ?_ (by with_reducible assumption) hfr5 (by omega))) hB5, hO5, hfr5, (fun j hj => by have := hOg5 j hj; omega), ⟨hgb, hga, by omega, by omega⟩⟩⟩)
  obtain ⟨⟨b7, rfl⟩, f, B, d, rfl, hfl, hF⟩ := hcut
  clear e0 f0 l0 e1 f1 l1 hS3 hR3 hB3 kR3 kP3 hO3
  have hR := hF.rd
  have hcapF := (hF.rowF.rd_at' intE).cap
  go_upto_region 4 with fail
  go_cut [6] (fun v6 wc => ∃ (f : List Int) (B : Option Addr) (d : Nat), v6 = .slice B f.length d ∧ f.length ≤ 61 ∧ FSt w g bp p A c B d f 5110 wc)
  case first =>
    have hFa := hF.a (.cells #[] 3)
    have hM0 : Own intC 1 8 3 (wc.alloc (.cells #[] 3)) (.slice (some ⟨wc.heap.size, 0, none⟩) 0 0) ([] : List Int) := Own.made' rfl
    have hRa := hFa.rd
    have hlt4 := hF.lt
    rcases hF.rowF.row.2 with ⟨e9, -⟩ | ⟨gB, cap, cur, e9, -⟩
    · injection e9 with ea eb ec
      subst ea ec
      obtain rfl := List.eq_nil_of_length_eq_zero eb
      go_wp2_with (first | ((go_at_call 69; (refine pick_mono (N := ?_) ?_ ?_ ?_); (rotate_left); (focus (exact (by repeat' (first | with_reducible assumption | with_reducible refine Rdr.a ?_ _ | with_reducible refine Rdr.d ?_ | with_reducible refine Rdr.s1 ?_ (by omega) _ _ | with_reducible refine Rdr.b ?_ (by with_reducible assumption))))); (focus omega); intro v1 w6 hv0 hv1 hg1 hr1; obtain ⟨hc, hf⟩ := gcell1 hg1; (try simp only [World.size_drew] at hc hf); have hz := hg1.size; (try simp only [World.size_setCell, World.size_alloc, World.size_drew] at hz); skip); obtain ⟨k, rfl⟩ : ∃ k : Nat, v1 = k := ⟨v1.toNat, by omega⟩; obtain rfl : k = 0 := (by simp at hv1; omega); have hM6 := hM0.g1 hg1 (B := wc.heap.size) (fun j hj => by simp [Value.ownBlock] at hj; omega) (by omega); have h6 := hFa.go hg1 hr1) | (at_builtin; go_loud (refine wp_appA (bytes := 8) (e := 3) rfl _ _ _ rfl intE (.int .i64 0) Try.underlying49 (by kernel_rfl) rfl (by decide) (v := .slice (some ⟨wc.heap.size, 0, none⟩) 0 0) (xs := []) rfl hM6 rfl (show Rd intC 1 8 _ none 0 0 ([] : List Int) from ⟨rfl, by simp, by simp, fun h => absurd h (by simp)⟩) (by first | omega | (simp; done) | (simp; omega)) ?_); intro v7 w7 hO7 hg7 hat7; rw [List.nil_append] at hO7))
      obtain ⟨A7, c7, rfl, -⟩ := hO7.rd intE
      have hz7 := hg1.size
      simp only [World.size_alloc] at hz7
      go_meet
      case rel => exact ⟨[], A7, c7, rfl, by simp, (hF.fresh h6 hO7 hg7 hat7 (by omega)).up (by omega)⟩
    · injection e9 with ea eb ec
      subst ea ec
      have lB := hFa.rowF.lt1 gB rfl
      have nB := hF.fF gB rfl
      go_wp2_with (first | ((go_at_call 69; (refine pick_mono (N := ?_) ?_ ?_ ?_); (rotate_left); (focus (exact (by repeat' (first | with_reducible assumption | with_reducible refine Rdr.a ?_ _ | with_reducible refine Rdr.d ?_ | with_reducible refine Rdr.s1 ?_ (by omega) _ _ | with_reducible refine Rdr.b ?_ (by with_reducible assumption))))); (focus omega); intro v1 w6 hv0 hv1 hg1 hr1; obtain ⟨hc, hf⟩ := gcell1 hg1; (try simp only [World.size_drew] at hc hf); have hz := hg1.size; (try simp only [World.size_setCell, World.size_alloc, World.size_drew] at hz); skip); obtain ⟨k, rfl⟩ : ∃ k : Nat, v1 = k := ⟨v1.toNat, by omega⟩; have hkf : k ≤ f.length := (by omega); have hM6 := hM0.g1 hg1 (B := wc.heap.size) (fun j hj => by simp [Value.ownBlock] at hj; omega) (by omega); have h6 := hFa.go hg1 hr1) | (at_builtin; go_loud (refine wp_appA (bytes := 8) (e := 3) rfl _ _ _ rfl intE (.int .i64 0) Try.underlying49 (by kernel_rfl) rfl (by decide) (v := .slice (some ⟨wc.heap.size, 0, none⟩) 0 0) (xs := []) rfl hM6 rfl ((h6.rowF.rd_at' intE).take k hkf) (by first | omega | (simp; done) | (simp; omega)) ?_); intro v7 w7 hO7 hg7 hat7; rw [List.nil_append] at hO7))
      have hkl : (f.take k).length = k := by rw [List.length_take]; omega
      generalize f.take k = q at *
      obtain ⟨A7, c7, rfl, -⟩ := hO7.rd intE
      have hz7 := hg1.size
      simp only [World.size_alloc] at hz7
      go_meet
      case rel => exact ⟨q, A7, c7, rfl, by omega, (hF.fresh h6 hO7 hg7 hat7 (by omega)).up (by omega)⟩
  obtain ⟨f, B, d, rfl, hfl, hF⟩ := hcut
  clear hR hcapF
  go_upto_region 5 with fail
  go_cut [38] (fun v38 wc => (∃ z, v38 = .bool z ∧ (z = true → 0 < f.length)) ∧ FSt w g bp p A c B d f 5111 wc)
  case first =>
    have hR := hF.rd
    by_cases h0 : (0 : Int) < f.length
    · go_wp2_with (go_at_call 69; (refine pick_mono (N := ?_) ?_ ?_ ?_); (rotate_left); (focus (exact (by repeat' (first | with_reducible assumption | with_reducible refine Rdr.a ?_ _ | with_reducible refine Rdr.d ?_ | with_reducible refine Rdr.s1 ?_ (by omega) _ _ | with_reducible refine Rdr.b ?_ (by with_reducible assumption))))); (focus omega); intro v1 w6 hv0 hv1 hg1 hr1; obtain ⟨hc, hf⟩ := gcell1 hg1; (try simp only [World.size_drew] at hc hf); have hz := hg1.size; (try simp only [World.size_setCell, World.size_alloc, World.size_drew] at hz); skip)
      all_goals (go_meet; case rel => exact ⟨⟨_, rfl, fun _ => by omega⟩, hF.go hg1 hr1⟩)
    · go_wp2
      all_goals (go_meet; case rel => exact ⟨⟨_, rfl, fun e => by cases e⟩, hF.up (by omega)⟩)
  obtain ⟨⟨z, rfl, hz⟩, hF2⟩ := hcut
  clear hF
  go_upto_if 38 with fail
  go_cut [8] (fun v8 wc => ∃ f' : List Int, f'.length = f.length ∧ FSt w g bp p A c B d f' 5140 wc)
  case first =>
    cases z
    · go_wp2
      all_goals (go_meet; case rel => exact ⟨f, rfl, hF2.up (by omega)⟩)
    · have hpos := hz rfl
      have hR := hF2.rd
      have lbp := blk_lt hF2.kP.at_
      go_upto_region 7 with (go_at_call 69; (refine pick_mono (N := ?_) ?_ ?_ ?_); (rotate_left); (focus (exact (by repeat' (first | with_reducible assumption | with_reducible refine Rdr.a ?_ _ | with_reducible refine Rdr.d ?_ | with_reducible refine Rdr.s1 ?_ (by omega) _ _ | with_reducible refine Rdr.b ?_ (by with_reducible assumption))))); (focus omega); intro v1 w6 hv0 hv1 hg1 hr1; obtain ⟨hc, hf⟩ := gcell1 hg1; (try simp only [World.size_drew] at hc hf); have hz := hg1.size; (try simp only [World.size_setCell, World.size_alloc, World.size_drew] at hz); have yw6_0 : bp < w6.heap.size := (by omega))
      obtain ⟨k, rfl⟩ : ∃ k : Nat, v1 = k := ⟨v1.toNat, by omega⟩
      have hk : k < f.length := by omega
      have hF3 := hF2.go hg1 hr1
      clear hv0 hv1 hg1 hr1 hc hf hR
      have hR := hF3.rd
      obtain ⟨gB, rfl⟩ := hF3.rowF.someA (by omega)
      have d0 := (hF3.rowF.rd_at' intE).S1 k hk
      rw [Nat.zero_add] at d0
      obtain ⟨fa, la⟩ := hF3.rowF.unfrozen (by omega)
      have na : gB ≠ g := by have := hF3.fF gB rfl; omega
      generalize LL.nthI f k = x at d0
      refine rel2_tail_b 11 [(7, IsPick 7, NoFact)] hR (by kernel_rfl) (by kernel_rfl) ?_
      simp only [List.take_succ_cons, List.take_zero, List.drop_succ_cons, List.drop_zero]
      iterate 7 ((apply rel2_plain (hR := rfl) (hF := fun _ => trivial) (hg := rfl)); (focus ((intro w' hL'); (obtain ⟨hcS, hfS⟩ := gcell1 hL'); (go_simp); (try go_bits); (try (first | (rw [if_pos (by omega)]; done) | (rw [if_neg (by omega)]; done) | (rw [if_pos (by omega)]; go_simp) | (rw [if_neg (by omega)]; go_simp))); (first | with_reducible rfl | exact rfl | skip))); (simp only [Act.put, List.setIfInBounds_toArray, List.set_cons_zero, List.set_cons_succ]))
      ((apply rel2_told (hR := rfl) (hg := rfl)); (focus ((refine ⟨.int .i64 0, ?_⟩); ((repeat (first | (refine Tell2.hits rfl ?_) | (refine Tell2.skips rfl ?_))); exact ⟨0, rfl, Int.le_refl _, .inr rfl⟩))); (focus ((intro w' M hL' hR' hM' hD'); (obtain ⟨hcS, hfS⟩ := gcell1 hL'); skip; (go_simp); (try go_bits); (try (first | (rw [if_pos (by omega)]; done) | (rw [if_neg (by omega)]; done) | (rw [if_pos (by omega)]; go_simp) | (rw [if_neg (by omega)]; go_simp))); ((go_at_call 69); (refine (spec_pick_c _ M _ _ hR' (by omega)).mono ?_); (rintro e w'' ⟨vp, rfl, h0, h1, hg, hr⟩); (refine ⟨_, rfl, hg, ?_, hr⟩); ((repeat (first | (refine Tell2.hit rfl ?_) | (refine Tell2.skip rfl ?_))); exact ⟨⟨vp, rfl, h0, h1⟩, trivial⟩)))); (intro v' hv'); (replace hv' := Tell2.outs hv' rfl); (obtain ⟨v1, rfl, hv0, hv1⟩ := hv'); (simp only [Act.put, List.setIfInBounds_toArray, List.set_cons_zero, List.set_cons_succ]))
      ((apply rel2_plain (hR := rfl) (hF := fun _ => trivial) (hg := rfl)); (focus ((intro w' hL'); (obtain ⟨hcS, hfS⟩ := gcell1 hL'); (go_simp); (try go_bits); (try (first | (rw [if_pos (by omega)]; done) | (rw [if_neg (by omega)]; done) | (rw [if_pos (by omega)]; go_simp) | (rw [if_neg (by omega)]; go_simp))); (first | with_reducible rfl | exact rfl | skip))); (simp only [Act.put, List.setIfInBounds_toArray, List.set_cons_zero, List.set_cons_succ]))
      ((apply rel2_plain (hR := rfl) (hF := fun _ => trivial) (hg := rfl)); (focus ((intro w' hL'); (obtain ⟨hcS, hfS⟩ := gcell1 hL'); (go_simp); (try go_bits); (try (first | (rw [if_pos (by omega)]; done) | (rw [if_neg (by omega)]; done) | (rw [if_pos (by omega)]; go_simp) | (rw [if_neg (by omega)]; go_simp))); (first | with_reducible rfl | exact rfl | skip))); (simp only [Act.put, List.setIfInBounds_toArray, List.set_cons_zero, List.set_cons_succ]))
      ((apply rel2_plain (hR := rfl) (hF := fun _ => trivial) (hg := rfl)); (focus ((intro w' hL'); (obtain ⟨hcS, hfS⟩ := gcell1 hL'); (go_simp); (try go_bits); (try (first | (rw [if_pos (by omega)]; done) | (rw [if_neg (by omega)]; done) | (rw [if_pos (by omega)]; go_simp) | (rw [if_neg (by omega)]; go_simp))); (first | with_reducible rfl | exact rfl | skip))); (simp only [Act.put, List.setIfInBounds_toArray, List.set_cons_zero, List.set_cons_succ]))
      refine rel2_nil ?_
      intro w7 hL7 hR7 hF7
      clear hF7
      have h7 := hF3.go hL7 hR7
      obtain ⟨hc, hf⟩ := gcell1 hL7
      go_wp2
      go_meet
      case rel => exact ⟨f.set k _, List.length_set .., (h7.set hk _).up (by omega)⟩
  obtain ⟨f', hf', hF4⟩ := hcut
  clear hF2
  have hOP := hF4.rowP
  have hOF := hF4.rowF
  obtain ⟨e0, f0, l0⟩ := hF4.kR.cells
  obtain ⟨e1, f1, l1⟩ := hF4.kP.cells
  have hnR := hF4.rowP.neB2 hF4.kR (by decide)
  have hnF := hF4.rowF.neB2 hF4.kR (by decide)
  have hbe := hF4.be
  replace hnR := Lib.hid hnR
  replace hnF := Lib.hid hnF
  have hf5 := Lib.hid hf'
  go_wp2
  (refine bodyPost_ret (res_ct rfl _ [.int .i64 p.q, .int .i64 p.s, .slice A p.steps.length c, .int .i64 p.fr, .int .i64 p.by_] rfl _ rfl _ Try.underlying43 rfl (by kernel_rfl) (by simp only [CellsAt, and_true]; and_intros <;> go_simp)) rfl ?_)
  have hnR6 := hnR.out
  have hnF6 := hnF.out
  refine ⟨p, A, c, f', B, d, (by rw [hf5.out]; rfl), hp2, by rw [hf5.out]; exact hfl, ?_, ?_, (by repeat' (first | with_reducible exact Below.refl _ _ | with_reducible assumption | with_reducible refine b_alloc ?_ _ | with_reducible refine b_drewN ?_ _ | with_reducible refine b_drew ?_ | with_reducible refine b_set ?_ (by first | (simp only [World.size_setCell, World.size_alloc, World.size_drew]; omega) | (simp; done) | (simp; omega)) _ | with_reducible refine b_step ?_ (by with_reducible assumption)))⟩
  · exact Own.rd_at' (e := 79) (by exact (by repeat' (first | with_reducible assumption | with_reducible refine Own.s ?_ _ (fun k hk => by have := hnR6 k hk; (try simp only); omega) | with_reducible refine Own.a ?_ _ | with_reducible refine Own.d ?_ | with_reducible refine Own.dN ?_ _ | with_reducible refine Own.b ?_ (by with_reducible assumption)))) stepE
  · exact Own.rd_at' (e := 3) (by exact (by repeat' (first | with_reducible assumption | with_reducible refine Own.s ?_ _ (fun k hk => by have := hnF6 k hk; (try simp only); omega) | with_reducible refine Own.a ?_ _ | with_reducible refine Own.d ?_ | with_reducible refine Own.dN ?_ _ | with_reducible refine Own.b ?_ (by with_reducible assumption)))) intE
end Go.Proofs.Ytpeojnknfonmlaa
