/- What is drawn for the law of the first moment: two tubes. -/
import Derived.Test.YtpeojnknfonmlaaQF
set_option linter.unusedVariables false
set_option linter.unusedSimpArgs false
namespace Go.Proofs.Ytpeojnknfonmlaa
open Go.RowKit
theorem res_cc {P : Program} {w : World} {fn : Func} {p p2 : Tmp} {ty ty2 : TypeId} (h : fn.results = #[.cell p ty, .cell p2 ty2]) (tmps : Array Value) {g g2 : Nat} (cs cs2 : List Value) (hp : tmps.getD p undef = .pointer (some ⟨g, 0, none⟩)) (hp2 : tmps.getD p2 undef = .pointer (some ⟨g2, 0, none⟩)) (d d2 : TypeDesc) (hu : P.underlying ty = some d) (hu2 : P.underlying ty2 = some d2)
    (hd : (match d with | .struct _ | .array _ _ => true | _ => false) = true) (hd2 : (match d2 with | .struct _ | .array _ _ => true | _ => false) = true) (hi : (P.info? ty).map (·.size) = some cs.length) (hi2 : (P.info? ty2).map (·.size) = some cs2.length)
    (hc : CellsAt w g 0 cs) (hc2 : CellsAt w g2 0 cs2) : (results fn tmps).run P w = .ok (.tuple #[.agg cs.toArray, .agg cs2.toArray]) w := by
  have hp' : tmps[p]?.getD undef = .pointer (some ⟨g, 0, none⟩) := by simpa using hp
  have hp2' : tmps[p2]?.getD undef = .pointer (some ⟨g2, 0, none⟩) := by simpa using hp2
  simp [results, h, hp', hp2', asAddr, run_loadVar_cells hc hu hd hi, run_loadVar_cells hc2 hu2 hd2 hi2]
theorem l12Tube_mono {Q : Ending → World → Prop} {g N : Nat} {s : ByteArray} {w : World} (hr : Rdr 116 w g N) (hN : N ≤ 100000) (hk : ∀ (xs : List LL.Box) (A : Option Addr) (c : Nat) (w' : World), xs.length ≤ 40 → Own boxC 6 48 36 w' (.slice A xs.length c) xs → (∀ j, (Value.slice A xs.length c).ownBlock = some j → w.heap.size ≤ j) → GrownS w w' (fun k => k = g) → Rdr 116 w' g (N + 12000) → Q (.returned (.agg #[.string s, .slice A xs.length c])) w') : Calls Try.prog 98 #[.pointer (some ⟨g, 0, none⟩), .string s] w Q :=
  (spec_l12Tube_c g N s w hr hN).mono fun e w' ⟨xs, A, c, he, h1, h2, h3, h4, h5⟩ => by subst he; exact hk xs A c w' h1 h2 h3 h4 h5
theorem l12SpoilTube_mono {Q : Ending → World → Prop} {g N : Nat} {s : ByteArray} {xs : List LL.Box} {A : Option Addr} {c : Nat} {w : World} (hr : Rdr 116 w g N) (hN : N ≤ 200000) (hs : s.size ≤ 64) (hx : xs.length ≤ 40) (h : RdB w A xs.length c xs) (hk : ∀ (s : ByteArray) (xs : List LL.Box) (A : Option Addr) (c : Nat) (w' : World), s.size ≤ 64 → xs.length ≤ 60 → Own boxC 6 48 36 w' (.slice A xs.length c) xs → (∀ j, (Value.slice A xs.length c).ownBlock = some j → w.heap.size ≤ j) → GrownS w w' (fun k => k = g) → Rdr 116 w' g (N + 20000) → Q (.returned (.agg #[.string s, .slice A xs.length c])) w') : Calls Try.prog 101 #[.pointer (some ⟨g, 0, none⟩), .agg #[.string s, .slice A xs.length c]] w Q :=
  (spec_l12SpoilTube_c g N s xs A c w hr hN hs hx h).mono fun e w' ⟨s, xs, A, c, he, h1, h2, h3, h4, h5, h6⟩ => by subst he; exact hk s xs A c w' h1 h2 h3 h4 h5 h6
set_option maxRecDepth 100000 in
set_option maxHeartbeats 4000000 in
theorem spec_l12Any_c (g N : Nat) (w : World) (hr : Rdr 116 w g N) (hN : N ≤ 90000) : Calls Try.prog 60 #[.pointer (some ⟨g, 0, none⟩)] w fun e w' => ∃ (s : ByteArray) (xs : List LL.Box) (A : Option Addr) (c : Nat), e = .returned (.agg #[.string s, .slice A xs.length c]) ∧ s.size ≤ 64 ∧ xs.length ≤ 60 ∧ Own boxC 6 48 36 w' (.slice A xs.length c) xs ∧ (∀ j, (Value.slice A xs.length c).ownBlock = some j → w.heap.size ≤ j) ∧ GrownS w w' (fun k => k = g) ∧ Rdr 116 w' g (N + 40000) := by
  have hlt := hr.lt
  have n0 : w.heap.size ≠ g := by omega
  go_enter Try.func60, Try.ntmps60
  go_upto_region 2 with (first | (go_at_call 99; (refine of11_mono (N := N) (t := 9) (by repeat' (first | with_reducible assumption | with_reducible refine Rdr.a ?_ _ | with_reducible refine Rdr.d ?_ | with_reducible refine Rdr.s1 ?_ (by omega) _ _ | with_reducible refine Rdr.b ?_ (by with_reducible assumption))) (by omega) (Blk.new' _ _ (by simp)) (by omega) (by omega) (by omega) (of4 (by decide) (by decide) (by decide) (by decide)) ?_); intro su w1 hsu hg1 hr1; have hz1 := hg1.size; (try simp only [World.size_alloc] at hz1)) | (go_at_call 98; (refine l12Tube_mono (N := N + 1) (by repeat' (first | with_reducible assumption | with_reducible refine Rdr.a ?_ _ | with_reducible refine Rdr.d ?_ | with_reducible refine Rdr.s1 ?_ (by omega) _ _ | with_reducible refine Rdr.b ?_ (by with_reducible assumption))) (by omega) ?_); intro xs A c w2 hxl hO2 hfr2 hg2 hr2; have hz2 := hg2.size))
  have hP0 : XSt w g w.heap.size w2.heap.size su A c xs (N + 12001) (w2.alloc (.cells #[.string su, .slice A xs.length c] 25)) :=
    ⟨(by repeat' (first | with_reducible exact GrownS.refl _ _ | with_reducible assumption | with_reducible refine gr_alloc ?_ _ | with_reducible refine gr_drew ?_ | with_reducible refine gr_s1 ?_ (by omega) _ _ | with_reducible refine GrownS.trans ?_ (by with_reducible assumption) | with_reducible refine gr_b ?_ (by with_reducible assumption))), Rdr.up (N := N + 1 + 12000) (by repeat' (first | with_reducible assumption | with_reducible refine Rdr.a ?_ _ | with_reducible refine Rdr.d ?_ | with_reducible refine Rdr.s1 ?_ (by omega) _ _ | with_reducible refine Rdr.b ?_ (by with_reducible assumption))) (by omega), (by repeat' (first | with_reducible assumption | with_reducible exact Blk.new _ _ _ | with_reducible exact Blk.new' _ _ (by simp only [World.size_alloc, World.size_setCell, World.size_drew]) | with_reducible exact Blk.new' _ _ (by omega) | with_reducible refine Blk.a ?_ _ | with_reducible refine Blk.d ?_ | with_reducible refine Blk.dN ?_ _ | with_reducible refine Blk.s ?_ (by simp only [ne_eq]; omega) _ | with_reducible refine Blk.b ?_ (by with_reducible assumption) | with_reducible refine Blk.g1 ?_ (by with_reducible assumption) (by omega))), Blk.new _ _ _, hO2.a _, fun j hj => by have := hfr2 j hj; omega, by omega⟩
  refine wp_name (fun W => XSt w g w.heap.size w2.heap.size su A c xs (N + 12001) W) hP0 ?_
  clear hO2 hfr2 hg2 hr2 hP0 hg1 hr1
  rintro W hP
  generalize w2.heap.size = T at *
  have hR := hP.rd
  have lT := blk_lt hP.kT.at_
  have nT : T ≠ g := by have := hP.lt; omega
  go_upto_if 11 with (go_at_call 100; (refine pick11_mono (N := ?_) ?_ ?_ ?_); (rotate_left); (focus (exact (by repeat' (first | with_reducible assumption | with_reducible refine Rdr.a ?_ _ | with_reducible refine Rdr.d ?_ | with_reducible refine Rdr.s1 ?_ (by omega) _ _ | with_reducible refine Rdr.b ?_ (by with_reducible assumption))))); (focus omega); intro v1 w3 hv0 hv1 hg1 hr1; obtain ⟨hc, hf⟩ := gcell1 hg1; (try simp only [World.size_drew] at hc hf); have hz := hg1.size; (try simp only [World.size_setCell, World.size_alloc, World.size_drew] at hz); (try have hv2 := pk_lt hv1 (by omega)); have yw3_0 : T < w3.heap.size := (by omega))
  have h3 := hP.go hg1 hr1
  clear hP hg1 hr1 hc hf hz hR lT
  obtain ⟨e1, f1, l1⟩ := h3.kT.cells
  obtain ⟨e0, f0, l0⟩ := h3.kR.cells
  have hlt3 := h3.lt
  have nR := h3.neR
  have hfr := h3.fr
  replace hfr := Lib.hid hfr
  by_cases hv0' : v1 = 0
  · subst hv0'
    have kR3 := h3.kR
    have hG3 := h3.gr
    go_wp2_with (go_at_call 101; (refine l12SpoilTube_mono (N := N + 12001 + 1) h3.rd (by omega) hsu hxl (h3.row.rd_at' boxE) ?_); intro s' ys B d w5 hs' hy hO5 hfr5 hg5 hr5; have kR5 := kR3.g1 hg5 n0; obtain ⟨e5, f5, l5⟩ := kR5.cells; have hnR5 := hO5.neB2 kR5 (by decide); replace hnR5 := Lib.hid hnR5; have hG5 := hG3.trans hg5; have hzg := hG3.size)
    (refine bodyPost_ret (res_c rfl _ [.string s', .slice B ys.length d] rfl _ Try.underlying25 rfl (by kernel_rfl) (by simp only [CellsAt, and_true]; and_intros <;> go_simp)) rfl ?_)
    have hnR6 := hnR5.out
    refine ⟨s', ys, B, d, rfl, hs', hy, ?_, fun j hj => by have := hfr5 j hj; omega, (by repeat' (first | with_reducible exact GrownS.refl _ _ | with_reducible assumption | with_reducible refine gr_alloc ?_ _ | with_reducible refine gr_drew ?_ | with_reducible refine gr_s1 ?_ (by omega) _ _ | with_reducible refine GrownS.trans ?_ (by with_reducible assumption) | with_reducible refine gr_b ?_ (by with_reducible assumption))), Rdr.up (N := N + 12001 + 1 + 20000) (by repeat' (first | with_reducible assumption | with_reducible refine Rdr.a ?_ _ | with_reducible refine Rdr.d ?_ | with_reducible refine Rdr.s1 ?_ (by omega) _ _ | with_reducible refine Rdr.b ?_ (by with_reducible assumption))) (by omega)⟩
    exact (by repeat' (first | with_reducible assumption | with_reducible refine Own.s ?_ _ (fun k hk => by have := hnR6 k hk; (try simp only); omega) | with_reducible refine Own.a ?_ _ | with_reducible refine Own.d ?_ | with_reducible refine Own.dN ?_ _ | with_reducible refine Own.b ?_ (by with_reducible assumption)))
  · have hb0 : (v1 == 0) = false := by simp [hv0']
    have hO := h3.row
    have hG := h3.gr
    have hR := h3.rd
    replace nR := Lib.hid nR
    go_wp2
    (refine bodyPost_ret (res_c rfl _ [.string su, .slice A xs.length c] rfl _ Try.underlying25 rfl (by kernel_rfl) (by simp only [CellsAt, and_true]; and_intros <;> go_simp)) rfl ?_)
    have nR' : ∀ j, (Value.slice A xs.length c).ownBlock = some j → j ≠ w.heap.size := fun j hj e => nR.out (by rw [hj, e])
    refine ⟨su, xs, A, c, rfl, hsu, by omega, ?_, hfr.out, (by repeat' (first | with_reducible exact GrownS.refl _ _ | with_reducible assumption | with_reducible refine gr_alloc ?_ _ | with_reducible refine gr_drew ?_ | with_reducible refine gr_s1 ?_ (by omega) _ _ | with_reducible refine GrownS.trans ?_ (by with_reducible assumption) | with_reducible refine gr_b ?_ (by with_reducible assumption))), Rdr.up (N := N + 12001 + 1) (by repeat' (first | with_reducible assumption | with_reducible refine Rdr.a ?_ _ | with_reducible refine Rdr.d ?_ | with_reducible refine Rdr.s1 ?_ (by omega) _ _ | with_reducible refine Rdr.b ?_ (by with_reducible assumption))) (by omega)⟩
    exact (by repeat' (first | with_reducible assumption | with_reducible refine Own.s ?_ _ (fun k hk => by have := nR' k hk; (try simp only); omega) | with_reducible refine Own.a ?_ _ | with_reducible refine Own.d ?_ | with_reducible refine Own.dN ?_ _ | with_reducible refine Own.b ?_ (by with_reducible assumption)))
theorem l12Any_mono {Q : Ending → World → Prop} {g N : Nat} {w : World} (hr : Rdr 116 w g N) (hN : N ≤ 90000) (hk : ∀ (s : ByteArray) (xs : List LL.Box) (A : Option Addr) (c : Nat) (w' : World), s.size ≤ 64 → xs.length ≤ 60 → Own boxC 6 48 36 w' (.slice A xs.length c) xs → (∀ j, (Value.slice A xs.length c).ownBlock = some j → w.heap.size ≤ j) → GrownS w w' (fun k => k = g) → Rdr 116 w' g (N + 40000) → Q (.returned (.agg #[.string s, .slice A xs.length c])) w') : Calls Try.prog 60 #[.pointer (some ⟨g, 0, none⟩)] w Q :=
  (spec_l12Any_c g N w hr hN).mono fun e w' ⟨s, xs, A, c, he, h1, h2, h3, h4, h5, h6⟩ => by subst he; exact hk s xs A c w' h1 h2 h3 h4 h5 h6
set_option maxRecDepth 100000 in
set_option maxHeartbeats 4000000 in
theorem spec_DrawProbeMeet_c (xs : List Int) (F : Option Addr) (m : Nat) (w : World) (h : Rd u8C 1 1 w F xs.length m xs) (hx : ∀ k, 0 ≤ LL.nthI xs k ∧ LL.nthI xs k ≤ 255) : Calls Try.prog 11 #[.slice F xs.length m] w fun e w' => ∃ (s : ByteArray) (us : List LL.Box) (A : Option Addr) (c : Nat) (s' : ByteArray) (vs : List LL.Box) (B : Option Addr) (d : Nat), e = .returned (.tuple #[.agg #[.string s, .slice A us.length c], .agg #[.string s', .slice B vs.length d]]) ∧ s.size ≤ 64 ∧ us.length ≤ 60 ∧ s'.size ≤ 64 ∧ vs.length ≤ 60 ∧ RdB w' A us.length c us ∧ RdB w' B vs.length d vs ∧ Below w.heap.size w w' := by
  replace hx := Lib.hid hx
  go_enter Try.func11, Try.ntmps11
  go_upto_region 2 with (go_at_call 59; refine (spec_l11Open_c xs F m _ (h.mono (by repeat' (first | with_reducible exact Below.refl _ _ | with_reducible assumption | with_reducible refine b_alloc ?_ _ | with_reducible refine b_drewN ?_ _ | with_reducible refine b_drew ?_ | with_reducible refine b_set ?_ (by first | (simp only [World.size_setCell, World.size_alloc, World.size_drew]; omega) | (simp; done) | (simp; omega)) _ | with_reducible refine b_step ?_ (by with_reducible assumption)))) hx.out).mono ?_; rintro e w1 ⟨rfl, hb1, hr1, hz1⟩; (try simp only [World.size_alloc] at hr1 hz1))
  have k1 : Blk w1 w.heap.size #[.string ⟨#[]⟩, .slice none 0 0] 25 := Blk.b (((Blk.new w #[.string ⟨#[]⟩, .slice none 0 0] 25)).a _) hb1
  have k2 : Blk w1 (w.heap.size + 1) #[.string ⟨#[]⟩, .slice none 0 0] 25 := Blk.b (Blk.new' _ _ (by simp)) hb1
  have hB1 : Below w.heap.size w w1 := b_step (b_alloc (b_alloc (Below.refl _ _) _) _) hb1
  have lg := hr1.lt
  generalize hgg : w.heap.size + 1 + 1 = g at *
  have n1 : w.heap.size ≠ g := by omega
  have n2 : w.heap.size + 1 ≠ g := by omega
  have hgg' := Lib.hid hgg
  clear hb1 hgg
  go_wp2_with (first | (go_at_call 60; (refine l12Any_mono (N := 0 + 40000) hr2 (by omega) ?_); intro s' vs B d w3 hs' hv hO3 hfr3 hg3 hr3; have k13 := k12.g1 hg3 n1; have k23 := k22.g1 hg3 n2; obtain ⟨e0, f0, l0⟩ := k13.cells; obtain ⟨e1, f1, l1⟩ := k23.cells; have hz3 := hg3.size) | (go_at_call 60; (refine l12Any_mono (N := 0) hr1 (by omega) ?_); intro s us A c w2 hs hu hO2 hfr2 hg2 hr2; have k12 := k1.g1 hg2 n1; have k22 := k2.g1 hg2 n2; have hz2 := hg2.size))
  (refine bodyPost_ret (res_cc rfl _ [.string s, .slice A us.length c] [.string s', .slice B vs.length d] rfl rfl _ _ Try.underlying25 Try.underlying25 rfl rfl (by kernel_rfl) (by kernel_rfl) (by simp only [CellsAt, and_true]; and_intros <;> go_simp) (by simp only [CellsAt, and_true]; and_intros <;> go_simp)) rfl ?_)
  have hgg := hgg'.out
  have hO23 := hO2.g1 hg3 hfr2 (by omega)
  have q2 : ∀ j, (Value.slice A us.length c).ownBlock = some j → w.heap.size + 2 ≤ j := fun j hj => by have := hfr2 j hj; omega
  have q3 : ∀ j, (Value.slice B vs.length d).ownBlock = some j → w.heap.size + 2 ≤ j := fun j hj => by have := hfr3 j hj; omega
  have hB3 : Below w.heap.size w w3 := b_gS (b_gS hB1 hg2 (by omega) (fun k e => by omega)) hg3 (by omega) (fun k e => by omega)
  refine ⟨s, us, A, c, s', vs, B, d, rfl, hs, hu, hs', hv, ?_, ?_, (by repeat' (first | with_reducible exact Below.refl _ _ | with_reducible assumption | with_reducible refine b_alloc ?_ _ | with_reducible refine b_drewN ?_ _ | with_reducible refine b_drew ?_ | with_reducible refine b_set ?_ (by first | (simp only [World.size_setCell, World.size_alloc, World.size_drew]; omega) | (simp; done) | (simp; omega)) _ | with_reducible refine b_step ?_ (by with_reducible assumption)))⟩
  · exact Own.rd_at' (e := 36) (by exact (by repeat' (first | with_reducible assumption | with_reducible refine Own.s ?_ _ (fun k hk => by have := q2 k hk; (try simp only); omega) | with_reducible refine Own.a ?_ _ | with_reducible refine Own.d ?_ | with_reducible refine Own.dN ?_ _ | with_reducible refine Own.b ?_ (by with_reducible assumption)))) boxE
  · exact Own.rd_at' (e := 36) (by exact (by repeat' (first | with_reducible assumption | with_reducible refine Own.s ?_ _ (fun k hk => by have := q3 k hk; (try simp only); omega) | with_reducible refine Own.a ?_ _ | with_reducible refine Own.d ?_ | with_reducible refine Own.dN ?_ _ | with_reducible refine Own.b ?_ (by with_reducible assumption)))) boxE
end Go.Proofs.Ytpeojnknfonmlaa
