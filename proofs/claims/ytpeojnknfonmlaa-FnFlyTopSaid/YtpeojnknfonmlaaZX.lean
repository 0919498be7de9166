/- The law of a flight that is in its tube, and in what is left, at every tick. -/
import Derived.Test.YtpeojnknfonmlaaRP
import Derived.Test.YtpeojnknfonmlaaPG
import Derived.Test.YtpeojnknfonmlaaRH
import Derived.Test.YtpeojnknfonmlaaJ3
import Derived.Test.YtpeojnknfonmlaaX4
import Derived.Test.YtpeojnknfonmlaaJ8
import Derived.Test.YtpeojnknfonmlaaC6
import Derived.Test.YtpeojnknfonmlaaD4
import Derived.Test.YtpeojnknfonmlaaL1
import Derived.Test.YtpeojnknfonmlaaS4
import Derived.Test.YtpeojnknfonmlaaJ6
import Derived.Test.YtpeojnknfonmlaaX5
set_option linter.unusedVariables false
set_option linter.unusedSimpArgs false
namespace Go.Proofs.Ytpeojnknfonmlaa
open Go.RowKit
theorem FlyLawful_n (p : LL.Path) (f : List Int) (n : Nat) (hn : f.length = n) (A F : Option Addr) (c m : Nat) (w : World) (h : RdS w A p.steps.length c p.steps) (hF : RdI w F n m f) : Calls Try.prog 35 #[.agg #[.int .i64 p.q, .int .i64 p.s, .slice A p.steps.length c, .int .i64 p.fr, .int .i64 p.by_], .slice F n m] w fun e w' => e = .returned (.bool (decide (LL.Lawful p f))) ∧ Below w.heap.size w w' := by
  subst hn; exact impl_FlyLawful_c p f A F c m w h hF
theorem FlySmaller_n (xs ys : List LL.Box) (n k : Nat) (hn : xs.length = n) (hk : ys.length = k) (A B : Option Addr) (c d : Nat) (w : World) (h : RdB w A n c xs) (h' : RdB w B k d ys) : Calls Try.prog 48 #[.slice A n c, .slice B k d] w fun e w' => e = .returned (.bool (decide (LL.Small xs ys))) ∧ Below w.heap.size w w' := by
  subst hn; subst hk; exact impl_FlySmaller_c xs ys A B c d w h h'
attribute [local go_sem] w_lt_add w_le_of w_le_add max2_i min2_i
set_option maxRecDepth 100000 in
set_option maxHeartbeats 16000000 in
theorem FnFlyTop_c (xs : List Int) (F : Option Addr) (m : Nat) (w : World) (h : Rd u8C 1 1 w F xs.length m xs) (hx : ∀ k, 0 ≤ LL.nthI xs k ∧ LL.nthI xs k ≤ 255) : Calls Try.prog 9 #[.slice F xs.length m] w fun e w' => e = .returned (.bool true) ∧ Below w.heap.size w w' := by
  replace hx := Lib.hid hx
  by_cases hbig : (1048576 : Int) < xs.length
  · go_enter Try.func9, Try.ntmps9
    go_wp2
    go_ret
    exact ⟨rfl, (by repeat' (first | with_reducible exact Below.refl _ _ | with_reducible assumption | with_reducible refine b_alloc ?_ _ | with_reducible refine b_drewN ?_ _ | with_reducible refine b_drew ?_ | with_reducible refine b_set ?_ (by first | (simp only [World.size_setCell, World.size_alloc, World.size_drew]; omega) | (simp; done) | (simp; omega)) _ | with_reducible refine b_step ?_ (by with_reducible assumption)))⟩
  go_enter Try.func9, Try.ntmps9
  go_upto_region 4 with (go_at_call 49; refine (spec_DrawFlyFlight_c xs F m _ h hx.out).mono ?_; rintro e w1 ⟨p, A, c, ys, B, d, rfl, hp, hy, hS, hI, hb1⟩)
  have hlf := LL.goL_len (p := p) (f := []) (asked := ys) (N := 61) ⟨by simp, by omega⟩
  go_upto_region 8 with (first | (go_at_call 41; go_loud (refine (impl_FlyGo_c p [] ys A _ B c 0 d _ (by exact Rd.mono (by with_reducible assumption) (by repeat' (first | with_reducible exact Below.refl _ _ | with_reducible assumption | with_reducible refine b_alloc ?_ _ | with_reducible refine b_drewN ?_ _ | with_reducible refine b_drew ?_ | with_reducible refine b_set ?_ (by first | (simp only [World.size_setCell, World.size_alloc, World.size_drew]; omega) | (simp; done) | (simp; omega)) _ | with_reducible refine b_step ?_ (by with_reducible assumption)))) ⟨rfl, by simp, by simp, fun h => absurd h (by simp)⟩ (by exact Rd.mono (by with_reducible assumption) (by repeat' (first | with_reducible exact Below.refl _ _ | with_reducible assumption | with_reducible refine b_alloc ?_ _ | with_reducible refine b_drewN ?_ _ | with_reducible refine b_drew ?_ | with_reducible refine b_set ?_ (by first | (simp only [World.size_setCell, World.size_alloc, World.size_drew]; omega) | (simp; done) | (simp; omega)) _ | with_reducible refine b_step ?_ (by with_reducible assumption))))).mono ?_); intro e w2 hM; obtain ⟨A2, c2, rfl, hO2, -, hB2⟩ := hM.go2 intE; have hI2 := hO2.rd_at' intE; obtain ⟨hc2, hf2, hl2⟩ := bcell hB2; have hz2 := hB2.size; (try simp only [World.size_alloc, World.size_drew] at hz2); have yw2_0 : w1.heap.size < w2.heap.size := (by omega)) | (go_at_call 50; go_loud (refine (spec_FlyGo_c p [] ys A _ B c 0 d _ (by exact Rd.mono (by with_reducible assumption) (by repeat' (first | with_reducible exact Below.refl _ _ | with_reducible assumption | with_reducible refine b_alloc ?_ _ | with_reducible refine b_drewN ?_ _ | with_reducible refine b_drew ?_ | with_reducible refine b_set ?_ (by first | (simp only [World.size_setCell, World.size_alloc, World.size_drew]; omega) | (simp; done) | (simp; omega)) _ | with_reducible refine b_step ?_ (by with_reducible assumption)))) ⟨rfl, by simp, by simp, fun h => absurd h (by simp)⟩ (by exact Rd.mono (by with_reducible assumption) (by repeat' (first | with_reducible exact Below.refl _ _ | with_reducible assumption | with_reducible refine b_alloc ?_ _ | with_reducible refine b_drewN ?_ _ | with_reducible refine b_drew ?_ | with_reducible refine b_set ?_ (by first | (simp only [World.size_setCell, World.size_alloc, World.size_drew]; omega) | (simp; done) | (simp; omega)) _ | with_reducible refine b_step ?_ (by with_reducible assumption))))).mono ?_); intro e w3 hM; obtain ⟨A3, c3, rfl, hO3, -, hB3⟩ := hM.go2 intE; have hI3 := hO3.rd_at' intE; obtain ⟨hc3, hf3, hl3⟩ := bcell hB3; have hz3 := hB3.size; (try simp only [World.size_alloc, World.size_drew] at hz3); have yw3_0 : w1.heap.size < w3.heap.size := (by omega)) | (go_at_call 51; go_loud (refine (wfInts_c (LL.goL p [] ys) _ _ _ _ _ (by exact Rd.mono (by with_reducible assumption) (by repeat' (first | with_reducible exact Below.refl _ _ | with_reducible assumption | with_reducible refine b_alloc ?_ _ | with_reducible refine b_drewN ?_ _ | with_reducible refine b_drew ?_ | with_reducible refine b_set ?_ (by first | (simp only [World.size_setCell, World.size_alloc, World.size_drew]; omega) | (simp; done) | (simp; omega)) _ | with_reducible refine b_step ?_ (by with_reducible assumption)))) (by exact Rd.mono (by with_reducible assumption) (by repeat' (first | with_reducible exact Below.refl _ _ | with_reducible assumption | with_reducible refine b_alloc ?_ _ | with_reducible refine b_drewN ?_ _ | with_reducible refine b_drew ?_ | with_reducible refine b_set ?_ (by first | (simp only [World.size_setCell, World.size_alloc, World.size_drew]; omega) | (simp; done) | (simp; omega)) _ | with_reducible refine b_step ?_ (by with_reducible assumption))))).mono ?_); rintro e w4 ⟨rfl, hB4⟩; obtain ⟨hc4, hf4, hl4⟩ := bcell hB4; have hz4 := hB4.size; (try simp only [World.size_alloc, World.size_drew] at hz4); have yw4_0 : w1.heap.size < w4.heap.size := (by omega)))
  have hS4 : RdS w4 A p.steps.length c p.steps := (by exact Rd.mono (by with_reducible assumption) (by repeat' (first | with_reducible exact Below.refl _ _ | with_reducible assumption | with_reducible refine b_alloc ?_ _ | with_reducible refine b_drewN ?_ _ | with_reducible refine b_drew ?_ | with_reducible refine b_set ?_ (by first | (simp only [World.size_setCell, World.size_alloc, World.size_drew]; omega) | (simp; done) | (simp; omega)) _ | with_reducible refine b_step ?_ (by with_reducible assumption))))
  have hF4 : RdI w4 A2 (LL.goL p [] ys).length c2 (LL.goL p [] ys) := (by exact Rd.mono (by with_reducible assumption) (by repeat' (first | with_reducible exact Below.refl _ _ | with_reducible assumption | with_reducible refine b_alloc ?_ _ | with_reducible refine b_drewN ?_ _ | with_reducible refine b_drew ?_ | with_reducible refine b_set ?_ (by first | (simp only [World.size_setCell, World.size_alloc, World.size_drew]; omega) | (simp; done) | (simp; omega)) _ | with_reducible refine b_step ?_ (by with_reducible assumption))))
  have kP4 : Blk w4 w1.heap.size #[.int .i64 p.q, .int .i64 p.s, .slice A p.steps.length c, .int .i64 p.fr, .int .i64 p.by_] 43 := (by repeat' (first | with_reducible assumption | with_reducible exact Blk.new _ _ _ | with_reducible exact Blk.new' _ _ (by first | (simp only [World.size_alloc, World.size_setCell, World.size_drew]; done) | (simp only [World.size_alloc, World.size_setCell, World.size_drew]; omega) | omega) | with_reducible refine Blk.a ?_ _ | with_reducible refine Blk.d ?_ | with_reducible refine Blk.dN ?_ _ | with_reducible refine Blk.s ?_ (by simp only [ne_eq]; omega) _ | with_reducible refine Blk.b ?_ (by with_reducible assumption)))
  have hb4 : Below w.heap.size w w4 := (by repeat' (first | with_reducible exact Below.refl _ _ | with_reducible assumption | with_reducible refine b_alloc ?_ _ | with_reducible refine b_drewN ?_ _ | with_reducible refine b_drew ?_ | with_reducible refine b_set ?_ (by first | (simp only [World.size_setCell, World.size_alloc, World.size_drew]; omega) | (simp; done) | (simp; omega)) _ | with_reducible refine b_step ?_ (by with_reducible assumption)))
  clear hB2 hB3 hB4 hc2 hf2 hl2 hc3 hf3 hl3 hc4 hf4 hl4 hO2 hO3 hI2 hI3 hz2 hz3 hz4 hS hI hb1
  generalize w1.heap.size = bp at *
  obtain ⟨e0, f0, l0⟩ := kP4.cells
  cases hgo : LL.goB p [] ys
  · have hnF := LL.go_nil_no hgo
    clear hF4
    go_upto_region 10 with (go_at_call 24; go_loud (refine (impl_FlySpans_c p A c _ (by exact Rd.mono (by with_reducible assumption) (by repeat' (first | with_reducible exact Below.refl _ _ | with_reducible assumption | with_reducible refine b_alloc ?_ _ | with_reducible refine b_drewN ?_ _ | with_reducible refine b_drew ?_ | with_reducible refine b_set ?_ (by first | (simp only [World.size_setCell, World.size_alloc, World.size_drew]; omega) | (simp; done) | (simp; omega)) _ | with_reducible refine b_step ?_ (by with_reducible assumption))))).mono ?_); intro e w5 hM; go_loud (rw [LL.spansM_no hnF, decide_eq_false hnF] at hM); obtain ⟨A5, c5, rfl, hO5, -, hB5⟩ := hM.go2 spanE; obtain ⟨hc5, hf5, hl5⟩ := bcell hB5; have hz5 := hB5.size; (try simp only [World.size_alloc, World.size_drew] at hz5); have yw5_0 : bp < w5.heap.size := (by omega))
    have hS5 : RdS w5 A p.steps.length c p.steps := (by exact Rd.mono (by with_reducible assumption) (by repeat' (first | with_reducible exact Below.refl _ _ | with_reducible assumption | with_reducible refine b_alloc ?_ _ | with_reducible refine b_drewN ?_ _ | with_reducible refine b_drew ?_ | with_reducible refine b_set ?_ (by first | (simp only [World.size_setCell, World.size_alloc, World.size_drew]; omega) | (simp; done) | (simp; omega)) _ | with_reducible refine b_step ?_ (by with_reducible assumption))))
    have hb5 : Below w.heap.size w w5 := (by repeat' (first | with_reducible exact Below.refl _ _ | with_reducible assumption | with_reducible refine b_alloc ?_ _ | with_reducible refine b_drewN ?_ _ | with_reducible refine b_drew ?_ | with_reducible refine b_set ?_ (by first | (simp only [World.size_setCell, World.size_alloc, World.size_drew]; omega) | (simp; done) | (simp; omega)) _ | with_reducible refine b_step ?_ (by with_reducible assumption)))
    have kP5 := kP4.b hB5
    clear hB5 hc5 hf5 hl5 hO5 e0 f0 l0
    obtain ⟨e0, f0, l0⟩ := kP5.cells
    have hdP : decide (LL.PathOk p) = decide (LL.PathOk p) := rfl
    generalize hdb : decide (LL.PathOk p) = pb at hdP
    refine rel_b [(4, fun v _ => ∃ A9 c9, v = .slice A9 0 c9), (10, fun v _ => v = .bool pb), (12, fun v _ => v = .bool pb)] (by kernel_rfl) (by kernel_rfl) ?_
    iterate 4 ((apply rel_plain (hR := rfl) (hF := fun _ => trivial) (hg := rfl)); (focus ((intro w' hL'); (obtain ⟨hcS, hfS, hlS⟩ := bcell hL'); (try simp only [World.size_setCell, World.size_alloc, World.size_drew] at hcS hfS hlS); (go_simp); (try go_bits); (try (first | (rw [if_pos (by omega)]; done) | (rw [if_neg (by omega)]; done) | (rw [if_pos (by omega)]; go_simp) | (rw [if_neg (by omega)]; go_simp))); (first | with_reducible rfl | exact rfl | skip))); (simp only [Act.put, List.setIfInBounds_toArray, List.set_cons_zero, List.set_cons_succ]))
    ((apply rel_told (hR := rfl) (hg := rfl)); (focus ((intro w' hL' hD'); (obtain ⟨hcS, hfS, hlS⟩ := bcell hL'); (try simp only [World.size_setCell, World.size_alloc, World.size_drew] at hcS hfS hlS); (go_simp); (try go_bits); (try (first | (rw [if_pos (by omega)]; done) | (rw [if_neg (by omega)]; done) | (rw [if_pos (by omega)]; go_simp) | (rw [if_neg (by omega)]; go_simp))); ((go_at_call 25); (refine (impl_FlyTube_c p A c _ (hS5.mono hL')).mono ?_); (intro e w'' hM); (rw [LL.tubeM_no hnF] at hM); (obtain ⟨A2x, c2x, rfl, hO2x, -, hBx⟩ := hM.go boxE); (refine ⟨_, rfl, hBx, ?_⟩); ((repeat (first | (refine Tell.hit rfl ?_) | (refine Tell.skip rfl ?_))); exact ⟨A2x, c2x, rfl⟩)))); (intro v' w0' hv'); (replace hv' := Tell.out hv' rfl); (obtain ⟨A2p, c2p, rfl⟩ := hv'); (simp only [Act.put, List.setIfInBounds_toArray, List.set_cons_zero, List.set_cons_succ]))
    iterate 5 ((apply rel_plain (hR := rfl) (hF := fun _ => trivial) (hg := rfl)); (focus ((intro w' hL'); (obtain ⟨hcS, hfS, hlS⟩ := bcell hL'); (try simp only [World.size_setCell, World.size_alloc, World.size_drew] at hcS hfS hlS); (go_simp); (try go_bits); (try (first | (rw [if_pos (by omega)]; done) | (rw [if_neg (by omega)]; done) | (rw [if_pos (by omega)]; go_simp) | (rw [if_neg (by omega)]; go_simp))); (first | with_reducible rfl | exact rfl | skip))); (simp only [Act.put, List.setIfInBounds_toArray, List.set_cons_zero, List.set_cons_succ]))
    ((apply rel_told (hR := rfl) (hg := rfl)); (focus ((intro w' hL' hD'); (obtain ⟨hcS, hfS, hlS⟩ := bcell hL'); (try simp only [World.size_setCell, World.size_alloc, World.size_drew] at hcS hfS hlS); (go_simp); (try go_bits); (try (first | (rw [if_pos (by omega)]; done) | (rw [if_neg (by omega)]; done) | (rw [if_pos (by omega)]; go_simp) | (rw [if_neg (by omega)]; go_simp))); ((go_at_call 47); (refine (impl_FlyPathOk_c p A c _ (hS5.mono hL')).mono ?_); (rintro e w'' ⟨rfl, hb''⟩); (refine ⟨_, rfl, ?_, ?_⟩); (focus (first | exact hb'' | (subst hb''; exact Le.refl _))); ((repeat (first | (refine Tell.hit rfl ?_) | (refine Tell.skip rfl ?_))); exact (by rw [hdb]))))); (intro v' w0' hv'); (replace hv' := Tell.out hv' rfl); (obtain rfl := hv'); (simp only [Act.put, List.setIfInBounds_toArray, List.set_cons_zero, List.set_cons_succ]))
    ((apply rel_plain (hR := rfl) (hF := fun _ => trivial) (hg := rfl)); (focus ((intro w' hL'); (obtain ⟨hcS, hfS, hlS⟩ := bcell hL'); (try simp only [World.size_setCell, World.size_alloc, World.size_drew] at hcS hfS hlS); (go_simp); (try go_bits); (try (first | (rw [if_pos (by omega)]; done) | (rw [if_neg (by omega)]; done) | (rw [if_pos (by omega)]; go_simp) | (rw [if_neg (by omega)]; go_simp))); (first | with_reducible rfl | exact rfl | skip))); (simp only [Act.put, List.setIfInBounds_toArray, List.set_cons_zero, List.set_cons_succ]))
    ((apply rel_told (hR := rfl) (hg := rfl)); (focus ((intro w' hL' hD'); (obtain ⟨hcS, hfS, hlS⟩ := bcell hL'); (try simp only [World.size_setCell, World.size_alloc, World.size_drew] at hcS hfS hlS); (go_simp); (try go_bits); (try (first | (rw [if_pos (by omega)]; done) | (rw [if_neg (by omega)]; done) | (rw [if_pos (by omega)]; go_simp) | (rw [if_neg (by omega)]; go_simp))); ((go_at_call 26); (refine (spec_FlyPathOk_c p A c _ (hS5.mono hL')).mono ?_); (rintro e w'' ⟨rfl, hb''⟩); (refine ⟨_, rfl, ?_, ?_⟩); (focus (first | exact hb'' | (subst hb''; exact Le.refl _))); ((repeat (first | (refine Tell.hit rfl ?_) | (refine Tell.skip rfl ?_))); exact (by rw [hdb]))))); (intro v' w0' hv'); (replace hv' := Tell.out hv' rfl); (obtain rfl := hv'); (simp only [Act.put, List.setIfInBounds_toArray, List.set_cons_zero, List.set_cons_succ]))
    iterate 3 ((apply rel_plain (hR := rfl) (hF := fun _ => trivial) (hg := rfl)); (focus ((intro w' hL'); (obtain ⟨hcS, hfS, hlS⟩ := bcell hL'); (try simp only [World.size_setCell, World.size_alloc, World.size_drew] at hcS hfS hlS); (go_simp); (try go_bits); (try (first | (rw [if_pos (by omega)]; done) | (rw [if_neg (by omega)]; done) | (rw [if_pos (by omega)]; go_simp) | (rw [if_neg (by omega)]; go_simp))); (first | with_reducible rfl | exact rfl | skip))); (simp only [Act.put, List.setIfInBounds_toArray, List.set_cons_zero, List.set_cons_succ]))
    refine rel_nil ?_
    intro W12 hE hF9
    clear hF9
    go_wp2
    go_ret
    exact ⟨by simp, b_step hb5 hE⟩
  · obtain ⟨hPok, hA⟩ := LL.go_nil_yes hgo
    have hlaw := (LL.allowed_lawful hPok).1 hA
    have hFl : LL.Flies p := hA.flies hPok
    have hfl0 := Lib.hid hA.1
    have hfl1 : p.steps.length < (LL.goL p [] ys).length := by have := hA.1; omega
    have hfl2 : (LL.goL p [] ys).length ≤ p.steps.length + 1 := by have := hA.1; omega
    have hn1 := hPok.2.1.1
    have hn40 := hPok.2.1.2
    generalize LL.goL p [] ys = f at *
    clear hgo hlf
    have hA' := Lib.hid hA
    have hlaw' := Lib.hid hlaw
    have hPok' := Lib.hid hPok
    have hFl' := Lib.hid hFl
    clear hA hlaw hPok hFl
    go_upto_region 13 with (first | (go_at_call 31; go_loud (refine (wfAllowed_c p f A A2 c c2 _ hPok'.out (by exact Rd.mono (by with_reducible assumption) (by repeat' (first | with_reducible exact Below.refl _ _ | with_reducible assumption | with_reducible refine b_alloc ?_ _ | with_reducible refine b_drewN ?_ _ | with_reducible refine b_drew ?_ | with_reducible refine b_set ?_ (by first | (simp only [World.size_setCell, World.size_alloc, World.size_drew]; omega) | (simp; done) | (simp; omega)) _ | with_reducible refine b_step ?_ (by with_reducible assumption)))) (by exact Rd.mono (by with_reducible assumption) (by repeat' (first | with_reducible exact Below.refl _ _ | with_reducible assumption | with_reducible refine b_alloc ?_ _ | with_reducible refine b_drewN ?_ _ | with_reducible refine b_drew ?_ | with_reducible refine b_set ?_ (by first | (simp only [World.size_setCell, World.size_alloc, World.size_drew]; omega) | (simp; done) | (simp; omega)) _ | with_reducible refine b_step ?_ (by with_reducible assumption))))).mono ?_); rintro e w5 ⟨e9, hB5⟩; go_loud (rw [decide_eq_true hA'.out] at e9); subst e9; obtain ⟨hc5, hf5, hl5⟩ := bcell hB5; have hz5 := hB5.size; (try simp only [World.size_alloc, World.size_drew] at hz5); have yw5_0 : bp < w5.heap.size := (by omega)) | (go_at_call 35; go_loud (refine (impl_FlyLawful_c p f A A2 c c2 _ (by exact Rd.mono (by with_reducible assumption) (by repeat' (first | with_reducible exact Below.refl _ _ | with_reducible assumption | with_reducible refine b_alloc ?_ _ | with_reducible refine b_drewN ?_ _ | with_reducible refine b_drew ?_ | with_reducible refine b_set ?_ (by first | (simp only [World.size_setCell, World.size_alloc, World.size_drew]; omega) | (simp; done) | (simp; omega)) _ | with_reducible refine b_step ?_ (by with_reducible assumption)))) (by exact Rd.mono (by with_reducible assumption) (by repeat' (first | with_reducible exact Below.refl _ _ | with_reducible assumption | with_reducible refine b_alloc ?_ _ | with_reducible refine b_drewN ?_ _ | with_reducible refine b_drew ?_ | with_reducible refine b_set ?_ (by first | (simp only [World.size_setCell, World.size_alloc, World.size_drew]; omega) | (simp; done) | (simp; omega)) _ | with_reducible refine b_step ?_ (by with_reducible assumption))))).mono ?_); rintro e w6 ⟨e9, hB6⟩; go_loud (rw [decide_eq_true hlaw'.out] at e9); subst e9; obtain ⟨hc6, hf6, hl6⟩ := bcell hB6; have hz6 := hB6.size; (try simp only [World.size_alloc, World.size_drew] at hz6); have yw6_0 : bp < w6.heap.size := (by omega)))
    go_upto_region 15 with (go_at_call 25; go_loud (refine (impl_FlyTube_c p A c _ (by exact Rd.mono (by with_reducible assumption) (by repeat' (first | with_reducible exact Below.refl _ _ | with_reducible assumption | with_reducible refine b_alloc ?_ _ | with_reducible refine b_drewN ?_ _ | with_reducible refine b_drew ?_ | with_reducible refine b_set ?_ (by first | (simp only [World.size_setCell, World.size_alloc, World.size_drew]; omega) | (simp; done) | (simp; omega)) _ | with_reducible refine b_step ?_ (by with_reducible assumption))))).mono ?_); intro e w7 hM; obtain ⟨A7, c7, rfl, hO7, -, hB7⟩ := hM.go boxE; have hT7 := hO7.rd_at' boxE; obtain ⟨hc7, hf7, hl7⟩ := bcell hB7; have hz7 := hB7.size; (try simp only [World.size_alloc, World.size_drew] at hz7); have yw7_0 : bp < w7.heap.size := (by omega))
    have hTl0 := Lib.hid (LL.tube_len_yes hFl'.out)
    have hTl1 : (LL.tubeM p).length ≤ p.steps.length := by have := hTl0.out; omega
    have hTl2 : p.steps.length ≤ (LL.tubeM p).length := by have := hTl0.out; omega
    have hS7 : RdS w7 A p.steps.length c p.steps := (by exact Rd.mono (by with_reducible assumption) (by repeat' (first | with_reducible exact Below.refl _ _ | with_reducible assumption | with_reducible refine b_alloc ?_ _ | with_reducible refine b_drewN ?_ _ | with_reducible refine b_drew ?_ | with_reducible refine b_set ?_ (by first | (simp only [World.size_setCell, World.size_alloc, World.size_drew]; omega) | (simp; done) | (simp; omega)) _ | with_reducible refine b_step ?_ (by with_reducible assumption))))
    have hF7 : RdI w7 A2 f.length c2 f := (by exact Rd.mono (by with_reducible assumption) (by repeat' (first | with_reducible exact Below.refl _ _ | with_reducible assumption | with_reducible refine b_alloc ?_ _ | with_reducible refine b_drewN ?_ _ | with_reducible refine b_drew ?_ | with_reducible refine b_set ?_ (by first | (simp only [World.size_setCell, World.size_alloc, World.size_drew]; omega) | (simp; done) | (simp; omega)) _ | with_reducible refine b_step ?_ (by with_reducible assumption))))
    have kP7 : Blk w7 bp #[.int .i64 p.q, .int .i64 p.s, .slice A p.steps.length c, .int .i64 p.fr, .int .i64 p.by_] 43 := (by repeat' (first | with_reducible assumption | with_reducible exact Blk.new _ _ _ | with_reducible exact Blk.new' _ _ (by first | (simp only [World.size_alloc, World.size_setCell, World.size_drew]; done) | (simp only [World.size_alloc, World.size_setCell, World.size_drew]; omega) | omega) | with_reducible refine Blk.a ?_ _ | with_reducible refine Blk.d ?_ | with_reducible refine Blk.dN ?_ _ | with_reducible refine Blk.s ?_ (by simp only [ne_eq]; omega) _ | with_reducible refine Blk.b ?_ (by with_reducible assumption)))
    have hb7 : Below w.heap.size w w7 := (by repeat' (first | with_reducible exact Below.refl _ _ | with_reducible assumption | with_reducible refine b_alloc ?_ _ | with_reducible refine b_drewN ?_ _ | with_reducible refine b_drew ?_ | with_reducible refine b_set ?_ (by first | (simp only [World.size_setCell, World.size_alloc, World.size_drew]; omega) | (simp; done) | (simp; omega)) _ | with_reducible refine b_step ?_ (by with_reducible assumption)))
    clear hB5 hB6 hB7 hc5 hf5 hl5 hc6 hf6 hl6 hc7 hf7 hl7 hz5 hz6 hz7 hO7 hS4 hF4 kP4 hb4 e0 f0 l0
    have lp := blk_lt kP7.at_
    obtain ⟨e0, f0, l0⟩ := kP7.cells
    obtain ⟨bA, oA, rfl, hbA⟩ := hS7.addr (by omega)
    obtain ⟨bF, oF, rfl, hbF⟩ := hF7.addr (by omega)
    obtain ⟨bT, oT, rfl, hbT⟩ := hT7.addr (by omega)
    have hcF := hF7.cap
    have hcT := hT7.cap
    have d0 := hF7.S1 0 (by omega)
    have dn := hF7.S1 p.steps.length (by omega)
    simp only [Nat.add_zero] at d0
    obtain ⟨r0, r1⟩ := hA'.out.rng hPok'.out 0 (Nat.zero_le _)
    obtain ⟨r2, r3⟩ := hA'.out.rng hPok'.out p.steps.length (Nat.le_refl _)
    have hwi := fun (t : Int) a b => LL.whr_in (t := t) hA'.out hPok'.out a b
    generalize LL.nthI f 0 = x0 at d0 r0 r1 hwi
    generalize LL.nthI f p.steps.length = xn at dn r2 r3 hwi
    replace hwi := Lib.hid hwi
    go_wp2
    go_loopw [13, 14, 15, 16, 17, 18, 19, 20, 21] (fun tt a b c d e f g i wr => ∃ t : Int, x0 ≤ t ∧ t ≤ x0 + 60 ∧ tt = .int .i64 t ∧ Below w7.heap.size w7 wr) (fun tt _ _ _ _ _ _ _ _ _ => (x0 + 61 - intOf tt).toNat)
    case atStart => exact ⟨x0, by omega, by omega, rfl, (by repeat' (first | with_reducible exact Below.refl _ _ | with_reducible assumption | with_reducible refine b_alloc ?_ _ | with_reducible refine b_drewN ?_ _ | with_reducible refine b_drew ?_ | with_reducible refine b_set ?_ (by first | (simp only [World.size_setCell, World.size_alloc, World.size_drew]; omega) | (simp; done) | (simp; omega)) _ | with_reducible refine b_step ?_ (by with_reducible assumption)))⟩
    case round =>
      obtain ⟨t, ht0, ht1, rfl, hb⟩ := hrel
      obtain ⟨hc, hf, hl⟩ := bcell hb
      have hzb := hb.size
      by_cases h1 : t < xn
      · by_cases h2 : t < x0 + 60
        · obtain ⟨k, hk, q0, q1, hw⟩ := hwi.out t ht0 h1
          obtain ⟨hR, hSn, g1, g2, g3, g4⟩ := LL.flight_rest hPok'.out hA'.out.2 k hk t q0 q1
          have hlo := LL.within_at hFl'.out k hk t
          have i1 := (hA'.out.2.in_ k (by omega)).1
          have i2 := (hA'.out.2.in_ (k + 1) (by omega)).2
          have hwn : ∀ v, (LL.nth p.steps k).lo ≤ v → v ≤ (LL.nth p.steps k).hi → LL.Within (LL.tubeM p) (LL.nth p.steps k).x (LL.nth p.steps k).y v t := fun v a b => hlo v (by omega) (by omega) a b
          clear hlo i1 i2
          obtain ⟨⟨_, _, s0, s1, s2, _, _, _⟩, -⟩ := hPok'.out.2.2.2.2.2 k hk
          have dk := hF7.S1 k (by omega)
          have dk1 := hF7.S1 (k + 1) (by omega)
          obtain ⟨z0, z1, z2, z3, z4, z5, z6⟩ := hS7.S7 k hk
          obtain ⟨u0, u1⟩ := hA'.out.rng hPok'.out k (by omega)
          obtain ⟨u2, u3⟩ := hA'.out.rng hPok'.out (k + 1) (by omega)
          have Fq := hR.flies'
          have Fr := hSn.flies'
          have lq : (LL.rsP p k (LL.nthI f k) t).steps.length = p.steps.length - k := LL.rsP_len ..
          have lr : (LL.snP p k t).steps.length = p.steps.length - k := LL.snP_len ..
          have aq : LL.Lawful (LL.rsP p k (LL.nthI f k) t) (f.drop k) := (LL.allowed_lawful Fq.1).1 (LL.allowed_drop g1 (by omega))
          have ar : LL.Lawful (LL.snP p k t) (f.drop k) := (LL.allowed_lawful Fr.1).1 (LL.allowed_drop g2 (by omega))
          have m1 : LL.Small (LL.tubeM (LL.rsP p k (LL.nthI f k) t)) (LL.tubeM (LL.snP p k t)) := LL.rest_small hSn hR g3 g4
          have m2 : LL.Small (LL.tubeM (LL.snP p k t)) ((LL.tubeM p).drop k) := LL.seen_drop hSn
          replace hR := Lib.hid hR
          replace hSn := Lib.hid hSn
          replace aq := Lib.hid aq
          replace ar := Lib.hid ar
          replace m1 := Lib.hid m1
          replace m2 := Lib.hid m2
          replace hwn := Lib.hid hwn
          have lT := LL.tube_len_yes Fr
          clear g1 g2 g3 g4 lq lr Fq Fr lT
          have hdf : (f.drop k).length = f.length - k := List.length_drop ..
          have hdt : ((LL.tubeM p).drop k).length = (LL.tubeM p).length - k := List.length_drop ..
          have hDF := hF7.dropd k (by omega)
          have hDT := hT7.dropd k (by omega)
          rw [Nat.mul_one] at hDF
          replace hdf := Lib.hid hdf
          replace hdt := Lib.hid hdt
          generalize hy0 : LL.nthI f k = y0 at *
          generalize hy1 : LL.nthI f (k + 1) = y1 at *
          replace hy0 := Lib.hid hy0
          replace hy1 := Lib.hid hy1
          generalize hz : LL.nth p.steps k = z at *
          replace hz := Lib.hid hz
          go_upto_region 22 with (go_at_call 30; go_loud (refine (impl_FlyWhere_c f t _ c2 _ (by exact Rd.mono (by with_reducible assumption) (by repeat' (first | with_reducible exact Below.refl _ _ | with_reducible assumption | with_reducible refine b_alloc ?_ _ | with_reducible refine b_drewN ?_ _ | with_reducible refine b_drew ?_ | with_reducible refine b_set ?_ (by first | (simp only [World.size_setCell, World.size_alloc, World.size_drew]; omega) | (simp; done) | (simp; omega)) _ | with_reducible refine b_step ?_ (by with_reducible assumption))))).mono ?_); rintro e w8 ⟨e9, hB8⟩; go_loud (rw [hw] at e9); subst e9; obtain ⟨hc8, hf8, hl8⟩ := bcell hB8; have hz8 := hB8.size)
          have kz : Blk (w8.alloc (.cells #[.int .i64 z.x, .int .i64 z.y, .int .i64 z.lo, .int .i64 z.hi, .int .i64 z.fr, .int .i64 z.by_, .bool z.hold] 79)) w8.heap.size #[.int .i64 z.x, .int .i64 z.y, .int .i64 z.lo, .int .i64 z.hi, .int .i64 z.fr, .int .i64 z.by_, .bool z.hold] 79 := Blk.new _ _ _
          refine wp_name (fun W => Blk W w8.heap.size #[.int .i64 z.x, .int .i64 z.y, .int .i64 z.lo, .int .i64 z.hi, .int .i64 z.fr, .int .i64 z.by_, .bool z.hold] 79 ∧ Below w7.heap.size w7 W) ⟨kz, b_alloc (b_step hb hB8) _⟩ ?_
          have bsn : w7.heap.size ≤ w8.heap.size := by omega
          clear kz hc hf hl hc8 hf8 hl8 hb hB8 hw
          rintro W9 ⟨kz, hb9⟩
          generalize w8.heap.size = bs at *
          obtain ⟨e1, f1, l1⟩ := kz.cells
          go_wp2
          go_loopw [17] (fun lv wq => ∃ v : Int, z.lo ≤ v ∧ v ≤ z.hi + 1 ∧ lv = .int .i64 v ∧ Blk wq bs #[.int .i64 z.x, .int .i64 z.y, .int .i64 z.lo, .int .i64 z.hi, .int .i64 z.fr, .int .i64 z.by_, .bool z.hold] 79 ∧ Below w7.heap.size w7 wq) (fun lv _ => (z.hi + 1 - intOf lv).toNat)
          case atStart => exact ⟨z.lo, by omega, by omega, rfl, kz, hb9⟩
          case round =>
            clear hb9 kz e1 f1 l1
            obtain ⟨v, v0, v1, rfl, kz, hb9⟩ := hrel
            obtain ⟨e1, f1, l1⟩ := kz.cells
            obtain ⟨hc, hf, hl⟩ := bcell hb9
            by_cases hv : v ≤ z.hi
            · have hwv := hwn.out v v0 hv
              replace hwv := Lib.hid hwv
              go_wp2_with (go_at_call 52; go_loud (refine (impl_FlyWithin_c (LL.tubeM p) z.x z.y v t _ c7 _ (by exact Rd.mono (by with_reducible assumption) (by repeat' (first | with_reducible exact Below.refl _ _ | with_reducible assumption | with_reducible refine b_alloc ?_ _ | with_reducible refine b_drewN ?_ _ | with_reducible refine b_drew ?_ | with_reducible refine b_set ?_ (by first | (simp only [World.size_setCell, World.size_alloc, World.size_drew]; omega) | (simp; done) | (simp; omega)) _ | with_reducible refine b_step ?_ (by with_reducible assumption))))).mono ?_); rintro e w10 ⟨e9, hB10⟩; go_loud (rw [decide_eq_true hwv.out] at e9); subst e9)
              go_roundw
              case rel => exact ⟨v + 1, by omega, by omega, rfl, kz.b hB10, b_step hb9 hB10⟩
              case measure => simp only [intOf]; omega
            · go_upto_region 27 with fail
              go_cut [166] (fun v wc => (∃ zb, v = .bool zb) ∧ Below w7.heap.size w7 wc)
              case first =>
                go_wp2
                all_goals (go_meet; case rel => exact ⟨⟨_, rfl⟩, hb9⟩)
              clear kz e1 f1 l1 hb9 hc hf hl
              obtain ⟨⟨zb, rfl⟩, hb9⟩ := hcut
              obtain ⟨hc, hf, hl⟩ := bcell hb9
              have hzb9 := hb9.size
              cases zb
              · go_upto_region 28 with fail
                refine rel_tailf_b 12 [10] [(7, fun v W => ∃ A9 c9, v = .tuple #[.agg #[.int .i64 (LL.rsP p k y0 t).q, .int .i64 (LL.rsP p k y0 t).s, .slice A9 (LL.rsP p k y0 t).steps.length c9, .int .i64 (LL.rsP p k y0 t).fr, .int .i64 (LL.rsP p k y0 t).by_], .bool true] ∧ Own stepC 7 56 79 W (.slice A9 (LL.rsP p k y0 t).steps.length c9) (LL.rsP p k y0 t).steps), (11, fun v w' => ∃ g, v = .pointer (some ⟨g, 0, none⟩) ∧ wc.heap.size ≤ g ∧ Blk w' g #[.int .i64 0, .int .i64 0, .slice none 0 0, .int .i64 0, .int .i64 0] 43)] (by kernel_rfl) (by kernel_rfl) (by intro d9 v9 c9 a9 w9 h9; cases d9 <;> exact h9) ?_
                simp only [List.take_succ_cons, List.take_zero, List.drop_succ_cons, List.drop_zero]
                iterate 7 ((apply rel_plain (hR := rfl) (hF := fun _ => trivial) (hg := rfl)); (focus ((intro w' hL'); (obtain ⟨hcS, hfS, hlS⟩ := bcell hL'); (try simp only [World.size_setCell, World.size_alloc, World.size_drew] at hcS hfS hlS); (go_simp); (try go_bits); (try (first | (rw [if_pos (by omega)]; done) | (rw [if_neg (by omega)]; done) | (rw [if_pos (by omega)]; go_simp) | (rw [if_neg (by omega)]; go_simp))); (first | with_reducible rfl | exact rfl | skip))); (simp only [Act.put, List.setIfInBounds_toArray, List.set_cons_zero, List.set_cons_succ]))
                ((apply rel_told (hR := rfl) (hg := rfl)); (focus ((intro w' hL' hD'); (obtain ⟨hcS, hfS, hlS⟩ := bcell hL'); (try simp only [World.size_setCell, World.size_alloc, World.size_drew] at hcS hfS hlS); (go_simp); (try go_bits); (try (first | (rw [if_pos (by omega)]; done) | (rw [if_neg (by omega)]; done) | (rw [if_pos (by omega)]; go_simp) | (rw [if_neg (by omega)]; go_simp))); ((go_at_call 43); (refine (impl_FlyRest_c p _ c k y0 t _ (hS7.mono (b_step hb9 hL'))).mono ?_); (intro e w'' hM); (rw [LL.restM_yes hR.out, decide_eq_true hR.out] at hM); (obtain ⟨A2x, c2x, rfl, hO2x, -, hBx⟩ := hM.gop2); (refine ⟨_, rfl, hBx, ?_⟩); ((repeat (first | (refine Tell.hit rfl ?_) | (refine Tell.skip rfl ?_))); exact ⟨A2x, c2x, rfl, hO2x⟩)))); (intro v' w0' hv'); (replace hv' := Tell.out hv' rfl); (obtain ⟨A10, c10, rfl, -⟩ := hv'); (simp only [Act.put, List.setIfInBounds_toArray, List.set_cons_zero, List.set_cons_succ]))
                iterate 3 ((apply rel_plain (hR := rfl) (hF := fun _ => trivial) (hg := rfl)); (focus ((intro w' hL'); (obtain ⟨hcS, hfS, hlS⟩ := bcell hL'); (try simp only [World.size_setCell, World.size_alloc, World.size_drew] at hcS hfS hlS); (go_simp); (try go_bits); (try (first | (rw [if_pos (by omega)]; done) | (rw [if_neg (by omega)]; done) | (rw [if_pos (by omega)]; go_simp) | (rw [if_neg (by omega)]; go_simp))); (first | with_reducible rfl | exact rfl | skip))); (simp only [Act.put, List.setIfInBounds_toArray, List.set_cons_zero, List.set_cons_succ]))
                ((apply rel_told (hR := rfl) (hg := rfl)); (focus ((intro w' hL' hD'); (obtain ⟨hcS, hfS, hlS⟩ := bcell hL'); (try simp only [World.size_setCell, World.size_alloc, World.size_drew] at hcS hfS hlS); (go_simp); (try go_bits); (try (first | (rw [if_pos (by omega)]; done) | (rw [if_neg (by omega)]; done) | (rw [if_pos (by omega)]; go_simp) | (rw [if_neg (by omega)]; go_simp))); (refine ⟨b_alloc (Below.refl _ _) _, ?_⟩; ((repeat (first | (refine Tell.hit rfl ?_) | (refine Tell.skip rfl ?_))); exact ⟨_, rfl, hL'.size, Blk.new _ _ _⟩)))); (intro v' w0' hv'); (replace hv' := Tell.out hv' rfl); (obtain ⟨bq, rfl, hgw, -⟩ := hv'); (simp only [Act.put, List.setIfInBounds_toArray, List.set_cons_zero, List.set_cons_succ]))
                refine rel_nil ?_
                intro W12 hE hF9
                obtain ⟨wu, hlu, g', hg', -, kG⟩ := Known.out (hF9 11) rfl
                cases hg'
                have kG12 := kG.b hlu
                obtain ⟨e1, f1, l1⟩ := kG12.cells
                obtain ⟨wv, hlv, A8, c8, e8, hSq⟩ := Known.out (hF9 7) rfl
                simp at e8
                obtain ⟨rfl, rfl⟩ := e8
                have hOq := hSq.b hlv
                have hSqn0 := hOq.neB2 kG12 (by decide)
                have hSq := hOq.rd_at' stepE
                have hSqn : ∀ b off, 0 < (LL.rsP p k y0 t).steps.length → A10 = some ⟨b, off, none⟩ → b ≠ bq := fun b off _ e => hSqn0 b (by rw [e]; rfl)
                have hb12 := b_step hb9 hE
                clear hF9 hlv hlu hE hc hf hl hb9 hOq hSqn0
                obtain ⟨hc, hf, hl⟩ := bcell hb12
                have hzb12 := hb12.size
                go_upto_region 29 with fail
                have hgw7 : w7.heap.size ≤ bq := by omega
                have kq := put5z (u0 := .int .i64 (LL.rsP p k y0 t).q) (u1 := .int .i64 (LL.rsP p k y0 t).s) (u2 := .slice A10 (LL.rsP p k y0 t).steps.length c10) (u3 := .int .i64 (LL.rsP p k y0 t).fr) (u4 := .int .i64 (LL.rsP p k y0 t).by_) kG12
                have hbq : Below w7.heap.size w7 (((((W12.setCell ⟨bq, 0, none⟩ (.int .i64 (LL.rsP p k y0 t).q)).setCell ⟨bq, 1, none⟩ (.int .i64 (LL.rsP p k y0 t).s)).setCell ⟨bq, 2, none⟩ (.slice A10 (LL.rsP p k y0 t).steps.length c10)).setCell ⟨bq, 3, none⟩ (.int .i64 (LL.rsP p k y0 t).fr)).setCell ⟨bq, 4, none⟩ (.int .i64 (LL.rsP p k y0 t).by_)) := b_set (b_set (b_set (b_set (b_set hb12 (by simp only; omega) _) (by simp only; omega) _) (by simp only; omega) _) (by simp only; omega) _) (by simp only; omega) _
                have hSq13 : RdS (((((W12.setCell ⟨bq, 0, none⟩ (.int .i64 (LL.rsP p k y0 t).q)).setCell ⟨bq, 1, none⟩ (.int .i64 (LL.rsP p k y0 t).s)).setCell ⟨bq, 2, none⟩ (.slice A10 (LL.rsP p k y0 t).steps.length c10)).setCell ⟨bq, 3, none⟩ (.int .i64 (LL.rsP p k y0 t).fr)).setCell ⟨bq, 4, none⟩ (.int .i64 (LL.rsP p k y0 t).by_)) A10 (LL.rsP p k y0 t).steps.length c10 (LL.rsP p k y0 t).steps := hSq.move (fun b off h0 e => by
                  have := hSqn b off h0 e
                  simp only [Below.heap_setCell _ ⟨bq, _, none⟩ _ b (show b ≠ bq from this)]) (by simp only [World.size_setCell]; omega)
                refine wp_name (fun W => Blk W bq #[.int .i64 (LL.rsP p k y0 t).q, .int .i64 (LL.rsP p k y0 t).s, .slice A10 (LL.rsP p k y0 t).steps.length c10, .int .i64 (LL.rsP p k y0 t).fr, .int .i64 (LL.rsP p k y0 t).by_] 43 ∧ RdS W A10 (LL.rsP p k y0 t).steps.length c10 (LL.rsP p k y0 t).steps ∧ Below w7.heap.size w7 W) ⟨kq, hSq13, hbq⟩ ?_
                clear kq hSq hSq13 hbq hb12 hc hf hl kG kG12 e1 f1 l1
                rintro W13 ⟨kq, hSq, hb13⟩
                obtain ⟨hc, hf, hl⟩ := bcell hb13
                have hzb13 := hb13.size
                go_upto_region 30 with (go_at_call 45; go_loud (refine (impl_FlySeen_c p _ c k t _ (hS7.mono (by repeat' (first | with_reducible exact Below.refl _ _ | with_reducible assumption | with_reducible refine b_alloc ?_ _ | with_reducible refine b_drewN ?_ _ | with_reducible refine b_drew ?_ | with_reducible refine b_set ?_ (by first | (simp only [World.size_setCell, World.size_alloc, World.size_drew]; omega) | (simp; done) | (simp; omega)) _ | with_reducible refine b_step ?_ (by with_reducible assumption))))).mono ?_); intro e w14 hM; go_loud (rw [LL.seenM_yes hSn.out, decide_eq_true hSn.out] at hM); obtain ⟨A14, c14, rfl, hO14, -, hB14⟩ := hM.gop2; have hS14 := hO14.rd_at' stepE; have hz14 := hB14.size)
                have kr : Blk (w14.alloc (.cells #[.int .i64 (LL.snP p k t).q, .int .i64 (LL.snP p k t).s, .slice A14 (LL.snP p k t).steps.length c14, .int .i64 (LL.snP p k t).fr, .int .i64 (LL.snP p k t).by_] 43)) w14.heap.size #[.int .i64 (LL.snP p k t).q, .int .i64 (LL.snP p k t).s, .slice A14 (LL.snP p k t).steps.length c14, .int .i64 (LL.snP p k t).fr, .int .i64 (LL.snP p k t).by_] 43 := Blk.new _ _ _
                have kq14 := (kq.b hB14).a (.cells #[.int .i64 (LL.snP p k t).q, .int .i64 (LL.snP p k t).s, .slice A14 (LL.snP p k t).steps.length c14, .int .i64 (LL.snP p k t).fr, .int .i64 (LL.snP p k t).by_] 43)
                have hb14 : Below w7.heap.size w7 (w14.alloc (.cells #[.int .i64 (LL.snP p k t).q, .int .i64 (LL.snP p k t).s, .slice A14 (LL.snP p k t).steps.length c14, .int .i64 (LL.snP p k t).fr, .int .i64 (LL.snP p k t).by_] 43)) := b_alloc (b_step hb13 hB14) _
                have hSq14 : RdS (w14.alloc (.cells #[.int .i64 (LL.snP p k t).q, .int .i64 (LL.snP p k t).s, .slice A14 (LL.snP p k t).steps.length c14, .int .i64 (LL.snP p k t).fr, .int .i64 (LL.snP p k t).by_] 43)) A10 (LL.rsP p k y0 t).steps.length c10 (LL.rsP p k y0 t).steps := (hSq.mono hB14).mono (b_alloc (Below.refl _ _) _)
                have hSr14 : RdS (w14.alloc (.cells #[.int .i64 (LL.snP p k t).q, .int .i64 (LL.snP p k t).s, .slice A14 (LL.snP p k t).steps.length c14, .int .i64 (LL.snP p k t).fr, .int .i64 (LL.snP p k t).by_] 43)) A14 (LL.snP p k t).steps.length c14 (LL.snP p k t).steps := hS14.mono (b_alloc (Below.refl _ _) _)
                refine wp_name (fun W => Blk W bq #[.int .i64 (LL.rsP p k y0 t).q, .int .i64 (LL.rsP p k y0 t).s, .slice A10 (LL.rsP p k y0 t).steps.length c10, .int .i64 (LL.rsP p k y0 t).fr, .int .i64 (LL.rsP p k y0 t).by_] 43 ∧ Blk W w14.heap.size #[.int .i64 (LL.snP p k t).q, .int .i64 (LL.snP p k t).s, .slice A14 (LL.snP p k t).steps.length c14, .int .i64 (LL.snP p k t).fr, .int .i64 (LL.snP p k t).by_] 43 ∧ RdS W A10 (LL.rsP p k y0 t).steps.length c10 (LL.rsP p k y0 t).steps ∧ RdS W A14 (LL.snP p k t).steps.length c14 (LL.snP p k t).steps ∧ Below w7.heap.size w7 W) ⟨kq14, kr, hSq14, hSr14, hb14⟩ ?_
                clear kq kr kq14 hSq hSq14 hSr14 hS14 hO14 hB14 hb13 hb14 hc hf hl hR hSn
                rintro W15 ⟨kq, kr, hSq, hSr, hb15⟩
                generalize w14.heap.size = br at *
                generalize (LL.rsP p k y0 t) = q at *
                generalize (LL.snP p k t) = r at *
                obtain ⟨e1, f1, l1⟩ := kq.cells
                obtain ⟨e2, f2, l2⟩ := kr.cells
                have hDF15 := hDF.mono hb15
                have hDT15 := hDT.mono hb15
                have kf1 : k ≤ f.length := by omega
                have kt1 : k ≤ (LL.tubeM p).length := by omega
                refine rel_b [(11, fun v _ => v = .bool true), (19, fun v _ => v = .bool true), (24, fun v W => ∃ A9 c9, v = .slice A9 (LL.tubeM q).length c9 ∧ RdB W A9 (LL.tubeM q).length c9 (LL.tubeM q)), (26, fun v W => ∃ A9 c9, v = .slice A9 (LL.tubeM r).length c9 ∧ RdB W A9 (LL.tubeM r).length c9 (LL.tubeM r)), (27, fun v _ => v = .bool true), (32, fun v W => ∃ A9 c9, v = .slice A9 (LL.tubeM r).length c9 ∧ RdB W A9 (LL.tubeM r).length c9 (LL.tubeM r)), (36, fun v _ => v = .bool true)] (by kernel_rfl) (by kernel_rfl) ?_
                iterate 11 ((apply rel_plain (hR := rfl) (hF := fun _ => trivial) (hg := rfl)); (focus ((intro w' hL'); (obtain ⟨hcS, hfS, hlS⟩ := bcell hL'); (try simp only [World.size_setCell, World.size_alloc, World.size_drew] at hcS hfS hlS); (go_simp); (try go_bits); (try (first | (rw [if_pos (by omega)]; done) | (rw [if_neg (by omega)]; done) | (rw [if_pos (by omega)]; go_simp) | (rw [if_neg (by omega)]; go_simp))); (first | with_reducible rfl | exact rfl | skip))); (simp only [Act.put, List.setIfInBounds_toArray, List.set_cons_zero, List.set_cons_succ]))
                ((apply rel_told (hR := rfl) (hg := rfl)); (focus ((intro w' hL' hD'); (obtain ⟨hcS, hfS, hlS⟩ := bcell hL'); (try simp only [World.size_setCell, World.size_alloc, World.size_drew] at hcS hfS hlS); (go_simp); (try go_bits); (try (first | (rw [if_pos (by omega)]; done) | (rw [if_neg (by omega)]; done) | (rw [if_pos (by omega)]; go_simp) | (rw [if_neg (by omega)]; go_simp))); ((go_at_call 35); (refine (FlyLawful_n q (f.drop k) _ hdf.out A10 _ c10 _ _ (hSq.mono hL') (hDF15.mono hL')).mono ?_); (rintro e w'' ⟨rfl, hb''⟩); (refine ⟨_, rfl, ?_, ?_⟩); (focus (first | exact hb'' | (subst hb''; exact Le.refl _))); ((repeat (first | (refine Tell.hit rfl ?_) | (refine Tell.skip rfl ?_))); exact (by rw [decide_eq_true aq.out]))))); (intro v' w0' hv'); (replace hv' := Tell.out hv' rfl); (obtain rfl := hv'); (simp only [Act.put, List.setIfInBounds_toArray, List.set_cons_zero, List.set_cons_succ]))
                iterate 7 ((apply rel_plain (hR := rfl) (hF := fun _ => trivial) (hg := rfl)); (focus ((intro w' hL'); (obtain ⟨hcS, hfS, hlS⟩ := bcell hL'); (try simp only [World.size_setCell, World.size_alloc, World.size_drew] at hcS hfS hlS); (go_simp); (try go_bits); (try (first | (rw [if_pos (by omega)]; done) | (rw [if_neg (by omega)]; done) | (rw [if_pos (by omega)]; go_simp) | (rw [if_neg (by omega)]; go_simp))); (first | with_reducible rfl | exact rfl | skip))); (simp only [Act.put, List.setIfInBounds_toArray, List.set_cons_zero, List.set_cons_succ]))
                ((apply rel_told (hR := rfl) (hg := rfl)); (focus ((intro w' hL' hD'); (obtain ⟨hcS, hfS, hlS⟩ := bcell hL'); (try simp only [World.size_setCell, World.size_alloc, World.size_drew] at hcS hfS hlS); (go_simp); (try go_bits); (try (first | (rw [if_pos (by omega)]; done) | (rw [if_neg (by omega)]; done) | (rw [if_pos (by omega)]; go_simp) | (rw [if_neg (by omega)]; go_simp))); ((go_at_call 35); (refine (FlyLawful_n r (f.drop k) _ hdf.out A14 _ c14 _ _ (hSr.mono hL') (hDF15.mono hL')).mono ?_); (rintro e w'' ⟨rfl, hb''⟩); (refine ⟨_, rfl, ?_, ?_⟩); (focus (first | exact hb'' | (subst hb''; exact Le.refl _))); ((repeat (first | (refine Tell.hit rfl ?_) | (refine Tell.skip rfl ?_))); exact (by rw [decide_eq_true ar.out]))))); (intro v' w0' hv'); (replace hv' := Tell.out hv' rfl); (obtain rfl := hv'); (simp only [Act.put, List.setIfInBounds_toArray, List.set_cons_zero, List.set_cons_succ]))
                iterate 4 ((apply rel_plain (hR := rfl) (hF := fun _ => trivial) (hg := rfl)); (focus ((intro w' hL'); (obtain ⟨hcS, hfS, hlS⟩ := bcell hL'); (try simp only [World.size_setCell, World.size_alloc, World.size_drew] at hcS hfS hlS); (go_simp); (try go_bits); (try (first | (rw [if_pos (by omega)]; done) | (rw [if_neg (by omega)]; done) | (rw [if_pos (by omega)]; go_simp) | (rw [if_neg (by omega)]; go_simp))); (first | with_reducible rfl | exact rfl | skip))); (simp only [Act.put, List.setIfInBounds_toArray, List.set_cons_zero, List.set_cons_succ]))
                ((apply rel_told (hR := rfl) (hg := rfl)); (focus ((intro w' hL' hD'); (obtain ⟨hcS, hfS, hlS⟩ := bcell hL'); (try simp only [World.size_setCell, World.size_alloc, World.size_drew] at hcS hfS hlS); (go_simp); (try go_bits); (try (first | (rw [if_pos (by omega)]; done) | (rw [if_neg (by omega)]; done) | (rw [if_pos (by omega)]; go_simp) | (rw [if_neg (by omega)]; go_simp))); ((go_at_call 25); (refine (impl_FlyTube_c q A10 c10 _ (hSq.mono hL')).mono ?_); (intro e w'' hM); (obtain ⟨A2x, c2x, rfl, hO2x, -, hBx⟩ := hM.go boxE); (refine ⟨_, rfl, hBx, ?_⟩); ((repeat (first | (refine Tell.hit rfl ?_) | (refine Tell.skip rfl ?_))); exact ⟨A2x, c2x, rfl, hO2x.rd_at' boxE⟩)))); (intro v' w0' hv'); (replace hv' := Tell.out hv' rfl); (obtain ⟨A2p, c2p, rfl, -⟩ := hv'); (simp only [Act.put, List.setIfInBounds_toArray, List.set_cons_zero, List.set_cons_succ]))
                ((apply rel_plain (hR := rfl) (hF := fun _ => trivial) (hg := rfl)); (focus ((intro w' hL'); (obtain ⟨hcS, hfS, hlS⟩ := bcell hL'); (try simp only [World.size_setCell, World.size_alloc, World.size_drew] at hcS hfS hlS); (go_simp); (try go_bits); (try (first | (rw [if_pos (by omega)]; done) | (rw [if_neg (by omega)]; done) | (rw [if_pos (by omega)]; go_simp) | (rw [if_neg (by omega)]; go_simp))); (first | with_reducible rfl | exact rfl | skip))); (simp only [Act.put, List.setIfInBounds_toArray, List.set_cons_zero, List.set_cons_succ]))
                ((apply rel_told (hR := rfl) (hg := rfl)); (focus ((intro w' hL' hD'); (obtain ⟨hcS, hfS, hlS⟩ := bcell hL'); (try simp only [World.size_setCell, World.size_alloc, World.size_drew] at hcS hfS hlS); (go_simp); (try go_bits); (try (first | (rw [if_pos (by omega)]; done) | (rw [if_neg (by omega)]; done) | (rw [if_pos (by omega)]; go_simp) | (rw [if_neg (by omega)]; go_simp))); ((go_at_call 25); (refine (impl_FlyTube_c r A14 c14 _ (hSr.mono hL')).mono ?_); (intro e w'' hM); (obtain ⟨A2x, c2x, rfl, hO2x, -, hBx⟩ := hM.go boxE); (refine ⟨_, rfl, hBx, ?_⟩); ((repeat (first | (refine Tell.hit rfl ?_) | (refine Tell.skip rfl ?_))); exact ⟨A2x, c2x, rfl, hO2x.rd_at' boxE⟩)))); (intro v' w0' hv'); (replace hv' := Tell.out hv' rfl); (obtain ⟨A3p, c3p, rfl, -⟩ := hv'); (simp only [Act.put, List.setIfInBounds_toArray, List.set_cons_zero, List.set_cons_succ]))
                ((apply rel_told (hR := rfl) (hg := rfl)); (focus ((intro w' hL' hD'); (obtain ⟨hcS, hfS, hlS⟩ := bcell hL'); (try simp only [World.size_setCell, World.size_alloc, World.size_drew] at hcS hfS hlS); (go_simp); (try go_bits); (try (first | (rw [if_pos (by omega)]; done) | (rw [if_neg (by omega)]; done) | (rw [if_pos (by omega)]; go_simp) | (rw [if_neg (by omega)]; go_simp))); ((obtain ⟨va, hva, A8a, c8a, e8a, hR8a⟩ := Known.out (hD' ⟨24, .data⟩ (by simp) rfl) rfl); (injection e8a with e8a e8ax e8ay; subst e8a e8ay); (obtain ⟨vb, hvb, A8b, c8b, e8b, hR8b⟩ := Known.out (hD' ⟨26, .data⟩ (by simp) rfl) rfl); (injection e8b with e8b e8bx e8by; subst e8b e8by); ((go_at_call 48); (refine (impl_FlySmaller_c _ _ _ _ _ _ _ (hR8a.mono hva) (hR8b.mono hvb)).mono ?_); (rintro e w'' ⟨rfl, hb''⟩); (refine ⟨_, rfl, ?_, ?_⟩); (focus (first | exact hb'' | (subst hb''; exact Le.refl _))); ((repeat (first | (refine Tell.hit rfl ?_) | (refine Tell.skip rfl ?_))); exact (by rw [decide_eq_true m1.out])))))); (intro v' w0' hv'); (replace hv' := Tell.out hv' rfl); (obtain rfl := hv'); (simp only [Act.put, List.setIfInBounds_toArray, List.set_cons_zero, List.set_cons_succ]))
                iterate 4 ((apply rel_plain (hR := rfl) (hF := fun _ => trivial) (hg := rfl)); (focus ((intro w' hL'); (obtain ⟨hcS, hfS, hlS⟩ := bcell hL'); (try simp only [World.size_setCell, World.size_alloc, World.size_drew] at hcS hfS hlS); (go_simp); (try go_bits); (try (first | (rw [if_pos (by omega)]; done) | (rw [if_neg (by omega)]; done) | (rw [if_pos (by omega)]; go_simp) | (rw [if_neg (by omega)]; go_simp))); (first | with_reducible rfl | exact rfl | skip))); (simp only [Act.put, List.setIfInBounds_toArray, List.set_cons_zero, List.set_cons_succ]))
                ((apply rel_told (hR := rfl) (hg := rfl)); (focus ((intro w' hL' hD'); (obtain ⟨hcS, hfS, hlS⟩ := bcell hL'); (try simp only [World.size_setCell, World.size_alloc, World.size_drew] at hcS hfS hlS); (go_simp); (try go_bits); (try (first | (rw [if_pos (by omega)]; done) | (rw [if_neg (by omega)]; done) | (rw [if_pos (by omega)]; go_simp) | (rw [if_neg (by omega)]; go_simp))); ((go_at_call 25); (refine (impl_FlyTube_c r A14 c14 _ (hSr.mono hL')).mono ?_); (intro e w'' hM); (obtain ⟨A2x, c2x, rfl, hO2x, -, hBx⟩ := hM.go boxE); (refine ⟨_, rfl, hBx, ?_⟩); ((repeat (first | (refine Tell.hit rfl ?_) | (refine Tell.skip rfl ?_))); exact ⟨A2x, c2x, rfl, hO2x.rd_at' boxE⟩)))); (intro v' w0' hv'); (replace hv' := Tell.out hv' rfl); (obtain ⟨A4p, c4p, rfl, -⟩ := hv'); (simp only [Act.put, List.setIfInBounds_toArray, List.set_cons_zero, List.set_cons_succ]))
                iterate 3 ((apply rel_plain (hR := rfl) (hF := fun _ => trivial) (hg := rfl)); (focus ((intro w' hL'); (obtain ⟨hcS, hfS, hlS⟩ := bcell hL'); (try simp only [World.size_setCell, World.size_alloc, World.size_drew] at hcS hfS hlS); (go_simp); (try go_bits); (try (first | (rw [if_pos (by omega)]; done) | (rw [if_neg (by omega)]; done) | (rw [if_pos (by omega)]; go_simp) | (rw [if_neg (by omega)]; go_simp))); (first | with_reducible rfl | exact rfl | skip))); (simp only [Act.put, List.setIfInBounds_toArray, List.set_cons_zero, List.set_cons_succ]))
                ((apply rel_told (hR := rfl) (hg := rfl)); (focus ((intro w' hL' hD'); (obtain ⟨hcS, hfS, hlS⟩ := bcell hL'); (try simp only [World.size_setCell, World.size_alloc, World.size_drew] at hcS hfS hlS); (go_simp); (try go_bits); (try (first | (rw [if_pos (by omega)]; done) | (rw [if_neg (by omega)]; done) | (rw [if_pos (by omega)]; go_simp) | (rw [if_neg (by omega)]; go_simp))); ((obtain ⟨va, hva, A8a, c8a, e8a, hR8a⟩ := Known.out (hD' ⟨32, .data⟩ (by simp) rfl) rfl); (injection e8a with e8a e8ax e8ay; subst e8a e8ay); ((go_at_call 48); (refine (FlySmaller_n _ _ _ _ rfl hdt.out _ _ _ _ _ (hR8a.mono hva) (hDT15.mono hL')).mono ?_); (rintro e w'' ⟨rfl, hb''⟩); (refine ⟨_, rfl, ?_, ?_⟩); (focus (first | exact hb'' | (subst hb''; exact Le.refl _))); ((repeat (first | (refine Tell.hit rfl ?_) | (refine Tell.skip rfl ?_))); exact (by rw [decide_eq_true m2.out])))))); (intro v' w0' hv'); (replace hv' := Tell.out hv' rfl); (obtain rfl := hv'); (simp only [Act.put, List.setIfInBounds_toArray, List.set_cons_zero, List.set_cons_succ]))
                iterate 2 ((apply rel_plain (hR := rfl) (hF := fun _ => trivial) (hg := rfl)); (focus ((intro w' hL'); (obtain ⟨hcS, hfS, hlS⟩ := bcell hL'); (try simp only [World.size_setCell, World.size_alloc, World.size_drew] at hcS hfS hlS); (go_simp); (try go_bits); (try (first | (rw [if_pos (by omega)]; done) | (rw [if_neg (by omega)]; done) | (rw [if_pos (by omega)]; go_simp) | (rw [if_neg (by omega)]; go_simp))); (first | with_reducible rfl | exact rfl | skip))); (simp only [Act.put, List.setIfInBounds_toArray, List.set_cons_zero, List.set_cons_succ]))
                refine rel_nil ?_
                intro W16 hE hF9
                clear hF9
                go_wp2
                go_roundw
                case rel => exact ⟨t + 1, by omega, by omega, rfl, b_step hb15 hE⟩
                case measure => simp only [intOf]; omega
              · go_wp2
                go_roundw
                case rel => exact ⟨t + 1, by omega, by omega, rfl, hb9⟩
                case measure => simp only [intOf]; omega
        · go_wp2
          go_ret
          exact ⟨rfl, b_step hb7 hb⟩
      · go_wp2
        go_ret
        exact ⟨rfl, b_step hb7 hb⟩
end Go.Proofs.Ytpeojnknfonmlaa
