/- The law of FlyShift: there and back. -/
import Derived.Test.YtpeojnknfonmlaaRF
import Derived.Test.YtpeojnknfonmlaaRG
import Derived.Test.YtpeojnknfonmlaaPA
import Derived.Test.YtpeojnknfonmlaaJ6
import Derived.Test.YtpeojnknfonmlaaJ7
set_option linter.unusedVariables false
set_option linter.unusedSimpArgs false
namespace Go.Proofs.Ytpeojnknfonmlaa
open Go.RowKit
def LL.addI (l : List Int) (d : Int) : List Int := l.map (· + d)
theorem LL.addI_len (l : List Int) (d : Int) : (LL.addI l d).length = l.length := List.length_map _
theorem LL.addI_nth (l : List Int) (d : Int) (k : Nat) (h : k < l.length) : LL.nthI (LL.addI l d) k = LL.nthI l k + d := by
  unfold LL.nthI LL.addI
  simp [List.getD_eq_getElem?_getD, List.getElem?_eq_getElem h]
theorem LL.first_bound (p : LL.Path) (k : Nat) (h : k < (LL.firstM p).length) : 0 ≤ LL.nthI (LL.firstM p) k ∧ LL.nthI (LL.firstM p) k ≤ 10000 := by
  by_cases hF : LL.Flies p
  · have hl : (LL.firstM p).length = p.steps.length + 1 := by unfold LL.firstM; rw [LL.spansM_yes hF]; unfold LL.spans; rw [List.length_map, LL.tab_len]
    have e : LL.nthI (LL.firstM p) k = LL.lo p k := by
      unfold LL.firstM LL.nthI; rw [LL.spansM_yes hF]; unfold LL.spans
      simp [List.getD_eq_getElem?_getD, LL.tab, show k < p.steps.length + 1 by omega]
    have W := hF.1.win
    rw [e]
    have h0 := LL.lo_0 p W k (by omega)
    have h1 := LL.hi_1 p W k (by omega)
    have h2 := hF.2.2 k (by omega)
    omega
  · exfalso
    have : LL.firstM p = [] := by unfold LL.firstM; rw [LL.spansM_no hF]; rfl
    rw [this] at h; exact Nat.not_lt_zero _ h
theorem LL.first_sh {p : LL.Path} {d : Int} (h : LL.ShOk p d) : LL.firstM (LL.shP p d) = LL.addI (LL.firstM p) d := by
  unfold LL.firstM LL.addI
  by_cases hF : LL.Flies p
  · rw [LL.spansM_yes hF, LL.spansM_yes ((LL.shP_flies h).2 hF)]
    unfold LL.spans
    rw [LL.shP_len]
    apply List.ext_getElem?
    intro j
    by_cases hj : j < p.steps.length + 1
    · simp [LL.tab, hj, LL.shP_lo]
    · simp [LL.tab, hj]
  · rw [LL.spansM_no hF, LL.spansM_no (fun h' => hF ((LL.shP_flies h).1 h'))]; rfl
attribute [local go_sem] w_lt_add w_le_of w_le_add max2_i min2_i
set_option maxRecDepth 100000 in
set_option maxHeartbeats 8000000 in
theorem FnFlyShift_c (xs : List Int) (F : Option Addr) (m : Nat) (w : World) (h : Rd u8C 1 1 w F xs.length m xs) (hx : ∀ k, 0 ≤ LL.nthI xs k ∧ LL.nthI xs k ≤ 255) : Calls Try.prog 4 #[.slice F xs.length m] w fun e w' => e = .returned (.bool true) ∧ Below w.heap.size w w' := by
  replace hx := Lib.hid hx
  by_cases hbig : (1048576 : Int) < xs.length
  · go_enter Try.func4, Try.ntmps4
    go_wp2
    go_ret
    exact ⟨rfl, (by repeat' (first | with_reducible exact Below.refl _ _ | with_reducible assumption | with_reducible refine b_alloc ?_ _ | with_reducible refine b_drewN ?_ _ | with_reducible refine b_drew ?_ | with_reducible refine b_set ?_ (by first | (simp only [World.size_setCell, World.size_alloc, World.size_drew]; omega) | (simp; done) | (simp; omega)) _ | with_reducible refine b_step ?_ (by with_reducible assumption)))⟩
  go_enter Try.func4, Try.ntmps4
  go_upto_region 4 with (go_at_call 18; refine (spec_DrawFlyShift_c xs F m _ h hx.out).mono ?_; rintro e w1 ⟨p, A, c, d, rfl, hp, hS, hb1⟩)
  by_cases hSh : LL.ShOk p d
  · have hd := hSh.2.1
    unfold LL.In at hd
    obtain ⟨hd0, hd1⟩ := hd
    go_upto_region 10 with (first | (go_at_call 19; go_loud (refine (impl_FlyShift_c p A c d _ (by exact Rd.mono (by with_reducible assumption) (by repeat' (first | with_reducible exact Below.refl _ _ | with_reducible assumption | with_reducible refine b_alloc ?_ _ | with_reducible refine b_drewN ?_ _ | with_reducible refine b_drew ?_ | with_reducible refine b_set ?_ (by first | (simp only [World.size_setCell, World.size_alloc, World.size_drew]; omega) | (simp; done) | (simp; omega)) _ | with_reducible refine b_step ?_ (by with_reducible assumption))))).mono ?_); intro e w2 hM; go_loud (rw [LL.shiftM_yes hSh, decide_eq_true hSh] at hM); obtain ⟨A2, c2, rfl, hO2, hOg2, hB2⟩ := hM.gop2; have hS2 := hO2.rd_at' stepE; obtain ⟨hc2, hf2, hl2⟩ := bcell hB2; have hz2 := hB2.size; (try simp only [World.size_alloc] at hz2); have yw2_0 : w1.heap.size < w2.heap.size := (by omega)) | (go_at_call 20; go_loud (refine (spec_FlyShift_c p A c d _ (by exact Rd.mono (by with_reducible assumption) (by repeat' (first | with_reducible exact Below.refl _ _ | with_reducible assumption | with_reducible refine b_alloc ?_ _ | with_reducible refine b_drewN ?_ _ | with_reducible refine b_drew ?_ | with_reducible refine b_set ?_ (by first | (simp only [World.size_setCell, World.size_alloc, World.size_drew]; omega) | (simp; done) | (simp; omega)) _ | with_reducible refine b_step ?_ (by with_reducible assumption))))).mono ?_); intro e w3 hM; go_loud (rw [LL.shiftM_yes hSh, decide_eq_true hSh] at hM); obtain ⟨A3, c3, rfl, hO3, hOg3, hB3⟩ := hM.gop2; have hS3 := hO3.rd_at' stepE; obtain ⟨hc3, hf3, hl3⟩ := bcell hB3; have hz3 := hB3.size; (try simp only [World.size_alloc] at hz3); have yw3_0 : w1.heap.size < w3.heap.size := (by omega); have yw3_1 : w2.heap.size < w3.heap.size := (by omega)) | (go_at_call 21; refine (wfPath_c (LL.shP p d) _ _ _ _ _ (by exact Rd.mono (by with_reducible assumption) (by repeat' (first | with_reducible exact Below.refl _ _ | with_reducible assumption | with_reducible refine b_alloc ?_ _ | with_reducible refine b_drewN ?_ _ | with_reducible refine b_drew ?_ | with_reducible refine b_set ?_ (by first | (simp only [World.size_setCell, World.size_alloc, World.size_drew]; omega) | (simp; done) | (simp; omega)) _ | with_reducible refine b_step ?_ (by with_reducible assumption)))) (by exact Rd.mono (by with_reducible assumption) (by repeat' (first | with_reducible exact Below.refl _ _ | with_reducible assumption | with_reducible refine b_alloc ?_ _ | with_reducible refine b_drewN ?_ _ | with_reducible refine b_drew ?_ | with_reducible refine b_set ?_ (by first | (simp only [World.size_setCell, World.size_alloc, World.size_drew]; omega) | (simp; done) | (simp; omega)) _ | with_reducible refine b_step ?_ (by with_reducible assumption))))).mono ?_; rintro e w4 ⟨rfl, hB4⟩; obtain ⟨hc4, hf4, hl4⟩ := bcell hB4; have hz4 := hB4.size; (try simp only [World.size_alloc] at hz4); have yw4_0 : w1.heap.size < w4.heap.size := (by omega); have yw4_1 : w2.heap.size < w4.heap.size := (by omega); have yw4_2 : w3.heap.size < w4.heap.size := (by omega)))
    go_upto_region 11 with (go_at_call 19; go_loud (refine (impl_FlyShift_c (LL.shP p d) A2 c2 (-d) _ (by exact Rd.mono (by with_reducible assumption) (by repeat' (first | with_reducible exact Below.refl _ _ | with_reducible assumption | with_reducible refine b_alloc ?_ _ | with_reducible refine b_drewN ?_ _ | with_reducible refine b_drew ?_ | with_reducible refine b_set ?_ (by first | (simp only [World.size_setCell, World.size_alloc, World.size_drew]; omega) | (simp; done) | (simp; omega)) _ | with_reducible refine b_step ?_ (by with_reducible assumption))))).mono ?_); intro e w5 hM; go_loud (rw [LL.shift_back hSh, decide_eq_true hSh.back] at hM); obtain ⟨A5, c5, rfl, hO5, hOg5, hB5⟩ := hM.gop2; have hS5 := hO5.rd_at' stepE; obtain ⟨hc5, hf5, hl5⟩ := bcell hB5; have hz5 := hB5.size; (try simp only [World.size_alloc] at hz5); have yw5_0 : w1.heap.size < w5.heap.size := (by omega); have yw5_1 : w2.heap.size < w5.heap.size := (by omega); have yw5_2 : w3.heap.size < w5.heap.size := (by omega))
    have hfb := LL.first_bound p
    go_upto_region 12 with (go_at_call 22; refine (impl_FlyFirst_c p A c _ (by exact Rd.mono (by with_reducible assumption) (by repeat' (first | with_reducible exact Below.refl _ _ | with_reducible assumption | with_reducible refine b_alloc ?_ _ | with_reducible refine b_drewN ?_ _ | with_reducible refine b_drew ?_ | with_reducible refine b_set ?_ (by first | (simp only [World.size_setCell, World.size_alloc, World.size_drew]; omega) | (simp; done) | (simp; omega)) _ | with_reducible refine b_step ?_ (by with_reducible assumption))))).mono ?_; intro e w6 hM; skip; obtain ⟨A6, c6, rfl, hO6, hOg6, hB6⟩ := hM.go intE; have hS6 := hO6; obtain ⟨hc6, hf6, hl6⟩ := bcell hB6; have hz6 := hB6.size; (try simp only [World.size_alloc] at hz6); have yw6_0 : w1.heap.size < w6.heap.size := (by omega); have yw6_1 : w2.heap.size < w6.heap.size := (by omega); have yw6_2 : w3.heap.size < w6.heap.size := (by omega); have yw6_3 : w5.heap.size < w6.heap.size := (by omega))
    go_upto_region 13 with (go_at_call 22; refine (impl_FlyFirst_c (LL.shP p d) A2 c2 _ (by exact Rd.mono (by with_reducible assumption) (by repeat' (first | with_reducible exact Below.refl _ _ | with_reducible assumption | with_reducible refine b_alloc ?_ _ | with_reducible refine b_drewN ?_ _ | with_reducible refine b_drew ?_ | with_reducible refine b_set ?_ (by first | (simp only [World.size_setCell, World.size_alloc, World.size_drew]; omega) | (simp; done) | (simp; omega)) _ | with_reducible refine b_step ?_ (by with_reducible assumption))))).mono ?_; intro e w7 hM; rw [LL.first_sh hSh] at hM; obtain ⟨A7, c7, e9, hS7, hOg7, hB7⟩ := hM.go intE; rw [LL.addI_len] at e9 hS7; subst e9; obtain ⟨hc7, hf7, hl7⟩ := bcell hB7; have hz7 := hB7.size; (try simp only [World.size_alloc] at hz7); have yw7_0 : w1.heap.size < w7.heap.size := (by omega); have yw7_1 : w2.heap.size < w7.heap.size := (by omega); have yw7_2 : w3.heap.size < w7.heap.size := (by omega); have yw7_3 : w5.heap.size < w7.heap.size := (by omega))
    have hI6 : RdI w6 A6 (LL.firstM p).length c6 (LL.firstM p) := hO6.rd_at' intE
    have hI7 : RdI w7 A7 (LL.firstM p).length c7 (LL.addI (LL.firstM p) d) := hS7.rd_at' intE
    have hroom := hI6.room
    generalize hfs : LL.firstM p = fs at *
    clear hfs
    have hfb' := Lib.hid hfb
    clear hfb
    go_wp2_with (go_at_call 21; refine (wfPath_c p _ _ _ _ _ (by exact Rd.mono (by with_reducible assumption) (by repeat' (first | with_reducible exact Below.refl _ _ | with_reducible assumption | with_reducible refine b_alloc ?_ _ | with_reducible refine b_drewN ?_ _ | with_reducible refine b_drew ?_ | with_reducible refine b_set ?_ (by first | (simp only [World.size_setCell, World.size_alloc, World.size_drew]; omega) | (simp; done) | (simp; omega)) _ | with_reducible refine b_step ?_ (by with_reducible assumption)))) (by exact Rd.mono (by with_reducible assumption) (by repeat' (first | with_reducible exact Below.refl _ _ | with_reducible assumption | with_reducible refine b_alloc ?_ _ | with_reducible refine b_drewN ?_ _ | with_reducible refine b_drew ?_ | with_reducible refine b_set ?_ (by first | (simp only [World.size_setCell, World.size_alloc, World.size_drew]; omega) | (simp; done) | (simp; omega)) _ | with_reducible refine b_step ?_ (by with_reducible assumption))))).mono ?_; rintro e w8 ⟨rfl, hB8⟩; obtain ⟨hc8, hf8, hl8⟩ := bcell hB8; have hz8 := hB8.size; (try simp only [World.size_alloc] at hz8); have yw8_0 : w1.heap.size < w8.heap.size := (by omega); have yw8_1 : w2.heap.size < w8.heap.size := (by omega); have yw8_2 : w3.heap.size < w8.heap.size := (by omega); have yw8_3 : w5.heap.size < w8.heap.size := (by omega))
    have hI6' : RdI w8 A6 fs.length c6 fs := (by exact Rd.mono (by with_reducible assumption) (by repeat' (first | with_reducible exact Below.refl _ _ | with_reducible assumption | with_reducible refine b_alloc ?_ _ | with_reducible refine b_drewN ?_ _ | with_reducible refine b_drew ?_ | with_reducible refine b_set ?_ (by first | (simp only [World.size_setCell, World.size_alloc, World.size_drew]; omega) | (simp; done) | (simp; omega)) _ | with_reducible refine b_step ?_ (by with_reducible assumption))))
    have hI7' : RdI w8 A7 fs.length c7 (LL.addI fs d) := (by exact Rd.mono (by with_reducible assumption) (by repeat' (first | with_reducible exact Below.refl _ _ | with_reducible assumption | with_reducible refine b_alloc ?_ _ | with_reducible refine b_drewN ?_ _ | with_reducible refine b_drew ?_ | with_reducible refine b_set ?_ (by first | (simp only [World.size_setCell, World.size_alloc, World.size_drew]; omega) | (simp; done) | (simp; omega)) _ | with_reducible refine b_step ?_ (by with_reducible assumption))))
    have hb8 : Below w.heap.size w w8 := (by repeat' (first | with_reducible exact Below.refl _ _ | with_reducible assumption | with_reducible refine b_alloc ?_ _ | with_reducible refine b_drewN ?_ _ | with_reducible refine b_drew ?_ | with_reducible refine b_set ?_ (by first | (simp only [World.size_setCell, World.size_alloc, World.size_drew]; omega) | (simp; done) | (simp; omega)) _ | with_reducible refine b_step ?_ (by with_reducible assumption)))
    go_loopw [13] (fun i wr => ∃ k : Nat, k ≤ fs.length ∧ i = .int .i64 k ∧ Below w8.heap.size w8 wr) (fun i _ => fs.length - (intOf i).toNat)
    case atStart => exact ⟨0, by omega, rfl, (by repeat' (first | with_reducible exact Below.refl _ _ | with_reducible assumption | with_reducible refine b_alloc ?_ _ | with_reducible refine b_drewN ?_ _ | with_reducible refine b_drew ?_ | with_reducible refine b_set ?_ (by first | (simp only [World.size_setCell, World.size_alloc, World.size_drew]; omega) | (simp; done) | (simp; omega)) _ | with_reducible refine b_step ?_ (by with_reducible assumption)))⟩
    case round =>
      obtain ⟨k, hk, rfl, hb⟩ := hrel
      obtain ⟨hc, hf, hl⟩ := bcell hb
      by_cases hlt : k < fs.length
      · obtain ⟨b, off, rfl, hbw⟩ := hI6'.addr (by omega)
        obtain ⟨b', off', rfl, hbw'⟩ := hI7'.addr (by omega)
        have d6 := hI6'.S1 k hlt
        have d7 := hI7'.S1 k hlt
        rw [LL.addI_nth _ _ _ hlt] at d7
        obtain ⟨b0, b1⟩ := hfb'.out k hlt
        generalize LL.nthI fs k = x at *
        go_wp2
        ((refine calm_b (by kernel_rfl) (by kernel_rfl) ?_); (repeat (first | ((apply sure_cons (hg := rfl)); (focus ((intro w' hS'); (obtain ⟨hcS, hfS, hlS⟩ := bcell hS'); (try simp only [World.size_setCell, World.size_alloc, World.size_drew] at hS' hcS hfS hlS); (go_simp); (try go_bits); (try ((first | rw [if_pos (by omega)] | rw [if_neg (by omega)]); go_simp)); (first | (with_reducible rfl) | (with_reducible exact rfl) | (with_reducible exact ⟨rfl, hS'⟩) | fail))); (simp only [Act.put, List.setIfInBounds_toArray, List.set_cons_zero, List.set_cons_succ])) | ((apply sure_off (hg := rfl)); (simp only [Act.put, List.setIfInBounds_toArray, List.set_cons_zero, List.set_cons_succ])))); (refine sure_nil ?_))
        intro w' hS'
        go_wp2
        go_roundw
        case rel => exact ⟨k + 1, by omega, by go_num, b_step hb hS'⟩
        case measure => simp [intOf]; omega
      · go_wp2
        go_ret
        exact ⟨rfl, b_step hb8 hb⟩
  · go_wp2_with (first | (go_at_call 19; go_loud (refine (impl_FlyShift_c p A c d _ (by exact Rd.mono (by with_reducible assumption) (by repeat' (first | with_reducible exact Below.refl _ _ | with_reducible assumption | with_reducible refine b_alloc ?_ _ | with_reducible refine b_drewN ?_ _ | with_reducible refine b_drew ?_ | with_reducible refine b_set ?_ (by first | (simp only [World.size_setCell, World.size_alloc, World.size_drew]; omega) | (simp; done) | (simp; omega)) _ | with_reducible refine b_step ?_ (by with_reducible assumption))))).mono ?_); intro e w2 hM; go_loud (rw [LL.shiftM_no hSh, decide_eq_false hSh] at hM); obtain ⟨A2, c2, rfl, hO2, hOg2, hB2⟩ := hM.gop2; have hS2 := hO2.rd_at' stepE; obtain ⟨hc2, hf2, hl2⟩ := bcell hB2; have hz2 := hB2.size; (try simp only [World.size_alloc] at hz2); have yw2_0 : w1.heap.size < w2.heap.size := (by omega)) | (go_at_call 20; go_loud (refine (spec_FlyShift_c p A c d _ (by exact Rd.mono (by with_reducible assumption) (by repeat' (first | with_reducible exact Below.refl _ _ | with_reducible assumption | with_reducible refine b_alloc ?_ _ | with_reducible refine b_drewN ?_ _ | with_reducible refine b_drew ?_ | with_reducible refine b_set ?_ (by first | (simp only [World.size_setCell, World.size_alloc, World.size_drew]; omega) | (simp; done) | (simp; omega)) _ | with_reducible refine b_step ?_ (by with_reducible assumption))))).mono ?_); intro e w3 hM; go_loud (rw [LL.shiftM_no hSh, decide_eq_false hSh] at hM); obtain ⟨A3, c3, rfl, hO3, hOg3, hB3⟩ := hM.gop2; have hS3 := hO3.rd_at' stepE; obtain ⟨hc3, hf3, hl3⟩ := bcell hB3; have hz3 := hB3.size; (try simp only [World.size_alloc] at hz3); have yw3_0 : w1.heap.size < w3.heap.size := (by omega); have yw3_1 : w2.heap.size < w3.heap.size := (by omega)) | (go_at_call 21; refine (wfPath_c LL.p0 _ _ _ _ _ (by exact Rd.mono (by with_reducible assumption) (by repeat' (first | with_reducible exact Below.refl _ _ | with_reducible assumption | with_reducible refine b_alloc ?_ _ | with_reducible refine b_drewN ?_ _ | with_reducible refine b_drew ?_ | with_reducible refine b_set ?_ (by first | (simp only [World.size_setCell, World.size_alloc, World.size_drew]; omega) | (simp; done) | (simp; omega)) _ | with_reducible refine b_step ?_ (by with_reducible assumption)))) (by exact Rd.mono (by with_reducible assumption) (by repeat' (first | with_reducible exact Below.refl _ _ | with_reducible assumption | with_reducible refine b_alloc ?_ _ | with_reducible refine b_drewN ?_ _ | with_reducible refine b_drew ?_ | with_reducible refine b_set ?_ (by first | (simp only [World.size_setCell, World.size_alloc, World.size_drew]; omega) | (simp; done) | (simp; omega)) _ | with_reducible refine b_step ?_ (by with_reducible assumption))))).mono ?_; rintro e w4 ⟨rfl, hB4⟩; obtain ⟨hc4, hf4, hl4⟩ := bcell hB4; have hz4 := hB4.size; (try simp only [World.size_alloc] at hz4); have yw4_0 : w1.heap.size < w4.heap.size := (by omega); have yw4_1 : w2.heap.size < w4.heap.size := (by omega); have yw4_2 : w3.heap.size < w4.heap.size := (by omega)))
    go_ret
    exact ⟨rfl, (by repeat' (first | with_reducible exact Below.refl _ _ | with_reducible assumption | with_reducible refine b_alloc ?_ _ | with_reducible refine b_drewN ?_ _ | with_reducible refine b_drew ?_ | with_reducible refine b_set ?_ (by first | (simp only [World.size_setCell, World.size_alloc, World.size_drew]; omega) | (simp; done) | (simp; omega)) _ | with_reducible refine b_step ?_ (by with_reducible assumption)))⟩
end Go.Proofs.Ytpeojnknfonmlaa
