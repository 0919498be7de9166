/- What is drawn for the law of a flight in its tube; the laws' comparison of ticks; rows from a place on. -/
import Derived.Test.YtpeojnknfonmlaaRK
import Derived.Test.YtpeojnknfonmlaaRL
set_option linter.unusedVariables false
set_option linter.unusedSimpArgs false
namespace Go.Proofs.Ytpeojnknfonmlaa
open Go.RowKit
/-- a row from a place on -/
theorem Rd.dropd {α : Type} {enc : α → List Value} {sz bytes : Nat} {w : World} {b off n c : Nat} {xs : List α} (h : Rd enc sz bytes w (some ⟨b, off, none⟩) n c xs) (k : Nat) (hk : k < n) : Rd enc sz bytes w (some ⟨b, off + k * sz, none⟩) (n - k) (c - k) (xs.drop k) := by
  have hl := h.len
  have hcap := h.cap
  refine ⟨by rw [List.length_drop]; omega, by omega, Nat.le_trans (Nat.mul_le_mul_right _ (by omega)) h.room, fun hn => ?_⟩
  obtain ⟨b', off', e, hlt, hc⟩ := h.at_ (by omega)
  cases e
  refine ⟨b, off + k * sz, rfl, hlt, fun i x hi j u hu => ?_⟩
  rw [List.getElem?_drop] at hi
  have := hc (k + i) x hi j u hu
  rw [show off + k * sz + i * sz + j = off + (k + i) * sz + j by rw [Nat.add_mul]; omega]
  exact this
set_option maxRecDepth 100000 in
set_option maxHeartbeats 4000000 in
theorem wfInts_c (ts : List Int) (A A' : Option Addr) (c c' : Nat) (w : World) (h : RdI w A ts.length c ts) (h' : RdI w A' ts.length c' ts) : Calls Try.prog 51 #[.slice A ts.length c, .slice A' ts.length c'] w fun e w' => e = .returned (.bool true) ∧ Below w.heap.size w w' := by
  have hroom := h.room
  go_enter Try.func51, Try.ntmps51
  go_wp2
  go_loopw [5] (fun i wr => ∃ k : Nat, k ≤ ts.length ∧ i = .int .i64 k ∧ Below w.heap.size w wr) (fun i _ => ts.length - (intOf i).toNat)
  case atStart => exact ⟨0, by omega, rfl, (by repeat' (first | with_reducible exact Below.refl _ _ | with_reducible assumption | with_reducible refine b_alloc ?_ _ | with_reducible refine b_drewN ?_ _ | with_reducible refine b_drew ?_ | with_reducible refine b_set ?_ (by first | (simp only [World.size_setCell, World.size_alloc, World.size_drew]; omega) | (simp; done) | (simp; omega)) _ | with_reducible refine b_step ?_ (by with_reducible assumption)))⟩
  case round =>
    obtain ⟨k, hk, rfl, hb⟩ := hrel
    obtain ⟨hc, hf, hl⟩ := bcell hb
    by_cases hlt : k < ts.length
    · obtain ⟨b, off, rfl, hbw⟩ := h.addr (by omega)
      obtain ⟨b', off', rfl, hbw'⟩ := h'.addr (by omega)
      have d0 := h.S1 k hlt
      have g0 := h'.S1 k hlt
      go_wp2
      ((refine calm_b (by kernel_rfl) (by kernel_rfl) ?_); (repeat (first | ((apply sure_cons (hg := rfl)); (focus ((intro w' hS'); (obtain ⟨hcS, hfS, hlS⟩ := bcell hS'); (try simp only [World.size_setCell, World.size_alloc, World.size_drew] at hS' hcS hfS hlS); (go_simp); (try go_bits); (try ((first | rw [if_pos (by omega)] | rw [if_neg (by omega)]); go_simp)); (first | (with_reducible rfl) | (with_reducible exact rfl) | (with_reducible exact ⟨rfl, hS'⟩) | fail))); (simp only [Act.put, List.setIfInBounds_toArray, List.set_cons_zero, List.set_cons_succ])) | ((apply sure_off (hg := rfl)); (simp only [Act.put, List.setIfInBounds_toArray, List.set_cons_zero, List.set_cons_succ])))); (refine sure_nil ?_))
      intro w' hS'
      go_wp2
      go_roundw
      case rel => exact ⟨k + 1, by omega, by go_num, b_step hb hS'⟩
      case measure => simp [intOf]; omega
    · go_wp2
      go_ret
      exact ⟨rfl, (by repeat' (first | with_reducible exact Below.refl _ _ | with_reducible assumption | with_reducible refine b_alloc ?_ _ | with_reducible refine b_drewN ?_ _ | with_reducible refine b_drew ?_ | with_reducible refine b_set ?_ (by first | (simp only [World.size_setCell, World.size_alloc, World.size_drew]; omega) | (simp; done) | (simp; omega)) _ | with_reducible refine b_step ?_ (by with_reducible assumption)))⟩
set_option maxRecDepth 100000 in
set_option maxHeartbeats 4000000 in
theorem spec_DrawFlyFlight_c (xs : List Int) (F : Option Addr) (m : Nat) (w : World) (h : Rd u8C 1 1 w F xs.length m xs) (hx : ∀ k, 0 ≤ LL.nthI xs k ∧ LL.nthI xs k ≤ 255) : Calls Try.prog 49 #[.slice F xs.length m] w fun e w' => ∃ (p : LL.Path) (A : Option Addr) (c : Nat) (f : List Int) (B : Option Addr) (d : Nat), e = .returned (.tuple #[.agg #[.int .i64 p.q, .int .i64 p.s, .slice A p.steps.length c, .int .i64 p.fr, .int .i64 p.by_], .slice B f.length d]) ∧ p.steps.length ≤ 60 ∧ f.length ≤ 61 ∧ RdS w' A p.steps.length c p.steps ∧ RdI w' B f.length d f ∧ Below w.heap.size w w' := by
  replace hx := Lib.hid hx
  have n0 : w.heap.size ≠ w.heap.size + 1 := by omega
  go_enter Try.func49, Try.ntmps49
  go_upto_region 3 with (first | (go_at_call 67; refine (spec_l1Open_c xs F m _ (h.mono (by repeat' (first | with_reducible exact Below.refl _ _ | with_reducible assumption | with_reducible refine b_alloc ?_ _ | with_reducible refine b_drewN ?_ _ | with_reducible refine b_drew ?_ | with_reducible refine b_set ?_ (by first | (simp only [World.size_setCell, World.size_alloc, World.size_drew]; omega) | (simp; done) | (simp; omega)) _ | with_reducible refine b_step ?_ (by with_reducible assumption)))) hx.out).mono ?_; rintro e w1 ⟨rfl, hb1, hr1, hz1⟩; (try simp only [World.size_alloc] at hr1 hz1)) | (go_at_call 68; (refine l10Any_mono (N := ?_) ?_ ?_ ?_); (rotate_left); (focus (exact hr1)); (focus omega); intro p A c w2 hp2 hO2 hfr2 hg2 hr2; obtain ⟨hc, hf⟩ := gcell1 hg2; have hz2 := hg2.size))
  have kR2 : Blk (w2.alloc (.cells #[.int .i64 p.q, .int .i64 p.s, .slice A p.steps.length c, .int .i64 p.fr, .int .i64 p.by_] 43)) w.heap.size #[.int .i64 0, .int .i64 0, .slice none 0 0, .int .i64 0, .int .i64 0] 43 := (((Blk.new w #[.int .i64 0, .int .i64 0, .slice none 0 0, .int .i64 0, .int .i64 0] 43).b (by simpa using hb1)).g1 hg2 n0).a _
  have kP2 := Blk.new w2 #[.int .i64 p.q, .int .i64 p.s, .slice A p.steps.length c, .int .i64 p.fr, .int .i64 p.by_] 43
  have hO3 := hO2.a (.cells #[.int .i64 p.q, .int .i64 p.s, .slice A p.steps.length c, .int .i64 p.fr, .int .i64 p.by_] 43)
  have hR : Rdr 121 (w2.alloc (.cells #[.int .i64 p.q, .int .i64 p.s, .slice A p.steps.length c, .int .i64 p.fr, .int .i64 p.by_] 43)) (w.heap.size + 1) (0 + 3600) := hr2.a _
  have hB3 : Below w.heap.size w (w2.alloc (.cells #[.int .i64 p.q, .int .i64 p.s, .slice A p.steps.length c, .int .i64 p.fr, .int .i64 p.by_] 43)) := b_alloc (b_gS (b_step (b_alloc (Below.refl _ _) _) hb1) hg2 (by omega) (fun k e => by omega)) _
  have hfr3 : ∀ j, (Value.slice A p.steps.length c).ownBlock = some j → w.heap.size + 2 ≤ j := fun j hj => by have := hfr2 j hj; omega
  have hbp : w.heap.size + 1 < w2.heap.size := by omega
  have hz3 : w.heap.size + 2 ≤ (w2.alloc (.cells #[.int .i64 p.q, .int .i64 p.s, .slice A p.steps.length c, .int .i64 p.fr, .int .i64 p.by_] 43)).heap.size := by simp only [World.size_alloc]; omega
  clear hg2 hr2 hO2 hc hf hfr2 hb1 hr1
  generalize w2.alloc (.cells #[.int .i64 p.q, .int .i64 p.s, .slice A p.steps.length c, .int .i64 p.fr, .int .i64 p.by_] 43) = w3 at *
  generalize w2.heap.size = bp at *
  obtain ⟨e0, f0, l0⟩ := kR2.cells
  obtain ⟨e1, f1, l1⟩ := kP2.cells
  have hS3 := hO3.rd_at' stepE
  generalize hgg : w.heap.size + 1 = g at *
  have hga : g < w.heap.size + 2 := by omega
  have hgb : w.heap.size < g := by omega
  replace hgg := Lib.hid hgg
  have hnR := hO3.neB2 kR2 (by decide)
  replace hnR := Lib.hid hnR
  replace hfr3 := Lib.hid hfr3
  have hbg : bp ≠ g := by omega
  have hbR : bp ≠ w.heap.size := by omega
  have n0' : w.heap.size ≠ g := n0
  have lg := hR.lt
  go_cut [3] (fun v3 wc => ∃ (f : List Int) (B : Option Addr) (d : Nat), v3 = .slice B f.length d ∧ f.length ≤ 61 ∧ Blk wc w.heap.size #[.int .i64 p.q, .int .i64 p.s, .slice A p.steps.length c, .int .i64 p.fr, .int .i64 p.by_] 43 ∧ Own stepC 7 56 79 wc (.slice A p.steps.length c) p.steps ∧ Own intC 1 8 3 wc (.slice B f.length d) f ∧ Below w.heap.size w wc)
  case first =>
    go_region_with (go_at_call 78; (refine l10Asked_mono (N := 0 + 3600) (p := p) hp2 (hS3.mono (by repeat' (first | with_reducible exact Below.refl _ _ | with_reducible assumption | with_reducible refine b_alloc ?_ _ | with_reducible refine b_drewN ?_ _ | with_reducible refine b_drew ?_ | with_reducible refine b_set ?_ (by first | (simp only [World.size_setCell, World.size_alloc, World.size_drew]; omega) | (simp; done) | (simp; omega)) _ | with_reducible refine b_step ?_ (by with_reducible assumption)))) (by repeat' (first | with_reducible assumption | with_reducible refine Rdr.a ?_ _ | with_reducible refine Rdr.d ?_ | with_reducible refine Rdr.s1 ?_ (by omega) _ _ | with_reducible refine Rdr.b ?_ (by with_reducible assumption))) (by omega) ?_); intro ys B4 d4 w4 hy4 hO4 hf4 hg4 hr4; (try simp only [World.size_drew, World.size_alloc] at hf4); obtain ⟨hc, hf⟩ := gcell1 hg4; have kP4 : Blk w4 bp #[.int .i64 p.q, .int .i64 p.s, .slice A p.steps.length c, .int .i64 p.fr, .int .i64 p.by_] 43 := (by repeat' (first | with_reducible assumption | with_reducible refine Blk.a ?_ _ | with_reducible refine Blk.d ?_ | with_reducible refine put5z ?_ | with_reducible refine Blk.g1 ?_ (by with_reducible assumption) (by omega))); have kR4 : Blk w4 w.heap.size #[.int .i64 0, .int .i64 0, .slice none 0 0, .int .i64 0, .int .i64 0] 43 := (by repeat' (first | with_reducible assumption | with_reducible refine Blk.a ?_ _ | with_reducible refine Blk.d ?_ | with_reducible refine put5z ?_ | with_reducible refine Blk.g1 ?_ (by with_reducible assumption) (by omega))); obtain ⟨e4, f4, l4⟩ := kP4.cells; obtain ⟨e5, f5, l5⟩ := kR4.cells; clear hc hf; have hz4 := hg4.size; (try simp only [World.size_drew, World.size_alloc] at hz4); have hP4 : Own stepC 7 56 79 w4 (.slice A p.steps.length c) p.steps := (by repeat' (first | with_reducible assumption | with_reducible refine Own.s ?_ _ hnR.out | with_reducible refine Own.a ?_ _ | with_reducible refine Own.d ?_ | with_reducible refine Own.g1 (B := w.heap.size + 2) ?_ (by with_reducible assumption) hfr3.out (by omega))); have hnF := Lib.hid (hO4.neB2 kR4 (by decide)))
    all_goals (try simp only [List.getElem_toArray, List.getElem_cons_succ, List.getElem_cons_zero, Act.put, List.setIfInBounds_toArray, List.set_cons_zero, List.set_cons_succ])
    all_goals go_wp2
    all_goals (have hnR6 := hnR.out; have hfr6 := hfr3.out; have hnF6 := hnF.out; have hb4 : Below w.heap.size w w4 := (by exact (by repeat' (first | with_reducible assumption | with_reducible refine b_alloc ?_ _ | with_reducible refine b_drew ?_ | with_reducible refine b_set ?_ (by omega) _ | with_reducible refine b_set ?_ (by simp only; omega) _ | with_reducible refine b_gS ?_ (by with_reducible assumption) (by (try simp only [World.size_setCell, World.size_alloc, World.size_drew]); omega) (fun k e => by omega)))); go_meet; case rel => exact ⟨ys, B4, d4, rfl, hy4, put5z (by repeat' (first | with_reducible assumption | with_reducible refine Blk.a ?_ _ | with_reducible refine Blk.d ?_ | with_reducible refine put5z ?_ | with_reducible refine Blk.g1 ?_ (by with_reducible assumption) (by omega))), (by repeat' (first | with_reducible assumption | with_reducible refine Own.s ?_ _ (fun k hk => by have := hnR6 k hk; (try simp only); omega) | with_reducible refine Own.a ?_ _ | with_reducible refine Own.d ?_ | with_reducible refine Own.dN ?_ _ | with_reducible refine Own.b ?_ (by with_reducible assumption))), (by repeat' (first | with_reducible assumption | with_reducible refine Own.s ?_ _ (fun k hk => by have := hnF6 k hk; (try simp only); omega) | with_reducible refine Own.a ?_ _ | with_reducible refine Own.d ?_ | with_reducible refine Own.dN ?_ _ | with_reducible refine Own.b ?_ (by with_reducible assumption))), (by repeat' (first | with_reducible assumption | with_reducible refine b_alloc ?_ _ | with_reducible refine b_drew ?_ | with_reducible refine b_set ?_ (by omega) _ | with_reducible refine b_set ?_ (by simp only; omega) _ | with_reducible refine b_gS ?_ (by with_reducible assumption) (by (try simp only [World.size_setCell, World.size_alloc, World.size_drew]); omega) (fun k e => by omega)))⟩)
  obtain ⟨f, B, d, rfl, hfl, kR5, hO5, hF5, hB5⟩ := hcut
  clear e0 f0 l0 e1 f1 l1
  obtain ⟨e0, f0, l0⟩ := kR5.cells
  go_wp2
  (refine bodyPost_ret (res_ct rfl _ [.int .i64 p.q, .int .i64 p.s, .slice A p.steps.length c, .int .i64 p.fr, .int .i64 p.by_] rfl _ rfl _ Try.underlying43 rfl (by kernel_rfl) (by simp only [CellsAt, and_true]; and_intros <;> go_simp)) rfl ?_)
  exact ⟨p, A, c, f, B, d, rfl, hp2, hfl, hO5.rd_at' stepE, hF5.rd_at' intE, hB5⟩
end Go.Proofs.Ytpeojnknfonmlaa
