/- What is drawn: a path. -/
import Derived.Test.YtpeojnknfonmlaaRB
import Derived.Test.YtpeojnknfonmlaaJ4
import Derived.Test.YtpeojnknfonmlaaJ7
set_option linter.unusedVariables false
set_option linter.unusedSimpArgs false
namespace Go.Proofs.Ytpeojnknfonmlaa
open Go.RowKit
theorem gr_gb {w W w' : World} {S : Nat → Prop} {r : Option Nat} (h : GrownS w W S) (hg : W.grownBy w' r) (hr : ∀ k, r = some k → w.heap.size ≤ k) : GrownS w w' S :=
  ⟨hg.os.trans h.os, hg.tape.trans h.tape, hg.output.trans h.output, Nat.le_trans h.size hg.size, fun k hk hn => (hg.block k (Nat.lt_of_lt_of_le hk h.size) (fun e => by have := hr k e.symm; omega)).trans (h.block k hk hn)⟩
theorem ex_n {x : Int} {Q : Prop} (h1 : 1 ≤ x) (h2 : x ≤ 40) (hQ : Q) : ∃ n : Nat, 1 ≤ n ∧ n ≤ 40 ∧ Value.int .i64 x = .int .i64 n ∧ Q := ⟨x.toNat, by omega, by omega, by rw [Int.toNat_of_nonneg (by omega)], hQ⟩
/-- a path that is drawn stands in block bp; its steps lie in a row of its own -/
structure PSt (w : World) (g R bp : Nat) (q s : Int) (sv : Value) (xs : List LL.Step) (fr by_ : Int) (N : Nat) (W : World) : Prop where
  gr : GrownS w W (fun k => k = g)
  rd : Rdr 121 W g N
  kR : Blk W R #[.int .i64 0, .int .i64 0, .slice none 0 0, .int .i64 0, .int .i64 0] 43
  kP : Blk W bp #[.int .i64 q, .int .i64 s, sv, .int .i64 fr, .int .i64 by_] 43
  row : Own stepC 7 56 79 W sv xs
  fr : ∀ j, sv.ownBlock = some j → w.heap.size ≤ j
  lt : g < w.heap.size ∧ w.heap.size ≤ R ∧ R < bp
section
variable {w W W' : World} {g R bp N M : Nat} {q s fr by_ : Int} {sv : Value} {xs : List LL.Step}
theorem PSt.go (h : PSt w g R bp q s sv xs fr by_ N W) (hg : GrownS W W' (fun k => k = g)) (hr : Rdr 121 W' g M) : PSt w g R bp q s sv xs fr by_ M W' := by
  have := h.lt
  exact ⟨h.gr.trans hg, hr, h.kR.g1 hg (by omega), h.kP.g1 hg (by omega), h.row.g1 hg h.fr (by omega), h.fr, h.lt⟩
theorem PSt.up (h : PSt w g R bp q s sv xs fr by_ N W) (hM : N ≤ M) : PSt w g R bp q s sv xs fr by_ M W := { h with rd := h.rd.up hM }
theorem PSt.al (h : PSt w g R bp q s sv xs fr by_ N W) (o : Obj) : PSt w g R bp q s sv xs fr by_ N (W.alloc o) :=
  ⟨gr_alloc h.gr o, h.rd.a o, h.kR.a o, h.kP.a o, h.row.a o, h.fr, h.lt⟩
theorem PSt.dr (h : PSt w g R bp q s sv xs fr by_ N W) : PSt w g R bp q s sv xs fr by_ N W.drew :=
  ⟨gr_drew h.gr, h.rd.d, h.kR.d, h.kP.d, h.row.d, h.fr, h.lt⟩
/-- a store into another box -/
theorem PSt.st (h : PSt w g R bp q s sv xs fr by_ N W) {b : Nat} (hb : w.heap.size ≤ b ∧ b ≠ R ∧ b ≠ bp) (hs : ∀ j, sv.ownBlock = some j → j ≠ b) (i : Nat) (u : Value) : PSt w g R bp q s sv xs fr by_ N (W.setCell ⟨b, i, none⟩ u) := by
  have := h.lt
  exact ⟨gr_s1 h.gr hb.1 i u, h.rd.s1 (by omega) i u, h.kR.s (by simp only [ne_eq]; omega) u, h.kP.s (by simp only [ne_eq]; omega) u, h.row.s u hs, h.fr, h.lt⟩
/-- one step more -/
theorem PSt.app (h : PSt w g R bp q s sv xs fr by_ N W) {v : Value} {x : LL.Step} (hO : Own stepC 7 56 79 W' v (xs ++ [x])) (hg : W.grownBy W' sv.ownBlock) (ha : v.ownBlock = sv.ownBlock ∨ v.ownBlock = some W.heap.size) : PSt w g R bp q s v (xs ++ [x]) fr by_ N (W'.setCell ⟨bp, 2, none⟩ v) := by
  have h1 := h.lt
  have hk := h.row.neB2 h.kP (by decide)
  have hk2 := h.row.neB2 h.kR (by decide)
  have hlP := blk_lt h.kP.at_
  have hv : ∀ j, v.ownBlock = some j → w.heap.size ≤ j ∧ j ≠ bp := fun j hj => by
    rcases ha with e | e
    · rw [e] at hj; exact ⟨h.fr j hj, hk j hj⟩
    · rw [e] at hj; cases hj; exact ⟨h.gr.size, by omega⟩
  have gP : Blk W' bp #[.int .i64 q, .int .i64 s, sv, .int .i64 fr, .int .i64 by_] 43 := h.kP.grown hg (fun e => hk bp e rfl)
  exact ⟨gr_s1 (gr_gb h.gr hg h.fr) (by omega) 2 v, (h.rd.gS (GrownS.of hg) (fun k e => by have := h.fr k e; omega)).s1 (by omega) 2 v, (h.kR.grown hg (fun e => hk2 R e rfl)).s (by simp only [ne_eq]; omega) v, gP.put 2 v,
    hO.s v (fun j hj => (hv j hj).2), fun j hj => (hv j hj).1, h1⟩
end
set_option maxRecDepth 100000 in
set_option maxHeartbeats 4000000 in
theorem spec_l10Path_c (g N : Nat) (w : World) (hr : Rdr 121 w g N) (hN : N ≤ 100000) : Calls Try.prog 95 #[.pointer (some ⟨g, 0, none⟩)] w fun e w' => ∃ (p : LL.Path) (A : Option Addr) (c : Nat), e = .returned (.agg #[.int .i64 p.q, .int .i64 p.s, .slice A p.steps.length c, .int .i64 p.fr, .int .i64 p.by_]) ∧ 1 ≤ p.steps.length ∧ p.steps.length ≤ 40 ∧ Own stepC 7 56 79 w' (.slice A p.steps.length c) p.steps ∧ (∀ j, (Value.slice A p.steps.length c).ownBlock = some j → w.heap.size ≤ j) ∧ GrownS w w' (fun k => k = g) ∧ Rdr 121 w' g (N + 3000) := by
  have hlt := hr.lt
  have n0 : w.heap.size ≠ g := by omega
  go_enter Try.func95, Try.ntmps95
  go_upto_if 28 with (first | (go_at_call 69; (refine pick_mono (N := ?_) ?_ ?_ ?_); (rotate_left); (focus (exact (by repeat' (first | with_reducible assumption | with_reducible refine Rdr.a ?_ _ | with_reducible refine Rdr.d ?_ | with_reducible refine Rdr.s1 ?_ (by omega) _ _ | with_reducible refine Rdr.b ?_ (by with_reducible assumption))))); (focus omega); intro v1 w2 hv0 hv1 hg1 hr1; obtain ⟨hc, hf⟩ := gcell1 hg1; (try simp only [World.size_drew] at hc hf); have hz := hg1.size; (try simp only [World.size_setCell, World.size_alloc, World.size_drew] at hz); have yw2_0 : w.heap.size < w2.heap.size := (by omega); have yw2_1 : wk.heap.size < w2.heap.size := (by omega)) | (go_at_call 107; (refine l10Kind_mono (N := ?_) ?_ ?_ ?_); (rotate_left); (focus (exact (by repeat' (first | with_reducible assumption | with_reducible refine Rdr.a ?_ _ | with_reducible refine Rdr.d ?_ | with_reducible refine Rdr.s1 ?_ (by omega) _ _ | with_reducible refine Rdr.b ?_ (by with_reducible assumption))))); (focus omega); intro q s wk hg1 hr1; obtain ⟨hc, hf⟩ := gcell1 hg1; (try simp only [World.size_drew] at hc hf); have hz := hg1.size; (try simp only [World.size_setCell, World.size_alloc, World.size_drew] at hz); have ywk_0 : w.heap.size < wk.heap.size := (by omega)))
  have h0 : PSt w g w.heap.size wk.heap.size q s (.slice none 0 0) [] 0 0 (N + 4 + 1 + 1 + 1 + 1 + 1 + 1) w2 :=
    ⟨(by repeat' (first | with_reducible exact GrownS.refl _ _ | with_reducible assumption | with_reducible refine gr_alloc ?_ _ | with_reducible refine gr_drew ?_ | with_reducible refine gr_s1 ?_ (by omega) _ _ | with_reducible refine GrownS.trans ?_ (by with_reducible assumption) | with_reducible refine gr_b ?_ (by with_reducible assumption))), (by repeat' (first | with_reducible assumption | with_reducible refine Rdr.a ?_ _ | with_reducible refine Rdr.d ?_ | with_reducible refine Rdr.s1 ?_ (by omega) _ _ | with_reducible refine Rdr.b ?_ (by with_reducible assumption))), (by repeat' (first | with_reducible assumption | with_reducible exact Blk.new _ _ _ | with_reducible exact Blk.new' _ _ (by simp only [World.size_alloc, World.size_setCell, World.size_drew]) | with_reducible exact Blk.new' _ _ (by omega) | with_reducible refine Blk.a ?_ _ | with_reducible refine Blk.d ?_ | with_reducible refine Blk.dN ?_ _ | with_reducible refine Blk.s ?_ (by simp only [ne_eq]; omega) _ | with_reducible refine Blk.b ?_ (by with_reducible assumption) | with_reducible refine Blk.g1 ?_ (by with_reducible assumption) (by omega))), (by repeat' (first | with_reducible assumption | with_reducible exact Blk.new _ _ _ | with_reducible exact Blk.new' _ _ (by simp only [World.size_alloc, World.size_setCell, World.size_drew]) | with_reducible exact Blk.new' _ _ (by omega) | with_reducible refine Blk.a ?_ _ | with_reducible refine Blk.d ?_ | with_reducible refine Blk.dN ?_ _ | with_reducible refine Blk.s ?_ (by simp only [ne_eq]; omega) _ | with_reducible refine Blk.b ?_ (by with_reducible assumption) | with_reducible refine Blk.g1 ?_ (by with_reducible assumption) (by omega))), ⟨World.ownsRow_nil _ _ _ _, by simp⟩, fun j hj => by simp [Value.ownBlock] at hj, by omega⟩
  go_cut [8] (fun v8 wc => ∃ n : Nat, 1 ≤ n ∧ n ≤ 40 ∧ v8 = .int .i64 n ∧ PSt w g w.heap.size wk.heap.size q s (.slice none 0 0) [] 0 0 (N + 20) wc)
  case first =>
    go_wp2_with (go_at_call 69; (refine pick_mono (N := ?_) ?_ ?_ ?_); (rotate_left); (focus (exact (by repeat' (first | with_reducible assumption | with_reducible refine Rdr.a ?_ _ | with_reducible refine Rdr.d ?_ | with_reducible refine Rdr.s1 ?_ (by omega) _ _ | with_reducible refine Rdr.b ?_ (by with_reducible assumption))))); (focus omega); intro v1 w3 hv0 hv1 hg1 hr1; obtain ⟨hc, hf⟩ := gcell1 hg1; (try simp only [World.size_drew] at hc hf); have hz := hg1.size; (try simp only [World.size_setCell, World.size_alloc, World.size_drew] at hz); have yw3_0 : w.heap.size < w3.heap.size := (by omega); have yw3_1 : wk.heap.size < w3.heap.size := (by omega))
    · go_meet
      case rel => exact ex_n (by omega) (by omega) ((h0.go hg1 hr1).up (by omega))
    · go_meet
      case rel => exact ex_n (by omega) (by omega) (h0.up (by omega))
  obtain ⟨n, hn1, hn2, rfl, hP⟩ := hcut
  clear hc hf hz hg1 hr1 h0
  generalize wk.heap.size = bp at *
  go_wp2
  go_loopw [4, 5, 6, 7, 9, 10, 11] (fun t x y low kk a b w3 => ∃ (k : Nat) (t' x' y' l' : Int) (sv : Value) (xs : List LL.Step), k ≤ n ∧ kk = .int .i64 k ∧ t = .int .i64 t' ∧ x = .int .i64 x' ∧ y = .int .i64 y' ∧ low = .int .i64 l' ∧ xs.length = k ∧ PSt w g w.heap.size bp q s sv xs 0 0 (N + 20 + 60 * k) w3) (fun _ _ _ _ kk _ _ _ => n - (intOf kk).toNat)
  case atStart => exact ⟨0, _, _, _, _, _, [], by omega, rfl, rfl, rfl, rfl, rfl, rfl, hP⟩
  case round =>
    obtain ⟨k, t', x', y', l', sv, xs, hk, rfl, rfl, rfl, rfl, rfl, hxl, hP'⟩ := hrel
    clear hP
    by_cases hlt : k < n
    · have hR := hP'.rd
      have z1 := hP'.lt
      have z2 := blk_lt hP'.kR.at_
      have z3 := blk_lt hP'.kP.at_
      have nb : bp ≠ g := by omega
      go_upto_region 13 with (first | (go_at_call 69; (refine pick_mono (N := ?_) ?_ ?_ ?_); (rotate_left); (focus (exact (by repeat' (first | with_reducible assumption | with_reducible refine Rdr.a ?_ _ | with_reducible refine Rdr.d ?_ | with_reducible refine Rdr.s1 ?_ (by omega) _ _ | with_reducible refine Rdr.b ?_ (by with_reducible assumption))))); (focus omega); intro v1 w4 hv0 hv1 hg1 hr1; obtain ⟨hc, hf⟩ := gcell1 hg1; (try simp only [World.size_drew] at hc hf); have hz := hg1.size; (try simp only [World.size_setCell, World.size_alloc, World.size_drew] at hz); have yw4_0 : w.heap.size < w4.heap.size := (by omega); have yw4_1 : bp < w4.heap.size := (by omega)) | (go_at_call 108; refine (spec_l10Less_c _ _ _).mono ?_; rintro e w' ⟨⟨v2, rfl⟩, rfl⟩))
      have h4 : PSt w g w.heap.size bp q s sv xs 0 0 (N + 20 + 60 * k + 1 + 1 + 1 + 1) w4 := hP'.go (by repeat' (first | with_reducible exact GrownS.refl _ _ | with_reducible assumption | with_reducible refine gr_alloc ?_ _ | with_reducible refine gr_drew ?_ | with_reducible refine gr_s1 ?_ (by omega) _ _ | with_reducible refine GrownS.trans ?_ (by with_reducible assumption) | with_reducible refine gr_b ?_ (by with_reducible assumption))) (by repeat' (first | with_reducible assumption | with_reducible refine Rdr.a ?_ _ | with_reducible refine Rdr.d ?_ | with_reducible refine Rdr.s1 ?_ (by omega) _ _ | with_reducible refine Rdr.b ?_ (by with_reducible assumption)))
      have l4 := h4.row.lt1
      have z4 := h4.gr.size
      have n4 : w4.heap.size ≠ g := by omega
      have r4 : ∀ j, sv.ownBlock = some j → j ≠ w4.heap.size := fun j hj => by have := l4 j hj; omega
      replace r4 := Lib.hid r4
      clear l4
      go_upto_if 58 with (first | (go_at_call 69; (refine pick_mono (N := ?_) ?_ ?_ ?_); (rotate_left); (focus (exact (by repeat' (first | with_reducible assumption | with_reducible refine Rdr.a ?_ _ | with_reducible refine Rdr.d ?_ | with_reducible refine Rdr.s1 ?_ (by omega) _ _ | with_reducible refine Rdr.b ?_ (by with_reducible assumption))))); (focus omega); intro v1 w5 hv0 hv1 hg1 hr1; obtain ⟨hc, hf⟩ := gcell1 hg1; (try simp only [World.size_drew] at hc hf); have hz := hg1.size; (try simp only [World.size_setCell, World.size_alloc, World.size_drew] at hz); have yw5_0 : w.heap.size < w5.heap.size := (by omega); have yw5_1 : bp < w5.heap.size := (by omega); have yw5_2 : w4.heap.size < w5.heap.size := (by omega)) | (go_at_call 108; refine (spec_l10Less_c _ _ _).mono ?_; rintro e w' ⟨⟨v2, rfl⟩, rfl⟩))
      have h5 : PSt w g w.heap.size bp q s sv xs 0 0 (N + 20 + 60 * k + 1 + 1 + 1 + 1 + 1) w5 := (h4.al _).go hg1 hr1
      have k5 : ∃ a0 a1 a2 a3 a4 a5 hd, Blk w5 w4.heap.size #[.int .i64 a0, .int .i64 a1, .int .i64 a2, .int .i64 a3, .int .i64 a4, .int .i64 a5, .bool hd] 79 := ⟨_, _, _, _, _, _, _, (by repeat' (first | with_reducible assumption | with_reducible exact Blk.new _ _ _ | with_reducible exact Blk.new' _ _ (by simp only [World.size_alloc, World.size_setCell, World.size_drew]) | with_reducible exact Blk.new' _ _ (by omega) | with_reducible refine Blk.a ?_ _ | with_reducible refine Blk.d ?_ | with_reducible refine Blk.dN ?_ _ | with_reducible refine Blk.s ?_ (by simp only [ne_eq]; omega) _ | with_reducible refine Blk.b ?_ (by with_reducible assumption) | with_reducible refine Blk.g1 ?_ (by with_reducible assumption) (by omega)))⟩
      obtain ⟨a0, a1, a2, a3, a4, a5, hd, k5⟩ := k5
      go_cut [10] (fun v10 wc => v10 = .pointer (some ⟨w4.heap.size, 0, none⟩) ∧ (∃ a4 a5, Blk wc w4.heap.size #[.int .i64 a0, .int .i64 a1, .int .i64 a2, .int .i64 a3, .int .i64 a4, .int .i64 a5, .bool hd] 79) ∧ PSt w g w.heap.size bp q s sv xs 0 0 (N + 20 + 60 * k + 6) wc)
      case first =>
        clear hc hf hz hg1 hr1
        obtain ⟨e5, f5, l5⟩ := k5.cells
        have hR5 := h5.rd
        go_wp2_with (first | (go_at_call 69; (refine pick_mono (N := ?_) ?_ ?_ ?_); (rotate_left); (focus (exact (by repeat' (first | with_reducible assumption | with_reducible refine Rdr.a ?_ _ | with_reducible refine Rdr.d ?_ | with_reducible refine Rdr.s1 ?_ (by omega) _ _ | with_reducible refine Rdr.b ?_ (by with_reducible assumption))))); (focus omega); intro v1 w6 hv0 hv1 hg1 hr1; obtain ⟨hc, hf⟩ := gcell1 hg1; (try simp only [World.size_drew] at hc hf); have hz := hg1.size; (try simp only [World.size_setCell, World.size_alloc, World.size_drew] at hz); have yw6_0 : w.heap.size < w6.heap.size := (by omega); have yw6_1 : bp < w6.heap.size := (by omega); have yw6_2 : w4.heap.size < w6.heap.size := (by omega)) | (go_at_call 108; refine (spec_l10Less_c _ _ _).mono ?_; rintro e w' ⟨⟨v2, rfl⟩, rfl⟩))
        · have h6 := ((h5.st (by omega) r4.out 4 (.int .i64 0)).go hg1 hr1).st (b := w4.heap.size) (by omega) r4.out 5 (.int .i64 (wrap64 (t' + v1)))
          have k6 : Blk (w6.setCell ⟨w4.heap.size, 5, none⟩ (.int .i64 (wrap64 (t' + v1)))) w4.heap.size #[.int .i64 a0, .int .i64 a1, .int .i64 a2, .int .i64 a3, .int .i64 0, .int .i64 (wrap64 (t' + v1)), .bool hd] 79 := by simpa using ((k5.put 4 (.int .i64 0)).g1 hg1 n4).put 5 (.int .i64 (wrap64 (t' + v1)))
          go_meet
          case rel => exact ⟨rfl, ⟨_, _, k6⟩, h6⟩
        · go_meet
          case rel => exact ⟨rfl, ⟨_, _, k5⟩, h5.up (by omega)⟩
      obtain ⟨rfl, ⟨b4, b5, kS⟩, hP1⟩ := hcut
      clear hc hf hz hg1 hr1 h5 k5 h4 hP'
      have kP1 := hP1.kP
      obtain ⟨e5, f5, l5⟩ := kS.cells
      obtain ⟨e6, f6, l6⟩ := kP1.cells
      have nr : sv.ownBlock ≠ some w4.heap.size := fun e => r4.out _ e rfl
      have nq : sv.ownBlock ≠ some bp := fun e => hP1.row.neB2 kP1 (by decide) _ e rfl
      generalize w4.heap.size = bs at *
      go_upto_region 17 with ((at_builtin; go_loud (refine wp_app (bytes := 56) (e := 79) rfl _ _ _ rfl stepE (.agg (stepC LL.z0).toArray) Try.underlying41 (by kernel_rfl) rfl (by decide) (v := sv) rfl (hP1.row.a _) rfl (Rd.one (x := (⟨a0, a1, a2, a3, b4, b5, hd⟩ : LL.Step)) (Blk.new _ _ _) rfl (by decide)) (by omega) ?_); intro v7 w7 hO7 hg7 hat7); obtain ⟨A7, c7, e9, -⟩ := hO7.rd stepE; rw [show (xs ++ [(⟨a0, a1, a2, a3, b4, b5, hd⟩ : LL.Step)]).length = k + 1 by simp [hxl]] at e9; subst e9; have kP7 := (kP1.a (.cells #[.int .i64 a0, .int .i64 a1, .int .i64 a2, .int .i64 a3, .int .i64 b4, .int .i64 b5, .bool hd] 79)).grown hg7 nq; obtain ⟨e7, f7, l7⟩ := kP7.cells)
      have h8 := (hP1.al _).app hO7 hg7 hat7
      have k8 := ((kS.a (.cells #[.int .i64 a0, .int .i64 a1, .int .i64 a2, .int .i64 a3, .int .i64 b4, .int .i64 b5, .bool hd] 79)).grown hg7 nr).s (p := ⟨bp, 2, none⟩) (by simp only [ne_eq]; omega) (.slice A7 (k + 1) c7)
      refine wp_name (fun W => PSt w g w.heap.size bp q s (.slice A7 (k + 1) c7) (xs ++ [(⟨a0, a1, a2, a3, b4, b5, hd⟩ : LL.Step)]) 0 0 (N + 20 + 60 * k + 6) W ∧ Blk W bs #[.int .i64 a0, .int .i64 a1, .int .i64 a2, .int .i64 a3, .int .i64 b4, .int .i64 b5, .bool hd] 79) ⟨h8, k8⟩ ?_
      clear e5 f5 l5 e6 f6 l6 e7 f7 l7 h8 k8 kP7 hat7 hg7 hO7 kP1 kS hP1
      rintro w8 ⟨h8, k8⟩
      have hxl' : (xs ++ [(⟨a0, a1, a2, a3, b4, b5, hd⟩ : LL.Step)]).length = k + 1 := by simp [hxl]
      clear hxl nr nq r4
      generalize (xs ++ [(⟨a0, a1, a2, a3, b4, b5, hd⟩ : LL.Step)]) = ys at *
      go_cut [11] (fun v11 wc => (∃ z, v11 = .int .i64 z) ∧ PSt w g w.heap.size bp q s (.slice A7 (k + 1) c7) ys 0 0 (N + 20 + 60 * k + 7) wc ∧ Blk wc bs #[.int .i64 a0, .int .i64 a1, .int .i64 a2, .int .i64 a3, .int .i64 b4, .int .i64 b5, .bool hd] 79)
      case first =>
        obtain ⟨e5, f5, l5⟩ := k8.cells
        obtain ⟨e6, f6, l6⟩ := h8.kP.cells
        have hR8 := h8.rd
        have z8 := blk_lt h8.kR.at_
        go_region_with (go_at_call 69; (refine pick_mono (N := ?_) ?_ ?_ ?_); (rotate_left); (focus (exact (by repeat' (first | with_reducible assumption | with_reducible refine Rdr.a ?_ _ | with_reducible refine Rdr.d ?_ | with_reducible refine Rdr.s1 ?_ (by omega) _ _ | with_reducible refine Rdr.b ?_ (by with_reducible assumption))))); (focus omega); intro v1 w9 hv0 hv1 hg1 hr1; obtain ⟨hc, hf⟩ := gcell1 hg1; (try simp only [World.size_drew] at hc hf); have hz := hg1.size; (try simp only [World.size_setCell, World.size_alloc, World.size_drew] at hz); have yw9_0 : w.heap.size < w9.heap.size := (by omega); have yw9_1 : bp < w9.heap.size := (by omega); have yw9_2 : bs < w9.heap.size := (by omega))
        all_goals (try simp only [List.getElem_toArray, List.getElem_cons_succ, List.getElem_cons_zero, Act.put, List.setIfInBounds_toArray, List.set_cons_zero, List.set_cons_succ])
        all_goals go_wp2
        all_goals (go_meet; case rel => exact ⟨⟨_, rfl⟩, h8.dr.go hg1 hr1, k8.d.g1 hg1 n4⟩)
      obtain ⟨⟨z, rfl⟩, h9, k9⟩ := hcut
      clear h8 k8
      go_upto_region 18 with fail
      go_cut [91] (fun v91 wc => (∃ z, v91 = .bool z) ∧ PSt w g w.heap.size bp q s (.slice A7 (k + 1) c7) ys 0 0 (N + 20 + 60 * k + 8) wc ∧ Blk wc bs #[.int .i64 a0, .int .i64 a1, .int .i64 a2, .int .i64 a3, .int .i64 b4, .int .i64 b5, .bool hd] 79)
      case first =>
        obtain ⟨e5, f5, l5⟩ := k9.cells
        obtain ⟨e6, f6, l6⟩ := h9.kP.cells
        have hR8 := h9.rd
        have z8 := blk_lt h9.kR.at_
        cases hd
        · go_wp2
          all_goals (go_meet; case rel => exact ⟨⟨_, rfl⟩, h9.up (by omega), k9⟩)
        · go_wp2_with (go_at_call 69; (refine pick_mono (N := ?_) ?_ ?_ ?_); (rotate_left); (focus (exact (by repeat' (first | with_reducible assumption | with_reducible refine Rdr.a ?_ _ | with_reducible refine Rdr.d ?_ | with_reducible refine Rdr.s1 ?_ (by omega) _ _ | with_reducible refine Rdr.b ?_ (by with_reducible assumption))))); (focus omega); intro v1 w9 hv0 hv1 hg1 hr1; obtain ⟨hc, hf⟩ := gcell1 hg1; (try simp only [World.size_drew] at hc hf); have hz := hg1.size; (try simp only [World.size_setCell, World.size_alloc, World.size_drew] at hz); have yw9_0 : w.heap.size < w9.heap.size := (by omega); have yw9_1 : bp < w9.heap.size := (by omega); have yw9_2 : bs < w9.heap.size := (by omega))
          all_goals (go_meet; case rel => exact ⟨⟨_, rfl⟩, h9.go hg1 hr1, k9.g1 hg1 n4⟩)
      obtain ⟨⟨zb, rfl⟩, h10, k10⟩ := hcut
      clear h9 k9
      go_upto_if 91 with fail
      go_cut [11] (fun v11 wc => (∃ z, v11 = .int .i64 z) ∧ PSt w g w.heap.size bp q s (.slice A7 (k + 1) c7) ys 0 0 (N + 20 + 60 * k + 9) wc ∧ Blk wc bs #[.int .i64 a0, .int .i64 a1, .int .i64 a2, .int .i64 a3, .int .i64 b4, .int .i64 b5, .bool hd] 79)
      case first =>
        obtain ⟨e5, f5, l5⟩ := k10.cells
        obtain ⟨e6, f6, l6⟩ := h10.kP.cells
        have hR8 := h10.rd
        have z8 := blk_lt h10.kR.at_
        cases zb
        · go_wp2
          all_goals (go_meet; case rel => exact ⟨⟨_, rfl⟩, h10.up (by omega), k10⟩)
        · go_wp2
          go_region_with (go_at_call 69; (refine pick_mono (N := ?_) ?_ ?_ ?_); (rotate_left); (focus (exact (by repeat' (first | with_reducible assumption | with_reducible refine Rdr.a ?_ _ | with_reducible refine Rdr.d ?_ | with_reducible refine Rdr.s1 ?_ (by omega) _ _ | with_reducible refine Rdr.b ?_ (by with_reducible assumption))))); (focus omega); intro v1 w9 hv0 hv1 hg1 hr1; obtain ⟨hc, hf⟩ := gcell1 hg1; (try simp only [World.size_drew] at hc hf); have hz := hg1.size; (try simp only [World.size_setCell, World.size_alloc, World.size_drew] at hz); have yw9_0 : w.heap.size < w9.heap.size := (by omega); have yw9_1 : bp < w9.heap.size := (by omega); have yw9_2 : bs < w9.heap.size := (by omega))
          all_goals (try simp only [List.getElem_toArray, List.getElem_cons_succ, List.getElem_cons_zero, Act.put, List.setIfInBounds_toArray, List.set_cons_zero, List.set_cons_succ])
          all_goals go_wp2
          all_goals (go_meet; case rel => exact ⟨⟨_, rfl⟩, h10.dr.go hg1 hr1, k10.d.g1 hg1 n4⟩)
      obtain ⟨⟨z2, rfl⟩, h11, k11⟩ := hcut
      clear h10 k10
      have hR11 := h11.rd
      obtain ⟨e5, f5, l5⟩ := k11.cells
      go_upto_region 22 with (go_at_call 106; (refine l10Step_mono (N := ?_) ?_ ?_ ?_); (rotate_left); (focus (exact (by repeat' (first | with_reducible assumption | with_reducible refine Rdr.a ?_ _ | with_reducible refine Rdr.d ?_ | with_reducible refine Rdr.s1 ?_ (by omega) _ _ | with_reducible refine Rdr.b ?_ (by with_reducible assumption))))); (focus omega); intro x2 y2 w12 hg1 hr1; obtain ⟨hc, hf⟩ := gcell1 hg1; (try simp only [World.size_drew] at hc hf); have hz := hg1.size; (try simp only [World.size_setCell, World.size_alloc, World.size_drew] at hz); have yw12_0 : w.heap.size < w12.heap.size := (by omega); have yw12_1 : bp < w12.heap.size := (by omega); have yw12_2 : bs < w12.heap.size := (by omega))
      have h12 := h11.go hg1 hr1
      have k12 := k11.g1 hg1 n4
      clear hc hf hz hg1 hr1 e5 f5 l5 h11 k11 hR11
      go_cut [7] (fun v7 wc => (∃ z, v7 = .int .i64 z) ∧ PSt w g w.heap.size bp q s (.slice A7 (k + 1) c7) ys 0 0 (N + 20 + 60 * k + 50) wc)
      case first =>
        obtain ⟨e5, f5, l5⟩ := k12.cells
        obtain ⟨e6, f6, l6⟩ := h12.kP.cells
        have hR8 := h12.rd
        have z8 := blk_lt h12.kR.at_
        go_region_with (first | (go_at_call 69; (refine pick_mono (N := ?_) ?_ ?_ ?_); (rotate_left); (focus (exact (by repeat' (first | with_reducible assumption | with_reducible refine Rdr.a ?_ _ | with_reducible refine Rdr.d ?_ | with_reducible refine Rdr.s1 ?_ (by omega) _ _ | with_reducible refine Rdr.b ?_ (by with_reducible assumption))))); (focus omega); intro v1 w9 hv0 hv1 hg1 hr1; obtain ⟨hc, hf⟩ := gcell1 hg1; (try simp only [World.size_drew] at hc hf); have hz := hg1.size; (try simp only [World.size_setCell, World.size_alloc, World.size_drew] at hz); have yw9_0 : w.heap.size < w9.heap.size := (by omega); have yw9_1 : bp < w9.heap.size := (by omega); have yw9_2 : bs < w9.heap.size := (by omega)) | (go_at_call 108; refine (spec_l10Less_c _ _ _).mono ?_; rintro e w' ⟨⟨v2, rfl⟩, rfl⟩))
        all_goals (try simp only [List.getElem_toArray, List.getElem_cons_succ, List.getElem_cons_zero, Act.put, List.setIfInBounds_toArray, List.set_cons_zero, List.set_cons_succ])
        all_goals go_wp2
        all_goals (go_meet; case rel => exact ⟨⟨_, rfl⟩, h12.dr.go hg1 hr1⟩)
      obtain ⟨⟨z3, rfl⟩, h13⟩ := hcut
      clear h12 k12
      go_wp2
      all_goals go_roundw
      all_goals (try (case rel => exact ⟨k + 1, _, _, _, _, _, _, by omega, by go_num, rfl, rfl, rfl, rfl, hxl', h13.up (by omega)⟩))
      all_goals (try (case measure => simp [intOf]; omega))
    · obtain rfl : k = n := by omega
      obtain ⟨A0, c0, rfl, -⟩ := hP'.row.rd stepE
      generalize hsv : Value.slice A0 xs.length c0 = sv at hP'
      have hR := hP'.rd
      have z1 := hP'.lt
      have nb : bp ≠ g := by omega
      have nR := hP'.row.neB2 hP'.kR (by decide)
      have nP := hP'.row.neB2 hP'.kP (by decide)
      obtain ⟨e5, f5, l5⟩ := hP'.kR.cells
      obtain ⟨e6, f6, l6⟩ := hP'.kP.cells
      go_upto_region 26 with (first | (go_at_call 69; (refine pick_mono (N := ?_) ?_ ?_ ?_); (rotate_left); (focus (exact (by repeat' (first | with_reducible assumption | with_reducible refine Rdr.a ?_ _ | with_reducible refine Rdr.d ?_ | with_reducible refine Rdr.s1 ?_ (by omega) _ _ | with_reducible refine Rdr.b ?_ (by with_reducible assumption))))); (focus omega); intro v1 w5 hv0 hv1 hg1 hr1; obtain ⟨hc, hf⟩ := gcell1 hg1; (try simp only [World.size_drew] at hc hf); have hz := hg1.size; (try simp only [World.size_setCell, World.size_alloc, World.size_drew] at hz); have yw5_0 : w.heap.size < w5.heap.size := (by omega); have yw5_1 : bp < w5.heap.size := (by omega)) | (go_at_call 108; refine (spec_l10Less_c _ _ _).mono ?_; rintro e w' ⟨⟨v2, rfl⟩, rfl⟩))
      have h5 := hP'.go hg1 hr1
      go_upto_region 27 with (go_at_call 69; (refine pick_mono (N := ?_) ?_ ?_ ?_); (rotate_left); (focus (exact (by repeat' (first | with_reducible assumption | with_reducible refine Rdr.a ?_ _ | with_reducible refine Rdr.d ?_ | with_reducible refine Rdr.s1 ?_ (by omega) _ _ | with_reducible refine Rdr.b ?_ (by with_reducible assumption))))); (focus omega); intro v1 w6 hv0 hv1 hg1 hr1; obtain ⟨hc, hf⟩ := gcell1 hg1; (try simp only [World.size_drew] at hc hf); have hz := hg1.size; (try simp only [World.size_setCell, World.size_alloc, World.size_drew] at hz); have yw6_0 : w.heap.size < w6.heap.size := (by omega); have yw6_1 : bp < w6.heap.size := (by omega))
      have k6 : Blk (w6.setCell ⟨bp, 4, none⟩ (.int .i64 (wrap64 (t' + v1)))) bp #[.int .i64 q, .int .i64 s, sv, .int .i64 v2, .int .i64 (wrap64 (t' + v1))] 43 := by simpa using ((h5.kP.put 3 (.int .i64 v2)).g1 hg1 nb).put 4 (.int .i64 (wrap64 (t' + v1)))
      have kR6 := ((h5.kR.s (p := ⟨bp, 3, none⟩) (by simp only [ne_eq]; omega) (.int .i64 v2)).g1 hg1 n0).s (p := ⟨bp, 4, none⟩) (by simp only [ne_eq]; omega) (.int .i64 (wrap64 (t' + v1)))
      have hO6 := ((h5.row.s (p := ⟨bp, 3, none⟩) (.int .i64 v2) nP).g1 hg1 hP'.fr z1.1).s (p := ⟨bp, 4, none⟩) (.int .i64 (wrap64 (t' + v1))) nP
      have hG6 : GrownS w (w6.setCell ⟨bp, 4, none⟩ (.int .i64 (wrap64 (t' + v1)))) (fun k => k = g) := gr_s1 ((gr_s1 h5.gr (k := bp) (by omega) 3 (.int .i64 v2)).trans hg1) (by omega) _ _
      have hR6 : Rdr 121 (w6.setCell ⟨bp, 4, none⟩ (.int .i64 (wrap64 (t' + v1)))) g _ := hr1.s1 (by omega) _ _
      have hfr := hP'.fr
      clear hc hf hz hg1 hr1 h5 e5 f5 l5 e6 f6 l6 hR hP'
      generalize w6.setCell ⟨bp, 4, none⟩ (.int .i64 (wrap64 (t' + v1))) = w7 at *
      subst hsv
      obtain ⟨e5, f5, l5⟩ := kR6.cells
      obtain ⟨e6, f6, l6⟩ := k6.cells
      replace nR := Lib.hid nR
      replace nP := Lib.hid nP
      replace hfr := Lib.hid hfr
      go_wp2
      (refine bodyPost_ret (res_c rfl _ [.int .i64 q, .int .i64 s, .slice A0 xs.length c0, .int .i64 v2, .int .i64 (wrap64 (t' + v1))] rfl _ Try.underlying43 rfl (by kernel_rfl) (by simp only [CellsAt, and_true]; and_intros <;> go_simp)) rfl ?_)
      have nR' := nR.out
      refine ⟨⟨q, s, xs, v2, wrap64 (t' + v1)⟩, A0, c0, rfl, by simp only; omega, by simp only; omega, ?_, hfr.out, (by repeat' (first | with_reducible exact GrownS.refl _ _ | with_reducible assumption | with_reducible refine gr_alloc ?_ _ | with_reducible refine gr_drew ?_ | with_reducible refine gr_s1 ?_ (by omega) _ _ | with_reducible refine GrownS.trans ?_ (by with_reducible assumption) | with_reducible refine gr_b ?_ (by with_reducible assumption))), Rdr.up (N := N + 20 + 60 * k + 1 + 1) (by repeat' (first | with_reducible assumption | with_reducible refine Rdr.a ?_ _ | with_reducible refine Rdr.d ?_ | with_reducible refine Rdr.s1 ?_ (by omega) _ _ | with_reducible refine Rdr.b ?_ (by with_reducible assumption))) (by omega)⟩
      exact (by repeat' (first | with_reducible assumption | with_reducible refine Own.s ?_ _ (fun k hk => by have := nR' k hk; (try simp only); omega) | with_reducible refine Own.a ?_ _ | with_reducible refine Own.d ?_ | with_reducible refine Own.dN ?_ _ | with_reducible refine Own.b ?_ (by with_reducible assumption)))
theorem l10Path_mono {Q : Ending → World → Prop} {g N : Nat} {w : World} (hr : Rdr 121 w g N) (hN : N ≤ 100000) (hk : ∀ (p : LL.Path) (A : Option Addr) (c : Nat) (w' : World), 1 ≤ p.steps.length → p.steps.length ≤ 40 → Own stepC 7 56 79 w' (.slice A p.steps.length c) p.steps → (∀ j, (Value.slice A p.steps.length c).ownBlock = some j → w.heap.size ≤ j) → GrownS w w' (fun k => k = g) → Rdr 121 w' g (N + 3000) → Q (.returned (.agg #[.int .i64 p.q, .int .i64 p.s, .slice A p.steps.length c, .int .i64 p.fr, .int .i64 p.by_])) w') : Calls Try.prog 95 #[.pointer (some ⟨g, 0, none⟩)] w Q :=
  (spec_l10Path_c g N w hr hN).mono fun e w' ⟨p, A, c, he, h1, h2, h3, h4, h5, h6⟩ => by subst he; exact hk p A c w' h1 h2 h3 h4 h5 h6
end Go.Proofs.Ytpeojnknfonmlaa
