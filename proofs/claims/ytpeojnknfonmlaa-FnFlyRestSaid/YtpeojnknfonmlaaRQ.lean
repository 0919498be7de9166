/- What is drawn for the law of what is left. -/
import Derived.Test.YtpeojnknfonmlaaRN
set_option linter.unusedVariables false
set_option linter.unusedSimpArgs false
namespace Go.Proofs.Ytpeojnknfonmlaa
open Go.RowKit
set_option maxRecDepth 100000 in
set_option maxHeartbeats 4000000 in
theorem spec_DrawFlyRest_c (xs : List Int) (F : Option Addr) (m : Nat) (w : World) (h : Rd u8C 1 1 w F xs.length m xs) (hx : ∀ k, 0 ≤ LL.nthI xs k ∧ LL.nthI xs k ≤ 255) : Calls Try.prog 42 #[.slice F xs.length m] w fun e w' => ∃ (p : LL.Path) (A : Option Addr) (c : Nat) (k en t : Int), e = .returned (.tuple #[.agg #[.int .i64 p.q, .int .i64 p.s, .slice A p.steps.length c, .int .i64 p.fr, .int .i64 p.by_], .int .i64 k, .int .i64 en, .int .i64 t]) ∧ p.steps.length ≤ 60 ∧ RdS w' A p.steps.length c p.steps ∧ Below w.heap.size w w' := by
  replace hx := Lib.hid hx
  have n0 : w.heap.size ≠ w.heap.size + 1 := by omega
  go_enter Try.func42, Try.ntmps42
  go_wp2_with (first | (go_at_call 67; refine (spec_l1Open_c xs F m _ (h.mono (by repeat' (first | with_reducible exact Below.refl _ _ | with_reducible assumption | with_reducible refine b_alloc ?_ _ | with_reducible refine b_drewN ?_ _ | with_reducible refine b_drew ?_ | with_reducible refine b_set ?_ (by first | (simp only [World.size_setCell, World.size_alloc, World.size_drew]; omega) | (simp; done) | (simp; omega)) _ | with_reducible refine b_step ?_ (by with_reducible assumption)))) hx.out).mono ?_; rintro e w1 ⟨rfl, hb1, hr1, hz1⟩; (try simp only [World.size_alloc] at hr1 hz1)) | (go_at_call 84; (refine l10Seen_mono (N := 0) hr1 (by omega) ?_); intro p A c k en t w2 hp2 hO2 hfr2 ht0 ht1 hg2 hr2; have kR := ((Blk.new w #[.int .i64 0, .int .i64 0, .slice none 0 0, .int .i64 0, .int .i64 0] 43).b (by simpa using hb1)).g1 hg2 n0; obtain ⟨e0, f0, l0⟩ := kR.cells; have hnR := hO2.neB2 kR (by decide); have hB2 := b_gS (b_step (b_alloc (Below.refl w.heap.size w) _) hb1) hg2 (by omega) (fun k e => by omega); replace hnR := Lib.hid hnR))
  (refine bodyPost_ret (res_cttt rfl _ [.int .i64 p.q, .int .i64 p.s, .slice A p.steps.length c, .int .i64 p.fr, .int .i64 p.by_] rfl _ _ _ rfl rfl rfl _ Try.underlying43 rfl (by kernel_rfl) (by simp only [CellsAt, and_true]; and_intros <;> go_simp)) rfl ?_)
  have hnR6 := hnR.out
  refine ⟨p, A, c, k, en, t, rfl, hp2, ?_, (by repeat' (first | with_reducible exact Below.refl _ _ | with_reducible assumption | with_reducible refine b_alloc ?_ _ | with_reducible refine b_drewN ?_ _ | with_reducible refine b_drew ?_ | with_reducible refine b_set ?_ (by first | (simp only [World.size_setCell, World.size_alloc, World.size_drew]; omega) | (simp; done) | (simp; omega)) _ | with_reducible refine b_step ?_ (by with_reducible assumption)))⟩
  exact Own.rd_at' (e := 79) (by exact (by repeat' (first | with_reducible assumption | with_reducible refine Own.s ?_ _ (fun k hk => by have := hnR6 k hk; (try simp only); omega) | with_reducible refine Own.a ?_ _ | with_reducible refine Own.d ?_ | with_reducible refine Own.dN ?_ _ | with_reducible refine Own.b ?_ (by with_reducible assumption)))) stepE
end Go.Proofs.Ytpeojnknfonmlaa
