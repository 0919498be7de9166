/- The exact laws that hand back memory, walked. -/
import Derived.Test.YtbcibaaolkbfbaaD2
set_option linter.unusedVariables false
set_option linter.unusedSimpArgs false
namespace Go.Proofs.Ytbcibaaolkbfbaa
open Go.RowKit
attribute [local go_sem] w_lt_add w_le_of w_le_add max2_i min2_i
set_option maxRecDepth 100000 in
set_option maxHeartbeats 4000000 in
theorem FnExactFlyTurnBy_c (p : LL.Path) (A : Option Addr) (c : Nat) (q : LL.Path) (B : Option Addr) (d : Nat) (i : Int) (w : World) (h : RdS w A p.steps.length c p.steps) (h' : RdS w B q.steps.length d q.steps) : Calls Try.prog 14 #[.agg #[.int .i64 p.q, .int .i64 p.s, .slice A p.steps.length c, .int .i64 p.fr, .int .i64 p.by_], .agg #[.int .i64 q.q, .int .i64 q.s, .slice B q.steps.length d, .int .i64 q.fr, .int .i64 q.by_], .int .i64 i] w fun e w' => e = .returned (.bool true) ∧ Below w.heap.size w w' := by
  have hrp := h.room
  have hnp : p.steps.length ≤ 140737488355328 := by omega
  have hrq := h'.room
  have hnq : q.steps.length ≤ 140737488355328 := by omega
  go_enter Try.func14, Try.ntmps14
  go_wp2_with fail
  refine calls_name (fun W => Below w.heap.size w W ∧ Blk W w.heap.size #[.int .i64 p.q, .int .i64 p.s, .slice A p.steps.length c, .int .i64 p.fr, .int .i64 p.by_] 26 ∧ Blk W (w.heap.size + 1) #[.int .i64 q.q, .int .i64 q.s, .slice B q.steps.length d, .int .i64 q.fr, .int .i64 q.by_] 26) ⟨(by repeat' (first | with_reducible exact Below.refl _ _ | with_reducible assumption | with_reducible refine b_alloc ?_ _ | with_reducible refine b_drewN ?_ _ | with_reducible refine b_drew ?_ | with_reducible refine b_set ?_ (by first | (simp only [World.size_setCell, World.size_alloc, World.size_drew]; omega) | (simp; done) | (simp; omega)) _ | with_reducible refine b_step ?_ (by with_reducible assumption))), (by repeat' (first | with_reducible assumption | with_reducible exact Blk.new _ _ _ | with_reducible exact Blk.new' _ _ (by first | (simp only [World.size_alloc, World.size_setCell, World.size_drew]; done) | (simp only [World.size_alloc, World.size_setCell, World.size_drew]; omega) | omega) | with_reducible refine Blk.a ?_ _ | with_reducible refine Blk.d ?_ | with_reducible refine Blk.dN ?_ _ | with_reducible refine Blk.s ?_ (by simp only [ne_eq]; omega) _ | with_reducible refine Blk.b ?_ (by with_reducible assumption))), (by repeat' (first | with_reducible assumption | with_reducible exact Blk.new _ _ _ | with_reducible exact Blk.new' _ _ (by first | (simp only [World.size_alloc, World.size_setCell, World.size_drew]; done) | (simp only [World.size_alloc, World.size_setCell, World.size_drew]; omega) | omega) | with_reducible refine Blk.a ?_ _ | with_reducible refine Blk.d ?_ | with_reducible refine Blk.dN ?_ _ | with_reducible refine Blk.s ?_ (by simp only [ne_eq]; omega) _ | with_reducible refine Blk.b ?_ (by with_reducible assumption)))⟩ ?_
  rintro W1 ⟨hE, kP, kQ⟩
  have hb : Below w.heap.size w W1 := hE
  have zW1 := (hE).size
  clear hE
  have kPl := kP.cells.2.2
  have kQl := kQ.cells.2.2
  refine (szFlyPath_c _ _ _ _ _ _ _ _ _ (by decide) (by decide) hnp).mono ?_
  rintro e W2 ⟨rfl, hB⟩
  replace hb := b_step hb hB
  replace kP := kP.b hB
  replace kQ := kQ.b hB
  have zW2 := (hB).size
  clear hB
  by_cases hsp : (LL.sz 1048576 p.steps.length) < 0
  · go_wp2_with fail
    go_ret
    exact ⟨rfl, (by repeat' (first | with_reducible exact Below.refl _ _ | with_reducible assumption | with_reducible refine b_alloc ?_ _ | with_reducible refine b_drewN ?_ _ | with_reducible refine b_drew ?_ | with_reducible refine b_set ?_ (by first | (simp only [World.size_setCell, World.size_alloc, World.size_drew]; omega) | (simp; done) | (simp; omega)) _ | with_reducible refine b_step ?_ (by with_reducible assumption)))⟩
  have hs1p : decide ((LL.sz 1048576 p.steps.length) < 0) = false := by simpa using hsp
  have hs2p : (LL.sz 1048576 p.steps.length) ≤ 1048576 := Int.le_trans (LL.sz_le (by omega) _) (by omega)
  obtain ⟨ekP, fkP, lkP⟩ := kP.cells
  obtain ⟨ekQ, fkQ, lkQ⟩ := kQ.cells
  go_wp2_with fail
  refine calls_name (fun W => Below W2.heap.size W2 W) (by repeat' (first | with_reducible exact Below.refl _ _ | with_reducible assumption | with_reducible refine b_alloc ?_ _ | with_reducible refine b_drewN ?_ _ | with_reducible refine b_drew ?_ | with_reducible refine b_set ?_ (by first | (simp only [World.size_setCell, World.size_alloc, World.size_drew]; omega) | (simp; done) | (simp; omega)) _ | with_reducible refine b_step ?_ (by with_reducible assumption))) ?_
  intro W3 hE
  clear ekP fkP lkP ekQ fkQ lkQ
  replace hb := b_step hb hE
  replace kP := kP.b hE
  replace kQ := kQ.b hE
  have zW3 := (hE).size
  clear hE
  refine (szFlyPath_c _ _ _ _ _ _ _ _ _ (by omega) (by omega) hnq).mono ?_
  rintro e W4 ⟨rfl, hB⟩
  replace hb := b_step hb hB
  replace kP := kP.b hB
  replace kQ := kQ.b hB
  have zW4 := (hB).size
  clear hB
  by_cases hsq : (LL.sz (LL.sz 1048576 p.steps.length) q.steps.length) < 0
  · go_wp2_with fail
    go_ret
    exact ⟨rfl, (by repeat' (first | with_reducible exact Below.refl _ _ | with_reducible assumption | with_reducible refine b_alloc ?_ _ | with_reducible refine b_drewN ?_ _ | with_reducible refine b_drew ?_ | with_reducible refine b_set ?_ (by first | (simp only [World.size_setCell, World.size_alloc, World.size_drew]; omega) | (simp; done) | (simp; omega)) _ | with_reducible refine b_step ?_ (by with_reducible assumption)))⟩
  have hs1q : decide ((LL.sz (LL.sz 1048576 p.steps.length) q.steps.length) < 0) = false := by simpa using hsq
  have hs2q : (LL.sz (LL.sz 1048576 p.steps.length) q.steps.length) ≤ 1048576 := Int.le_trans (LL.sz_le (by omega) _) (by omega)
  obtain ⟨ekP, fkP, lkP⟩ := kP.cells
  obtain ⟨ekQ, fkQ, lkQ⟩ := kQ.cells
  go_wp2_with fail
  refine wp_name (fun W => Below W4.heap.size W4 W) (by repeat' (first | with_reducible exact Below.refl _ _ | with_reducible assumption | with_reducible refine b_alloc ?_ _ | with_reducible refine b_drewN ?_ _ | with_reducible refine b_drew ?_ | with_reducible refine b_set ?_ (by first | (simp only [World.size_setCell, World.size_alloc, World.size_drew]; omega) | (simp; done) | (simp; omega)) _ | with_reducible refine b_step ?_ (by with_reducible assumption))) ?_
  intro W5 hE
  clear ekP fkP lkP ekQ fkQ lkQ
  replace hb := b_step hb hE
  replace kP := kP.b hE
  replace kQ := kQ.b hE
  have zW5 := (hE).size
  clear hE
  obtain ⟨ekP, fkP, lkP⟩ := kP.cells
  obtain ⟨ekQ, fkQ, lkQ⟩ := kQ.cells
  refine rel_b [(1, fun v W => ∃ A9 c9, v = .agg #[.int .i64 p.q, .int .i64 p.s, .slice A9 p.steps.length c9, .int .i64 p.fr, .int .i64 p.by_] ∧ Own stepC 7 56 79 W (.slice A9 p.steps.length c9) p.steps), (3, fun v W => ∃ A9 c9, v = .agg #[.int .i64 q.q, .int .i64 q.s, .slice A9 q.steps.length c9, .int .i64 q.fr, .int .i64 q.by_] ∧ Own stepC 7 56 79 W (.slice A9 q.steps.length c9) q.steps), (5, fun v _ => v = .int .i64 (LL.turnBy p q i))] (by kernel_rfl) (by kernel_rfl) ?_
  ((apply rel_plain (hR := rfl) (hF := fun _ => trivial) (hg := rfl)); (focus ((intro w' hL'); (obtain ⟨hcS, hfS, hlS⟩ := bcell hL'); (try simp only [World.size_setCell, World.size_alloc, World.size_drew] at hcS hfS hlS); (go_simp); (try go_bits); (try (first | (rw [if_pos (by omega)]; done) | (rw [if_neg (by omega)]; done) | (rw [if_pos (by omega)]; go_simp) | (rw [if_neg (by omega)]; go_simp))); (first | with_reducible rfl | exact rfl | skip))); (simp only [Act.put, List.setIfInBounds_toArray, List.set_cons_zero, List.set_cons_succ]))
  ((apply rel_told (hR := rfl) (hg := rfl)); (focus ((intro w' hL' hD'); (obtain ⟨hcS, hfS, hlS⟩ := bcell hL'); (try simp only [World.size_setCell, World.size_alloc, World.size_drew] at hcS hfS hlS); (go_simp); (try go_bits); (try (first | (rw [if_pos (by omega)]; done) | (rw [if_neg (by omega)]; done) | (rw [if_pos (by omega)]; go_simp) | (rw [if_neg (by omega)]; go_simp))); ((go_at_call 17); (refine (toFlyPath_c p A c _ (h.mono (b_step hb hL'))).mono ?_); (intro e w'' hM); (obtain ⟨A2, c2, rfl, hO2, -, hB⟩ := hM.gop); (refine ⟨_, rfl, hB, ?_⟩); ((repeat (first | (refine Tell.hit rfl ?_) | (refine Tell.skip rfl ?_))); exact ⟨A2, c2, rfl, hO2⟩)))); (intro v' w0' hv'); (replace hv' := Tell.out hv' rfl); (obtain ⟨A2, c2, rfl, -⟩ := hv'); (simp only [Act.put, List.setIfInBounds_toArray, List.set_cons_zero, List.set_cons_succ]))
  ((apply rel_plain (hR := rfl) (hF := fun _ => trivial) (hg := rfl)); (focus ((intro w' hL'); (obtain ⟨hcS, hfS, hlS⟩ := bcell hL'); (try simp only [World.size_setCell, World.size_alloc, World.size_drew] at hcS hfS hlS); (go_simp); (try go_bits); (try (first | (rw [if_pos (by omega)]; done) | (rw [if_neg (by omega)]; done) | (rw [if_pos (by omega)]; go_simp) | (rw [if_neg (by omega)]; go_simp))); (first | with_reducible rfl | exact rfl | skip))); (simp only [Act.put, List.setIfInBounds_toArray, List.set_cons_zero, List.set_cons_succ]))
  ((apply rel_told (hR := rfl) (hg := rfl)); (focus ((intro w' hL' hD'); (obtain ⟨hcS, hfS, hlS⟩ := bcell hL'); (try simp only [World.size_setCell, World.size_alloc, World.size_drew] at hcS hfS hlS); (go_simp); (try go_bits); (try (first | (rw [if_pos (by omega)]; done) | (rw [if_neg (by omega)]; done) | (rw [if_pos (by omega)]; go_simp) | (rw [if_neg (by omega)]; go_simp))); ((go_at_call 17); (refine (toFlyPath_c q B d _ (h'.mono (b_step hb hL'))).mono ?_); (intro e w'' hM); (obtain ⟨A3, c3, rfl, hO2, -, hB⟩ := hM.gop); (refine ⟨_, rfl, hB, ?_⟩); ((repeat (first | (refine Tell.hit rfl ?_) | (refine Tell.skip rfl ?_))); exact ⟨A3, c3, rfl, hO2⟩)))); (intro v' w0' hv'); (replace hv' := Tell.out hv' rfl); (obtain ⟨A3, c3, rfl, -⟩ := hv'); (simp only [Act.put, List.setIfInBounds_toArray, List.set_cons_zero, List.set_cons_succ]))
  ((apply rel_plain (hR := rfl) (hF := fun _ => trivial) (hg := rfl)); (focus ((intro w' hL'); (obtain ⟨hcS, hfS, hlS⟩ := bcell hL'); (try simp only [World.size_setCell, World.size_alloc, World.size_drew] at hcS hfS hlS); (go_simp); (try go_bits); (try (first | (rw [if_pos (by omega)]; done) | (rw [if_neg (by omega)]; done) | (rw [if_pos (by omega)]; go_simp) | (rw [if_neg (by omega)]; go_simp))); (first | with_reducible rfl | exact rfl | skip))); (simp only [Act.put, List.setIfInBounds_toArray, List.set_cons_zero, List.set_cons_succ]))
  ((apply rel_told (hR := rfl) (hg := rfl)); (focus ((intro w' hL' hD'); (obtain ⟨hcS, hfS, hlS⟩ := bcell hL'); (try simp only [World.size_setCell, World.size_alloc, World.size_drew] at hcS hfS hlS); (go_simp); (try go_bits); (try (first | (rw [if_pos (by omega)]; done) | (rw [if_neg (by omega)]; done) | (rw [if_pos (by omega)]; go_simp) | (rw [if_neg (by omega)]; go_simp))); ((obtain ⟨w8, hl8, A8, c8, e8, hO8⟩ := Known.out (hD' ⟨1, .data⟩ (by simp) rfl) rfl); (injection e8 with e8; injection e8 with e8; injection e8 with e8 e8a; injection e8a with e8a e8b; injection e8b with e8b e8c; injection e8b with e8b e8d e8f; subst e8b e8f); (replace hO8 := hO8.b hl8); (obtain ⟨w9, hl9, A9, c9, e9, hO9⟩ := Known.out (hD' ⟨3, .data⟩ (by simp) rfl) rfl); (injection e9 with e9; injection e9 with e9; injection e9 with e9 e9a; injection e9a with e9a e9b; injection e9b with e9b e9c; injection e9b with e9b e9d e9f; subst e9b e9f); (replace hO9 := hO9.b hl9); ((go_at_call 53); (refine (spec_FlyTurnBy_c p q _ _ _ _ i _ (hO8.rd_at' stepE) (hO9.rd_at' stepE)).mono ?_); (rintro e w'' ⟨rfl, hb''⟩); (refine ⟨_, rfl, ?_, ?_⟩); (focus (first | exact hb'' | (subst hb''; exact Le.refl _))); ((repeat (first | (refine Tell.hit rfl ?_) | (refine Tell.skip rfl ?_))); exact rfl))))); (intro v' w0' hv'); (replace hv' := Tell.out hv' rfl); (obtain rfl := hv'); (simp only [Act.put, List.setIfInBounds_toArray, List.set_cons_zero, List.set_cons_succ]))
  ((apply rel_plain (hR := rfl) (hF := fun _ => trivial) (hg := rfl)); (focus ((intro w' hL'); (obtain ⟨hcS, hfS, hlS⟩ := bcell hL'); (try simp only [World.size_setCell, World.size_alloc, World.size_drew] at hcS hfS hlS); (go_simp); (try go_bits); (try (first | (rw [if_pos (by omega)]; done) | (rw [if_neg (by omega)]; done) | (rw [if_pos (by omega)]; go_simp) | (rw [if_neg (by omega)]; go_simp))); (first | with_reducible rfl | exact rfl | skip))); (simp only [Act.put, List.setIfInBounds_toArray, List.set_cons_zero, List.set_cons_succ]))
  refine rel_nil ?_
  intro W6 hE hF9
  clear hF9
  clear ekP fkP lkP ekQ fkQ lkQ
  replace hb := b_step hb hE
  replace kP := kP.b hE
  replace kQ := kQ.b hE
  have zW6 := (hE).size
  clear hE
  obtain ⟨ekP, fkP, lkP⟩ := kP.cells
  obtain ⟨ekQ, fkQ, lkQ⟩ := kQ.cells
  go_wp2_with fail
  refine calls_name (fun W => Below W6.heap.size W6 W) (by repeat' (first | with_reducible exact Below.refl _ _ | with_reducible assumption | with_reducible refine b_alloc ?_ _ | with_reducible refine b_drewN ?_ _ | with_reducible refine b_drew ?_ | with_reducible refine b_set ?_ (by first | (simp only [World.size_setCell, World.size_alloc, World.size_drew]; omega) | (simp; done) | (simp; omega)) _ | with_reducible refine b_step ?_ (by with_reducible assumption))) ?_
  intro W7 hE
  clear ekP fkP lkP ekQ fkQ lkQ
  replace hb := b_step hb hE
  replace kP := kP.b hE
  replace kQ := kQ.b hE
  have zW7 := (hE).size
  clear hE
  refine (toFlyPath_c p A c _ (h.mono hb)).mono ?_
  intro e W8 hM
  obtain ⟨Axp, cxp, rfl, hXp, hXpg, hB⟩ := hM.gop
  replace hb := b_step hb hB
  replace kP := kP.b hB
  replace kQ := kQ.b hB
  have zW8 := (hB).size
  clear hB
  have hXpl := fun k hk => (hXp.row.lt k hk).2
  obtain ⟨ekP, fkP, lkP⟩ := kP.cells
  obtain ⟨ekQ, fkQ, lkQ⟩ := kQ.cells
  go_wp2_with fail
  refine calls_name (fun W => Below W8.heap.size W8 W ∧ Blk W W8.heap.size #[.int .i64 p.q, .int .i64 p.s, .slice Axp p.steps.length cxp, .int .i64 p.fr, .int .i64 p.by_] 33) ⟨(by repeat' (first | with_reducible exact Below.refl _ _ | with_reducible assumption | with_reducible refine b_alloc ?_ _ | with_reducible refine b_drewN ?_ _ | with_reducible refine b_drew ?_ | with_reducible refine b_set ?_ (by first | (simp only [World.size_setCell, World.size_alloc, World.size_drew]; omega) | (simp; done) | (simp; omega)) _ | with_reducible refine b_step ?_ (by with_reducible assumption))), Blk.new _ _ _⟩ ?_
  rintro W9 ⟨hE, kXp⟩
  clear ekP fkP lkP ekQ fkQ lkQ
  replace hb := b_step hb hE
  replace kP := kP.b hE
  replace kQ := kQ.b hE
  replace hXp := hXp.b hE
  have zW9 := (hE).size
  clear hE
  have kXpl := kXp.cells.2.2
  refine (toFlyPath_c q B d _ (h'.mono hb)).mono ?_
  intro e W10 hM
  obtain ⟨Axq, cxq, rfl, hXq, hXqg, hB⟩ := hM.gop
  replace hb := b_step hb hB
  replace kP := kP.b hB
  replace kQ := kQ.b hB
  replace hXp := hXp.b hB
  replace kXp := kXp.b hB
  have zW10 := (hB).size
  clear hB
  have hXql := fun k hk => (hXq.row.lt k hk).2
  obtain ⟨ekP, fkP, lkP⟩ := kP.cells
  obtain ⟨ekQ, fkQ, lkQ⟩ := kQ.cells
  obtain ⟨ekXp, fkXp, lkXp⟩ := kXp.cells
  go_wp2_with fail
  refine calls_name (fun W => Below W10.heap.size W10 W ∧ Blk W W10.heap.size #[.int .i64 q.q, .int .i64 q.s, .slice Axq q.steps.length cxq, .int .i64 q.fr, .int .i64 q.by_] 33) ⟨(by repeat' (first | with_reducible exact Below.refl _ _ | with_reducible assumption | with_reducible refine b_alloc ?_ _ | with_reducible refine b_drewN ?_ _ | with_reducible refine b_drew ?_ | with_reducible refine b_set ?_ (by first | (simp only [World.size_setCell, World.size_alloc, World.size_drew]; omega) | (simp; done) | (simp; omega)) _ | with_reducible refine b_step ?_ (by with_reducible assumption))), Blk.new _ _ _⟩ ?_
  rintro W11 ⟨hE, kXq⟩
  clear ekP fkP lkP ekQ fkQ lkQ ekXp fkXp lkXp
  replace hb := b_step hb hE
  replace kP := kP.b hE
  replace kQ := kQ.b hE
  replace hXp := hXp.b hE
  replace kXp := kXp.b hE
  replace hXq := hXq.b hE
  have zW11 := (hE).size
  clear hE
  have kXql := kXq.cells.2.2
  refine (impl_FlyTurnBy_c p q Axp Axq cxp cxq i _ (hXp.rd_at' stepE) (hXq.rd_at' stepE)).mono ?_
  rintro e W12 ⟨rfl, hB⟩
  replace hb := b_step hb hB
  replace kP := kP.b hB
  replace kQ := kQ.b hB
  replace hXp := hXp.b hB
  replace kXp := kXp.b hB
  replace hXq := hXq.b hB
  replace kXq := kXq.b hB
  have zW12 := (hB).size
  clear hB
  obtain ⟨ekP, fkP, lkP⟩ := kP.cells
  obtain ⟨ekQ, fkQ, lkQ⟩ := kQ.cells
  obtain ⟨ekXp, fkXp, lkXp⟩ := kXp.cells
  obtain ⟨ekXq, fkXq, lkXq⟩ := kXq.cells
  go_wp2_with fail
  refine wp_name (fun W => Below W12.heap.size W12 W) (by repeat' (first | with_reducible exact Below.refl _ _ | with_reducible assumption | with_reducible refine b_alloc ?_ _ | with_reducible refine b_drewN ?_ _ | with_reducible refine b_drew ?_ | with_reducible refine b_set ?_ (by first | (simp only [World.size_setCell, World.size_alloc, World.size_drew]; omega) | (simp; done) | (simp; omega)) _ | with_reducible refine b_step ?_ (by with_reducible assumption))) ?_
  intro W13 hE
  clear ekP fkP lkP ekQ fkQ lkQ ekXp fkXp lkXp ekXq fkXq lkXq
  replace hb := b_step hb hE
  replace kP := kP.b hE
  replace kQ := kQ.b hE
  replace hXp := hXp.b hE
  replace kXp := kXp.b hE
  replace hXq := hXq.b hE
  replace kXq := kXq.b hE
  have zW13 := (hE).size
  clear hE
  obtain ⟨ekP, fkP, lkP⟩ := kP.cells
  obtain ⟨ekQ, fkQ, lkQ⟩ := kQ.cells
  obtain ⟨ekXp, fkXp, lkXp⟩ := kXp.cells
  obtain ⟨ekXq, fkXq, lkXq⟩ := kXq.cells
  refine rel_b [(2, fun v W => ∃ A9 c9, v = .agg #[.int .i64 p.q, .int .i64 p.s, .slice A9 p.steps.length c9, .int .i64 p.fr, .int .i64 p.by_] ∧ Own stepC 7 56 79 W (.slice A9 p.steps.length c9) p.steps), (3, fun v _ => v = .bool true)] (by kernel_rfl) (by kernel_rfl) ?_
  ((apply rel_plain (hR := rfl) (hF := fun _ => trivial) (hg := rfl)); (focus ((intro w' hL'); (obtain ⟨hcS, hfS, hlS⟩ := bcell hL'); (try simp only [World.size_setCell, World.size_alloc, World.size_drew] at hcS hfS hlS); (go_simp); (try go_bits); (try (first | (rw [if_pos (by omega)]; done) | (rw [if_neg (by omega)]; done) | (rw [if_pos (by omega)]; go_simp) | (rw [if_neg (by omega)]; go_simp))); (first | with_reducible rfl | exact rfl | skip))); (simp only [Act.put, List.setIfInBounds_toArray, List.set_cons_zero, List.set_cons_succ]))
  ((apply rel_plain (hR := rfl) (hF := fun _ => trivial) (hg := rfl)); (focus ((intro w' hL'); (obtain ⟨hcS, hfS, hlS⟩ := bcell hL'); (try simp only [World.size_setCell, World.size_alloc, World.size_drew] at hcS hfS hlS); (go_simp); (try go_bits); (try (first | (rw [if_pos (by omega)]; done) | (rw [if_neg (by omega)]; done) | (rw [if_pos (by omega)]; go_simp) | (rw [if_neg (by omega)]; go_simp))); (first | with_reducible rfl | exact rfl | skip))); (simp only [Act.put, List.setIfInBounds_toArray, List.set_cons_zero, List.set_cons_succ]))
  ((apply rel_told (hR := rfl) (hg := rfl)); (focus ((intro w' hL' hD'); (obtain ⟨hcS, hfS, hlS⟩ := bcell hL'); (try simp only [World.size_setCell, World.size_alloc, World.size_drew] at hcS hfS hlS); (go_simp); (try go_bits); (try (first | (rw [if_pos (by omega)]; done) | (rw [if_neg (by omega)]; done) | (rw [if_pos (by omega)]; go_simp) | (rw [if_neg (by omega)]; go_simp))); ((go_at_call 17); (refine (toFlyPath_c p A c _ (h.mono (b_step hb hL'))).mono ?_); (intro e w'' hM); (obtain ⟨A2, c2, rfl, hO2, -, hB⟩ := hM.gop); (refine ⟨_, rfl, hB, ?_⟩); ((repeat (first | (refine Tell.hit rfl ?_) | (refine Tell.skip rfl ?_))); exact ⟨A2, c2, rfl, hO2⟩)))); (intro v' w0' hv'); (replace hv' := Tell.out hv' rfl); (obtain ⟨A2p, c2p, rfl, -⟩ := hv'); (simp only [Act.put, List.setIfInBounds_toArray, List.set_cons_zero, List.set_cons_succ]))
  ((apply rel_told (hR := rfl) (hg := rfl)); (focus ((intro w' hL' hD'); (obtain ⟨hcS, hfS, hlS⟩ := bcell hL'); (try simp only [World.size_setCell, World.size_alloc, World.size_drew] at hcS hfS hlS); (go_simp); (try go_bits); (try (first | (rw [if_pos (by omega)]; done) | (rw [if_neg (by omega)]; done) | (rw [if_pos (by omega)]; go_simp) | (rw [if_neg (by omega)]; go_simp))); ((obtain ⟨w8, hl8, A8, c8, e8, hO8⟩ := Known.out (hD' ⟨2, .data⟩ (by simp) rfl) rfl); (injection e8 with e8; injection e8 with e8; injection e8 with e8 e8a; injection e8a with e8a e8b; injection e8b with e8b e8c; injection e8b with e8b e8d e8f; subst e8b e8f); (replace hO8 := hO8.b hl8); ((go_at_call 20); (refine (eqFlyPath_c p _ _ _ _ _ ((hXp.b hL').rd_at' stepE) (hO8.rd_at' stepE)).mono ?_); (rintro e w'' ⟨rfl, hb''⟩); (refine ⟨_, rfl, ?_, ?_⟩); (focus (first | exact hb'' | (subst hb''; exact Le.refl _))); ((repeat (first | (refine Tell.hit rfl ?_) | (refine Tell.skip rfl ?_))); exact rfl))))); (intro v' w0' hv'); (replace hv' := Tell.out hv' rfl); (obtain rfl := hv'); (simp only [Act.put, List.setIfInBounds_toArray, List.set_cons_zero, List.set_cons_succ]))
  ((apply rel_plain (hR := rfl) (hF := fun _ => trivial) (hg := rfl)); (focus ((intro w' hL'); (obtain ⟨hcS, hfS, hlS⟩ := bcell hL'); (try simp only [World.size_setCell, World.size_alloc, World.size_drew] at hcS hfS hlS); (go_simp); (try go_bits); (try (first | (rw [if_pos (by omega)]; done) | (rw [if_neg (by omega)]; done) | (rw [if_pos (by omega)]; go_simp) | (rw [if_neg (by omega)]; go_simp))); (first | with_reducible rfl | exact rfl | skip))); (simp only [Act.put, List.setIfInBounds_toArray, List.set_cons_zero, List.set_cons_succ]))
  refine rel_nil ?_
  intro W14 hE hF9
  clear hF9
  clear ekP fkP lkP ekQ fkQ lkQ ekXp fkXp lkXp ekXq fkXq lkXq
  replace hb := b_step hb hE
  replace kP := kP.b hE
  replace kQ := kQ.b hE
  replace hXp := hXp.b hE
  replace kXp := kXp.b hE
  replace hXq := hXq.b hE
  replace kXq := kXq.b hE
  have zW14 := (hE).size
  clear hE
  obtain ⟨ekP, fkP, lkP⟩ := kP.cells
  obtain ⟨ekQ, fkQ, lkQ⟩ := kQ.cells
  obtain ⟨ekXp, fkXp, lkXp⟩ := kXp.cells
  obtain ⟨ekXq, fkXq, lkXq⟩ := kXq.cells
  go_wp2_with fail
  refine wp_name (fun W => Below W14.heap.size W14 W) (by repeat' (first | with_reducible exact Below.refl _ _ | with_reducible assumption | with_reducible refine b_alloc ?_ _ | with_reducible refine b_drewN ?_ _ | with_reducible refine b_drew ?_ | with_reducible refine b_set ?_ (by first | (simp only [World.size_setCell, World.size_alloc, World.size_drew]; omega) | (simp; done) | (simp; omega)) _ | with_reducible refine b_step ?_ (by with_reducible assumption))) ?_
  intro W15 hE
  clear ekP fkP lkP ekQ fkQ lkQ ekXp fkXp lkXp ekXq fkXq lkXq
  replace hb := b_step hb hE
  replace kP := kP.b hE
  replace kQ := kQ.b hE
  replace hXp := hXp.b hE
  replace kXp := kXp.b hE
  replace hXq := hXq.b hE
  replace kXq := kXq.b hE
  have zW15 := (hE).size
  clear hE
  obtain ⟨ekP, fkP, lkP⟩ := kP.cells
  obtain ⟨ekQ, fkQ, lkQ⟩ := kQ.cells
  obtain ⟨ekXp, fkXp, lkXp⟩ := kXp.cells
  obtain ⟨ekXq, fkXq, lkXq⟩ := kXq.cells
  refine rel_b [(2, fun v W => ∃ A9 c9, v = .agg #[.int .i64 q.q, .int .i64 q.s, .slice A9 q.steps.length c9, .int .i64 q.fr, .int .i64 q.by_] ∧ Own stepC 7 56 79 W (.slice A9 q.steps.length c9) q.steps), (3, fun v _ => v = .bool true)] (by kernel_rfl) (by kernel_rfl) ?_
  ((apply rel_plain (hR := rfl) (hF := fun _ => trivial) (hg := rfl)); (focus ((intro w' hL'); (obtain ⟨hcS, hfS, hlS⟩ := bcell hL'); (try simp only [World.size_setCell, World.size_alloc, World.size_drew] at hcS hfS hlS); (go_simp); (try go_bits); (try (first | (rw [if_pos (by omega)]; done) | (rw [if_neg (by omega)]; done) | (rw [if_pos (by omega)]; go_simp) | (rw [if_neg (by omega)]; go_simp))); (first | with_reducible rfl | exact rfl | skip))); (simp only [Act.put, List.setIfInBounds_toArray, List.set_cons_zero, List.set_cons_succ]))
  ((apply rel_plain (hR := rfl) (hF := fun _ => trivial) (hg := rfl)); (focus ((intro w' hL'); (obtain ⟨hcS, hfS, hlS⟩ := bcell hL'); (try simp only [World.size_setCell, World.size_alloc, World.size_drew] at hcS hfS hlS); (go_simp); (try go_bits); (try (first | (rw [if_pos (by omega)]; done) | (rw [if_neg (by omega)]; done) | (rw [if_pos (by omega)]; go_simp) | (rw [if_neg (by omega)]; go_simp))); (first | with_reducible rfl | exact rfl | skip))); (simp only [Act.put, List.setIfInBounds_toArray, List.set_cons_zero, List.set_cons_succ]))
  ((apply rel_told (hR := rfl) (hg := rfl)); (focus ((intro w' hL' hD'); (obtain ⟨hcS, hfS, hlS⟩ := bcell hL'); (try simp only [World.size_setCell, World.size_alloc, World.size_drew] at hcS hfS hlS); (go_simp); (try go_bits); (try (first | (rw [if_pos (by omega)]; done) | (rw [if_neg (by omega)]; done) | (rw [if_pos (by omega)]; go_simp) | (rw [if_neg (by omega)]; go_simp))); ((go_at_call 17); (refine (toFlyPath_c q B d _ (h'.mono (b_step hb hL'))).mono ?_); (intro e w'' hM); (obtain ⟨A2, c2, rfl, hO2, -, hB⟩ := hM.gop); (refine ⟨_, rfl, hB, ?_⟩); ((repeat (first | (refine Tell.hit rfl ?_) | (refine Tell.skip rfl ?_))); exact ⟨A2, c2, rfl, hO2⟩)))); (intro v' w0' hv'); (replace hv' := Tell.out hv' rfl); (obtain ⟨A2q, c2q, rfl, -⟩ := hv'); (simp only [Act.put, List.setIfInBounds_toArray, List.set_cons_zero, List.set_cons_succ]))
  ((apply rel_told (hR := rfl) (hg := rfl)); (focus ((intro w' hL' hD'); (obtain ⟨hcS, hfS, hlS⟩ := bcell hL'); (try simp only [World.size_setCell, World.size_alloc, World.size_drew] at hcS hfS hlS); (go_simp); (try go_bits); (try (first | (rw [if_pos (by omega)]; done) | (rw [if_neg (by omega)]; done) | (rw [if_pos (by omega)]; go_simp) | (rw [if_neg (by omega)]; go_simp))); ((obtain ⟨w8, hl8, A8, c8, e8, hO8⟩ := Known.out (hD' ⟨2, .data⟩ (by simp) rfl) rfl); (injection e8 with e8; injection e8 with e8; injection e8 with e8 e8a; injection e8a with e8a e8b; injection e8b with e8b e8c; injection e8b with e8b e8d e8f; subst e8b e8f); (replace hO8 := hO8.b hl8); ((go_at_call 20); (refine (eqFlyPath_c q _ _ _ _ _ ((hXq.b hL').rd_at' stepE) (hO8.rd_at' stepE)).mono ?_); (rintro e w'' ⟨rfl, hb''⟩); (refine ⟨_, rfl, ?_, ?_⟩); (focus (first | exact hb'' | (subst hb''; exact Le.refl _))); ((repeat (first | (refine Tell.hit rfl ?_) | (refine Tell.skip rfl ?_))); exact rfl))))); (intro v' w0' hv'); (replace hv' := Tell.out hv' rfl); (obtain rfl := hv'); (simp only [Act.put, List.setIfInBounds_toArray, List.set_cons_zero, List.set_cons_succ]))
  ((apply rel_plain (hR := rfl) (hF := fun _ => trivial) (hg := rfl)); (focus ((intro w' hL'); (obtain ⟨hcS, hfS, hlS⟩ := bcell hL'); (try simp only [World.size_setCell, World.size_alloc, World.size_drew] at hcS hfS hlS); (go_simp); (try go_bits); (try (first | (rw [if_pos (by omega)]; done) | (rw [if_neg (by omega)]; done) | (rw [if_pos (by omega)]; go_simp) | (rw [if_neg (by omega)]; go_simp))); (first | with_reducible rfl | exact rfl | skip))); (simp only [Act.put, List.setIfInBounds_toArray, List.set_cons_zero, List.set_cons_succ]))
  refine rel_nil ?_
  intro W16 hE hF9
  clear hF9
  clear ekP fkP lkP ekQ fkQ lkQ ekXp fkXp lkXp ekXq fkXq lkXq
  replace hb := b_step hb hE
  replace kP := kP.b hE
  replace kQ := kQ.b hE
  replace hXp := hXp.b hE
  replace kXp := kXp.b hE
  replace hXq := hXq.b hE
  replace kXq := kXq.b hE
  have zW16 := (hE).size
  clear hE
  obtain ⟨ekP, fkP, lkP⟩ := kP.cells
  obtain ⟨ekQ, fkQ, lkQ⟩ := kQ.cells
  obtain ⟨ekXp, fkXp, lkXp⟩ := kXp.cells
  obtain ⟨ekXq, fkXq, lkXq⟩ := kXq.cells
  go_wp2_with fail
  go_ret
  exact ⟨rfl, (by repeat' (first | with_reducible exact Below.refl _ _ | with_reducible assumption | with_reducible refine b_alloc ?_ _ | with_reducible refine b_drewN ?_ _ | with_reducible refine b_drew ?_ | with_reducible refine b_set ?_ (by first | (simp only [World.size_setCell, World.size_alloc, World.size_drew]; omega) | (simp; done) | (simp; omega)) _ | with_reducible refine b_step ?_ (by with_reducible assumption)))⟩
end Go.Proofs.Ytbcibaaolkbfbaa
