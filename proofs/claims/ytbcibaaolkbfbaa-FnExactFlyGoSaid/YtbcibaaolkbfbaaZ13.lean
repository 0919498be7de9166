/- Exact laws, walked. -/
import Derived.Test.YtbcibaaolkbfbaaD4
import Derived.Test.YtbcibaaolkbfbaaK2
import Derived.Test.YtbcibaaolkbfbaaU1
set_option linter.unusedVariables false
set_option linter.unusedSimpArgs false
namespace Go.Proofs.Ytbcibaaolkbfbaa
open Go.RowKit
attribute [local go_sem] w_lt_add w_le_of w_le_add max2_i min2_i
set_option maxRecDepth 100000 in
set_option maxHeartbeats 4000000 in
theorem FnExactFlyGo_c (p : LL.Path) (Ap : Option Addr) (cp : Nat) (f : List Int) (Af : Option Addr) (cf : Nat) (u : List Int) (Au : Option Addr) (cu : Nat) (w : World) (hp : RdS w Ap p.steps.length cp p.steps) (hf : RdI w Af f.length cf f) (hu : RdI w Au u.length cu u) : Calls Try.prog 13 #[.agg #[.int .i64 p.q, .int .i64 p.s, .slice Ap p.steps.length cp, .int .i64 p.fr, .int .i64 p.by_], .slice Af f.length cf, .slice Au u.length cu] w fun e w' => e = .returned (.bool true) ∧ Below w.heap.size w w' := by
  have hrp := hp.room
  have hnp : p.steps.length ≤ 140737488355328 := by omega
  have hrf := hf.room
  have hnf : f.length ≤ 140737488355328 := by omega
  have hru := hu.room
  have hnu : u.length ≤ 140737488355328 := by omega
  by_cases hLf : 1048576 < f.length
  · have hL1 : decide ((1048576 : Int) < (f.length : Int)) = true := by simp; omega
    go_enter Try.func13, Try.ntmps13
    go_wp2_with fail
    go_ret
    exact ⟨rfl, (by repeat' (first | with_reducible exact Below.refl _ _ | with_reducible assumption | with_reducible refine b_alloc ?_ _ | with_reducible refine b_drewN ?_ _ | with_reducible refine b_drew ?_ | with_reducible refine b_set ?_ (by first | (simp only [World.size_setCell, World.size_alloc, World.size_drew]; omega) | (simp; done) | (simp; omega)) _ | with_reducible refine b_step ?_ (by with_reducible assumption)))⟩
  have hL1f : decide ((1048576 : Int) < (f.length : Int)) = false := by simp; omega
  have hL2f : (f.length : Int) ≤ 1048576 := by omega
  clear hLf
  by_cases hLu : 1048576 < u.length
  · have hL1 : decide ((1048576 : Int) < (u.length : Int)) = true := by simp; omega
    go_enter Try.func13, Try.ntmps13
    go_wp2_with fail
    go_ret
    exact ⟨rfl, (by repeat' (first | with_reducible exact Below.refl _ _ | with_reducible assumption | with_reducible refine b_alloc ?_ _ | with_reducible refine b_drewN ?_ _ | with_reducible refine b_drew ?_ | with_reducible refine b_set ?_ (by first | (simp only [World.size_setCell, World.size_alloc, World.size_drew]; omega) | (simp; done) | (simp; omega)) _ | with_reducible refine b_step ?_ (by with_reducible assumption)))⟩
  have hL1u : decide ((1048576 : Int) < (u.length : Int)) = false := by simp; omega
  have hL2u : (u.length : Int) ≤ 1048576 := by omega
  clear hLu
  go_enter Try.func13, Try.ntmps13
  go_wp2_with fail
  refine calls_name (fun W => Below w.heap.size w W ∧ Blk W w.heap.size #[.int .i64 p.q, .int .i64 p.s, .slice Ap p.steps.length cp, .int .i64 p.fr, .int .i64 p.by_] 26) ⟨(by repeat' (first | with_reducible exact Below.refl _ _ | with_reducible assumption | with_reducible refine b_alloc ?_ _ | with_reducible refine b_drewN ?_ _ | with_reducible refine b_drew ?_ | with_reducible refine b_set ?_ (by first | (simp only [World.size_setCell, World.size_alloc, World.size_drew]; omega) | (simp; done) | (simp; omega)) _ | with_reducible refine b_step ?_ (by with_reducible assumption))), (by repeat' (first | with_reducible assumption | with_reducible exact Blk.new _ _ _ | with_reducible exact Blk.new' _ _ (by first | (simp only [World.size_alloc, World.size_setCell, World.size_drew]; done) | (simp only [World.size_alloc, World.size_setCell, World.size_drew]; omega) | omega) | with_reducible refine Blk.a ?_ _ | with_reducible refine Blk.d ?_ | with_reducible refine Blk.dN ?_ _ | with_reducible refine Blk.s ?_ (by simp only [ne_eq]; omega) _ | with_reducible refine Blk.b ?_ (by with_reducible assumption)))⟩ ?_
  rintro W1 ⟨hE, kPp⟩
  have hb : Below w.heap.size w W1 := hE
  have zW1 := (hE).size
  clear hE
  have kPpl := kPp.cells.2.2
  refine (szFlyPath_c _ _ _ _ _ _ _ _ _ (by decide) (by decide) hnp).mono ?_
  rintro e W2 ⟨rfl, hB⟩
  replace hb := b_step hb hB
  replace kPp := kPp.b hB
  have zW2 := (hB).size
  clear hB
  by_cases hsp : (LL.sz 1048576 p.steps.length) < 0
  · go_wp2_with fail
    go_ret
    exact ⟨rfl, (by repeat' (first | with_reducible exact Below.refl _ _ | with_reducible assumption | with_reducible refine b_alloc ?_ _ | with_reducible refine b_drewN ?_ _ | with_reducible refine b_drew ?_ | with_reducible refine b_set ?_ (by first | (simp only [World.size_setCell, World.size_alloc, World.size_drew]; omega) | (simp; done) | (simp; omega)) _ | with_reducible refine b_step ?_ (by with_reducible assumption)))⟩
  have hmp := LL.sz_ge hsp
  have hs1p : decide ((LL.sz 1048576 p.steps.length) < 0) = false := by simpa using hsp
  clear hsp
  have hlr : ((LL.goL p f u).length : Int) ≤ 1048577 := LL.goL_len (by omega)
  obtain ⟨ekPp, fkPp, lkPp⟩ := kPp.cells
  go_wp2_with fail
  refine calls_name (fun W => Below W2.heap.size W2 W) (by repeat' (first | with_reducible exact Below.refl _ _ | with_reducible assumption | with_reducible refine b_alloc ?_ _ | with_reducible refine b_drewN ?_ _ | with_reducible refine b_drew ?_ | with_reducible refine b_set ?_ (by first | (simp only [World.size_setCell, World.size_alloc, World.size_drew]; omega) | (simp; done) | (simp; omega)) _ | with_reducible refine b_step ?_ (by with_reducible assumption))) ?_
  intro W3 hE
  clear ekPp fkPp lkPp
  replace hb := b_step hb hE
  replace kPp := kPp.b hE
  have zW3 := (hE).size
  clear hE
  refine (toFlyPath_c p Ap cp _ (hp.mono hb)).mono ?_
  intro e W4 hM
  obtain ⟨Ap1, cp1, rfl, hOp1, hOp1g, hB⟩ := hM.gop
  replace hb := b_step hb hB
  replace kPp := kPp.b hB
  have zW4 := (hB).size
  clear hB
  have hOp1l := fun k hk => (hOp1.row.lt k hk).2
  obtain ⟨ekPp, fkPp, lkPp⟩ := kPp.cells
  go_wp2_with fail
  refine calls_name (fun W => Below W4.heap.size W4 W) (by repeat' (first | with_reducible exact Below.refl _ _ | with_reducible assumption | with_reducible refine b_alloc ?_ _ | with_reducible refine b_drewN ?_ _ | with_reducible refine b_drew ?_ | with_reducible refine b_set ?_ (by first | (simp only [World.size_setCell, World.size_alloc, World.size_drew]; omega) | (simp; done) | (simp; omega)) _ | with_reducible refine b_step ?_ (by with_reducible assumption))) ?_
  intro W5 hE
  clear ekPp fkPp lkPp
  replace hb := b_step hb hE
  replace kPp := kPp.b hE
  replace hOp1 := hOp1.b hE
  have zW5 := (hE).size
  clear hE
  refine (toIntS_c f Af cf _ (hf.mono hb)).mono ?_
  intro e W6 hM
  obtain ⟨Af1, cf1, rfl, hOf1, hOf1g, hB⟩ := hM.go intE
  replace hb := b_step hb hB
  replace kPp := kPp.b hB
  replace hOp1 := hOp1.b hB
  have zW6 := (hB).size
  clear hB
  have hOf1l := fun k hk => (hOf1.row.lt k hk).2
  obtain ⟨ekPp, fkPp, lkPp⟩ := kPp.cells
  go_wp2_with fail
  refine calls_name (fun W => Below W6.heap.size W6 W) (by repeat' (first | with_reducible exact Below.refl _ _ | with_reducible assumption | with_reducible refine b_alloc ?_ _ | with_reducible refine b_drewN ?_ _ | with_reducible refine b_drew ?_ | with_reducible refine b_set ?_ (by first | (simp only [World.size_setCell, World.size_alloc, World.size_drew]; omega) | (simp; done) | (simp; omega)) _ | with_reducible refine b_step ?_ (by with_reducible assumption))) ?_
  intro W7 hE
  clear ekPp fkPp lkPp
  replace hb := b_step hb hE
  replace kPp := kPp.b hE
  replace hOp1 := hOp1.b hE
  replace hOf1 := hOf1.b hE
  have zW7 := (hE).size
  clear hE
  refine (toIntS_c u Au cu _ (hu.mono hb)).mono ?_
  intro e W8 hM
  obtain ⟨Au1, cu1, rfl, hOu1, hOu1g, hB⟩ := hM.go intE
  replace hb := b_step hb hB
  replace kPp := kPp.b hB
  replace hOp1 := hOp1.b hB
  replace hOf1 := hOf1.b hB
  have zW8 := (hB).size
  clear hB
  have hOu1l := fun k hk => (hOu1.row.lt k hk).2
  obtain ⟨ekPp, fkPp, lkPp⟩ := kPp.cells
  go_wp2_with fail
  refine calls_name (fun W => Below W8.heap.size W8 W) (by repeat' (first | with_reducible exact Below.refl _ _ | with_reducible assumption | with_reducible refine b_alloc ?_ _ | with_reducible refine b_drewN ?_ _ | with_reducible refine b_drew ?_ | with_reducible refine b_set ?_ (by first | (simp only [World.size_setCell, World.size_alloc, World.size_drew]; omega) | (simp; done) | (simp; omega)) _ | with_reducible refine b_step ?_ (by with_reducible assumption))) ?_
  intro W9 hE
  clear ekPp fkPp lkPp
  replace hb := b_step hb hE
  replace kPp := kPp.b hE
  replace hOp1 := hOp1.b hE
  replace hOf1 := hOf1.b hE
  replace hOu1 := hOu1.b hE
  have zW9 := (hE).size
  clear hE
  refine (spec_FlyGo_c p f u Ap1 Af1 Au1 cp1 cf1 cu1 _ (hOp1.rd_at' stepE) (hOf1.rd_at' intE) (hOu1.rd_at' intE)).mono ?_
  intro e W10 hM
  obtain ⟨Aw, cw, rfl, hW, hWg, hB⟩ := hM.go2 intE
  replace hb := b_step hb hB
  replace kPp := kPp.b hB
  replace hOp1 := hOp1.b hB
  replace hOf1 := hOf1.b hB
  replace hOu1 := hOu1.b hB
  have zW10 := (hB).size
  clear hB
  have hWl := fun k hk => (hW.row.lt k hk).2
  obtain ⟨ekPp, fkPp, lkPp⟩ := kPp.cells
  go_wp2_with fail
  refine calls_name (fun W => Below W10.heap.size W10 W) (by repeat' (first | with_reducible exact Below.refl _ _ | with_reducible assumption | with_reducible refine b_alloc ?_ _ | with_reducible refine b_drewN ?_ _ | with_reducible refine b_drew ?_ | with_reducible refine b_set ?_ (by first | (simp only [World.size_setCell, World.size_alloc, World.size_drew]; omega) | (simp; done) | (simp; omega)) _ | with_reducible refine b_step ?_ (by with_reducible assumption))) ?_
  intro W11 hE
  clear ekPp fkPp lkPp
  replace hb := b_step hb hE
  replace kPp := kPp.b hE
  replace hOp1 := hOp1.b hE
  replace hOf1 := hOf1.b hE
  replace hOu1 := hOu1.b hE
  replace hW := hW.b hE
  have zW11 := (hE).size
  clear hE
  refine (toFlyPath_c p Ap cp _ (hp.mono hb)).mono ?_
  intro e W12 hM
  obtain ⟨Axp, cxp, rfl, hXp, hXpg, hB⟩ := hM.gop
  replace hb := b_step hb hB
  replace kPp := kPp.b hB
  replace hOp1 := hOp1.b hB
  replace hOf1 := hOf1.b hB
  replace hOu1 := hOu1.b hB
  replace hW := hW.b hB
  have zW12 := (hB).size
  clear hB
  have hXpl := fun k hk => (hXp.row.lt k hk).2
  obtain ⟨ekPp, fkPp, lkPp⟩ := kPp.cells
  go_wp2_with fail
  refine calls_name (fun W => Below W12.heap.size W12 W ∧ Blk W W12.heap.size #[.int .i64 p.q, .int .i64 p.s, .slice Axp p.steps.length cxp, .int .i64 p.fr, .int .i64 p.by_] 33) ⟨(by repeat' (first | with_reducible exact Below.refl _ _ | with_reducible assumption | with_reducible refine b_alloc ?_ _ | with_reducible refine b_drewN ?_ _ | with_reducible refine b_drew ?_ | with_reducible refine b_set ?_ (by first | (simp only [World.size_setCell, World.size_alloc, World.size_drew]; omega) | (simp; done) | (simp; omega)) _ | with_reducible refine b_step ?_ (by with_reducible assumption))), Blk.new _ _ _⟩ ?_
  rintro W13 ⟨hE, kXp⟩
  clear ekPp fkPp lkPp
  replace hb := b_step hb hE
  replace kPp := kPp.b hE
  replace hOp1 := hOp1.b hE
  replace hOf1 := hOf1.b hE
  replace hOu1 := hOu1.b hE
  replace hW := hW.b hE
  replace hXp := hXp.b hE
  have zW13 := (hE).size
  clear hE
  have kXpl := kXp.cells.2.2
  refine (toIntS_c f Af cf _ (hf.mono hb)).mono ?_
  intro e W14 hM
  obtain ⟨Axf, cxf, rfl, hXf, hXfg, hB⟩ := hM.go intE
  replace hb := b_step hb hB
  replace kPp := kPp.b hB
  replace hOp1 := hOp1.b hB
  replace hOf1 := hOf1.b hB
  replace hOu1 := hOu1.b hB
  replace hW := hW.b hB
  replace hXp := hXp.b hB
  replace kXp := kXp.b hB
  have zW14 := (hB).size
  clear hB
  have hXfl := fun k hk => (hXf.row.lt k hk).2
  obtain ⟨ekPp, fkPp, lkPp⟩ := kPp.cells
  obtain ⟨ekXp, fkXp, lkXp⟩ := kXp.cells
  go_wp2_with fail
  refine calls_name (fun W => Below W14.heap.size W14 W) (by repeat' (first | with_reducible exact Below.refl _ _ | with_reducible assumption | with_reducible refine b_alloc ?_ _ | with_reducible refine b_drewN ?_ _ | with_reducible refine b_drew ?_ | with_reducible refine b_set ?_ (by first | (simp only [World.size_setCell, World.size_alloc, World.size_drew]; omega) | (simp; done) | (simp; omega)) _ | with_reducible refine b_step ?_ (by with_reducible assumption))) ?_
  intro W15 hE
  clear ekPp fkPp lkPp ekXp fkXp lkXp
  replace hb := b_step hb hE
  replace kPp := kPp.b hE
  replace hOp1 := hOp1.b hE
  replace hOf1 := hOf1.b hE
  replace hOu1 := hOu1.b hE
  replace hW := hW.b hE
  replace hXp := hXp.b hE
  replace kXp := kXp.b hE
  replace hXf := hXf.b hE
  have zW15 := (hE).size
  clear hE
  refine (toIntS_c u Au cu _ (hu.mono hb)).mono ?_
  intro e W16 hM
  obtain ⟨Axu, cxu, rfl, hXu, hXug, hB⟩ := hM.go intE
  replace hb := b_step hb hB
  replace kPp := kPp.b hB
  replace hOp1 := hOp1.b hB
  replace hOf1 := hOf1.b hB
  replace hOu1 := hOu1.b hB
  replace hW := hW.b hB
  replace hXp := hXp.b hB
  replace kXp := kXp.b hB
  replace hXf := hXf.b hB
  have zW16 := (hB).size
  clear hB
  have hXul := fun k hk => (hXu.row.lt k hk).2
  obtain ⟨ekPp, fkPp, lkPp⟩ := kPp.cells
  obtain ⟨ekXp, fkXp, lkXp⟩ := kXp.cells
  go_wp2_with fail
  refine calls_name (fun W => Below W16.heap.size W16 W) (by repeat' (first | with_reducible exact Below.refl _ _ | with_reducible assumption | with_reducible refine b_alloc ?_ _ | with_reducible refine b_drewN ?_ _ | with_reducible refine b_drew ?_ | with_reducible refine b_set ?_ (by first | (simp only [World.size_setCell, World.size_alloc, World.size_drew]; omega) | (simp; done) | (simp; omega)) _ | with_reducible refine b_step ?_ (by with_reducible assumption))) ?_
  intro W17 hE
  clear ekPp fkPp lkPp ekXp fkXp lkXp
  replace hb := b_step hb hE
  replace kPp := kPp.b hE
  replace hOp1 := hOp1.b hE
  replace hOf1 := hOf1.b hE
  replace hOu1 := hOu1.b hE
  replace hW := hW.b hE
  replace hXp := hXp.b hE
  replace kXp := kXp.b hE
  replace hXf := hXf.b hE
  replace hXu := hXu.b hE
  have zW17 := (hE).size
  clear hE
  refine (impl_FlyGo_c p f u Axp Axf Axu cxp cxf cxu _ (hXp.rd_at' stepE) (hXf.rd_at' intE) (hXu.rd_at' intE)).mono ?_
  intro e W18 hM
  obtain ⟨Ag, cg, rfl, hG, hGg, hB⟩ := hM.go2 intE
  replace hb := b_step hb hB
  replace kPp := kPp.b hB
  replace hOp1 := hOp1.b hB
  replace hOf1 := hOf1.b hB
  replace hOu1 := hOu1.b hB
  replace hW := hW.b hB
  replace hXp := hXp.b hB
  replace kXp := kXp.b hB
  replace hXf := hXf.b hB
  replace hXu := hXu.b hB
  have zW18 := (hB).size
  clear hB
  have hGl := fun k hk => (hG.row.lt k hk).2
  obtain ⟨ekPp, fkPp, lkPp⟩ := kPp.cells
  obtain ⟨ekXp, fkXp, lkXp⟩ := kXp.cells
  go_wp2_with fail
  refine calls_name (fun W => Below W18.heap.size W18 W) (by repeat' (first | with_reducible exact Below.refl _ _ | with_reducible assumption | with_reducible refine b_alloc ?_ _ | with_reducible refine b_drewN ?_ _ | with_reducible refine b_drew ?_ | with_reducible refine b_set ?_ (by first | (simp only [World.size_setCell, World.size_alloc, World.size_drew]; omega) | (simp; done) | (simp; omega)) _ | with_reducible refine b_step ?_ (by with_reducible assumption))) ?_
  intro W19 hE
  clear ekPp fkPp lkPp ekXp fkXp lkXp
  replace hb := b_step hb hE
  replace kPp := kPp.b hE
  replace hOp1 := hOp1.b hE
  replace hOf1 := hOf1.b hE
  replace hOu1 := hOu1.b hE
  replace hW := hW.b hE
  replace hXp := hXp.b hE
  replace kXp := kXp.b hE
  replace hXf := hXf.b hE
  replace hXu := hXu.b hE
  replace hG := hG.b hE
  have zW19 := (hE).size
  clear hE
  refine (eqIntS_c (LL.goL p f u) _ _ _ _ _ (hG.rd_at' intE) (hW.rd_at' intE)).mono ?_
  rintro e W20 ⟨rfl, hB⟩
  replace hb := b_step hb hB
  replace kPp := kPp.b hB
  replace hOp1 := hOp1.b hB
  replace hOf1 := hOf1.b hB
  replace hOu1 := hOu1.b hB
  replace hW := hW.b hB
  replace hXp := hXp.b hB
  replace kXp := kXp.b hB
  replace hXf := hXf.b hB
  replace hXu := hXu.b hB
  replace hG := hG.b hB
  have zW20 := (hB).size
  clear hB
  obtain ⟨ekPp, fkPp, lkPp⟩ := kPp.cells
  obtain ⟨ekXp, fkXp, lkXp⟩ := kXp.cells
  go_wp2_with fail
  refine wp_name (fun W => Below W20.heap.size W20 W) (by repeat' (first | with_reducible exact Below.refl _ _ | with_reducible assumption | with_reducible refine b_alloc ?_ _ | with_reducible refine b_drewN ?_ _ | with_reducible refine b_drew ?_ | with_reducible refine b_set ?_ (by first | (simp only [World.size_setCell, World.size_alloc, World.size_drew]; omega) | (simp; done) | (simp; omega)) _ | with_reducible refine b_step ?_ (by with_reducible assumption))) ?_
  intro W21 hE
  clear ekPp fkPp lkPp ekXp fkXp lkXp
  replace hb := b_step hb hE
  replace kPp := kPp.b hE
  replace hOp1 := hOp1.b hE
  replace hOf1 := hOf1.b hE
  replace hOu1 := hOu1.b hE
  replace hW := hW.b hE
  replace hXp := hXp.b hE
  replace kXp := kXp.b hE
  replace hXf := hXf.b hE
  replace hXu := hXu.b hE
  replace hG := hG.b hE
  have zW21 := (hE).size
  clear hE
  obtain ⟨ekPp, fkPp, lkPp⟩ := kPp.cells
  obtain ⟨ekXp, fkXp, lkXp⟩ := kXp.cells
  refine rel_b [(2, fun v W => ∃ A9 c9, v = .agg #[.int .i64 p.q, .int .i64 p.s, .slice A9 p.steps.length c9, .int .i64 p.fr, .int .i64 p.by_] ∧ Own stepC 7 56 79 W (.slice A9 p.steps.length c9) p.steps), (3, fun v _ => v = .bool true)] (by kernel_rfl) (by kernel_rfl) ?_
  ((apply rel_plain (hR := rfl) (hF := fun _ => trivial) (hg := rfl)); (focus ((intro w' hL'); (obtain ⟨hcS, hfS, hlS⟩ := bcell hL'); (try simp only [World.size_setCell, World.size_alloc, World.size_drew] at hcS hfS hlS); (go_simp); (try go_bits); (try (first | (rw [if_pos (by omega)]; done) | (rw [if_neg (by omega)]; done) | (rw [if_pos (by omega)]; go_simp) | (rw [if_neg (by omega)]; go_simp))); (first | with_reducible rfl | exact rfl | skip))); (simp only [Act.put, List.setIfInBounds_toArray, List.set_cons_zero, List.set_cons_succ]))
  ((apply rel_plain (hR := rfl) (hF := fun _ => trivial) (hg := rfl)); (focus ((intro w' hL'); (obtain ⟨hcS, hfS, hlS⟩ := bcell hL'); (try simp only [World.size_setCell, World.size_alloc, World.size_drew] at hcS hfS hlS); (go_simp); (try go_bits); (try (first | (rw [if_pos (by omega)]; done) | (rw [if_neg (by omega)]; done) | (rw [if_pos (by omega)]; go_simp) | (rw [if_neg (by omega)]; go_simp))); (first | with_reducible rfl | exact rfl | skip))); (simp only [Act.put, List.setIfInBounds_toArray, List.set_cons_zero, List.set_cons_succ]))
  ((apply rel_told (hR := rfl) (hg := rfl)); (focus ((intro w' hL' hD'); (obtain ⟨hcS, hfS, hlS⟩ := bcell hL'); (try simp only [World.size_setCell, World.size_alloc, World.size_drew] at hcS hfS hlS); (go_simp); (try go_bits); (try (first | (rw [if_pos (by omega)]; done) | (rw [if_neg (by omega)]; done) | (rw [if_pos (by omega)]; go_simp) | (rw [if_neg (by omega)]; go_simp))); ((go_at_call 17); (refine (toFlyPath_c p Ap cp _ (hp.mono (b_step hb hL'))).mono ?_); (intro e w'' hM); (obtain ⟨A2, c2, rfl, hO2, hO2g, hB⟩ := hM.gop); (refine ⟨_, rfl, hB, ?_⟩); ((repeat (first | (refine Tell.hit rfl ?_) | (refine Tell.skip rfl ?_))); exact ⟨A2, c2, rfl, hO2⟩)))); (intro v' w0' hv'); (replace hv' := Tell.out hv' rfl); (obtain ⟨A2p, c2p, rfl, -⟩ := hv'); (simp only [Act.put, List.setIfInBounds_toArray, List.set_cons_zero, List.set_cons_succ]))
  ((apply rel_told (hR := rfl) (hg := rfl)); (focus ((intro w' hL' hD'); (obtain ⟨hcS, hfS, hlS⟩ := bcell hL'); (try simp only [World.size_setCell, World.size_alloc, World.size_drew] at hcS hfS hlS); (go_simp); (try go_bits); (try (first | (rw [if_pos (by omega)]; done) | (rw [if_neg (by omega)]; done) | (rw [if_pos (by omega)]; go_simp) | (rw [if_neg (by omega)]; go_simp))); ((obtain ⟨w8, hl8, A8, c8, e8, hO8⟩ := Known.out (hD' ⟨2, .data⟩ (by simp) rfl) rfl); (injection e8 with e8; injection e8 with e8; injection e8 with e8 e8a; injection e8a with e8a e8b; injection e8b with e8b e8c; injection e8b with e8b e8d e8f; subst e8b e8f); (replace hO8 := hO8.b hl8); ((go_at_call 20); (refine (eqFlyPath_c p _ _ _ _ _ ((hXp.b hL').rd_at' stepE) (hO8.rd_at' stepE)).mono ?_); (rintro e w'' ⟨rfl, hb''⟩); (refine ⟨_, rfl, ?_, ?_⟩); (focus (first | exact hb'' | (subst hb''; exact Le.refl _))); ((repeat (first | (refine Tell.hit rfl ?_) | (refine Tell.skip rfl ?_))); exact rfl))))); (intro v' w0' hv'); (replace hv' := Tell.out hv' rfl); (obtain rfl := hv'); (simp only [Act.put, List.setIfInBounds_toArray, List.set_cons_zero, List.set_cons_succ]))
  ((apply rel_plain (hR := rfl) (hF := fun _ => trivial) (hg := rfl)); (focus ((intro w' hL'); (obtain ⟨hcS, hfS, hlS⟩ := bcell hL'); (try simp only [World.size_setCell, World.size_alloc, World.size_drew] at hcS hfS hlS); (go_simp); (try go_bits); (try (first | (rw [if_pos (by omega)]; done) | (rw [if_neg (by omega)]; done) | (rw [if_pos (by omega)]; go_simp) | (rw [if_neg (by omega)]; go_simp))); (first | with_reducible rfl | exact rfl | skip))); (simp only [Act.put, List.setIfInBounds_toArray, List.set_cons_zero, List.set_cons_succ]))
  refine rel_nil ?_
  intro W22 hE hF9
  clear hF9
  clear ekPp fkPp lkPp ekXp fkXp lkXp
  replace hb := b_step hb hE
  replace kPp := kPp.b hE
  replace hOp1 := hOp1.b hE
  replace hOf1 := hOf1.b hE
  replace hOu1 := hOu1.b hE
  replace hW := hW.b hE
  replace hXp := hXp.b hE
  replace kXp := kXp.b hE
  replace hXf := hXf.b hE
  replace hXu := hXu.b hE
  replace hG := hG.b hE
  have zW22 := (hE).size
  clear hE
  obtain ⟨ekPp, fkPp, lkPp⟩ := kPp.cells
  obtain ⟨ekXp, fkXp, lkXp⟩ := kXp.cells
  go_wp2_with fail
  refine calls_name (fun W => Below W22.heap.size W22 W) (by repeat' (first | with_reducible exact Below.refl _ _ | with_reducible assumption | with_reducible refine b_alloc ?_ _ | with_reducible refine b_drewN ?_ _ | with_reducible refine b_drew ?_ | with_reducible refine b_set ?_ (by first | (simp only [World.size_setCell, World.size_alloc, World.size_drew]; omega) | (simp; done) | (simp; omega)) _ | with_reducible refine b_step ?_ (by with_reducible assumption))) ?_
  intro W23 hE
  clear ekPp fkPp lkPp ekXp fkXp lkXp
  replace hb := b_step hb hE
  replace kPp := kPp.b hE
  replace hOp1 := hOp1.b hE
  replace hOf1 := hOf1.b hE
  replace hOu1 := hOu1.b hE
  replace hW := hW.b hE
  replace hXp := hXp.b hE
  replace kXp := kXp.b hE
  replace hXf := hXf.b hE
  replace hXu := hXu.b hE
  replace hG := hG.b hE
  have zW23 := (hE).size
  clear hE
  refine (toIntS_c f Af cf _ (hf.mono hb)).mono ?_
  intro e W24 hM
  obtain ⟨A3f, c3f, rfl, hQf, hQfg, hB⟩ := hM.go intE
  replace hb := b_step hb hB
  replace kPp := kPp.b hB
  replace hOp1 := hOp1.b hB
  replace hOf1 := hOf1.b hB
  replace hOu1 := hOu1.b hB
  replace hW := hW.b hB
  replace hXp := hXp.b hB
  replace kXp := kXp.b hB
  replace hXf := hXf.b hB
  replace hXu := hXu.b hB
  replace hG := hG.b hB
  have zW24 := (hB).size
  clear hB
  have hQfl := fun k hk => (hQf.row.lt k hk).2
  obtain ⟨ekPp, fkPp, lkPp⟩ := kPp.cells
  obtain ⟨ekXp, fkXp, lkXp⟩ := kXp.cells
  go_wp2_with fail
  refine calls_name (fun W => Below W24.heap.size W24 W) (by repeat' (first | with_reducible exact Below.refl _ _ | with_reducible assumption | with_reducible refine b_alloc ?_ _ | with_reducible refine b_drewN ?_ _ | with_reducible refine b_drew ?_ | with_reducible refine b_set ?_ (by first | (simp only [World.size_setCell, World.size_alloc, World.size_drew]; omega) | (simp; done) | (simp; omega)) _ | with_reducible refine b_step ?_ (by with_reducible assumption))) ?_
  intro W25 hE
  clear ekPp fkPp lkPp ekXp fkXp lkXp
  replace hb := b_step hb hE
  replace kPp := kPp.b hE
  replace hOp1 := hOp1.b hE
  replace hOf1 := hOf1.b hE
  replace hOu1 := hOu1.b hE
  replace hW := hW.b hE
  replace hXp := hXp.b hE
  replace kXp := kXp.b hE
  replace hXf := hXf.b hE
  replace hXu := hXu.b hE
  replace hG := hG.b hE
  replace hQf := hQf.b hE
  have zW25 := (hE).size
  clear hE
  refine (eqIntS_c f _ _ _ _ _ (hXf.rd_at' intE) (hQf.rd_at' intE)).mono ?_
  rintro e W26 ⟨rfl, hB⟩
  replace hb := b_step hb hB
  replace kPp := kPp.b hB
  replace hOp1 := hOp1.b hB
  replace hOf1 := hOf1.b hB
  replace hOu1 := hOu1.b hB
  replace hW := hW.b hB
  replace hXp := hXp.b hB
  replace kXp := kXp.b hB
  replace hXf := hXf.b hB
  replace hXu := hXu.b hB
  replace hG := hG.b hB
  replace hQf := hQf.b hB
  have zW26 := (hB).size
  clear hB
  obtain ⟨ekPp, fkPp, lkPp⟩ := kPp.cells
  obtain ⟨ekXp, fkXp, lkXp⟩ := kXp.cells
  go_wp2_with fail
  refine calls_name (fun W => Below W26.heap.size W26 W) (by repeat' (first | with_reducible exact Below.refl _ _ | with_reducible assumption | with_reducible refine b_alloc ?_ _ | with_reducible refine b_drewN ?_ _ | with_reducible refine b_drew ?_ | with_reducible refine b_set ?_ (by first | (simp only [World.size_setCell, World.size_alloc, World.size_drew]; omega) | (simp; done) | (simp; omega)) _ | with_reducible refine b_step ?_ (by with_reducible assumption))) ?_
  intro W27 hE
  clear ekPp fkPp lkPp ekXp fkXp lkXp
  replace hb := b_step hb hE
  replace kPp := kPp.b hE
  replace hOp1 := hOp1.b hE
  replace hOf1 := hOf1.b hE
  replace hOu1 := hOu1.b hE
  replace hW := hW.b hE
  replace hXp := hXp.b hE
  replace kXp := kXp.b hE
  replace hXf := hXf.b hE
  replace hXu := hXu.b hE
  replace hG := hG.b hE
  replace hQf := hQf.b hE
  have zW27 := (hE).size
  clear hE
  refine (toIntS_c u Au cu _ (hu.mono hb)).mono ?_
  intro e W28 hM
  obtain ⟨A3u, c3u, rfl, hQu, hQug, hB⟩ := hM.go intE
  replace hb := b_step hb hB
  replace kPp := kPp.b hB
  replace hOp1 := hOp1.b hB
  replace hOf1 := hOf1.b hB
  replace hOu1 := hOu1.b hB
  replace hW := hW.b hB
  replace hXp := hXp.b hB
  replace kXp := kXp.b hB
  replace hXf := hXf.b hB
  replace hXu := hXu.b hB
  replace hG := hG.b hB
  replace hQf := hQf.b hB
  have zW28 := (hB).size
  clear hB
  have hQul := fun k hk => (hQu.row.lt k hk).2
  obtain ⟨ekPp, fkPp, lkPp⟩ := kPp.cells
  obtain ⟨ekXp, fkXp, lkXp⟩ := kXp.cells
  go_wp2_with fail
  refine calls_name (fun W => Below W28.heap.size W28 W) (by repeat' (first | with_reducible exact Below.refl _ _ | with_reducible assumption | with_reducible refine b_alloc ?_ _ | with_reducible refine b_drewN ?_ _ | with_reducible refine b_drew ?_ | with_reducible refine b_set ?_ (by first | (simp only [World.size_setCell, World.size_alloc, World.size_drew]; omega) | (simp; done) | (simp; omega)) _ | with_reducible refine b_step ?_ (by with_reducible assumption))) ?_
  intro W29 hE
  clear ekPp fkPp lkPp ekXp fkXp lkXp
  replace hb := b_step hb hE
  replace kPp := kPp.b hE
  replace hOp1 := hOp1.b hE
  replace hOf1 := hOf1.b hE
  replace hOu1 := hOu1.b hE
  replace hW := hW.b hE
  replace hXp := hXp.b hE
  replace kXp := kXp.b hE
  replace hXf := hXf.b hE
  replace hXu := hXu.b hE
  replace hG := hG.b hE
  replace hQf := hQf.b hE
  replace hQu := hQu.b hE
  have zW29 := (hE).size
  clear hE
  refine (eqIntS_c u _ _ _ _ _ (hXu.rd_at' intE) (hQu.rd_at' intE)).mono ?_
  rintro e W30 ⟨rfl, hB⟩
  replace hb := b_step hb hB
  replace kPp := kPp.b hB
  replace hOp1 := hOp1.b hB
  replace hOf1 := hOf1.b hB
  replace hOu1 := hOu1.b hB
  replace hW := hW.b hB
  replace hXp := hXp.b hB
  replace kXp := kXp.b hB
  replace hXf := hXf.b hB
  replace hXu := hXu.b hB
  replace hG := hG.b hB
  replace hQf := hQf.b hB
  replace hQu := hQu.b hB
  have zW30 := (hB).size
  clear hB
  obtain ⟨ekPp, fkPp, lkPp⟩ := kPp.cells
  obtain ⟨ekXp, fkXp, lkXp⟩ := kXp.cells
  go_wp2_with fail
  refine calls_name (fun W => Below W30.heap.size W30 W) (by repeat' (first | with_reducible exact Below.refl _ _ | with_reducible assumption | with_reducible refine b_alloc ?_ _ | with_reducible refine b_drewN ?_ _ | with_reducible refine b_drew ?_ | with_reducible refine b_set ?_ (by first | (simp only [World.size_setCell, World.size_alloc, World.size_drew]; omega) | (simp; done) | (simp; omega)) _ | with_reducible refine b_step ?_ (by with_reducible assumption))) ?_
  intro W31 hE
  clear ekPp fkPp lkPp ekXp fkXp lkXp
  replace hb := b_step hb hE
  replace kPp := kPp.b hE
  replace hOp1 := hOp1.b hE
  replace hOf1 := hOf1.b hE
  replace hOu1 := hOu1.b hE
  replace hW := hW.b hE
  replace hXp := hXp.b hE
  replace kXp := kXp.b hE
  replace hXf := hXf.b hE
  replace hXu := hXu.b hE
  replace hG := hG.b hE
  replace hQf := hQf.b hE
  replace hQu := hQu.b hE
  have zW31 := (hE).size
  clear hE
  refine (markFlyPath_c p Axp cxp _ (by omega) (by omega) _ hXp).mono ?_
  rintro e W32 ⟨rfl, hXpm, hg⟩
  replace hg := GrownS.of hg
  replace kPp := kPp.gS hg (fun h2 => by have h5 := hXpl _ h2; have h6 := hXpg _ h2; have h7 := kPpl; omega)
  replace hOp1 := hOp1.gS hg (fun k h1 h2 => by have h3 := hOp1l k h1; have h4 := hOp1g k h1; have h5 := hXpl k h2; have h6 := hXpg k h2; omega)
  replace hOf1 := hOf1.gS hg (fun k h1 h2 => by have h3 := hOf1l k h1; have h4 := hOf1g k h1; have h5 := hXpl k h2; have h6 := hXpg k h2; omega)
  replace hOu1 := hOu1.gS hg (fun k h1 h2 => by have h3 := hOu1l k h1; have h4 := hOu1g k h1; have h5 := hXpl k h2; have h6 := hXpg k h2; omega)
  replace hW := hW.gS hg (fun k h1 h2 => by have h3 := hWl k h1; have h4 := hWg k h1; have h5 := hXpl k h2; have h6 := hXpg k h2; omega)
  replace kXp := kXp.gS hg (fun h2 => by have h5 := hXpl _ h2; have h6 := hXpg _ h2; have h7 := kXpl; omega)
  replace hXf := hXf.gS hg (fun k h1 h2 => by have h3 := hXfl k h1; have h4 := hXfg k h1; have h5 := hXpl k h2; have h6 := hXpg k h2; omega)
  replace hXu := hXu.gS hg (fun k h1 h2 => by have h3 := hXul k h1; have h4 := hXug k h1; have h5 := hXpl k h2; have h6 := hXpg k h2; omega)
  replace hG := hG.gS hg (fun k h1 h2 => by have h3 := hGl k h1; have h4 := hGg k h1; have h5 := hXpl k h2; have h6 := hXpg k h2; omega)
  replace hQf := hQf.gS hg (fun k h1 h2 => by have h3 := hQfl k h1; have h4 := hQfg k h1; have h5 := hXpl k h2; have h6 := hXpg k h2; omega)
  replace hQu := hQu.gS hg (fun k h1 h2 => by have h3 := hQul k h1; have h4 := hQug k h1; have h5 := hXpl k h2; have h6 := hXpg k h2; omega)
  replace hb := b_gS hb hg hb.size (fun k hk => by have := hXpg k hk; omega)
  have zW32 := hg.size
  clear hXp hg
  clear hXpm
  obtain ⟨ekPp, fkPp, lkPp⟩ := kPp.cells
  obtain ⟨ekXp, fkXp, lkXp⟩ := kXp.cells
  go_wp2_with fail
  refine calls_name (fun W => Below W32.heap.size W32 W) (by repeat' (first | with_reducible exact Below.refl _ _ | with_reducible assumption | with_reducible refine b_alloc ?_ _ | with_reducible refine b_drewN ?_ _ | with_reducible refine b_drew ?_ | with_reducible refine b_set ?_ (by first | (simp only [World.size_setCell, World.size_alloc, World.size_drew]; omega) | (simp; done) | (simp; omega)) _ | with_reducible refine b_step ?_ (by with_reducible assumption))) ?_
  intro W33 hE
  clear ekPp fkPp lkPp ekXp fkXp lkXp
  replace hb := b_step hb hE
  replace kPp := kPp.b hE
  replace hOp1 := hOp1.b hE
  replace hOf1 := hOf1.b hE
  replace hOu1 := hOu1.b hE
  replace hW := hW.b hE
  replace kXp := kXp.b hE
  replace hXf := hXf.b hE
  replace hXu := hXu.b hE
  replace hG := hG.b hE
  replace hQf := hQf.b hE
  replace hQu := hQu.b hE
  have zW33 := (hE).size
  clear hE
  refine (markIntS_c f Axf cxf _ (by omega) (by omega) _ hXf).mono ?_
  rintro e W34 ⟨rfl, hXfm, hg⟩
  replace hg := GrownS.of hg
  replace kPp := kPp.gS hg (fun h2 => by have h5 := hXfl _ h2; have h6 := hXfg _ h2; have h7 := kPpl; omega)
  replace hOp1 := hOp1.gS hg (fun k h1 h2 => by have h3 := hOp1l k h1; have h4 := hOp1g k h1; have h5 := hXfl k h2; have h6 := hXfg k h2; omega)
  replace hOf1 := hOf1.gS hg (fun k h1 h2 => by have h3 := hOf1l k h1; have h4 := hOf1g k h1; have h5 := hXfl k h2; have h6 := hXfg k h2; omega)
  replace hOu1 := hOu1.gS hg (fun k h1 h2 => by have h3 := hOu1l k h1; have h4 := hOu1g k h1; have h5 := hXfl k h2; have h6 := hXfg k h2; omega)
  replace hW := hW.gS hg (fun k h1 h2 => by have h3 := hWl k h1; have h4 := hWg k h1; have h5 := hXfl k h2; have h6 := hXfg k h2; omega)
  replace kXp := kXp.gS hg (fun h2 => by have h5 := hXfl _ h2; have h6 := hXfg _ h2; have h7 := kXpl; omega)
  replace hXu := hXu.gS hg (fun k h1 h2 => by have h3 := hXul k h1; have h4 := hXug k h1; have h5 := hXfl k h2; have h6 := hXfg k h2; omega)
  replace hG := hG.gS hg (fun k h1 h2 => by have h3 := hGl k h1; have h4 := hGg k h1; have h5 := hXfl k h2; have h6 := hXfg k h2; omega)
  replace hQf := hQf.gS hg (fun k h1 h2 => by have h3 := hQfl k h1; have h4 := hQfg k h1; have h5 := hXfl k h2; have h6 := hXfg k h2; omega)
  replace hQu := hQu.gS hg (fun k h1 h2 => by have h3 := hQul k h1; have h4 := hQug k h1; have h5 := hXfl k h2; have h6 := hXfg k h2; omega)
  replace hb := b_gS hb hg hb.size (fun k hk => by have := hXfg k hk; omega)
  have zW34 := hg.size
  clear hXf hg
  clear hXfm
  obtain ⟨ekPp, fkPp, lkPp⟩ := kPp.cells
  obtain ⟨ekXp, fkXp, lkXp⟩ := kXp.cells
  go_wp2_with fail
  refine calls_name (fun W => Below W34.heap.size W34 W) (by repeat' (first | with_reducible exact Below.refl _ _ | with_reducible assumption | with_reducible refine b_alloc ?_ _ | with_reducible refine b_drewN ?_ _ | with_reducible refine b_drew ?_ | with_reducible refine b_set ?_ (by first | (simp only [World.size_setCell, World.size_alloc, World.size_drew]; omega) | (simp; done) | (simp; omega)) _ | with_reducible refine b_step ?_ (by with_reducible assumption))) ?_
  intro W35 hE
  clear ekPp fkPp lkPp ekXp fkXp lkXp
  replace hb := b_step hb hE
  replace kPp := kPp.b hE
  replace hOp1 := hOp1.b hE
  replace hOf1 := hOf1.b hE
  replace hOu1 := hOu1.b hE
  replace hW := hW.b hE
  replace kXp := kXp.b hE
  replace hXu := hXu.b hE
  replace hG := hG.b hE
  replace hQf := hQf.b hE
  replace hQu := hQu.b hE
  have zW35 := (hE).size
  clear hE
  refine (markIntS_c u Axu cxu _ (by omega) (by omega) _ hXu).mono ?_
  rintro e W36 ⟨rfl, hXum, hg⟩
  replace hg := GrownS.of hg
  replace kPp := kPp.gS hg (fun h2 => by have h5 := hXul _ h2; have h6 := hXug _ h2; have h7 := kPpl; omega)
  replace hOp1 := hOp1.gS hg (fun k h1 h2 => by have h3 := hOp1l k h1; have h4 := hOp1g k h1; have h5 := hXul k h2; have h6 := hXug k h2; omega)
  replace hOf1 := hOf1.gS hg (fun k h1 h2 => by have h3 := hOf1l k h1; have h4 := hOf1g k h1; have h5 := hXul k h2; have h6 := hXug k h2; omega)
  replace hOu1 := hOu1.gS hg (fun k h1 h2 => by have h3 := hOu1l k h1; have h4 := hOu1g k h1; have h5 := hXul k h2; have h6 := hXug k h2; omega)
  replace hW := hW.gS hg (fun k h1 h2 => by have h3 := hWl k h1; have h4 := hWg k h1; have h5 := hXul k h2; have h6 := hXug k h2; omega)
  replace kXp := kXp.gS hg (fun h2 => by have h5 := hXul _ h2; have h6 := hXug _ h2; have h7 := kXpl; omega)
  replace hG := hG.gS hg (fun k h1 h2 => by have h3 := hGl k h1; have h4 := hGg k h1; have h5 := hXul k h2; have h6 := hXug k h2; omega)
  replace hQf := hQf.gS hg (fun k h1 h2 => by have h3 := hQfl k h1; have h4 := hQfg k h1; have h5 := hXul k h2; have h6 := hXug k h2; omega)
  replace hQu := hQu.gS hg (fun k h1 h2 => by have h3 := hQul k h1; have h4 := hQug k h1; have h5 := hXul k h2; have h6 := hXug k h2; omega)
  replace hb := b_gS hb hg hb.size (fun k hk => by have := hXug k hk; omega)
  have zW36 := hg.size
  clear hXu hg
  clear hXum
  obtain ⟨ekPp, fkPp, lkPp⟩ := kPp.cells
  obtain ⟨ekXp, fkXp, lkXp⟩ := kXp.cells
  go_wp2_with fail
  refine calls_name (fun W => Below W36.heap.size W36 W) (by repeat' (first | with_reducible exact Below.refl _ _ | with_reducible assumption | with_reducible refine b_alloc ?_ _ | with_reducible refine b_drewN ?_ _ | with_reducible refine b_drew ?_ | with_reducible refine b_set ?_ (by first | (simp only [World.size_setCell, World.size_alloc, World.size_drew]; omega) | (simp; done) | (simp; omega)) _ | with_reducible refine b_step ?_ (by with_reducible assumption))) ?_
  intro W37 hE
  clear ekPp fkPp lkPp ekXp fkXp lkXp
  replace hb := b_step hb hE
  replace kPp := kPp.b hE
  replace hOp1 := hOp1.b hE
  replace hOf1 := hOf1.b hE
  replace hOu1 := hOu1.b hE
  replace hW := hW.b hE
  replace kXp := kXp.b hE
  replace hG := hG.b hE
  replace hQf := hQf.b hE
  replace hQu := hQu.b hE
  have zW37 := (hE).size
  clear hE
  refine (eqIntS_c (LL.goL p f u) _ _ _ _ _ (hG.rd_at' intE) (hW.rd_at' intE)).mono ?_
  rintro e W38 ⟨rfl, hB⟩
  replace hb := b_step hb hB
  replace kPp := kPp.b hB
  replace hOp1 := hOp1.b hB
  replace hOf1 := hOf1.b hB
  replace hOu1 := hOu1.b hB
  replace hW := hW.b hB
  replace kXp := kXp.b hB
  replace hG := hG.b hB
  replace hQf := hQf.b hB
  replace hQu := hQu.b hB
  have zW38 := (hB).size
  clear hB
  obtain ⟨ekPp, fkPp, lkPp⟩ := kPp.cells
  obtain ⟨ekXp, fkXp, lkXp⟩ := kXp.cells
  go_wp2_with fail
  refine calls_name (fun W => Below W38.heap.size W38 W) (by repeat' (first | with_reducible exact Below.refl _ _ | with_reducible assumption | with_reducible refine b_alloc ?_ _ | with_reducible refine b_drewN ?_ _ | with_reducible refine b_drew ?_ | with_reducible refine b_set ?_ (by first | (simp only [World.size_setCell, World.size_alloc, World.size_drew]; omega) | (simp; done) | (simp; omega)) _ | with_reducible refine b_step ?_ (by with_reducible assumption))) ?_
  intro W39 hE
  clear ekPp fkPp lkPp ekXp fkXp lkXp
  replace hb := b_step hb hE
  replace kPp := kPp.b hE
  replace hOp1 := hOp1.b hE
  replace hOf1 := hOf1.b hE
  replace hOu1 := hOu1.b hE
  replace hW := hW.b hE
  replace kXp := kXp.b hE
  replace hG := hG.b hE
  replace hQf := hQf.b hE
  replace hQu := hQu.b hE
  have zW39 := (hE).size
  clear hE
  refine (markIntS_c (LL.goL p f u) Ag cg _ (by omega) (by omega) _ hG).mono ?_
  rintro e W40 ⟨rfl, hGm, hg⟩
  replace hg := GrownS.of hg
  replace kPp := kPp.gS hg (fun h2 => by have h5 := hGl _ h2; have h6 := hGg _ h2; have h7 := kPpl; omega)
  replace hOp1 := hOp1.gS hg (fun k h1 h2 => by have h3 := hOp1l k h1; have h4 := hOp1g k h1; have h5 := hGl k h2; have h6 := hGg k h2; omega)
  replace hOf1 := hOf1.gS hg (fun k h1 h2 => by have h3 := hOf1l k h1; have h4 := hOf1g k h1; have h5 := hGl k h2; have h6 := hGg k h2; omega)
  replace hOu1 := hOu1.gS hg (fun k h1 h2 => by have h3 := hOu1l k h1; have h4 := hOu1g k h1; have h5 := hGl k h2; have h6 := hGg k h2; omega)
  replace hW := hW.gS hg (fun k h1 h2 => by have h3 := hWl k h1; have h4 := hWg k h1; have h5 := hGl k h2; have h6 := hGg k h2; omega)
  replace kXp := kXp.gS hg (fun h2 => by have h5 := hGl _ h2; have h6 := hGg _ h2; have h7 := kXpl; omega)
  replace hQf := hQf.gS hg (fun k h1 h2 => by have h3 := hQfl k h1; have h4 := hQfg k h1; have h5 := hGl k h2; have h6 := hGg k h2; omega)
  replace hQu := hQu.gS hg (fun k h1 h2 => by have h3 := hQul k h1; have h4 := hQug k h1; have h5 := hGl k h2; have h6 := hGg k h2; omega)
  replace hb := b_gS hb hg hb.size (fun k hk => by have := hGg k hk; omega)
  have zW40 := hg.size
  clear hG hg
  obtain ⟨ekPp, fkPp, lkPp⟩ := kPp.cells
  obtain ⟨ekXp, fkXp, lkXp⟩ := kXp.cells
  go_wp2_with fail
  refine calls_name (fun W => Below W40.heap.size W40 W) (by repeat' (first | with_reducible exact Below.refl _ _ | with_reducible assumption | with_reducible refine b_alloc ?_ _ | with_reducible refine b_drewN ?_ _ | with_reducible refine b_drew ?_ | with_reducible refine b_set ?_ (by first | (simp only [World.size_setCell, World.size_alloc, World.size_drew]; omega) | (simp; done) | (simp; omega)) _ | with_reducible refine b_step ?_ (by with_reducible assumption))) ?_
  intro W41 hE
  clear ekPp fkPp lkPp ekXp fkXp lkXp
  replace hb := b_step hb hE
  replace kPp := kPp.b hE
  replace hOp1 := hOp1.b hE
  replace hOf1 := hOf1.b hE
  replace hOu1 := hOu1.b hE
  replace hW := hW.b hE
  replace kXp := kXp.b hE
  replace hQf := hQf.b hE
  replace hQu := hQu.b hE
  replace hGm := hGm.b hE
  have zW41 := (hE).size
  clear hE
  refine (heldIntS_c (LL.goL p f u).length Ag cg _ (by omega) (by omega) _ (hGm.rd_tab intE)).mono ?_
  rintro e W8 ⟨rfl, rfl⟩
  obtain ⟨ekPp, fkPp, lkPp⟩ := kPp.cells
  obtain ⟨ekXp, fkXp, lkXp⟩ := kXp.cells
  go_wp2_with fail
  refine calls_name (fun W => Below W41.heap.size W41 W) (by repeat' (first | with_reducible exact Below.refl _ _ | with_reducible assumption | with_reducible refine b_alloc ?_ _ | with_reducible refine b_drewN ?_ _ | with_reducible refine b_drew ?_ | with_reducible refine b_set ?_ (by first | (simp only [World.size_setCell, World.size_alloc, World.size_drew]; omega) | (simp; done) | (simp; omega)) _ | with_reducible refine b_step ?_ (by with_reducible assumption))) ?_
  intro W42 hE
  clear ekPp fkPp lkPp ekXp fkXp lkXp
  replace hb := b_step hb hE
  replace kPp := kPp.b hE
  replace hOp1 := hOp1.b hE
  replace hOf1 := hOf1.b hE
  replace hOu1 := hOu1.b hE
  replace hW := hW.b hE
  replace kXp := kXp.b hE
  replace hQf := hQf.b hE
  replace hQu := hQu.b hE
  replace hGm := hGm.b hE
  have zW42 := (hE).size
  clear hE
  refine (toFlyPath_c p Ap cp _ (hp.mono hb)).mono ?_
  intro e W43 hM
  obtain ⟨Ap2, cp2, rfl, hOp2, hOp2g, hB⟩ := hM.gop
  replace hb := b_step hb hB
  replace kPp := kPp.b hB
  replace hOp1 := hOp1.b hB
  replace hOf1 := hOf1.b hB
  replace hOu1 := hOu1.b hB
  replace hW := hW.b hB
  replace kXp := kXp.b hB
  replace hQf := hQf.b hB
  replace hQu := hQu.b hB
  replace hGm := hGm.b hB
  have zW43 := (hB).size
  clear hB
  have hOp2l := fun k hk => (hOp2.row.lt k hk).2
  obtain ⟨ekPp, fkPp, lkPp⟩ := kPp.cells
  obtain ⟨ekXp, fkXp, lkXp⟩ := kXp.cells
  go_wp2_with fail
  refine calls_name (fun W => Below W43.heap.size W43 W) (by repeat' (first | with_reducible exact Below.refl _ _ | with_reducible assumption | with_reducible refine b_alloc ?_ _ | with_reducible refine b_drewN ?_ _ | with_reducible refine b_drew ?_ | with_reducible refine b_set ?_ (by first | (simp only [World.size_setCell, World.size_alloc, World.size_drew]; omega) | (simp; done) | (simp; omega)) _ | with_reducible refine b_step ?_ (by with_reducible assumption))) ?_
  intro W44 hE
  clear ekPp fkPp lkPp ekXp fkXp lkXp
  replace hb := b_step hb hE
  replace kPp := kPp.b hE
  replace hOp1 := hOp1.b hE
  replace hOf1 := hOf1.b hE
  replace hOu1 := hOu1.b hE
  replace hW := hW.b hE
  replace kXp := kXp.b hE
  replace hQf := hQf.b hE
  replace hQu := hQu.b hE
  replace hGm := hGm.b hE
  replace hOp2 := hOp2.b hE
  have zW44 := (hE).size
  clear hE
  refine (toIntS_c f Af cf _ (hf.mono hb)).mono ?_
  intro e W45 hM
  obtain ⟨Af2, cf2, rfl, hOf2, hOf2g, hB⟩ := hM.go intE
  replace hb := b_step hb hB
  replace kPp := kPp.b hB
  replace hOp1 := hOp1.b hB
  replace hOf1 := hOf1.b hB
  replace hOu1 := hOu1.b hB
  replace hW := hW.b hB
  replace kXp := kXp.b hB
  replace hQf := hQf.b hB
  replace hQu := hQu.b hB
  replace hGm := hGm.b hB
  replace hOp2 := hOp2.b hB
  have zW45 := (hB).size
  clear hB
  have hOf2l := fun k hk => (hOf2.row.lt k hk).2
  obtain ⟨ekPp, fkPp, lkPp⟩ := kPp.cells
  obtain ⟨ekXp, fkXp, lkXp⟩ := kXp.cells
  go_wp2_with fail
  refine calls_name (fun W => Below W45.heap.size W45 W) (by repeat' (first | with_reducible exact Below.refl _ _ | with_reducible assumption | with_reducible refine b_alloc ?_ _ | with_reducible refine b_drewN ?_ _ | with_reducible refine b_drew ?_ | with_reducible refine b_set ?_ (by first | (simp only [World.size_setCell, World.size_alloc, World.size_drew]; omega) | (simp; done) | (simp; omega)) _ | with_reducible refine b_step ?_ (by with_reducible assumption))) ?_
  intro W46 hE
  clear ekPp fkPp lkPp ekXp fkXp lkXp
  replace hb := b_step hb hE
  replace kPp := kPp.b hE
  replace hOp1 := hOp1.b hE
  replace hOf1 := hOf1.b hE
  replace hOu1 := hOu1.b hE
  replace hW := hW.b hE
  replace kXp := kXp.b hE
  replace hQf := hQf.b hE
  replace hQu := hQu.b hE
  replace hGm := hGm.b hE
  replace hOp2 := hOp2.b hE
  replace hOf2 := hOf2.b hE
  have zW46 := (hE).size
  clear hE
  refine (toIntS_c u Au cu _ (hu.mono hb)).mono ?_
  intro e W47 hM
  obtain ⟨Au2, cu2, rfl, hOu2, hOu2g, hB⟩ := hM.go intE
  replace hb := b_step hb hB
  replace kPp := kPp.b hB
  replace hOp1 := hOp1.b hB
  replace hOf1 := hOf1.b hB
  replace hOu1 := hOu1.b hB
  replace hW := hW.b hB
  replace kXp := kXp.b hB
  replace hQf := hQf.b hB
  replace hQu := hQu.b hB
  replace hGm := hGm.b hB
  replace hOp2 := hOp2.b hB
  replace hOf2 := hOf2.b hB
  have zW47 := (hB).size
  clear hB
  have hOu2l := fun k hk => (hOu2.row.lt k hk).2
  obtain ⟨ekPp, fkPp, lkPp⟩ := kPp.cells
  obtain ⟨ekXp, fkXp, lkXp⟩ := kXp.cells
  go_wp2_with fail
  refine calls_name (fun W => Below W47.heap.size W47 W) (by repeat' (first | with_reducible exact Below.refl _ _ | with_reducible assumption | with_reducible refine b_alloc ?_ _ | with_reducible refine b_drewN ?_ _ | with_reducible refine b_drew ?_ | with_reducible refine b_set ?_ (by first | (simp only [World.size_setCell, World.size_alloc, World.size_drew]; omega) | (simp; done) | (simp; omega)) _ | with_reducible refine b_step ?_ (by with_reducible assumption))) ?_
  intro W48 hE
  clear ekPp fkPp lkPp ekXp fkXp lkXp
  replace hb := b_step hb hE
  replace kPp := kPp.b hE
  replace hOp1 := hOp1.b hE
  replace hOf1 := hOf1.b hE
  replace hOu1 := hOu1.b hE
  replace hW := hW.b hE
  replace kXp := kXp.b hE
  replace hQf := hQf.b hE
  replace hQu := hQu.b hE
  replace hGm := hGm.b hE
  replace hOp2 := hOp2.b hE
  replace hOf2 := hOf2.b hE
  replace hOu2 := hOu2.b hE
  have zW48 := (hE).size
  clear hE
  refine (impl_FlyGo_c p f u Ap2 Af2 Au2 cp2 cf2 cu2 _ (hOp2.rd_at' stepE) (hOf2.rd_at' intE) (hOu2.rd_at' intE)).mono ?_
  intro e W49 hM
  obtain ⟨Ah, ch, rfl, hH, hHg, hB⟩ := hM.go2 intE
  replace hb := b_step hb hB
  replace kPp := kPp.b hB
  replace hOp1 := hOp1.b hB
  replace hOf1 := hOf1.b hB
  replace hOu1 := hOu1.b hB
  replace hW := hW.b hB
  replace kXp := kXp.b hB
  replace hQf := hQf.b hB
  replace hQu := hQu.b hB
  replace hGm := hGm.b hB
  replace hOp2 := hOp2.b hB
  replace hOf2 := hOf2.b hB
  replace hOu2 := hOu2.b hB
  have zW49 := (hB).size
  clear hB
  have hHl := fun k hk => (hH.row.lt k hk).2
  obtain ⟨ekPp, fkPp, lkPp⟩ := kPp.cells
  obtain ⟨ekXp, fkXp, lkXp⟩ := kXp.cells
  go_wp2_with fail
  refine calls_name (fun W => Below W49.heap.size W49 W) (by repeat' (first | with_reducible exact Below.refl _ _ | with_reducible assumption | with_reducible refine b_alloc ?_ _ | with_reducible refine b_drewN ?_ _ | with_reducible refine b_drew ?_ | with_reducible refine b_set ?_ (by first | (simp only [World.size_setCell, World.size_alloc, World.size_drew]; omega) | (simp; done) | (simp; omega)) _ | with_reducible refine b_step ?_ (by with_reducible assumption))) ?_
  intro W50 hE
  clear ekPp fkPp lkPp ekXp fkXp lkXp
  replace hb := b_step hb hE
  replace kPp := kPp.b hE
  replace hOp1 := hOp1.b hE
  replace hOf1 := hOf1.b hE
  replace hOu1 := hOu1.b hE
  replace hW := hW.b hE
  replace kXp := kXp.b hE
  replace hQf := hQf.b hE
  replace hQu := hQu.b hE
  replace hGm := hGm.b hE
  replace hOp2 := hOp2.b hE
  replace hOf2 := hOf2.b hE
  replace hOu2 := hOu2.b hE
  replace hH := hH.b hE
  have zW50 := (hE).size
  clear hE
  refine (eqIntS_c (LL.goL p f u) _ _ _ _ _ (hH.rd_at' intE) (hW.rd_at' intE)).mono ?_
  rintro e W51 ⟨rfl, hB⟩
  replace hb := b_step hb hB
  replace kPp := kPp.b hB
  replace hOp1 := hOp1.b hB
  replace hOf1 := hOf1.b hB
  replace hOu1 := hOu1.b hB
  replace hW := hW.b hB
  replace kXp := kXp.b hB
  replace hQf := hQf.b hB
  replace hQu := hQu.b hB
  replace hGm := hGm.b hB
  replace hOp2 := hOp2.b hB
  replace hOf2 := hOf2.b hB
  replace hOu2 := hOu2.b hB
  replace hH := hH.b hB
  have zW51 := (hB).size
  clear hB
  obtain ⟨ekPp, fkPp, lkPp⟩ := kPp.cells
  obtain ⟨ekXp, fkXp, lkXp⟩ := kXp.cells
  go_wp2_with fail
  refine calls_name (fun W => Below W51.heap.size W51 W) (by repeat' (first | with_reducible exact Below.refl _ _ | with_reducible assumption | with_reducible refine b_alloc ?_ _ | with_reducible refine b_drewN ?_ _ | with_reducible refine b_drew ?_ | with_reducible refine b_set ?_ (by first | (simp only [World.size_setCell, World.size_alloc, World.size_drew]; omega) | (simp; done) | (simp; omega)) _ | with_reducible refine b_step ?_ (by with_reducible assumption))) ?_
  intro W52 hE
  clear ekPp fkPp lkPp ekXp fkXp lkXp
  replace hb := b_step hb hE
  replace kPp := kPp.b hE
  replace hOp1 := hOp1.b hE
  replace hOf1 := hOf1.b hE
  replace hOu1 := hOu1.b hE
  replace hW := hW.b hE
  replace kXp := kXp.b hE
  replace hQf := hQf.b hE
  replace hQu := hQu.b hE
  replace hGm := hGm.b hE
  replace hOp2 := hOp2.b hE
  replace hOf2 := hOf2.b hE
  replace hOu2 := hOu2.b hE
  replace hH := hH.b hE
  have zW52 := (hE).size
  clear hE
  refine (heldIntS_c (LL.goL p f u).length Ag cg _ (by omega) (by omega) _ (hGm.rd_tab intE)).mono ?_
  rintro e W8 ⟨rfl, rfl⟩
  obtain ⟨ekPp, fkPp, lkPp⟩ := kPp.cells
  obtain ⟨ekXp, fkXp, lkXp⟩ := kXp.cells
  go_wp2_with fail
  go_ret
  exact ⟨rfl, (by repeat' (first | with_reducible exact Below.refl _ _ | with_reducible assumption | with_reducible refine b_alloc ?_ _ | with_reducible refine b_drewN ?_ _ | with_reducible refine b_drew ?_ | with_reducible refine b_set ?_ (by first | (simp only [World.size_setCell, World.size_alloc, World.size_drew]; omega) | (simp; done) | (simp; omega)) _ | with_reducible refine b_step ?_ (by with_reducible assumption)))⟩
end Go.Proofs.Ytbcibaaolkbfbaa
