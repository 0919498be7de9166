/- What is left of a path: the program's helper. -/
import Derived.Test.YtkpnjnkfbhomgaaN1
import Derived.Test.YtkpnjnkfbhomgaaC3
import Derived.Test.YtkpnjnkfbhomgaaS7
set_option linter.unusedVariables false
set_option linter.unusedSimpArgs false
namespace Go.Proofs.Ytkpnjnkfbhomgaa
open Go.RowKit
attribute [local go_sem] w_lt_add w_le_of w_le_add max2_i min2_i ite_max ite_min
namespace LL
theorem drop_tab (p : Path) (st : Nat) : p.steps.drop st = (drP p st).steps := by
  apply List.ext_getElem?
  intro i
  unfold drP
  by_cases h : i < p.steps.length - st
  · simp [tab, h, nth, List.getD_eq_getElem?_getD, List.getElem?_eq_getElem (show st + i < p.steps.length by omega)]
  · rw [List.getElem?_eq_none (by simp; omega), List.getElem?_eq_none (by simp [tab]; omega)]
def leftM (p : Path) (st : Nat) (fr by_ now : Int) : Path := if SpansOk (tlP p st fr by_ now) then tlP p st fr by_ now else p0
theorem leftM_yes {p : Path} {st : Nat} {fr by_ now : Int} (h : SpansOk (tlP p st fr by_ now)) : leftM p st fr by_ now = tlP p st fr by_ now := if_pos h
theorem leftM_no {p : Path} {st : Nat} {fr by_ now : Int} (h : ¬ SpansOk (tlP p st fr by_ now)) : leftM p st fr by_ now = p0 := if_neg h
/-- the tail with its first step's window set -/
def tl0 (p : Path) (st : Nat) (fr by_ : Int) (i : Nat) : Step := if i = 0 then setW (nth p.steps st) fr by_ else nth p.steps (st + i)
theorem tl0_upd (p : Path) (st : Nat) (fr by_ : Int) : upd (upd (fun i => nth p.steps (st + i)) 0 (setW (nth p.steps st) fr (nth p.steps st).by_)) 0 (setW (nth p.steps st) fr by_) = tl0 p st fr by_ := by
  rw [upd_upd]; rfl
theorem tl1_upd (p : Path) (st : Nat) (fr by_ now : Int) : upd (tl0 p st fr by_) 1 (setW (nth p.steps (st + 1)) (max (nth p.steps (st + 1)).fr (now + 1)) (nth p.steps (st + 1)).by_) = tlF p st fr by_ now := by
  funext i
  unfold upd tl0 tlF
  by_cases h1 : i = 1
  · subst h1; rfl
  · rw [if_neg h1]
    by_cases h0 : i = 0
    · rw [if_pos h0, if_pos h0]
    · rw [if_neg h0, if_neg h0, if_neg h1]
theorem tl_one (p : Path) (st : Nat) (fr by_ now : Int) (m : Nat) (h : m ≤ 1) : tab m (tl0 p st fr by_) = tab m (tlF p st fr by_ now) := tab_congr fun i hi => by
  obtain rfl : i = 0 := by omega
  rfl
end LL
theorem RdS.dropped {w : World} {b off c : Nat} {p : LL.Path} (h : RdS w (some ⟨b, off, none⟩) p.steps.length c p.steps) (st : Nat) (hst : st < p.steps.length) : RdS w (some ⟨b, off + st * 7, none⟩) (LL.drP p st).steps.length (c - st) (LL.drP p st).steps := by
  rw [LL.drP_len]
  refine ⟨LL.drP_len p st, by have := h.cap; omega, by have := h.room; omega, fun hn => ?_⟩
  obtain ⟨b', off', e, hlt, hc⟩ := h.at_ (by omega)
  cases e
  refine ⟨b, off + st * 7, rfl, hlt, fun i x hi j u hu => ?_⟩
  rw [← LL.drop_tab, List.getElem?_drop] at hi
  have := hc (st + i) x hi j u hu
  rw [show off + st * 7 + i * 7 + j = off + (st + i) * 7 + j by omega]
  exact this
theorem own_blk_ne {α : Type} {enc : α → List Value} {sz bytes e : Nat} {w : World} {v : Value} {xs : List α} {g t : Nat} {cs : Array Value} (h : Own enc sz bytes e w v xs) (hg : Blk w g cs t) (ht : e ≠ t) : ∀ k, v.ownBlock = some k → k ≠ g := fun k hk he => by
  subst he
  rcases h.row.2 with ⟨rfl, _⟩ | ⟨g', cap, cur, rfl, _, hh, _⟩
  · simp [Value.ownBlock] at hk
  · simp [Value.ownBlock] at hk
    subst hk
    have h1 := hg.at_
    rw [hh] at h1
    injection h1 with h1
    injection h1 with _ h1
    exact ht h1
set_option maxRecDepth 100000 in
set_option maxHeartbeats 4000000 in
theorem impl_left_c (p : LL.Path) (A : Option Addr) (c : Nat) (st : Nat) (fr by_ now : Int) (w : World) (hP : LL.PathOk p) (hst : st < p.steps.length) (hf : (LL.nth p.steps st).fr ≤ fr) (hby : by_ ≤ (LL.nth p.steps st).by_) (hn0 : 0 ≤ now) (hn1 : now ≤ 10000) (h : RdS w A p.steps.length c p.steps) : Calls Try.prog 145 #[.agg #[.int .i64 p.q, .int .i64 p.s, .slice A p.steps.length c, .int .i64 p.fr, .int .i64 p.by_], .int .i64 st, .int .i64 fr, .int .i64 by_, .int .i64 now] w (MkPB 146 w (LL.leftM p st fr by_ now) (decide (LL.SpansOk (LL.tlP p st fr by_ now)))) := by
  have hroom := h.room
  have hcap := h.cap
  obtain ⟨b, off, rfl, hbw⟩ := h.addr (by omega)
  have hl := hP.2.1.2
  go_enter Try.func145, Try.ntmps145
  go_wp2_with fail
  refine wp_name (fun W => Below w.heap.size w W ∧ Blk W w.heap.size #[.int .i64 p.q, .int .i64 p.s, .slice (some ⟨b, off, none⟩) p.steps.length c, .int .i64 p.fr, .int .i64 p.by_] 44 ∧ Blk W (w.heap.size + 1) #[.int .i64 0, .int .i64 0, .slice none 0 0, .int .i64 0, .int .i64 0] 44) ⟨(by repeat' (first | with_reducible exact Below.refl _ _ | with_reducible assumption | with_reducible refine b_alloc ?_ _ | with_reducible refine b_drewN ?_ _ | with_reducible refine b_drew ?_ | with_reducible refine b_set ?_ (by first | (simp only [World.size_setCell, World.size_alloc, World.size_drew]; omega) | (simp; done) | (simp; omega)) _ | with_reducible refine b_step ?_ (by with_reducible assumption))), (by repeat' (first | with_reducible assumption | with_reducible exact Blk.new _ _ _ | with_reducible exact Blk.new' _ _ (by first | (simp only [World.size_alloc, World.size_setCell, World.size_drew]; done) | (simp only [World.size_alloc, World.size_setCell, World.size_drew]; omega) | omega) | with_reducible refine Blk.a ?_ _ | with_reducible refine Blk.d ?_ | with_reducible refine Blk.dN ?_ _ | with_reducible refine Blk.s ?_ (by simp only [ne_eq]; omega) _ | with_reducible refine Blk.b ?_ (by with_reducible assumption))), (by repeat' (first | with_reducible assumption | with_reducible exact Blk.new _ _ _ | with_reducible exact Blk.new' _ _ (by first | (simp only [World.size_alloc, World.size_setCell, World.size_drew]; done) | (simp only [World.size_alloc, World.size_setCell, World.size_drew]; omega) | omega) | with_reducible refine Blk.a ?_ _ | with_reducible refine Blk.d ?_ | with_reducible refine Blk.dN ?_ _ | with_reducible refine Blk.s ?_ (by simp only [ne_eq]; omega) _ | with_reducible refine Blk.b ?_ (by with_reducible assumption)))⟩ ?_
  rintro W1 ⟨hb, kP, kR⟩
  have hW1 := kR.cells.2.2
  obtain ⟨ekP, fkP, lkP⟩ := kP.cells
  obtain ⟨gc, gf, gl⟩ := bcell hb
  have hl2 := LL.drP_len p st
  have HC := fun (W : World) (hW : Below w.heap.size w W) => impl_copyPath_c (LL.drP p st) (some ⟨b, off + st * 7, none⟩) (c - st) W ((h.dropped st hst).mono hW)
  simp only [hl2] at HC
  refine rel_tail_b 13 [(11, fun v W => ∃ A9 c9, v = .agg #[.int .i64 p.q, .int .i64 p.s, .slice A9 (p.steps.length - st) c9, .int .i64 p.fr, .int .i64 p.by_] ∧ Own stepC 7 56 146 W (.slice A9 (p.steps.length - st) c9) (LL.drP p st).steps ∧ (∀ k, Value.ownBlock (.slice A9 (p.steps.length - st) c9) = some k → W1.heap.size ≤ k)), (12, fun v w' => ∃ g, v = .pointer (some ⟨g, 0, none⟩) ∧ W1.heap.size ≤ g ∧ Blk w' g #[.int .i64 0, .int .i64 0, .slice none 0 0, .int .i64 0, .int .i64 0] 44)] (by kernel_rfl) (by kernel_rfl) ?_
  simp only [List.take_succ_cons, List.take_zero, List.drop_succ_cons, List.drop_zero]
  ((apply rel_plain (hR := rfl) (hF := fun _ => trivial) (hg := rfl)); (focus ((intro w' hL'); (obtain ⟨hcS, hfS, hlS⟩ := bcell hL'); (try simp only [World.size_setCell, World.size_alloc, World.size_drew] at hcS hfS hlS); (go_simp); (try go_bits); (try (first | (rw [if_pos (by omega)]; done) | (rw [if_neg (by omega)]; done) | (rw [if_pos (by omega)]; go_simp) | (rw [if_neg (by omega)]; go_simp))); (first | with_reducible rfl | exact rfl | skip))); (simp only [Act.put, List.setIfInBounds_toArray, List.set_cons_zero, List.set_cons_succ]))
  ((apply rel_plain (hR := rfl) (hF := fun _ => trivial) (hg := rfl)); (focus ((intro w' hL'); (obtain ⟨hcS, hfS, hlS⟩ := bcell hL'); (try simp only [World.size_setCell, World.size_alloc, World.size_drew] at hcS hfS hlS); (go_simp); (try go_bits); (try (first | (rw [if_pos (by omega)]; done) | (rw [if_neg (by omega)]; done) | (rw [if_pos (by omega)]; go_simp) | (rw [if_neg (by omega)]; go_simp))); (first | with_reducible rfl | exact rfl | skip))); (simp only [Act.put, List.setIfInBounds_toArray, List.set_cons_zero, List.set_cons_succ]))
  ((apply rel_plain (hR := rfl) (hF := fun _ => trivial) (hg := rfl)); (focus ((intro w' hL'); (obtain ⟨hcS, hfS, hlS⟩ := bcell hL'); (try simp only [World.size_setCell, World.size_alloc, World.size_drew] at hcS hfS hlS); (go_simp); (try go_bits); (try (first | (rw [if_pos (by omega)]; done) | (rw [if_neg (by omega)]; done) | (rw [if_pos (by omega)]; go_simp) | (rw [if_neg (by omega)]; go_simp))); (first | with_reducible rfl | exact rfl | skip))); (simp only [Act.put, List.setIfInBounds_toArray, List.set_cons_zero, List.set_cons_succ]))
  ((apply rel_plain (hR := rfl) (hF := fun _ => trivial) (hg := rfl)); (focus ((intro w' hL'); (obtain ⟨hcS, hfS, hlS⟩ := bcell hL'); (try simp only [World.size_setCell, World.size_alloc, World.size_drew] at hcS hfS hlS); (go_simp); (try go_bits); (try (first | (rw [if_pos (by omega)]; done) | (rw [if_neg (by omega)]; done) | (rw [if_pos (by omega)]; go_simp) | (rw [if_neg (by omega)]; go_simp))); (first | with_reducible rfl | exact rfl | skip))); (simp only [Act.put, List.setIfInBounds_toArray, List.set_cons_zero, List.set_cons_succ]))
  ((apply rel_plain (hR := rfl) (hF := fun _ => trivial) (hg := rfl)); (focus ((intro w' hL'); (obtain ⟨hcS, hfS, hlS⟩ := bcell hL'); (try simp only [World.size_setCell, World.size_alloc, World.size_drew] at hcS hfS hlS); (go_simp); (try go_bits); (try (first | (rw [if_pos (by omega)]; done) | (rw [if_neg (by omega)]; done) | (rw [if_pos (by omega)]; go_simp) | (rw [if_neg (by omega)]; go_simp))); (first | with_reducible rfl | exact rfl | skip))); (simp only [Act.put, List.setIfInBounds_toArray, List.set_cons_zero, List.set_cons_succ]))
  ((apply rel_plain (hR := rfl) (hF := fun _ => trivial) (hg := rfl)); (focus ((intro w' hL'); (obtain ⟨hcS, hfS, hlS⟩ := bcell hL'); (try simp only [World.size_setCell, World.size_alloc, World.size_drew] at hcS hfS hlS); (go_simp); (try go_bits); (try (first | (rw [if_pos (by omega)]; done) | (rw [if_neg (by omega)]; done) | (rw [if_pos (by omega)]; go_simp) | (rw [if_neg (by omega)]; go_simp))); (first | with_reducible rfl | exact rfl | skip))); (simp only [Act.put, List.setIfInBounds_toArray, List.set_cons_zero, List.set_cons_succ]))
  ((apply rel_plain (hR := rfl) (hF := fun _ => trivial) (hg := rfl)); (focus ((intro w' hL'); (obtain ⟨hcS, hfS, hlS⟩ := bcell hL'); (try simp only [World.size_setCell, World.size_alloc, World.size_drew] at hcS hfS hlS); (go_simp); (try go_bits); (try (first | (rw [if_pos (by omega)]; done) | (rw [if_neg (by omega)]; done) | (rw [if_pos (by omega)]; go_simp) | (rw [if_neg (by omega)]; go_simp))); (first | with_reducible rfl | exact rfl | skip))); (simp only [Act.put, List.setIfInBounds_toArray, List.set_cons_zero, List.set_cons_succ]))
  ((apply rel_plain (hR := rfl) (hF := fun _ => trivial) (hg := rfl)); (focus ((intro w' hL'); (obtain ⟨hcS, hfS, hlS⟩ := bcell hL'); (try simp only [World.size_setCell, World.size_alloc, World.size_drew] at hcS hfS hlS); (go_simp); (try go_bits); (try (first | (rw [if_pos (by omega)]; done) | (rw [if_neg (by omega)]; done) | (rw [if_pos (by omega)]; go_simp) | (rw [if_neg (by omega)]; go_simp))); (first | with_reducible rfl | exact rfl | skip))); (simp only [Act.put, List.setIfInBounds_toArray, List.set_cons_zero, List.set_cons_succ]))
  ((apply rel_plain (hR := rfl) (hF := fun _ => trivial) (hg := rfl)); (focus ((intro w' hL'); (obtain ⟨hcS, hfS, hlS⟩ := bcell hL'); (try simp only [World.size_setCell, World.size_alloc, World.size_drew] at hcS hfS hlS); (go_simp); (try go_bits); (try (first | (rw [if_pos (by omega)]; done) | (rw [if_neg (by omega)]; done) | (rw [if_pos (by omega)]; go_simp) | (rw [if_neg (by omega)]; go_simp))); (first | with_reducible rfl | exact rfl | skip))); (simp only [Act.put, List.setIfInBounds_toArray, List.set_cons_zero, List.set_cons_succ]))
  ((apply rel_plain (hR := rfl) (hF := fun _ => trivial) (hg := rfl)); (focus ((intro w' hL'); (obtain ⟨hcS, hfS, hlS⟩ := bcell hL'); (try simp only [World.size_setCell, World.size_alloc, World.size_drew] at hcS hfS hlS); (go_simp); (try go_bits); (try (first | (rw [if_pos (by omega)]; done) | (rw [if_neg (by omega)]; done) | (rw [if_pos (by omega)]; go_simp) | (rw [if_neg (by omega)]; go_simp))); (first | with_reducible rfl | exact rfl | skip))); (simp only [Act.put, List.setIfInBounds_toArray, List.set_cons_zero, List.set_cons_succ]))
  ((apply rel_plain (hR := rfl) (hF := fun _ => trivial) (hg := rfl)); (focus ((intro w' hL'); (obtain ⟨hcS, hfS, hlS⟩ := bcell hL'); (try simp only [World.size_setCell, World.size_alloc, World.size_drew] at hcS hfS hlS); (go_simp); (try go_bits); (try (first | (rw [if_pos (by omega)]; done) | (rw [if_neg (by omega)]; done) | (rw [if_pos (by omega)]; go_simp) | (rw [if_neg (by omega)]; go_simp))); (first | with_reducible rfl | exact rfl | skip))); (simp only [Act.put, List.setIfInBounds_toArray, List.set_cons_zero, List.set_cons_succ]))
  ((apply rel_told (hR := rfl) (hg := rfl)); (focus ((intro w' hL' hD'); (obtain ⟨hcS, hfS, hlS⟩ := bcell hL'); (try simp only [World.size_setCell, World.size_alloc, World.size_drew] at hcS hfS hlS); (go_simp); (try go_bits); (try (first | (rw [if_pos (by omega)]; done) | (rw [if_neg (by omega)]; done) | (rw [if_pos (by omega)]; go_simp) | (rw [if_neg (by omega)]; go_simp))); ((go_at_call 70); (refine (HC _ (b_step hb hL')).mono ?_); (intro e w'' hM); (obtain ⟨A2, c2, e2, hO2, hg2, hB⟩ := hM.gop); (rw [hl2] at e2 hO2 hg2); (refine ⟨_, e2, hB, ?_⟩); ((repeat (first | (refine Tell.hit rfl ?_) | (refine Tell.skip rfl ?_))); exact ⟨A2, c2, rfl, hO2, fun k hk => Nat.le_trans hL'.size (hg2 k hk)⟩)))); (intro v' w0' hv'); (replace hv' := Tell.out hv' rfl); (obtain ⟨A2, c2, rfl, -⟩ := hv'); (simp only [Act.put, List.setIfInBounds_toArray, List.set_cons_zero, List.set_cons_succ]))
  ((apply rel_told (hR := rfl) (hg := rfl)); (focus ((intro w' hL' hD'); (obtain ⟨hcS, hfS, hlS⟩ := bcell hL'); (try simp only [World.size_setCell, World.size_alloc, World.size_drew] at hcS hfS hlS); (go_simp); (try go_bits); (try (first | (rw [if_pos (by omega)]; done) | (rw [if_neg (by omega)]; done) | (rw [if_pos (by omega)]; go_simp) | (rw [if_neg (by omega)]; go_simp))); (refine ⟨b_alloc (Below.refl _ _) _, ?_⟩; ((repeat (first | (refine Tell.hit rfl ?_) | (refine Tell.skip rfl ?_))); exact ⟨_, rfl, hL'.size, Blk.new _ _ _⟩)))); (intro v' w0' hv'); (replace hv' := Tell.out hv' rfl); (obtain ⟨g, rfl, hgw, -⟩ := hv'); (simp only [Act.put, List.setIfInBounds_toArray, List.set_cons_zero, List.set_cons_succ]))
  refine rel_nil ?_
  intro W2 hL2 hF2
  obtain ⟨w0, hl0, g', hg', -, kG⟩ := Known.out (hF2 12) rfl
  cases hg'
  obtain ⟨w8, hl8, A8, c8, e8, hO8, hg8⟩ := Known.out (hF2 11) rfl
  injection e8 with e8; injection e8 with e8; injection e8 with e8 e9; injection e9 with e9 e10; injection e10 with e10 e11; injection e10 with e10 e12 e13; subst e10 e13
  replace kP := kP.b hL2
  replace kR := kR.b hL2
  replace hb := b_step hb hL2
  have kX := kG.b hl0
  have hO := hO8.b hl8
  clear ekP fkP lkP
  clear gc gf gl hF2 hl0 kG hl8 hO8 HC
  have hAg := own_blk_ne hO kX (by decide)
  have hRl := kR.cells.2.2
  obtain ⟨ga, rfl⟩ := hO.someA (by rw [hl2]; omega)
  have hag : ga ≠ g := hAg ga rfl
  have hga : w.heap.size + 1 < ga := by have := hg8 ga rfl; omega
  clear hg8
  obtain ⟨ekX, fkX, lkX⟩ := kX.cells
  go_wp2_with fail
  refine wp_name (fun W => Below w.heap.size w W ∧ Blk W (w.heap.size + 1) #[.int .i64 0, .int .i64 0, .slice none 0 0, .int .i64 0, .int .i64 0] 44 ∧ Blk W g #[.int .i64 p.q, .int .i64 p.s, .slice (some ⟨ga, 0, none⟩) (p.steps.length - st) c2, .int .i64 p.fr, .int .i64 p.by_] 44 ∧ Own stepC 7 56 146 W (.slice (some ⟨ga, 0, none⟩) (p.steps.length - st) c2) (LL.tab (p.steps.length - st) (fun i => LL.nth p.steps (st + i)))) ⟨(by repeat' (first | with_reducible exact Below.refl _ _ | with_reducible assumption | with_reducible refine b_alloc ?_ _ | with_reducible refine b_drewN ?_ _ | with_reducible refine b_drew ?_ | with_reducible refine b_set ?_ (by first | (simp only [World.size_setCell, World.size_alloc, World.size_drew]; omega) | (simp; done) | (simp; omega)) _ | with_reducible refine b_step ?_ (by with_reducible assumption))), ((((kR.s (by simp only [ne_eq]; omega) _).s (by simp only [ne_eq]; omega) _).s (by simp only [ne_eq]; omega) _).s (by simp only [ne_eq]; omega) _).s (by simp only [ne_eq]; omega) _, by simpa using ((((kX.put 0 (.int .i64 p.q)).put 1 (.int .i64 p.s)).put 2 (.slice (some ⟨ga, 0, none⟩) (p.steps.length - st) c2)).put 3 (.int .i64 p.fr)).put 4 (.int .i64 p.by_), ((((hO.s _ (fun k hk => by have := hAg k hk; simp only; omega)).s _ (fun k hk => by have := hAg k hk; simp only; omega)).s _ (fun k hk => by have := hAg k hk; simp only; omega)).s _ (fun k hk => by have := hAg k hk; simp only; omega)).s _ (fun k hk => by have := hAg k hk; simp only; omega)⟩ ?_
  clear ekX fkX lkX
  clear hb kR kX hO
  rintro W3 ⟨hb, kR, kX, hO⟩
  obtain ⟨ekX, fkX, lkX⟩ := kX.cells
  have hSt := hO.St 0 (by omega)
  obtain ⟨c4, c5, f0, gl⟩ := hSt
  have hga2 : ∀ k, Value.ownBlock (.slice (some ⟨ga, 0, none⟩) (p.steps.length - st) c2) = some k → w.heap.size + 1 < k ∧ k ≠ g := fun k hk => by have := hAg k hk; injection hk with hk; simp only at hk; omega
  clear hAg
  have hm1 : 0 < p.steps.length - st := by omega
  have hgx : w.heap.size + 1 < g := by omega
  by_cases hm2 : 1 < p.steps.length - st
  · have hTfr : (LL.tlP p st fr by_ now).fr = p.fr := if_pos (by omega)
    generalize hm : p.steps.length - st = m at *
    have Hm := Lib.hid hm
    clear hm
    go_region
    (try simp only [List.getElem_toArray, List.getElem_cons_succ, List.getElem_cons_zero, Act.put, List.setIfInBounds_toArray, List.set_cons_zero, List.set_cons_succ])
    go_wp2_with fail
    refine wp_name (fun W => Below w.heap.size w W ∧ Blk W (w.heap.size + 1) #[.int .i64 0, .int .i64 0, .slice none 0 0, .int .i64 0, .int .i64 0] 44 ∧ Blk W g #[.int .i64 p.q, .int .i64 p.s, .slice (some ⟨ga, 0, none⟩) m c2, .int .i64 p.fr, .int .i64 p.by_] 44 ∧ Own stepC 7 56 146 W (.slice (some ⟨ga, 0, none⟩) m c2) (LL.tab m (LL.tl0 p st fr by_))) ⟨(by repeat' (first | with_reducible exact Below.refl _ _ | with_reducible assumption | with_reducible refine b_alloc ?_ _ | with_reducible refine b_drewN ?_ _ | with_reducible refine b_drew ?_ | with_reducible refine b_set ?_ (by first | (simp only [World.size_setCell, World.size_alloc, World.size_drew]; omega) | (simp; done) | (simp; omega)) _ | with_reducible refine b_step ?_ (by with_reducible assumption))), ((kR.s (by simp only [ne_eq]; omega) _).s (by simp only [ne_eq]; omega) _).d, ((kX.s (by simp only [ne_eq]; omega) _).s (by simp only [ne_eq]; omega) _).d, ((hO.updSt 0 hm1 4 (x := .int .i64 fr) (s := LL.setW (LL.nth p.steps st) fr (LL.nth p.steps st).by_) (by omega) rfl rfl).updSt 0 hm1 5 (x := .int .i64 by_) (s := LL.setW (LL.nth p.steps st) fr by_) (by omega) (by rw [LL.upd_same]; rfl) (LL.tl0_upd p st fr by_)).d⟩ ?_
    clear ekX fkX lkX
    clear hb kR kX hO c4 c5 f0 gl
    rintro W4 ⟨hb, kR, kX, hO⟩
    obtain ⟨ekX, fkX, lkX⟩ := kX.cells
    have hSt := hO.St 1 hm2
    obtain ⟨c4, c5, f0, gl⟩ := hSt
    go_region
    (try simp only [List.getElem_toArray, List.getElem_cons_succ, List.getElem_cons_zero, Act.put, List.setIfInBounds_toArray, List.set_cons_zero, List.set_cons_succ])
    go_wp2_with fail
    refine calls_name (fun W => Below w.heap.size w W ∧ Blk W (w.heap.size + 1) #[.int .i64 0, .int .i64 0, .slice none 0 0, .int .i64 0, .int .i64 0] 44 ∧ Blk W g #[.int .i64 p.q, .int .i64 p.s, .slice (some ⟨ga, 0, none⟩) m c2, .int .i64 p.fr, .int .i64 p.by_] 44 ∧ Own stepC 7 56 146 W (.slice (some ⟨ga, 0, none⟩) m c2) (LL.tab m (LL.tlF p st fr by_ now))) ⟨(by repeat' (first | with_reducible exact Below.refl _ _ | with_reducible assumption | with_reducible refine b_alloc ?_ _ | with_reducible refine b_drewN ?_ _ | with_reducible refine b_drew ?_ | with_reducible refine b_set ?_ (by first | (simp only [World.size_setCell, World.size_alloc, World.size_drew]; omega) | (simp; done) | (simp; omega)) _ | with_reducible refine b_step ?_ (by with_reducible assumption))), (kR.s (by simp only [ne_eq]; omega) _).d, (kX.s (by simp only [ne_eq]; omega) _).d, (hO.updSt 1 hm2 4 (x := .int .i64 (max (LL.nth p.steps (st + 1)).fr (now + 1))) (s := LL.setW (LL.nth p.steps (st + 1)) (max (LL.nth p.steps (st + 1)).fr (now + 1)) (LL.nth p.steps (st + 1)).by_) (by omega) rfl (LL.tl1_upd p st fr by_ now)).d⟩ ?_
    clear ekX fkX lkX
    clear hb kR kX hO c4 c5 f0 gl
    rintro W5 ⟨hb, kR, kX, hO⟩
    have hTl : (LL.tlP p st fr by_ now).steps.length = m := (LL.tlP_len _ _ _ _ _).trans Hm.out
    have hTs : (LL.tlP p st fr by_ now).steps = LL.tab m (LL.tlF p st fr by_ now) := by rw [← Hm.out]; rfl
    have HC := fun W h => impl_FlySpans_c (LL.tlP p st fr by_ now) (some ⟨ga, 0, none⟩) c2 W h
    simp only [hTl, hTfr] at HC
    refine (HC _ (by rw [hTs]; exact hO.rd_at' stepE)).mono ?_
    clear HC
    intro e W6 hM
    obtain ⟨As, cs, rfl, -, -, hB⟩ := hM.go2 spanE
    clear hM
    replace hb := b_step hb hB; replace kR := kR.b hB; replace kX := kX.b hB; replace hO := hO.b hB; clear hB
    have hIff := LL.tlP_flies (now := now) hP hst hf hby
    obtain ⟨ekR, fkR, lkR⟩ := kR.cells; obtain ⟨ekX, fkX, lkX⟩ := kX.cells
    by_cases hS : LL.SpansOk (LL.tlP p st fr by_ now)
    · rw [decide_eq_true (hIff.2 hS)]
      go_wp2_with fail
      (refine bodyPost_ret (res_ct rfl _ [.int .i64 p.q, .int .i64 p.s, .slice (some ⟨ga, 0, none⟩) m c2, .int .i64 p.fr, .int .i64 p.by_] rfl _ rfl _ Try.underlying44 rfl (by kernel_rfl) (by simp only [CellsAt, and_true]; and_intros <;> go_simp)) rfl ?_)
      rw [LL.leftM_yes hS, decide_eq_true hS]
      refine ⟨.slice (some ⟨ga, 0, none⟩) m c2, by rw [hTfr]; rfl, by rw [hTs]; exact ((((hO.s _ (fun k hk => by have := hga2 k hk; simp only; omega)).s _ (fun k hk => by have := hga2 k hk; simp only; omega)).s _ (fun k hk => by have := hga2 k hk; simp only; omega)).s _ (fun k hk => by have := hga2 k hk; simp only; omega)).s _ (fun k hk => by have := hga2 k hk; simp only; omega), fun k hk => by have := hga2 k hk; omega, (by repeat' (first | with_reducible exact Below.refl _ _ | with_reducible assumption | with_reducible refine b_alloc ?_ _ | with_reducible refine b_drewN ?_ _ | with_reducible refine b_drew ?_ | with_reducible refine b_set ?_ (by first | (simp only [World.size_setCell, World.size_alloc, World.size_drew]; omega) | (simp; done) | (simp; omega)) _ | with_reducible refine b_step ?_ (by with_reducible assumption)))⟩
    · rw [decide_eq_false (fun h9 => hS (hIff.1 h9))]
      go_wp2_with fail
      (refine bodyPost_ret (res_ct rfl _ [.int .i64 0, .int .i64 0, .slice none 0 0, .int .i64 0, .int .i64 0] rfl _ rfl _ Try.underlying44 rfl (by kernel_rfl) (by simp only [CellsAt, and_true]; and_intros <;> go_simp)) rfl ?_)
      rw [LL.leftM_no hS, decide_eq_false hS]
      exact MkPB.none (by repeat' (first | with_reducible exact Below.refl _ _ | with_reducible assumption | with_reducible refine b_alloc ?_ _ | with_reducible refine b_drewN ?_ _ | with_reducible refine b_drew ?_ | with_reducible refine b_set ?_ (by first | (simp only [World.size_setCell, World.size_alloc, World.size_drew]; omega) | (simp; done) | (simp; omega)) _ | with_reducible refine b_step ?_ (by with_reducible assumption)))
  · have hTfr : (LL.tlP p st fr by_ now).fr = max p.fr (now + 1) := if_neg (by omega)
    generalize hm : p.steps.length - st = m at *
    have Hm := Lib.hid hm
    clear hm
    go_region
    (try simp only [List.getElem_toArray, List.getElem_cons_succ, List.getElem_cons_zero, Act.put, List.setIfInBounds_toArray, List.set_cons_zero, List.set_cons_succ])
    go_wp2_with fail
    refine calls_name (fun W => Below w.heap.size w W ∧ Blk W (w.heap.size + 1) #[.int .i64 0, .int .i64 0, .slice none 0 0, .int .i64 0, .int .i64 0] 44 ∧ Blk W g #[.int .i64 p.q, .int .i64 p.s, .slice (some ⟨ga, 0, none⟩) m c2, .int .i64 (max p.fr (now + 1)), .int .i64 p.by_] 44 ∧ Own stepC 7 56 146 W (.slice (some ⟨ga, 0, none⟩) m c2) (LL.tab m (LL.tlF p st fr by_ now))) ⟨(by repeat' (first | with_reducible exact Below.refl _ _ | with_reducible assumption | with_reducible refine b_alloc ?_ _ | with_reducible refine b_drewN ?_ _ | with_reducible refine b_drew ?_ | with_reducible refine b_set ?_ (by first | (simp only [World.size_setCell, World.size_alloc, World.size_drew]; omega) | (simp; done) | (simp; omega)) _ | with_reducible refine b_step ?_ (by with_reducible assumption))), (((kR.s (by simp only [ne_eq]; omega) _).s (by simp only [ne_eq]; omega) _).s (by simp only [ne_eq]; omega) _).d, by simpa using (((kX.s (by simp only [ne_eq]; omega) _).s (by simp only [ne_eq]; omega) _).put 3 (.int .i64 (max p.fr (now + 1)))).d, ?_⟩ ?_
    · rw [← LL.tl_one p st fr by_ now m (by omega)]
      exact (((hO.updSt 0 hm1 4 (x := .int .i64 fr) (s := LL.setW (LL.nth p.steps st) fr (LL.nth p.steps st).by_) (by omega) rfl rfl).updSt 0 hm1 5 (x := .int .i64 by_) (s := LL.setW (LL.nth p.steps st) fr by_) (by omega) (by rw [LL.upd_same]; rfl) (LL.tl0_upd p st fr by_)).s _ (fun k hk => by have := hga2 k hk; simp only; omega)).d
    clear ekX fkX lkX
    clear hb kR kX hO c4 c5 f0 gl
    rintro W5 ⟨hb, kR, kX, hO⟩
    have hTl : (LL.tlP p st fr by_ now).steps.length = m := (LL.tlP_len _ _ _ _ _).trans Hm.out
    have hTs : (LL.tlP p st fr by_ now).steps = LL.tab m (LL.tlF p st fr by_ now) := by rw [← Hm.out]; rfl
    have HC := fun W h => impl_FlySpans_c (LL.tlP p st fr by_ now) (some ⟨ga, 0, none⟩) c2 W h
    simp only [hTl, hTfr] at HC
    refine (HC _ (by rw [hTs]; exact hO.rd_at' stepE)).mono ?_
    clear HC
    intro e W6 hM
    obtain ⟨As, cs, rfl, -, -, hB⟩ := hM.go2 spanE
    clear hM
    replace hb := b_step hb hB; replace kR := kR.b hB; replace kX := kX.b hB; replace hO := hO.b hB; clear hB
    have hIff := LL.tlP_flies (now := now) hP hst hf hby
    obtain ⟨ekR, fkR, lkR⟩ := kR.cells; obtain ⟨ekX, fkX, lkX⟩ := kX.cells
    by_cases hS : LL.SpansOk (LL.tlP p st fr by_ now)
    · rw [decide_eq_true (hIff.2 hS)]
      go_wp2_with fail
      (refine bodyPost_ret (res_ct rfl _ [.int .i64 p.q, .int .i64 p.s, .slice (some ⟨ga, 0, none⟩) m c2, .int .i64 (max p.fr (now + 1)), .int .i64 p.by_] rfl _ rfl _ Try.underlying44 rfl (by kernel_rfl) (by simp only [CellsAt, and_true]; and_intros <;> go_simp)) rfl ?_)
      rw [LL.leftM_yes hS, decide_eq_true hS]
      refine ⟨.slice (some ⟨ga, 0, none⟩) m c2, by rw [hTfr]; rfl, by rw [hTs]; exact ((((hO.s _ (fun k hk => by have := hga2 k hk; simp only; omega)).s _ (fun k hk => by have := hga2 k hk; simp only; omega)).s _ (fun k hk => by have := hga2 k hk; simp only; omega)).s _ (fun k hk => by have := hga2 k hk; simp only; omega)).s _ (fun k hk => by have := hga2 k hk; simp only; omega), fun k hk => by have := hga2 k hk; omega, (by repeat' (first | with_reducible exact Below.refl _ _ | with_reducible assumption | with_reducible refine b_alloc ?_ _ | with_reducible refine b_drewN ?_ _ | with_reducible refine b_drew ?_ | with_reducible refine b_set ?_ (by first | (simp only [World.size_setCell, World.size_alloc, World.size_drew]; omega) | (simp; done) | (simp; omega)) _ | with_reducible refine b_step ?_ (by with_reducible assumption)))⟩
    · rw [decide_eq_false (fun h9 => hS (hIff.1 h9))]
      go_wp2_with fail
      (refine bodyPost_ret (res_ct rfl _ [.int .i64 0, .int .i64 0, .slice none 0 0, .int .i64 0, .int .i64 0] rfl _ rfl _ Try.underlying44 rfl (by kernel_rfl) (by simp only [CellsAt, and_true]; and_intros <;> go_simp)) rfl ?_)
      rw [LL.leftM_no hS, decide_eq_false hS]
      exact MkPB.none (by repeat' (first | with_reducible exact Below.refl _ _ | with_reducible assumption | with_reducible refine b_alloc ?_ _ | with_reducible refine b_drewN ?_ _ | with_reducible refine b_drew ?_ | with_reducible refine b_set ?_ (by first | (simp only [World.size_setCell, World.size_alloc, World.size_drew]; omega) | (simp; done) | (simp; omega)) _ | with_reducible refine b_step ?_ (by with_reducible assumption)))
end Go.Proofs.Ytkpnjnkfbhomgaa
