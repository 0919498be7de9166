/- What is left of a path: the reference's FlyRest and FlySeen. -/
import Derived.Test.YtpeojnknfonmlaaJ8

set_option linter.unusedVariables false
set_option linter.unusedSimpArgs false
namespace Go.Proofs.Ytpeojnknfonmlaa
open Go.RowKit
attribute [local go_sem] w_lt_add w_le_of w_le_add max2_i min2_i ite_max ite_min
namespace LL
theorem hdP_nil (p : Path) : hdP p [] = p := hdK_zero p []
def tl0P (p : Path) (st : Nat) (fr by_ : Int) : Path := ⟨p.q, p.s, tab (p.steps.length - st) (tl0 p st fr by_), p.fr, p.by_⟩
theorem tl0P_len (p : Path) (st : Nat) (fr by_ : Int) : (tl0P p st fr by_).steps.length = p.steps.length - st := tab_len _ _
theorem tl0_aft (p : Path) (st : Nat) (fr by_ now : Int) (h : st < p.steps.length) : aftP (tl0P p st fr by_) now = tlP p st fr by_ now := by
  have hl := tl0P_len p st fr by_
  unfold aftP
  rw [hl]
  have e1 : tab (p.steps.length - st) (upd (fun i => nth (tl0P p st fr by_).steps i) 1 (setW (nth (tl0P p st fr by_).steps 1) (max (nth (tl0P p st fr by_).steps 1).fr (now + 1)) (nth (tl0P p st fr by_).steps 1).by_)) = tab (p.steps.length - st) (tlF p st fr by_ now) := by
    rw [← tl1_upd]
    refine tab_congr fun i hi => ?_
    have e2 : ∀ j, j < p.steps.length - st → nth (tl0P p st fr by_).steps j = tl0 p st fr by_ j := fun j hj => tab_getD hj
    unfold upd
    by_cases h1 : i = 1
    · subst h1
      rw [if_pos rfl, if_pos rfl, e2 1 hi]; rfl
    · rw [if_neg h1, if_neg h1]; exact e2 i hi
  rw [e1]
  unfold tlP
  congr 1
  by_cases h2 : 1 < p.steps.length - st
  · rw [if_pos h2, if_pos (by omega)]; rfl
  · rw [if_neg h2, if_neg (by omega)]; rfl
end LL
set_option maxRecDepth 100000 in
set_option maxHeartbeats 4000000 in
theorem spec_FlyRest_c (p : LL.Path) (A : Option Addr) (c : Nat) (st en now : Int) (w : World) (h : RdS w A p.steps.length c p.steps) : Calls Try.prog 44 #[.agg #[.int .i64 p.q, .int .i64 p.s, .slice A p.steps.length c, .int .i64 p.fr, .int .i64 p.by_], .int .i64 st, .int .i64 en, .int .i64 now] w (MkPB 79 w (LL.restM p st en now) (decide (LL.CanRest p st en now))) := by
  have hroom := h.room
  go_enter Try.func44, Try.ntmps44
  go_wp2_with fail
  refine calls_name (fun W => Below w.heap.size w W ∧ Blk W w.heap.size #[.int .i64 p.q, .int .i64 p.s, .slice A p.steps.length c, .int .i64 p.fr, .int .i64 p.by_] 43 ∧ Blk W (w.heap.size + 1) #[.int .i64 0, .int .i64 0, .slice none 0 0, .int .i64 0, .int .i64 0] 43) ⟨(by repeat' (first | with_reducible exact Below.refl _ _ | with_reducible assumption | with_reducible refine b_alloc ?_ _ | with_reducible refine b_drewN ?_ _ | with_reducible refine b_drew ?_ | with_reducible refine b_set ?_ (by first | (simp only [World.size_setCell, World.size_alloc, World.size_drew]; omega) | (simp; done) | (simp; omega)) _ | with_reducible refine b_step ?_ (by with_reducible assumption))), (by repeat' (first | with_reducible assumption | with_reducible exact Blk.new _ _ _ | with_reducible exact Blk.new' _ _ (by first | (simp only [World.size_alloc, World.size_setCell, World.size_drew]; done) | (simp only [World.size_alloc, World.size_setCell, World.size_drew]; omega) | omega) | with_reducible refine Blk.a ?_ _ | with_reducible refine Blk.d ?_ | with_reducible refine Blk.dN ?_ _ | with_reducible refine Blk.s ?_ (by simp only [ne_eq]; omega) _ | with_reducible refine Blk.b ?_ (by with_reducible assumption))), (by repeat' (first | with_reducible assumption | with_reducible exact Blk.new _ _ _ | with_reducible exact Blk.new' _ _ (by first | (simp only [World.size_alloc, World.size_setCell, World.size_drew]; done) | (simp only [World.size_alloc, World.size_setCell, World.size_drew]; omega) | omega) | with_reducible refine Blk.a ?_ _ | with_reducible refine Blk.d ?_ | with_reducible refine Blk.dN ?_ _ | with_reducible refine Blk.s ?_ (by simp only [ne_eq]; omega) _ | with_reducible refine Blk.b ?_ (by with_reducible assumption)))⟩ ?_
  rintro W1 ⟨hb, kP, kR⟩
  refine (spec_FlyPathOk_c p A c _ (h.mono hb)).mono ?_
  rintro e W2 ⟨rfl, hB⟩
  replace hb := b_step hb hB; replace kP := kP.b hB; replace kR := kR.b hB; clear hB
  by_cases hP : LL.PathOk p
  · rw [decide_eq_true hP]
    by_cases hI : LL.In st 0 (p.steps.length - 1)
    · by_cases hN : LL.In now en 10000
      · obtain ⟨g3, n1⟩ := id hN
        by_cases g2 : 0 ≤ en
        · have n0 : 0 ≤ now := by omega
          obtain ⟨k, rfl⟩ : ∃ k : Nat, st = (k : Int) := ⟨st.toNat, by have := hI.1; omega⟩
          have hk : k < p.steps.length := by have := hI.2; have := hP.2.1.1; omega
          have hl := hP.2.1.2
          obtain ⟨ekP, fkP, lkP⟩ := kP.cells; obtain ⟨ekR, fkR, lkR⟩ := kR.cells
          go_wp2_with (go_at_call 72; refine (spec_l1In_c _ _ _ _).mono ?_; rintro e w' ⟨rfl, rfl⟩)
          refine calls_name (fun W => Below W2.heap.size W2 W) (by repeat' (first | with_reducible exact Below.refl _ _ | with_reducible assumption | with_reducible refine b_alloc ?_ _ | with_reducible refine b_drewN ?_ _ | with_reducible refine b_drew ?_ | with_reducible refine b_set ?_ (by first | (simp only [World.size_setCell, World.size_alloc, World.size_drew]; omega) | (simp; done) | (simp; omega)) _ | with_reducible refine b_step ?_ (by with_reducible assumption))) ?_
          intro W3 hE
          clear ekP fkP lkP ekR fkR lkR
          replace hb := b_step hb hE; replace kP := kP.b hE; replace kR := kR.b hE; clear hE
          have HC := fun W hW => spec_l6Held_c p [] A (some ⟨W2.heap.size, 0, none⟩) c 0 W hW ⟨rfl, Nat.le_refl _, by simp, fun h9 => by simp at h9⟩
          rw [LL.hdP_nil] at HC
          refine (HC _ (h.mono hb)).mono ?_
          clear HC
          intro e W4 hM
          obtain ⟨A2, c2, rfl, hQ, -, hB⟩ := hM.gop
          replace hb := b_step hb hB; replace kP := kP.b hB; replace kR := kR.b hB; clear hB
          clear hM
          obtain ⟨ekP, fkP, lkP⟩ := kP.cells
          go_wp2_with fail
          clear ekP fkP lkP
          refine calls_name (fun W => Below W4.heap.size W4 W) (by repeat' (first | with_reducible exact Below.refl _ _ | with_reducible assumption | with_reducible refine b_alloc ?_ _ | with_reducible refine b_drewN ?_ _ | with_reducible refine b_drew ?_ | with_reducible refine b_set ?_ (by first | (simp only [World.size_setCell, World.size_alloc, World.size_drew]; omega) | (simp; done) | (simp; omega)) _ | with_reducible refine b_step ?_ (by with_reducible assumption))) ?_; intro W5 hE; replace hb := b_step hb hE; replace kP := kP.b hE; replace kR := kR.b hE; replace hQ := hQ.b hE; clear hE
          refine (spec_l7Tail_c p A2 c2 k _ hk (by omega) (hQ.rd_at' stepE)).mono ?_
          intro e W6 hM
          obtain ⟨A3, c3, rfl, hO, hOg, hB⟩ := hM.gop
          rw [LL.drP_len] at hO hOg ⊢
          have hR6 := kR.cells.2.2
          replace hb := b_step hb hB; replace kP := kP.b hB; replace kR := kR.b hB; replace hQ := hQ.b hB; clear hB
          clear hM
          obtain ⟨g, rfl⟩ := hO.someA (by rw [LL.drP_len]; omega)
          have hgl : w.heap.size + 1 < g := by have := hOg g rfl; omega
          have hO2 : ∀ j, Value.ownBlock (.slice (some ⟨g, 0, none⟩) (p.steps.length - k) c3) = some j → w.heap.size + 1 < j := fun j hj => by have := hOg j hj; omega
          have hgx := (hO.row.lt _ rfl).2
          simp only at hgx
          clear hOg
          have hW6 := kR.cells.2.2
          go_wp2_with fail
          refine wp_name (fun W => Below W6.heap.size W6 W ∧ Blk W W6.heap.size #[.int .i64 p.q, .int .i64 p.s, .slice (some ⟨g, 0, none⟩) (p.steps.length - k) c3, .int .i64 p.fr, .int .i64 p.by_] 43) ⟨(by repeat' (first | with_reducible exact Below.refl _ _ | with_reducible assumption | with_reducible refine b_alloc ?_ _ | with_reducible refine b_drewN ?_ _ | with_reducible refine b_drew ?_ | with_reducible refine b_set ?_ (by first | (simp only [World.size_setCell, World.size_alloc, World.size_drew]; omega) | (simp; done) | (simp; omega)) _ | with_reducible refine b_step ?_ (by with_reducible assumption))), Blk.new _ _ _⟩ ?_
          rintro W7 ⟨hE, kX⟩
          replace hO : Own stepC 7 56 79 W6 (.slice (some ⟨g, 0, none⟩) (p.steps.length - k) c3) (LL.tab (p.steps.length - k) (fun i => LL.nth p.steps (k + i))) := hO
          replace hb := b_step hb hE; replace kP := kP.b hE; replace kR := kR.b hE; replace hO := hO.b hE; replace hQ := hQ.b hE; clear hE
          generalize W6.heap.size = gx at *
          have hm0 : 0 < p.steps.length - k := by omega
          clear hQ
          obtain ⟨ekX, fkX, lkX⟩ := kX.cells
          obtain ⟨c4, c5, f0, gl2⟩ := hO.St 0 hm0
          obtain ⟨gc, gf, gl⟩ := bcell hb
          ((refine calm_tail_b 11 (by kernel_rfl) (by kernel_rfl) ?_); (simp only [List.take_succ_cons, List.take_zero, List.drop_succ_cons, List.drop_zero]); (repeat ((apply sure_cons (hg := rfl)); (focus ((intro w' hS'); (obtain ⟨hcS, hfS, hlS⟩ := bcell hS'); (try simp only [World.size_setCell, World.size_alloc, World.size_drew] at hS' hcS hfS hlS); (go_simp); (try go_bits); (try ((first | rw [if_pos (by omega)] | rw [if_neg (by omega)]); go_simp)); (first | (with_reducible rfl) | (with_reducible exact rfl) | (with_reducible exact ⟨rfl, hS'⟩) | (go_at_call 87; go_loud (refine (spec_l1Max_c _ _ _).mono ?_); rintro e w'' ⟨rfl, hb⟩; (first | (subst hb; exact ⟨rfl, hS'⟩) | exact ⟨rfl, b_to hS' hb (by first | exact Nat.le_refl _ | (have h1 := hS'.size; (try simp only [World.size_setCell, World.size_alloc, World.size_drew] at h1); omega))⟩))))); (simp only [Act.put, List.setIfInBounds_toArray, List.set_cons_zero, List.set_cons_succ]))); (refine sure_nil ?_))
          intro W8 hS8
          clear ekX fkX lkX
          clear c4 c5 f0 gl2 gc gf gl
          replace hb := b_step hb hS8; replace kP := kP.b hS8; replace kR := kR.b hS8; replace kX := kX.b hS8; replace hO := hO.b hS8; clear hS8
          obtain ⟨ekX, fkX, lkX⟩ := kX.cells
          obtain ⟨c4, c5, f0, gl2⟩ := hO.St 0 hm0
          go_wp2_with fail
          refine wp_name (fun W => Below w.heap.size w W ∧ Blk W (w.heap.size + 1) #[.int .i64 0, .int .i64 0, .slice none 0 0, .int .i64 0, .int .i64 0] 43 ∧ Blk W gx #[.int .i64 p.q, .int .i64 p.s, .slice (some ⟨g, 0, none⟩) (p.steps.length - k) c3, .int .i64 p.fr, .int .i64 p.by_] 43 ∧ Own stepC 7 56 79 W (.slice (some ⟨g, 0, none⟩) (p.steps.length - k) c3) (LL.tab (p.steps.length - k) (LL.upd (fun i => LL.nth p.steps (k + i)) 0 (LL.setW (LL.nth p.steps k) (max (LL.nth p.steps k).fr en) (LL.nth p.steps k).by_)))) ⟨b_set hb (by simp only; omega) _, kR.s (by simp only [ne_eq]; omega) _, kX.s (by simp only [ne_eq]; omega) _, hO.updSt 0 hm0 4 (x := .int .i64 (max (LL.nth p.steps k).fr en)) (s := LL.setW (LL.nth p.steps k) (max (LL.nth p.steps k).fr en) (LL.nth p.steps k).by_) (by omega) rfl rfl⟩ ?_
          clear ekX fkX lkX
          clear hb kR kX hO c4 c5 f0 gl2 kP
          rintro W9 ⟨hb, kR, kX, hO⟩
          obtain ⟨ekX, fkX, lkX⟩ := kX.cells
          obtain ⟨c4, c5, f0, gl2⟩ := hO.St 0 hm0
          rw [LL.upd_same] at c4 c5
          obtain ⟨gc, gf, gl⟩ := bcell hb
          ((refine calm_tail_b 11 (by kernel_rfl) (by kernel_rfl) ?_); (simp only [List.take_succ_cons, List.take_zero, List.drop_succ_cons, List.drop_zero]); (repeat ((apply sure_cons (hg := rfl)); (focus ((intro w' hS'); (obtain ⟨hcS, hfS, hlS⟩ := bcell hS'); (try simp only [World.size_setCell, World.size_alloc, World.size_drew] at hS' hcS hfS hlS); (go_simp); (try go_bits); (try ((first | rw [if_pos (by omega)] | rw [if_neg (by omega)]); go_simp)); (first | (with_reducible rfl) | (with_reducible exact rfl) | (with_reducible exact ⟨rfl, hS'⟩) | (go_at_call 88; go_loud (refine (spec_l1Min_c _ _ _).mono ?_); rintro e w'' ⟨rfl, hb⟩; (first | (subst hb; exact ⟨rfl, hS'⟩) | exact ⟨rfl, b_to hS' hb (by first | exact Nat.le_refl _ | (have h1 := hS'.size; (try simp only [World.size_setCell, World.size_alloc, World.size_drew] at h1); omega))⟩))))); (simp only [Act.put, List.setIfInBounds_toArray, List.set_cons_zero, List.set_cons_succ]))); (refine sure_nil ?_))
          intro W10 hS10
          clear ekX fkX lkX
          clear c4 c5 f0 gl2 gc gf gl
          replace hb := b_step hb hS10; replace kR := kR.b hS10; replace kX := kX.b hS10; replace hO := hO.b hS10; clear hS10
          obtain ⟨ekX, fkX, lkX⟩ := kX.cells
          obtain ⟨c4, c5, f0, gl2⟩ := hO.St 0 hm0
          go_wp2_with fail
          refine calls_name (fun W => Below w.heap.size w W ∧ Blk W (w.heap.size + 1) #[.int .i64 0, .int .i64 0, .slice none 0 0, .int .i64 0, .int .i64 0] 43 ∧ Own stepC 7 56 79 W (.slice (some ⟨g, 0, none⟩) (p.steps.length - k) c3) (LL.tab (p.steps.length - k) (LL.tl0 p k (max (LL.nth p.steps k).fr en) (min (LL.nth p.steps k).by_ en)))) ⟨b_set hb (by simp only; omega) _, kR.s (by simp only [ne_eq]; omega) _, hO.updSt 0 hm0 5 (x := .int .i64 (min (LL.nth p.steps k).by_ en)) (s := LL.setW (LL.nth p.steps k) (max (LL.nth p.steps k).fr en) (min (LL.nth p.steps k).by_ en)) (by omega) (by rw [LL.upd_same]; rfl) (LL.tl0_upd p k (max (LL.nth p.steps k).fr en) (min (LL.nth p.steps k).by_ en))⟩ ?_
          clear ekX fkX lkX
          clear hb kR kX hO c4 c5 f0 gl2
          rintro W11 ⟨hb, kR, hO⟩
          have HL := LL.tl0P_len p k (max (LL.nth p.steps k).fr en) (min (LL.nth p.steps k).by_ en)
          have HA := fun W (h : Own stepC 7 56 79 W (.slice (some ⟨g, 0, none⟩) (p.steps.length - k) c3) (LL.tab (p.steps.length - k) (LL.tl0 p k (max (LL.nth p.steps k).fr en) (min (LL.nth p.steps k).by_ en)))) => spec_l7After_c (LL.tl0P p k (max (LL.nth p.steps k).fr en) (min (LL.nth p.steps k).by_ en)) (some ⟨g, 0, none⟩) c3 now W (by rw [HL]; exact hm0) (by rw [HL]; omega) n0 n1 (by rw [HL]; exact h)
          rw [LL.tl0_aft p k _ _ now hk, HL] at HA
          refine (HA _ hO).mono ?_
          clear HA HL hO
          rintro e W12 ⟨rfl, hO, hg⟩
          have hL12 := kR.cells.2.2
          replace hb := b_grownB hb hg hb.size (fun j hj => by have := hO2 j hj; omega)
          replace kR := kR.grown hg (fun e9 => by have := hO2 _ e9; omega)
          clear hg
          obtain ⟨ekR, fkR, lkR⟩ := kR.cells
          go_wp2_with fail
          refine calls_name (fun W => Below W12.heap.size W12 W) (by repeat' (first | with_reducible exact Below.refl _ _ | with_reducible assumption | with_reducible refine b_alloc ?_ _ | with_reducible refine b_drewN ?_ _ | with_reducible refine b_drew ?_ | with_reducible refine b_set ?_ (by first | (simp only [World.size_setCell, World.size_alloc, World.size_drew]; omega) | (simp; done) | (simp; omega)) _ | with_reducible refine b_step ?_ (by with_reducible assumption))) ?_; intro W13 hE; clear ekR fkR lkR; replace hb := b_step hb hE; replace kR := kR.b hE; replace hO := hO.b hE; clear hE
          have HL := LL.tlP_len p k (max (LL.nth p.steps k).fr en) (min (LL.nth p.steps k).by_ en) now
          have HC := fun W h => spec_l7Can_c (LL.tlP p k (max (LL.nth p.steps k).fr en) (min (LL.nth p.steps k).by_ en) now) (some ⟨g, 0, none⟩) c3 W (LL.tlP_win hP hk (by omega) (by omega)) h
          rw [HL] at HC
          refine (HC _ (hO.rd_at' stepE)).mono ?_
          clear HC HL
          rintro e W14 ⟨rfl, hB⟩
          replace hb := b_step hb hB; replace kR := kR.b hB; replace hO := hO.b hB; clear hB
          obtain ⟨ekR, fkR, lkR⟩ := kR.cells
          obtain ⟨hR1, hR2⟩ := LL.rest_left hP hk n1 g2 g3
          by_cases hS : LL.SpansOk (LL.tlP p k (max (LL.nth p.steps k).fr en) (min (LL.nth p.steps k).by_ en) now)
          · have hC := hR1.2 hS
            rw [LL.leftM_yes hS] at hR2
            have HR2 := Lib.hid hR2
            rw [canV_yes hS, decide_eq_true hS]
            clear hR1 hR2
            generalize hT : LL.tlP p k (max (LL.nth p.steps k).fr en) (min (LL.nth p.steps k).by_ en) now = T at *
            have hTl : T.steps.length = p.steps.length - k := by rw [← hT]; exact LL.tlP_len _ _ _ _ _
            have HTl := Lib.hid hTl
            clear hT hTl
            go_wp2_with fail
            (refine bodyPost_ret (res_ct rfl _ [.int .i64 T.q, .int .i64 T.s, .slice (some ⟨g, 0, none⟩) (p.steps.length - k) c3, .int .i64 T.fr, .int .i64 T.by_] rfl _ rfl _ Try.underlying43 rfl (by kernel_rfl) (by simp only [CellsAt, and_true]; and_intros <;> go_simp)) rfl ?_)
            rw [HR2.out, decide_eq_true hC]
            exact ⟨.slice (some ⟨g, 0, none⟩) (p.steps.length - k) c3, rfl, (by repeat' (first | with_reducible assumption | with_reducible refine Own.s ?_ _ (fun k hk => by have := hO2 k hk; (try simp only); omega) | with_reducible refine Own.a ?_ _ | with_reducible refine Own.d ?_ | with_reducible refine Own.dN ?_ _ | with_reducible refine Own.b ?_ (by with_reducible assumption))), fun k hk => by have := hO2 k hk; omega, (by repeat' (first | with_reducible exact Below.refl _ _ | with_reducible assumption | with_reducible refine b_alloc ?_ _ | with_reducible refine b_drewN ?_ _ | with_reducible refine b_drew ?_ | with_reducible refine b_set ?_ (by first | (simp only [World.size_setCell, World.size_alloc, World.size_drew]; omega) | (simp; done) | (simp; omega)) _ | with_reducible refine b_step ?_ (by with_reducible assumption)))⟩
          · have hC : ¬ LL.CanRest p k en now := fun h9 => hS (hR1.1 h9)
            rw [canV_no hS, decide_eq_false hS]
            clear hR1 hR2
            go_wp2_with fail
            (refine bodyPost_ret (res_ct rfl _ [.int .i64 0, .int .i64 0, .slice none 0 0, .int .i64 0, .int .i64 0] rfl _ rfl _ Try.underlying43 rfl (by kernel_rfl) (by simp only [CellsAt, and_true]; and_intros <;> go_simp)) rfl ?_)
            rw [LL.restM_no hC, decide_eq_false hC]
            exact MkPB.none (by repeat' (first | with_reducible exact Below.refl _ _ | with_reducible assumption | with_reducible refine b_alloc ?_ _ | with_reducible refine b_drewN ?_ _ | with_reducible refine b_drew ?_ | with_reducible refine b_set ?_ (by first | (simp only [World.size_setCell, World.size_alloc, World.size_drew]; omega) | (simp; done) | (simp; omega)) _ | with_reducible refine b_step ?_ (by with_reducible assumption)))
        · have hS : ¬ LL.CanRest p st en now := fun h9 => g2 h9.2.2.1
          have hl := hP.2.1.2
          obtain ⟨ekP, fkP, lkP⟩ := kP.cells; obtain ⟨ekR, fkR, lkR⟩ := kR.cells
          go_wp2_with (go_at_call 72; refine (spec_l1In_c _ _ _ _).mono ?_; rintro e w' ⟨rfl, rfl⟩)
          (refine bodyPost_ret (res_ct rfl _ [.int .i64 0, .int .i64 0, .slice none 0 0, .int .i64 0, .int .i64 0] rfl _ rfl _ Try.underlying43 rfl (by kernel_rfl) (by simp only [CellsAt, and_true]; and_intros <;> go_simp)) rfl ?_)
          rw [LL.restM_no hS, decide_eq_false hS]
          exact MkPB.none (by repeat' (first | with_reducible exact Below.refl _ _ | with_reducible assumption | with_reducible refine b_alloc ?_ _ | with_reducible refine b_drewN ?_ _ | with_reducible refine b_drew ?_ | with_reducible refine b_set ?_ (by first | (simp only [World.size_setCell, World.size_alloc, World.size_drew]; omega) | (simp; done) | (simp; omega)) _ | with_reducible refine b_step ?_ (by with_reducible assumption)))
      · have hS : ¬ LL.CanRest p st en now := fun h9 => hN ⟨h9.2.2.2.1, h9.2.2.2.2.1⟩
        have hl := hP.2.1.2
        obtain ⟨ekP, fkP, lkP⟩ := kP.cells; obtain ⟨ekR, fkR, lkR⟩ := kR.cells
        go_wp2_with (go_at_call 72; refine (spec_l1In_c _ _ _ _).mono ?_; rintro e w' ⟨rfl, rfl⟩)
        (refine bodyPost_ret (res_ct rfl _ [.int .i64 0, .int .i64 0, .slice none 0 0, .int .i64 0, .int .i64 0] rfl _ rfl _ Try.underlying43 rfl (by kernel_rfl) (by simp only [CellsAt, and_true]; and_intros <;> go_simp)) rfl ?_)
        rw [LL.restM_no hS, decide_eq_false hS]
        exact MkPB.none (by repeat' (first | with_reducible exact Below.refl _ _ | with_reducible assumption | with_reducible refine b_alloc ?_ _ | with_reducible refine b_drewN ?_ _ | with_reducible refine b_drew ?_ | with_reducible refine b_set ?_ (by first | (simp only [World.size_setCell, World.size_alloc, World.size_drew]; omega) | (simp; done) | (simp; omega)) _ | with_reducible refine b_step ?_ (by with_reducible assumption)))
    · have hS : ¬ LL.CanRest p st en now := fun h9 => hI h9.2.1
      have hl := hP.2.1.2
      obtain ⟨ekP, fkP, lkP⟩ := kP.cells; obtain ⟨ekR, fkR, lkR⟩ := kR.cells
      go_wp2_with (go_at_call 72; refine (spec_l1In_c _ _ _ _).mono ?_; rintro e w' ⟨rfl, rfl⟩)
      (refine bodyPost_ret (res_ct rfl _ [.int .i64 0, .int .i64 0, .slice none 0 0, .int .i64 0, .int .i64 0] rfl _ rfl _ Try.underlying43 rfl (by kernel_rfl) (by simp only [CellsAt, and_true]; and_intros <;> go_simp)) rfl ?_)
      rw [LL.restM_no hS, decide_eq_false hS]
      exact MkPB.none (by repeat' (first | with_reducible exact Below.refl _ _ | with_reducible assumption | with_reducible refine b_alloc ?_ _ | with_reducible refine b_drewN ?_ _ | with_reducible refine b_drew ?_ | with_reducible refine b_set ?_ (by first | (simp only [World.size_setCell, World.size_alloc, World.size_drew]; omega) | (simp; done) | (simp; omega)) _ | with_reducible refine b_step ?_ (by with_reducible assumption)))
  · rw [decide_eq_false hP]
    obtain ⟨ekP, fkP, lkP⟩ := kP.cells; obtain ⟨ekR, fkR, lkR⟩ := kR.cells
    go_wp2_with fail
    have hS : ¬ LL.CanRest p st en now := fun hS => hP hS.1
    (refine bodyPost_ret (res_ct rfl _ [.int .i64 0, .int .i64 0, .slice none 0 0, .int .i64 0, .int .i64 0] rfl _ rfl _ Try.underlying43 rfl (by kernel_rfl) (by simp only [CellsAt, and_true]; and_intros <;> go_simp)) rfl ?_)
    rw [LL.restM_no hS, decide_eq_false hS]
    exact MkPB.none (by repeat' (first | with_reducible exact Below.refl _ _ | with_reducible assumption | with_reducible refine b_alloc ?_ _ | with_reducible refine b_drewN ?_ _ | with_reducible refine b_drew ?_ | with_reducible refine b_set ?_ (by first | (simp only [World.size_setCell, World.size_alloc, World.size_drew]; omega) | (simp; done) | (simp; omega)) _ | with_reducible refine b_step ?_ (by with_reducible assumption)))
set_option maxRecDepth 100000 in
set_option maxHeartbeats 4000000 in
theorem spec_FlySeen_c (p : LL.Path) (A : Option Addr) (c : Nat) (st now : Int) (w : World) (h : RdS w A p.steps.length c p.steps) : Calls Try.prog 46 #[.agg #[.int .i64 p.q, .int .i64 p.s, .slice A p.steps.length c, .int .i64 p.fr, .int .i64 p.by_], .int .i64 st, .int .i64 now] w (MkPB 79 w (LL.seenM p st now) (decide (LL.CanSeen p st now))) := by
  have hroom := h.room
  go_enter Try.func46, Try.ntmps46
  go_wp2_with fail
  refine calls_name (fun W => Below w.heap.size w W ∧ Blk W w.heap.size #[.int .i64 p.q, .int .i64 p.s, .slice A p.steps.length c, .int .i64 p.fr, .int .i64 p.by_] 43 ∧ Blk W (w.heap.size + 1) #[.int .i64 0, .int .i64 0, .slice none 0 0, .int .i64 0, .int .i64 0] 43) ⟨(by repeat' (first | with_reducible exact Below.refl _ _ | with_reducible assumption | with_reducible refine b_alloc ?_ _ | with_reducible refine b_drewN ?_ _ | with_reducible refine b_drew ?_ | with_reducible refine b_set ?_ (by first | (simp only [World.size_setCell, World.size_alloc, World.size_drew]; omega) | (simp; done) | (simp; omega)) _ | with_reducible refine b_step ?_ (by with_reducible assumption))), (by repeat' (first | with_reducible assumption | with_reducible exact Blk.new _ _ _ | with_reducible exact Blk.new' _ _ (by first | (simp only [World.size_alloc, World.size_setCell, World.size_drew]; done) | (simp only [World.size_alloc, World.size_setCell, World.size_drew]; omega) | omega) | with_reducible refine Blk.a ?_ _ | with_reducible refine Blk.d ?_ | with_reducible refine Blk.dN ?_ _ | with_reducible refine Blk.s ?_ (by simp only [ne_eq]; omega) _ | with_reducible refine Blk.b ?_ (by with_reducible assumption))), (by repeat' (first | with_reducible assumption | with_reducible exact Blk.new _ _ _ | with_reducible exact Blk.new' _ _ (by first | (simp only [World.size_alloc, World.size_setCell, World.size_drew]; done) | (simp only [World.size_alloc, World.size_setCell, World.size_drew]; omega) | omega) | with_reducible refine Blk.a ?_ _ | with_reducible refine Blk.d ?_ | with_reducible refine Blk.dN ?_ _ | with_reducible refine Blk.s ?_ (by simp only [ne_eq]; omega) _ | with_reducible refine Blk.b ?_ (by with_reducible assumption)))⟩ ?_
  rintro W1 ⟨hb, kP, kR⟩
  refine (spec_FlyPathOk_c p A c _ (h.mono hb)).mono ?_
  rintro e W2 ⟨rfl, hB⟩
  replace hb := b_step hb hB; replace kP := kP.b hB; replace kR := kR.b hB; clear hB
  by_cases hP : LL.PathOk p
  · rw [decide_eq_true hP]
    by_cases hI : LL.In st 0 (p.steps.length - 1)
    · by_cases hN : LL.In now 0 10000
      · obtain ⟨n0, n1⟩ := id hN
        obtain ⟨k, rfl⟩ : ∃ k : Nat, st = (k : Int) := ⟨st.toNat, by have := hI.1; omega⟩
        have hk : k < p.steps.length := by have := hI.2; have := hP.2.1.1; omega
        have hl := hP.2.1.2
        obtain ⟨ekP, fkP, lkP⟩ := kP.cells; obtain ⟨ekR, fkR, lkR⟩ := kR.cells
        go_wp2_with (go_at_call 72; refine (spec_l1In_c _ _ _ _).mono ?_; rintro e w' ⟨rfl, rfl⟩)
        refine calls_name (fun W => Below W2.heap.size W2 W) (by repeat' (first | with_reducible exact Below.refl _ _ | with_reducible assumption | with_reducible refine b_alloc ?_ _ | with_reducible refine b_drewN ?_ _ | with_reducible refine b_drew ?_ | with_reducible refine b_set ?_ (by first | (simp only [World.size_setCell, World.size_alloc, World.size_drew]; omega) | (simp; done) | (simp; omega)) _ | with_reducible refine b_step ?_ (by with_reducible assumption))) ?_
        intro W3 hE
        clear ekP fkP lkP ekR fkR lkR
        replace hb := b_step hb hE; replace kP := kP.b hE; replace kR := kR.b hE; clear hE
        refine (spec_l4Spans_c p A c _ hP.win (h.mono hb)).mono ?_
        intro e W4 hM
        by_cases hS0 : LL.SpansOk p
        · rw [LL.spansR_yes hS0, decide_eq_true hS0] at hM
          obtain ⟨As, cs, rfl, hSp, -, hB⟩ := hM.go2 spanE
          replace hb := b_step hb hB; replace kP := kP.b hB; replace kR := kR.b hB; clear hB
          clear hM
          obtain ⟨gs, rfl⟩ := hSp.someA (by simp [LL.spans, LL.tab_len])
          have hlen : (LL.spans p).length = p.steps.length + 1 := LL.tab_len _ _
          have hlt2 : k < (LL.spans p).length := by omega
          have Hlen := Lib.hid hlen
          clear hlen
          obtain ⟨ekP, fkP, lkP⟩ := kP.cells
          go_wp2_with fail
          clear ekP fkP lkP
          refine calls_name (fun W => Below W4.heap.size W4 W) (by repeat' (first | with_reducible exact Below.refl _ _ | with_reducible assumption | with_reducible refine b_alloc ?_ _ | with_reducible refine b_drewN ?_ _ | with_reducible refine b_drew ?_ | with_reducible refine b_set ?_ (by first | (simp only [World.size_setCell, World.size_alloc, World.size_drew]; omega) | (simp; done) | (simp; omega)) _ | with_reducible refine b_step ?_ (by with_reducible assumption))) ?_; intro W5 hE; replace hb := b_step hb hE; replace kP := kP.b hE; replace kR := kR.b hE; replace hSp := hSp.b hE; clear hE
          have hSl0 := fun j hj => (hSp.row.lt j hj).2
          refine (spec_l7Tail_c p A c k _ hk (by omega) (h.mono hb)).mono ?_
          intro e W6 hM
          obtain ⟨A3, c3, rfl, hO, hOg, hB⟩ := hM.gop
          rw [LL.drP_len] at hO hOg ⊢
          have hR6 := kR.cells.2.2
          replace hb := b_step hb hB; replace kP := kP.b hB; replace kR := kR.b hB; replace hSp := hSp.b hB; clear hB
          clear hM
          obtain ⟨g, rfl⟩ := hO.someA (by rw [LL.drP_len]; omega)
          have hgl : w.heap.size + 1 < g := by have := hOg g rfl; omega
          have hO2 : ∀ j, Value.ownBlock (.slice (some ⟨g, 0, none⟩) (p.steps.length - k) c3) = some j → w.heap.size + 1 < j := fun j hj => by have := hOg j hj; omega
          have hSl : ∀ j, Value.ownBlock (.slice (some ⟨gs, 0, none⟩) (LL.spans p).length cs) = some j → j ≠ g := fun j hj => by have h8 := hSl0 j hj; have h9 := hOg g rfl; omega
          have hgx := (hO.row.lt _ rfl).2
          simp only at hgx
          clear hOg
          have hW6 := kR.cells.2.2
          go_wp2_with fail
          refine wp_name (fun W => Below W6.heap.size W6 W ∧ Blk W W6.heap.size #[.int .i64 p.q, .int .i64 p.s, .slice (some ⟨g, 0, none⟩) (p.steps.length - k) c3, .int .i64 p.fr, .int .i64 p.by_] 43) ⟨(by repeat' (first | with_reducible exact Below.refl _ _ | with_reducible assumption | with_reducible refine b_alloc ?_ _ | with_reducible refine b_drewN ?_ _ | with_reducible refine b_drew ?_ | with_reducible refine b_set ?_ (by first | (simp only [World.size_setCell, World.size_alloc, World.size_drew]; omega) | (simp; done) | (simp; omega)) _ | with_reducible refine b_step ?_ (by with_reducible assumption))), Blk.new _ _ _⟩ ?_
          rintro W7 ⟨hE, kX⟩
          replace hO : Own stepC 7 56 79 W6 (.slice (some ⟨g, 0, none⟩) (p.steps.length - k) c3) (LL.tab (p.steps.length - k) (fun i => LL.nth p.steps (k + i))) := hO
          replace hb := b_step hb hE; replace kP := kP.b hE; replace kR := kR.b hE; replace hO := hO.b hE; replace hSp := hSp.b hE; clear hE
          generalize W6.heap.size = gx at *
          have hm0 : 0 < p.steps.length - k := by omega
          obtain ⟨ekX, fkX, lkX⟩ := kX.cells
          obtain ⟨c4, c5, f0, gl2⟩ := hO.St 0 hm0
          have h2 := (hSp.rd_at' spanE).S2 k (by omega)
          rw [LL.spans_at p k (by omega)] at h2
          simp only [Nat.zero_add] at h2
          obtain ⟨e0, e1⟩ := h2
          have hgs := (hSp.row.lt _ rfl).2
          dsimp only at hgs
          ((refine calm_tail_b 9 (by kernel_rfl) (by kernel_rfl) ?_); (simp only [List.take_succ_cons, List.take_zero, List.drop_succ_cons, List.drop_zero]); (repeat ((apply sure_cons (hg := rfl)); (focus ((intro w' hS'); (obtain ⟨hcS, hfS, hlS⟩ := bcell hS'); (try simp only [World.size_setCell, World.size_alloc, World.size_drew] at hS' hcS hfS hlS); (go_simp); (try go_bits); (try ((first | rw [if_pos (by omega)] | rw [if_neg (by omega)]); go_simp)); (first | (with_reducible rfl) | (with_reducible exact rfl) | (with_reducible exact ⟨rfl, hS'⟩) | fail))); (simp only [Act.put, List.setIfInBounds_toArray, List.set_cons_zero, List.set_cons_succ]))); (refine sure_nil ?_))
          intro W8 hS8
          clear ekX fkX lkX
          clear c4 c5 f0 gl2 e0 e1 hgs
          replace hb := b_step hb hS8; replace kP := kP.b hS8; replace kR := kR.b hS8; replace kX := kX.b hS8; replace hO := hO.b hS8; replace hSp := hSp.b hS8; clear hS8
          obtain ⟨ekX, fkX, lkX⟩ := kX.cells
          obtain ⟨c4, c5, f0, gl2⟩ := hO.St 0 hm0
          go_wp2_with fail
          refine wp_name (fun W => Below w.heap.size w W ∧ Blk W (w.heap.size + 1) #[.int .i64 0, .int .i64 0, .slice none 0 0, .int .i64 0, .int .i64 0] 43 ∧ Blk W gx #[.int .i64 p.q, .int .i64 p.s, .slice (some ⟨g, 0, none⟩) (p.steps.length - k) c3, .int .i64 p.fr, .int .i64 p.by_] 43 ∧ Own stepC 7 56 79 W (.slice (some ⟨g, 0, none⟩) (p.steps.length - k) c3) (LL.tab (p.steps.length - k) (LL.upd (fun i => LL.nth p.steps (k + i)) 0 (LL.setW (LL.nth p.steps k) (LL.lo p k) (LL.nth p.steps k).by_))) ∧ Own spanC 2 16 60 W (.slice (some ⟨gs, 0, none⟩) (LL.spans p).length cs) (LL.spans p)) ⟨b_set hb (by simp only; omega) _, kR.s (by simp only [ne_eq]; omega) _, kX.s (by simp only [ne_eq]; omega) _, hO.updSt 0 hm0 4 (x := .int .i64 (LL.lo p k)) (s := LL.setW (LL.nth p.steps k) (LL.lo p k) (LL.nth p.steps k).by_) (by omega) rfl rfl, hSp.s _ (fun j hj => by have := hSl j hj; simp only; omega)⟩ ?_
          clear ekX fkX lkX
          clear hb kR kX hO c4 c5 f0 gl2 kP hSp
          rintro W9 ⟨hb, kR, kX, hO, hSp⟩
          obtain ⟨ekX, fkX, lkX⟩ := kX.cells
          obtain ⟨c4, c5, f0, gl2⟩ := hO.St 0 hm0
          rw [LL.upd_same] at c4 c5
          have h2 := (hSp.rd_at' spanE).S2 k (by omega)
          rw [LL.spans_at p k (by omega)] at h2
          simp only [Nat.zero_add] at h2
          obtain ⟨e0, e1⟩ := h2
          have hgs := (hSp.row.lt _ rfl).2
          dsimp only at hgs
          ((refine calm_tail_b 11 (by kernel_rfl) (by kernel_rfl) ?_); (simp only [List.take_succ_cons, List.take_zero, List.drop_succ_cons, List.drop_zero]); (repeat ((apply sure_cons (hg := rfl)); (focus ((intro w' hS'); (obtain ⟨hcS, hfS, hlS⟩ := bcell hS'); (try simp only [World.size_setCell, World.size_alloc, World.size_drew] at hS' hcS hfS hlS); (go_simp); (try go_bits); (try ((first | rw [if_pos (by omega)] | rw [if_neg (by omega)]); go_simp)); (first | (with_reducible rfl) | (with_reducible exact rfl) | (with_reducible exact ⟨rfl, hS'⟩) | (go_at_call 88; go_loud (refine (spec_l1Min_c _ _ _).mono ?_); rintro e w'' ⟨rfl, hb⟩; (first | (subst hb; exact ⟨rfl, hS'⟩) | exact ⟨rfl, b_to hS' hb (by first | exact Nat.le_refl _ | (have h1 := hS'.size; (try simp only [World.size_setCell, World.size_alloc, World.size_drew] at h1); omega))⟩))))); (simp only [Act.put, List.setIfInBounds_toArray, List.set_cons_zero, List.set_cons_succ]))); (refine sure_nil ?_))
          intro W10 hS10
          clear ekX fkX lkX
          clear c4 c5 f0 gl2 e0 e1 hgs
          replace hb := b_step hb hS10; replace kR := kR.b hS10; replace kX := kX.b hS10; replace hO := hO.b hS10; replace hSp := hSp.b hS10; clear hS10
          obtain ⟨ekX, fkX, lkX⟩ := kX.cells
          obtain ⟨c4, c5, f0, gl2⟩ := hO.St 0 hm0
          go_wp2_with fail
          refine calls_name (fun W => Below w.heap.size w W ∧ Blk W (w.heap.size + 1) #[.int .i64 0, .int .i64 0, .slice none 0 0, .int .i64 0, .int .i64 0] 43 ∧ Own stepC 7 56 79 W (.slice (some ⟨g, 0, none⟩) (p.steps.length - k) c3) (LL.tab (p.steps.length - k) (LL.tl0 p k (LL.lo p k) (min (LL.hi p k) now)))) ⟨b_set hb (by simp only; omega) _, kR.s (by simp only [ne_eq]; omega) _, hO.updSt 0 hm0 5 (x := .int .i64 (min (LL.hi p k) now)) (s := LL.setW (LL.nth p.steps k) (LL.lo p k) (min (LL.hi p k) now)) (by omega) (by rw [LL.upd_same]; rfl) (LL.tl0_upd p k (LL.lo p k) (min (LL.hi p k) now))⟩ ?_
          clear ekX fkX lkX
          clear hb kR kX hO c4 c5 f0 gl2 hSp
          rintro W11 ⟨hb, kR, hO⟩
          have HL := LL.tl0P_len p k (LL.lo p k) (min (LL.hi p k) now)
          have HA := fun W (h : Own stepC 7 56 79 W (.slice (some ⟨g, 0, none⟩) (p.steps.length - k) c3) (LL.tab (p.steps.length - k) (LL.tl0 p k (LL.lo p k) (min (LL.hi p k) now)))) => spec_l7After_c (LL.tl0P p k (LL.lo p k) (min (LL.hi p k) now)) (some ⟨g, 0, none⟩) c3 now W (by rw [HL]; exact hm0) (by rw [HL]; omega) n0 n1 (by rw [HL]; exact h)
          rw [LL.tl0_aft p k _ _ now hk, HL] at HA
          refine (HA _ hO).mono ?_
          clear HA HL hO
          rintro e W12 ⟨rfl, hO, hg⟩
          have hL12 := kR.cells.2.2
          replace hb := b_grownB hb hg hb.size (fun j hj => by have := hO2 j hj; omega)
          replace kR := kR.grown hg (fun e9 => by have := hO2 _ e9; omega)
          clear hg
          obtain ⟨ekR, fkR, lkR⟩ := kR.cells
          go_wp2_with fail
          refine calls_name (fun W => Below W12.heap.size W12 W) (by repeat' (first | with_reducible exact Below.refl _ _ | with_reducible assumption | with_reducible refine b_alloc ?_ _ | with_reducible refine b_drewN ?_ _ | with_reducible refine b_drew ?_ | with_reducible refine b_set ?_ (by first | (simp only [World.size_setCell, World.size_alloc, World.size_drew]; omega) | (simp; done) | (simp; omega)) _ | with_reducible refine b_step ?_ (by with_reducible assumption))) ?_; intro W13 hE; clear ekR fkR lkR; replace hb := b_step hb hE; replace kR := kR.b hE; replace hO := hO.b hE; clear hE
          have HL := LL.tlP_len p k (LL.lo p k) (min (LL.hi p k) now) now
          have HC := fun W h => spec_l7Can_c (LL.tlP p k (LL.lo p k) (min (LL.hi p k) now) now) (some ⟨g, 0, none⟩) c3 W (LL.tlP_win hP hk (LL.lo_ge p k hk) (by have := LL.hi_le p k hk; omega)) h
          rw [HL] at HC
          refine (HC _ (hO.rd_at' stepE)).mono ?_
          clear HC HL
          rintro e W14 ⟨rfl, hB⟩
          replace hb := b_step hb hB; replace kR := kR.b hB; replace hO := hO.b hB; clear hB
          obtain ⟨ekR, fkR, lkR⟩ := kR.cells
          obtain ⟨hR1, hR2⟩ := LL.seen_left hP hS0 hk hN
          by_cases hS : LL.SpansOk (LL.tlP p k (LL.lo p k) (min (LL.hi p k) now) now)
          · have hC := hR1.2 hS
            rw [LL.leftM_yes hS] at hR2
            have HR2 := Lib.hid hR2
            rw [canV_yes hS, decide_eq_true hS]
            clear hR1 hR2
            generalize hT : LL.tlP p k (LL.lo p k) (min (LL.hi p k) now) now = T at *
            have hTl : T.steps.length = p.steps.length - k := by rw [← hT]; exact LL.tlP_len _ _ _ _ _
            have HTl := Lib.hid hTl
            clear hT hTl
            go_wp2_with fail
            (refine bodyPost_ret (res_ct rfl _ [.int .i64 T.q, .int .i64 T.s, .slice (some ⟨g, 0, none⟩) (p.steps.length - k) c3, .int .i64 T.fr, .int .i64 T.by_] rfl _ rfl _ Try.underlying43 rfl (by kernel_rfl) (by simp only [CellsAt, and_true]; and_intros <;> go_simp)) rfl ?_)
            rw [HR2.out, decide_eq_true hC]
            exact ⟨.slice (some ⟨g, 0, none⟩) (p.steps.length - k) c3, rfl, (by repeat' (first | with_reducible assumption | with_reducible refine Own.s ?_ _ (fun k hk => by have := hO2 k hk; (try simp only); omega) | with_reducible refine Own.a ?_ _ | with_reducible refine Own.d ?_ | with_reducible refine Own.dN ?_ _ | with_reducible refine Own.b ?_ (by with_reducible assumption))), fun k hk => by have := hO2 k hk; omega, (by repeat' (first | with_reducible exact Below.refl _ _ | with_reducible assumption | with_reducible refine b_alloc ?_ _ | with_reducible refine b_drewN ?_ _ | with_reducible refine b_drew ?_ | with_reducible refine b_set ?_ (by first | (simp only [World.size_setCell, World.size_alloc, World.size_drew]; omega) | (simp; done) | (simp; omega)) _ | with_reducible refine b_step ?_ (by with_reducible assumption)))⟩
          · have hC : ¬ LL.CanSeen p k now := fun h9 => hS (hR1.1 h9)
            rw [canV_no hS, decide_eq_false hS]
            clear hR1 hR2
            go_wp2_with fail
            (refine bodyPost_ret (res_ct rfl _ [.int .i64 0, .int .i64 0, .slice none 0 0, .int .i64 0, .int .i64 0] rfl _ rfl _ Try.underlying43 rfl (by kernel_rfl) (by simp only [CellsAt, and_true]; and_intros <;> go_simp)) rfl ?_)
            rw [LL.seenM_no hC, decide_eq_false hC]
            exact MkPB.none (by repeat' (first | with_reducible exact Below.refl _ _ | with_reducible assumption | with_reducible refine b_alloc ?_ _ | with_reducible refine b_drewN ?_ _ | with_reducible refine b_drew ?_ | with_reducible refine b_set ?_ (by first | (simp only [World.size_setCell, World.size_alloc, World.size_drew]; omega) | (simp; done) | (simp; omega)) _ | with_reducible refine b_step ?_ (by with_reducible assumption)))
        · have hS : ¬ LL.CanSeen p k now := fun h9 => hS0 h9.2.2.2.1
          rw [LL.spansR_no hS0, decide_eq_false hS0] at hM
          obtain ⟨As, cs, rfl, -, -, hB⟩ := hM.go2 spanE
          replace hb := b_step hb hB; replace kP := kP.b hB; replace kR := kR.b hB; clear hB
          clear hM
          obtain ⟨ekP, fkP, lkP⟩ := kP.cells; obtain ⟨ekR, fkR, lkR⟩ := kR.cells
          go_wp2_with fail
          (refine bodyPost_ret (res_ct rfl _ [.int .i64 0, .int .i64 0, .slice none 0 0, .int .i64 0, .int .i64 0] rfl _ rfl _ Try.underlying43 rfl (by kernel_rfl) (by simp only [CellsAt, and_true]; and_intros <;> go_simp)) rfl ?_)
          rw [LL.seenM_no hS, decide_eq_false hS]
          exact MkPB.none (by repeat' (first | with_reducible exact Below.refl _ _ | with_reducible assumption | with_reducible refine b_alloc ?_ _ | with_reducible refine b_drewN ?_ _ | with_reducible refine b_drew ?_ | with_reducible refine b_set ?_ (by first | (simp only [World.size_setCell, World.size_alloc, World.size_drew]; omega) | (simp; done) | (simp; omega)) _ | with_reducible refine b_step ?_ (by with_reducible assumption)))
      · have hS : ¬ LL.CanSeen p st now := fun h9 => hN h9.2.2.1
        have hl := hP.2.1.2
        obtain ⟨ekP, fkP, lkP⟩ := kP.cells; obtain ⟨ekR, fkR, lkR⟩ := kR.cells
        go_wp2_with (go_at_call 72; refine (spec_l1In_c _ _ _ _).mono ?_; rintro e w' ⟨rfl, rfl⟩)
        (refine bodyPost_ret (res_ct rfl _ [.int .i64 0, .int .i64 0, .slice none 0 0, .int .i64 0, .int .i64 0] rfl _ rfl _ Try.underlying43 rfl (by kernel_rfl) (by simp only [CellsAt, and_true]; and_intros <;> go_simp)) rfl ?_)
        rw [LL.seenM_no hS, decide_eq_false hS]
        exact MkPB.none (by repeat' (first | with_reducible exact Below.refl _ _ | with_reducible assumption | with_reducible refine b_alloc ?_ _ | with_reducible refine b_drewN ?_ _ | with_reducible refine b_drew ?_ | with_reducible refine b_set ?_ (by first | (simp only [World.size_setCell, World.size_alloc, World.size_drew]; omega) | (simp; done) | (simp; omega)) _ | with_reducible refine b_step ?_ (by with_reducible assumption)))
    · have hS : ¬ LL.CanSeen p st now := fun h9 => hI h9.2.1
      have hl := hP.2.1.2
      obtain ⟨ekP, fkP, lkP⟩ := kP.cells; obtain ⟨ekR, fkR, lkR⟩ := kR.cells
      go_wp2_with (go_at_call 72; refine (spec_l1In_c _ _ _ _).mono ?_; rintro e w' ⟨rfl, rfl⟩)
      (refine bodyPost_ret (res_ct rfl _ [.int .i64 0, .int .i64 0, .slice none 0 0, .int .i64 0, .int .i64 0] rfl _ rfl _ Try.underlying43 rfl (by kernel_rfl) (by simp only [CellsAt, and_true]; and_intros <;> go_simp)) rfl ?_)
      rw [LL.seenM_no hS, decide_eq_false hS]
      exact MkPB.none (by repeat' (first | with_reducible exact Below.refl _ _ | with_reducible assumption | with_reducible refine b_alloc ?_ _ | with_reducible refine b_drewN ?_ _ | with_reducible refine b_drew ?_ | with_reducible refine b_set ?_ (by first | (simp only [World.size_setCell, World.size_alloc, World.size_drew]; omega) | (simp; done) | (simp; omega)) _ | with_reducible refine b_step ?_ (by with_reducible assumption)))
  · rw [decide_eq_false hP]
    obtain ⟨ekP, fkP, lkP⟩ := kP.cells; obtain ⟨ekR, fkR, lkR⟩ := kR.cells
    go_wp2_with fail
    have hS : ¬ LL.CanSeen p st now := fun hS => hP hS.1
    (refine bodyPost_ret (res_ct rfl _ [.int .i64 0, .int .i64 0, .slice none 0 0, .int .i64 0, .int .i64 0] rfl _ rfl _ Try.underlying43 rfl (by kernel_rfl) (by simp only [CellsAt, and_true]; and_intros <;> go_simp)) rfl ?_)
    rw [LL.seenM_no hS, decide_eq_false hS]
    exact MkPB.none (by repeat' (first | with_reducible exact Below.refl _ _ | with_reducible assumption | with_reducible refine b_alloc ?_ _ | with_reducible refine b_drewN ?_ _ | with_reducible refine b_drew ?_ | with_reducible refine b_set ?_ (by first | (simp only [World.size_setCell, World.size_alloc, World.size_drew]; omega) | (simp; done) | (simp; omega)) _ | with_reducible refine b_step ?_ (by with_reducible assumption)))
end Go.Proofs.Ytpeojnknfonmlaa

/- How a flight that has begun can go on: FlyNext of the program and of the reference. -/
set_option linter.unusedVariables false
set_option linter.unusedSimpArgs false
namespace Go.Proofs.Ytpeojnknfonmlaa
open Go.RowKit
attribute [local go_sem] w_lt_add w_le_of w_le_add max2_i min2_i ite_max ite_min
namespace LL
theorem nextLo_no {p : Path} {f : List Int} (h : ¬ CanNext p f) : nextLo p f = 0 := if_neg h
theorem nextHi_no {p : Path} {f : List Int} (h : ¬ CanNext p f) : nextHi p f = 0 := if_neg h
theorem nextLo_yes {p : Path} {f : List Int} (h : CanNext p f) : nextLo p f = lo (hdP p f) f.length := if_pos h
theorem nextHi_yes {p : Path} {f : List Int} (h : CanNext p f) : nextHi p f = hi (hdP p f) f.length := if_pos h
/-- the first k ticks lie in their windows -/
def AllIn (p : Path) (f : List Int) (k : Nat) : Prop := ∀ j, j < k → In (nthI f j) (nth p.steps j).fr (nth p.steps j).by_
theorem AllIn.zero (p : Path) (f : List Int) : AllIn p f 0 := fun _ h => absurd h (Nat.not_lt_zero _)
theorem AllIn.succ {p : Path} {f : List Int} {k : Nat} (h : AllIn p f k) (hk : In (nthI f k) (nth p.steps k).fr (nth p.steps k).by_) : AllIn p f (k + 1) := fun j hj => by
  rcases Nat.lt_succ_iff_lt_or_eq.1 hj with h1 | rfl
  · exact h j h1
  · exact hk
theorem hdF_in {p : Path} {f : List Int} {k : Nat} {s : Step} (hs : nth p.steps k = s) (h : In (nthI f k) s.fr s.by_) : hdF p f k = ⟨s.x, s.y, s.lo, s.hi, nthI f k, nthI f k, s.hold⟩ := by
  unfold hdF hdS; rw [hs]
  obtain ⟨h1, h2⟩ := h
  rw [Int.max_eq_right h1, Int.min_eq_right h2]
end LL
set_option maxRecDepth 100000 in
set_option maxHeartbeats 4000000 in
theorem spec_FlyNext_c (p : LL.Path) (f : List Int) (A F : Option Addr) (c m : Nat) (w : World) (h : RdS w A p.steps.length c p.steps) (hF : RdI w F f.length m f) : Calls Try.prog 40 #[.agg #[.int .i64 p.q, .int .i64 p.s, .slice A p.steps.length c, .int .i64 p.fr, .int .i64 p.by_], .slice F f.length m] w fun e w' => e = .returned (.tuple #[.agg #[.int .i64 (LL.nextLo p f), .int .i64 (LL.nextHi p f)], .bool (decide (LL.CanNext p f))]) ∧ Below w.heap.size w w' := by
  have hroom := h.room
  have hroom' := hF.room
  go_enter Try.func40, Try.ntmps40
  go_wp2_with fail
  refine calls_name (fun W => Below w.heap.size w W ∧ Blk W w.heap.size #[.int .i64 p.q, .int .i64 p.s, .slice A p.steps.length c, .int .i64 p.fr, .int .i64 p.by_] 43 ∧ Blk W (w.heap.size + 1) #[.int .i64 0, .int .i64 0] 60) ⟨(by repeat' (first | with_reducible exact Below.refl _ _ | with_reducible assumption | with_reducible refine b_alloc ?_ _ | with_reducible refine b_drewN ?_ _ | with_reducible refine b_drew ?_ | with_reducible refine b_set ?_ (by first | (simp only [World.size_setCell, World.size_alloc, World.size_drew]; omega) | (simp; done) | (simp; omega)) _ | with_reducible refine b_step ?_ (by with_reducible assumption))), (by repeat' (first | with_reducible assumption | with_reducible exact Blk.new _ _ _ | with_reducible exact Blk.new' _ _ (by first | (simp only [World.size_alloc, World.size_setCell, World.size_drew]; done) | (simp only [World.size_alloc, World.size_setCell, World.size_drew]; omega) | omega) | with_reducible refine Blk.a ?_ _ | with_reducible refine Blk.d ?_ | with_reducible refine Blk.dN ?_ _ | with_reducible refine Blk.s ?_ (by simp only [ne_eq]; omega) _ | with_reducible refine Blk.b ?_ (by with_reducible assumption))), (by repeat' (first | with_reducible assumption | with_reducible exact Blk.new _ _ _ | with_reducible exact Blk.new' _ _ (by first | (simp only [World.size_alloc, World.size_setCell, World.size_drew]; done) | (simp only [World.size_alloc, World.size_setCell, World.size_drew]; omega) | omega) | with_reducible refine Blk.a ?_ _ | with_reducible refine Blk.d ?_ | with_reducible refine Blk.dN ?_ _ | with_reducible refine Blk.s ?_ (by simp only [ne_eq]; omega) _ | with_reducible refine Blk.b ?_ (by with_reducible assumption)))⟩ ?_
  rintro W1 ⟨hb, kP, kR⟩
  refine (spec_FlyPathOk_c p A c _ (h.mono hb)).mono ?_
  rintro e W2 ⟨rfl, hB⟩
  replace hb := b_step hb hB; replace kP := kP.b hB; replace kR := kR.b hB; clear hB
  by_cases hP : LL.PathOk p
  · rw [decide_eq_true hP]
    have hl40 := hP.2.1.2
    by_cases hl : f.length ≤ p.steps.length
    · obtain ⟨ekP, fkP, lkP⟩ := kP.cells; obtain ⟨ekR, fkR, lkR⟩ := kR.cells
      go_wp2_with fail
      refine calls_name (fun W => Below W2.heap.size W2 W) (by repeat' (first | with_reducible exact Below.refl _ _ | with_reducible assumption | with_reducible refine b_alloc ?_ _ | with_reducible refine b_drewN ?_ _ | with_reducible refine b_drew ?_ | with_reducible refine b_set ?_ (by first | (simp only [World.size_setCell, World.size_alloc, World.size_drew]; omega) | (simp; done) | (simp; omega)) _ | with_reducible refine b_step ?_ (by with_reducible assumption))) ?_; intro W3 hE; clear ekP fkP lkP ekR fkR lkR; replace hb := b_step hb hE; replace kP := kP.b hE; replace kR := kR.b hE; clear hE
      refine (spec_l6Held_c p f A F c m _ (h.mono hb) (hF.mono hb)).mono ?_
      intro e W4 hM
      obtain ⟨A2, c2, rfl, hO, -, hB⟩ := hM.gop
      replace hb := b_step hb hB; replace kP := kP.b hB; replace kR := kR.b hB; clear hB
      clear hM
      go_wp2_with fail
      refine calls_name (fun W => Below W4.heap.size W4 W) (by repeat' (first | with_reducible exact Below.refl _ _ | with_reducible assumption | with_reducible refine b_alloc ?_ _ | with_reducible refine b_drewN ?_ _ | with_reducible refine b_drew ?_ | with_reducible refine b_set ?_ (by first | (simp only [World.size_setCell, World.size_alloc, World.size_drew]; omega) | (simp; done) | (simp; omega)) _ | with_reducible refine b_step ?_ (by with_reducible assumption))) ?_; intro W5 hE; replace hb := b_step hb hE; replace kP := kP.b hE; replace kR := kR.b hE; replace hO := hO.b hE; clear hE
      refine (spec_l4Spans_c (LL.hdP p f) A2 c2 _ (LL.hdP_win hP hl) (hO.rd_at' stepE)).mono ?_
      intro e W6 hM
      by_cases hS0 : LL.SpansOk (LL.hdP p f)
      · have hC : LL.CanNext p f := ⟨hP, hl, hS0⟩
        rw [LL.spansR_yes hS0, decide_eq_true hS0] at hM
        obtain ⟨As, cs, rfl, hSp, -, hB⟩ := hM.go2 spanE
        replace hb := b_step hb hB; replace kP := kP.b hB; replace kR := kR.b hB; clear hB
        clear hM
        obtain ⟨gs, rfl⟩ := hSp.someA (by simp [LL.spans, LL.tab_len])
        have hlen : (LL.spans (LL.hdP p f)).length = p.steps.length + 1 := (LL.tab_len _ _).trans (by rw [LL.hdP_len])
        have hlt2 : f.length < (LL.spans (LL.hdP p f)).length := by omega
        have Hlen := Lib.hid hlen
        clear hlen
        have h2 := (hSp.rd_at' spanE).S2 f.length hlt2
        rw [LL.spans_at _ f.length (by rw [LL.hdP_len]; exact hl), ← LL.nextLo_yes hC, ← LL.nextHi_yes hC] at h2
        simp only [Nat.zero_add] at h2
        obtain ⟨e0, e1⟩ := h2
        have hgs := (hSp.row.lt _ rfl).2
        dsimp only at hgs
        obtain ⟨ekR, fkR, lkR⟩ := kR.cells
        go_wp2_with fail
        (refine bodyPost_ret (res_ct rfl _ [.int .i64 (LL.nextLo p f), .int .i64 (LL.nextHi p f)] rfl _ rfl _ Try.underlying60 rfl (by kernel_rfl) (by simp only [CellsAt, and_true]; and_intros <;> go_simp)) rfl ?_)
        rw [decide_eq_true hC]
        exact ⟨rfl, (by repeat' (first | with_reducible exact Below.refl _ _ | with_reducible assumption | with_reducible refine b_alloc ?_ _ | with_reducible refine b_drewN ?_ _ | with_reducible refine b_drew ?_ | with_reducible refine b_set ?_ (by first | (simp only [World.size_setCell, World.size_alloc, World.size_drew]; omega) | (simp; done) | (simp; omega)) _ | with_reducible refine b_step ?_ (by with_reducible assumption)))⟩
      · have hS : ¬ LL.CanNext p f := fun h9 => hS0 h9.2.2
        rw [LL.spansR_no hS0, decide_eq_false hS0] at hM
        obtain ⟨As, cs, rfl, hSp, -, hB⟩ := hM.go2 spanE
        replace hb := b_step hb hB; replace kP := kP.b hB; replace kR := kR.b hB; clear hB
        clear hM
        obtain ⟨ekR, fkR, lkR⟩ := kR.cells
        go_wp2_with fail
        (refine bodyPost_ret (res_ct rfl _ [.int .i64 0, .int .i64 0] rfl _ rfl _ Try.underlying60 rfl (by kernel_rfl) (by simp only [CellsAt, and_true]; and_intros <;> go_simp)) rfl ?_)
        rw [LL.nextLo_no hS, LL.nextHi_no hS, decide_eq_false hS]
        exact ⟨rfl, (by repeat' (first | with_reducible exact Below.refl _ _ | with_reducible assumption | with_reducible refine b_alloc ?_ _ | with_reducible refine b_drewN ?_ _ | with_reducible refine b_drew ?_ | with_reducible refine b_set ?_ (by first | (simp only [World.size_setCell, World.size_alloc, World.size_drew]; omega) | (simp; done) | (simp; omega)) _ | with_reducible refine b_step ?_ (by with_reducible assumption)))⟩
    · have hS : ¬ LL.CanNext p f := fun h9 => hl h9.2.1
      obtain ⟨ekP, fkP, lkP⟩ := kP.cells; obtain ⟨ekR, fkR, lkR⟩ := kR.cells
      go_wp2_with fail
      (refine bodyPost_ret (res_ct rfl _ [.int .i64 0, .int .i64 0] rfl _ rfl _ Try.underlying60 rfl (by kernel_rfl) (by simp only [CellsAt, and_true]; and_intros <;> go_simp)) rfl ?_)
      rw [LL.nextLo_no hS, LL.nextHi_no hS, decide_eq_false hS]
      exact ⟨rfl, (by repeat' (first | with_reducible exact Below.refl _ _ | with_reducible assumption | with_reducible refine b_alloc ?_ _ | with_reducible refine b_drewN ?_ _ | with_reducible refine b_drew ?_ | with_reducible refine b_set ?_ (by first | (simp only [World.size_setCell, World.size_alloc, World.size_drew]; omega) | (simp; done) | (simp; omega)) _ | with_reducible refine b_step ?_ (by with_reducible assumption)))⟩
  · have hS : ¬ LL.CanNext p f := fun h9 => hP h9.1
    rw [decide_eq_false hP]
    obtain ⟨ekP, fkP, lkP⟩ := kP.cells; obtain ⟨ekR, fkR, lkR⟩ := kR.cells
    go_wp2_with fail
    (refine bodyPost_ret (res_ct rfl _ [.int .i64 0, .int .i64 0] rfl _ rfl _ Try.underlying60 rfl (by kernel_rfl) (by simp only [CellsAt, and_true]; and_intros <;> go_simp)) rfl ?_)
    rw [LL.nextLo_no hS, LL.nextHi_no hS, decide_eq_false hS]
    exact ⟨rfl, (by repeat' (first | with_reducible exact Below.refl _ _ | with_reducible assumption | with_reducible refine b_alloc ?_ _ | with_reducible refine b_drewN ?_ _ | with_reducible refine b_drew ?_ | with_reducible refine b_set ?_ (by first | (simp only [World.size_setCell, World.size_alloc, World.size_drew]; omega) | (simp; done) | (simp; omega)) _ | with_reducible refine b_step ?_ (by with_reducible assumption)))⟩
set_option maxRecDepth 100000 in
set_option maxHeartbeats 4000000 in
theorem impl_FlyNext_c (p : LL.Path) (f : List Int) (A F : Option Addr) (c m : Nat) (w : World) (h : RdS w A p.steps.length c p.steps) (hF : RdI w F f.length m f) : Calls Try.prog 39 #[.agg #[.int .i64 p.q, .int .i64 p.s, .slice A p.steps.length c, .int .i64 p.fr, .int .i64 p.by_], .slice F f.length m] w fun e w' => e = .returned (.tuple #[.agg #[.int .i64 (LL.nextLo p f), .int .i64 (LL.nextHi p f)], .bool (decide (LL.CanNext p f))]) ∧ Below w.heap.size w w' := by
  have hroom := h.room
  have hroom' := hF.room
  go_enter Try.func39, Try.ntmps39
  go_wp2_with fail
  refine calls_name (fun W => Below w.heap.size w W ∧ Blk W w.heap.size #[.int .i64 p.q, .int .i64 p.s, .slice A p.steps.length c, .int .i64 p.fr, .int .i64 p.by_] 43 ∧ Blk W (w.heap.size + 1) #[.int .i64 0, .int .i64 0] 60) ⟨(by repeat' (first | with_reducible exact Below.refl _ _ | with_reducible assumption | with_reducible refine b_alloc ?_ _ | with_reducible refine b_drewN ?_ _ | with_reducible refine b_drew ?_ | with_reducible refine b_set ?_ (by first | (simp only [World.size_setCell, World.size_alloc, World.size_drew]; omega) | (simp; done) | (simp; omega)) _ | with_reducible refine b_step ?_ (by with_reducible assumption))), (by repeat' (first | with_reducible assumption | with_reducible exact Blk.new _ _ _ | with_reducible exact Blk.new' _ _ (by first | (simp only [World.size_alloc, World.size_setCell, World.size_drew]; done) | (simp only [World.size_alloc, World.size_setCell, World.size_drew]; omega) | omega) | with_reducible refine Blk.a ?_ _ | with_reducible refine Blk.d ?_ | with_reducible refine Blk.dN ?_ _ | with_reducible refine Blk.s ?_ (by simp only [ne_eq]; omega) _ | with_reducible refine Blk.b ?_ (by with_reducible assumption))), (by repeat' (first | with_reducible assumption | with_reducible exact Blk.new _ _ _ | with_reducible exact Blk.new' _ _ (by first | (simp only [World.size_alloc, World.size_setCell, World.size_drew]; done) | (simp only [World.size_alloc, World.size_setCell, World.size_drew]; omega) | omega) | with_reducible refine Blk.a ?_ _ | with_reducible refine Blk.d ?_ | with_reducible refine Blk.dN ?_ _ | with_reducible refine Blk.s ?_ (by simp only [ne_eq]; omega) _ | with_reducible refine Blk.b ?_ (by with_reducible assumption)))⟩ ?_
  rintro W1 ⟨hb, kP, kR⟩
  refine (impl_FlyPathOk_c p A c _ (h.mono hb)).mono ?_
  rintro e W2 ⟨rfl, hB⟩
  replace hb := b_step hb hB; replace kP := kP.b hB; replace kR := kR.b hB; clear hB
  by_cases hP : LL.PathOk p
  · rw [decide_eq_true hP]
    have hl40 := hP.2.1.2
    by_cases hl : f.length ≤ p.steps.length
    · obtain ⟨ekP, fkP, lkP⟩ := kP.cells; obtain ⟨ekR, fkR, lkR⟩ := kR.cells
      go_wp2_with fail
      refine calls_name (fun W => Below W2.heap.size W2 W) (by repeat' (first | with_reducible exact Below.refl _ _ | with_reducible assumption | with_reducible refine b_alloc ?_ _ | with_reducible refine b_drewN ?_ _ | with_reducible refine b_drew ?_ | with_reducible refine b_set ?_ (by first | (simp only [World.size_setCell, World.size_alloc, World.size_drew]; omega) | (simp; done) | (simp; omega)) _ | with_reducible refine b_step ?_ (by with_reducible assumption))) ?_; intro W3 hE; clear ekP fkP lkP ekR fkR lkR; replace hb := b_step hb hE; replace kP := kP.b hE; replace kR := kR.b hE; clear hE
      refine (impl_copyPath_c p A c _ (h.mono hb)).mono ?_
      intro e W4 hM
      obtain ⟨A2, c2, rfl, hO, hOg, hB⟩ := hM.gop
      have hO2 : ∀ k, Value.ownBlock (.slice A2 p.steps.length c2) = some k → w.heap.size + 1 < k := fun k hk => by have := hOg k hk; have := kR.cells.2.2; omega
      replace hb := b_step hb hB; replace kP := kP.b hB; replace kR := kR.b hB; clear hB
      clear hM hOg
      obtain ⟨ekP, fkP, lkP⟩ := kP.cells
      go_wp2_with fail
      refine wp_name (fun W => Below w.heap.size w W ∧ Blk W w.heap.size #[.int .i64 p.q, .int .i64 p.s, .slice A2 p.steps.length c2, .int .i64 p.fr, .int .i64 p.by_] 43 ∧ Blk W (w.heap.size + 1) #[.int .i64 0, .int .i64 0] 60 ∧ Own stepC 7 56 79 W (.slice A2 p.steps.length c2) (LL.tab p.steps.length (LL.mix (LL.hdF p f) p.steps LL.z0 0))) ⟨(by repeat' (first | with_reducible exact Below.refl _ _ | with_reducible assumption | with_reducible refine b_alloc ?_ _ | with_reducible refine b_drewN ?_ _ | with_reducible refine b_drew ?_ | with_reducible refine b_set ?_ (by first | (simp only [World.size_setCell, World.size_alloc, World.size_drew]; omega) | (simp; done) | (simp; omega)) _ | with_reducible refine b_step ?_ (by with_reducible assumption))), by simpa using ((((kP.put 0 (.int .i64 p.q)).put 1 (.int .i64 p.s)).put 2 (.slice A2 p.steps.length c2)).put 3 (.int .i64 p.fr)).put 4 (.int .i64 p.by_), ((((kR.s (by simp only [ne_eq]; omega) _).s (by simp only [ne_eq]; omega) _).s (by simp only [ne_eq]; omega) _).s (by simp only [ne_eq]; omega) _).s (by simp only [ne_eq]; omega) _, by rw [LL.mix_zero]; exact (by repeat' (first | with_reducible assumption | with_reducible refine Own.s ?_ _ (fun k hk => by have := hO2 k hk; (try simp only); omega) | with_reducible refine Own.a ?_ _ | with_reducible refine Own.d ?_ | with_reducible refine Own.dN ?_ _ | with_reducible refine Own.b ?_ (by with_reducible assumption)))⟩ ?_
      clear ekP fkP lkP
      clear hb kP kR hO
      rintro W5 ⟨hb, kP, kR, hO⟩
      go_loopw [27] (fun i wr => ∃ k : Nat, k ≤ f.length ∧ i = .int .i64 k ∧ LL.AllIn p f k ∧ Below w.heap.size w wr ∧ Blk wr w.heap.size #[.int .i64 p.q, .int .i64 p.s, .slice A2 p.steps.length c2, .int .i64 p.fr, .int .i64 p.by_] 43 ∧ Blk wr (w.heap.size + 1) #[.int .i64 0, .int .i64 0] 60 ∧ Own stepC 7 56 79 wr (.slice A2 p.steps.length c2) (LL.tab p.steps.length (LL.mix (LL.hdF p f) p.steps LL.z0 k))) (fun i _ => f.length - (intOf i).toNat)
      case atStart => exact ⟨0, Nat.zero_le _, rfl, LL.AllIn.zero _ _, hb, kP, kR, hO⟩
      case round =>
        clear hb kP kR hO
        obtain ⟨k, hk, rfl, hA, hb, kP, kR, hO⟩ := hrel
        by_cases hlt : k < f.length
        · have hkn : k < p.steps.length := by omega
          obtain ⟨b2, off2, rfl, hbw2⟩ := hF.addr (by omega)
          have c0 := hF.S1 k hlt
          obtain ⟨gc, gf, gl⟩ := bcell hb
          obtain ⟨g, rfl⟩ := hO.someA (by rw [LL.tab_len]; omega)
          have hgl := hO2 g rfl
          have hSt := hO.St k hkn
          rw [LL.mix_here] at hSt
          obtain ⟨c4, c5, f0, gl2⟩ := hSt
          by_cases hI : LL.In (LL.nthI f k) (LL.nth p.steps k).fr (LL.nth p.steps k).by_
          · unfold LL.nth at hI
            generalize hs : p.steps.getD k LL.z0 = s at c4 c5 hI
            have hin := LL.hdF_in (p := p) hs hI
            have Hin := Lib.hid hin
            have Hs := Lib.hid hs
            clear hs hin
            obtain ⟨ekP, fkP, lkP⟩ := kP.cells
            go_wp2_with fail
            ((refine calm_b (by kernel_rfl) (by kernel_rfl) ?_); (repeat (first | ((apply sure_cons (hg := rfl)); (focus ((intro w' hS'); (obtain ⟨hcS, hfS, hlS⟩ := bcell hS'); (try simp only [World.size_setCell, World.size_alloc, World.size_drew] at hS' hcS hfS hlS); (go_simp); (try go_bits); (try ((first | rw [if_pos (by omega)] | rw [if_neg (by omega)]); go_simp)); (first | (with_reducible rfl) | (with_reducible exact rfl) | (with_reducible exact ⟨rfl, hS'⟩) | (go_at_call 70; go_loud (refine (impl_in_c _ _ _ _).mono ?_); rintro e w'' ⟨rfl, hb⟩; (first | (subst hb; exact ⟨rfl, hS'⟩) | exact ⟨rfl, b_to hS' hb (by first | exact Nat.le_refl _ | (have h1 := hS'.size; (try simp only [World.size_setCell, World.size_alloc, World.size_drew] at h1); omega))⟩))))); (simp only [Act.put, List.setIfInBounds_toArray, List.set_cons_zero, List.set_cons_succ])) | ((apply sure_off (hg := rfl)); (simp only [Act.put, List.setIfInBounds_toArray, List.set_cons_zero, List.set_cons_succ])))); (refine sure_nil ?_))
            intro W6 hS6
            clear ekP fkP lkP
            clear c4 c5 f0 gl2 gc gf gl
            replace hb := b_step hb hS6; replace kP := kP.b hS6; replace kR := kR.b hS6; replace hO := hO.b hS6; clear hS6
            have hSt := hO.St k hkn
            rw [LL.mix_here, Hs.out] at hSt
            obtain ⟨c4, c5, f0, gl2⟩ := hSt
            go_wp2_with fail
            go_roundw
            case rel =>
              have hs := Hs.out
              refine ⟨k + 1, by omega, by go_num, hA.succ (by unfold LL.nth; rw [hs]; exact hI), b_set (b_set hb (by simp only; omega) _) (by simp only; omega) _, (kP.s (by simp only [ne_eq]; omega) _).s (by simp only [ne_eq]; omega) _, (kR.s (by simp only [ne_eq]; omega) _).s (by simp only [ne_eq]; omega) _, ?_⟩
              have H1 := hO.updSt k hkn 4 (x := .int .i64 (LL.nthI f k)) (s := ⟨s.x, s.y, s.lo, s.hi, LL.nthI f k, s.by_, s.hold⟩) (by omega) (by rw [LL.mix_here, hs]; rfl) rfl
              exact H1.updSt k hkn 5 (x := .int .i64 (LL.nthI f k)) (s := LL.hdF p f k) (by omega) (by rw [LL.upd_same, Hin.out]; rfl) (by rw [LL.upd_upd, LL.mix_next])
            case measure => simp [intOf]; omega
          · have hS : ¬ LL.CanNext p f := fun h9 => LL.hdP_out hl hlt hI h9.2.2
            unfold LL.nth at hI
            generalize hs : p.steps.getD k LL.z0 = s at c4 c5 hI
            clear hs
            obtain ⟨ekP, fkP, lkP⟩ := kP.cells
            go_wp2_with fail
            ((refine calm_b (by kernel_rfl) (by kernel_rfl) ?_); (repeat (first | ((apply sure_cons (hg := rfl)); (focus ((intro w' hS'); (obtain ⟨hcS, hfS, hlS⟩ := bcell hS'); (try simp only [World.size_setCell, World.size_alloc, World.size_drew] at hS' hcS hfS hlS); (go_simp); (try go_bits); (try ((first | rw [if_pos (by omega)] | rw [if_neg (by omega)]); go_simp)); (first | (with_reducible rfl) | (with_reducible exact rfl) | (with_reducible exact ⟨rfl, hS'⟩) | (go_at_call 70; go_loud (refine (impl_in_c _ _ _ _).mono ?_); rintro e w'' ⟨rfl, hb⟩; (first | (subst hb; exact ⟨rfl, hS'⟩) | exact ⟨rfl, b_to hS' hb (by first | exact Nat.le_refl _ | (have h1 := hS'.size; (try simp only [World.size_setCell, World.size_alloc, World.size_drew] at h1); omega))⟩))))); (simp only [Act.put, List.setIfInBounds_toArray, List.set_cons_zero, List.set_cons_succ])) | ((apply sure_off (hg := rfl)); (simp only [Act.put, List.setIfInBounds_toArray, List.set_cons_zero, List.set_cons_succ])))); (refine sure_nil ?_))
            intro W6 hS6
            clear ekP fkP lkP
            clear c4 c5 f0 gl2 gc gf gl
            replace hb := b_step hb hS6; replace kP := kP.b hS6; replace kR := kR.b hS6; replace hO := hO.b hS6; clear hS6
            obtain ⟨ekR, fkR, lkR⟩ := kR.cells
            go_wp2_with fail
            (refine bodyPost_ret (res_ct rfl _ [.int .i64 0, .int .i64 0] rfl _ rfl _ Try.underlying60 rfl (by kernel_rfl) (by simp only [CellsAt, and_true]; and_intros <;> go_simp)) rfl ?_)
            rw [LL.nextLo_no hS, LL.nextHi_no hS, decide_eq_false hS]
            exact ⟨rfl, (by repeat' (first | with_reducible exact Below.refl _ _ | with_reducible assumption | with_reducible refine b_alloc ?_ _ | with_reducible refine b_drewN ?_ _ | with_reducible refine b_drew ?_ | with_reducible refine b_set ?_ (by first | (simp only [World.size_setCell, World.size_alloc, World.size_drew]; omega) | (simp; done) | (simp; omega)) _ | with_reducible refine b_step ?_ (by with_reducible assumption)))⟩
        · obtain rfl : k = f.length := by omega
          obtain ⟨ekP, fkP, lkP⟩ := kP.cells
          go_wp2_with fail
          refine calls_name (fun W => Below wr.heap.size wr W) (by repeat' (first | with_reducible exact Below.refl _ _ | with_reducible assumption | with_reducible refine b_alloc ?_ _ | with_reducible refine b_drewN ?_ _ | with_reducible refine b_drew ?_ | with_reducible refine b_set ?_ (by first | (simp only [World.size_setCell, World.size_alloc, World.size_drew]; omega) | (simp; done) | (simp; omega)) _ | with_reducible refine b_step ?_ (by with_reducible assumption))) ?_; intro W6 hE; clear ekP fkP lkP; replace hb := b_step hb hE; replace kP := kP.b hE; replace kR := kR.b hE; replace hO := hO.b hE; clear hE
          have HC := impl_FlySpans_c (LL.hdP p f) A2 c2 W6
          rw [LL.hdP_len] at HC
          have e3 : (LL.hdP p f).fr = p.fr := LL.hdFr_lt hl
          have e4 : (LL.hdP p f).by_ = p.by_ := LL.hdBy_lt hl
          rw [e3, e4] at HC
          clear e3 e4
          refine (HC (hO.rd_at' stepE)).mono ?_
          clear HC
          intro e W7 hM
          by_cases hS0 : LL.SpansOk (LL.hdP p f)
          · have hC : LL.CanNext p f := ⟨hP, hl, hS0⟩
            have hFl : LL.Flies (LL.hdP p f) := ⟨LL.hdP_ok hP hl hS0, hS0⟩
            rw [LL.spansM_yes hFl, decide_eq_true hFl] at hM
            obtain ⟨As, cs, rfl, hSp, -, hB⟩ := hM.go2 spanE
            replace hb := b_step hb hB; replace kP := kP.b hB; replace kR := kR.b hB; clear hB
            clear hM
            obtain ⟨gs, rfl⟩ := hSp.someA (by simp [LL.spans, LL.tab_len])
            have hlen : (LL.spans (LL.hdP p f)).length = p.steps.length + 1 := (LL.tab_len _ _).trans (by rw [LL.hdP_len])
            have hlt2 : f.length < (LL.spans (LL.hdP p f)).length := by omega
            have Hlen := Lib.hid hlen
            clear hlen
            have h2 := (hSp.rd_at' spanE).S2 f.length hlt2
            rw [LL.spans_at _ f.length (by rw [LL.hdP_len]; exact hl), ← LL.nextLo_yes hC, ← LL.nextHi_yes hC] at h2
            simp only [Nat.zero_add] at h2
            obtain ⟨e0, e1⟩ := h2
            have hgs := (hSp.row.lt _ rfl).2
            dsimp only at hgs
            obtain ⟨ekR, fkR, lkR⟩ := kR.cells
            go_wp2_with fail
            (refine bodyPost_ret (res_ct rfl _ [.int .i64 (LL.nextLo p f), .int .i64 (LL.nextHi p f)] rfl _ rfl _ Try.underlying60 rfl (by kernel_rfl) (by simp only [CellsAt, and_true]; and_intros <;> go_simp)) rfl ?_)
            rw [decide_eq_true hC]
            exact ⟨rfl, (by repeat' (first | with_reducible exact Below.refl _ _ | with_reducible assumption | with_reducible refine b_alloc ?_ _ | with_reducible refine b_drewN ?_ _ | with_reducible refine b_drew ?_ | with_reducible refine b_set ?_ (by first | (simp only [World.size_setCell, World.size_alloc, World.size_drew]; omega) | (simp; done) | (simp; omega)) _ | with_reducible refine b_step ?_ (by with_reducible assumption)))⟩
          · have hS : ¬ LL.CanNext p f := fun h9 => hS0 h9.2.2
            have hFl : ¬ LL.Flies (LL.hdP p f) := fun h9 => hS0 h9.2
            rw [LL.spansM_no hFl, decide_eq_false hFl] at hM
            obtain ⟨As, cs, rfl, hSp, -, hB⟩ := hM.go2 spanE
            replace hb := b_step hb hB; replace kP := kP.b hB; replace kR := kR.b hB; clear hB
            clear hM
            obtain ⟨ekR, fkR, lkR⟩ := kR.cells
            go_wp2_with fail
            (refine bodyPost_ret (res_ct rfl _ [.int .i64 0, .int .i64 0] rfl _ rfl _ Try.underlying60 rfl (by kernel_rfl) (by simp only [CellsAt, and_true]; and_intros <;> go_simp)) rfl ?_)
            rw [LL.nextLo_no hS, LL.nextHi_no hS, decide_eq_false hS]
            exact ⟨rfl, (by repeat' (first | with_reducible exact Below.refl _ _ | with_reducible assumption | with_reducible refine b_alloc ?_ _ | with_reducible refine b_drewN ?_ _ | with_reducible refine b_drew ?_ | with_reducible refine b_set ?_ (by first | (simp only [World.size_setCell, World.size_alloc, World.size_drew]; omega) | (simp; done) | (simp; omega)) _ | with_reducible refine b_step ?_ (by with_reducible assumption)))⟩
    · have hS : ¬ LL.CanNext p f := fun h9 => hl h9.2.1
      obtain ⟨ekP, fkP, lkP⟩ := kP.cells; obtain ⟨ekR, fkR, lkR⟩ := kR.cells
      go_wp2_with fail
      (refine bodyPost_ret (res_ct rfl _ [.int .i64 0, .int .i64 0] rfl _ rfl _ Try.underlying60 rfl (by kernel_rfl) (by simp only [CellsAt, and_true]; and_intros <;> go_simp)) rfl ?_)
      rw [LL.nextLo_no hS, LL.nextHi_no hS, decide_eq_false hS]
      exact ⟨rfl, (by repeat' (first | with_reducible exact Below.refl _ _ | with_reducible assumption | with_reducible refine b_alloc ?_ _ | with_reducible refine b_drewN ?_ _ | with_reducible refine b_drew ?_ | with_reducible refine b_set ?_ (by first | (simp only [World.size_setCell, World.size_alloc, World.size_drew]; omega) | (simp; done) | (simp; omega)) _ | with_reducible refine b_step ?_ (by with_reducible assumption)))⟩
  · have hS : ¬ LL.CanNext p f := fun h9 => hP h9.1
    rw [decide_eq_false hP]
    obtain ⟨ekP, fkP, lkP⟩ := kP.cells; obtain ⟨ekR, fkR, lkR⟩ := kR.cells
    go_wp2_with fail
    (refine bodyPost_ret (res_ct rfl _ [.int .i64 0, .int .i64 0] rfl _ rfl _ Try.underlying60 rfl (by kernel_rfl) (by simp only [CellsAt, and_true]; and_intros <;> go_simp)) rfl ?_)
    rw [LL.nextLo_no hS, LL.nextHi_no hS, decide_eq_false hS]
    exact ⟨rfl, (by repeat' (first | with_reducible exact Below.refl _ _ | with_reducible assumption | with_reducible refine b_alloc ?_ _ | with_reducible refine b_drewN ?_ _ | with_reducible refine b_drew ?_ | with_reducible refine b_set ?_ (by first | (simp only [World.size_setCell, World.size_alloc, World.size_drew]; omega) | (simp; done) | (simp; omega)) _ | with_reducible refine b_step ?_ (by with_reducible assumption)))⟩
end Go.Proofs.Ytpeojnknfonmlaa
