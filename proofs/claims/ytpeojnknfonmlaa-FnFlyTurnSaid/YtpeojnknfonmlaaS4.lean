/- The program's walk over the spans. -/
import Derived.Test.YtpeojnknfonmlaaJ4
set_option linter.unusedVariables false
set_option linter.unusedSimpArgs false
namespace Go.Proofs.Ytpeojnknfonmlaa
open Go.RowKit
theorem ite_max (a b : Int) [Decidable (a < b)] : (if a < b then b else a) = max a b := by split <;> omega
theorem ite_min (a b : Int) [Decidable (a < b)] : (if a < b then a else b) = min a b := by split <;> omega
attribute [local go_sem] w_lt_add w_le_of w_le_add ite_max ite_min
theorem Own.updLo {w : World} {e g n c : Nat} {f f' : Nat → LL.Span} (h : Own spanC 2 16 e w (.slice (some ⟨g, 0, none⟩) n c) (LL.tab n f)) (k : Nat) (hk : k < n) {x : Int} (hf : LL.upd f k ⟨x, (f k).hi⟩ = f') : Own spanC 2 16 e (w.setCell ⟨g, k * 2, none⟩ (.int .i64 x)) (.slice (some ⟨g, 0, none⟩) n c) (LL.tab n f') := by
  have := h.setLo (LL.tab_len _ _) k hk x
  rw [LL.tab_getD hk, LL.tab_upd _ _ _ hk, hf] at this
  exact this
theorem Own.updHi {w : World} {e g n c : Nat} {f f' : Nat → LL.Span} (h : Own spanC 2 16 e w (.slice (some ⟨g, 0, none⟩) n c) (LL.tab n f)) (k : Nat) (hk : k < n) {x : Int} (hf : LL.upd f k ⟨(f k).lo, x⟩ = f') : Own spanC 2 16 e (w.setCell ⟨g, k * 2 + 1, none⟩ (.int .i64 x)) (.slice (some ⟨g, 0, none⟩) n c) (LL.tab n f') := by
  have := h.setHi (LL.tab_len _ _) k hk x
  rw [LL.tab_getD hk, LL.tab_upd _ _ _ hk, hf] at this
  exact this
set_option maxRecDepth 100000 in
set_option maxHeartbeats 4000000 in
theorem impl_FlySpans_c (p : LL.Path) (A : Option Addr) (c : Nat) (w : World) (h : RdS w A p.steps.length c p.steps) : Calls Try.prog 24 #[.agg #[.int .i64 p.q, .int .i64 p.s, .slice A p.steps.length c, .int .i64 p.fr, .int .i64 p.by_]] w (Mk2 spanC 2 16 60 w (LL.spansM p) (decide (LL.Flies p))) := by
  have hroom := h.room
  by_cases hP : LL.PathOk p
  · have W := hP.win
    have hn1 : p.steps.length ≤ 40 := by have := hP.2.1.2; omega
    obtain ⟨b, off, rfl, hbw⟩ := h.addr (by have := hP.2.1.1; omega)
    have q0 := W.q0
    have q1 := W.q1
    have s0 := W.s0
    have s1 := W.s1
    go_enter Try.func24, Try.ntmps24
    go_wp2_with (first | (go_at_call 47; go_loud (refine (impl_FlyPathOk_c _ _ _ _ (by exact Rd.mono (by with_reducible assumption) (by repeat' (first | with_reducible exact Below.refl _ _ | with_reducible assumption | with_reducible refine b_alloc ?_ _ | with_reducible refine b_drewN ?_ _ | with_reducible refine b_drew ?_ | with_reducible refine b_set ?_ (by first | (simp only [World.size_setCell, World.size_alloc, World.size_drew]; omega) | (simp; done) | (simp; omega)) _ | with_reducible refine b_step ?_ (by with_reducible assumption))))).mono ?_); rintro e w1 ⟨rfl, hb⟩; (repeat (with_reducible first | replace hb := b_un hb | replace hb := b_unN hb)); obtain ⟨hc, hf, hl⟩ := bcell hb; obtain ⟨gc, gf, gl⟩ := bcell (b_step (w := w) (by repeat' (first | with_reducible exact Below.refl _ _ | with_reducible assumption | with_reducible refine b_alloc ?_ _ | with_reducible refine b_drewN ?_ _ | with_reducible refine b_drew ?_ | with_reducible refine b_set ?_ (by first | (simp only [World.size_setCell, World.size_alloc, World.size_drew]; omega) | (simp; done) | (simp; omega)) _ | with_reducible refine b_step ?_ (by with_reducible assumption))) hb); have hz := hb.size; (try simp at hz); have yw1_0 : w.heap.size < w1.heap.size := (by omega)) | (at_make; go_loud (refine wp_make (bytes := 16) rfl _ _ _ rfl spanE (.agg (spanC LL.sp0).toArray) LL.sp0 Try.underlying52 (by kernel_rfl) rfl (p.steps.length + 1) rfl rfl (by omega) (by decide) ?_); intro g w2 hg hO hb2 hgl; have hge : w.heap.size < g := (by omega); clear hg))
    go_loopw [19] (fun i wr => ∃ k : Nat, k ≤ p.steps.length + 1 ∧ i = .int .i64 k ∧ LL.Fwd p k ∧ Own spanC 2 16 60 wr (.slice (some ⟨g, 0, none⟩) (p.steps.length + 1) (p.steps.length + 1)) (LL.tab (p.steps.length + 1) (LL.spF p k)) ∧ Blk wr w.heap.size #[.int .i64 p.q, .int .i64 p.s, .slice (some ⟨b, off, none⟩) p.steps.length c, .int .i64 p.fr, .int .i64 p.by_] 43 ∧ Below w.heap.size w wr) (fun i _ => p.steps.length + 1 - (intOf i).toNat)
    case atStart => exact ⟨0, Nat.zero_le _, rfl, LL.Fwd.zero _, by rw [LL.replicate_tab] at hO; exact hO, (by repeat' (first | with_reducible assumption | with_reducible exact Blk.new _ _ _ | with_reducible exact Blk.new' _ _ (by first | (simp only [World.size_alloc, World.size_setCell, World.size_drew]; done) | (simp only [World.size_alloc, World.size_setCell, World.size_drew]; omega) | omega) | with_reducible refine Blk.a ?_ _ | with_reducible refine Blk.d ?_ | with_reducible refine Blk.dN ?_ _ | with_reducible refine Blk.s ?_ (by simp only [ne_eq]; omega) _ | with_reducible refine Blk.b ?_ (by with_reducible assumption))), (by repeat' (first | with_reducible exact Below.refl _ _ | with_reducible assumption | with_reducible refine b_alloc ?_ _ | with_reducible refine b_drewN ?_ _ | with_reducible refine b_drew ?_ | with_reducible refine b_set ?_ (by first | (simp only [World.size_setCell, World.size_alloc, World.size_drew]; omega) | (simp; done) | (simp; omega)) _ | with_reducible refine b_step ?_ (by with_reducible assumption)))⟩
    case round =>
      clear hO hb2 hgl hb hc hf hl gc gf gl hz yw1_0
      obtain ⟨k, hk, rfl, hF, hO, kB, hb⟩ := hrel
      by_cases hlt : k ≤ p.steps.length
      · have hkk : (k : Int) < (p.steps.length : Int) + 1 := by omega
        obtain ⟨eB, fB, lB⟩ := kB.cells
        obtain ⟨gc, gf, gl⟩ := bcell hb
        have hgl := (hO.row.lt _ rfl).2
        dsimp only at hgl
        have o' := hO.S2 k (by omega)
        obtain ⟨o1, o2, o3, o4⟩ := o'
        by_cases hk0 : k = 0
        · subst hk0
          go_wp2_with (go_at_call 74; go_loud (refine (impl_bounds_c p _ c 0 _ rfl (by omega) _ (h.mono hb)).mono ?_); rintro e w3 ⟨rfl, hb⟩; (repeat (with_reducible first | replace hb := b_un hb | replace hb := b_unN hb)); obtain ⟨hc, hf, hl⟩ := bcell hb; obtain ⟨gc, gf, gl⟩ := bcell (b_step (w := w) (by repeat' (first | with_reducible exact Below.refl _ _ | with_reducible assumption | with_reducible refine b_alloc ?_ _ | with_reducible refine b_drewN ?_ _ | with_reducible refine b_drew ?_ | with_reducible refine b_set ?_ (by first | (simp only [World.size_setCell, World.size_alloc, World.size_drew]; omega) | (simp; done) | (simp; omega)) _ | with_reducible refine b_step ?_ (by with_reducible assumption))) hb); have hz := hb.size; (try simp at hz); have yw3_0 : w.heap.size < w3.heap.size := (by omega); have yw3_1 : g < w3.heap.size := (by omega))
          go_roundw
          case rel => exact ⟨1, by omega, by go_num, hF.succ hP.first, ((hO.bb hb (by intro b h'; cases h'; exact hgl)).updLo 0 (by omega) rfl).updHi 0 (by omega) (by rw [LL.upd_same, LL.upd_upd]; exact LL.spF_next p 0), ((kB.bb hb (by omega)).s (by simp; omega) _).s (by simp; omega) _, b_set (b_set (b_step ‹Below w.heap.size w wr› hb) (by simp; omega) _) (by simp; omega) _⟩
          case measure => (simp [intOf]; try omega)
        · have hk1 : ((k : Int) == 0) = false := by simp; omega
          obtain ⟨b1, b2, b3⟩ := hF.at_ W (k - 1) (by omega) (by omega)
          obtain ⟨c0, c1, c2, c3, c4, c5, c6⟩ := h.S7 (k - 1) (by omega)
          by_cases hh : (LL.nth p.steps (k - 1)).hold = true
          · go_wp2_with (go_at_call 74; go_loud (refine (impl_bounds_c p _ c k _ rfl (by omega) _ (h.mono hb)).mono ?_); rintro e w3 ⟨rfl, hb⟩; (repeat (with_reducible first | replace hb := b_un hb | replace hb := b_unN hb)); obtain ⟨hc, hf, hl⟩ := bcell hb; obtain ⟨gc, gf, gl⟩ := bcell (b_step (w := w) (by repeat' (first | with_reducible exact Below.refl _ _ | with_reducible assumption | with_reducible refine b_alloc ?_ _ | with_reducible refine b_drewN ?_ _ | with_reducible refine b_drew ?_ | with_reducible refine b_set ?_ (by first | (simp only [World.size_setCell, World.size_alloc, World.size_drew]; omega) | (simp; done) | (simp; omega)) _ | with_reducible refine b_step ?_ (by with_reducible assumption))) hb); have hz := hb.size; (try simp at hz); have yw3_0 : w.heap.size < w3.heap.size := (by omega); have yw3_1 : g < w3.heap.size := (by omega))
            refine wp_name (fun W => Own spanC 2 16 60 W (.slice (some ⟨g, 0, none⟩) (p.steps.length + 1) (p.steps.length + 1)) (LL.tab (p.steps.length + 1) (LL.upd (LL.spF p k) k ⟨LL.lowB p k, LL.highB p k⟩)) ∧ Blk W w.heap.size #[.int .i64 p.q, .int .i64 p.s, .slice (some ⟨b, off, none⟩) p.steps.length c, .int .i64 p.fr, .int .i64 p.by_] 43 ∧ Below w.heap.size w W) ⟨((hO.bb hb (by intro b h'; cases h'; exact hgl)).updLo k (by omega) rfl).updHi k (by omega) (by rw [LL.upd_same, LL.upd_upd]), ((kB.bb hb (by omega)).s (by simp; omega) _).s (by simp; omega) _, b_set (b_set (b_step ‹Below w.heap.size w wr› hb) (by simp; omega) _) (by simp; omega) _⟩ ?_
            clear hO kB hb eB fB lB gc gf gl hgl hc hf hl hz yw3_0 yw3_1 o1 o2 o3 o4
            rintro W9 ⟨hO, kB, hb⟩
            obtain ⟨eB, fB, lB⟩ := kB.cells
            obtain ⟨gc, gf, gl⟩ := bcell hb
            have hgl := (hO.row.lt _ rfl).2
            dsimp only at hgl
            have o' := hO.S2 k (by omega)
            rw [LL.upd_same] at o'
            obtain ⟨o1, o2, o3, o4⟩ := o'
            have o' := hO.S2 (k - 1) (by omega)
            rw [LL.upd_ne _ _ _ (by omega), LL.spF_at p k (k - 1) (by omega)] at o'
            obtain ⟨o5, o6, o7, o8⟩ := o'
            ((refine calm_tail_b 20 (by kernel_rfl) (by kernel_rfl) ?_); (simp only [List.take_succ_cons, List.take_zero, List.drop_succ_cons, List.drop_zero]); (repeat ((apply sure_cons (hg := rfl)); (focus ((intro w' hS'); (obtain ⟨hcS, hfS, hlS⟩ := bcell hS'); (try simp only [World.size_setCell, World.size_alloc, World.size_drew] at hS' hcS hfS hlS); (go_simp); (try go_bits); (try ((first | rw [if_pos (by omega)] | rw [if_neg (by omega)]); go_simp)); (first | (with_reducible rfl) | (with_reducible exact rfl) | (with_reducible exact ⟨rfl, hS'⟩) | fail))); (simp only [Act.put, List.setIfInBounds_toArray, List.set_cons_zero, List.set_cons_succ]))); (refine sure_nil ?_))
            intro W9 hS9
            replace kB := kB.b hS9
            replace hO := hO.b hS9
            replace hb := b_step hb hS9
            clear hS9 eB fB lB gc gf gl hgl o1 o2 o3 o4 o5 o6 o7 o8
            obtain ⟨eB, fB, lB⟩ := kB.cells
            obtain ⟨gc, gf, gl⟩ := bcell hb
            have hgl := (hO.row.lt _ rfl).2
            dsimp only at hgl
            have o' := hO.S2 k (by omega)
            rw [LL.upd_same] at o'
            obtain ⟨o1, o2, o3, o4⟩ := o'
            have o' := hO.S2 (k - 1) (by omega)
            rw [LL.upd_ne _ _ _ (by omega), LL.spF_at p k (k - 1) (by omega)] at o'
            obtain ⟨o5, o6, o7, o8⟩ := o'
            go_wp2_with fail
            refine wp_name (fun W => Own spanC 2 16 60 W (.slice (some ⟨g, 0, none⟩) (p.steps.length + 1) (p.steps.length + 1)) (LL.tab (p.steps.length + 1) (LL.spF p (k + 1))) ∧ Blk W w.heap.size #[.int .i64 p.q, .int .i64 p.s, .slice (some ⟨b, off, none⟩) p.steps.length c, .int .i64 p.fr, .int .i64 p.by_] 43 ∧ Below w.heap.size w W) ⟨by rw [← LL.spF_next, LL.highF_hold p k (by omega) hh]; exact hO.updLo k (by omega) (by rw [LL.upd_same, LL.upd_upd, LL.lowF_at p k (by omega), Int.max_comm]), kB.s (by simp; omega) _, b_set hb (by simp; omega) _⟩ ?_
            clear hO kB hb eB fB lB gc gf gl hgl o1 o2 o3 o4 o5 o6 o7 o8
            rintro W9 ⟨hO, kB, hb⟩
            obtain ⟨eB, fB, lB⟩ := kB.cells
            obtain ⟨gc, gf, gl⟩ := bcell hb
            have hgl := (hO.row.lt _ rfl).2
            dsimp only at hgl
            have o' := hO.S2 k (by omega)
            rw [LL.spF_at p (k + 1) k (by omega)] at o'
            obtain ⟨o1, o2, o3, o4⟩ := o'
            ((refine calm_b (by kernel_rfl) (by kernel_rfl) ?_); (repeat (first | ((apply sure_cons (hg := rfl)); (focus ((intro w' hS'); (obtain ⟨hcS, hfS, hlS⟩ := bcell hS'); (try simp only [World.size_setCell, World.size_alloc, World.size_drew] at hS' hcS hfS hlS); (go_simp); (try go_bits); (try ((first | rw [if_pos (by omega)] | rw [if_neg (by omega)]); go_simp)); (first | (with_reducible rfl) | (with_reducible exact rfl) | (with_reducible exact ⟨rfl, hS'⟩) | fail))); (simp only [Act.put, List.setIfInBounds_toArray, List.set_cons_zero, List.set_cons_succ])) | ((apply sure_off (hg := rfl)); (simp only [Act.put, List.setIfInBounds_toArray, List.set_cons_zero, List.set_cons_succ])))); (refine sure_nil ?_))
            intro W9 hS9
            replace kB := kB.b hS9
            replace hO := hO.b hS9
            replace hb := b_step hb hS9
            clear hS9 eB fB lB gc gf gl hgl o1 o2 o3 o4
            go_wp2_with fail
            · go_ret2
              have hbad : ¬ LL.SpansOk p := LL.Fwd.bad hlt (by omega)
              exact mk2_mk (by rw [LL.spansM_no (fun h => hbad h.2)]; exact ⟨World.ownsRow_nil _ _ _ _, by simp⟩) (dec_f (fun h => hbad h.2)) (fun b hb => by simp [Value.ownBlock] at hb) (by repeat' (first | with_reducible exact Below.refl _ _ | with_reducible assumption | with_reducible refine b_alloc ?_ _ | with_reducible refine b_drewN ?_ _ | with_reducible refine b_drew ?_ | with_reducible refine b_set ?_ (by first | (simp only [World.size_setCell, World.size_alloc, World.size_drew]; omega) | (simp; done) | (simp; omega)) _ | with_reducible refine b_step ?_ (by with_reducible assumption)))
            · go_roundw
              case rel => exact ⟨k + 1, by omega, by go_num, hF.succ (by omega), hO, kB, hb⟩
              case measure => (simp [intOf]; try omega)
          · have hh := Bool.eq_false_iff.2 hh
            go_wp2_with (go_at_call 74; go_loud (refine (impl_bounds_c p _ c k _ rfl (by omega) _ (h.mono hb)).mono ?_); rintro e w3 ⟨rfl, hb⟩; (repeat (with_reducible first | replace hb := b_un hb | replace hb := b_unN hb)); obtain ⟨hc, hf, hl⟩ := bcell hb; obtain ⟨gc, gf, gl⟩ := bcell (b_step (w := w) (by repeat' (first | with_reducible exact Below.refl _ _ | with_reducible assumption | with_reducible refine b_alloc ?_ _ | with_reducible refine b_drewN ?_ _ | with_reducible refine b_drew ?_ | with_reducible refine b_set ?_ (by first | (simp only [World.size_setCell, World.size_alloc, World.size_drew]; omega) | (simp; done) | (simp; omega)) _ | with_reducible refine b_step ?_ (by with_reducible assumption))) hb); have hz := hb.size; (try simp at hz); have yw3_0 : w.heap.size < w3.heap.size := (by omega); have yw3_1 : g < w3.heap.size := (by omega))
            refine wp_name (fun W => Own spanC 2 16 60 W (.slice (some ⟨g, 0, none⟩) (p.steps.length + 1) (p.steps.length + 1)) (LL.tab (p.steps.length + 1) (LL.upd (LL.spF p k) k ⟨LL.lowB p k, LL.highB p k⟩)) ∧ Blk W w.heap.size #[.int .i64 p.q, .int .i64 p.s, .slice (some ⟨b, off, none⟩) p.steps.length c, .int .i64 p.fr, .int .i64 p.by_] 43 ∧ Below w.heap.size w W) ⟨((hO.bb hb (by intro b h'; cases h'; exact hgl)).updLo k (by omega) rfl).updHi k (by omega) (by rw [LL.upd_same, LL.upd_upd]), ((kB.bb hb (by omega)).s (by simp; omega) _).s (by simp; omega) _, b_set (b_set (b_step ‹Below w.heap.size w wr› hb) (by simp; omega) _) (by simp; omega) _⟩ ?_
            clear hO kB hb eB fB lB gc gf gl hgl hc hf hl hz yw3_0 yw3_1 o1 o2 o3 o4
            rintro W9 ⟨hO, kB, hb⟩
            obtain ⟨eB, fB, lB⟩ := kB.cells
            obtain ⟨gc, gf, gl⟩ := bcell hb
            have hgl := (hO.row.lt _ rfl).2
            dsimp only at hgl
            have o' := hO.S2 k (by omega)
            rw [LL.upd_same] at o'
            obtain ⟨o1, o2, o3, o4⟩ := o'
            have o' := hO.S2 (k - 1) (by omega)
            rw [LL.upd_ne _ _ _ (by omega), LL.spF_at p k (k - 1) (by omega)] at o'
            obtain ⟨o5, o6, o7, o8⟩ := o'
            ((refine calm_tail_b 20 (by kernel_rfl) (by kernel_rfl) ?_); (simp only [List.take_succ_cons, List.take_zero, List.drop_succ_cons, List.drop_zero]); (repeat ((apply sure_cons (hg := rfl)); (focus ((intro w' hS'); (obtain ⟨hcS, hfS, hlS⟩ := bcell hS'); (try simp only [World.size_setCell, World.size_alloc, World.size_drew] at hS' hcS hfS hlS); (go_simp); (try go_bits); (try ((first | rw [if_pos (by omega)] | rw [if_neg (by omega)]); go_simp)); (first | (with_reducible rfl) | (with_reducible exact rfl) | (with_reducible exact ⟨rfl, hS'⟩) | fail))); (simp only [Act.put, List.setIfInBounds_toArray, List.set_cons_zero, List.set_cons_succ]))); (refine sure_nil ?_))
            intro W9 hS9
            replace kB := kB.b hS9
            replace hO := hO.b hS9
            replace hb := b_step hb hS9
            clear hS9 eB fB lB gc gf gl hgl o1 o2 o3 o4 o5 o6 o7 o8
            obtain ⟨eB, fB, lB⟩ := kB.cells
            obtain ⟨gc, gf, gl⟩ := bcell hb
            have hgl := (hO.row.lt _ rfl).2
            dsimp only at hgl
            have o' := hO.S2 k (by omega)
            rw [LL.upd_same] at o'
            obtain ⟨o1, o2, o3, o4⟩ := o'
            have o' := hO.S2 (k - 1) (by omega)
            rw [LL.upd_ne _ _ _ (by omega), LL.spF_at p k (k - 1) (by omega)] at o'
            obtain ⟨o5, o6, o7, o8⟩ := o'
            go_wp2_with fail
            refine wp_name (fun W => Own spanC 2 16 60 W (.slice (some ⟨g, 0, none⟩) (p.steps.length + 1) (p.steps.length + 1)) (LL.tab (p.steps.length + 1) (LL.upd (LL.spF p k) k ⟨LL.lowF p k, LL.highB p k⟩)) ∧ Blk W w.heap.size #[.int .i64 p.q, .int .i64 p.s, .slice (some ⟨b, off, none⟩) p.steps.length c, .int .i64 p.fr, .int .i64 p.by_] 43 ∧ Below w.heap.size w W) ⟨hO.updLo k (by omega) (by rw [LL.upd_same, LL.upd_upd, LL.lowF_at p k (by omega), Int.max_comm]), kB.s (by simp; omega) _, b_set hb (by simp; omega) _⟩ ?_
            clear hO kB hb eB fB lB gc gf gl hgl o1 o2 o3 o4 o5 o6 o7 o8
            rintro W9 ⟨hO, kB, hb⟩
            obtain ⟨eB, fB, lB⟩ := kB.cells
            obtain ⟨gc, gf, gl⟩ := bcell hb
            have hgl := (hO.row.lt _ rfl).2
            dsimp only at hgl
            have o' := hO.S2 k (by omega)
            rw [LL.upd_same] at o'
            obtain ⟨o1, o2, o3, o4⟩ := o'
            have o' := hO.S2 (k - 1) (by omega)
            rw [LL.upd_ne _ _ _ (by omega), LL.spF_at p k (k - 1) (by omega)] at o'
            obtain ⟨o5, o6, o7, o8⟩ := o'
            ((refine calm_tail_b 20 (by kernel_rfl) (by kernel_rfl) ?_); (simp only [List.take_succ_cons, List.take_zero, List.drop_succ_cons, List.drop_zero]); (repeat ((apply sure_cons (hg := rfl)); (focus ((intro w' hS'); (obtain ⟨hcS, hfS, hlS⟩ := bcell hS'); (try simp only [World.size_setCell, World.size_alloc, World.size_drew] at hS' hcS hfS hlS); (go_simp); (try go_bits); (try ((first | rw [if_pos (by omega)] | rw [if_neg (by omega)]); go_simp)); (first | (with_reducible rfl) | (with_reducible exact rfl) | (with_reducible exact ⟨rfl, hS'⟩) | fail))); (simp only [Act.put, List.setIfInBounds_toArray, List.set_cons_zero, List.set_cons_succ]))); (refine sure_nil ?_))
            intro W9 hS9
            replace kB := kB.b hS9
            replace hO := hO.b hS9
            replace hb := b_step hb hS9
            clear hS9 eB fB lB gc gf gl hgl o1 o2 o3 o4 o5 o6 o7 o8
            obtain ⟨eB, fB, lB⟩ := kB.cells
            obtain ⟨gc, gf, gl⟩ := bcell hb
            have hgl := (hO.row.lt _ rfl).2
            dsimp only at hgl
            have o' := hO.S2 k (by omega)
            rw [LL.upd_same] at o'
            obtain ⟨o1, o2, o3, o4⟩ := o'
            have o' := hO.S2 (k - 1) (by omega)
            rw [LL.upd_ne _ _ _ (by omega), LL.spF_at p k (k - 1) (by omega)] at o'
            obtain ⟨o5, o6, o7, o8⟩ := o'
            go_wp2_with fail
            refine wp_name (fun W => Own spanC 2 16 60 W (.slice (some ⟨g, 0, none⟩) (p.steps.length + 1) (p.steps.length + 1)) (LL.tab (p.steps.length + 1) (LL.spF p (k + 1))) ∧ Blk W w.heap.size #[.int .i64 p.q, .int .i64 p.s, .slice (some ⟨b, off, none⟩) p.steps.length c, .int .i64 p.fr, .int .i64 p.by_] 43 ∧ Below w.heap.size w W) ⟨hO.updHi k (by omega) (by rw [LL.upd_same, LL.upd_upd, Int.min_comm, ← LL.highF_slow p k (by omega) hh]; exact LL.spF_next p k), kB.s (by simp; omega) _, b_set hb (by simp; omega) _⟩ ?_
            clear hO kB hb eB fB lB gc gf gl hgl o1 o2 o3 o4 o5 o6 o7 o8
            rintro W9 ⟨hO, kB, hb⟩
            obtain ⟨eB, fB, lB⟩ := kB.cells
            obtain ⟨gc, gf, gl⟩ := bcell hb
            have hgl := (hO.row.lt _ rfl).2
            dsimp only at hgl
            have o' := hO.S2 k (by omega)
            rw [LL.spF_at p (k + 1) k (by omega)] at o'
            obtain ⟨o1, o2, o3, o4⟩ := o'
            ((refine calm_b (by kernel_rfl) (by kernel_rfl) ?_); (repeat (first | ((apply sure_cons (hg := rfl)); (focus ((intro w' hS'); (obtain ⟨hcS, hfS, hlS⟩ := bcell hS'); (try simp only [World.size_setCell, World.size_alloc, World.size_drew] at hS' hcS hfS hlS); (go_simp); (try go_bits); (try ((first | rw [if_pos (by omega)] | rw [if_neg (by omega)]); go_simp)); (first | (with_reducible rfl) | (with_reducible exact rfl) | (with_reducible exact ⟨rfl, hS'⟩) | fail))); (simp only [Act.put, List.setIfInBounds_toArray, List.set_cons_zero, List.set_cons_succ])) | ((apply sure_off (hg := rfl)); (simp only [Act.put, List.setIfInBounds_toArray, List.set_cons_zero, List.set_cons_succ])))); (refine sure_nil ?_))
            intro W9 hS9
            replace kB := kB.b hS9
            replace hO := hO.b hS9
            replace hb := b_step hb hS9
            clear hS9 eB fB lB gc gf gl hgl o1 o2 o3 o4
            go_wp2_with fail
            · go_ret2
              have hbad : ¬ LL.SpansOk p := LL.Fwd.bad hlt (by omega)
              exact mk2_mk (by rw [LL.spansM_no (fun h => hbad h.2)]; exact ⟨World.ownsRow_nil _ _ _ _, by simp⟩) (dec_f (fun h => hbad h.2)) (fun b hb => by simp [Value.ownBlock] at hb) (by repeat' (first | with_reducible exact Below.refl _ _ | with_reducible assumption | with_reducible refine b_alloc ?_ _ | with_reducible refine b_drewN ?_ _ | with_reducible refine b_drew ?_ | with_reducible refine b_set ?_ (by first | (simp only [World.size_setCell, World.size_alloc, World.size_drew]; omega) | (simp; done) | (simp; omega)) _ | with_reducible refine b_step ?_ (by with_reducible assumption)))
            · go_roundw
              case rel => exact ⟨k + 1, by omega, by go_num, hF.succ (by omega), hO, kB, hb⟩
              case measure => (simp [intOf]; try omega)
      · have hkn : k = p.steps.length + 1 := by omega
        rw [hkn] at hO hF
        clear hkn
        have hdk : decide ((k : Int) < (p.steps.length : Int) + 1) = false := by simp; omega
        rw [LL.spF_all] at hO
        have hB := LL.Bwd.last hF
        obtain ⟨eB, fB, lB⟩ := kB.cells
        go_wp2
        obtain ⟨wo, rfl⟩ : ∃ wo : World, wo = wr := ⟨_, rfl⟩
        go_loopw [7] (fun i wr => ∃ m : Nat, m ≤ p.steps.length ∧ i = .int .i64 ((m : Int) - 1) ∧ LL.Bwd p m ∧ Own spanC 2 16 60 wr (.slice (some ⟨g, 0, none⟩) (p.steps.length + 1) (p.steps.length + 1)) (LL.tab (p.steps.length + 1) (LL.spB p m)) ∧ Blk wr w.heap.size #[.int .i64 p.q, .int .i64 p.s, .slice (some ⟨b, off, none⟩) p.steps.length c, .int .i64 p.fr, .int .i64 p.by_] 43 ∧ Below w.heap.size w wr) (fun i _ => (intOf i + 1).toNat)
        case atStart => exact ⟨p.steps.length, Nat.le_refl _, rfl, hB, hO, kB, hb⟩
        case round =>
          clear hO kB hb hB eB fB lB
          obtain ⟨m, hm, rfl, hB, hO, kB, hb⟩ := hrel
          by_cases hm0 : 0 < m
          · obtain ⟨k, rfl⟩ : ∃ k, m = k + 1 := ⟨m - 1, by omega⟩
            have hkk : ((k + 1 : Nat) : Int) - 1 = (k : Int) := by omega
            rw [hkk]
            clear hkk
            obtain ⟨b1, b2, b3⟩ := hB.at_ W (k + 1) (by omega) (by omega)
            obtain ⟨b4, b5, b6⟩ := hF.at_ W k (by omega) (by omega)
            obtain ⟨c0, c1, c2, c3, c4, c5, c6⟩ := h.S7 k (by omega)
            obtain ⟨eB, fB, lB⟩ := kB.cells
            obtain ⟨gc, gf, gl⟩ := bcell hb
            have hgl := (hO.row.lt _ rfl).2
            dsimp only at hgl
            have o' := hO.S2 k (by omega)
            rw [LL.spB_pre p (k + 1) k (by omega)] at o'
            obtain ⟨o1, o2, o3, o4⟩ := o'
            have o' := hO.S2 (k + 1) (by omega)
            rw [LL.spB_at p (k + 1) (k + 1) (Nat.le_refl _)] at o'
            obtain ⟨o5, o6, o7, o8⟩ := o'
            go_wp2_with fail
            ((refine calm_tail_b 20 (by kernel_rfl) (by kernel_rfl) ?_); (simp only [List.take_succ_cons, List.take_zero, List.drop_succ_cons, List.drop_zero]); (repeat ((apply sure_cons (hg := rfl)); (focus ((intro w' hS'); (obtain ⟨hcS, hfS, hlS⟩ := bcell hS'); (try simp only [World.size_setCell, World.size_alloc, World.size_drew] at hS' hcS hfS hlS); (go_simp); (try go_bits); (try ((first | rw [if_pos (by omega)] | rw [if_neg (by omega)]); go_simp)); (first | (with_reducible rfl) | (with_reducible exact rfl) | (with_reducible exact ⟨rfl, hS'⟩) | fail))); (simp only [Act.put, List.setIfInBounds_toArray, List.set_cons_zero, List.set_cons_succ]))); (refine sure_nil ?_))
            intro W9 hS9
            replace kB := kB.b hS9
            replace hO := hO.b hS9
            replace hb := b_step hb hS9
            clear hS9 eB fB lB gc gf gl hgl o1 o2 o3 o4 o5 o6 o7 o8
            obtain ⟨eB, fB, lB⟩ := kB.cells
            obtain ⟨gc, gf, gl⟩ := bcell hb
            have hgl := (hO.row.lt _ rfl).2
            dsimp only at hgl
            have o' := hO.S2 k (by omega)
            rw [LL.spB_pre p (k + 1) k (by omega)] at o'
            obtain ⟨o1, o2, o3, o4⟩ := o'
            have o' := hO.S2 (k + 1) (by omega)
            rw [LL.spB_at p (k + 1) (k + 1) (Nat.le_refl _)] at o'
            obtain ⟨o5, o6, o7, o8⟩ := o'
            by_cases hh : (LL.nth p.steps k).hold = true
            · go_wp2_with fail
              refine wp_name (fun W => Own spanC 2 16 60 W (.slice (some ⟨g, 0, none⟩) (p.steps.length + 1) (p.steps.length + 1)) (LL.tab (p.steps.length + 1) (LL.spB p k)) ∧ Blk W w.heap.size #[.int .i64 p.q, .int .i64 p.s, .slice (some ⟨b, off, none⟩) p.steps.length c, .int .i64 p.fr, .int .i64 p.by_] 43 ∧ Below w.heap.size w W) ⟨by rw [← LL.spB_next, LL.lo_hold p k (by omega) hh]; exact hO.updHi k (by omega) (by rw [LL.spB_pre p (k + 1) k (by omega), Int.min_comm, ← LL.hi_step p k (by omega)]), kB.s (by simp; omega) _, b_set hb (by simp; omega) _⟩ ?_
              clear hO kB hb eB fB lB gc gf gl hgl o1 o2 o3 o4 o5 o6 o7 o8
              rintro W9 ⟨hO, kB, hb⟩
              obtain ⟨eB, fB, lB⟩ := kB.cells
              obtain ⟨gc, gf, gl⟩ := bcell hb
              have hgl := (hO.row.lt _ rfl).2
              dsimp only at hgl
              have o' := hO.S2 k (by omega)
              rw [LL.spB_at p k k (Nat.le_refl _)] at o'
              obtain ⟨o1, o2, o3, o4⟩ := o'
              ((refine calm_b (by kernel_rfl) (by kernel_rfl) ?_); (repeat (first | ((apply sure_cons (hg := rfl)); (focus ((intro w' hS'); (obtain ⟨hcS, hfS, hlS⟩ := bcell hS'); (try simp only [World.size_setCell, World.size_alloc, World.size_drew] at hS' hcS hfS hlS); (go_simp); (try go_bits); (try ((first | rw [if_pos (by omega)] | rw [if_neg (by omega)]); go_simp)); (first | (with_reducible rfl) | (with_reducible exact rfl) | (with_reducible exact ⟨rfl, hS'⟩) | fail))); (simp only [Act.put, List.setIfInBounds_toArray, List.set_cons_zero, List.set_cons_succ])) | ((apply sure_off (hg := rfl)); (simp only [Act.put, List.setIfInBounds_toArray, List.set_cons_zero, List.set_cons_succ])))); (refine sure_nil ?_))
              intro W9 hS9
              replace kB := kB.b hS9
              replace hO := hO.b hS9
              replace hb := b_step hb hS9
              clear hS9 eB fB lB gc gf gl hgl o1 o2 o3 o4
              go_wp2_with fail
              · go_ret2
                have hbad : ¬ LL.SpansOk p := LL.Bwd.bad (k := k) (by omega) (by omega)
                exact mk2_mk (by rw [LL.spansM_no (fun h => hbad h.2)]; exact ⟨World.ownsRow_nil _ _ _ _, by simp⟩) (dec_f (fun h => hbad h.2)) (fun b hb => by simp [Value.ownBlock] at hb) (by repeat' (first | with_reducible exact Below.refl _ _ | with_reducible assumption | with_reducible refine b_alloc ?_ _ | with_reducible refine b_drewN ?_ _ | with_reducible refine b_drew ?_ | with_reducible refine b_set ?_ (by first | (simp only [World.size_setCell, World.size_alloc, World.size_drew]; omega) | (simp; done) | (simp; omega)) _ | with_reducible refine b_step ?_ (by with_reducible assumption)))
              · go_roundw
                case rel => exact ⟨k, by omega, by go_num, hB.pred (by omega), hO, kB, hb⟩
                case measure => (simp [intOf]; try omega)
            · have hh := Bool.eq_false_iff.2 hh
              go_wp2_with fail
              refine wp_name (fun W => Own spanC 2 16 60 W (.slice (some ⟨g, 0, none⟩) (p.steps.length + 1) (p.steps.length + 1)) (LL.tab (p.steps.length + 1) (LL.upd (LL.spB p (k + 1)) k ⟨LL.lowF p k, LL.hi p k⟩)) ∧ Blk W w.heap.size #[.int .i64 p.q, .int .i64 p.s, .slice (some ⟨b, off, none⟩) p.steps.length c, .int .i64 p.fr, .int .i64 p.by_] 43 ∧ Below w.heap.size w W) ⟨hO.updHi k (by omega) (by rw [LL.spB_pre p (k + 1) k (by omega), Int.min_comm, ← LL.hi_step p k (by omega)]), kB.s (by simp; omega) _, b_set hb (by simp; omega) _⟩ ?_
              clear hO kB hb eB fB lB gc gf gl hgl o1 o2 o3 o4 o5 o6 o7 o8
              rintro W9 ⟨hO, kB, hb⟩
              obtain ⟨eB, fB, lB⟩ := kB.cells
              obtain ⟨gc, gf, gl⟩ := bcell hb
              have hgl := (hO.row.lt _ rfl).2
              dsimp only at hgl
              have o' := hO.S2 k (by omega)
              rw [LL.upd_same] at o'
              obtain ⟨o1, o2, o3, o4⟩ := o'
              have o' := hO.S2 (k + 1) (by omega)
              rw [LL.upd_ne _ _ _ (by omega), LL.spB_at p (k + 1) (k + 1) (Nat.le_refl _)] at o'
              obtain ⟨o5, o6, o7, o8⟩ := o'
              ((refine calm_tail_b 20 (by kernel_rfl) (by kernel_rfl) ?_); (simp only [List.take_succ_cons, List.take_zero, List.drop_succ_cons, List.drop_zero]); (repeat ((apply sure_cons (hg := rfl)); (focus ((intro w' hS'); (obtain ⟨hcS, hfS, hlS⟩ := bcell hS'); (try simp only [World.size_setCell, World.size_alloc, World.size_drew] at hS' hcS hfS hlS); (go_simp); (try go_bits); (try ((first | rw [if_pos (by omega)] | rw [if_neg (by omega)]); go_simp)); (first | (with_reducible rfl) | (with_reducible exact rfl) | (with_reducible exact ⟨rfl, hS'⟩) | fail))); (simp only [Act.put, List.setIfInBounds_toArray, List.set_cons_zero, List.set_cons_succ]))); (refine sure_nil ?_))
              intro W9 hS9
              replace kB := kB.b hS9
              replace hO := hO.b hS9
              replace hb := b_step hb hS9
              clear hS9 eB fB lB gc gf gl hgl o1 o2 o3 o4 o5 o6 o7 o8
              obtain ⟨eB, fB, lB⟩ := kB.cells
              obtain ⟨gc, gf, gl⟩ := bcell hb
              have hgl := (hO.row.lt _ rfl).2
              dsimp only at hgl
              have o' := hO.S2 k (by omega)
              rw [LL.upd_same] at o'
              obtain ⟨o1, o2, o3, o4⟩ := o'
              have o' := hO.S2 (k + 1) (by omega)
              rw [LL.upd_ne _ _ _ (by omega), LL.spB_at p (k + 1) (k + 1) (Nat.le_refl _)] at o'
              obtain ⟨o5, o6, o7, o8⟩ := o'
              go_wp2_with fail
              refine wp_name (fun W => Own spanC 2 16 60 W (.slice (some ⟨g, 0, none⟩) (p.steps.length + 1) (p.steps.length + 1)) (LL.tab (p.steps.length + 1) (LL.spB p k)) ∧ Blk W w.heap.size #[.int .i64 p.q, .int .i64 p.s, .slice (some ⟨b, off, none⟩) p.steps.length c, .int .i64 p.fr, .int .i64 p.by_] 43 ∧ Below w.heap.size w W) ⟨hO.updLo k (by omega) (by rw [LL.upd_same, LL.upd_upd, ← LL.lo_slow' p k (by omega) hh]; exact LL.spB_next p k), kB.s (by simp; omega) _, b_set hb (by simp; omega) _⟩ ?_
              clear hO kB hb eB fB lB gc gf gl hgl o1 o2 o3 o4 o5 o6 o7 o8
              rintro W9 ⟨hO, kB, hb⟩
              obtain ⟨eB, fB, lB⟩ := kB.cells
              obtain ⟨gc, gf, gl⟩ := bcell hb
              have hgl := (hO.row.lt _ rfl).2
              dsimp only at hgl
              have o' := hO.S2 k (by omega)
              rw [LL.spB_at p k k (Nat.le_refl _)] at o'
              obtain ⟨o1, o2, o3, o4⟩ := o'
              ((refine calm_b (by kernel_rfl) (by kernel_rfl) ?_); (repeat (first | ((apply sure_cons (hg := rfl)); (focus ((intro w' hS'); (obtain ⟨hcS, hfS, hlS⟩ := bcell hS'); (try simp only [World.size_setCell, World.size_alloc, World.size_drew] at hS' hcS hfS hlS); (go_simp); (try go_bits); (try ((first | rw [if_pos (by omega)] | rw [if_neg (by omega)]); go_simp)); (first | (with_reducible rfl) | (with_reducible exact rfl) | (with_reducible exact ⟨rfl, hS'⟩) | fail))); (simp only [Act.put, List.setIfInBounds_toArray, List.set_cons_zero, List.set_cons_succ])) | ((apply sure_off (hg := rfl)); (simp only [Act.put, List.setIfInBounds_toArray, List.set_cons_zero, List.set_cons_succ])))); (refine sure_nil ?_))
              intro W9 hS9
              replace kB := kB.b hS9
              replace hO := hO.b hS9
              replace hb := b_step hb hS9
              clear hS9 eB fB lB gc gf gl hgl o1 o2 o3 o4
              go_wp2_with fail
              · go_ret2
                have hbad : ¬ LL.SpansOk p := LL.Bwd.bad (k := k) (by omega) (by omega)
                exact mk2_mk (by rw [LL.spansM_no (fun h => hbad h.2)]; exact ⟨World.ownsRow_nil _ _ _ _, by simp⟩) (dec_f (fun h => hbad h.2)) (fun b hb => by simp [Value.ownBlock] at hb) (by repeat' (first | with_reducible exact Below.refl _ _ | with_reducible assumption | with_reducible refine b_alloc ?_ _ | with_reducible refine b_drewN ?_ _ | with_reducible refine b_drew ?_ | with_reducible refine b_set ?_ (by first | (simp only [World.size_setCell, World.size_alloc, World.size_drew]; omega) | (simp; done) | (simp; omega)) _ | with_reducible refine b_step ?_ (by with_reducible assumption)))
              · go_roundw
                case rel => exact ⟨k, by omega, by go_num, hB.pred (by omega), hO, kB, hb⟩
                case measure => (simp [intOf]; try omega)
          · obtain rfl : m = 0 := by omega
            go_wp2
            go_ret2
            have hok : LL.Flies p := ⟨hP, LL.Bwd.all hF hB⟩
            refine mk2_mk (by rw [LL.spansM_yes hok, ← LL.spB_zero]; exact hO) (dec_t hok) (fun b h' => by simp [Value.ownBlock] at h'; omega) hb
  · go_enter Try.func24, Try.ntmps24
    go_wp2_with (first | (go_at_call 47; go_loud (refine (impl_FlyPathOk_c _ _ _ _ (by exact Rd.mono (by with_reducible assumption) (by repeat' (first | with_reducible exact Below.refl _ _ | with_reducible assumption | with_reducible refine b_alloc ?_ _ | with_reducible refine b_drewN ?_ _ | with_reducible refine b_drew ?_ | with_reducible refine b_set ?_ (by first | (simp only [World.size_setCell, World.size_alloc, World.size_drew]; omega) | (simp; done) | (simp; omega)) _ | with_reducible refine b_step ?_ (by with_reducible assumption))))).mono ?_); rintro e w1 ⟨rfl, hb⟩; (repeat (with_reducible first | replace hb := b_un hb | replace hb := b_unN hb)); obtain ⟨hc, hf, hl⟩ := bcell hb; obtain ⟨gc, gf, gl⟩ := bcell (b_step (w := w) (by repeat' (first | with_reducible exact Below.refl _ _ | with_reducible assumption | with_reducible refine b_alloc ?_ _ | with_reducible refine b_drewN ?_ _ | with_reducible refine b_drew ?_ | with_reducible refine b_set ?_ (by first | (simp only [World.size_setCell, World.size_alloc, World.size_drew]; omega) | (simp; done) | (simp; omega)) _ | with_reducible refine b_step ?_ (by with_reducible assumption))) hb); have hz := hb.size; (try simp at hz); have yw1_0 : w.heap.size < w1.heap.size := (by omega)))
    go_ret2
    exact mk2_mk (by rw [LL.spansM_no (fun h => hP h.1)]; exact ⟨World.ownsRow_nil _ _ _ _, by simp⟩) (dec_f (fun h => hP h.1)) (fun b hb => by simp [Value.ownBlock] at hb) (by repeat' (first | with_reducible exact Below.refl _ _ | with_reducible assumption | with_reducible refine b_alloc ?_ _ | with_reducible refine b_drewN ?_ _ | with_reducible refine b_drew ?_ | with_reducible refine b_set ?_ (by first | (simp only [World.size_setCell, World.size_alloc, World.size_drew]; omega) | (simp; done) | (simp; omega)) _ | with_reducible refine b_step ?_ (by with_reducible assumption)))
end Go.Proofs.Ytpeojnknfonmlaa
