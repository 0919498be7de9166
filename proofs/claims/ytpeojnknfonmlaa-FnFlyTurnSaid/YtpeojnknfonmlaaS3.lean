/- The reference's walk over the spans. -/
import Derived.Test.YtpeojnknfonmlaaJ4
set_option linter.unusedVariables false
set_option linter.unusedSimpArgs false
namespace Go.Proofs.Ytpeojnknfonmlaa
open Go.RowKit
attribute [local go_sem] w_lt_add w_le_of w_le_add max2_i min2_i
set_option maxRecDepth 100000 in
set_option maxHeartbeats 2000000 in
theorem spec_l4Spans_c (p : LL.Path) (A : Option Addr) (c : Nat) (w : World) (W : LL.Win p) (h : RdS w A p.steps.length c p.steps) : Calls Try.prog 79 #[.agg #[.int .i64 p.q, .int .i64 p.s, .slice A p.steps.length c, .int .i64 p.fr, .int .i64 p.by_]] w (Mk2 spanC 2 16 60 w (LL.spansR p) (decide (LL.SpansOk p))) := by
  have hroom := h.room
  go_enter Try.func79, Try.ntmps79
  go_wp2
  go_loopw [4, 6] (fun o i wr => ∃ k : Nat, k ≤ p.steps.length + 1 ∧ i = .int .i64 k ∧ LL.Fwd p k ∧ Own spanC 2 16 60 wr o (LL.tab k (fun j => ⟨LL.lowF p j, LL.highF p j⟩)) ∧ (∀ b, o.ownBlock = some b → w.heap.size < b) ∧ Blk wr w.heap.size #[.int .i64 p.q, .int .i64 p.s, .slice A p.steps.length c, .int .i64 p.fr, .int .i64 p.by_] 43 ∧ Below w.heap.size w wr) (fun _ i _ => p.steps.length + 1 - (intOf i).toNat)
  case atStart => 
    exact ⟨0, Nat.zero_le _, rfl, LL.Fwd.zero _, by rw [LL.tab_zero]; exact Own.made' (by simp), fun b hb => by simp [Value.ownBlock] at hb; omega, (by repeat' (first | with_reducible assumption | with_reducible exact Blk.new _ _ _ | with_reducible exact Blk.new' _ _ (by first | (simp only [World.size_alloc, World.size_setCell, World.size_drew]; done) | (simp only [World.size_alloc, World.size_setCell, World.size_drew]; omega) | omega) | with_reducible refine Blk.a ?_ _ | with_reducible refine Blk.d ?_ | with_reducible refine Blk.dN ?_ _ | with_reducible refine Blk.s ?_ (by simp only [ne_eq]; omega) _ | with_reducible refine Blk.b ?_ (by with_reducible assumption))), (by repeat' (first | with_reducible exact Below.refl _ _ | with_reducible assumption | with_reducible refine b_alloc ?_ _ | with_reducible refine b_drewN ?_ _ | with_reducible refine b_drew ?_ | with_reducible refine b_set ?_ (by first | (simp only [World.size_setCell, World.size_alloc, World.size_drew]; omega) | (simp; done) | (simp; omega)) _ | with_reducible refine b_step ?_ (by with_reducible assumption)))⟩
  case round =>
    obtain ⟨k, hk, rfl, hF, hO, hge, kB, hb⟩ := hrel
    by_cases hlt : k ≤ p.steps.length
    · obtain ⟨eB, fB, lB⟩ := kB.cells
      obtain ⟨gc, gf, gl⟩ := bcell hb
      go_wp2_with fail
      refine rel_tail_b 8 [(2, fun v _ => v = .int .i64 (LL.lowB p k)), (5, fun v _ => v = .int .i64 (LL.highB p k)), (7, fun v w' => ∃ g, v = .pointer (some ⟨g, 0, none⟩) ∧ wr.heap.size ≤ g ∧ Blk w' g #[.int .i64 0, .int .i64 0] 60)] (by kernel_rfl) (by kernel_rfl) ?_
      simp only [List.take_succ_cons, List.take_zero, List.drop_succ_cons, List.drop_zero]
      ((apply rel_plain (hR := rfl) (hF := fun _ => trivial) (hg := rfl)); (focus ((intro w' hL'); (obtain ⟨hcS, hfS, hlS⟩ := bcell hL'); (try simp only [World.size_setCell, World.size_alloc, World.size_drew] at hcS hfS hlS); (go_simp); (try go_bits); (try (first | (rw [if_pos (by omega)]; done) | (rw [if_neg (by omega)]; done) | (rw [if_pos (by omega)]; go_simp) | (rw [if_neg (by omega)]; go_simp))); (first | with_reducible rfl | exact rfl | skip))); (simp only [Act.put, List.setIfInBounds_toArray, List.set_cons_zero, List.set_cons_succ]))
      ((apply rel_plain (hR := rfl) (hF := fun _ => trivial) (hg := rfl)); (focus ((intro w' hL'); (obtain ⟨hcS, hfS, hlS⟩ := bcell hL'); (try simp only [World.size_setCell, World.size_alloc, World.size_drew] at hcS hfS hlS); (go_simp); (try go_bits); (try (first | (rw [if_pos (by omega)]; done) | (rw [if_neg (by omega)]; done) | (rw [if_pos (by omega)]; go_simp) | (rw [if_neg (by omega)]; go_simp))); (first | with_reducible rfl | exact rfl | skip))); (simp only [Act.put, List.setIfInBounds_toArray, List.set_cons_zero, List.set_cons_succ]))
      ((apply rel_told (hR := rfl) (hg := rfl)); (focus ((intro w' hL' hD'); (obtain ⟨hcS, hfS, hlS⟩ := bcell hL'); (try simp only [World.size_setCell, World.size_alloc, World.size_drew] at hcS hfS hlS); (go_simp); (try go_bits); (try (first | (rw [if_pos (by omega)]; done) | (rw [if_neg (by omega)]; done) | (rw [if_pos (by omega)]; go_simp) | (rw [if_neg (by omega)]; go_simp))); ((go_at_call 80); (refine (spec_l3Low_c p A c k _ rfl _ (h.mono (b_step hb hL'))).mono ?_); (rintro e w'' ⟨rfl, hb''⟩); (refine ⟨_, rfl, ?_, ?_⟩); (focus (first | exact hb'' | (subst hb''; exact Le.refl _))); ((repeat (first | (refine Tell.hit rfl ?_) | (refine Tell.skip rfl ?_))); exact rfl)))); (intro v' w0' hv'); (replace hv' := Tell.out hv' rfl); (obtain rfl := hv'); (simp only [Act.put, List.setIfInBounds_toArray, List.set_cons_zero, List.set_cons_succ]))
      ((apply rel_plain (hR := rfl) (hF := fun _ => trivial) (hg := rfl)); (focus ((intro w' hL'); (obtain ⟨hcS, hfS, hlS⟩ := bcell hL'); (try simp only [World.size_setCell, World.size_alloc, World.size_drew] at hcS hfS hlS); (go_simp); (try go_bits); (try (first | (rw [if_pos (by omega)]; done) | (rw [if_neg (by omega)]; done) | (rw [if_pos (by omega)]; go_simp) | (rw [if_neg (by omega)]; go_simp))); (first | with_reducible rfl | exact rfl | skip))); (simp only [Act.put, List.setIfInBounds_toArray, List.set_cons_zero, List.set_cons_succ]))
      ((apply rel_plain (hR := rfl) (hF := fun _ => trivial) (hg := rfl)); (focus ((intro w' hL'); (obtain ⟨hcS, hfS, hlS⟩ := bcell hL'); (try simp only [World.size_setCell, World.size_alloc, World.size_drew] at hcS hfS hlS); (go_simp); (try go_bits); (try (first | (rw [if_pos (by omega)]; done) | (rw [if_neg (by omega)]; done) | (rw [if_pos (by omega)]; go_simp) | (rw [if_neg (by omega)]; go_simp))); (first | with_reducible rfl | exact rfl | skip))); (simp only [Act.put, List.setIfInBounds_toArray, List.set_cons_zero, List.set_cons_succ]))
      ((apply rel_told (hR := rfl) (hg := rfl)); (focus ((intro w' hL' hD'); (obtain ⟨hcS, hfS, hlS⟩ := bcell hL'); (try simp only [World.size_setCell, World.size_alloc, World.size_drew] at hcS hfS hlS); (go_simp); (try go_bits); (try (first | (rw [if_pos (by omega)]; done) | (rw [if_neg (by omega)]; done) | (rw [if_pos (by omega)]; go_simp) | (rw [if_neg (by omega)]; go_simp))); ((go_at_call 81); (refine (spec_l3High_c p A c k _ rfl _ (h.mono (b_step hb hL'))).mono ?_); (rintro e w'' ⟨rfl, hb''⟩); (refine ⟨_, rfl, ?_, ?_⟩); (focus (first | exact hb'' | (subst hb''; exact Le.refl _))); ((repeat (first | (refine Tell.hit rfl ?_) | (refine Tell.skip rfl ?_))); exact rfl)))); (intro v' w0' hv'); (replace hv' := Tell.out hv' rfl); (obtain rfl := hv'); (simp only [Act.put, List.setIfInBounds_toArray, List.set_cons_zero, List.set_cons_succ]))
      ((apply rel_plain (hR := rfl) (hF := fun _ => trivial) (hg := rfl)); (focus ((intro w' hL'); (obtain ⟨hcS, hfS, hlS⟩ := bcell hL'); (try simp only [World.size_setCell, World.size_alloc, World.size_drew] at hcS hfS hlS); (go_simp); (try go_bits); (try (first | (rw [if_pos (by omega)]; done) | (rw [if_neg (by omega)]; done) | (rw [if_pos (by omega)]; go_simp) | (rw [if_neg (by omega)]; go_simp))); (first | with_reducible rfl | exact rfl | skip))); (simp only [Act.put, List.setIfInBounds_toArray, List.set_cons_zero, List.set_cons_succ]))
      ((apply rel_told (hR := rfl) (hg := rfl)); (focus ((intro w' hL' hD'); (obtain ⟨hcS, hfS, hlS⟩ := bcell hL'); (try simp only [World.size_setCell, World.size_alloc, World.size_drew] at hcS hfS hlS); (go_simp); (try go_bits); (try (first | (rw [if_pos (by omega)]; done) | (rw [if_neg (by omega)]; done) | (rw [if_pos (by omega)]; go_simp) | (rw [if_neg (by omega)]; go_simp))); (refine ⟨b_alloc (Below.refl _ _) _, ?_⟩; ((repeat (first | (refine Tell.hit rfl ?_) | (refine Tell.skip rfl ?_))); exact ⟨_, rfl, hL'.size, Blk.new _ _ _⟩)))); (intro v' w0' hv'); (replace hv' := Tell.out hv' rfl); (obtain ⟨g, rfl, hgw, -⟩ := hv'); (simp only [Act.put, List.setIfInBounds_toArray, List.set_cons_zero, List.set_cons_succ]))
      refine rel_nil ?_
      intro w2 hL2 hF2
      obtain ⟨w0, hl0, g', hg', -, kG⟩ := Known.out (hF2 7) rfl
      cases hg'
      have kB2 := kB.b hL2
      have hO2 := hO.b hL2
      have hb2 := b_step hb hL2
      have k2 := kG.b hl0
      clear hF2 hl0 kG hL2 eB fB lB gc gf gl
      have hol : ∀ b, u4.ownBlock = some b → b < g := fun b hb => by have := (hO.row.lt b hb).2; omega
      have hwg : w.heap.size < g := by have := kB.cells.2.2; omega
      clear hO kB hb
      obtain ⟨eG, fG, lG⟩ := k2.cells
      by_cases hk0 : 0 < k
      · have hk0' : decide ((0 : Int) < (k : Int)) = true := by simp; omega
        obtain ⟨go, cap, rfl, hcap, hgo, -⟩ := hO2.form (by rw [LL.tab_len]; exact hk0)
        rw [LL.tab_len] at hO2 hcap
        simp only [LL.tab_len] at hge hol ⊢
        have hgog : go < g := hol go rfl
        have hwgo : w.heap.size < go := hge go rfl
        go_wp2_with fail
        refine wp_name (fun W => Blk W g #[.int .i64 (LL.lowB p k), .int .i64 (LL.highB p k)] 60 ∧ Blk W w.heap.size #[.int .i64 p.q, .int .i64 p.s, .slice A p.steps.length c, .int .i64 p.fr, .int .i64 p.by_] 43 ∧ Own spanC 2 16 60 W (.slice (some ⟨go, 0, none⟩) k cap) (LL.tab k (fun j => ⟨LL.lowF p j, LL.highF p j⟩)) ∧ Below w.heap.size w W) ⟨by simpa using (k2.put 0 _).put 1 _, (kB2.s (by simp; omega) _).s (by simp; omega) _, (hO2.s _ (fun b hb => by have := hol b hb; simp; omega)).s _ (fun b hb => by have := hol b hb; simp; omega), (by repeat' (first | with_reducible exact Below.refl _ _ | with_reducible assumption | with_reducible refine b_alloc ?_ _ | with_reducible refine b_drewN ?_ _ | with_reducible refine b_drew ?_ | with_reducible refine b_set ?_ (by first | (simp only [World.size_setCell, World.size_alloc, World.size_drew]; omega) | (simp; done) | (simp; omega)) _ | with_reducible refine b_step ?_ (by with_reducible assumption)))⟩ ?_
        clear k2 kB2 hO2 hb2 eG fG lG
        rintro W3 ⟨kG, kB, hO, hb⟩
        obtain ⟨eG, fG, lG⟩ := kG.cells
        obtain ⟨eB, fB, lB⟩ := kB.cells
        obtain ⟨gc, gf, gl⟩ := bcell hb
        obtain ⟨b1, b2, b3⟩ := hF.at_ W (k - 1) (by omega) (by omega)
        obtain ⟨o1, o2, o3, o4⟩ := hO.S2 (k - 1) (by omega)
        have hgl := (hO.row.lt _ rfl).2
        have q0 := W.q0
        have q1 := W.q1
        ((refine calm_tail_b 14 (by kernel_rfl) (by kernel_rfl) ?_); (simp only [List.take_succ_cons, List.take_zero, List.drop_succ_cons, List.drop_zero]); (repeat ((apply sure_cons (hg := rfl)); (focus ((intro w' hS'); (obtain ⟨hcS, hfS, hlS⟩ := bcell hS'); (try simp only [World.size_setCell, World.size_alloc, World.size_drew] at hS' hcS hfS hlS); (go_simp); (try go_bits); (try ((first | rw [if_pos (by omega)] | rw [if_neg (by omega)]); go_simp)); (first | (with_reducible rfl) | (with_reducible exact rfl) | (with_reducible exact ⟨rfl, hS'⟩) | (go_at_call 87; go_loud (refine (spec_l1Max_c _ _ _).mono ?_); rintro e w'' ⟨rfl, hb⟩; (first | (subst hb; exact ⟨rfl, hS'⟩) | exact ⟨rfl, b_to hS' hb (by first | exact Nat.le_refl _ | (have h1 := hS'.size; (try simp only [World.size_setCell, World.size_alloc, World.size_drew] at h1); omega))⟩))))); (simp only [Act.put, List.setIfInBounds_toArray, List.set_cons_zero, List.set_cons_succ]))); (refine sure_nil ?_))
        clear eG fG lG eB fB lB gc gf gl o1 o2 o3 o4 hgl
        intro W4 hS4
        replace kG := kG.b hS4
        replace kB := kB.b hS4
        replace hO := hO.b hS4
        replace hb := b_step hb hS4
        clear hS4
        obtain ⟨eG, fG, lG⟩ := kG.cells
        obtain ⟨eB, fB, lB⟩ := kB.cells
        obtain ⟨gc, gf, gl⟩ := bcell hb
        obtain ⟨o1, o2, o3, o4⟩ := hO.S2 (k - 1) (by omega)
        have hgl := (hO.row.lt _ rfl).2
        go_wp2_with fail
        have hmost : 0 ≤ LL.most p (k - 1) ∧ LL.most p (k - 1) ≤ 10000 := by have := W.s0; have := W.s1; unfold LL.most; split <;> omega
        obtain ⟨m1, m2⟩ := hmost
        ((refine calm_tail_b 15 (by kernel_rfl) (by kernel_rfl) ?_); (simp only [List.take_succ_cons, List.take_zero, List.drop_succ_cons, List.drop_zero]); (repeat ((apply sure_cons (hg := rfl)); (focus ((intro w' hS'); (obtain ⟨hcS, hfS, hlS⟩ := bcell hS'); (try simp only [World.size_setCell, World.size_alloc, World.size_drew] at hS' hcS hfS hlS); (go_simp); (try go_bits); (try ((first | rw [if_pos (by omega)] | rw [if_neg (by omega)]); go_simp)); (first | (with_reducible rfl) | (with_reducible exact rfl) | (with_reducible exact ⟨rfl, hS'⟩) | (first | (go_at_call 88; go_loud (refine (spec_l1Min_c _ _ _).mono ?_); rintro e w'' ⟨rfl, hb⟩; (first | (subst hb; exact ⟨rfl, hS'⟩) | exact ⟨rfl, b_to hS' hb (by first | exact Nat.le_refl _ | (have h1 := hS'.size; (try simp only [World.size_setCell, World.size_alloc, World.size_drew] at h1); omega))⟩)) | (go_at_call 82; go_loud (refine (spec_l3Most_c p A c (k - 1) _ (by omega) (by omega) _ (h.mono (b_to (b_set hb (by simp; omega) _) hS' (by omega)))).mono ?_); rintro e w'' ⟨rfl, hb⟩; (first | (subst hb; exact ⟨rfl, hS'⟩) | exact ⟨rfl, b_to hS' hb (by first | exact Nat.le_refl _ | (have h1 := hS'.size; (try simp only [World.size_setCell, World.size_alloc, World.size_drew] at h1); omega))⟩)))))); (simp only [Act.put, List.setIfInBounds_toArray, List.set_cons_zero, List.set_cons_succ]))); (refine sure_nil ?_))
        intro W5 hS5
        simp only [World.size_setCell] at hS5
        replace kG : Blk W5 g #[.int .i64 (LL.lowF p k), .int .i64 (LL.highB p k)] 60 := by
          have := (kG.put 0 (.int .i64 (max (LL.lowB p k) (LL.lowF p (k - 1) + p.q)))).bb hS5 lG
          rw [LL.lowF_at p k hk0]; simpa using this
        replace kB := (kB.s (by simp; omega) _).bb hS5 (by omega)
        replace hO := (hO.s _ (fun b hb => by have := hol b hb; simp; omega)).bb hS5 (fun b hb => by have := hol b hb; omega)
        replace hb := b_to (b_set hb (by simp; omega) _) hS5 (by omega)
        clear eG fG lG eB fB lB gc gf gl o1 o2 o3 o4 hgl hS5
        obtain ⟨eG, fG, lG⟩ := kG.cells
        obtain ⟨eB, fB, lB⟩ := kB.cells
        have hat := LL.highF_at p W k hk0 hlt (by omega)
        have Hat := Lib.hid hat
        clear hat
        go_wp2_with (first | (at_builtin; go_loud (refine wp_app (bytes := 16) (e := 60) rfl _ _ _ rfl spanE (.agg #[.int .i64 0, .int .i64 0]) Try.underlying52 (by kernel_rfl) rfl (by decide) (v := (.slice (some ⟨go, 0, none⟩) k cap)) rfl ((hO.s _ (fun b hb => by have := hol b hb; simp; omega)).a _) rfl (Rd.one (x := (⟨LL.lowF p k, min (LL.highB p k) (LL.highF p (k - 1) + LL.most p (k - 1))⟩ : LL.Span)) (Blk.new' _ _ (by simp)) rfl (by decide)) (by rw [LL.tab_len]; omega) ?_); intro v7 w7 hO7 hg7 hat7))
        all_goals have ht := Hat.out
        all_goals clear Hat
        · go_ret2
          have hbad : ¬ LL.SpansOk p := LL.Fwd.bad hlt (by omega)
          refine mk2_mk (by rw [LL.spansR_no hbad]; exact Own.made' (by simp)) (dec_f hbad) (fun b hb => by simp [Value.ownBlock] at hb; omega) (by repeat' (first | with_reducible exact Below.refl _ _ | with_reducible assumption | with_reducible refine b_alloc ?_ _ | with_reducible refine b_drewN ?_ _ | with_reducible refine b_drew ?_ | with_reducible refine b_set ?_ (by first | (simp only [World.size_setCell, World.size_alloc, World.size_drew]; omega) | (simp; done) | (simp; omega)) _ | with_reducible refine b_step ?_ (by with_reducible assumption)))
        · rw [← ht, LL.tab_snoc] at hO7
          go_roundw
          case rel => exact ⟨k + 1, by omega, by go_num, hF.succ (by omega), hO7, (fun b hb => by
            rcases hat7 with e7 | e7
            · rw [e7] at hb; exact hge b hb
            · rw [e7] at hb; simp at hb; omega), ((kB.s (by simp; omega) _).a _).grown hg7 (by simp [Value.ownBlock]; omega), b_grown' (b_alloc (b_set hb (by simp; omega) _) _) hg7 (by simp; omega) (fun g' hg' => by have := hge _ hg'; omega)⟩
          case measure => simp [intOf]; omega
      · obtain rfl : k = 0 := by omega
        have hl0 : LL.lowF p 0 = LL.lowB p 0 := rfl
        have hh0 : LL.highF p 0 = LL.highB p 0 := rfl
        have Hl0 := Lib.hid hl0
        have Hh0 := Lib.hid hh0
        clear hl0 hh0
        go_wp2_with (first | (at_builtin; go_loud (refine wp_app (bytes := 16) (e := 60) rfl _ _ _ rfl spanE (.agg #[.int .i64 0, .int .i64 0]) Try.underlying52 (by kernel_rfl) rfl (by decide) (v := u4) rfl (((hO2.s _ (fun b hb => by have := hol b hb; simp; omega)).s _ (fun b hb => by have := hol b hb; simp; omega)).a _) rfl (Rd.one (x := (⟨LL.lowB p 0, LL.highB p 0⟩ : LL.Span)) (Blk.new' _ _ (by simp)) rfl (by decide)) (by rw [LL.tab_len]; omega) ?_); intro v7 w7 hO7 hg7 hat7))
        all_goals have hl0 := Hl0.out
        all_goals have hh0 := Hh0.out
        all_goals clear Hl0 Hh0
        · go_ret2
          have hbad : ¬ LL.SpansOk p := LL.Fwd.bad hlt (by omega)
          refine mk2_mk (by rw [LL.spansR_no hbad]; exact Own.made' (by simp)) (dec_f hbad) (fun b hb => by simp [Value.ownBlock] at hb; omega) (by repeat' (first | with_reducible exact Below.refl _ _ | with_reducible assumption | with_reducible refine b_alloc ?_ _ | with_reducible refine b_drewN ?_ _ | with_reducible refine b_drew ?_ | with_reducible refine b_set ?_ (by first | (simp only [World.size_setCell, World.size_alloc, World.size_drew]; omega) | (simp; done) | (simp; omega)) _ | with_reducible refine b_step ?_ (by with_reducible assumption)))
        · rw [← hl0, ← hh0, LL.tab_zero] at hO7
          go_roundw
          case rel => exact ⟨1, by omega, by go_num, hF.succ (by omega), hO7, (fun b hb => by
            rcases hat7 with e7 | e7
            · rw [e7] at hb; exact hge b hb
            · rw [e7] at hb; simp at hb; omega), (((kB2.s (by simp; omega) _).s (by simp; omega) _).a _).grown hg7 (fun e7 => by have := hge _ e7; omega), b_grown' (b_alloc (b_set (b_set hb2 (by simp; omega) _) (by simp; omega) _) _) hg7 (by simp; omega) (fun g' hg' => by have := hge _ hg'; omega)⟩
          case measure => (simp [intOf]; try omega)
    · have hkn : k = p.steps.length + 1 := by omega
      rw [hkn] at hO hF
      clear hkn
      have hdk : decide ((k : Int) ≤ (p.steps.length : Int)) = false := by simp; omega
      obtain ⟨go, cap, rfl, hcap, hgo, -⟩ := hO.form (by simp [LL.tab_len])
      simp only [LL.tab_len] at hO hcap hge ⊢
      have hwgo : w.heap.size < go := hge go rfl
      rw [LL.tab_spB] at hO
      have hB := LL.Bwd.last hF
      obtain ⟨eB, fB, lB⟩ := kB.cells
      go_wp2
      obtain ⟨wo, rfl⟩ : ∃ wo : World, wo = wr := ⟨_, rfl⟩
      go_loopw [8] (fun i wr => ∃ m : Nat, m ≤ p.steps.length ∧ i = .int .i64 ((m : Int) - 1) ∧ LL.Bwd p m ∧ Own spanC 2 16 60 wr (.slice (some ⟨go, 0, none⟩) (p.steps.length + 1) cap) (LL.tab (p.steps.length + 1) (LL.spB p m)) ∧ Blk wr w.heap.size #[.int .i64 p.q, .int .i64 p.s, .slice A p.steps.length c, .int .i64 p.fr, .int .i64 p.by_] 43 ∧ Below w.heap.size w wr) (fun i _ => (intOf i + 1).toNat)
      case atStart => exact ⟨p.steps.length, Nat.le_refl _, rfl, hB, hO, kB, hb⟩
      case round =>
        clear hO kB hb hB eB fB lB hgo
        obtain ⟨m, hm, rfl, hB, hO, kB, hb⟩ := hrel
        obtain ⟨eB, fB, lB⟩ := kB.cells
        obtain ⟨gc, gf, gl⟩ := bcell hb
        have hgl := (hO.row.lt _ rfl).2
        by_cases hm0 : 0 < m
        · obtain ⟨k, rfl⟩ : ∃ k, m = k + 1 := ⟨m - 1, by omega⟩
          have hkk : ((k + 1 : Nat) : Int) - 1 = (k : Int) := by omega
          rw [hkk]
          clear hkk
          have o' := hO.S2 k (by omega)
          rw [LL.spB_pre p (k + 1) k (by omega)] at o'
          obtain ⟨o1, o2, o3, o4⟩ := o'
          have o' := hO.S2 (k + 1) (by omega)
          rw [LL.spB_at p (k + 1) (k + 1) (Nat.le_refl _)] at o'
          obtain ⟨o5, o6, -, -⟩ := o'
          obtain ⟨b1, b2, b3⟩ := hB.at_ W (k + 1) (by omega) (by omega)
          obtain ⟨b4, b5, b6⟩ := hF.at_ W k (by omega) (by omega)
          have q0 := W.q0
          have q1 := W.q1
          have hmost : 0 ≤ LL.most p k ∧ LL.most p k ≤ 10000 := by have := W.s0; have := W.s1; unfold LL.most; split <;> omega
          obtain ⟨m1, m2⟩ := hmost
          go_wp2_with fail
          ((refine calm_tail_b 20 (by kernel_rfl) (by kernel_rfl) ?_); (simp only [List.take_succ_cons, List.take_zero, List.drop_succ_cons, List.drop_zero]); (repeat ((apply sure_cons (hg := rfl)); (focus ((intro w' hS'); (obtain ⟨hcS, hfS, hlS⟩ := bcell hS'); (try simp only [World.size_setCell, World.size_alloc, World.size_drew] at hS' hcS hfS hlS); (go_simp); (try go_bits); (try ((first | rw [if_pos (by omega)] | rw [if_neg (by omega)]); go_simp)); (first | (with_reducible rfl) | (with_reducible exact rfl) | (with_reducible exact ⟨rfl, hS'⟩) | (first | (go_at_call 87; go_loud (refine (spec_l1Max_c _ _ _).mono ?_); rintro e w'' ⟨rfl, hb⟩; (first | (subst hb; exact ⟨rfl, hS'⟩) | exact ⟨rfl, b_to hS' hb (by first | exact Nat.le_refl _ | (have h1 := hS'.size; (try simp only [World.size_setCell, World.size_alloc, World.size_drew] at h1); omega))⟩)) | (go_at_call 82; go_loud (refine (spec_l3Most_c p A c k _ rfl (by omega) _ (h.mono (b_to hb hS' (by omega)))).mono ?_); rintro e w'' ⟨rfl, hb⟩; (first | (subst hb; exact ⟨rfl, hS'⟩) | exact ⟨rfl, b_to hS' hb (by first | exact Nat.le_refl _ | (have h1 := hS'.size; (try simp only [World.size_setCell, World.size_alloc, World.size_drew] at h1); omega))⟩)))))); (simp only [Act.put, List.setIfInBounds_toArray, List.set_cons_zero, List.set_cons_succ]))); (refine sure_nil ?_))
          intro W2 hS2
          replace kB := kB.b hS2
          replace hO := hO.b hS2
          replace hb := b_step hb hS2
          clear hS2 eB fB lB gc gf gl o1 o2 o3 o4 o5 o6 hgl
          obtain ⟨eB, fB, lB⟩ := kB.cells
          have hgl := (hO.row.lt _ rfl).2
          have o' := hO.S2 k (by omega)
          rw [LL.spB_pre p (k + 1) k (by omega)] at o'
          obtain ⟨o1, o2, o3, o4⟩ := o'
          have o' := hO.S2 (k + 1) (by omega)
          rw [LL.spB_at p (k + 1) (k + 1) (Nat.le_refl _)] at o'
          obtain ⟨o5, o6, -, -⟩ := o'
          go_wp2_with fail
          have hO3 := hO.setLo (LL.tab_len _ _) k (by omega) (max (LL.lowF p k) (LL.lo p (k + 1) - LL.most p k))
          rw [LL.spM_set p _ k (by omega) _ (by rw [LL.tab_getD (by omega), LL.spB_pre p _ k (by omega), LL.lo_at p W k (by omega) (by omega)])] at hO3
          refine wp_name (fun W => Own spanC 2 16 60 W (.slice (some ⟨go, 0, none⟩) (p.steps.length + 1) cap) (LL.tab (p.steps.length + 1) (LL.spM p k)) ∧ Blk W w.heap.size #[.int .i64 p.q, .int .i64 p.s, .slice A p.steps.length c, .int .i64 p.fr, .int .i64 p.by_] 43 ∧ Below w.heap.size w W) ⟨hO3, kB.s (by simp; omega) _, b_set hb (by simp; omega) _⟩ ?_
          clear hO kB hb o1 o2 o3 o4 o5 o6 hgl eB fB lB hO3
          rintro W3 ⟨hO, kB, hb⟩
          obtain ⟨eB, fB, lB⟩ := kB.cells
          have hgl := (hO.row.lt _ rfl).2
          have o' := hO.S2 k (by omega)
          rw [LL.spM_at p k] at o'
          obtain ⟨o1, o2, o3, o4⟩ := o'
          have o' := hO.S2 (k + 1) (by omega)
          rw [LL.spM_next p k] at o'
          obtain ⟨o5, o6, -, -⟩ := o'
          ((refine calm_tail_b 20 (by kernel_rfl) (by kernel_rfl) ?_); (simp only [List.take_succ_cons, List.take_zero, List.drop_succ_cons, List.drop_zero]); (repeat ((apply sure_cons (hg := rfl)); (focus ((intro w' hS'); (obtain ⟨hcS, hfS, hlS⟩ := bcell hS'); (try simp only [World.size_setCell, World.size_alloc, World.size_drew] at hS' hcS hfS hlS); (go_simp); (try go_bits); (try ((first | rw [if_pos (by omega)] | rw [if_neg (by omega)]); go_simp)); (first | (with_reducible rfl) | (with_reducible exact rfl) | (with_reducible exact ⟨rfl, hS'⟩) | (go_at_call 88; go_loud (refine (spec_l1Min_c _ _ _).mono ?_); rintro e w'' ⟨rfl, hb⟩; (first | (subst hb; exact ⟨rfl, hS'⟩) | exact ⟨rfl, b_to hS' hb (by first | exact Nat.le_refl _ | (have h1 := hS'.size; (try simp only [World.size_setCell, World.size_alloc, World.size_drew] at h1); omega))⟩))))); (simp only [Act.put, List.setIfInBounds_toArray, List.set_cons_zero, List.set_cons_succ]))); (refine sure_nil ?_))
          intro W4 hS4
          replace kB := kB.b hS4
          replace hO := hO.b hS4
          replace hb := b_step hb hS4
          clear hS4 eB fB lB o1 o2 o3 o4 o5 o6 hgl
          have hgl := (hO.row.lt _ rfl).2
          have o' := hO.S2 k (by omega)
          rw [LL.spM_at p k] at o'
          obtain ⟨o1, o2, o3, o4⟩ := o'
          go_wp2_with fail
          have hO3 := hO.setHi (LL.tab_len _ _) k (by omega) (min (LL.highF p k) (LL.hi p (k + 1) - p.q))
          rw [LL.spB_set p _ k (by omega) _ (by rw [LL.tab_getD (by omega), LL.spM_at, LL.hi_step p k (by omega)])] at hO3
          refine wp_name (fun W => Own spanC 2 16 60 W (.slice (some ⟨go, 0, none⟩) (p.steps.length + 1) cap) (LL.tab (p.steps.length + 1) (LL.spB p k)) ∧ Blk W w.heap.size #[.int .i64 p.q, .int .i64 p.s, .slice A p.steps.length c, .int .i64 p.fr, .int .i64 p.by_] 43 ∧ Below w.heap.size w W) ⟨hO3, kB.s (by simp; omega) _, b_set hb (by simp; omega) _⟩ ?_
          clear hO kB hb o1 o2 o3 o4 hgl hO3
          rintro W5 ⟨hO, kB, hb⟩
          have hgl := (hO.row.lt _ rfl).2
          have o' := hO.S2 k (by omega)
          rw [LL.spB_at p k k (Nat.le_refl _)] at o'
          obtain ⟨o1, o2, o3, o4⟩ := o'
          ((refine calm_b (by kernel_rfl) (by kernel_rfl) ?_); (repeat (first | ((apply sure_cons (hg := rfl)); (focus ((intro w' hS'); (obtain ⟨hcS, hfS, hlS⟩ := bcell hS'); (try simp only [World.size_setCell, World.size_alloc, World.size_drew] at hS' hcS hfS hlS); (go_simp); (try go_bits); (try ((first | rw [if_pos (by omega)] | rw [if_neg (by omega)]); go_simp)); (first | (with_reducible rfl) | (with_reducible exact rfl) | (with_reducible exact ⟨rfl, hS'⟩) | fail))); (simp only [Act.put, List.setIfInBounds_toArray, List.set_cons_zero, List.set_cons_succ])) | ((apply sure_off (hg := rfl)); (simp only [Act.put, List.setIfInBounds_toArray, List.set_cons_zero, List.set_cons_succ])))); (refine sure_nil ?_))
          intro W6 hS6
          replace kB := kB.b hS6
          replace hO := hO.b hS6
          replace hb := b_step hb hS6
          clear hS6 hgl o1 o2 o3 o4
          go_wp2_with fail
          · go_ret2
            have hbad : ¬ LL.SpansOk p := LL.Bwd.bad (k := k) (by omega) (by omega)
            refine mk2_mk (by rw [LL.spansR_no hbad]; exact Own.made' (by simp)) (dec_f hbad) (fun b h' => by have := hb.size; simp [Value.ownBlock] at h'; omega) (by repeat' (first | with_reducible exact Below.refl _ _ | with_reducible assumption | with_reducible refine b_alloc ?_ _ | with_reducible refine b_drewN ?_ _ | with_reducible refine b_drew ?_ | with_reducible refine b_set ?_ (by first | (simp only [World.size_setCell, World.size_alloc, World.size_drew]; omega) | (simp; done) | (simp; omega)) _ | with_reducible refine b_step ?_ (by with_reducible assumption)))
          · go_roundw
            case rel => exact ⟨k, by omega, by go_num, hB.pred (by omega), hO, kB, hb⟩
            case measure => (simp [intOf]; try omega)
        · obtain rfl : m = 0 := by omega
          go_wp2
          go_ret2
          have hok := LL.Bwd.all hF hB
          refine mk2_mk (by rw [LL.spansR_yes hok, ← LL.spB_zero]; exact hO) (dec_t hok) (fun b hb => by have := hge b hb; omega) hb
end Go.Proofs.Ytpeojnknfonmlaa
