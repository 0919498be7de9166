/- A path whose first entries are as they were: the reference's. -/
import Derived.Test.YtkpnjnkfbhomgaaC7
set_option linter.unusedVariables false
set_option linter.unusedSimpArgs false
namespace Go.Proofs.Ytkpnjnkfbhomgaa
open Go.RowKit
attribute [local go_sem] w_lt_add w_le_of w_le_add max2_i min2_i ite_max ite_min
theorem LL.hdFr_in {p : LL.Path} {f : List Int} {k : Nat} (h : k < p.steps.length) : LL.hdFr p f (k + 1) = LL.hdFr p f k := if_pos h
theorem LL.hdBy_in {p : LL.Path} {f : List Int} {k : Nat} (h : k < p.steps.length) : LL.hdBy p f (k + 1) = LL.hdBy p f k := if_pos h
theorem LL.hdFr_out {p : LL.Path} {f : List Int} {k : Nat} (h : ¬ k < p.steps.length) : LL.hdFr p f (k + 1) = max (LL.hdFr p f k) (LL.nthI f k) := if_neg h
theorem LL.hdBy_out {p : LL.Path} {f : List Int} {k : Nat} (h : ¬ k < p.steps.length) : LL.hdBy p f (k + 1) = min (LL.hdBy p f k) (LL.nthI f k) := if_neg h
theorem LL.mix_same (p : LL.Path) (f : List Int) (k : Nat) (h : ¬ k < p.steps.length) : LL.tab p.steps.length (LL.mix (LL.hdF p f) p.steps LL.z0 k) = LL.tab p.steps.length (LL.mix (LL.hdF p f) p.steps LL.z0 (k + 1)) := by
  rw [LL.mix_ge _ _ _ _ (by omega), LL.mix_ge _ _ _ _ (by omega)]
set_option maxRecDepth 100000 in
set_option maxHeartbeats 4000000 in
theorem spec_l6Held_c (p : LL.Path) (f : List Int) (A F : Option Addr) (c m : Nat) (w : World) (h : RdS w A p.steps.length c p.steps) (hF : RdI w F f.length m f) : Calls Try.prog 140 #[.agg #[.int .i64 p.q, .int .i64 p.s, .slice A p.steps.length c, .int .i64 p.fr, .int .i64 p.by_], .slice F f.length m] w (MkP 146 w (LL.hdP p f)) := by
  have hroom := h.room
  have hroom' := hF.room
  go_enter Try.func140, Try.ntmps140
  go_wp2_with fail
  refine calls_name (fun W => Below w.heap.size w W ∧ Blk W (w.heap.size + 1) #[.int .i64 0, .int .i64 0, .slice none 0 0, .int .i64 0, .int .i64 0] 44) ⟨(by repeat' (first | with_reducible exact Below.refl _ _ | with_reducible assumption | with_reducible refine b_alloc ?_ _ | with_reducible refine b_drewN ?_ _ | with_reducible refine b_drew ?_ | with_reducible refine b_set ?_ (by first | (simp only [World.size_setCell, World.size_alloc, World.size_drew]; omega) | (simp; done) | (simp; omega)) _ | with_reducible refine b_step ?_ (by with_reducible assumption))), (by repeat' (first | with_reducible assumption | with_reducible exact Blk.new _ _ _ | with_reducible exact Blk.new' _ _ (by first | (simp only [World.size_alloc, World.size_setCell, World.size_drew]; done) | (simp only [World.size_alloc, World.size_setCell, World.size_drew]; omega) | omega) | with_reducible refine Blk.a ?_ _ | with_reducible refine Blk.d ?_ | with_reducible refine Blk.dN ?_ _ | with_reducible refine Blk.s ?_ (by simp only [ne_eq]; omega) _ | with_reducible refine Blk.b ?_ (by with_reducible assumption)))⟩ ?_
  rintro W1 ⟨hb, kR⟩
  have hR1 := kR.cells.2.2
  refine (spec_l2Copy_c p A c _ (h.mono hb)).mono ?_
  intro e W4 hM
  obtain ⟨A2, c2, rfl, hO, hOg, hB⟩ := hM.gop
  have hO2 : ∀ k, Value.ownBlock (.slice A2 p.steps.length c2) = some k → w.heap.size + 1 < k := fun k hk => by have := hOg k hk; omega
  have hO3 : ∀ k, Value.ownBlock (.slice A2 p.steps.length c2) = some k → k < W4.heap.size := fun k hk => (hO.row.lt k hk).2
  replace hb := b_step hb hB; replace kR := kR.b hB; clear hB
  have hX0 : w.heap.size + 1 < W4.heap.size := kR.cells.2.2
  clear hM hOg
  go_wp2_with fail
  refine wp_name (fun W => Below w.heap.size w W ∧ Blk W (w.heap.size + 1) #[.int .i64 0, .int .i64 0, .slice none 0 0, .int .i64 0, .int .i64 0] 44 ∧ Blk W W4.heap.size #[.int .i64 p.q, .int .i64 p.s, .slice A2 p.steps.length c2, .int .i64 (LL.hdFr p f 0), .int .i64 (LL.hdBy p f 0)] 44 ∧ Own stepC 7 56 146 W (.slice A2 p.steps.length c2) (LL.tab p.steps.length (LL.mix (LL.hdF p f) p.steps LL.z0 0))) ⟨(by repeat' (first | with_reducible exact Below.refl _ _ | with_reducible assumption | with_reducible refine b_alloc ?_ _ | with_reducible refine b_drewN ?_ _ | with_reducible refine b_drew ?_ | with_reducible refine b_set ?_ (by first | (simp only [World.size_setCell, World.size_alloc, World.size_drew]; omega) | (simp; done) | (simp; omega)) _ | with_reducible refine b_step ?_ (by with_reducible assumption))), (by repeat' (first | with_reducible assumption | with_reducible exact Blk.new _ _ _ | with_reducible exact Blk.new' _ _ (by first | (simp only [World.size_alloc, World.size_setCell, World.size_drew]; done) | (simp only [World.size_alloc, World.size_setCell, World.size_drew]; omega) | omega) | with_reducible refine Blk.a ?_ _ | with_reducible refine Blk.d ?_ | with_reducible refine Blk.dN ?_ _ | with_reducible refine Blk.s ?_ (by simp only [ne_eq]; omega) _ | with_reducible refine Blk.b ?_ (by with_reducible assumption))), Blk.new _ _ _, by rw [LL.mix_zero]; exact hO.a _⟩ ?_
  clear hb kR hO
  rintro W5 ⟨hb, kR, kX, hO⟩
  generalize W4.heap.size = gx at kX hX0 hO3 ⊢
  go_loopw [6] (fun i wr => ∃ k : Nat, k ≤ f.length ∧ i = .int .i64 k ∧ Below w.heap.size w wr ∧ Blk wr (w.heap.size + 1) #[.int .i64 0, .int .i64 0, .slice none 0 0, .int .i64 0, .int .i64 0] 44 ∧ Blk wr gx #[.int .i64 p.q, .int .i64 p.s, .slice A2 p.steps.length c2, .int .i64 (LL.hdFr p f k), .int .i64 (LL.hdBy p f k)] 44 ∧ Own stepC 7 56 146 wr (.slice A2 p.steps.length c2) (LL.tab p.steps.length (LL.mix (LL.hdF p f) p.steps LL.z0 k))) (fun i _ => f.length - (intOf i).toNat)
  case atStart => exact ⟨0, Nat.zero_le _, rfl, hb, kR, kX, hO⟩
  case round =>
    clear hb kR kX hO
    obtain ⟨k, hk, rfl, hb, kR, kX, hO⟩ := hrel
    obtain ⟨ekX, fkX, lkX⟩ := kX.cells
    by_cases hlt : k < f.length
    · obtain ⟨b2, off2, rfl, hbw2⟩ := hF.addr (by omega)
      have c0 := hF.S1 k hlt
      obtain ⟨gc, gf, gl⟩ := bcell hb
      by_cases hkn : k < p.steps.length
      · rw [← LL.hdFr_in (f := f) hkn, ← LL.hdBy_in (f := f) hkn] at *
        generalize hfr : LL.hdFr p f (k + 1) = fr at *
        generalize hby : LL.hdBy p f (k + 1) = by_ at *
        have Hfr := Lib.hid hfr
        have Hby := Lib.hid hby
        clear hfr hby
        obtain ⟨g, rfl⟩ := hO.someA (by rw [LL.tab_len]; omega)
        have hgl := hO2 g rfl
        have hgl3 := hO3 g rfl
        have hSt := hO.St k hkn
        rw [LL.mix_here] at hSt
        obtain ⟨c4, c5, f0, gl2⟩ := hSt
        generalize hs : p.steps.getD k LL.z0 = s at c4 c5
        have Hs := Lib.hid hs
        clear hs
        go_wp2_with fail
        ((refine calm_tail_b 16 (by kernel_rfl) (by kernel_rfl) ?_); (simp only [List.take_succ_cons, List.take_zero, List.drop_succ_cons, List.drop_zero]); (repeat ((apply sure_cons (hg := rfl)); (focus ((intro w' hS'); (obtain ⟨hcS, hfS, hlS⟩ := bcell hS'); (try simp only [World.size_setCell, World.size_alloc, World.size_drew] at hS' hcS hfS hlS); (go_simp); (try go_bits); (try ((first | rw [if_pos (by omega)] | rw [if_neg (by omega)]); go_simp)); (first | (with_reducible rfl) | (with_reducible exact rfl) | (with_reducible exact ⟨rfl, hS'⟩) | (go_at_call 143; go_loud (refine (spec_l1Max_c _ _ _).mono ?_); rintro e w'' ⟨rfl, hb⟩; (first | (subst hb; exact ⟨rfl, hS'⟩) | exact ⟨rfl, b_to hS' hb (by first | exact Nat.le_refl _ | (have h1 := hS'.size; (try simp only [World.size_setCell, World.size_alloc, World.size_drew] at h1); omega))⟩))))); (simp only [Act.put, List.setIfInBounds_toArray, List.set_cons_zero, List.set_cons_succ]))); (refine sure_nil ?_))
        intro W6 hS6
        clear ekX fkX lkX
        clear c4 c5 f0 gl2 gc gf gl
        replace hb := b_step hb hS6; replace kR := kR.b hS6; replace kX := kX.b hS6; replace hO := hO.b hS6; clear hS6
        obtain ⟨ekX, fkX, lkX⟩ := kX.cells
        have hSt := hO.St k hkn
        rw [LL.mix_here, Hs.out] at hSt
        obtain ⟨c4, c5, f0, gl2⟩ := hSt
        go_wp2_with fail
        refine wp_name (fun W => Below w.heap.size w W ∧ Blk W (w.heap.size + 1) #[.int .i64 0, .int .i64 0, .slice none 0 0, .int .i64 0, .int .i64 0] 44 ∧ Blk W gx #[.int .i64 p.q, .int .i64 p.s, .slice (some ⟨g, 0, none⟩) p.steps.length c2, .int .i64 fr, .int .i64 by_] 44 ∧ Own stepC 7 56 146 W (.slice (some ⟨g, 0, none⟩) p.steps.length c2) (LL.tab p.steps.length (LL.upd (LL.mix (LL.hdF p f) p.steps LL.z0 k) k ⟨s.x, s.y, s.lo, s.hi, max s.fr (LL.nthI f k), s.by_, s.hold⟩))) ⟨b_set hb (by simp only; omega) _, kR.s (by simp only [ne_eq]; omega) _, kX.s (by simp only [ne_eq]; omega) _, hO.updSt k hkn 4 (x := .int .i64 (max s.fr (LL.nthI f k))) (s := ⟨s.x, s.y, s.lo, s.hi, max s.fr (LL.nthI f k), s.by_, s.hold⟩) (by omega) (by rw [LL.mix_here, Hs.out]; rfl) rfl⟩ ?_
        clear ekX fkX lkX
        clear hb kR kX hO c4 c5 f0 gl2
        rintro W7 ⟨hb, kR, kX, hO⟩
        obtain ⟨ekX, fkX, lkX⟩ := kX.cells
        obtain ⟨gc, gf, gl⟩ := bcell hb
        have hSt := hO.St k hkn
        rw [LL.upd_same] at hSt
        obtain ⟨c4, c5, f0, gl2⟩ := hSt
        ((refine calm_tail_b 16 (by kernel_rfl) (by kernel_rfl) ?_); (simp only [List.take_succ_cons, List.take_zero, List.drop_succ_cons, List.drop_zero]); (repeat ((apply sure_cons (hg := rfl)); (focus ((intro w' hS'); (obtain ⟨hcS, hfS, hlS⟩ := bcell hS'); (try simp only [World.size_setCell, World.size_alloc, World.size_drew] at hS' hcS hfS hlS); (go_simp); (try go_bits); (try ((first | rw [if_pos (by omega)] | rw [if_neg (by omega)]); go_simp)); (first | (with_reducible rfl) | (with_reducible exact rfl) | (with_reducible exact ⟨rfl, hS'⟩) | (go_at_call 155; go_loud (refine (spec_l1Min_c _ _ _).mono ?_); rintro e w'' ⟨rfl, hb⟩; (first | (subst hb; exact ⟨rfl, hS'⟩) | exact ⟨rfl, b_to hS' hb (by first | exact Nat.le_refl _ | (have h1 := hS'.size; (try simp only [World.size_setCell, World.size_alloc, World.size_drew] at h1); omega))⟩))))); (simp only [Act.put, List.setIfInBounds_toArray, List.set_cons_zero, List.set_cons_succ]))); (refine sure_nil ?_))
        intro W8 hS8
        clear ekX fkX lkX
        clear c4 c5 f0 gl2 gc gf gl
        replace hb := b_step hb hS8; replace kR := kR.b hS8; replace kX := kX.b hS8; replace hO := hO.b hS8; clear hS8
        obtain ⟨ekX, fkX, lkX⟩ := kX.cells
        have hSt := hO.St k hkn
        rw [LL.upd_same] at hSt
        obtain ⟨c4, c5, f0, gl2⟩ := hSt
        go_wp2_with fail
        go_roundw
        case rel =>
          have hs := Hs.out
          rw [← Hfr.out, ← Hby.out] at kX
          refine ⟨k + 1, by omega, by go_num, b_set hb (by simp only; omega) _, kR.s (by simp only [ne_eq]; omega) _, kX.s (by simp only [ne_eq]; omega) _, ?_⟩
          exact hO.updSt k hkn 5 (x := .int .i64 (min s.by_ (LL.nthI f k))) (s := LL.hdF p f k) (by omega) (by rw [LL.upd_same]; simp only [LL.hdF, LL.hdS, LL.nth, hs]; rfl) (by rw [LL.upd_upd, LL.mix_next])
        case measure => simp [intOf]; omega
      · rw [LL.mix_same p f k hkn] at hO
        generalize hfr : LL.hdFr p f k = fr at *
        generalize hby : LL.hdBy p f k = by_ at *
        have Hfr := Lib.hid hfr
        have Hby := Lib.hid hby
        clear hfr hby
        go_wp2_with fail
        ((refine calm_tail_b 8 (by kernel_rfl) (by kernel_rfl) ?_); (simp only [List.take_succ_cons, List.take_zero, List.drop_succ_cons, List.drop_zero]); (repeat ((apply sure_cons (hg := rfl)); (focus ((intro w' hS'); (obtain ⟨hcS, hfS, hlS⟩ := bcell hS'); (try simp only [World.size_setCell, World.size_alloc, World.size_drew] at hS' hcS hfS hlS); (go_simp); (try go_bits); (try ((first | rw [if_pos (by omega)] | rw [if_neg (by omega)]); go_simp)); (first | (with_reducible rfl) | (with_reducible exact rfl) | (with_reducible exact ⟨rfl, hS'⟩) | (go_at_call 143; go_loud (refine (spec_l1Max_c _ _ _).mono ?_); rintro e w'' ⟨rfl, hb⟩; (first | (subst hb; exact ⟨rfl, hS'⟩) | exact ⟨rfl, b_to hS' hb (by first | exact Nat.le_refl _ | (have h1 := hS'.size; (try simp only [World.size_setCell, World.size_alloc, World.size_drew] at h1); omega))⟩))))); (simp only [Act.put, List.setIfInBounds_toArray, List.set_cons_zero, List.set_cons_succ]))); (refine sure_nil ?_))
        intro W6 hS6
        clear ekX fkX lkX
        clear gc gf gl
        replace hb := b_step hb hS6; replace kR := kR.b hS6; replace kX := kX.b hS6; replace hO := hO.b hS6; clear hS6
        obtain ⟨ekX, fkX, lkX⟩ := kX.cells
        go_wp2_with fail
        refine wp_name (fun W => Below w.heap.size w W ∧ Blk W (w.heap.size + 1) #[.int .i64 0, .int .i64 0, .slice none 0 0, .int .i64 0, .int .i64 0] 44 ∧ Blk W gx #[.int .i64 p.q, .int .i64 p.s, .slice A2 p.steps.length c2, .int .i64 (max fr (LL.nthI f k)), .int .i64 by_] 44 ∧ Own stepC 7 56 146 W (.slice A2 p.steps.length c2) (LL.tab p.steps.length (LL.mix (LL.hdF p f) p.steps LL.z0 (k + 1)))) ⟨b_set hb (by simp only; omega) _, kR.s (by simp only [ne_eq]; omega) _, by simpa using kX.put 3 (.int .i64 (max fr (LL.nthI f k))), hO.s _ (fun k hk => by have := hO3 k hk; simp only; omega)⟩ ?_
        clear ekX fkX lkX
        clear hb kR kX hO
        rintro W7 ⟨hb, kR, kX, hO⟩
        obtain ⟨ekX, fkX, lkX⟩ := kX.cells
        obtain ⟨gc, gf, gl⟩ := bcell hb
        ((refine calm_tail_b 8 (by kernel_rfl) (by kernel_rfl) ?_); (simp only [List.take_succ_cons, List.take_zero, List.drop_succ_cons, List.drop_zero]); (repeat ((apply sure_cons (hg := rfl)); (focus ((intro w' hS'); (obtain ⟨hcS, hfS, hlS⟩ := bcell hS'); (try simp only [World.size_setCell, World.size_alloc, World.size_drew] at hS' hcS hfS hlS); (go_simp); (try go_bits); (try ((first | rw [if_pos (by omega)] | rw [if_neg (by omega)]); go_simp)); (first | (with_reducible rfl) | (with_reducible exact rfl) | (with_reducible exact ⟨rfl, hS'⟩) | (go_at_call 155; go_loud (refine (spec_l1Min_c _ _ _).mono ?_); rintro e w'' ⟨rfl, hb⟩; (first | (subst hb; exact ⟨rfl, hS'⟩) | exact ⟨rfl, b_to hS' hb (by first | exact Nat.le_refl _ | (have h1 := hS'.size; (try simp only [World.size_setCell, World.size_alloc, World.size_drew] at h1); omega))⟩))))); (simp only [Act.put, List.setIfInBounds_toArray, List.set_cons_zero, List.set_cons_succ]))); (refine sure_nil ?_))
        intro W8 hS8
        clear ekX fkX lkX
        clear gc gf gl
        replace hb := b_step hb hS8; replace kR := kR.b hS8; replace kX := kX.b hS8; replace hO := hO.b hS8; clear hS8
        obtain ⟨ekX, fkX, lkX⟩ := kX.cells
        go_wp2_with fail
        go_roundw
        case rel =>
          refine ⟨k + 1, by omega, by go_num, b_set hb (by simp only; omega) _, kR.s (by simp only [ne_eq]; omega) _, ?_, hO.s _ (fun k hk => by have := hO3 k hk; simp only; omega)⟩
          rw [LL.hdFr_out hkn, LL.hdBy_out hkn, Hfr.out, Hby.out]
          simpa using kX.put 4 (.int .i64 (min by_ (LL.nthI f k)))
        case measure => simp [intOf]; omega
    · obtain rfl : k = f.length := by omega
      obtain ⟨ekR, fkR, lkR⟩ := kR.cells
      go_wp2_with fail
      (refine bodyPost_ret (res_c rfl _ [.int .i64 p.q, .int .i64 p.s, .slice A2 p.steps.length c2, .int .i64 (LL.hdFr p f f.length), .int .i64 (LL.hdBy p f f.length)] rfl _ Try.underlying44 rfl (by kernel_rfl) (by simp only [CellsAt, and_true]; and_intros <;> go_simp)) rfl ?_)
      have hO' : Own stepC 7 56 146 wr (.slice A2 p.steps.length c2) (LL.hdP p f).steps := hO
      refine ⟨.slice A2 p.steps.length c2, rfl, (by repeat' (first | with_reducible assumption | with_reducible refine Own.s ?_ _ (fun k hk => by have := hO2 k hk; (try simp only); omega) | with_reducible refine Own.a ?_ _ | with_reducible refine Own.d ?_ | with_reducible refine Own.dN ?_ _ | with_reducible refine Own.b ?_ (by with_reducible assumption))), fun k hk => by have := hO2 k hk; omega, (by repeat' (first | with_reducible exact Below.refl _ _ | with_reducible assumption | with_reducible refine b_alloc ?_ _ | with_reducible refine b_drewN ?_ _ | with_reducible refine b_drew ?_ | with_reducible refine b_set ?_ (by first | (simp only [World.size_setCell, World.size_alloc, World.size_drew]; omega) | (simp; done) | (simp; omega)) _ | with_reducible refine b_step ?_ (by with_reducible assumption)))⟩
end Go.Proofs.Ytkpnjnkfbhomgaa
