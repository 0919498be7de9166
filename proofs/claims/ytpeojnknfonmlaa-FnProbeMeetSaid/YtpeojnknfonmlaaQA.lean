/- The reader of codes that draws boxes: what a pick comes to. -/
import Derived.Test.YtpeojnknfonmlaaRA
set_option linter.unusedVariables false
set_option linter.unusedSimpArgs false
namespace Go.Proofs.Ytpeojnknfonmlaa
open Go.RowKit
set_option maxRecDepth 100000 in
set_option maxHeartbeats 2000000 in
theorem spec_pick11_c (g N : Nat) (n : Int) (w : World) (hr : Rdr 116 w g N) (hN : N ≤ 1000000000) : Calls Try.prog 100 #[.pointer (some ⟨g, 0, none⟩), .int .i64 n] w fun e w' => ∃ v, e = .returned (.int .i64 v) ∧ 0 ≤ v ∧ (v < n ∨ v = 0) ∧ GrownS w w' (fun k => k = g) ∧ Rdr 116 w' g (N + 1) := by
  obtain ⟨A, m, c, p, bs, kR, hB, hm, hp0, hp1, hlt, hby⟩ := hr.ex
  have hT : Rdr 116 (w.setCell ⟨g, 1, none⟩ (.int .i64 (p + 1))) g (N + 1) := Rdr.tick kR hB hm hp0 hp1 hlt hby
  have hG : GrownS w (w.setCell ⟨g, 1, none⟩ (.int .i64 (p + 1))) (fun k => k = g) := gr_set (S := fun k => k = g) (p := ⟨g, 1, none⟩) (GrownS.refl w (fun k => k = g)) (.inl rfl) _
  obtain ⟨e0, f0, l0⟩ := kR.cells
  have hcap := hB.cap
  go_enter Try.func100, Try.ntmps100
  replace hby := Lib.hid hby
  by_cases hn : n < 1
  · go_wp2
    all_goals go_ret
    all_goals exact ⟨_, rfl, Int.le_refl _, .inr rfl, hG, hT⟩
  by_cases hm0 : m = 0
  · subst hm0
    go_wp2
    all_goals go_ret
    all_goals exact ⟨_, rfl, Int.le_refl _, .inr rfl, hG, hT⟩
  obtain ⟨b, off, rfl, hbl⟩ := hB.addr (by omega)
  have hbg : b < g := hlt b off (by omega) rfl
  clear hlt
  by_cases hpm : p < m
  · have c0 := hB.B1 p.toNat (by omega)
    have r0 := hby.out p.toNat
    generalize LL.nthI bs p.toNat = x0 at c0 r0
    go_wp2
    all_goals go_ret
    all_goals exact ⟨_, rfl, Int.emod_nonneg _ (by omega), .inl (Int.emod_lt_of_pos _ (by omega)), hG, hT⟩
  · have i0 := Int.emod_lt_of_pos p (show (0:Int) < m by omega)
    have i1 := Int.emod_nonneg p (show (m:Int) ≠ 0 by omega)
    have j0 := Int.emod_lt_of_pos (p * 7 + 3) (show (0:Int) < m by omega)
    have j1 := Int.emod_nonneg (p * 7 + 3) (show (m:Int) ≠ 0 by omega)
    have d0 : 0 ≤ p / (m : Int) := Int.ediv_nonneg hp0 (by omega)
    have d1 : p / (m : Int) ≤ p := Int.ediv_le_self _ hp0
    have c0 := hB.B1 (p % m).toNat (by omega)
    have r0 := hby.out (p % m).toNat
    generalize LL.nthI bs (p % m).toNat = x0 at c0 r0
    have c1 := hB.B1 ((p * 7 + 3) % m).toNat (by omega)
    have r1 := hby.out ((p * 7 + 3) % m).toNat
    generalize LL.nthI bs ((p * 7 + 3) % m).toNat = x1 at c1 r1
    go_wp2
    ((refine calm_b (by kernel_rfl) (by kernel_rfl) ?_); (repeat (first | ((apply sure_cons (hg := rfl)); (focus ((intro w' hS'); (obtain ⟨hcS, hfS, hlS⟩ := bcell hS'); (try simp only [World.size_setCell, World.size_alloc, World.size_drew] at hS' hcS hfS hlS); (go_simp); (try go_bits); (try ((first | rw [if_pos (by omega)] | rw [if_neg (by omega)]); go_simp)); (first | (with_reducible rfl) | (with_reducible exact rfl) | (with_reducible exact ⟨rfl, hS'⟩) | fail))); (simp only [Act.put, List.setIfInBounds_toArray, List.set_cons_zero, List.set_cons_succ])) | ((apply sure_off (hg := rfl)); (simp only [Act.put, List.setIfInBounds_toArray, List.set_cons_zero, List.set_cons_succ])))); (refine sure_nil ?_))
    intro w' hS'
    replace hT := hT.b hS'
    replace hG := gr_b hG hS'
    clear e0 f0 l0 c0 c1
    go_wp2
    all_goals go_ret
    all_goals exact ⟨_, rfl, Int.tmod_nonneg _ (xor_nn (by omega) (by omega) (by omega) (by omega)), .inl (Int.tmod_lt_of_pos _ (by omega)), hG, hT⟩
theorem pick11_mono {Q : Ending → World → Prop} {g N : Nat} {n : Int} {w : World} (hr : Rdr 116 w g N) (hN : N ≤ 1000000000) (hk : ∀ v w', 0 ≤ v → (v < n ∨ v = 0) → GrownS w w' (fun k => k = g) → Rdr 116 w' g (N + 1) → Q (.returned (.int .i64 v)) w') : Calls Try.prog 100 #[.pointer (some ⟨g, 0, none⟩), .int .i64 n] w Q :=
  (spec_pick11_c g N n w hr hN).mono fun e w' ⟨v, he, h0, h1, hg, hr'⟩ => by subst he; exact hk v w' h0 h1 hg hr'
theorem spec_l11Open_c (xs : List Int) (A : Option Addr) (c : Nat) (w : World) (h : Rd u8C 1 1 w A xs.length c xs) (hx : ∀ k, 0 ≤ LL.nthI xs k ∧ LL.nthI xs k ≤ 255) : Calls Try.prog 59 #[.slice A xs.length c] w fun e w' => e = .returned (.pointer (some ⟨w.heap.size, 0, none⟩)) ∧ Below w.heap.size w w' ∧ Rdr 116 w' w.heap.size 0 ∧ w'.heap.size = w.heap.size + 1 := by
  have hcap := h.cap
  have hlt : ∀ b off, A = some ⟨b, off, none⟩ → 0 < xs.length → b < w.heap.size := fun b off e hn => by
    obtain ⟨b', off', e', hb, _⟩ := h.at_ hn
    rw [e] at e'; cases e'; exact hb
  go_enter Try.func59, Try.ntmps59
  have hR := h.mono (b_alloc (Below.refl w.heap.size w) (.cells #[.slice A xs.length c, .int .i64 0] 116))
  have hR2 : ¬ (xs.length : Int) ≤ 2000 → Rd u8C 1 1 (w.alloc (.cells #[.slice A 2000 c, .int .i64 0] 116)) A 2000 c (xs.take 2000) := fun hn => by
    have h1 := h.mono (b_alloc (Below.refl w.heap.size w) (.cells #[.slice A 2000 c, .int .i64 0] 116))
    refine ⟨by simp; omega, by omega, by omega, fun _ => ?_⟩
    obtain ⟨b, off, e, hb, hc⟩ := h1.at_ (by omega)
    refine ⟨b, off, e, hb, fun i x hi => hc i x ?_⟩
    rw [List.getElem?_take] at hi
    split at hi
    · exact hi
    · cases hi
  have hx2 : ∀ k, 0 ≤ LL.nthI (xs.take 2000) k ∧ LL.nthI (xs.take 2000) k ≤ 255 := fun k => by
    have := hx k
    unfold LL.nthI at this ⊢
    simp only [List.getD_eq_getElem?_getD, List.getElem?_take] at this ⊢
    split
    · exact this
    · simp
  replace hx := Lib.hid hx
  replace hx2 := Lib.hid hx2
  replace hlt := Lib.hid hlt
  go_wp2
  all_goals go_ret
  · refine ⟨rfl, (by repeat' (first | with_reducible exact Below.refl _ _ | with_reducible assumption | with_reducible refine b_alloc ?_ _ | with_reducible refine b_drewN ?_ _ | with_reducible refine b_drew ?_ | with_reducible refine b_set ?_ (by first | (simp only [World.size_setCell, World.size_alloc, World.size_drew]; omega) | (simp; done) | (simp; omega)) _ | with_reducible refine b_step ?_ (by with_reducible assumption))), ⟨A, 2000, c, 0, xs.take 2000, Blk.new _ _ _, hR2 (by omega), by omega, by omega, by omega, fun b off h0 e => hlt.out b off e (by omega), hx2.out⟩, by simp⟩
  · refine ⟨rfl, (by repeat' (first | with_reducible exact Below.refl _ _ | with_reducible assumption | with_reducible refine b_alloc ?_ _ | with_reducible refine b_drewN ?_ _ | with_reducible refine b_drew ?_ | with_reducible refine b_set ?_ (by first | (simp only [World.size_setCell, World.size_alloc, World.size_drew]; omega) | (simp; done) | (simp; omega)) _ | with_reducible refine b_step ?_ (by with_reducible assumption))), ⟨A, xs.length, c, 0, xs, Blk.new _ _ _, hR, by omega, by omega, by omega, fun b off h0 e => hlt.out b off e (by omega), hx.out⟩, by simp⟩
end Go.Proofs.Ytpeojnknfonmlaa
