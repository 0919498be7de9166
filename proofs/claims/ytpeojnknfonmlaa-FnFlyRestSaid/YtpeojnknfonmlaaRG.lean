/- The laws' own comparisons. -/
import Derived.Test.YtpeojnknfonmlaaJ3
import Derived.Test.YtpeojnknfonmlaaJ4
set_option linter.unusedVariables false
set_option linter.unusedSimpArgs false
namespace Go.Proofs.Ytpeojnknfonmlaa
open Go.RowKit
set_option maxRecDepth 100000 in
set_option maxHeartbeats 4000000 in
theorem wfPath_c (p : LL.Path) (A A' : Option Addr) (c c' : Nat) (w : World) (h : RdS w A p.steps.length c p.steps) (h' : RdS w A' p.steps.length c' p.steps) : Calls Try.prog 21 #[.agg #[.int .i64 p.q, .int .i64 p.s, .slice A p.steps.length c, .int .i64 p.fr, .int .i64 p.by_], .agg #[.int .i64 p.q, .int .i64 p.s, .slice A' p.steps.length c', .int .i64 p.fr, .int .i64 p.by_]] w fun e w' => e = .returned (.bool true) ∧ Below w.heap.size w w' := by
  have kA0 := (Blk.new w #[.int .i64 p.q, .int .i64 p.s, .slice A p.steps.length c, .int .i64 p.fr, .int .i64 p.by_] 43).a (.cells #[.int .i64 p.q, .int .i64 p.s, .slice A' p.steps.length c', .int .i64 p.fr, .int .i64 p.by_] 43)
  have kB0 := Blk.new' (w := w.alloc (.cells #[.int .i64 p.q, .int .i64 p.s, .slice A p.steps.length c, .int .i64 p.fr, .int .i64 p.by_] 43)) (g := w.heap.size + 1) #[.int .i64 p.q, .int .i64 p.s, .slice A' p.steps.length c', .int .i64 p.fr, .int .i64 p.by_] 43 (by simp)
  have hroom := h.room
  go_enter Try.func21, Try.ntmps21
  go_wp2
  go_loopw [5] (fun i wr => ∃ k : Nat, k ≤ p.steps.length ∧ i = .int .i64 k ∧ Blk wr w.heap.size #[.int .i64 p.q, .int .i64 p.s, .slice A p.steps.length c, .int .i64 p.fr, .int .i64 p.by_] 43 ∧ Blk wr (w.heap.size + 1) #[.int .i64 p.q, .int .i64 p.s, .slice A' p.steps.length c', .int .i64 p.fr, .int .i64 p.by_] 43 ∧ Below w.heap.size w wr) (fun i _ => p.steps.length - (intOf i).toNat)
  case atStart => exact ⟨0, by omega, rfl, kA0, kB0, (by repeat' (first | with_reducible exact Below.refl _ _ | with_reducible assumption | with_reducible refine b_alloc ?_ _ | with_reducible refine b_drewN ?_ _ | with_reducible refine b_drew ?_ | with_reducible refine b_set ?_ (by first | (simp only [World.size_setCell, World.size_alloc, World.size_drew]; omega) | (simp; done) | (simp; omega)) _ | with_reducible refine b_step ?_ (by with_reducible assumption)))⟩
  case round =>
    obtain ⟨k, hk, rfl, kA, kB, hb⟩ := hrel
    clear kA0 kB0
    obtain ⟨e0, f0, l0⟩ := kA.cells
    obtain ⟨e1, f1, l1⟩ := kB.cells
    obtain ⟨hc, hf, hl⟩ := bcell hb
    by_cases hlt : k < p.steps.length
    · obtain ⟨b, off, rfl, hbw⟩ := h.addr (by omega)
      obtain ⟨b', off', rfl, hbw'⟩ := h'.addr (by omega)
      obtain ⟨d0, d1, d2, d3, d4, d5, d6⟩ := h.S7 k hlt
      obtain ⟨g0, g1, g2, g3, g4, g5, g6⟩ := h'.S7 k hlt
      go_wp2
      ((refine calm_b (by kernel_rfl) (by kernel_rfl) ?_); (repeat (first | ((apply sure_cons (hg := rfl)); (focus ((intro w' hS'); (obtain ⟨hcS, hfS, hlS⟩ := bcell hS'); (try simp only [World.size_setCell, World.size_alloc, World.size_drew] at hS' hcS hfS hlS); (go_simp); (try go_bits); (try ((first | rw [if_pos (by omega)] | rw [if_neg (by omega)]); go_simp)); (first | (with_reducible rfl) | (with_reducible exact rfl) | (with_reducible exact ⟨rfl, hS'⟩) | fail))); (simp only [Act.put, List.setIfInBounds_toArray, List.set_cons_zero, List.set_cons_succ])) | ((apply sure_off (hg := rfl)); (simp only [Act.put, List.setIfInBounds_toArray, List.set_cons_zero, List.set_cons_succ])))); (refine sure_nil ?_))
      intro w' hS'
      go_wp2
      go_roundw
      case rel => exact ⟨k + 1, by omega, by go_num, kA.b hS', kB.b hS', b_step hb hS'⟩
      case measure => simp [intOf]; omega
    · go_wp2
      go_ret
      exact ⟨rfl, (by repeat' (first | with_reducible exact Below.refl _ _ | with_reducible assumption | with_reducible refine b_alloc ?_ _ | with_reducible refine b_drewN ?_ _ | with_reducible refine b_drew ?_ | with_reducible refine b_set ?_ (by first | (simp only [World.size_setCell, World.size_alloc, World.size_drew]; omega) | (simp; done) | (simp; omega)) _ | with_reducible refine b_step ?_ (by with_reducible assumption)))⟩
end Go.Proofs.Ytpeojnknfonmlaa
