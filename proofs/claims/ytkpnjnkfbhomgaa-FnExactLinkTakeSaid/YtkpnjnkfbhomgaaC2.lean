/- A path with all ticks later by so many. -/
import Derived.Test.YtkpnjnkfbhomgaaC1
import Derived.Test.YtkpnjnkfbhomgaaX5
set_option linter.unusedVariables false
set_option linter.unusedSimpArgs false
namespace Go.Proofs.Ytkpnjnkfbhomgaa
open Go.RowKit
attribute [local go_sem] w_lt_add w_le_of w_le_add max2_i min2_i
namespace LL
def shS (d : Int) (s : Step) : Step := ⟨s.x, s.y, s.lo, s.hi, s.fr + d, s.by_ + d, s.hold⟩
/-- the step that lies at place i of the path that is told later -/
def shF (p : Path) (d : Int) (i : Nat) : Step := shS d (nth p.steps i)
def shP (p : Path) (d : Int) : Path := ⟨p.q, p.s, tab p.steps.length (shF p d), p.fr + d, p.by_ + d⟩
def ShOk (p : Path) (d : Int) : Prop := PathOk p ∧ In d (-10000) 10000 ∧ PathOk (shP p d)
instance (p : Path) (d : Int) : Decidable (ShOk p d) := inferInstanceAs (Decidable (_ ∧ _))
def p0 : Path := ⟨0, 0, [], 0, 0⟩
def shiftM (p : Path) (d : Int) : Path := if ShOk p d then shP p d else p0
theorem shiftM_no {p : Path} {d : Int} (h : ¬ ShOk p d) : shiftM p d = p0 := if_neg h
theorem shiftM_yes {p : Path} {d : Int} (h : ShOk p d) : shiftM p d = shP p d := if_pos h
theorem mix_here {α : Type} (f : Nat → α) (xs : List α) (d : α) (k : Nat) : mix f xs d k k = xs.getD k d := if_neg (Nat.lt_irrefl _)
theorem mix_next {α : Type} (f : Nat → α) (xs : List α) (d : α) (k : Nat) : upd (mix f xs d k) k (f k) = mix f xs d (k + 1) := by
  funext i; unfold upd mix
  by_cases h : i = k
  · subst h; simp
  · rw [if_neg h]
    by_cases h1 : i < k
    · rw [if_pos h1, if_pos (by omega)]
    · rw [if_neg h1, if_neg (by omega)]
end LL
/-- a call has made a path and said whether it is one -/
def MkPB (e : Nat) (w : World) (p : LL.Path) (b : Bool) (en : Ending) (w' : World) : Prop := ∃ v, en = .returned (.tuple #[.agg #[.int .i64 p.q, .int .i64 p.s, v, .int .i64 p.fr, .int .i64 p.by_], .bool b]) ∧ Own stepC 7 56 e w' v p.steps ∧ (∀ k, v.ownBlock = some k → w.heap.size ≤ k) ∧ Below w.heap.size w w'
section
variable {w : World} {e g n c : Nat} {f f' : Nat → LL.Step}
theorem Own.St (h : Own stepC 7 56 e w (.slice (some ⟨g, 0, none⟩) n c) (LL.tab n f)) (k : Nat) (hk : k < n) :
    w.cell? ⟨g, k * 7 + 4, none⟩ = some (.int .i64 (f k).fr) ∧ w.cell? ⟨g, k * 7 + 5, none⟩ = some (.int .i64 (f k).by_) ∧ (∀ j, w.frozen? ⟨g, j, none⟩ = false) ∧ g < w.heap.size := by
  have h2 := (h.rd_at stepE (LL.tab_len _ _)).S7 k hk
  have e1 : LL.nth (LL.tab n f) k = f k := LL.tab_getD hk
  rw [e1, Nat.zero_add] at h2
  obtain ⟨g', cap, e2, _, _, hf⟩ := h.form (by rw [LL.tab_len]; omega)
  have e3 : g = g' := by injection e2 with e2; injection e2 with e2; injection e2
  subst e3
  exact ⟨h2.2.2.2.2.1, h2.2.2.2.2.2.1, fun j => hf _, (h.row.lt _ rfl).2⟩
theorem Own.setSt {xs : List LL.Step} (h : Own stepC 7 56 e w (.slice (some ⟨g, 0, none⟩) n c) xs) (hn : xs.length = n) (k : Nat) (hk : k < n) (j : Nat) {x : Value} {s : LL.Step} (hj : j < 7) (hs : stepC s = (stepC (xs.getD k LL.z0)).set j x) :
    Own stepC 7 56 e (w.setCell ⟨g, k * 7 + j, none⟩ x) (.slice (some ⟨g, 0, none⟩) n c) (xs.set k s) := by
  subst hn
  obtain ⟨hrow, hg⟩ := ownsRow_setCells [x] (k * 7 + j) h.row
  rw [flat_setMany stepE xs k j LL.z0 s [x] hk (by simp; omega) (by
    rw [hs, List.set_eq_take_append_cons_drop, if_pos (by simp [stepC]; omega)]; simp)] at hrow
  exact ⟨by rw [List.length_set]; simpa [World.setCells] using hrow, by rw [List.length_set]; exact h.room⟩
theorem Own.updSt (h : Own stepC 7 56 e w (.slice (some ⟨g, 0, none⟩) n c) (LL.tab n f)) (k : Nat) (hk : k < n) (j : Nat) {x : Value} {s : LL.Step} (hj : j < 7) (hs : stepC s = (stepC (f k)).set j x) (hf : LL.upd f k s = f') :
    Own stepC 7 56 e (w.setCell ⟨g, k * 7 + j, none⟩ x) (.slice (some ⟨g, 0, none⟩) n c) (LL.tab n f') := by
  have := h.setSt (LL.tab_len _ _) k hk j (s := s) hj (by rw [LL.tab_getD hk]; exact hs)
  rw [LL.tab_upd _ _ _ hk, hf] at this
  exact this
end
end Go.Proofs.Ytkpnjnkfbhomgaa
