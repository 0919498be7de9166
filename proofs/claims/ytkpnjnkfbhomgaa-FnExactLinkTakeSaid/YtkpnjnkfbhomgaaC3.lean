/- A path with all ticks later by so many: the reference's. -/
import Derived.Test.YtkpnjnkfbhomgaaC2
set_option linter.unusedVariables false
set_option linter.unusedSimpArgs false
namespace Go.Proofs.Ytkpnjnkfbhomgaa
open Go.RowKit
attribute [local go_sem] w_lt_add w_le_of w_le_add max2_i min2_i
theorem MkPB.gop2 {e : Nat} {w w' : World} {p : LL.Path} {b : Bool} {en : Ending} (h : MkPB e w p b en w') : ∃ A c, en = .returned (.tuple #[.agg #[.int .i64 p.q, .int .i64 p.s, .slice A p.steps.length c, .int .i64 p.fr, .int .i64 p.by_], .bool b]) ∧ Own stepC 7 56 e w' (.slice A p.steps.length c) p.steps ∧ (∀ k, Value.ownBlock (.slice A p.steps.length c) = some k → w.heap.size ≤ k) ∧ Below w.heap.size w w' := by
  obtain ⟨v, rfl, hO, hg, hb⟩ := h
  obtain ⟨A, c, rfl, _⟩ := hO.rd stepE
  exact ⟨A, c, rfl, hO, hg, hb⟩
theorem MkPB.none {e : Nat} {w w' : World} (hb : Below w.heap.size w w') : MkPB e w LL.p0 false (.returned (.tuple #[.agg #[.int .i64 0, .int .i64 0, .slice none 0 0, .int .i64 0, .int .i64 0], .bool false])) w' :=
  ⟨_, rfl, ⟨World.ownsRow_nil _ _ _ _, by simp [LL.p0]⟩, fun k hk => by simp [Value.ownBlock] at hk, hb⟩
end Go.Proofs.Ytkpnjnkfbhomgaa
