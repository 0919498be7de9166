/- An aircraft that hears a word: LinkTake of the program and of the reference. -/
import Derived.Test.YtkpnjnkfbhomgaaE3
import Derived.Test.YtkpnjnkfbhomgaaN3
import Derived.Test.YtkpnjnkfbhomgaaX6
import Derived.BigRegion
set_option linter.unusedVariables false
set_option linter.unusedSimpArgs false
namespace Go.Proofs.Ytkpnjnkfbhomgaa
open Go.RowKit
theorem mx_max (a b : Int) : mx a b = max a b := by unfold mx; split <;> omega
attribute [local go_sem] w_lt_add w_le_of w_le_add max2_i min2_i mx_max
/-- a call has made an aircraft, a word and a truth -/
def MkCrW (w : World) (x : LL.Craft) (y : LL.Word) (b : Bool) (en : Ending) (w' : World) : Prop := ∃ A c F m B d, en = .returned (.tuple #[.agg #[.string x.name, .int .i64 x.number, .int .i64 x.no, .int .i64 x.path.q, .int .i64 x.path.s, .slice A x.path.steps.length c, .int .i64 x.path.fr, .int .i64 x.path.by_, .slice F x.flown.length m], .agg #[.int .i64 y.kind, .string y.name, .int .i64 y.number, .int .i64 y.path.q, .int .i64 y.path.s, .slice B y.path.steps.length d, .int .i64 y.path.fr, .int .i64 y.path.by_], .bool b]) ∧ OwnCr w' x A c F m ∧ OwnP w' B d y.path ∧ (∀ k, FpC x A c F m k → w.heap.size ≤ k) ∧ (∀ k, Value.ownBlock (.slice B y.path.steps.length d) = some k → w.heap.size ≤ k) ∧ (∀ k, FpC x A c F m k → ¬ Value.ownBlock (.slice B y.path.steps.length d) = some k) ∧ Below w.heap.size w w'
theorem OwnP.none (w : World) (q s fr by_ : Int) : OwnP w none 0 ⟨q, s, [], fr, by_⟩ := ⟨⟨by simp, .inl ⟨by simp, by simp⟩⟩, by simp⟩
theorem baEq {a b : ByteArray} (h : a.toList = b.toList) : a = b := by
  rw [ByteArray.toList_eq, ByteArray.toList_eq] at h
  cases a; cases b; simp only at h; congr 1; exact Array.toList_inj.1 h
theorem own_nil {n c k : Nat} : ¬ Value.ownBlock (.slice none n c) = some k := by simp [Value.ownBlock]
end Go.Proofs.Ytkpnjnkfbhomgaa
