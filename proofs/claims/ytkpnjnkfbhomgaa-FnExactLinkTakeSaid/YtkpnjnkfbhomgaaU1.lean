/- What the walks of the laws share: changes that lie in a set of blocks. -/
import Derived.Test.YtkpnjnkfbhomgaaR
set_option linter.unusedVariables false
set_option linter.unusedSimpArgs false
namespace Go.Proofs.Ytkpnjnkfbhomgaa
open Go.RowKit
/-- what changes of what there was lies in S -/
structure GrownS (w w' : World) (S : Nat → Prop) : Prop where
  os : w'.os = w.os
  tape : w'.tape = w.tape
  output : w'.output = w.output
  size : w.heap.size ≤ w'.heap.size
  block : ∀ k, k < w.heap.size → ¬ S k → w'.heap[k]? = w.heap[k]?
section
variable {w w' W : World} {S : Nat → Prop}
theorem GrownS.of {v : Value} (h : w.grownBy w' v.ownBlock) : GrownS w w' (fun k => v.ownBlock = some k) := ⟨h.os, h.tape, h.output, h.size, fun k hk hn => h.block k hk (fun e => hn e.symm)⟩
theorem GrownS.refl (w : World) (S : Nat → Prop) : GrownS w w S := ⟨rfl, rfl, rfl, Nat.le_refl _, fun _ _ _ => rfl⟩
theorem GrownS.trans {w'' : World} (h : GrownS w w' S) (h' : GrownS w' w'' S) : GrownS w w'' S := ⟨h'.os.trans h.os, h'.tape.trans h.tape, h'.output.trans h.output, Nat.le_trans h.size h'.size, fun k hk hn => (h'.block k (Nat.lt_of_lt_of_le hk h.size) hn).trans (h.block k hk hn)⟩
theorem GrownS.mono {S' : Nat → Prop} (h : GrownS w w' S) (hs : ∀ k, S k → S' k) : GrownS w w' S' := ⟨h.os, h.tape, h.output, h.size, fun k hk hn => h.block k hk (fun e => hn (hs k e))⟩
theorem GrownS.below (hb : Below w.heap.size w w') : GrownS w w' S := ⟨hb.os, hb.tape, hb.output, hb.size, fun k hk _ => hb.block k hk⟩
theorem Own.gS {α : Type} {enc : α → List Value} {sz bytes e : Nat} {v : Value} {xs : List α} (h : Own enc sz bytes e w v xs) (hg : GrownS w w' S) (hd : ∀ k, v.ownBlock = some k → ¬ S k) : Own enc sz bytes e w' v xs := h.move fun k hk => hg.block k (h.row.lt k hk).2 (hd k hk)
theorem Blk.gS {g : Nat} {cs : Array Value} {t : TypeId} (h : Blk w g cs t) (hg : GrownS w w' S) (hd : ¬ S g) : Blk w' g cs t := ⟨(hg.block g (blk_lt h.at_) hd).trans h.at_⟩
theorem b_gS {n : Nat} (h : Below n w W) (hg : GrownS W w' S) (hn : n ≤ W.heap.size) (hge : ∀ k, S k → n ≤ k) : Below n w w' :=
  ⟨hg.os.trans h.os, hg.tape.trans h.tape, hg.output.trans h.output, Nat.le_trans h.size hg.size, fun k hk => (hg.block k (Nat.lt_of_lt_of_le hk hn) (fun e => by have := hge k e; omega)).trans (h.block k hk)⟩
end
theorem LL.sz_ge {l : Int} {n : Nat} (h : ¬ LL.sz l n < 0) : (n : Int) ≤ l := by
  unfold LL.sz at h; split at h <;> omega
end Go.Proofs.Ytkpnjnkfbhomgaa
