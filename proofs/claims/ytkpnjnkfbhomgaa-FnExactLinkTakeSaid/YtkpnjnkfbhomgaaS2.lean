/- Rows of spans; the reference's walk over the spans. -/
import Derived.Test.YtkpnjnkfbhomgaaS1
import Derived.Test.YtkpnjnkfbhomgaaH
set_option linter.unusedVariables false
set_option linter.unusedSimpArgs false
namespace Go.Proofs.Ytkpnjnkfbhomgaa
open Go.RowKit
attribute [local go_sem] w_lt_add w_le_of w_le_add max2_i min2_i
def spanC (s : LL.Span) : List Value := [.int .i64 s.lo, .int .i64 s.hi]
theorem spanE : EncOk spanC 2 := ⟨fun _ => rfl, fun x u hu => by simp [spanC] at hu; rcases hu with h | h <;> subst h <;> rfl, by decide⟩
abbrev RdP := Rd spanC 2 16
def LL.sp0 : LL.Span := ⟨0, 0⟩
def LL.nthP (l : List LL.Span) (i : Nat) : LL.Span := l.getD i LL.sp0
theorem Rd.S2 {w : World} {b off n c : Nat} {xs : List LL.Span} (h : RdP w (some ⟨b, off, none⟩) n c xs) (k : Nat) (hk : k < n) :
    w.cell? ⟨b, off + k * 2, none⟩ = some (.int .i64 (LL.nthP xs k).lo) ∧ w.cell? ⟨b, off + k * 2 + 1, none⟩ = some (.int .i64 (LL.nthP xs k).hi) := by
  have hc : ∀ j u, (spanC (LL.nthP xs k))[j]? = some u → _ := h.here LL.sp0 k hk
  exact ⟨hc 0 _ rfl, hc 1 _ rfl⟩
/-- a call has made a row, and tells a bool beside it -/
def Mk2 {α : Type} (enc : α → List Value) (sz bytes e : Nat) (w : World) (xs : List α) (b : Bool) (en : Ending) (w' : World) : Prop := ∃ v, en = .returned (.tuple #[v, .bool b]) ∧ Own enc sz bytes e w' v xs ∧ (∀ k, v.ownBlock = some k → w.heap.size ≤ k) ∧ Below w.heap.size w w'
section
variable {α : Type} {enc : α → List Value} {sz bytes e : Nat}
/-- a row of the call's own that holds something lies in one block -/
theorem Own.form {w : World} {v : Value} {xs : List α} (h : Own enc sz bytes e w v xs) (hn : 0 < xs.length) : ∃ g cap, v = .slice (some ⟨g, 0, none⟩) xs.length cap ∧ xs.length ≤ cap ∧ g < w.heap.size ∧ ∀ i, w.frozen? ⟨g, i, none⟩ = false := by
  rcases h.row.2 with ⟨_, h0⟩ | ⟨g, cap, cur, rfl, _, hh, hc, _⟩
  · omega
  · exact ⟨g, cap, rfl, hc, (Array.getElem?_eq_some_iff.1 hh).1, fun i => by simp [World.frozen?, hh]⟩
theorem Own.rd_at {w : World} {g n c : Nat} {xs : List α} (h : Own enc sz bytes e w (.slice (some ⟨g, 0, none⟩) n c) xs) (E : EncOk enc sz) (hn : xs.length = n) : Rd enc sz bytes w (some ⟨g, 0, none⟩) n c xs := by
  subst hn
  obtain ⟨A, k, e1, hR⟩ := h.rd E
  cases e1
  exact hR
theorem Own.made' {w : World} {g : Nat} (hg : g = w.heap.size) : Own enc sz bytes e (w.alloc (.cells #[] e)) (.slice (some ⟨g, 0, none⟩) 0 0) ([] : List α) := by
  subst hg
  exact ⟨⟨by simp, .inr ⟨_, 0, #[], rfl, Nat.zero_le _, heap_alloc_new w _, Nat.le_refl _, Nat.zero_le _, by simp, by simp⟩⟩, by simp⟩
/-- the cells of a span of a row of the call's own -/
theorem Own.S2 {w : World} {e g n c : Nat} {f : Nat → LL.Span} (h : Own spanC 2 16 e w (.slice (some ⟨g, 0, none⟩) n c) (LL.tab n f)) (k : Nat) (hk : k < n) :
    w.cell? ⟨g, k * 2, none⟩ = some (.int .i64 (f k).lo) ∧ w.cell? ⟨g, k * 2 + 1, none⟩ = some (.int .i64 (f k).hi) ∧ w.frozen? ⟨g, k * 2, none⟩ = false ∧ w.frozen? ⟨g, k * 2 + 1, none⟩ = false := by
  have h2 := (h.rd_at spanE (LL.tab_len _ _)).S2 k hk
  have e1 : LL.nthP (LL.tab n f) k = f k := LL.tab_getD hk
  rw [e1, Nat.zero_add] at h2
  obtain ⟨g', cap, e2, _, _, hf⟩ := h.form (by rw [LL.tab_len]; omega)
  have e3 : g = g' := by injection e2 with e2; injection e2 with e2; injection e2
  subst e3
  exact ⟨h2.1, h2.2, hf _, hf _⟩
theorem Blk.bb {w w1 : World} {g n : Nat} {cs : Array Value} {t : TypeId} (h : Blk w g cs t) (hb : Below n w w1) (hg : g < n) : Blk w1 g cs t := ⟨(hb.block g hg).trans h.at_⟩
theorem Own.bb {w w1 : World} {n : Nat} {v : Value} {xs : List α} (h : Own enc sz bytes e w v xs) (hb : Below n w w1) (hg : ∀ k, v.ownBlock = some k → k < n) : Own enc sz bytes e w1 v xs := h.move fun k hk => hb.block k (hg k hk)
theorem Blk.grown {w w1 : World} {g : Nat} {cs : Array Value} {t : TypeId} {row : Option Nat} (h : Blk w g cs t) (hb : w.grownBy w1 row) (hg : row ≠ some g) : Blk w1 g cs t := ⟨(hb.block g (blk_lt h.at_) (Ne.symm hg)).trans h.at_⟩
theorem b_grown' {n : Nat} {w W w1 : World} {row : Option Nat} (h : Below n w W) (hg : W.grownBy w1 row) (hn : n ≤ W.heap.size) (hge : ∀ g, row = some g → n ≤ g) : Below n w w1 := h.grown hg hn hge
theorem mk2_mk {w w' : World} {v : Value} {xs : List α} {b c : Bool} (hO : Own enc sz bytes e w' v xs) (hc : c = b) (hge : ∀ k, v.ownBlock = some k → w.heap.size ≤ k) (hb : Below w.heap.size w w') : Mk2 enc sz bytes e w xs b (.returned (.tuple #[v, .bool c])) w' := by
  subst hc
  exact ⟨v, rfl, hO, hge, hb⟩
theorem Own.setLo {w : World} {e g n c : Nat} {xs : List LL.Span} (h : Own spanC 2 16 e w (.slice (some ⟨g, 0, none⟩) n c) xs) (hn : xs.length = n) (k : Nat) (hk : k < n) (x : Int) : Own spanC 2 16 e (w.setCell ⟨g, k * 2, none⟩ (.int .i64 x)) (.slice (some ⟨g, 0, none⟩) n c) (xs.set k ⟨x, (xs.getD k LL.sp0).hi⟩) := by
  subst hn
  obtain ⟨hrow, hg⟩ := ownsRow_setCells [.int .i64 x] (k * 2 + 0) h.row
  rw [flat_setMany spanE xs k 0 LL.sp0 ⟨x, (xs.getD k LL.sp0).hi⟩ [.int .i64 x] hk (by simp) (by simp [spanC])] at hrow
  exact ⟨by rw [List.length_set]; simpa [World.setCells] using hrow, by rw [List.length_set]; exact h.room⟩
theorem Own.setHi {w : World} {e g n c : Nat} {xs : List LL.Span} (h : Own spanC 2 16 e w (.slice (some ⟨g, 0, none⟩) n c) xs) (hn : xs.length = n) (k : Nat) (hk : k < n) (x : Int) : Own spanC 2 16 e (w.setCell ⟨g, k * 2 + 1, none⟩ (.int .i64 x)) (.slice (some ⟨g, 0, none⟩) n c) (xs.set k ⟨(xs.getD k LL.sp0).lo, x⟩) := by
  subst hn
  obtain ⟨hrow, hg⟩ := ownsRow_setCells [.int .i64 x] (k * 2 + 1) h.row
  rw [flat_setMany spanE xs k 1 LL.sp0 ⟨(xs.getD k LL.sp0).lo, x⟩ [.int .i64 x] hk (by simp) (by simp [spanC])] at hrow
  exact ⟨by rw [List.length_set]; simpa [World.setCells] using hrow, by rw [List.length_set]; exact h.room⟩
/-- a world under a name, with what is known of it -/
theorem wp_name {P : Program} {c : Code} {Q : Exit → Act → World → Prop} {a : Act} {w : World} (R : World → Prop) (h0 : R w) (h : ∀ w, R w → c.wp P Q a w) : c.wp P Q a w := h w h0
end
end Go.Proofs.Ytkpnjnkfbhomgaa
