/- The laws' own marks: each cell of a row of plain structs is given a number of its own, and asked for it again. -/
import Derived.Test.YtpeojnknfonmlaaJ4
import Derived.Test.YtpeojnknfonmlaaJ3
import Derived.Test.YtpeojnknfonmlaaJ1

set_option linter.unusedVariables false
set_option linter.unusedSimpArgs false
namespace Go.Proofs.Ytpeojnknfonmlaa
open Go.RowKit
attribute [local go_sem] w_lt_add w_le_of w_le_add max2_i min2_i
theorem LL.tab_self {α : Type} (xs : List α) (d : α) : LL.tab xs.length (fun i => xs.getD i d) = xs := by
  apply List.ext_getElem?
  intro i
  by_cases h : i < xs.length <;> simp [LL.tab, h, List.getD_eq_getElem?_getD]
/-- the first j are new -/
def LL.mix {α : Type} (f : Nat → α) (xs : List α) (d : α) (j i : Nat) : α := if i < j then f i else xs.getD i d
theorem LL.mix_zero {α : Type} (f : Nat → α) (xs : List α) (d : α) : LL.tab xs.length (LL.mix f xs d 0) = xs := by
  rw [← LL.tab_self xs d]; simp only [LL.tab_len]; exact LL.tab_congr fun i hi => by simp [LL.mix, LL.tab, List.getD_eq_getElem?_getD, hi]
theorem LL.mix_all {α : Type} (f : Nat → α) (xs : List α) (d : α) : LL.tab xs.length (LL.mix f xs d xs.length) = LL.tab xs.length f := LL.tab_congr fun i hi => if_pos hi
theorem LL.mix_set {α : Type} (f : Nat → α) (xs : List α) (d : α) (j : Nat) (h : j < xs.length) (x : α) (hx : x = f j) : (LL.tab xs.length (LL.mix f xs d j)).set j x = LL.tab xs.length (LL.mix f xs d (j + 1)) := LL.tab_set h (by rw [hx]; exact if_pos (Nat.lt_succ_self j)) fun i hi _ => by
  unfold LL.mix
  by_cases h1 : i < j
  · rw [if_pos h1, if_pos (by omega)]
  · rw [if_neg h1, if_neg (by omega)]
/-- a call has marked a row -/
def MkM {α : Type} (enc : α → List Value) (sz bytes e : Nat) (w : World) (v : Value) (r : Int) (ys : List α) (en : Ending) (w' : World) : Prop := en = .returned (.int .i64 r) ∧ Own enc sz bytes e w' v ys ∧ w.grownBy w' v.ownBlock
theorem Own.setAll {α : Type} {enc : α → List Value} {sz bytes e : Nat} {w : World} {g n c : Nat} {xs : List α} (h : Own enc sz bytes e w (.slice (some ⟨g, 0, none⟩) n c) xs) (E : EncOk enc sz) (hn : xs.length = n) (k : Nat) (hk : k < n) (d x' : α) : Own enc sz bytes e (w.setCells g (k * sz) (enc x')) (.slice (some ⟨g, 0, none⟩) n c) (xs.set k x') ∧ w.grownBy (w.setCells g (k * sz) (enc x')) (some g) := by
  subst hn
  obtain ⟨hrow, hg⟩ := ownsRow_setCells (enc x') (k * sz + 0) h.row
  rw [flat_setMany E xs k 0 d x' (enc x') hk (by rw [E.len]; omega) (by rw [List.take_zero, List.nil_append, List.drop_eq_nil_of_le (by rw [E.len, E.len]; omega), List.append_nil])] at hrow
  exact ⟨⟨by rw [List.length_set]; exact hrow, by rw [List.length_set]; exact h.room⟩, hg⟩
theorem Own.someA {α : Type} {enc : α → List Value} {sz bytes e : Nat} {w : World} {A : Option Addr} {n c : Nat} {xs : List α} (h : Own enc sz bytes e w (.slice A n c) xs) (hn : 0 < xs.length) : ∃ g, A = some ⟨g, 0, none⟩ := by
  obtain ⟨g, cap, e1, _⟩ := h.form hn
  injection e1 with e1
  exact ⟨g, e1⟩
theorem Own.unfrozen {α : Type} {enc : α → List Value} {sz bytes e : Nat} {w : World} {g n c : Nat} {xs : List α} (h : Own enc sz bytes e w (.slice (some ⟨g, 0, none⟩) n c) xs) (hn : 0 < xs.length) : (∀ i, w.frozen? ⟨g, i, none⟩ = false) ∧ g < w.heap.size := by
  obtain ⟨g', cap, e1, _, e3, e2⟩ := h.form hn
  injection e1 with e1
  injection e1 with e1
  injection e1 with e1
  subst e1
  exact ⟨e2, e3⟩
end Go.Proofs.Ytpeojnknfonmlaa

/- What the walks of the laws share: destructors of contracts, rows that do not meet. -/
set_option linter.unusedVariables false
set_option linter.unusedSimpArgs false
namespace Go.Proofs.Ytpeojnknfonmlaa
open Go.RowKit
attribute [local go_sem] w_lt_add w_le_of w_le_add max2_i min2_i
theorem LL.sz_le {left : Int} (h : 0 ≤ left) (n : Nat) : LL.sz left n ≤ left := by unfold LL.sz; split <;> omega
theorem calls_name {P : Program} {f : FuncId} {args : Array Value} {w : World} {Q : Ending → World → Prop} (R : World → Prop) (h0 : R w) (h : ∀ w, R w → Calls P f args w Q) : Calls P f args w Q := h w h0
section
variable {α : Type} {enc : α → List Value} {sz bytes e : Nat} {w w' : World} {xs : List α} {en : Ending} {b : Bool}
theorem Mk.go (h : Mk enc sz bytes e w xs en w') (E : EncOk enc sz) : ∃ A c, en = .returned (.slice A xs.length c) ∧ Own enc sz bytes e w' (.slice A xs.length c) xs ∧ (∀ k, Value.ownBlock (.slice A xs.length c) = some k → w.heap.size ≤ k) ∧ Below w.heap.size w w' := by
  obtain ⟨v, rfl, hO, hg, hb⟩ := h
  obtain ⟨A, c, rfl, _⟩ := hO.rd E
  exact ⟨A, c, rfl, hO, hg, hb⟩
theorem Mk2.go2 (h : Mk2 enc sz bytes e w xs b en w') (E : EncOk enc sz) : ∃ A c, en = .returned (.tuple #[.slice A xs.length c, .bool b]) ∧ Own enc sz bytes e w' (.slice A xs.length c) xs ∧ (∀ k, Value.ownBlock (.slice A xs.length c) = some k → w.heap.size ≤ k) ∧ Below w.heap.size w w' := by
  obtain ⟨v, rfl, hO, hg, hb⟩ := h
  obtain ⟨A, c, rfl, _⟩ := hO.rd E
  exact ⟨A, c, rfl, hO, hg, hb⟩
theorem MkP.gop {e : Nat} {p : LL.Path} (h : MkP e w p en w') : ∃ A c, en = .returned (.agg #[.int .i64 p.q, .int .i64 p.s, .slice A p.steps.length c, .int .i64 p.fr, .int .i64 p.by_]) ∧ Own stepC 7 56 e w' (.slice A p.steps.length c) p.steps ∧ (∀ k, Value.ownBlock (.slice A p.steps.length c) = some k → w.heap.size ≤ k) ∧ Below w.heap.size w w' := by
  obtain ⟨v, rfl, hO, hg, hb⟩ := h
  obtain ⟨A, c, rfl, _⟩ := hO.rd stepE
  exact ⟨A, c, rfl, hO, hg, hb⟩
theorem Own.rd_at' {A : Option Addr} {n c : Nat} (h : Own enc sz bytes e w (.slice A n c) xs) (E : EncOk enc sz) : Rd enc sz bytes w A n c xs := by
  obtain ⟨A1, k, e1, hR⟩ := h.rd E
  injection e1 with e1 e2 e3
  subst e1 e2 e3
  exact hR
theorem Own.rd_tab {A : Option Addr} {n c m : Nat} {f : Nat → α} (h : Own enc sz bytes e w (.slice A n c) (LL.tab m f)) (E : EncOk enc sz) : Rd enc sz bytes w A n c (LL.tab n f) := by
  obtain ⟨A1, k, e1, hR⟩ := h.rd E
  injection e1 with e1 e2 e3
  rw [LL.tab_len] at e2 hR
  subst e1 e2 e3
  exact hR
end
theorem blk_new5 (w : World) (z0 z1 z2 z3 z4 a b c d e : Value) (t : TypeId) : Blk ((((((w.alloc (.cells #[z0, z1, z2, z3, z4] t)).setCell ⟨w.heap.size, 0, none⟩ a).setCell ⟨w.heap.size, 1, none⟩ b).setCell ⟨w.heap.size, 2, none⟩ c).setCell ⟨w.heap.size, 3, none⟩ d).setCell ⟨w.heap.size, 4, none⟩ e) w.heap.size #[a, b, c, d, e] t := by
  have := (((((Blk.new w #[z0, z1, z2, z3, z4] t).put 0 a).put 1 b).put 2 c).put 3 d).put 4 e
  simpa using this
theorem own_ne {v v' : Value} {n m : Nat} (h : ∀ k, v.ownBlock = some k → k < n) (h' : ∀ k, v'.ownBlock = some k → m ≤ k) (hn : n ≤ m) : v.ownBlock = none ∨ v.ownBlock ≠ v'.ownBlock := by
  cases hv : v.ownBlock with
  | none => exact .inl rfl
  | some k => exact .inr fun e => by have := h k hv; have := h' k e.symm; omega
theorem own_ne' {v v' : Value} {n m : Nat} (h : ∀ k, v.ownBlock = some k → m ≤ k) (h' : ∀ k, v'.ownBlock = some k → k < n) (hn : n ≤ m) : v.ownBlock = none ∨ v.ownBlock ≠ v'.ownBlock := by
  cases hv : v.ownBlock with
  | none => exact .inl rfl
  | some k => exact .inr fun e => by have := h k hv; have := h' k e.symm; omega
end Go.Proofs.Ytpeojnknfonmlaa

/- What the walks of the laws share: changes that lie in a set of blocks. -/
set_option linter.unusedVariables false
set_option linter.unusedSimpArgs false
namespace Go.Proofs.Ytpeojnknfonmlaa
open Go.RowKit
/-- what changes of what there was lies in S -/
structure GrownS (w w' : World) (S : Nat → Prop) : Prop where
  os : w'.os = w.os
  tape : w'.tape = w.tape
  output : w'.output = w.output
  size : w.heap.size ≤ w'.heap.size
  block : ∀ k, k < w.heap.size → ¬ S k → w'.heap[k]? = w.heap[k]?
section
variable {w w' W : World} {S : Nat → Prop}
theorem GrownS.of {v : Value} (h : w.grownBy w' v.ownBlock) : GrownS w w' (fun k => v.ownBlock = some k) := ⟨h.os, h.tape, h.output, h.size, fun k hk hn => h.block k hk (fun e => hn e.symm)⟩
theorem GrownS.refl (w : World) (S : Nat → Prop) : GrownS w w S := ⟨rfl, rfl, rfl, Nat.le_refl _, fun _ _ _ => rfl⟩
theorem GrownS.trans {w'' : World} (h : GrownS w w' S) (h' : GrownS w' w'' S) : GrownS w w'' S := ⟨h'.os.trans h.os, h'.tape.trans h.tape, h'.output.trans h.output, Nat.le_trans h.size h'.size, fun k hk hn => (h'.block k (Nat.lt_of_lt_of_le hk h.size) hn).trans (h.block k hk hn)⟩
theorem GrownS.mono {S' : Nat → Prop} (h : GrownS w w' S) (hs : ∀ k, S k → S' k) : GrownS w w' S' := ⟨h.os, h.tape, h.output, h.size, fun k hk hn => h.block k hk (fun e => hn (hs k e))⟩
theorem GrownS.below (hb : Below w.heap.size w w') : GrownS w w' S := ⟨hb.os, hb.tape, hb.output, hb.size, fun k hk _ => hb.block k hk⟩
theorem Own.gS {α : Type} {enc : α → List Value} {sz bytes e : Nat} {v : Value} {xs : List α} (h : Own enc sz bytes e w v xs) (hg : GrownS w w' S) (hd : ∀ k, v.ownBlock = some k → ¬ S k) : Own enc sz bytes e w' v xs := h.move fun k hk => hg.block k (h.row.lt k hk).2 (hd k hk)
theorem Blk.gS {g : Nat} {cs : Array Value} {t : TypeId} (h : Blk w g cs t) (hg : GrownS w w' S) (hd : ¬ S g) : Blk w' g cs t := ⟨(hg.block g (blk_lt h.at_) hd).trans h.at_⟩
theorem b_gS {n : Nat} (h : Below n w W) (hg : GrownS W w' S) (hn : n ≤ W.heap.size) (hge : ∀ k, S k → n ≤ k) : Below n w w' :=
  ⟨hg.os.trans h.os, hg.tape.trans h.tape, hg.output.trans h.output, Nat.le_trans h.size hg.size, fun k hk => (hg.block k (Nat.lt_of_lt_of_le hk hn) (fun e => by have := hge k e; omega)).trans (h.block k hk)⟩
end
theorem LL.sz_ge {l : Int} {n : Nat} (h : ¬ LL.sz l n < 0) : (n : Int) ≤ l := by
  unfold LL.sz at h; split at h <;> omega
end Go.Proofs.Ytpeojnknfonmlaa

/- Rows whose elements have rows of their own, of any kind of elements. -/
set_option linter.unusedVariables false
set_option linter.unusedSimpArgs false
namespace Go.Proofs.Ytpeojnknfonmlaa
open Go.RowKit
/-- a kind of elements -/
structure El (α : Type) where
  enc : α → List Value
  sz : Nat
  bytes : Nat
  ty : Nat
  d : α
  rd : World → α → Prop
  own : World → α → Prop
  fp : α → Nat → Prop
  E : EncOk enc sz
  rd_mono : ∀ {w w' : World} {u : α}, rd w u → Below w.heap.size w w' → rd w' u
  own_rd : ∀ {w : World} {u : α}, own w u → rd w u
  own_lt : ∀ {w : World} {u : α} {k : Nat}, own w u → fp u k → k < w.heap.size
  own_move : ∀ {w w' : World} {u : α}, own w u → (∀ k, fp u k → w'.heap[k]? = w.heap[k]?) → own w' u
section
variable {α : Type} {L : El α} {w w' : World} {A A' : Option Addr} {c c' : Nat} {us vs : List α} {u v : α} {S : Nat → Prop}
theorem El.own_b (h : L.own w u) (hb : Below w.heap.size w w') : L.own w' u := L.own_move h fun k hk => hb.block k (L.own_lt h hk)
theorem El.own_gS (h : L.own w u) (hg : GrownS w w' S) (hd : ∀ k, L.fp u k → ¬ S k) : L.own w' u := L.own_move h fun k hk => hg.block k (L.own_lt h hk) (hd k hk)
/-- a row of elements that can be read -/
structure RdR (L : El α) (w : World) (A : Option Addr) (c : Nat) (us : List α) : Prop where
  row : Rd L.enc L.sz L.bytes w A us.length c us
  el : ∀ u ∈ us, L.rd w u
theorem RdR.mono (h : RdR L w A c us) (hb : Below w.heap.size w w') : RdR L w' A c us := ⟨h.row.mono hb, fun u hu => L.rd_mono (h.el u hu) hb⟩
/-- the blocks of a row and of its elements -/
def FpR (L : El α) (A : Option Addr) (c : Nat) (us : List α) (j : Nat) : Prop := Value.ownBlock (.slice A us.length c) = some j ∨ ∃ u ∈ us, L.fp u j
/-- own rows of elements with own rows, all in blocks of their own -/
structure OwnR (L : El α) (w : World) (A : Option Addr) (c : Nat) (us : List α) : Prop where
  row : Own L.enc L.sz L.bytes L.ty w (.slice A us.length c) us
  el : ∀ u ∈ us, L.own w u
  ne : ∀ u ∈ us, ∀ j, L.fp u j → ¬ Value.ownBlock (.slice A us.length c) = some j
  dis : us.Pairwise fun u v => ∀ j, L.fp u j → ¬ L.fp v j
theorem OwnR.rd (h : OwnR L w A c us) : RdR L w A c us := ⟨h.row.rd_at' L.E, fun u hu => L.own_rd (h.el u hu)⟩
theorem OwnR.lt (h : OwnR L w A c us) : ∀ j, FpR L A c us j → j < w.heap.size := fun j hj => hj.elim (fun hj => (h.row.row.lt j hj).2) (fun ⟨u, hu, hj⟩ => L.own_lt (h.el u hu) hj)
theorem OwnR.move (h : OwnR L w A c us) (hm : ∀ j, FpR L A c us j → w'.heap[j]? = w.heap[j]?) : OwnR L w' A c us :=
  ⟨h.row.move fun j hj => hm j (.inl hj), fun u hu => L.own_move (h.el u hu) fun j hj => hm j (.inr ⟨u, hu, hj⟩), h.ne, h.dis⟩
theorem OwnR.b (h : OwnR L w A c us) (hb : Below w.heap.size w w') : OwnR L w' A c us := h.move fun j hj => hb.block j (h.lt j hj)
theorem OwnR.a (h : OwnR L w A c us) (o : Obj) : OwnR L (w.alloc o) A c us := h.b (b_alloc (Below.refl _ _) o)
theorem OwnR.s (h : OwnR L w A c us) {p : Addr} (u : Value) (hne : ∀ j, FpR L A c us j → j ≠ p.block) : OwnR L (w.setCell p u) A c us := h.move fun j hj => Below.heap_setCell w p u j (hne j hj)
theorem OwnR.dr (h : OwnR L w A c us) : OwnR L w.drew A c us := h.move fun j hj => rfl
theorem OwnR.gS (h : OwnR L w A c us) (hg : GrownS w w' S) (hd : ∀ j, FpR L A c us j → ¬ S j) : OwnR L w' A c us := h.move fun j hj => hg.block j (h.lt j hj) (hd j hj)
theorem OwnR.none (w : World) : OwnR L w none 0 ([] : List α) :=
  ⟨⟨⟨by simp, .inl ⟨by simp, by simp⟩⟩, by simp⟩, fun u hu => absurd hu (by simp), fun u hu => absurd hu (by simp), List.Pairwise.nil⟩
theorem FpR.none {j : Nat} : ¬ FpR L none 0 ([] : List α) j := fun h => h.elim (fun h => by simp [Value.ownBlock] at h) (fun ⟨u, hu, _⟩ => absurd hu (by simp))
/-- one more element behind the others -/
theorem OwnR.snoc (h : OwnR L w A c us) (hv : L.own w v) (hd : ∀ j, L.fp v j → ¬ FpR L A c us j) (ho : Own L.enc L.sz L.bytes L.ty w' (.slice A' (us ++ [v]).length c') (us ++ [v]))
    (hg : w.grownBy w' (Value.ownBlock (.slice A us.length c))) (hat : Value.ownBlock (.slice A' (us ++ [v]).length c') = Value.ownBlock (.slice A us.length c) ∨ Value.ownBlock (.slice A' (us ++ [v]).length c') = some w.heap.size) : OwnR L w' A' c' (us ++ [v]) := by
  have hG := GrownS.of hg
  have hel : ∀ x ∈ us ++ [v], L.own w x ∧ ∀ j, L.fp x j → ¬ Value.ownBlock (.slice A us.length c) = some j := by
    intro x hx
    rcases List.mem_append.1 hx with hx | hx
    · exact ⟨h.el x hx, h.ne x hx⟩
    · obtain rfl := List.mem_singleton.1 hx
      exact ⟨hv, fun j hj hj2 => hd j hj (.inl hj2)⟩
  refine ⟨ho, fun x hx => El.own_gS (hel x hx).1 hG (hel x hx).2, fun x hx j hj hj2 => ?_, ?_⟩
  · rcases hat with h9 | h9
    · exact (hel x hx).2 j hj (h9 ▸ hj2)
    · rw [h9] at hj2
      have := L.own_lt (hel x hx).1 hj
      injection hj2 with hj2
      omega
  · refine List.pairwise_append.2 ⟨h.dis, List.pairwise_singleton _ _, fun x hx y hy j hj hj2 => ?_⟩
    obtain rfl := List.mem_singleton.1 hy
    exact hd j hj2 (.inr ⟨x, hx, hj⟩)
theorem FpR.snoc {j : Nat} (hj : FpR L A' c' (us ++ [v]) j) (hat : Value.ownBlock (.slice A' (us ++ [v]).length c') = Value.ownBlock (.slice A us.length c) ∨ Value.ownBlock (.slice A' (us ++ [v]).length c') = some w.heap.size) : FpR L A c us j ∨ L.fp v j ∨ j = w.heap.size := by
  rcases hj with hj | ⟨x, hx, hj⟩
  · rcases hat with h9 | h9
    · exact .inl (.inl (h9 ▸ hj))
    · rw [h9] at hj; injection hj with hj; exact .inr (.inr hj.symm)
  · rcases List.mem_append.1 hx with hx | hx
    · exact .inl (.inr ⟨x, hx, hj⟩)
    · obtain rfl := List.mem_singleton.1 hx
      exact .inr (.inl hj)
end
end Go.Proofs.Ytpeojnknfonmlaa
