/- Rows of plain structs of the call's own: made, read, written, appended to; where nothing else is in sight. -/
import Derived.Test.YtkpnjnkfbhomgaaL
import Derived.Laws.IdiomCopy
set_option linter.unusedVariables false
set_option linter.unusedSimpArgs false
namespace Go.Proofs.Ytkpnjnkfbhomgaa
open Go.RowKit

/-- a kind of elements: so many cells, each one cell -/
structure EncOk {α : Type} (enc : α → List Value) (sz : Nat) : Prop where
  len : ∀ x, (enc x).length = sz
  one : ∀ x, ∀ u ∈ enc x, u.oneCell' = true
  pos : 0 < sz
theorem flat_get {α : Type} {enc : α → List Value} {sz : Nat} (E : EncOk enc sz) : ∀ (xs : List α) (i : Nat), (xs.flatMap enc)[i]? = (xs[i / sz]?).bind fun x => (enc x)[i % sz]?
  | [], i => by simp
  | x :: xs, i => by
    rw [List.flatMap_cons]
    have hp := E.pos
    by_cases hi : i < sz
    · rw [List.getElem?_append_left (by rw [E.len]; exact hi), Nat.div_eq_of_lt hi, Nat.mod_eq_of_lt hi]; rfl
    · have e1 : i / sz = (i - sz) / sz + 1 := by rw [Nat.div_eq_sub_div hp (by omega)]
      have e2 : i % sz = (i - sz) % sz := by rw [Nat.mod_eq_sub_mod (by omega)]
      rw [List.getElem?_append_right (by rw [E.len]; omega), E.len, flat_get E xs (i - sz), e1, e2]; rfl
theorem flat_len {α : Type} {enc : α → List Value} {sz : Nat} (E : EncOk enc sz) (xs : List α) : (xs.flatMap enc).length = xs.length * sz := by
  induction xs with
  | nil => simp
  | cons x xs ih => rw [List.flatMap_cons, List.length_append, ih, E.len, List.length_cons, Nat.succ_mul]; omega
theorem flat_at {α : Type} {enc : α → List Value} {sz : Nat} (E : EncOk enc sz) (xs : List α) (k j : Nat) (hj : j < sz) : (xs.flatMap enc)[k * sz + j]? = (xs[k]?).bind fun x => (enc x)[j]? := by
  rw [flat_get E, Nat.mul_comm, Nat.mul_add_div E.pos, Nat.mul_add_mod, Nat.div_eq_of_lt hj, Nat.mod_eq_of_lt hj]; rfl
def setMany (cs : List Value) : Nat → List Value → List Value
  | _, [] => cs
  | o, s :: r => setMany (cs.set o s) (o + 1) r
theorem setMany_len (cs : List Value) (o : Nat) (seg : List Value) : (setMany cs o seg).length = cs.length := by
  induction seg generalizing cs o with
  | nil => rfl
  | cons s r ih => rw [setMany, ih]; simp
theorem setMany_get (seg : List Value) : ∀ (cs : List Value) (o i : Nat), o + seg.length ≤ cs.length → (setMany cs o seg)[i]? = if o ≤ i ∧ i < o + seg.length then seg[i - o]? else cs[i]? := by
  induction seg with
  | nil => intro cs o i h; rw [setMany, if_neg (by simp only [List.length_nil]; omega)]
  | cons s r ih =>
    intro cs o i h
    simp only [List.length_cons] at h
    rw [setMany, ih _ _ _ (by rw [List.length_set]; omega), List.getElem?_set]
    simp only [List.length_cons]
    by_cases h1 : o + 1 ≤ i ∧ i < o + 1 + r.length
    · rw [if_pos h1, if_pos (by omega), show i - o = (i - (o + 1)) + 1 by omega]; rfl
    · rw [if_neg h1]
      by_cases h2 : o = i
      · subst h2
        rw [if_pos rfl, if_pos (by omega), if_pos (by omega), Nat.sub_self]; rfl
      · rw [if_neg h2, if_neg (by omega)]
theorem flat_setMany {α : Type} {enc : α → List Value} {sz : Nat} (E : EncOk enc sz) (xs : List α) (k j : Nat) (d x' : α) (seg : List Value) (hk : k < xs.length) (hj : j + seg.length ≤ sz)
    (hx : enc x' = (enc (xs.getD k d)).take j ++ seg ++ (enc (xs.getD k d)).drop (j + seg.length)) : setMany (xs.flatMap enc) (k * sz + j) seg = (xs.set k x').flatMap enc := by
  apply List.ext_getElem?
  intro i
  have hp := E.pos
  have hle : (k + 1) * sz ≤ xs.length * sz := Nat.mul_le_mul_right _ hk
  rw [Nat.succ_mul] at hle
  rw [setMany_get seg _ _ _ (by rw [flat_len E]; omega), flat_get E, flat_get E]
  have hd : xs[k]? = some (xs.getD k d) := by rw [List.getD_eq_getElem?_getD, List.getElem?_eq_getElem hk]; rfl
  have hL := E.len (xs.getD k d)
  have hi := Nat.div_add_mod i sz
  have hm := Nat.mod_lt i hp
  by_cases hki : k = i / sz
  · have hR : (xs.set k x')[i / sz]? = some x' := by rw [← hki, List.getElem?_set_self hk]
    rw [hR, ← hki, hd]
    simp only [Option.bind_some]
    rw [← hki, Nat.mul_comm] at hi
    rw [hx]
    by_cases c1 : k * sz + j ≤ i ∧ i < k * sz + j + seg.length
    · rw [if_pos c1, List.append_assoc, List.getElem?_append_right (by rw [List.length_take]; omega), List.length_take, hL, Nat.min_eq_left (by omega), List.getElem?_append_left (by omega)]
      congr 1; omega
    · rw [if_neg c1]
      by_cases c2 : i % sz < j
      · rw [List.append_assoc, List.getElem?_append_left (by rw [List.length_take]; omega), List.getElem?_take, if_pos c2]
      · rw [List.getElem?_append_right (by rw [List.length_append, List.length_take]; omega), List.length_append, List.length_take, hL, Nat.min_eq_left (by omega), List.getElem?_drop]
        congr 1; omega
  · rw [List.getElem?_set_ne hki, if_neg]
    intro c
    apply hki
    have a1 : k * sz ≤ i := by omega
    have a2 : i < (k + 1) * sz := by rw [Nat.succ_mul]; omega
    exact (Nat.div_eq_of_lt_le a1 a2).symm

theorem Blk.s {w : World} {g : Nat} {cs : Array Value} {t : TypeId} (h : Blk w g cs t) {p : Addr} (hne : g ≠ p.block) (u : Value) : Blk (w.setCell p u) g cs t := ⟨(Below.heap_setCell w p u g hne).trans h.at_⟩
theorem Blk.put {w : World} {g : Nat} {cs : Array Value} {t : TypeId} (h : Blk w g cs t) (i : Nat) (u : Value) : Blk (w.setCell ⟨g, i, none⟩ u) g (cs.setIfInBounds i u) t := ⟨by simp [World.setCell, Array.getElem?_modify, h.at_]⟩
/-- A row of the call's own. -/
structure Own {α : Type} (enc : α → List Value) (sz bytes e : Nat) (w : World) (v : Value) (xs : List α) : Prop where
  row : w.ownsRow 0 e sz v xs.length (xs.flatMap enc)
  room : xs.length * bytes ≤ 140737488351232
section
variable {α : Type} {enc : α → List Value} {sz bytes e : Nat} {w w1 : World} {v : Value} {xs : List α}
theorem Own.rd (h : Own enc sz bytes e w v xs) (E : EncOk enc sz) : ∃ A c, v = .slice A xs.length c ∧ Rd enc sz bytes w A xs.length c xs := by
  rcases h.row.2 with ⟨rfl, h0⟩ | ⟨g, cap, cur, rfl, _, hh, hn, _, _, _⟩
  · exact ⟨none, 0, by rw [h0], ⟨rfl, by omega, h.room, fun hn => by omega⟩⟩
  · refine ⟨_, cap, rfl, ⟨rfl, hn, h.room, fun h0 => ⟨g, 0, rfl, (Array.getElem?_eq_some_iff.1 hh).1, fun i x hi j u hu => ?_⟩⟩⟩
    have hj : j < sz := by rw [← E.len x]; exact (List.getElem?_eq_some_iff.1 hu).1
    have hil := (List.getElem?_eq_some_iff.1 hi).1
    have hle : (i + 1) * sz ≤ xs.length * sz := Nat.mul_le_mul_right _ hil
    rw [Nat.succ_mul] at hle
    rw [Nat.zero_add, World.ownsRow.cellAt h.row _ (by omega), flat_at E _ _ _ hj, hi]
    exact hu
theorem Own.move (h : Own enc sz bytes e w v xs) (hm : ∀ k, v.ownBlock = some k → w1.heap[k]? = w.heap[k]?) : Own enc sz bytes e w1 v xs := by
  refine ⟨⟨h.row.1, ?_⟩, h.room⟩
  rcases h.row.2 with h2 | ⟨g, cap, cur, rfl, hg, hh, r⟩
  · exact .inl h2
  · exact .inr ⟨g, cap, cur, rfl, hg, (hm g rfl).trans hh, r⟩
theorem Own.b (h : Own enc sz bytes e w v xs) (hb : Below w.heap.size w w1) : Own enc sz bytes e w1 v xs := h.move fun k hk => hb.block k (h.row.lt k hk).2
theorem Own.a (h : Own enc sz bytes e w v xs) (o : Obj) : Own enc sz bytes e (w.alloc o) v xs := h.b (b_alloc (Below.refl _ _) o)
theorem Own.d (h : Own enc sz bytes e w v xs) : Own enc sz bytes e w.drew v xs := ⟨h.row, h.room⟩
theorem Own.dN (h : Own enc sz bytes e w v xs) (n : Nat) : Own enc sz bytes e (w.drewN n) v xs := ⟨h.row, h.room⟩
theorem Own.s (h : Own enc sz bytes e w v xs) {p : Addr} (u : Value) (hne : ∀ k, v.ownBlock = some k → k ≠ p.block) : Own enc sz bytes e (w.setCell p u) v xs := h.move fun k hk => Below.heap_setCell w p u k (hne k hk)
theorem Own.grown (h : Own enc sz bytes e w v xs) {row : Option Nat} (hg : w.grownBy w1 row) (hne : v.ownBlock = none ∨ v.ownBlock ≠ row) : Own enc sz bytes e w1 v xs := ⟨h.row.kept hg hne, h.room⟩
end
theorem ownsRow_setCells {base e size g n cap : Nat} (seg : List Value) : ∀ {w : World} {xs : List Value} (o : Nat), w.ownsRow base e size (.slice (some ⟨g, 0, none⟩) n cap) n xs →
    (w.setCells g o seg).ownsRow base e size (.slice (some ⟨g, 0, none⟩) n cap) n (setMany xs o seg) ∧ w.grownBy (w.setCells g o seg) (some g) := by
  induction seg with
  | nil => intro w xs o h; exact ⟨h, World.grownBy.refl _ _⟩
  | cons s r ih =>
    intro w xs o h
    obtain ⟨h1, h2⟩ := h.stored o s
    obtain ⟨h3, h4⟩ := ih (o + 1) h1
    exact ⟨h3, World.grownBy.trans h2 h4⟩

section
variable {P : Program} {ops : Array Oper} {rest : List Oper} {o : Oper} {a : Act} {Q : Exit → Act → World → Prop} {W : World} {α : Type} {enc : α → List Value} {sz bytes e : Nat}
/-- out[i] = x, out[i].f = y: the cells from j on of element k are written. -/
theorem wp_store (T p : Nat) (x : Operand) (hN : o.dst = none) (hgd : o.guard = none) (ho : o.op = .store T (.tmp p) x) (E : EncOk enc sz) {g n cap off : Nat} {xs : List α} (hn : xs.length = n) (k j : Nat) (x' d : α) (u : Value) (seg : List Value)
    (ha : a.eval (.tmp p) = .pointer (some ⟨g, off, none⟩)) (hoff : off = k * sz + j) (hx : a.eval x = u) (hu : u.cells.toList = seg) (ht : (P.info? T).map (·.size) = some seg.length) (h1 : ∀ q ∈ seg, q.oneCell' = true)
    (HO : Own enc sz bytes e W (.slice (some ⟨g, 0, none⟩) n cap) xs) (hk : k < n) (hj : j + seg.length ≤ sz) (hx' : enc x' = (enc (xs.getD k d)).take j ++ seg ++ (enc (xs.getD k d)).drop (j + seg.length))
    (h : ∀ w1, Own enc sz bytes e w1 (.slice (some ⟨g, 0, none⟩) n cap) (xs.set k x') → W.grownBy w1 (some g) → wpList P ops Q rest a w1) : wpList P ops Q (o :: rest) a W := by
  subst hn
  subst hoff
  obtain ⟨hrow, hg⟩ := ownsRow_setCells seg (k * sz + j) HO.row
  rw [flat_setMany E xs k j d x' seg hk hj hx'] at hrow
  have hO : Own enc sz bytes e (W.setCells g (k * sz + j) seg) (.slice (some ⟨g, 0, none⟩) xs.length cap) (xs.set k x') := ⟨by rw [List.length_set]; exact hrow, by rw [List.length_set]; exact HO.room⟩
  refine wpList_plain hgd fun K hK => ?_
  have hrun : (Instr.storeAt T (.pointer (some ⟨g, k * sz + j, none⟩)) u).run P W = .ok () (W.setCells g (k * sz + j) seg) := by
    rcases HO.row.2 with ⟨hv, _⟩ | ⟨g', cap', cur, hv, hb, hh, hnc, hcm, hcs, _⟩
    · cases hv
    cases hv
    obtain ⟨i, hi, hsz⟩ := Option.map_eq_some_iff.1 ht
    have hc : u.cells.size = i.size := by rw [hsz, ← hu, Array.length_toList]
    have h2 : k * sz + sz ≤ xs.length * sz := by rw [← Nat.succ_mul]; exact Nat.mul_le_mul_right _ hk
    have h3 : xs.length * sz ≤ cap * sz := Nat.mul_le_mul_right _ hnc
    have hst := run_storeCells_cells (P := P) g (k * sz + j) seg 0 W (fun q hq => by rw [cell_of_row W g _ cur e (0, 0) hh]; simp; omega) (fun q _ => by simp [World.frozen?, hh]) h1
    simp only [Nat.add_zero] at hst
    simp [Instr.storeAt, Instr.sureAddr, storeVar, sizeOf, typeInfo, hi, hc, hu, hst]
  unfold Oper.wp execOp
  simp only [ho, ha, hx, Sem.run_bind, Sem.run_pure, Result.andThen_ok, hrun]
  show K (a.put o.dst undef) _
  rw [hN]
  exact hK a _ (h _ hO hg)
theorem gate_st (T p : Nat) {x : Operand} (_ho : o.op = .store T (.tmp p) x) (h : wpList P ops Q (o :: rest) a W) : wpList P ops Q (o :: rest) a W := h
/-- out[i] = x: the whole element. -/
theorem wp_put (T p : Nat) (x : Operand) (hN : o.dst = none) (hgd : o.guard = none) (ho : o.op = .store T (.tmp p) x) (E : EncOk enc sz) {g n cap off : Nat} {xs : List α} (hn : xs.length = n) (k : Nat) (x' : α) (u : Value)
    (ha : a.eval (.tmp p) = .pointer (some ⟨g, off, none⟩)) (hoff : off = k * sz) (hx : a.eval x = u) (hu : u.cells.toList = enc x') (ht : (P.info? T).map (·.size) = some sz)
    (HO : Own enc sz bytes e W (.slice (some ⟨g, 0, none⟩) n cap) xs) (hk : k < n)
    (h : ∀ w1, Own enc sz bytes e w1 (.slice (some ⟨g, 0, none⟩) n cap) (xs.set k x') → W.grownBy w1 (some g) → wpList P ops Q rest a w1) : wpList P ops Q (o :: rest) a W :=
  wp_store T p x hN hgd ho E hn k 0 x' x' u (enc x') ha (by rw [hoff]; rfl) hx hu (by rw [E.len]; exact ht) (E.one x') HO hk (by rw [E.len]; omega)
    (by rw [List.take_zero, List.nil_append, List.drop_eq_nil_of_le (by rw [E.len, E.len]; omega), List.append_nil]) h
/-- make([]T, n) -/
theorem wp_make (hgd : o.guard = none) (l c : Operand) (t : TypeId) (ho : o.op = .makeSlice t l c) (E : EncOk enc sz) (z : Value) (x0 : α) (ht : P.underlying t = some (.slice e)) (hinfo : (P.info? e).map (fun i => (i.zero, i.size, i.bytes)) = some (some z, sz, bytes)) (hz : z.cells.toList = enc x0)
    (n : Nat) (hl : a.eval l = .int .i64 (n : Int)) (hc : a.eval c = .int .i64 (n : Int)) (hr : n * bytes ≤ 140737488351232) (hb0 : 0 < bytes)
    (h : ∀ g w1, g = W.heap.size → Own enc sz bytes e w1 (.slice (some ⟨g, 0, none⟩) n n) (List.replicate n x0) → Below W.heap.size W w1 → g < w1.heap.size → wpList P ops Q rest (a.put o.dst (.slice (some ⟨g, 0, none⟩) n n)) w1) : wpList P ops Q (o :: rest) a W := by
  obtain ⟨i, hi, h1, h2, h3⟩ := info_parts hinfo
  have hn : n ≤ 140737488351232 := Nat.le_trans (Nat.le_mul_of_pos_right _ hb0) hr
  refine wpList_make_full W hgd l c t ho 0 e i z sz ht hi h1 h2 .i64 .i64 n n n hl hc rfl rfl (by rw [h3, Nat.mul_comm]; omega) (by simp only [maxLen]; omega) (Nat.zero_le _) ?_
  intro w1 hrow hg
  have hzz : (madeCells z.cells (n * sz)).toList = (List.replicate n x0).flatMap enc := by
    have hzl : z.cells.size = sz := by rw [← Array.length_toList, hz, E.len]
    apply List.ext_getElem?
    intro j
    rw [flat_get E]
    have hp := E.pos
    by_cases hj : j < n * sz
    · have hq : j / sz < n := Nat.div_lt_of_lt_mul (by rw [Nat.mul_comm]; exact hj)
      have hm := Nat.mod_lt j hp
      rw [List.getElem?_replicate, if_pos hq]
      simp only [Option.bind_some]
      rw [← hz]
      simp [madeCells, hj, hzl, hm]
    · have hq : ¬ j / sz < n := fun h => hj (by have := (Nat.div_lt_iff_lt_mul hp).1 h; omega)
      rw [List.getElem?_replicate, if_neg hq]
      simp [madeCells]; omega
  rw [hzz] at hrow
  have hO : Own enc sz bytes e w1 (.slice (some ⟨W.heap.size, 0, none⟩) n n) (List.replicate n x0) := ⟨by rw [List.length_replicate]; exact hrow, by rw [List.length_replicate]; exact hr⟩
  refine h _ w1 rfl hO ⟨hg.os, hg.tape, hg.output, hg.size, fun k hk => hg.block k hk (by simp)⟩ ?_
  exact (hrow.lt _ rfl).2
end
/-- a call has made a row: its value, its memory -/
def Mk {α : Type} (enc : α → List Value) (sz bytes e : Nat) (w : World) (xs : List α) (en : Ending) (w' : World) : Prop := ∃ v, en = .returned v ∧ Own enc sz bytes e w' v xs ∧ (∀ k, v.ownBlock = some k → w.heap.size ≤ k) ∧ Below w.heap.size w w'
theorem b_grown {w W w1 : World} {g : Nat} (h : Below w.heap.size w W) (hg : W.grownBy w1 (some g)) (hge : w.heap.size ≤ g) : Below w.heap.size w w1 := h.grown hg h.size (fun k hk => by cases hk; exact hge)
/-- the first k are there, the others are zero -/
def upto {α : Type} (d : α) (xs : List α) (k : Nat) : List α := xs.take k ++ List.replicate (xs.length - k) d
theorem upto_len {α : Type} (d : α) (xs : List α) (k : Nat) (hk : k ≤ xs.length) : (upto d xs k).length = xs.length := by simp [upto]; omega
theorem upto_zero {α : Type} (d : α) (xs : List α) : upto d xs 0 = List.replicate xs.length d := by simp [upto]
theorem upto_all {α : Type} (d : α) (xs : List α) : upto d xs xs.length = xs := by simp [upto]
theorem upto_set {α : Type} (d : α) (xs : List α) (k : Nat) (hk : k < xs.length) : (upto d xs k).set k (xs.getD k d) = upto d xs (k + 1) := by
  have hd : xs[k]? = some (xs.getD k d) := by rw [List.getD_eq_getElem?_getD, List.getElem?_eq_getElem hk]; rfl
  unfold upto
  apply List.ext_getElem?
  intro i
  rw [List.getElem?_set]
  by_cases hki : k = i
  · subst hki
    rw [if_pos rfl, if_pos (by simp; omega), List.getElem?_append_left (by simp; omega), List.getElem?_take, if_pos (by omega), hd]
  · rw [if_neg hki]
    by_cases hlt : i < k
    · rw [List.getElem?_append_left (by simp; omega), List.getElem?_append_left (by simp; omega), List.getElem?_take, List.getElem?_take, if_pos hlt, if_pos (by omega)]
    · rw [List.getElem?_append_right (by simp; omega), List.getElem?_append_right (by simp; omega), List.getElem?_replicate, List.getElem?_replicate]
      simp only [List.length_take]
      by_cases h2 : i < xs.length
      · rw [if_pos (by omega), if_pos (by omega)]
      · rw [if_neg (by omega), if_neg (by omega)]
theorem stepE : EncOk stepC 7 := ⟨fun _ => rfl, fun x u hu => by simp [stepC] at hu; rcases hu with h | h | h | h | h | h | h <;> subst h <;> rfl, by decide⟩
theorem boxE : EncOk boxC 6 := ⟨fun _ => rfl, fun x u hu => by simp [boxC] at hu; rcases hu with h | h | h | h | h | h <;> subst h <;> rfl, by decide⟩
def intC (x : Int) : List Value := [.int .i64 x]
theorem intE : EncOk intC 1 := ⟨fun _ => rfl, fun x u hu => by simp [intC] at hu; subst hu; rfl, by decide⟩
end Go.Proofs.Ytkpnjnkfbhomgaa
