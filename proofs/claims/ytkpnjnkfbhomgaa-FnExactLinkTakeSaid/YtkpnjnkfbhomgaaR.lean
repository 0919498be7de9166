/- Struct results: cells that lie in a block of the call's own. -/
import Derived.Test.YtkpnjnkfbhomgaaW
import Derived.Laws.Cells
import Derived.Laws.ResultCell
set_option linter.unusedVariables false
set_option linter.unusedSimpArgs false
namespace Go.Proofs.Ytkpnjnkfbhomgaa
open Go.RowKit
/-- from cell o of block g on the cells cs lie -/
def CellsAt (w : World) (g : Nat) : Nat → List Value → Prop
  | _, [] => True
  | o, c :: cs => w.cell? ⟨g, o, none⟩ = some c ∧ CellsAt w g (o + 1) cs
theorem CellsAt.get {w : World} {g : Nat} : ∀ {cs : List Value} {o : Nat}, CellsAt w g o cs → ∀ j v, cs[j]? = some v → w.cell? ⟨g, o + j, none⟩ = some v
  | c :: cs, o, h, 0, v, hv => by simp at hv; subst hv; exact h.1
  | c :: cs, o, h, j + 1, v, hv => by
    have := h.2.get j v (by simpa using hv)
    rwa [show o + (j + 1) = o + 1 + j by omega]
theorem CellsAt.mk {w : World} {g : Nat} : ∀ {cs : List Value} {o : Nat}, (∀ j v, cs[j]? = some v → w.cell? ⟨g, o + j, none⟩ = some v) → CellsAt w g o cs
  | [], _, _ => trivial
  | c :: cs, o, h => ⟨h 0 c rfl, CellsAt.mk fun j v hv => by have := h (j + 1) v (by simpa using hv); rwa [show o + (j + 1) = o + 1 + j by omega] at this⟩
theorem addr_add (g o j : Nat) : (⟨g, o, none⟩ : Addr).add j = ⟨g, o + j, none⟩ := by unfold Addr.add; split <;> simp_all
section
variable {P : Program} {w : World}
theorem run_loadVar_cells {g : Nat} {ty : TypeId} {cs : List Value} {d : TypeDesc} (hc : CellsAt w g 0 cs) (hu : P.underlying ty = some d) (hd : (match d with | .struct _ | .array _ _ => true | _ => false) = true)
    (hi : (P.info? ty).map (·.size) = some cs.length) : (loadVar ty ⟨g, 0, none⟩).run P w = .ok (.agg cs.toArray) w := by
  have hl := run_loadCells_list (P := P) (w := w) ⟨g, 0, none⟩ cs (fun j v hv => by have := hc.get j v hv; rw [Nat.zero_add] at this; rw [addr_add]; simpa using this)
  obtain ⟨i, hi1, hi2⟩ := Option.map_eq_some_iff.1 hi
  have hagg : (isAgg ty).run P w = .ok true w := by
    unfold isAgg
    rw [Sem.run_bind, run_underlying hu w]
    cases d <;> simp_all
  simp [loadVar, Sem.run_bind, hagg, sizeOf, typeInfo, hi1, hi2, hl]
theorem res_c {fn : Func} {p : Tmp} {ty : TypeId} (h : fn.results = #[.cell p ty]) (tmps : Array Value) {g : Nat} (cs : List Value) (hp : tmps.getD p undef = .pointer (some ⟨g, 0, none⟩)) (d : TypeDesc) (hu : P.underlying ty = some d)
    (hd : (match d with | .struct _ | .array _ _ => true | _ => false) = true) (hi : (P.info? ty).map (·.size) = some cs.length) (hc : CellsAt w g 0 cs) : (results fn tmps).run P w = .ok (.agg cs.toArray) w := by
  have hp' : tmps[p]?.getD undef = .pointer (some ⟨g, 0, none⟩) := by simpa using hp
  simp [results, h, hp', asAddr, run_loadVar_cells hc hu hd hi]
theorem res_ct {fn : Func} {p u : Tmp} {ty : TypeId} (h : fn.results = #[.cell p ty, .tmp u]) (tmps : Array Value) {g : Nat} (cs : List Value) (hp : tmps.getD p undef = .pointer (some ⟨g, 0, none⟩)) (v : Value) (hv : tmps.getD u undef = v) (d : TypeDesc) (hu : P.underlying ty = some d)
    (hd : (match d with | .struct _ | .array _ _ => true | _ => false) = true) (hi : (P.info? ty).map (·.size) = some cs.length) (hc : CellsAt w g 0 cs) : (results fn tmps).run P w = .ok (.tuple #[.agg cs.toArray, v]) w := by
  have hp' : tmps[p]?.getD undef = .pointer (some ⟨g, 0, none⟩) := by simpa using hp
  have hv' : tmps[u]?.getD undef = v := by simpa using hv
  simp [results, h, hp', hv', asAddr, run_loadVar_cells hc hu hd hi]
theorem res_cct {fn : Func} {p p2 u : Tmp} {ty ty2 : TypeId} (h : fn.results = #[.cell p ty, .cell p2 ty2, .tmp u]) (tmps : Array Value) {g g2 : Nat} (cs cs2 : List Value) (hp : tmps.getD p undef = .pointer (some ⟨g, 0, none⟩)) (hp2 : tmps.getD p2 undef = .pointer (some ⟨g2, 0, none⟩))
    (v : Value) (hv : tmps.getD u undef = v) (d d2 : TypeDesc) (hu : P.underlying ty = some d) (hu2 : P.underlying ty2 = some d2)
    (hd : (match d with | .struct _ | .array _ _ => true | _ => false) = true) (hd2 : (match d2 with | .struct _ | .array _ _ => true | _ => false) = true) (hi : (P.info? ty).map (·.size) = some cs.length) (hi2 : (P.info? ty2).map (·.size) = some cs2.length)
    (hc : CellsAt w g 0 cs) (hc2 : CellsAt w g2 0 cs2) : (results fn tmps).run P w = .ok (.tuple #[.agg cs.toArray, .agg cs2.toArray, v]) w := by
  have hp' : tmps[p]?.getD undef = .pointer (some ⟨g, 0, none⟩) := by simpa using hp
  have hp2' : tmps[p2]?.getD undef = .pointer (some ⟨g2, 0, none⟩) := by simpa using hp2
  have hv' : tmps[u]?.getD undef = v := by simpa using hv
  simp [results, h, hp', hp2', hv', asAddr, run_loadVar_cells hc hu hd hi, run_loadVar_cells hc2 hu2 hd2 hi2]
end
section
variable {P : Program} {ops : Array Oper} {rest : List Oper} {o : Oper} {a : Act} {Q : Exit → Act → World → Prop} {W : World} {α : Type} {enc : α → List Value} {sz bytes e : Nat}
theorem Rd.flat {w : World} {b off n c : Nat} {xs : List α} (h : Rd enc sz bytes w (some ⟨b, off, none⟩) n c xs) (E : EncOk enc sz) (j : Nat) (u : Value) (hu : (xs.flatMap enc)[j]? = some u) : w.cell? ⟨b, off + j, none⟩ = some u := by
  rw [flat_get E] at hu
  obtain ⟨x, hx, hu⟩ := Option.bind_eq_some_iff.1 hu
  have hlt := (List.getElem?_eq_some_iff.1 hx).1
  have hn : 0 < n := by rw [← h.len]; exact Nat.lt_of_le_of_lt (Nat.zero_le _) hlt
  obtain ⟨b', off', e1, _, hc⟩ := h.at_ hn
  cases e1
  have := hc _ x hx _ u hu
  rwa [Nat.add_assoc, Nat.mul_comm, Nat.div_add_mod] at this
/-- append(s, x...): what lies at x is laid behind s. -/
theorem wp_app (hgd : o.guard = none) (s x : Operand) (t : TypeId) (ho : o.op = .call { callee := .builtin .append, args := #[s, x], argTypes := #[t, t] }) (E : EncOk enc sz) (z : Value) (ht : P.underlying t = some (.slice e))
    (hinfo : (P.info? e).map (fun i => (i.zero, i.size, i.bytes)) = some (some z, sz, bytes)) (hz : z.cells.size = sz) (hb0 : 0 < bytes) {v : Value} {xs ys : List α} (hs : a.eval s = v) (HO : Own enc sz bytes e W v xs) {b off m c : Nat} (hx : a.eval x = .slice (some ⟨b, off, none⟩) m c)
    (hR : Rd enc sz bytes W (some ⟨b, off, none⟩) m c ys) (hr : (xs.length + m) * bytes ≤ 140737488351232)
    (h : ∀ v' w1, Own enc sz bytes e w1 v' (xs ++ ys) → W.grownBy w1 v.ownBlock → (v'.ownBlock = v.ownBlock ∨ v'.ownBlock = some W.heap.size) → wpList P ops Q rest (a.put o.dst v') w1) : wpList P ops Q (o :: rest) a W := by
  obtain ⟨i, hi, h1, h2, h3⟩ := info_parts hinfo
  have hn : xs.length + m ≤ 140737488351232 := Nat.le_trans (Nat.le_mul_of_pos_right _ hb0) hr
  have hl := hR.len
  refine wpList_append_own_at W hgd s x t ho 0 e i z sz bytes ht hi h1 h2 h3 hz E.pos v xs.length (xs.flatMap enc) hs HO.row ⟨b, off, none⟩ m c (ys.flatMap enc) hx (by rw [flat_len E, hl]) (fun j u hu => by rw [addr_add]; exact hR.flat E j u hu)
    (fun u hu => by obtain ⟨y, _, hy⟩ := List.mem_flatMap.1 hu; exact E.one y u hy) (by simp only [maxLen]; omega) (by omega) (Nat.zero_le _) ?_
  intro v' w' hrow hg _ hat
  refine h v' w' ⟨?_, ?_⟩ hg hat
  · rw [List.length_append, List.flatMap_append, hl]; exact hrow
  · rw [List.length_append, hl]; exact hr
theorem Rd.one {w : World} {g : Nat} {t : TypeId} {x : α} {cs : Array Value} (h : Blk w g cs t) (hc : cs.toList = enc x) (hb : bytes ≤ 140737488351232) : Rd enc sz bytes w (some ⟨g, 0, none⟩) 1 1 [x] where
  len := rfl
  cap := Nat.le_refl _
  room := by omega
  at_ _ := by
    refine ⟨g, 0, rfl, h.cells.2.2, fun i y hy j u hu => ?_⟩
    match i, hy with
    | 0, hy =>
      simp at hy
      subst hy
      rw [h.cells.1, ← Array.getElem?_toList, hc]
      simpa using hu
end
end Go.Proofs.Ytkpnjnkfbhomgaa
