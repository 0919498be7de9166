/- append onto a row of the call's own, the source nil, empty or not. -/
import Derived.Test.YtkpnjnkfbhomgaaR
set_option linter.unusedVariables false
set_option linter.unusedSimpArgs false
namespace Go.Proofs.Ytkpnjnkfbhomgaa
open Go.RowKit
section
variable {P : Program} {ops : Array Oper} {rest : List Oper} {o : Oper} {a : Act} {Q : Exit → Act → World → Prop} {W : World} {α : Type} {enc : α → List Value} {sz bytes e : Nat}
theorem run_app_nil (base : Nat) (t ty e : TypeId) (i : TypeInfo) (size : Nat) (ht : P.underlying t = some (.slice e)) (hi : P.info? e = some i)
    (v : Value) (n : Nat) (xs : List Value) (hown : W.ownsRow base e size v n xs) (c : Nat) : (Builtin.append_ #[t, t] ty #[v, .slice none 0 c]).run P W = .ok v W := by
  rcases hown.2 with ⟨rfl, rfl⟩ | ⟨g, cap, cur, rfl, _, _, hnc, _⟩
  · simp [Builtin.append_, run_underlying ht, sizeOf, typeInfo, hi, Builtin.lenOf, Builtin.firstCells]
  · simp [Builtin.append_, run_underlying ht, sizeOf, typeInfo, hi, Builtin.lenOf, Builtin.firstCells, hnc, storeCells]
/-- append(s, x...), whatever x's address is -/
theorem wp_appA (hgd : o.guard = none) (s x : Operand) (t : TypeId) (ho : o.op = .call { callee := .builtin .append, args := #[s, x], argTypes := #[t, t] }) (E : EncOk enc sz) (z : Value) (ht : P.underlying t = some (.slice e))
    (hinfo : (P.info? e).map (fun i => (i.zero, i.size, i.bytes)) = some (some z, sz, bytes)) (hz : z.cells.size = sz) (hb0 : 0 < bytes) {v : Value} {xs ys : List α} (hs : a.eval s = v) (HO : Own enc sz bytes e W v xs) {A : Option Addr} {m c : Nat} (hx : a.eval x = .slice A m c)
    (hR : Rd enc sz bytes W A m c ys) (hr : (xs.length + m) * bytes ≤ 140737488351232)
    (h : ∀ v' w1, Own enc sz bytes e w1 v' (xs ++ ys) → W.grownBy w1 v.ownBlock → (v'.ownBlock = v.ownBlock ∨ v'.ownBlock = some W.heap.size) → wpList P ops Q rest (a.put o.dst v') w1) : wpList P ops Q (o :: rest) a W := by
  rcases Nat.eq_zero_or_pos m with h0 | h0
  · subst h0
    obtain rfl : ys = [] := List.eq_nil_of_length_eq_zero hR.len
    have HO' : Own enc sz bytes e W v (xs ++ []) := by rw [List.append_nil]; exact HO
    rcases A with _ | ad
    · refine wpList_plain hgd fun K hK => ?_
      obtain ⟨i, hi, h1, h2, h3⟩ := info_parts hinfo
      unfold Oper.wp execOp
      simp only [ho, resolve, invoke, builtin, Sem.run_bind, Sem.run_pure, Result.andThen_ok, List.map_toArray, List.map_cons, List.map_nil, hs, hx, run_app_nil 0 t o.type e i sz ht hi v _ _ HO.row c]
      exact hK _ _ (h v W HO' (World.grownBy.refl W _) (.inl rfl))
    · obtain ⟨i, hi, h1, h2, h3⟩ := info_parts hinfo
      have hn : xs.length ≤ 140737488351232 := Nat.le_trans (Nat.le_mul_of_pos_right _ hb0) (by simpa using hr)
      refine wpList_append_own_at W hgd s x t ho 0 e i z sz bytes ht hi h1 h2 h3 hz E.pos v xs.length (xs.flatMap enc) hs HO.row ad 0 c [] hx (by simp) (by simp) (by simp) (by simp only [maxLen]; omega) (by simpa using Nat.le_trans hr (by decide)) (Nat.zero_le _) ?_
      intro v' w' hrow hg _ hat
      refine h v' w' ⟨?_, ?_⟩ hg hat
      · simpa using hrow
      · simpa using hr
  · obtain ⟨b, off, rfl, _⟩ := hR.addr h0
    exact wp_app hgd s x t ho E z ht hinfo hz hb0 hs HO hx hR hr h
/-- append([]T{}, x...): only new memory -/
theorem run_app_fresh (t ty : TypeId) (E : EncOk enc sz) (z : Value) (ht : P.underlying t = some (.slice e)) (hinfo : (P.info? e).map (fun i => (i.zero, i.size, i.bytes)) = some (some z, sz, bytes)) (hz : z.cells.size = sz) (hb0 : 0 < bytes)
    {g : Nat} (HO : Own enc sz bytes e W (.slice (some ⟨g, 0, none⟩) 0 0) ([] : List α)) {A : Option Addr} {m c : Nat} {ys : List α} (hR : Rd enc sz bytes W A m c ys) :
    ∃ v' w', (Builtin.append_ #[t, t] ty #[.slice (some ⟨g, 0, none⟩) 0 0, .slice A m c]).run P W = .ok v' w' ∧ Own enc sz bytes e w' v' ys ∧ Below W.heap.size W w' ∧ (v'.ownBlock = some g ∨ v'.ownBlock = some W.heap.size) := by
  obtain ⟨i, hi, h1, h2, h3⟩ := info_parts hinfo
  have hr := hR.room
  rcases Nat.eq_zero_or_pos m with h0 | h0
  · subst h0
    obtain rfl : ys = [] := List.eq_nil_of_length_eq_zero hR.len
    refine ⟨_, W, ?_, HO, Below.refl _ _, .inl rfl⟩
    rcases A with _ | ad
    · exact run_app_nil 0 t ty e i sz ht hi _ _ _ HO.row c
    · simp [Builtin.append_, run_underlying ht, sizeOf, typeInfo, hi, Builtin.lenOf, Builtin.firstCells, loadCells, loadCellsFrom, storeCells]
  · obtain ⟨b, off, rfl, _⟩ := hR.addr h0
    have hl := hR.len
    have hm : m ≤ 140737488351232 := Nat.le_trans (Nat.le_mul_of_pos_right _ hb0) hr
    have hrun := run_append_grow (P := P) W t ty e i z ht hi h1 ⟨g, 0, none⟩ 0 0 [] (by simp) (by simp) ⟨b, off, none⟩ m c (ys.flatMap enc) (by rw [flat_len E, hl, h2]) (fun j u hu => by rw [addr_add]; exact hR.flat E j u hu) (by omega) (by omega) (growslice_fits (by omega) (by rw [h3, Nat.zero_add]; omega))
    simp only [Nat.zero_add] at hrun
    refine ⟨_, _, hrun, ⟨⟨by rw [flat_len E], .inr ⟨W.heap.size, grownCap W m 0 e, _, by rw [hl], Nat.zero_le _, heap_alloc_new W.drew _, by rw [hl]; exact grownCap_ge W m 0 e, grownCap_le_maxLen W m 0 e (by simp only [maxLen]; omega), ?_, ?_⟩⟩, by rw [hl]; exact hr⟩, ⟨rfl, rfl, rfl, by simp, fun k hk => heap_alloc_old W.drew _ hk⟩, .inr rfl⟩
    · have hge := grownCap_ge W m 0 e
      simp only [Array.size_append, List.size_toArray, size_zeroCells, hz, flat_len E, hl, List.length_nil, Nat.zero_add, ← Nat.add_mul]
      congr 1
      omega
    · simp only [Array.toList_append, List.nil_append]
      rw [← flat_len E]
      exact List.take_left
end
end Go.Proofs.Ytkpnjnkfbhomgaa
