/- Rows of elements: one element is changed in place. -/
import Derived.Test.YtkpnjnkfbhomgaaJ5
set_option linter.unusedVariables false
set_option linter.unusedSimpArgs false
namespace Go.Proofs.Ytkpnjnkfbhomgaa
open Go.RowKit
section
variable {α : Type} {enc : α → List Value} {sz bytes e g n c : Nat} {w w' : World} {xs : List α} {x x' : α}
theorem Own.startE {v : Value} (h : Own enc sz bytes e w v xs) (k : Nat) (d : α) (hk : k < xs.length) : Own enc sz bytes e w v (xs.set k (xs.getD k d)) := by
  rw [show xs.set k (xs.getD k d) = xs by
    rw [List.getD_eq_getElem?_getD, List.getElem?_eq_getElem hk]; simp]
  exact h
/-- one cell of an element is written -/
theorem Own.cellE {k j : Nat} {v : Value} (h : Own enc sz bytes e w (.slice (some ⟨g, 0, none⟩) n c) (xs.set k x)) (x' : α) (E : EncOk enc sz) (hn : xs.length = n) (hk : k < n) (hj : j < sz) (hx : enc x' = (enc x).set j v) :
    Own enc sz bytes e (w.setCell ⟨g, k * sz + j, none⟩ v) (.slice (some ⟨g, 0, none⟩) n c) (xs.set k x') := by
  subst hn
  have hl : (xs.set k x).length = xs.length := List.length_set
  have hrow := h.row
  rw [hl] at hrow
  obtain ⟨h1, -⟩ := hrow.stored (k * sz + j) v
  have he : ((xs.set k x).flatMap enc).set (k * sz + j) v = (xs.set k x').flatMap enc := by
    have := flat_setMany E (xs.set k x) k j x x' [v] (by rw [hl]; exact hk) (by simp; omega) (by
      have hg : (xs.set k x).getD k x = x := by rw [List.getD_eq_getElem?_getD, List.getElem?_set_self hk]; rfl
      rw [hg, hx]
      have hlen := E.len x
      apply List.ext_getElem?
      intro i
      rw [List.getElem?_set]
      by_cases h1 : i < j
      · rw [if_neg (by omega), List.append_assoc, List.getElem?_append_left (by rw [List.length_take]; omega), List.getElem?_take, if_pos h1]
      · by_cases h2 : j = i
        · subst h2
          rw [if_pos rfl, if_pos (by omega), List.append_assoc, List.getElem?_append_right (by rw [List.length_take]; omega), List.length_take, Nat.min_eq_left (by omega), Nat.sub_self]; rfl
        · rw [if_neg h2, List.getElem?_append_right (by rw [List.length_append, List.length_take]; simp; omega), List.length_append, List.length_take, Nat.min_eq_left (by omega), List.getElem?_drop]
          congr 1; simp; omega)
    rw [List.set_set] at this
    rw [← this]; rfl
  rw [he] at h1
  exact ⟨by rw [List.length_set]; exact h1, by rw [List.length_set]; have := h.room; rw [hl] at this; exact this⟩
/-- the cells of an element that was set -/
theorem Own.cellAt {k : Nat} (h : Own enc sz bytes e w (.slice (some ⟨g, 0, none⟩) n c) (xs.set k x)) (E : EncOk enc sz) (hn : xs.length = n) (hk : k < n) (i : Nat) (v : Value) (hv : (enc x)[i]? = some v) : w.cell? ⟨g, k * sz + i, none⟩ = some v := by
  subst hn
  have hR := h.rd_at E (by rw [List.length_set])
  obtain ⟨b, off, e1, _, hc⟩ := hR.at_ (Nat.lt_of_le_of_lt (Nat.zero_le _) hk)
  cases e1
  have := hc k x (by rw [List.getElem?_set_self hk]) i v hv
  rwa [Nat.zero_add] at this
/-- the same cells -/
theorem Own.same {v : Value} {ys : List α} (h : Own enc sz bytes e w v xs) (hs : ∀ i : Nat, (ys[i]?).map enc = (xs[i]?).map enc) : Own enc sz bytes e w v ys := by
  have hl : ys.length = xs.length := by
    rcases Nat.lt_trichotomy ys.length xs.length with h1 | h1 | h1
    · have := hs ys.length; simp [h1] at this
    · exact h1
    · have := hs xs.length; simp [h1] at this
  have hf : ys.flatMap enc = xs.flatMap enc := by
    rw [List.flatMap_def, List.flatMap_def]
    congr 1
    apply List.ext_getElem?
    intro i
    rw [List.getElem?_map, List.getElem?_map, hs]
  exact ⟨by rw [hf, hl]; exact h.row, by rw [hl]; exact h.room⟩
end
section
variable {α : Type} {L : El α} {w w' : World} {A : Option Addr} {c : Nat} {us : List α} {v : α}
/-- an element is another one, in the same blocks -/
theorem OwnR.set (h : OwnR L w A c us) (k : Nat) (hk : k < us.length) (d : α) (hfp : ∀ j, L.fp v j ↔ L.fp (us.getD k d) j) (hrow : Own L.enc L.sz L.bytes L.ty w' (.slice A us.length c) (us.set k v)) (hv : L.own w' v)
    (hg : GrownS w w' (fun j => Value.ownBlock (.slice A us.length c) = some j ∨ L.fp (us.getD k d) j)) : OwnR L w' A c (us.set k v) := by
  have hd : us.getD k d = us[k] := by rw [List.getD_eq_getElem?_getD, List.getElem?_eq_getElem hk]; rfl
  rw [hd] at hfp hg
  have hl : (us.set k v).length = us.length := List.length_set
  have hpw := List.pairwise_iff_getElem.1 h.dis
  have hdk : ∀ i (hi : i < us.length), i ≠ k → ∀ j, L.fp us[i] j → ¬ L.fp us[k] j := fun i hi hne j h1 h2 => by
    rcases Nat.lt_or_gt_of_ne hne with h9 | h9
    · exact hpw i k hi hk h9 j h1 h2
    · exact hpw k i hk hi h9 j h2 h1
  have hel : ∀ i (hi : i < us.length), i ≠ k → L.own w' us[i] := fun i hi hne => El.own_gS (h.el _ (List.getElem_mem hi)) hg (fun j hj h2 => h2.elim (h.ne _ (List.getElem_mem hi) j hj) (hdk i hi hne j hj))
  have hfe : ∀ i (hi : i < us.length) j, L.fp ((us.set k v)[i]'(by rw [hl]; exact hi)) j → L.fp us[i] j := fun i hi j hj => by
    rw [List.getElem_set] at hj
    split at hj
    · rename_i e; subst e; exact (hfp j).1 hj
    · exact hj
  refine ⟨by rw [hl]; exact hrow, fun x hx => ?_, fun x hx j hj => ?_, ?_⟩
  · obtain ⟨i, hi, rfl⟩ := List.getElem_of_mem hx
    rw [List.getElem_set]
    split
    · exact hv
    · rename_i e; exact hel i (by rw [hl] at hi; exact hi) (fun h9 => e h9.symm)
  · obtain ⟨i, hi, rfl⟩ := List.getElem_of_mem hx
    rw [hl] at hi
    rw [hl]
    exact h.ne _ (List.getElem_mem hi) j (hfe i hi j hj)
  · rw [List.pairwise_iff_getElem]
    intro i j hi hj hij m h1 h2
    rw [hl] at hi hj
    exact hpw i j hi hj hij m (hfe i hi m h1) (hfe j hj m h2)
theorem FpR.set {k : Nat} {d : α} (hk : k < us.length) (hfp : ∀ j, L.fp v j ↔ L.fp (us.getD k d) j) (j : Nat) : FpR L A c (us.set k v) j ↔ FpR L A c us j := by
  have hd : us.getD k d = us[k] := by rw [List.getD_eq_getElem?_getD, List.getElem?_eq_getElem hk]; rfl
  rw [hd] at hfp
  have hl : (us.set k v).length = us.length := List.length_set
  unfold FpR
  rw [hl]
  constructor
  · rintro (h | ⟨u, hu, h⟩)
    · exact .inl h
    · obtain ⟨i, hi, rfl⟩ := List.getElem_of_mem hu
      rw [List.getElem_set] at h
      split at h
      · exact .inr ⟨us[k], List.getElem_mem hk, (hfp j).1 h⟩
      · exact .inr ⟨_, List.getElem_mem (by rw [hl] at hi; exact hi), h⟩
  · rintro (h | ⟨u, hu, h⟩)
    · exact .inl h
    · obtain ⟨i, hi, rfl⟩ := List.getElem_of_mem hu
      by_cases e : k = i
      · subst e
        exact .inr ⟨v, List.mem_iff_getElem.2 ⟨k, by rw [hl]; exact hi, by simp⟩, (hfp j).2 h⟩
      · exact .inr ⟨us[i], List.mem_iff_getElem.2 ⟨i, by rw [hl]; exact hi, by rw [List.getElem_set, if_neg e]⟩, h⟩
theorem FpR.congr {vs : List α} (hl : us.length = vs.length) (h : ∀ k (h1 : k < us.length) (h2 : k < vs.length) j, L.fp us[k] j ↔ L.fp vs[k] j) (j : Nat) : FpR L A c us j ↔ FpR L A c vs j := by
  unfold FpR
  rw [hl]
  constructor
  · rintro (h1 | ⟨u, hu, h1⟩)
    · exact .inl h1
    · obtain ⟨i, hi, rfl⟩ := List.getElem_of_mem hu
      exact .inr ⟨vs[i]'(by omega), List.getElem_mem _, (h i hi (by omega) j).1 h1⟩
  · rintro (h1 | ⟨u, hu, h1⟩)
    · exact .inl h1
    · obtain ⟨i, hi, rfl⟩ := List.getElem_of_mem hu
      exact .inr ⟨us[i]'(by omega), List.getElem_mem _, (h i (by omega) hi j).2 h1⟩
end
theorem own_tab {e n c : Nat} {A : Option Addr} {w : World} {f : Nat → LL.Step} (h : Own stepC 7 56 e w (.slice A n c) (LL.tab n f)) : Own stepC 7 56 e w (.slice A (LL.tab n f).length c) (LL.tab n f) := by rw [LL.tab_len]; exact h
theorem own_tabI {e n c : Nat} {A : Option Addr} {w : World} {f : Nat → Int} (h : Own intC 1 8 e w (.slice A n c) (LL.tab n f)) : Own intC 1 8 e w (.slice A (LL.tab n f).length c) (LL.tab n f) := by rw [LL.tab_len]; exact h
end Go.Proofs.Ytkpnjnkfbhomgaa
