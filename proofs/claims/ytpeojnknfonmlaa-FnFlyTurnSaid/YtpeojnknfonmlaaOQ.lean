/- Opening the argument of a law: a row of bytes. -/
import Derived.Test.YtpeojnknfonmlaaOR
import Derived.Test.YtpeojnknfonmlaaRA
import Derived.Deep.Slices
set_option linter.unusedVariables false
set_option linter.unusedSimpArgs false
namespace Go.Proofs.Ytpeojnknfonmlaa
open Go.RowKit Go.ChangeShapes Go.WideShapes
section
variable {H : Type} {enc : TypeId × Value → H} {P : Program} {w : World} {base : Nat} {spare : Nat → Bool} {held : Bool}
theorem opn_sliceQ2 {α : Type} {enc' : α → List Value} (sz bytes : Nat) {T E : TypeId} {fuel : Nat} {cs : List Value} {d : DataW H} {ps : List MemPlace} (hT : P.underlying T = some (.slice E)) (hc : P.cellsOf E = sz) (hb : P.bytesOf E = bytes) (h0 : 0 < sz) (dflt : α) (Q : α → Prop)
    (h : DataW.trod enc P w base spare held fuel T cs = some (d, ps)) (hw : Wt P T d)
    (hel : ∀ n ci d' ps', DataW.trod enc P w base spare held n E ci = some (d', ps') → Wt P E d' → ∃ x, ci = enc' x ∧ Q x) (hlen : ∀ x, (enc' x).length = sz) :
    ∃ A c xs, cs = [.slice A xs.length c] ∧ Rd enc' sz bytes w A xs.length c xs ∧ ∀ k, k < xs.length → Q (xs.getD k dflt) := by
  rcases Deep.open_slice hT h with ⟨rfl, _⟩ | ⟨a, len, cap, m, n, D, Pl, rfl, _, hl, hm, hmm, hx, hi⟩
  · exact ⟨none, 0, [], rfl, ⟨rfl, by simp, by simp, fun h => absurd h (by simp)⟩, fun k hk => absurd hk (by simp)⟩
  · cases hx
    have hlm : len ≤ m := by rw [hmm]; split <;> omega
    have W1 : m * bytes ≤ reachBytes := by
      have := hw ((((List.range len).map D).length + ((List.range (m - len)).map fun j => D (len + j)).length) * P.bytesOf E) (by simp only [DataW.weights, hT]; exact List.mem_cons_self ..)
      rw [hb] at this
      simp only [List.length_map, List.length_range] at this
      rwa [show len + (m - len) = m by omega] at this
    have key : ∀ i, i < len → ∃ x, w.cells? base (a.add (i * sz)) sz = some (enc' x) ∧ Q x := by
      intro i hil
      obtain ⟨ci, h1, h2⟩ := hi i (by omega)
      rw [hc] at h1
      obtain ⟨x, rfl, hq⟩ := hel n ci (D i) (Pl i) h2 (fun k hk => hw k (by
        simp only [DataW.weights, hT]
        refine List.mem_cons_of_mem _ (List.mem_append_left _ ?_)
        have : ∀ (l : List (DataW H)) (y : DataW H), y ∈ l → ∀ k ∈ y.weights P E, k ∈ DataW.weightsAll P E l := by
          intro l
          induction l with
          | nil => intro y hy; cases hy
          | cons z l ih =>
            intro y hy k hk
            simp only [DataW.weightsAll, List.mem_append]
            rcases List.mem_cons.1 hy with rfl | hy
            · exact .inl hk
            · exact .inr (ih y hy k hk)
        exact this _ (D i) (List.mem_map.2 ⟨i, List.mem_range.2 hil, rfl⟩) k hk))
      exact ⟨x, h1, hq⟩
    have : Inhabited α := ⟨dflt⟩
    obtain ⟨f, hf⟩ := Deep.choose_lt key
    refine ⟨some a, cap, (List.range len).map f, by simp, ⟨rfl, by simpa using hl, ?_, fun hn => ?_⟩, fun k hk => ?_⟩
    · simp only [List.length_map, List.length_range]
      exact Nat.le_trans (Nat.mul_le_mul_right _ hlm) W1
    · have hn' : 0 < len := by simpa using hn
      obtain ⟨b, off, spot⟩ := a
      have c00 := (World.cells?_some (hf 0 hn').1).2.2 0 h0
      have hspot : spot = none := by
        have l0 := hlen (f 0)
        rw [List.getElem?_eq_getElem (by omega)] at c00
        simpa [Addr.add] using World.cell?_spot c00
      subst hspot
      have hlt : b < w.heap.size := by
        have l0 := hlen (f 0)
        rw [List.getElem?_eq_getElem (by omega)] at c00
        have := World.block_lt_of_cell? w _ c00
        simpa [Addr.add] using this
      refine ⟨b, off, rfl, hlt, fun i x hx j u hu => ?_⟩
      have hil : i < len := by
        have := (List.getElem?_eq_some_iff.1 hx).1
        simpa using this
      have ex : x = f i := by
        rw [List.getElem?_map, List.getElem?_range hil] at hx
        simpa using hx.symm
      subst ex
      have hj : j < sz := by rw [← hlen (f i)]; exact (List.getElem?_eq_some_iff.1 hu).1
      have := (World.cells?_some (hf i hil).1).2.2 j hj
      rw [Deep.add_add, Go.WideShapes.add_plain] at this
      rw [Nat.add_assoc, this]
      exact hu
    · have hk' : k < len := by simpa using hk
      have e : ((List.range len).map f).getD k dflt = f k := by rw [List.getD_eq_getElem?_getD, List.getElem?_map, List.getElem?_range hk']; rfl
      rw [e]
      exact (hf k hk').2
end
section
variable {H : Type} {enc : TypeId × Value → H} {w : World} {base : Nat} {spare : Nat → Bool} {held : Bool} {fuel : Nat} {cs : List Value} {d : DataW H} {ps : List MemPlace}
theorem opn_bytes (h : DataW.trod enc Try.prog w base spare held fuel 22 cs = some (d, ps)) (hw : Wt Try.prog 22 d) : ∃ A c xs, cs = [.slice A xs.length c] ∧ Rd u8C 1 1 w A xs.length c xs ∧ ∀ k, 0 ≤ LL.nthI xs k ∧ LL.nthI xs k ≤ 255 := by
  obtain ⟨A, c, xs, h1, h2, h3⟩ := opn_sliceQ2 (enc' := u8C) 1 1 Try.underlying22 (by kernel_rfl) (by kernel_rfl) (by decide) 0 (fun x => 0 ≤ x ∧ x ≤ 255) h hw (fun n ci d' ps' h' hw' => by obtain ⟨a, e, hwf⟩ := opn_int Try.underlying5 h'; exact ⟨a, e, bounds_u8 hwf⟩) (fun _ => rfl)
  refine ⟨A, c, xs, h1, h2, fun k => ?_⟩
  by_cases hk : k < xs.length
  · exact h3 k hk
  · unfold LL.nthI; rw [List.getD_eq_getElem?_getD, List.getElem?_eq_none (by omega)]; simp
end
end Go.Proofs.Ytpeojnknfonmlaa
