/- Opening the arguments of a law: what data of the program's struct types are in memory. -/
import Derived.Test.YtpeojnknfonmlaaJ1
import Derived.Deep.Slices
import Derived.SizedLaws
import Derived.ProofKit
set_option linter.unusedVariables false
set_option linter.unusedSimpArgs false
namespace Go.Proofs.Ytpeojnknfonmlaa
open Go.RowKit Go.ChangeShapes Go.WideShapes

theorem agg_of_cells {v : Value} {c0 c1 : Value} {l : List Value} (h : v.cells.toList = c0 :: c1 :: l) : v = .agg (c0 :: c1 :: l).toArray := by
  cases v <;> simp [Value.cells] at h
  rename_i cs
  rw [← h]

section
variable {H : Type} {enc : TypeId × Value → H} {P : Program} {w : World} {base : Nat} {spare : Nat → Bool} {held : Bool}
/-- no string, slice or map of it takes more than may be reached -/
def Wt (P : Program) (T : TypeId) (d : DataW H) : Prop := ∀ n ∈ d.weights P T, n ≤ reachBytes
theorem wt_of {ts : List TypeId} {ds : List (DataW H)} (h : (DataW.weightsEach P ts ds).all (· ≤ reachBytes) = true) {j : Nat} {t : TypeId} {d : DataW H} (ht : ts[j]? = some t) (hd : ds[j]? = some d) : Wt P t d := fun n hn => by
  have := List.all_eq_true.1 h _ (DataW.weights_mem_each ht hd n hn)
  simpa using this
theorem opn_struct {T : TypeId} {fs : Array Field} {fuel : Nat} {cs : List Value} {d : DataW H} {ps : List MemPlace} (hT : P.underlying T = some (.struct fs)) (h : DataW.trod enc P w base spare held fuel T cs = some (d, ps)) (hw : Wt P T d) :
    cs.length = P.cellsOf T ∧ ∀ (i : Nat) (t off m : Nat), fs[i]?.map (fun f => (f.type, f.offset)) = some (t, off) → P.cellsOf t = m → ∃ n d' ps', DataW.trod enc P w base spare held n t ((cs.drop off).take m) = some (d', ps') ∧ Wt P t d' := by
  obtain ⟨xs, n, _, hx, hl, hlen, hf⟩ := DataW.trod_struct hT h
  cases hx
  refine ⟨hl, fun i t off m hi hm => ?_⟩
  subst hm
  obtain ⟨f, hi2, hto⟩ := Option.map_eq_some_iff.1 hi
  clear hi
  have hi := hi2
  clear hi2
  cases hto
  have hi' : i < xs.length := by rw [hlen]; exact (Array.getElem?_eq_some_iff.1 hi).1
  have e := hf i f hi
  rw [List.getElem?_eq_getElem hi'] at e
  refine ⟨n, xs[i].1, xs[i].2, e, fun m hm => hw m ?_⟩
  simp only [DataW.weights, hT]
  refine DataW.weights_mem_each (j := i) (t := f.type) (d := xs[i].1) ?_ ?_ m hm
  · rw [List.getElem?_map, Array.getElem?_toList, hi]; rfl
  · rw [List.getElem?_map, List.getElem?_eq_getElem hi']; rfl
theorem opn_int {T : TypeId} {k : IntKind} {fuel : Nat} {cs : List Value} {d : DataW H} {ps : List MemPlace} (hT : P.underlying T = some (.int k)) (h : DataW.trod enc P w base spare held fuel T cs = some (d, ps)) : ∃ a, cs = [.int k a] ∧ (Lit.int k a).wf = true := by
  obtain ⟨a, rfl, _, hw⟩ := DataW.trod_int hT h
  exact ⟨a, rfl, hw⟩
theorem opn_bool {T : TypeId} {fuel : Nat} {cs : List Value} {d : DataW H} {ps : List MemPlace} (hT : P.underlying T = some .bool) (h : DataW.trod enc P w base spare held fuel T cs = some (d, ps)) : ∃ a, cs = [.bool a] := by
  cases fuel with
  | zero => simp [DataW.trod] at h
  | succ n =>
    unfold DataW.trod at h
    rw [hT] at h
    split at h <;> simp_all
theorem opn_slice {α : Type} {enc' : α → List Value} (sz bytes : Nat) {T E : TypeId} {fuel : Nat} {cs : List Value} {d : DataW H} {ps : List MemPlace} (hT : P.underlying T = some (.slice E)) (hc : P.cellsOf E = sz) (hb : P.bytesOf E = bytes) (h0 : 0 < sz) (dflt : α)
    (h : DataW.trod enc P w base spare held fuel T cs = some (d, ps)) (hw : Wt P T d)
    (hel : ∀ n ci d' ps', DataW.trod enc P w base spare held n E ci = some (d', ps') → Wt P E d' → ∃ x, ci = enc' x) (hlen : ∀ x, (enc' x).length = sz) :
    ∃ A c xs, cs = [.slice A xs.length c] ∧ Rd enc' sz bytes w A xs.length c xs := by
  rcases Deep.open_slice hT h with ⟨rfl, _⟩ | ⟨a, len, cap, m, n, D, Pl, rfl, _, hl, hm, hmm, hx, hi⟩
  · exact ⟨none, 0, [], rfl, ⟨rfl, by simp, by simp, fun h => absurd h (by simp)⟩⟩
  · cases hx
    have hlm : len ≤ m := by rw [hmm]; split <;> omega
    have W1 : m * bytes ≤ reachBytes := by
      have := hw ((((List.range len).map D).length + ((List.range (m - len)).map fun j => D (len + j)).length) * P.bytesOf E) (by simp only [DataW.weights, hT]; exact List.mem_cons_self ..)
      rw [hb] at this
      simp only [List.length_map, List.length_range] at this
      rwa [show len + (m - len) = m by omega] at this
    have key : ∀ i, i < len → ∃ x, w.cells? base (a.add (i * sz)) sz = some (enc' x) := by
      intro i hil
      obtain ⟨ci, h1, h2⟩ := hi i (by omega)
      rw [hc] at h1
      obtain ⟨x, rfl⟩ := hel n ci (D i) (Pl i) h2 (fun k hk => hw k (by
        simp only [DataW.weights, hT]
        refine List.mem_cons_of_mem _ (List.mem_append_left _ ?_)
        have : ∀ (l : List (DataW H)) (y : DataW H), y ∈ l → ∀ k ∈ y.weights P E, k ∈ DataW.weightsAll P E l := by
          intro l
          induction l with
          | nil => intro y hy; cases hy
          | cons z l ih =>
            intro y hy k hk
            simp only [DataW.weightsAll, List.mem_append]
            rcases List.mem_cons.1 hy with rfl | hy
            · exact .inl hk
            · exact .inr (ih y hy k hk)
        exact this _ (D i) (List.mem_map.2 ⟨i, List.mem_range.2 hil, rfl⟩) k hk))
      exact ⟨x, h1⟩
    have : Inhabited α := ⟨dflt⟩
    obtain ⟨f, hf⟩ := Deep.choose_lt key
    refine ⟨some a, cap, (List.range len).map f, by simp, ⟨rfl, by simpa using hl, ?_, fun hn => ?_⟩⟩
    · simp only [List.length_map, List.length_range]
      exact Nat.le_trans (Nat.mul_le_mul_right _ hlm) W1
    · have hn' : 0 < len := by simpa using hn
      obtain ⟨b, off, spot⟩ := a
      have c00 := (World.cells?_some (hf 0 hn')).2.2 0 h0
      have hspot : spot = none := by
        have l0 := hlen (f 0)
        rw [List.getElem?_eq_getElem (by omega)] at c00
        simpa [Addr.add] using World.cell?_spot c00
      subst hspot
      have hlt : b < w.heap.size := by
        have l0 := hlen (f 0)
        rw [List.getElem?_eq_getElem (by omega)] at c00
        have := World.block_lt_of_cell? w _ c00
        simpa [Addr.add] using this
      refine ⟨b, off, rfl, hlt, fun i x hx j u hu => ?_⟩
      have hil : i < len := by
        have := (List.getElem?_eq_some_iff.1 hx).1
        simpa using this
      have ex : x = f i := by
        rw [List.getElem?_map, List.getElem?_range hil] at hx
        simpa using hx.symm
      subst ex
      have hj : j < sz := by rw [← hlen (f i)]; exact (List.getElem?_eq_some_iff.1 hu).1
      have := (World.cells?_some (hf i hil)).2.2 j hj
      rw [Deep.add_add, Go.WideShapes.add_plain] at this
      rw [Nat.add_assoc, this]
      exact hu
end
end Go.Proofs.Ytpeojnknfonmlaa
namespace Go.Proofs.Ytpeojnknfonmlaa
open Go.RowKit Go.ChangeShapes Go.WideShapes
section
variable {H : Type} {enc : TypeId × Value → H} {w : World} {base : Nat} {spare : Nat → Bool} {held : Bool} {fuel : Nat} {cs : List Value} {d : DataW H} {ps : List MemPlace}
end
end Go.Proofs.Ytpeojnknfonmlaa
