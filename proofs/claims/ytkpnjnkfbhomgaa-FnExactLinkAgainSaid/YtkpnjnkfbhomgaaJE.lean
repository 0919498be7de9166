/- Opening the arguments of a law: what data of the program's struct types are in memory. -/
import Derived.Test.YtkpnjnkfbhomgaaJ1
import Derived.Deep.Slices
import Derived.SizedLaws
import Derived.ProofKit
import Derived.Test.YtkpnjnkfbhomgaaJ3
import Derived.Test.YtkpnjnkfbhomgaaJA
import Derived.Test.YtkpnjnkfbhomgaaJD

set_option linter.unusedVariables false
set_option linter.unusedSimpArgs false
namespace Go.Proofs.Ytkpnjnkfbhomgaa
open Go.RowKit Go.ChangeShapes Go.WideShapes

theorem agg_of_cells {v : Value} {c0 c1 : Value} {l : List Value} (h : v.cells.toList = c0 :: c1 :: l) : v = .agg (c0 :: c1 :: l).toArray := by
  cases v <;> simp [Value.cells] at h
  rename_i cs
  rw [← h]

section
variable {H : Type} {enc : TypeId × Value → H} {P : Program} {w : World} {base : Nat} {spare : Nat → Bool} {held : Bool}
/-- no string, slice or map of it takes more than may be reached -/
def Wt (P : Program) (T : TypeId) (d : DataW H) : Prop := ∀ n ∈ d.weights P T, n ≤ reachBytes
theorem wt_of {ts : List TypeId} {ds : List (DataW H)} (h : (DataW.weightsEach P ts ds).all (· ≤ reachBytes) = true) {j : Nat} {t : TypeId} {d : DataW H} (ht : ts[j]? = some t) (hd : ds[j]? = some d) : Wt P t d := fun n hn => by
  have := List.all_eq_true.1 h _ (DataW.weights_mem_each ht hd n hn)
  simpa using this
theorem opn_struct {T : TypeId} {fs : Array Field} {fuel : Nat} {cs : List Value} {d : DataW H} {ps : List MemPlace} (hT : P.underlying T = some (.struct fs)) (h : DataW.trod enc P w base spare held fuel T cs = some (d, ps)) (hw : Wt P T d) :
    cs.length = P.cellsOf T ∧ ∀ (i : Nat) (t off m : Nat), fs[i]?.map (fun f => (f.type, f.offset)) = some (t, off) → P.cellsOf t = m → ∃ n d' ps', DataW.trod enc P w base spare held n t ((cs.drop off).take m) = some (d', ps') ∧ Wt P t d' := by
  obtain ⟨xs, n, _, hx, hl, hlen, hf⟩ := DataW.trod_struct hT h
  cases hx
  refine ⟨hl, fun i t off m hi hm => ?_⟩
  subst hm
  obtain ⟨f, hi2, hto⟩ := Option.map_eq_some_iff.1 hi
  clear hi
  have hi := hi2
  clear hi2
  cases hto
  have hi' : i < xs.length := by rw [hlen]; exact (Array.getElem?_eq_some_iff.1 hi).1
  have e := hf i f hi
  rw [List.getElem?_eq_getElem hi'] at e
  refine ⟨n, xs[i].1, xs[i].2, e, fun m hm => hw m ?_⟩
  simp only [DataW.weights, hT]
  refine DataW.weights_mem_each (j := i) (t := f.type) (d := xs[i].1) ?_ ?_ m hm
  · rw [List.getElem?_map, Array.getElem?_toList, hi]; rfl
  · rw [List.getElem?_map, List.getElem?_eq_getElem hi']; rfl
theorem opn_int {T : TypeId} {k : IntKind} {fuel : Nat} {cs : List Value} {d : DataW H} {ps : List MemPlace} (hT : P.underlying T = some (.int k)) (h : DataW.trod enc P w base spare held fuel T cs = some (d, ps)) : ∃ a, cs = [.int k a] ∧ (Lit.int k a).wf = true := by
  obtain ⟨a, rfl, _, hw⟩ := DataW.trod_int hT h
  exact ⟨a, rfl, hw⟩
theorem opn_bool {T : TypeId} {fuel : Nat} {cs : List Value} {d : DataW H} {ps : List MemPlace} (hT : P.underlying T = some .bool) (h : DataW.trod enc P w base spare held fuel T cs = some (d, ps)) : ∃ a, cs = [.bool a] := by
  cases fuel with
  | zero => simp [DataW.trod] at h
  | succ n =>
    unfold DataW.trod at h
    rw [hT] at h
    split at h <;> simp_all
theorem opn_slice {α : Type} {enc' : α → List Value} (sz bytes : Nat) {T E : TypeId} {fuel : Nat} {cs : List Value} {d : DataW H} {ps : List MemPlace} (hT : P.underlying T = some (.slice E)) (hc : P.cellsOf E = sz) (hb : P.bytesOf E = bytes) (h0 : 0 < sz) (dflt : α)
    (h : DataW.trod enc P w base spare held fuel T cs = some (d, ps)) (hw : Wt P T d)
    (hel : ∀ n ci d' ps', DataW.trod enc P w base spare held n E ci = some (d', ps') → Wt P E d' → ∃ x, ci = enc' x) (hlen : ∀ x, (enc' x).length = sz) :
    ∃ A c xs, cs = [.slice A xs.length c] ∧ Rd enc' sz bytes w A xs.length c xs := by
  rcases Deep.open_slice hT h with ⟨rfl, _⟩ | ⟨a, len, cap, m, n, D, Pl, rfl, _, hl, hm, hmm, hx, hi⟩
  · exact ⟨none, 0, [], rfl, ⟨rfl, by simp, by simp, fun h => absurd h (by simp)⟩⟩
  · cases hx
    have hlm : len ≤ m := by rw [hmm]; split <;> omega
    have W1 : m * bytes ≤ reachBytes := by
      have := hw ((((List.range len).map D).length + ((List.range (m - len)).map fun j => D (len + j)).length) * P.bytesOf E) (by simp only [DataW.weights, hT]; exact List.mem_cons_self ..)
      rw [hb] at this
      simp only [List.length_map, List.length_range] at this
      rwa [show len + (m - len) = m by omega] at this
    have key : ∀ i, i < len → ∃ x, w.cells? base (a.add (i * sz)) sz = some (enc' x) := by
      intro i hil
      obtain ⟨ci, h1, h2⟩ := hi i (by omega)
      rw [hc] at h1
      obtain ⟨x, rfl⟩ := hel n ci (D i) (Pl i) h2 (fun k hk => hw k (by
        simp only [DataW.weights, hT]
        refine List.mem_cons_of_mem _ (List.mem_append_left _ ?_)
        have : ∀ (l : List (DataW H)) (y : DataW H), y ∈ l → ∀ k ∈ y.weights P E, k ∈ DataW.weightsAll P E l := by
          intro l
          induction l with
          | nil => intro y hy; cases hy
          | cons z l ih =>
            intro y hy k hk
            simp only [DataW.weightsAll, List.mem_append]
            rcases List.mem_cons.1 hy with rfl | hy
            · exact .inl hk
            · exact .inr (ih y hy k hk)
        exact this _ (D i) (List.mem_map.2 ⟨i, List.mem_range.2 hil, rfl⟩) k hk))
      exact ⟨x, h1⟩
    have : Inhabited α := ⟨dflt⟩
    obtain ⟨f, hf⟩ := Deep.choose_lt key
    refine ⟨some a, cap, (List.range len).map f, by simp, ⟨rfl, by simpa using hl, ?_, fun hn => ?_⟩⟩
    · simp only [List.length_map, List.length_range]
      exact Nat.le_trans (Nat.mul_le_mul_right _ hlm) W1
    · have hn' : 0 < len := by simpa using hn
      obtain ⟨b, off, spot⟩ := a
      have c00 := (World.cells?_some (hf 0 hn')).2.2 0 h0
      have hspot : spot = none := by
        have l0 := hlen (f 0)
        rw [List.getElem?_eq_getElem (by omega)] at c00
        simpa [Addr.add] using World.cell?_spot c00
      subst hspot
      have hlt : b < w.heap.size := by
        have l0 := hlen (f 0)
        rw [List.getElem?_eq_getElem (by omega)] at c00
        have := World.block_lt_of_cell? w _ c00
        simpa [Addr.add] using this
      refine ⟨b, off, rfl, hlt, fun i x hx j u hu => ?_⟩
      have hil : i < len := by
        have := (List.getElem?_eq_some_iff.1 hx).1
        simpa using this
      have ex : x = f i := by
        rw [List.getElem?_map, List.getElem?_range hil] at hx
        simpa using hx.symm
      subst ex
      have hj : j < sz := by rw [← hlen (f i)]; exact (List.getElem?_eq_some_iff.1 hu).1
      have := (World.cells?_some (hf i hil)).2.2 j hj
      rw [Deep.add_add, Go.WideShapes.add_plain] at this
      rw [Nat.add_assoc, this]
      exact hu
end
end Go.Proofs.Ytkpnjnkfbhomgaa
namespace Go.Proofs.Ytkpnjnkfbhomgaa
open Go.RowKit Go.ChangeShapes Go.WideShapes
section
variable {H : Type} {enc : TypeId × Value → H} {w : World} {base : Nat} {spare : Nat → Bool} {held : Bool} {fuel : Nat} {cs : List Value} {d : DataW H} {ps : List MemPlace}
set_option maxRecDepth 100000 in
theorem opn_FlyKind (h : DataW.trod enc Try.prog w base spare held fuel 53 cs = some (d, ps)) (hw : Wt Try.prog 53 d) : ∃ q s, cs = [.int .i64 q, .int .i64 s] := by
  obtain ⟨hl, hf⟩ := opn_struct Try.underlying53 h hw
  rw [show Try.prog.cellsOf 53 = 2 by kernel_rfl] at hl
  match cs, hl with
  | [c0, c1], _ =>
    obtain ⟨_, _, _, e0, _⟩ := hf 0 3 0 1 rfl (by kernel_rfl)
    obtain ⟨_, _, _, e1, _⟩ := hf 1 3 1 1 rfl (by kernel_rfl)
    obtain ⟨a0, g0, _⟩ := opn_int Try.underlying3 e0
    obtain ⟨a1, g1, _⟩ := opn_int Try.underlying3 e1
    simp at g0 g1
    subst g0 g1
    exact ⟨a0, a1, rfl⟩
set_option maxRecDepth 100000 in
theorem opn_FlyStep (h : DataW.trod enc Try.prog w base spare held fuel 148 cs = some (d, ps)) (hw : Wt Try.prog 148 d) : ∃ s, cs = stepC s := by
  obtain ⟨hl, hf⟩ := opn_struct Try.underlying148 h hw
  rw [show Try.prog.cellsOf 148 = 7 by kernel_rfl] at hl
  match cs, hl with
  | [c0, c1, c2, c3, c4, c5, c6], _ =>
    obtain ⟨_, _, _, e0, _⟩ := hf 0 3 0 1 rfl (by kernel_rfl)
    obtain ⟨_, _, _, e1, _⟩ := hf 1 3 1 1 rfl (by kernel_rfl)
    obtain ⟨_, _, _, e2, _⟩ := hf 2 3 2 1 rfl (by kernel_rfl)
    obtain ⟨_, _, _, e3, _⟩ := hf 3 3 3 1 rfl (by kernel_rfl)
    obtain ⟨_, _, _, e4, _⟩ := hf 4 3 4 1 rfl (by kernel_rfl)
    obtain ⟨_, _, _, e5, _⟩ := hf 5 3 5 1 rfl (by kernel_rfl)
    obtain ⟨_, _, _, e6, _⟩ := hf 6 4 6 1 rfl (by kernel_rfl)
    obtain ⟨a0, g0, _⟩ := opn_int Try.underlying3 e0
    obtain ⟨a1, g1, _⟩ := opn_int Try.underlying3 e1
    obtain ⟨a2, g2, _⟩ := opn_int Try.underlying3 e2
    obtain ⟨a3, g3, _⟩ := opn_int Try.underlying3 e3
    obtain ⟨a4, g4, _⟩ := opn_int Try.underlying3 e4
    obtain ⟨a5, g5, _⟩ := opn_int Try.underlying3 e5
    obtain ⟨a6, g6⟩ := opn_bool Try.underlying4 e6
    simp at g0 g1 g2 g3 g4 g5 g6
    subst g0 g1 g2 g3 g4 g5 g6
    exact ⟨⟨a0, a1, a2, a3, a4, a5, a6⟩, rfl⟩
set_option maxRecDepth 100000 in
theorem opn_ProbeBox (h : DataW.trod enc Try.prog w base spare held fuel 162 cs = some (d, ps)) (hw : Wt Try.prog 162 d) : ∃ s, cs = boxC s := by
  obtain ⟨hl, hf⟩ := opn_struct Try.underlying162 h hw
  rw [show Try.prog.cellsOf 162 = 6 by kernel_rfl] at hl
  match cs, hl with
  | [c0, c1, c2, c3, c4, c5], _ =>
    obtain ⟨_, _, _, e0, _⟩ := hf 0 3 0 1 rfl (by kernel_rfl)
    obtain ⟨_, _, _, e1, _⟩ := hf 1 3 1 1 rfl (by kernel_rfl)
    obtain ⟨_, _, _, e2, _⟩ := hf 2 3 2 1 rfl (by kernel_rfl)
    obtain ⟨_, _, _, e3, _⟩ := hf 3 3 3 1 rfl (by kernel_rfl)
    obtain ⟨_, _, _, e4, _⟩ := hf 4 3 4 1 rfl (by kernel_rfl)
    obtain ⟨_, _, _, e5, _⟩ := hf 5 3 5 1 rfl (by kernel_rfl)
    obtain ⟨a0, g0, _⟩ := opn_int Try.underlying3 e0
    obtain ⟨a1, g1, _⟩ := opn_int Try.underlying3 e1
    obtain ⟨a2, g2, _⟩ := opn_int Try.underlying3 e2
    obtain ⟨a3, g3, _⟩ := opn_int Try.underlying3 e3
    obtain ⟨a4, g4, _⟩ := opn_int Try.underlying3 e4
    obtain ⟨a5, g5, _⟩ := opn_int Try.underlying3 e5
    simp at g0 g1 g2 g3 g4 g5
    subst g0 g1 g2 g3 g4 g5
    exact ⟨⟨a0, a1, a2, a3, a4, a5⟩, rfl⟩
theorem opn_FlyStepS (h : DataW.trod enc Try.prog w base spare held fuel 54 cs = some (d, ps)) (hw : Wt Try.prog 54 d) : ∃ A c xs, cs = [.slice A xs.length c] ∧ Rd stepC 7 56 w A xs.length c xs :=
  opn_slice 7 56 Try.underlying54 (by kernel_rfl) (by kernel_rfl) (by decide) LL.z0 h hw (fun n ci d' ps' h' hw' => opn_FlyStep h' hw') (fun _ => rfl)
theorem opn_ProbeBoxS (h : DataW.trod enc Try.prog w base spare held fuel 85 cs = some (d, ps)) (hw : Wt Try.prog 85 d) : ∃ A c xs, cs = [.slice A xs.length c] ∧ Rd boxC 6 48 w A xs.length c xs :=
  opn_slice 6 48 Try.underlying85 (by kernel_rfl) (by kernel_rfl) (by decide) ⟨0, 0, 0, 0, 0, 0⟩ h hw (fun n ci d' ps' h' hw' => opn_ProbeBox h' hw') (fun _ => rfl)
set_option maxRecDepth 100000 in
theorem opn_FlyPath (h : DataW.trod enc Try.prog w base spare held fuel 56 cs = some (d, ps)) (hw : Wt Try.prog 56 d) : ∃ (p : LL.Path) (A : Option Addr) (c : Nat), cs = [.int .i64 p.q, .int .i64 p.s, .slice A p.steps.length c, .int .i64 p.fr, .int .i64 p.by_] ∧ RdS w A p.steps.length c p.steps := by
  obtain ⟨hl, hf⟩ := opn_struct Try.underlying56 h hw
  rw [show Try.prog.cellsOf 56 = 5 by kernel_rfl] at hl
  match cs, hl with
  | [c0, c1, c2, c3, c4], _ =>
    obtain ⟨_, _, _, e0, w0⟩ := hf 0 53 0 2 rfl (by kernel_rfl)
    obtain ⟨_, _, _, e1, w1⟩ := hf 1 54 2 1 rfl (by kernel_rfl)
    obtain ⟨_, _, _, e2, _⟩ := hf 2 3 3 1 rfl (by kernel_rfl)
    obtain ⟨_, _, _, e3, _⟩ := hf 3 3 4 1 rfl (by kernel_rfl)
    obtain ⟨a0, a1, g0⟩ := opn_FlyKind e0 w0
    obtain ⟨A, c, xs, g1, R⟩ := opn_FlyStepS e1 w1
    obtain ⟨a3, g2, _⟩ := opn_int Try.underlying3 e2
    obtain ⟨a4, g3, _⟩ := opn_int Try.underlying3 e3
    simp at g0 g1 g2 g3
    obtain ⟨rfl, rfl⟩ := g0
    subst g1 g2 g3
    exact ⟨⟨a0, a1, xs, a3, a4⟩, A, c, rfl, R⟩
set_option maxRecDepth 100000 in
theorem opn_ProbeTube (h : DataW.trod enc Try.prog w base spare held fuel 87 cs = some (d, ps)) (hw : Wt Try.prog 87 d) : ∃ (s : ByteArray) (A : Option Addr) (c : Nat) (xs : List LL.Box), cs = [.string s, .slice A xs.length c] ∧ RdB w A xs.length c xs ∧ s.size ≤ 9223372036854775807 := by
  obtain ⟨hl, hf⟩ := opn_struct Try.underlying87 h hw
  rw [show Try.prog.cellsOf 87 = 2 by kernel_rfl] at hl
  match cs, hl with
  | [c0, c1], _ =>
    obtain ⟨_, _, _, e0, _⟩ := hf 0 9 0 1 rfl (by kernel_rfl)
    obtain ⟨_, _, _, e1, w1⟩ := hf 1 85 1 1 rfl (by kernel_rfl)
    obtain ⟨s, g0, _, hs⟩ := DataW.trod_string Try.underlying9 e0
    obtain ⟨A, c, xs, g1, R⟩ := opn_ProbeBoxS e1 w1
    simp at g0 g1
    subst g0 g1
    exact ⟨s, A, c, xs, rfl, R, hs⟩
end
end Go.Proofs.Ytkpnjnkfbhomgaa

/- Opening the arguments of a law: rows of whole numbers. -/
set_option linter.unusedVariables false
namespace Go.Proofs.Ytkpnjnkfbhomgaa
open Go.RowKit Go.ChangeShapes Go.WideShapes
variable {H : Type} {enc : TypeId × Value → H} {w : World} {base : Nat} {spare : Nat → Bool} {held : Bool} {fuel : Nat} {cs : List Value} {d : DataW H} {ps : List MemPlace}
theorem opn_ints (h : DataW.trod enc Try.prog w base spare held fuel 69 cs = some (d, ps)) (hw : Wt Try.prog 69 d) : ∃ A c xs, cs = [.slice A xs.length c] ∧ RdI w A xs.length c xs :=
  opn_slice 1 8 Try.underlying69 (by kernel_rfl) (by kernel_rfl) (by decide) 0 h hw (fun n ci d' ps' h' hw' => by obtain ⟨a, e, _⟩ := opn_int Try.underlying3 h'; exact ⟨a, e⟩) (fun _ => rfl)
end Go.Proofs.Ytkpnjnkfbhomgaa

/- Opening the arguments of a law: words and aircraft. -/
set_option linter.unusedVariables false
namespace Go.Proofs.Ytkpnjnkfbhomgaa
open Go.RowKit Go.ChangeShapes Go.WideShapes
variable {H : Type} {enc : TypeId × Value → H} {w : World} {base : Nat} {spare : Nat → Bool} {held : Bool} {fuel : Nat} {cs : List Value} {d : DataW H} {ps : List MemPlace}
set_option maxRecDepth 100000 in
theorem opn_LinkWord (h : DataW.trod enc Try.prog w base spare held fuel 58 cs = some (d, ps)) (hw : Wt Try.prog 58 d) : ∃ (x : LL.Word) (A : Option Addr) (c : Nat), cs = [.int .i64 x.kind, .string x.name, .int .i64 x.number, .int .i64 x.path.q, .int .i64 x.path.s, .slice A x.path.steps.length c, .int .i64 x.path.fr, .int .i64 x.path.by_] ∧ RdS w A x.path.steps.length c x.path.steps ∧ x.name.size ≤ 9223372036854775807 := by
  obtain ⟨hl, hf⟩ := opn_struct Try.underlying58 h hw
  rw [show Try.prog.cellsOf 58 = 8 by kernel_rfl] at hl
  match cs, hl with
  | [c0, c1, c2, c3, c4, c5, c6, c7], _ =>
    obtain ⟨_, _, _, e0, _⟩ := hf 0 3 0 1 rfl (by kernel_rfl)
    obtain ⟨_, _, _, e1, _⟩ := hf 1 9 1 1 rfl (by kernel_rfl)
    obtain ⟨_, _, _, e2, _⟩ := hf 2 3 2 1 rfl (by kernel_rfl)
    obtain ⟨_, _, _, e3, w3⟩ := hf 3 56 3 5 rfl (by kernel_rfl)
    obtain ⟨k, g0, _⟩ := opn_int Try.underlying3 e0
    obtain ⟨s, g1, _, hs⟩ := DataW.trod_string Try.underlying9 e1
    obtain ⟨n, g2, _⟩ := opn_int Try.underlying3 e2
    obtain ⟨p, A, c, g3, R⟩ := opn_FlyPath e3 w3
    simp at g0 g1 g2 g3
    subst g0 g1 g2
    obtain ⟨rfl, rfl, rfl, rfl, rfl⟩ := g3
    exact ⟨⟨k, s, n, p⟩, A, c, rfl, R, hs⟩
set_option maxRecDepth 100000 in
theorem opn_LinkCraft (h : DataW.trod enc Try.prog w base spare held fuel 71 cs = some (d, ps)) (hw : Wt Try.prog 71 d) : ∃ (x : LL.Craft) (A : Option Addr) (c : Nat) (F : Option Addr) (m : Nat), cs = [.string x.name, .int .i64 x.number, .int .i64 x.no, .int .i64 x.path.q, .int .i64 x.path.s, .slice A x.path.steps.length c, .int .i64 x.path.fr, .int .i64 x.path.by_, .slice F x.flown.length m] ∧ RdS w A x.path.steps.length c x.path.steps ∧ RdI w F x.flown.length m x.flown ∧ x.name.size ≤ 9223372036854775807 := by
  obtain ⟨hl, hf⟩ := opn_struct Try.underlying71 h hw
  rw [show Try.prog.cellsOf 71 = 9 by kernel_rfl] at hl
  match cs, hl with
  | [c0, c1, c2, c3, c4, c5, c6, c7, c8], _ =>
    obtain ⟨_, _, _, e0, _⟩ := hf 0 9 0 1 rfl (by kernel_rfl)
    obtain ⟨_, _, _, e1, _⟩ := hf 1 3 1 1 rfl (by kernel_rfl)
    obtain ⟨_, _, _, e2, _⟩ := hf 2 3 2 1 rfl (by kernel_rfl)
    obtain ⟨_, _, _, e3, w3⟩ := hf 3 56 3 5 rfl (by kernel_rfl)
    obtain ⟨_, _, _, e4, w4⟩ := hf 4 69 8 1 rfl (by kernel_rfl)
    obtain ⟨s, g0, _, hs⟩ := DataW.trod_string Try.underlying9 e0
    obtain ⟨k, g1, _⟩ := opn_int Try.underlying3 e1
    obtain ⟨n, g2, _⟩ := opn_int Try.underlying3 e2
    obtain ⟨p, A, c, g3, R⟩ := opn_FlyPath e3 w3
    obtain ⟨F, m, f, g4, R'⟩ := opn_ints e4 w4
    simp at g0 g1 g2 g3 g4
    subst g0 g1 g2
    obtain ⟨rfl, rfl, rfl, rfl, rfl⟩ := g3
    subst g4
    exact ⟨⟨s, k, n, p, f⟩, A, c, F, m, rfl, R, R', hs⟩
end Go.Proofs.Ytkpnjnkfbhomgaa

/- Opening the arguments of a law: rows whose elements hold rows. -/
set_option linter.unusedVariables false
set_option linter.unusedSimpArgs false
namespace Go.Proofs.Ytkpnjnkfbhomgaa
open Go.RowKit Go.ChangeShapes Go.WideShapes
section
variable {H : Type} {enc : TypeId × Value → H} {P : Program} {w : World} {base : Nat} {spare : Nat → Bool} {held : Bool}
theorem opn_sliceQ {α : Type} {enc' : α → List Value} (sz bytes : Nat) {T E : TypeId} {fuel : Nat} {cs : List Value} {d : DataW H} {ps : List MemPlace} (hT : P.underlying T = some (.slice E)) (hc : P.cellsOf E = sz) (hb : P.bytesOf E = bytes) (h0 : 0 < sz) (dflt : α) (Q : α → Prop)
    (h : DataW.trod enc P w base spare held fuel T cs = some (d, ps)) (hw : Wt P T d)
    (hel : ∀ n ci d' ps', DataW.trod enc P w base spare held n E ci = some (d', ps') → Wt P E d' → ∃ x, ci = enc' x ∧ Q x) (hlen : ∀ x, (enc' x).length = sz) :
    ∃ A c xs, cs = [.slice A xs.length c] ∧ Rd enc' sz bytes w A xs.length c xs ∧ ∀ k, k < xs.length → Q (xs.getD k dflt) := by
  rcases Deep.open_slice hT h with ⟨rfl, _⟩ | ⟨a, len, cap, m, n, D, Pl, rfl, _, hl, hm, hmm, hx, hi⟩
  · exact ⟨none, 0, [], rfl, ⟨rfl, by simp, by simp, fun h => absurd h (by simp)⟩, fun k hk => absurd hk (by simp)⟩
  · cases hx
    have hlm : len ≤ m := by rw [hmm]; split <;> omega
    have W1 : m * bytes ≤ reachBytes := by
      have := hw ((((List.range len).map D).length + ((List.range (m - len)).map fun j => D (len + j)).length) * P.bytesOf E) (by simp only [DataW.weights, hT]; exact List.mem_cons_self ..)
      rw [hb] at this
      simp only [List.length_map, List.length_range] at this
      rwa [show len + (m - len) = m by omega] at this
    have key : ∀ i, i < len → ∃ x, w.cells? base (a.add (i * sz)) sz = some (enc' x) ∧ Q x := by
      intro i hil
      obtain ⟨ci, h1, h2⟩ := hi i (by omega)
      rw [hc] at h1
      obtain ⟨x, rfl, hq⟩ := hel n ci (D i) (Pl i) h2 (fun k hk => hw k (by
        simp only [DataW.weights, hT]
        refine List.mem_cons_of_mem _ (List.mem_append_left _ ?_)
        have : ∀ (l : List (DataW H)) (y : DataW H), y ∈ l → ∀ k ∈ y.weights P E, k ∈ DataW.weightsAll P E l := by
          intro l
          induction l with
          | nil => intro y hy; cases hy
          | cons z l ih =>
            intro y hy k hk
            simp only [DataW.weightsAll, List.mem_append]
            rcases List.mem_cons.1 hy with rfl | hy
            · exact .inl hk
            · exact .inr (ih y hy k hk)
        exact this _ (D i) (List.mem_map.2 ⟨i, List.mem_range.2 hil, rfl⟩) k hk))
      exact ⟨x, h1, hq⟩
    have : Inhabited α := ⟨dflt⟩
    obtain ⟨f, hf⟩ := Deep.choose_lt key
    refine ⟨some a, cap, (List.range len).map f, by simp, ⟨rfl, by simpa using hl, ?_, fun hn => ?_⟩, fun k hk => ?_⟩
    · simp only [List.length_map, List.length_range]
      exact Nat.le_trans (Nat.mul_le_mul_right _ hlm) W1
    · have hn' : 0 < len := by simpa using hn
      obtain ⟨b, off, spot⟩ := a
      have c00 := (World.cells?_some (hf 0 hn').1).2.2 0 h0
      have hspot : spot = none := by
        have l0 := hlen (f 0)
        rw [List.getElem?_eq_getElem (by omega)] at c00
        simpa [Addr.add] using World.cell?_spot c00
      subst hspot
      have hlt : b < w.heap.size := by
        have l0 := hlen (f 0)
        rw [List.getElem?_eq_getElem (by omega)] at c00
        have := World.block_lt_of_cell? w _ c00
        simpa [Addr.add] using this
      refine ⟨b, off, rfl, hlt, fun i x hx j u hu => ?_⟩
      have hil : i < len := by
        have := (List.getElem?_eq_some_iff.1 hx).1
        simpa using this
      have ex : x = f i := by
        rw [List.getElem?_map, List.getElem?_range hil] at hx
        simpa using hx.symm
      subst ex
      have hj : j < sz := by rw [← hlen (f i)]; exact (List.getElem?_eq_some_iff.1 hu).1
      have := (World.cells?_some (hf i hil).1).2.2 j hj
      rw [Deep.add_add, Go.WideShapes.add_plain] at this
      rw [Nat.add_assoc, this]
      exact hu
    · have hk' : k < len := by simpa using hk
      have e : ((List.range len).map f).getD k dflt = f k := by rw [List.getD_eq_getElem?_getD, List.getElem?_map, List.getElem?_range hk']; rfl
      rw [e]
      exact (hf k hk').2
end
section
variable {H : Type} {enc : TypeId × Value → H} {w : World} {base : Nat} {spare : Nat → Bool} {held : Bool} {fuel : Nat} {cs : List Value} {d : DataW H} {ps : List MemPlace}
theorem opn_ProbeTubeS (h : DataW.trod enc Try.prog w base spare held fuel 22 cs = some (d, ps)) (hw : Wt Try.prog 22 d) : ∃ A c ts, cs = [.slice A ts.length c] ∧ RdT w A ts.length c ts ∧ ∀ k, k < ts.length → (LL.nthT ts k).s.size ≤ 9223372036854775807 := by
  obtain ⟨A, c, ts, rfl, hR, hQ⟩ := opn_sliceQ (enc' := tuC) 2 40 Try.underlying22 (by kernel_rfl) (by kernel_rfl) (by decide) LL.tu0 (fun u => RdB w u.A u.xs.length u.c u.xs ∧ u.s.size ≤ 9223372036854775807) h hw (fun n ci d' ps' h' hw' => by
    obtain ⟨s, A, c, xs, rfl, R, N⟩ := opn_ProbeTube h' hw'
    exact ⟨⟨s, A, c, xs⟩, rfl, R, N⟩) (fun _ => rfl)
  exact ⟨A, c, ts, rfl, ⟨hR, fun k hk => (hQ k hk).1⟩, fun k hk => (hQ k hk).2⟩
end
end Go.Proofs.Ytkpnjnkfbhomgaa

/- Opening the arguments of a law: books. -/
set_option linter.unusedVariables false
set_option linter.unusedSimpArgs false
namespace Go.Proofs.Ytkpnjnkfbhomgaa
open Go.RowKit Go.ChangeShapes Go.WideShapes
variable {H : Type} {enc : TypeId × Value → H} {w : World} {base : Nat} {spare : Nat → Bool} {held : Bool} {fuel : Nat} {cs : List Value} {d : DataW H} {ps : List MemPlace}
set_option maxRecDepth 100000 in
theorem opn_LinkHeld (h : DataW.trod enc Try.prog w base spare held fuel 138 cs = some (d, ps)) (hw : Wt Try.prog 138 d) : ∃ u : LL.He, cs = heC u ∧ RdH w u ∧ u.name.size ≤ 9223372036854775807 := by
  obtain ⟨hl, hf⟩ := opn_struct Try.underlying138 h hw
  rw [show Try.prog.cellsOf 138 = 13 by kernel_rfl] at hl
  match cs, hl with
  | [c0, c1, c2, c3, c4, c5, c6, c7, c8, c9, c10, c11, c12], _ =>
    obtain ⟨_, _, _, e0, _⟩ := hf 0 9 0 1 rfl (by kernel_rfl)
    obtain ⟨_, _, _, e1, _⟩ := hf 1 3 1 1 rfl (by kernel_rfl)
    obtain ⟨_, _, _, e2, w2⟩ := hf 2 56 2 5 rfl (by kernel_rfl)
    obtain ⟨_, _, _, e3, _⟩ := hf 3 3 7 1 rfl (by kernel_rfl)
    obtain ⟨_, _, _, e4, w4⟩ := hf 4 56 8 5 rfl (by kernel_rfl)
    obtain ⟨s, g0, _, hs⟩ := DataW.trod_string Try.underlying9 e0
    obtain ⟨n, g1, _⟩ := opn_int Try.underlying3 e1
    obtain ⟨p, A, c, g2, R⟩ := opn_FlyPath e2 w2
    obtain ⟨t, g3, _⟩ := opn_int Try.underlying3 e3
    obtain ⟨q, B, d', g4, R'⟩ := opn_FlyPath e4 w4
    simp at g0 g1 g2 g3 g4
    subst g0 g1 g3
    obtain ⟨rfl, rfl, rfl, rfl, rfl⟩ := g2
    obtain ⟨rfl, rfl, rfl, rfl, rfl⟩ := g4
    exact ⟨⟨s, n, p, A, c, t, q, B, d'⟩, rfl, ⟨R, R'⟩, hs⟩
theorem opn_LinkHeldS (h : DataW.trod enc Try.prog w base spare held fuel 29 cs = some (d, ps)) (hw : Wt Try.prog 29 d) : ∃ A c us, cs = [.slice A us.length c] ∧ RdHS w A us.length c us ∧ ∀ k, k < us.length → (LL.nthH us k).name.size ≤ 9223372036854775807 := by
  obtain ⟨A, c, us, rfl, hR, hQ⟩ := opn_sliceQ (enc' := heC) 13 144 Try.underlying29 (by kernel_rfl) (by kernel_rfl) (by decide) LL.he0 (fun u => RdH w u ∧ u.name.size ≤ 9223372036854775807) h hw (fun n ci d' ps' h' hw' => opn_LinkHeld h' hw') (fun _ => rfl)
  exact ⟨A, c, us, rfl, ⟨hR, fun k hk => (hQ k hk).1⟩, fun k hk => (hQ k hk).2⟩
set_option maxRecDepth 100000 in
theorem opn_LinkBook (h : DataW.trod enc Try.prog w base spare held fuel 31 cs = some (d, ps)) (hw : Wt Try.prog 31 d) : ∃ (last : Int) (A : Option Addr) (c : Nat) (us : List LL.He), cs = [.int .i64 last, .slice A us.length c] ∧ RdHS w A us.length c us ∧ ∀ k, k < us.length → (LL.nthH us k).name.size ≤ 9223372036854775807 := by
  obtain ⟨hl, hf⟩ := opn_struct Try.underlying31 h hw
  rw [show Try.prog.cellsOf 31 = 2 by kernel_rfl] at hl
  match cs, hl with
  | [c0, c1], _ =>
    obtain ⟨_, _, _, e0, _⟩ := hf 0 3 0 1 rfl (by kernel_rfl)
    obtain ⟨_, _, _, e1, w1⟩ := hf 1 29 1 1 rfl (by kernel_rfl)
    obtain ⟨n, g0, _⟩ := opn_int Try.underlying3 e0
    obtain ⟨A, c, us, g1, R, N⟩ := opn_LinkHeldS e1 w1
    simp at g0 g1
    subst g0 g1
    exact ⟨n, A, c, us, rfl, R, N⟩
end Go.Proofs.Ytkpnjnkfbhomgaa
