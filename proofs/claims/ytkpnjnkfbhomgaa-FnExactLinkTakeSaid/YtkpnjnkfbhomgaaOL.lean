/- Opening the arguments of a law: words and aircraft. -/
import Derived.Test.YtkpnjnkfbhomgaaOI
import Derived.Test.YtkpnjnkfbhomgaaN2
set_option linter.unusedVariables false
namespace Go.Proofs.Ytkpnjnkfbhomgaa
open Go.RowKit Go.ChangeShapes Go.WideShapes
variable {H : Type} {enc : TypeId × Value → H} {w : World} {base : Nat} {spare : Nat → Bool} {held : Bool} {fuel : Nat} {cs : List Value} {d : DataW H} {ps : List MemPlace}
set_option maxRecDepth 100000 in
theorem opn_LinkWord (h : DataW.trod enc Try.prog w base spare held fuel 58 cs = some (d, ps)) (hw : Wt Try.prog 58 d) : ∃ (x : LL.Word) (A : Option Addr) (c : Nat), cs = [.int .i64 x.kind, .string x.name, .int .i64 x.number, .int .i64 x.path.q, .int .i64 x.path.s, .slice A x.path.steps.length c, .int .i64 x.path.fr, .int .i64 x.path.by_] ∧ RdS w A x.path.steps.length c x.path.steps ∧ x.name.size ≤ 9223372036854775807 := by
  obtain ⟨hl, hf⟩ := opn_struct Try.underlying58 h hw
  rw [show Try.prog.cellsOf 58 = 8 by kernel_rfl] at hl
  match cs, hl with
  | [c0, c1, c2, c3, c4, c5, c6, c7], _ =>
    obtain ⟨_, _, _, e0, _⟩ := hf 0 3 0 1 rfl (by kernel_rfl)
    obtain ⟨_, _, _, e1, _⟩ := hf 1 9 1 1 rfl (by kernel_rfl)
    obtain ⟨_, _, _, e2, _⟩ := hf 2 3 2 1 rfl (by kernel_rfl)
    obtain ⟨_, _, _, e3, w3⟩ := hf 3 56 3 5 rfl (by kernel_rfl)
    obtain ⟨k, g0, _⟩ := opn_int Try.underlying3 e0
    obtain ⟨s, g1, _, hs⟩ := DataW.trod_string Try.underlying9 e1
    obtain ⟨n, g2, _⟩ := opn_int Try.underlying3 e2
    obtain ⟨p, A, c, g3, R⟩ := opn_FlyPath e3 w3
    simp at g0 g1 g2 g3
    subst g0 g1 g2
    obtain ⟨rfl, rfl, rfl, rfl, rfl⟩ := g3
    exact ⟨⟨k, s, n, p⟩, A, c, rfl, R, hs⟩
set_option maxRecDepth 100000 in
theorem opn_LinkCraft (h : DataW.trod enc Try.prog w base spare held fuel 71 cs = some (d, ps)) (hw : Wt Try.prog 71 d) : ∃ (x : LL.Craft) (A : Option Addr) (c : Nat) (F : Option Addr) (m : Nat), cs = [.string x.name, .int .i64 x.number, .int .i64 x.no, .int .i64 x.path.q, .int .i64 x.path.s, .slice A x.path.steps.length c, .int .i64 x.path.fr, .int .i64 x.path.by_, .slice F x.flown.length m] ∧ RdS w A x.path.steps.length c x.path.steps ∧ RdI w F x.flown.length m x.flown ∧ x.name.size ≤ 9223372036854775807 := by
  obtain ⟨hl, hf⟩ := opn_struct Try.underlying71 h hw
  rw [show Try.prog.cellsOf 71 = 9 by kernel_rfl] at hl
  match cs, hl with
  | [c0, c1, c2, c3, c4, c5, c6, c7, c8], _ =>
    obtain ⟨_, _, _, e0, _⟩ := hf 0 9 0 1 rfl (by kernel_rfl)
    obtain ⟨_, _, _, e1, _⟩ := hf 1 3 1 1 rfl (by kernel_rfl)
    obtain ⟨_, _, _, e2, _⟩ := hf 2 3 2 1 rfl (by kernel_rfl)
    obtain ⟨_, _, _, e3, w3⟩ := hf 3 56 3 5 rfl (by kernel_rfl)
    obtain ⟨_, _, _, e4, w4⟩ := hf 4 69 8 1 rfl (by kernel_rfl)
    obtain ⟨s, g0, _, hs⟩ := DataW.trod_string Try.underlying9 e0
    obtain ⟨k, g1, _⟩ := opn_int Try.underlying3 e1
    obtain ⟨n, g2, _⟩ := opn_int Try.underlying3 e2
    obtain ⟨p, A, c, g3, R⟩ := opn_FlyPath e3 w3
    obtain ⟨F, m, f, g4, R'⟩ := opn_ints e4 w4
    simp at g0 g1 g2 g3 g4
    subst g0 g1 g2
    obtain ⟨rfl, rfl, rfl, rfl, rfl⟩ := g3
    subst g4
    exact ⟨⟨s, k, n, p, f⟩, A, c, F, m, rfl, R, R', hs⟩
end Go.Proofs.Ytkpnjnkfbhomgaa
