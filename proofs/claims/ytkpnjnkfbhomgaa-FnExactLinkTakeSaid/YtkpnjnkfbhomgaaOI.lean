/- Opening the arguments of a law: rows of whole numbers. -/
import Derived.Test.YtkpnjnkfbhomgaaO
import Derived.Test.YtkpnjnkfbhomgaaI1
set_option linter.unusedVariables false
namespace Go.Proofs.Ytkpnjnkfbhomgaa
open Go.RowKit Go.ChangeShapes Go.WideShapes
variable {H : Type} {enc : TypeId × Value → H} {w : World} {base : Nat} {spare : Nat → Bool} {held : Bool} {fuel : Nat} {cs : List Value} {d : DataW H} {ps : List MemPlace}
theorem opn_ints (h : DataW.trod enc Try.prog w base spare held fuel 69 cs = some (d, ps)) (hw : Wt Try.prog 69 d) : ∃ A c xs, cs = [.slice A xs.length c] ∧ RdI w A xs.length c xs :=
  opn_slice 1 8 Try.underlying69 (by kernel_rfl) (by kernel_rfl) (by decide) 0 h hw (fun n ci d' ps' h' hw' => by obtain ⟨a, e, _⟩ := opn_int Try.underlying3 h'; exact ⟨a, e⟩) (fun _ => rfl)
end Go.Proofs.Ytkpnjnkfbhomgaa
