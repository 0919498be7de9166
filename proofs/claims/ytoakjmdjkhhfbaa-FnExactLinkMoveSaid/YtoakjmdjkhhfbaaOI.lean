/- Opening the arguments of a law: rows of whole numbers. -/
import Derived.Test.YtoakjmdjkhhfbaaO
import Derived.Test.YtoakjmdjkhhfbaaI1
set_option linter.unusedVariables false
namespace Go.Proofs.Ytoakjmdjkhhfbaa
open Go.RowKit Go.ChangeShapes Go.WideShapes
variable {H : Type} {enc : TypeId × Value → H} {w : World} {base : Nat} {spare : Nat → Bool} {held : Bool} {fuel : Nat} {cs : List Value} {d : DataW H} {ps : List MemPlace}
theorem opn_ints (h : DataW.trod enc Try.prog w base spare held fuel 65 cs = some (d, ps)) (hw : Wt Try.prog 65 d) : ∃ A c xs, cs = [.slice A xs.length c] ∧ RdI w A xs.length c xs :=
  opn_slice 1 8 Try.underlying65 (by kernel_rfl) (by kernel_rfl) (by decide) 0 h hw (fun n ci d' ps' h' hw' => by obtain ⟨a, e, _⟩ := opn_int Try.underlying3 h'; exact ⟨a, e⟩) (fun _ => rfl)
end Go.Proofs.Ytoakjmdjkhhfbaa
