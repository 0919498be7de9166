/-
  No cell of these rows narrows 'for every input' (looked for: loops, veiled, ifaces, maps, wideKeys, modest, calm, conditions, laid).
  DERIVED. THE GIVEN ROWS OF THIS SEAT. 12 by the template 'for every input the law returns true; each argument reads behind the call as it read before'; 0 by the template 'total and deterministic' (their statements: YtoakjmdjkhhfbaaTotals.lean).
  GIVEN WITH THE SEED: the statements are not yours to turn. If you find one false, say at which input.
  Laid BY PROGRAM, IN A SANDBOX (cutbox-rows.mjs): the forced cells as the released guide's own fill.sh prints them over the translation db5f16a1e5d91a9d… (all of the seat's roots in one cut). By AI agents, Wed Nov 11 2026. No macro, syntax, notation, axiom, sorry.
-/
import Derived.Test.YtoakjmdjkhhfbaaChecked
import GoSem.Claim
import GoSem.ClaimJoined
import GoSem.ClaimMapViews
import Derived.JoinedTies
import Derived.KernelRfl
namespace Go.Proofs.Ytoakjmdjkhhfbaa
/- THE CELL 'sum', in the pinned program and in every row, IS THE sha256 OF THE DUMP (.gsa) THAT YtoakjmdjkhhfbaaProg.lean LOADS. Nothing in Lean hashes anything: it is a label: what it is worth is what the hold of that sum in a sandbox is worth. -/
noncomputable def Try.pinned : Pinned := { name := "ytoakjmdjkhhfbaa", sum := "db5f16a1e5d91a9d805520b79bf0ed26056625079250d26e7c0fdd091e82d894", checked := Try.checked }
namespace Rows
def none {H : Type} : Left H := { results := [], args := [] }

/-- 'laws.FnExactProbeSkyOk': WHATEVER THE INPUT: true; the input reads as it did. -/
def fnExactProbeSkyOkSpec : ChangeSpec := { name := "fnExactProbeSkyOk", fn := fun _ => fun
  | [d] => { results := [.lit (.bool true)], args := [d] }
  | _ => none }
def fnExactProbeSkyOkRow : OpenClaim := { program := "ytoakjmdjkhhfbaa", sum := "db5f16a1e5d91a9d805520b79bf0ed26056625079250d26e7c0fdd091e82d894", func := "loop.example/laplink/laws.FnExactProbeSkyOk", spec := "fnExactProbeSkyOk", apart := false }
def FnExactProbeSkyOkSaid : Prop := fnExactProbeSkyOkRow.holds Try.pinned (OpenSpec.ofChange fnExactProbeSkyOkSpec)

/-- ITS FALSE NEIGHBOUR: 'it returns false'. Refute it at one input. -/
def fnExactProbeSkyOkWrong : ChangeSpec := { name := "fnExactProbeSkyOk", fn := fun _ => fun
  | [d] => { results := [.lit (.bool false)], args := [d] }
  | _ => none }
def FnExactProbeSkyOkWrongFalsely : Prop := fnExactProbeSkyOkRow.holds Try.pinned (OpenSpec.ofChange fnExactProbeSkyOkWrong)

/-- 'laws.FnExactProbeMeet': WHATEVER THE INPUT: true; the input reads as it did. -/
def fnExactProbeMeetSpec : ChangeSpec := { name := "fnExactProbeMeet", fn := fun _ => fun
  | [d1, d2] => { results := [.lit (.bool true)], args := [d1, d2] }
  | _ => none }
def fnExactProbeMeetRow : OpenClaim := { program := "ytoakjmdjkhhfbaa", sum := "db5f16a1e5d91a9d805520b79bf0ed26056625079250d26e7c0fdd091e82d894", func := "loop.example/laplink/laws.FnExactProbeMeet", spec := "fnExactProbeMeet", apart := false }
def FnExactProbeMeetSaid : Prop := fnExactProbeMeetRow.holds Try.pinned (OpenSpec.ofChange fnExactProbeMeetSpec)

/-- ITS FALSE NEIGHBOUR: 'it returns false'. Refute it at one input. -/
def fnExactProbeMeetWrong : ChangeSpec := { name := "fnExactProbeMeet", fn := fun _ => fun
  | [d1, d2] => { results := [.lit (.bool false)], args := [d1, d2] }
  | _ => none }
def FnExactProbeMeetWrongFalsely : Prop := fnExactProbeMeetRow.holds Try.pinned (OpenSpec.ofChange fnExactProbeMeetWrong)

/-- 'laws.FnExactProbeCut': WHATEVER THE INPUT: true; the input reads as it did. -/
def fnExactProbeCutSpec : ChangeSpec := { name := "fnExactProbeCut", fn := fun _ => fun
  | [d1, d2] => { results := [.lit (.bool true)], args := [d1, d2] }
  | _ => none }
def fnExactProbeCutRow : OpenClaim := { program := "ytoakjmdjkhhfbaa", sum := "db5f16a1e5d91a9d805520b79bf0ed26056625079250d26e7c0fdd091e82d894", func := "loop.example/laplink/laws.FnExactProbeCut", spec := "fnExactProbeCut", apart := false }
def FnExactProbeCutSaid : Prop := fnExactProbeCutRow.holds Try.pinned (OpenSpec.ofChange fnExactProbeCutSpec)

/-- ITS FALSE NEIGHBOUR: 'it returns false'. Refute it at one input. -/
def fnExactProbeCutWrong : ChangeSpec := { name := "fnExactProbeCut", fn := fun _ => fun
  | [d1, d2] => { results := [.lit (.bool false)], args := [d1, d2] }
  | _ => none }
def FnExactProbeCutWrongFalsely : Prop := fnExactProbeCutRow.holds Try.pinned (OpenSpec.ofChange fnExactProbeCutWrong)

/-- 'laws.FnExactLinkWordOk': WHATEVER THE INPUT: true; the input reads as it did. -/
def fnExactLinkWordOkSpec : ChangeSpec := { name := "fnExactLinkWordOk", fn := fun _ => fun
  | [d] => { results := [.lit (.bool true)], args := [d] }
  | _ => none }
def fnExactLinkWordOkRow : OpenClaim := { program := "ytoakjmdjkhhfbaa", sum := "db5f16a1e5d91a9d805520b79bf0ed26056625079250d26e7c0fdd091e82d894", func := "loop.example/laplink/laws.FnExactLinkWordOk", spec := "fnExactLinkWordOk", apart := false }
def FnExactLinkWordOkSaid : Prop := fnExactLinkWordOkRow.holds Try.pinned (OpenSpec.ofChange fnExactLinkWordOkSpec)

/-- ITS FALSE NEIGHBOUR: 'it returns false'. Refute it at one input. -/
def fnExactLinkWordOkWrong : ChangeSpec := { name := "fnExactLinkWordOk", fn := fun _ => fun
  | [d] => { results := [.lit (.bool false)], args := [d] }
  | _ => none }
def FnExactLinkWordOkWrongFalsely : Prop := fnExactLinkWordOkRow.holds Try.pinned (OpenSpec.ofChange fnExactLinkWordOkWrong)

/-- 'laws.FnExactLinkMust': WHATEVER THE INPUT: true; the input reads as it did. -/
def fnExactLinkMustSpec : ChangeSpec := { name := "fnExactLinkMust", fn := fun _ => fun
  | [d1, d2] => { results := [.lit (.bool true)], args := [d1, d2] }
  | _ => none }
def fnExactLinkMustRow : OpenClaim := { program := "ytoakjmdjkhhfbaa", sum := "db5f16a1e5d91a9d805520b79bf0ed26056625079250d26e7c0fdd091e82d894", func := "loop.example/laplink/laws.FnExactLinkMust", spec := "fnExactLinkMust", apart := false }
def FnExactLinkMustSaid : Prop := fnExactLinkMustRow.holds Try.pinned (OpenSpec.ofChange fnExactLinkMustSpec)

/-- ITS FALSE NEIGHBOUR: 'it returns false'. Refute it at one input. -/
def fnExactLinkMustWrong : ChangeSpec := { name := "fnExactLinkMust", fn := fun _ => fun
  | [d1, d2] => { results := [.lit (.bool false)], args := [d1, d2] }
  | _ => none }
def FnExactLinkMustWrongFalsely : Prop := fnExactLinkMustRow.holds Try.pinned (OpenSpec.ofChange fnExactLinkMustWrong)

/-- 'laws.FnExactLinkCraftOk': WHATEVER THE INPUT: true; the input reads as it did. -/
def fnExactLinkCraftOkSpec : ChangeSpec := { name := "fnExactLinkCraftOk", fn := fun _ => fun
  | [d1, d2] => { results := [.lit (.bool true)], args := [d1, d2] }
  | _ => none }
def fnExactLinkCraftOkRow : OpenClaim := { program := "ytoakjmdjkhhfbaa", sum := "db5f16a1e5d91a9d805520b79bf0ed26056625079250d26e7c0fdd091e82d894", func := "loop.example/laplink/laws.FnExactLinkCraftOk", spec := "fnExactLinkCraftOk", apart := false }
def FnExactLinkCraftOkSaid : Prop := fnExactLinkCraftOkRow.holds Try.pinned (OpenSpec.ofChange fnExactLinkCraftOkSpec)

/-- ITS FALSE NEIGHBOUR: 'it returns false'. Refute it at one input. -/
def fnExactLinkCraftOkWrong : ChangeSpec := { name := "fnExactLinkCraftOk", fn := fun _ => fun
  | [d1, d2] => { results := [.lit (.bool false)], args := [d1, d2] }
  | _ => none }
def FnExactLinkCraftOkWrongFalsely : Prop := fnExactLinkCraftOkRow.holds Try.pinned (OpenSpec.ofChange fnExactLinkCraftOkWrong)

/-- 'laws.FnExactLinkTube': WHATEVER THE INPUT: true; the input reads as it did. -/
def fnExactLinkTubeSpec : ChangeSpec := { name := "fnExactLinkTube", fn := fun _ => fun
  | [d1, d2, d3] => { results := [.lit (.bool true)], args := [d1, d2, d3] }
  | _ => none }
def fnExactLinkTubeRow : OpenClaim := { program := "ytoakjmdjkhhfbaa", sum := "db5f16a1e5d91a9d805520b79bf0ed26056625079250d26e7c0fdd091e82d894", func := "loop.example/laplink/laws.FnExactLinkTube", spec := "fnExactLinkTube", apart := false }
def FnExactLinkTubeSaid : Prop := fnExactLinkTubeRow.holds Try.pinned (OpenSpec.ofChange fnExactLinkTubeSpec)

/-- ITS FALSE NEIGHBOUR: 'it returns false'. Refute it at one input. -/
def fnExactLinkTubeWrong : ChangeSpec := { name := "fnExactLinkTube", fn := fun _ => fun
  | [d1, d2, d3] => { results := [.lit (.bool false)], args := [d1, d2, d3] }
  | _ => none }
def FnExactLinkTubeWrongFalsely : Prop := fnExactLinkTubeRow.holds Try.pinned (OpenSpec.ofChange fnExactLinkTubeWrong)

/-- 'laws.FnExactLinkMove': WHATEVER THE INPUT: true; the input reads as it did. -/
def fnExactLinkMoveSpec : ChangeSpec := { name := "fnExactLinkMove", fn := fun _ => fun
  | [d1, d2] => { results := [.lit (.bool true)], args := [d1, d2] }
  | _ => none }
def fnExactLinkMoveRow : OpenClaim := { program := "ytoakjmdjkhhfbaa", sum := "db5f16a1e5d91a9d805520b79bf0ed26056625079250d26e7c0fdd091e82d894", func := "loop.example/laplink/laws.FnExactLinkMove", spec := "fnExactLinkMove", apart := false }
def FnExactLinkMoveSaid : Prop := fnExactLinkMoveRow.holds Try.pinned (OpenSpec.ofChange fnExactLinkMoveSpec)

/-- ITS FALSE NEIGHBOUR: 'it returns false'. Refute it at one input. -/
def fnExactLinkMoveWrong : ChangeSpec := { name := "fnExactLinkMove", fn := fun _ => fun
  | [d1, d2] => { results := [.lit (.bool false)], args := [d1, d2] }
  | _ => none }
def FnExactLinkMoveWrongFalsely : Prop := fnExactLinkMoveRow.holds Try.pinned (OpenSpec.ofChange fnExactLinkMoveWrong)

/-- 'laws.FnExactLinkAgain': WHATEVER THE INPUT: true; the input reads as it did. -/
def fnExactLinkAgainSpec : ChangeSpec := { name := "fnExactLinkAgain", fn := fun _ => fun
  | [d1, d2] => { results := [.lit (.bool true)], args := [d1, d2] }
  | _ => none }
def fnExactLinkAgainRow : OpenClaim := { program := "ytoakjmdjkhhfbaa", sum := "db5f16a1e5d91a9d805520b79bf0ed26056625079250d26e7c0fdd091e82d894", func := "loop.example/laplink/laws.FnExactLinkAgain", spec := "fnExactLinkAgain", apart := false }
def FnExactLinkAgainSaid : Prop := fnExactLinkAgainRow.holds Try.pinned (OpenSpec.ofChange fnExactLinkAgainSpec)

/-- ITS FALSE NEIGHBOUR: 'it returns false'. Refute it at one input. -/
def fnExactLinkAgainWrong : ChangeSpec := { name := "fnExactLinkAgain", fn := fun _ => fun
  | [d1, d2] => { results := [.lit (.bool false)], args := [d1, d2] }
  | _ => none }
def FnExactLinkAgainWrongFalsely : Prop := fnExactLinkAgainRow.holds Try.pinned (OpenSpec.ofChange fnExactLinkAgainWrong)

/-- 'laws.FnExactLinkHear': WHATEVER THE INPUT: true; the input reads as it did. -/
def fnExactLinkHearSpec : ChangeSpec := { name := "fnExactLinkHear", fn := fun _ => fun
  | [d1, d2] => { results := [.lit (.bool true)], args := [d1, d2] }
  | _ => none }
def fnExactLinkHearRow : OpenClaim := { program := "ytoakjmdjkhhfbaa", sum := "db5f16a1e5d91a9d805520b79bf0ed26056625079250d26e7c0fdd091e82d894", func := "loop.example/laplink/laws.FnExactLinkHear", spec := "fnExactLinkHear", apart := false }
def FnExactLinkHearSaid : Prop := fnExactLinkHearRow.holds Try.pinned (OpenSpec.ofChange fnExactLinkHearSpec)

/-- ITS FALSE NEIGHBOUR: 'it returns false'. Refute it at one input. -/
def fnExactLinkHearWrong : ChangeSpec := { name := "fnExactLinkHear", fn := fun _ => fun
  | [d1, d2] => { results := [.lit (.bool false)], args := [d1, d2] }
  | _ => none }
def FnExactLinkHearWrongFalsely : Prop := fnExactLinkHearRow.holds Try.pinned (OpenSpec.ofChange fnExactLinkHearWrong)

/-- 'laws.FnExactLinkNew': WHATEVER THE INPUT: true; the input reads as it did. -/
def fnExactLinkNewSpec : ChangeSpec := { name := "fnExactLinkNew", fn := fun _ => fun
  | [] => { results := [.lit (.bool true)], args := [] }
  | _ => none }
def fnExactLinkNewRow : OpenClaim := { program := "ytoakjmdjkhhfbaa", sum := "db5f16a1e5d91a9d805520b79bf0ed26056625079250d26e7c0fdd091e82d894", func := "loop.example/laplink/laws.FnExactLinkNew", spec := "fnExactLinkNew", apart := false }
def FnExactLinkNewSaid : Prop := fnExactLinkNewRow.holds Try.pinned (OpenSpec.ofChange fnExactLinkNewSpec)

/-- ITS FALSE NEIGHBOUR: 'it returns false'. Refute it at one input. -/
def fnExactLinkNewWrong : ChangeSpec := { name := "fnExactLinkNew", fn := fun _ => fun
  | [] => { results := [.lit (.bool false)], args := [] }
  | _ => none }
def FnExactLinkNewWrongFalsely : Prop := fnExactLinkNewRow.holds Try.pinned (OpenSpec.ofChange fnExactLinkNewWrong)

/-- 'laws.FnExactLinkBookOk': WHATEVER THE INPUT: true; the input reads as it did. -/
def fnExactLinkBookOkSpec : ChangeSpec := { name := "fnExactLinkBookOk", fn := fun _ => fun
  | [d1, d2] => { results := [.lit (.bool true)], args := [d1, d2] }
  | _ => none }
def fnExactLinkBookOkRow : OpenClaim := { program := "ytoakjmdjkhhfbaa", sum := "db5f16a1e5d91a9d805520b79bf0ed26056625079250d26e7c0fdd091e82d894", func := "loop.example/laplink/laws.FnExactLinkBookOk", spec := "fnExactLinkBookOk", apart := false }
def FnExactLinkBookOkSaid : Prop := fnExactLinkBookOkRow.holds Try.pinned (OpenSpec.ofChange fnExactLinkBookOkSpec)

/-- ITS FALSE NEIGHBOUR: 'it returns false'. Refute it at one input. -/
def fnExactLinkBookOkWrong : ChangeSpec := { name := "fnExactLinkBookOk", fn := fun _ => fun
  | [d1, d2] => { results := [.lit (.bool false)], args := [d1, d2] }
  | _ => none }
def FnExactLinkBookOkWrongFalsely : Prop := fnExactLinkBookOkRow.holds Try.pinned (OpenSpec.ofChange fnExactLinkBookOkWrong)

/- THE SECOND FORM. 'bulk': how many values and letters a reading holds, each counted each time it is reached (what is shared counts as often as it is met; a slice's spare places count too). A statement '..UptoSaid' is the law's where the arguments, and the package variables that the reading takes, are together of bulk at most 1048576: NARROWER than '..Said'. Prove '..Said' where nothing that the law and all that it calls make is longer than what came in: it says more and counts as full. Else prove '..UptoSaid'. A law counts once. -/
mutual
def uptoBulk {H : Type} : DataW H → Nat
  | .lit (.string bytes) => bytes.length + 1
  | .lit _ => 1
  | .nil => 1
  | .ptr d => uptoBulk d + 1
  | .slice elems spare => uptoBulkAll elems + uptoBulkAll spare + 1
  | .agg parts => uptoBulkAll parts + 1
  | .iface _ d => uptoBulk d + 1
  | .map entries => uptoBulkEntries entries + 1
  | .held _ => 1
def uptoBulkAll {H : Type} : List (DataW H) → Nat
  | [] => 0
  | d :: r => uptoBulk d + uptoBulkAll r
def uptoBulkEntries {H : Type} : List (Lit × DataW H) → Nat
  | [] => 0
  | x :: r => uptoBulkEntry x + uptoBulkEntries r
def uptoBulkEntry {H : Type} : Lit × DataW H → Nat
  | (.string bytes, d) => bytes.length + uptoBulk d + 1
  | (_, d) => uptoBulk d + 1
 end
def uptoSmall : (H : Type) → List (DataW H) → Bool := fun _ ds => decide (uptoBulkAll ds ≤ 1048576)
def OpenSpec.upto (s : _root_.Go.ChangeSpec) : _root_.Go.OpenSpec := { _root_.Go.OpenSpec.ofChange s with cond := some uptoSmall }

/-- 'laws.FnExactProbeSkyOk', WHERE WHAT IT READS IS OF BULK AT MOST 1048576: true; the input reads as it did. -/
def fnExactProbeSkyOkUptoRow : OpenClaim := { program := "ytoakjmdjkhhfbaa", sum := "db5f16a1e5d91a9d805520b79bf0ed26056625079250d26e7c0fdd091e82d894", func := "loop.example/laplink/laws.FnExactProbeSkyOk", spec := "fnExactProbeSkyOk", apart := false, narrowed := true }
def FnExactProbeSkyOkUptoSaid : Prop := fnExactProbeSkyOkUptoRow.holds Try.pinned (OpenSpec.upto fnExactProbeSkyOkSpec)

/-- 'laws.FnExactProbeMeet', WHERE WHAT IT READS IS OF BULK AT MOST 1048576: true; the input reads as it did. -/
def fnExactProbeMeetUptoRow : OpenClaim := { program := "ytoakjmdjkhhfbaa", sum := "db5f16a1e5d91a9d805520b79bf0ed26056625079250d26e7c0fdd091e82d894", func := "loop.example/laplink/laws.FnExactProbeMeet", spec := "fnExactProbeMeet", apart := false, narrowed := true }
def FnExactProbeMeetUptoSaid : Prop := fnExactProbeMeetUptoRow.holds Try.pinned (OpenSpec.upto fnExactProbeMeetSpec)

/-- 'laws.FnExactProbeCut', WHERE WHAT IT READS IS OF BULK AT MOST 1048576: true; the input reads as it did. -/
def fnExactProbeCutUptoRow : OpenClaim := { program := "ytoakjmdjkhhfbaa", sum := "db5f16a1e5d91a9d805520b79bf0ed26056625079250d26e7c0fdd091e82d894", func := "loop.example/laplink/laws.FnExactProbeCut", spec := "fnExactProbeCut", apart := false, narrowed := true }
def FnExactProbeCutUptoSaid : Prop := fnExactProbeCutUptoRow.holds Try.pinned (OpenSpec.upto fnExactProbeCutSpec)

/-- 'laws.FnExactLinkWordOk', WHERE WHAT IT READS IS OF BULK AT MOST 1048576: true; the input reads as it did. -/
def fnExactLinkWordOkUptoRow : OpenClaim := { program := "ytoakjmdjkhhfbaa", sum := "db5f16a1e5d91a9d805520b79bf0ed26056625079250d26e7c0fdd091e82d894", func := "loop.example/laplink/laws.FnExactLinkWordOk", spec := "fnExactLinkWordOk", apart := false, narrowed := true }
def FnExactLinkWordOkUptoSaid : Prop := fnExactLinkWordOkUptoRow.holds Try.pinned (OpenSpec.upto fnExactLinkWordOkSpec)

/-- 'laws.FnExactLinkMust', WHERE WHAT IT READS IS OF BULK AT MOST 1048576: true; the input reads as it did. -/
def fnExactLinkMustUptoRow : OpenClaim := { program := "ytoakjmdjkhhfbaa", sum := "db5f16a1e5d91a9d805520b79bf0ed26056625079250d26e7c0fdd091e82d894", func := "loop.example/laplink/laws.FnExactLinkMust", spec := "fnExactLinkMust", apart := false, narrowed := true }
def FnExactLinkMustUptoSaid : Prop := fnExactLinkMustUptoRow.holds Try.pinned (OpenSpec.upto fnExactLinkMustSpec)

/-- 'laws.FnExactLinkCraftOk', WHERE WHAT IT READS IS OF BULK AT MOST 1048576: true; the input reads as it did. -/
def fnExactLinkCraftOkUptoRow : OpenClaim := { program := "ytoakjmdjkhhfbaa", sum := "db5f16a1e5d91a9d805520b79bf0ed26056625079250d26e7c0fdd091e82d894", func := "loop.example/laplink/laws.FnExactLinkCraftOk", spec := "fnExactLinkCraftOk", apart := false, narrowed := true }
def FnExactLinkCraftOkUptoSaid : Prop := fnExactLinkCraftOkUptoRow.holds Try.pinned (OpenSpec.upto fnExactLinkCraftOkSpec)

/-- 'laws.FnExactLinkTube', WHERE WHAT IT READS IS OF BULK AT MOST 1048576: true; the input reads as it did. -/
def fnExactLinkTubeUptoRow : OpenClaim := { program := "ytoakjmdjkhhfbaa", sum := "db5f16a1e5d91a9d805520b79bf0ed26056625079250d26e7c0fdd091e82d894", func := "loop.example/laplink/laws.FnExactLinkTube", spec := "fnExactLinkTube", apart := false, narrowed := true }
def FnExactLinkTubeUptoSaid : Prop := fnExactLinkTubeUptoRow.holds Try.pinned (OpenSpec.upto fnExactLinkTubeSpec)

/-- 'laws.FnExactLinkMove', WHERE WHAT IT READS IS OF BULK AT MOST 1048576: true; the input reads as it did. -/
def fnExactLinkMoveUptoRow : OpenClaim := { program := "ytoakjmdjkhhfbaa", sum := "db5f16a1e5d91a9d805520b79bf0ed26056625079250d26e7c0fdd091e82d894", func := "loop.example/laplink/laws.FnExactLinkMove", spec := "fnExactLinkMove", apart := false, narrowed := true }
def FnExactLinkMoveUptoSaid : Prop := fnExactLinkMoveUptoRow.holds Try.pinned (OpenSpec.upto fnExactLinkMoveSpec)

/-- 'laws.FnExactLinkAgain', WHERE WHAT IT READS IS OF BULK AT MOST 1048576: true; the input reads as it did. -/
def fnExactLinkAgainUptoRow : OpenClaim := { program := "ytoakjmdjkhhfbaa", sum := "db5f16a1e5d91a9d805520b79bf0ed26056625079250d26e7c0fdd091e82d894", func := "loop.example/laplink/laws.FnExactLinkAgain", spec := "fnExactLinkAgain", apart := false, narrowed := true }
def FnExactLinkAgainUptoSaid : Prop := fnExactLinkAgainUptoRow.holds Try.pinned (OpenSpec.upto fnExactLinkAgainSpec)

/-- 'laws.FnExactLinkHear', WHERE WHAT IT READS IS OF BULK AT MOST 1048576: true; the input reads as it did. -/
def fnExactLinkHearUptoRow : OpenClaim := { program := "ytoakjmdjkhhfbaa", sum := "db5f16a1e5d91a9d805520b79bf0ed26056625079250d26e7c0fdd091e82d894", func := "loop.example/laplink/laws.FnExactLinkHear", spec := "fnExactLinkHear", apart := false, narrowed := true }
def FnExactLinkHearUptoSaid : Prop := fnExactLinkHearUptoRow.holds Try.pinned (OpenSpec.upto fnExactLinkHearSpec)

/-- 'laws.FnExactLinkNew', WHERE WHAT IT READS IS OF BULK AT MOST 1048576: true; the input reads as it did. -/
def fnExactLinkNewUptoRow : OpenClaim := { program := "ytoakjmdjkhhfbaa", sum := "db5f16a1e5d91a9d805520b79bf0ed26056625079250d26e7c0fdd091e82d894", func := "loop.example/laplink/laws.FnExactLinkNew", spec := "fnExactLinkNew", apart := false, narrowed := true }
def FnExactLinkNewUptoSaid : Prop := fnExactLinkNewUptoRow.holds Try.pinned (OpenSpec.upto fnExactLinkNewSpec)

/-- 'laws.FnExactLinkBookOk', WHERE WHAT IT READS IS OF BULK AT MOST 1048576: true; the input reads as it did. -/
def fnExactLinkBookOkUptoRow : OpenClaim := { program := "ytoakjmdjkhhfbaa", sum := "db5f16a1e5d91a9d805520b79bf0ed26056625079250d26e7c0fdd091e82d894", func := "loop.example/laplink/laws.FnExactLinkBookOk", spec := "fnExactLinkBookOk", apart := false, narrowed := true }
def FnExactLinkBookOkUptoSaid : Prop := fnExactLinkBookOkUptoRow.holds Try.pinned (OpenSpec.upto fnExactLinkBookOkSpec)

end Rows
end Go.Proofs.Ytoakjmdjkhhfbaa
