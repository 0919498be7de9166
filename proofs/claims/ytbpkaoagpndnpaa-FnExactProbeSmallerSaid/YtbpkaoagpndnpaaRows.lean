/-
  No cell of these rows narrows 'for every input' (looked for: loops, veiled, ifaces, maps, wideKeys, modest, calm, conditions, laid).
  DERIVED. THE GIVEN ROWS OF THIS SEAT. 12 by the template 'for every input the law returns true; each argument reads behind the call as it read before'; 0 by the template 'total and deterministic' (their statements: YtbpkaoagpndnpaaTotals.lean).
  GIVEN WITH THE SEED: the statements are not yours to turn. If you find one false, say at which input.
  Laid BY PROGRAM, IN A SANDBOX (cutbox-rows.mjs): the forced cells as the released guide's own fill.sh prints them over the translation 9674db95a300a254… (all of the seat's roots in one cut). By AI agents, Wed Nov 11 2026. No macro, syntax, notation, axiom, sorry.
-/
import Derived.Test.YtbpkaoagpndnpaaChecked
import GoSem.Claim
import GoSem.ClaimJoined
import GoSem.ClaimMapViews
import Derived.JoinedTies
import Derived.KernelRfl
namespace Go.Proofs.Ytbpkaoagpndnpaa
/- THE CELL 'sum', in the pinned program and in every row, IS THE sha256 OF THE DUMP (.gsa) THAT YtbpkaoagpndnpaaProg.lean LOADS. Nothing in Lean hashes anything: it is a label: what it is worth is what the hold of that sum in a sandbox is worth. -/
noncomputable def Try.pinned : Pinned := { name := "ytbpkaoagpndnpaa", sum := "9674db95a300a254c8a8c44bade637db2b0b4bffee28d406873116e870d5791c", checked := Try.checked }
namespace Rows
def none {H : Type} : Left H := { results := [], args := [] }

/-- 'laws.FnExactConstants': WHATEVER THE INPUT: true; the input reads as it did. -/
def fnExactConstantsSpec : ChangeSpec := { name := "fnExactConstants", fn := fun _ => fun
  | [] => { results := [.lit (.bool true)], args := [] }
  | _ => none }
def fnExactConstantsRow : OpenClaim := { program := "ytbpkaoagpndnpaa", sum := "9674db95a300a254c8a8c44bade637db2b0b4bffee28d406873116e870d5791c", func := "loop.example/laplink/laws.FnExactConstants", spec := "fnExactConstants", apart := false }
def FnExactConstantsSaid : Prop := fnExactConstantsRow.holds Try.pinned (OpenSpec.ofChange fnExactConstantsSpec)

/-- ITS FALSE NEIGHBOUR: 'it returns false'. Refute it at one input. -/
def fnExactConstantsWrong : ChangeSpec := { name := "fnExactConstants", fn := fun _ => fun
  | [] => { results := [.lit (.bool false)], args := [] }
  | _ => none }
def FnExactConstantsWrongFalsely : Prop := fnExactConstantsRow.holds Try.pinned (OpenSpec.ofChange fnExactConstantsWrong)

/-- 'laws.FnExactFlyKindOk': WHATEVER THE INPUT: true; the input reads as it did. -/
def fnExactFlyKindOkSpec : ChangeSpec := { name := "fnExactFlyKindOk", fn := fun _ => fun
  | [d] => { results := [.lit (.bool true)], args := [d] }
  | _ => none }
def fnExactFlyKindOkRow : OpenClaim := { program := "ytbpkaoagpndnpaa", sum := "9674db95a300a254c8a8c44bade637db2b0b4bffee28d406873116e870d5791c", func := "loop.example/laplink/laws.FnExactFlyKindOk", spec := "fnExactFlyKindOk", apart := false }
def FnExactFlyKindOkSaid : Prop := fnExactFlyKindOkRow.holds Try.pinned (OpenSpec.ofChange fnExactFlyKindOkSpec)

/-- ITS FALSE NEIGHBOUR: 'it returns false'. Refute it at one input. -/
def fnExactFlyKindOkWrong : ChangeSpec := { name := "fnExactFlyKindOk", fn := fun _ => fun
  | [d] => { results := [.lit (.bool false)], args := [d] }
  | _ => none }
def FnExactFlyKindOkWrongFalsely : Prop := fnExactFlyKindOkRow.holds Try.pinned (OpenSpec.ofChange fnExactFlyKindOkWrong)

/-- 'laws.FnExactProbeBoxOk': WHATEVER THE INPUT: true; the input reads as it did. -/
def fnExactProbeBoxOkSpec : ChangeSpec := { name := "fnExactProbeBoxOk", fn := fun _ => fun
  | [d] => { results := [.lit (.bool true)], args := [d] }
  | _ => none }
def fnExactProbeBoxOkRow : OpenClaim := { program := "ytbpkaoagpndnpaa", sum := "9674db95a300a254c8a8c44bade637db2b0b4bffee28d406873116e870d5791c", func := "loop.example/laplink/laws.FnExactProbeBoxOk", spec := "fnExactProbeBoxOk", apart := false }
def FnExactProbeBoxOkSaid : Prop := fnExactProbeBoxOkRow.holds Try.pinned (OpenSpec.ofChange fnExactProbeBoxOkSpec)

/-- ITS FALSE NEIGHBOUR: 'it returns false'. Refute it at one input. -/
def fnExactProbeBoxOkWrong : ChangeSpec := { name := "fnExactProbeBoxOk", fn := fun _ => fun
  | [d] => { results := [.lit (.bool false)], args := [d] }
  | _ => none }
def FnExactProbeBoxOkWrongFalsely : Prop := fnExactProbeBoxOkRow.holds Try.pinned (OpenSpec.ofChange fnExactProbeBoxOkWrong)

/-- 'laws.FnExactFlyWhere': WHATEVER THE INPUT: true; the input reads as it did. -/
def fnExactFlyWhereSpec : ChangeSpec := { name := "fnExactFlyWhere", fn := fun _ => fun
  | [d1, d2] => { results := [.lit (.bool true)], args := [d1, d2] }
  | _ => none }
def fnExactFlyWhereRow : OpenClaim := { program := "ytbpkaoagpndnpaa", sum := "9674db95a300a254c8a8c44bade637db2b0b4bffee28d406873116e870d5791c", func := "loop.example/laplink/laws.FnExactFlyWhere", spec := "fnExactFlyWhere", apart := false }
def FnExactFlyWhereSaid : Prop := fnExactFlyWhereRow.holds Try.pinned (OpenSpec.ofChange fnExactFlyWhereSpec)

/-- ITS FALSE NEIGHBOUR: 'it returns false'. Refute it at one input. -/
def fnExactFlyWhereWrong : ChangeSpec := { name := "fnExactFlyWhere", fn := fun _ => fun
  | [d1, d2] => { results := [.lit (.bool false)], args := [d1, d2] }
  | _ => none }
def FnExactFlyWhereWrongFalsely : Prop := fnExactFlyWhereRow.holds Try.pinned (OpenSpec.ofChange fnExactFlyWhereWrong)

/-- 'laws.FnExactProbeClose': WHATEVER THE INPUT: true; the input reads as it did. -/
def fnExactProbeCloseSpec : ChangeSpec := { name := "fnExactProbeClose", fn := fun _ => fun
  | [d1, d2] => { results := [.lit (.bool true)], args := [d1, d2] }
  | _ => none }
def fnExactProbeCloseRow : OpenClaim := { program := "ytbpkaoagpndnpaa", sum := "9674db95a300a254c8a8c44bade637db2b0b4bffee28d406873116e870d5791c", func := "loop.example/laplink/laws.FnExactProbeClose", spec := "fnExactProbeClose", apart := false }
def FnExactProbeCloseSaid : Prop := fnExactProbeCloseRow.holds Try.pinned (OpenSpec.ofChange fnExactProbeCloseSpec)

/-- ITS FALSE NEIGHBOUR: 'it returns false'. Refute it at one input. -/
def fnExactProbeCloseWrong : ChangeSpec := { name := "fnExactProbeClose", fn := fun _ => fun
  | [d1, d2] => { results := [.lit (.bool false)], args := [d1, d2] }
  | _ => none }
def FnExactProbeCloseWrongFalsely : Prop := fnExactProbeCloseRow.holds Try.pinned (OpenSpec.ofChange fnExactProbeCloseWrong)

/-- 'laws.FnExactFlyWithin': WHATEVER THE INPUT: true; the input reads as it did. -/
def fnExactFlyWithinSpec : ChangeSpec := { name := "fnExactFlyWithin", fn := fun _ => fun
  | [d1, d2, d3, d4, d5] => { results := [.lit (.bool true)], args := [d1, d2, d3, d4, d5] }
  | _ => none }
def fnExactFlyWithinRow : OpenClaim := { program := "ytbpkaoagpndnpaa", sum := "9674db95a300a254c8a8c44bade637db2b0b4bffee28d406873116e870d5791c", func := "loop.example/laplink/laws.FnExactFlyWithin", spec := "fnExactFlyWithin", apart := false }
def FnExactFlyWithinSaid : Prop := fnExactFlyWithinRow.holds Try.pinned (OpenSpec.ofChange fnExactFlyWithinSpec)

/-- ITS FALSE NEIGHBOUR: 'it returns false'. Refute it at one input. -/
def fnExactFlyWithinWrong : ChangeSpec := { name := "fnExactFlyWithin", fn := fun _ => fun
  | [d1, d2, d3, d4, d5] => { results := [.lit (.bool false)], args := [d1, d2, d3, d4, d5] }
  | _ => none }
def FnExactFlyWithinWrongFalsely : Prop := fnExactFlyWithinRow.holds Try.pinned (OpenSpec.ofChange fnExactFlyWithinWrong)

/-- 'laws.FnExactFlySmaller': WHATEVER THE INPUT: true; the input reads as it did. -/
def fnExactFlySmallerSpec : ChangeSpec := { name := "fnExactFlySmaller", fn := fun _ => fun
  | [d1, d2] => { results := [.lit (.bool true)], args := [d1, d2] }
  | _ => none }
def fnExactFlySmallerRow : OpenClaim := { program := "ytbpkaoagpndnpaa", sum := "9674db95a300a254c8a8c44bade637db2b0b4bffee28d406873116e870d5791c", func := "loop.example/laplink/laws.FnExactFlySmaller", spec := "fnExactFlySmaller", apart := false }
def FnExactFlySmallerSaid : Prop := fnExactFlySmallerRow.holds Try.pinned (OpenSpec.ofChange fnExactFlySmallerSpec)

/-- ITS FALSE NEIGHBOUR: 'it returns false'. Refute it at one input. -/
def fnExactFlySmallerWrong : ChangeSpec := { name := "fnExactFlySmaller", fn := fun _ => fun
  | [d1, d2] => { results := [.lit (.bool false)], args := [d1, d2] }
  | _ => none }
def FnExactFlySmallerWrongFalsely : Prop := fnExactFlySmallerRow.holds Try.pinned (OpenSpec.ofChange fnExactFlySmallerWrong)

/-- 'laws.FnExactFlyShared': WHATEVER THE INPUT: true; the input reads as it did. -/
def fnExactFlySharedSpec : ChangeSpec := { name := "fnExactFlyShared", fn := fun _ => fun
  | [d1, d2] => { results := [.lit (.bool true)], args := [d1, d2] }
  | _ => none }
def fnExactFlySharedRow : OpenClaim := { program := "ytbpkaoagpndnpaa", sum := "9674db95a300a254c8a8c44bade637db2b0b4bffee28d406873116e870d5791c", func := "loop.example/laplink/laws.FnExactFlyShared", spec := "fnExactFlyShared", apart := false }
def FnExactFlySharedSaid : Prop := fnExactFlySharedRow.holds Try.pinned (OpenSpec.ofChange fnExactFlySharedSpec)

/-- ITS FALSE NEIGHBOUR: 'it returns false'. Refute it at one input. -/
def fnExactFlySharedWrong : ChangeSpec := { name := "fnExactFlyShared", fn := fun _ => fun
  | [d1, d2] => { results := [.lit (.bool false)], args := [d1, d2] }
  | _ => none }
def FnExactFlySharedWrongFalsely : Prop := fnExactFlySharedRow.holds Try.pinned (OpenSpec.ofChange fnExactFlySharedWrong)

/-- 'laws.FnExactProbeTubeOk': WHATEVER THE INPUT: true; the input reads as it did. -/
def fnExactProbeTubeOkSpec : ChangeSpec := { name := "fnExactProbeTubeOk", fn := fun _ => fun
  | [d] => { results := [.lit (.bool true)], args := [d] }
  | _ => none }
def fnExactProbeTubeOkRow : OpenClaim := { program := "ytbpkaoagpndnpaa", sum := "9674db95a300a254c8a8c44bade637db2b0b4bffee28d406873116e870d5791c", func := "loop.example/laplink/laws.FnExactProbeTubeOk", spec := "fnExactProbeTubeOk", apart := false }
def FnExactProbeTubeOkSaid : Prop := fnExactProbeTubeOkRow.holds Try.pinned (OpenSpec.ofChange fnExactProbeTubeOkSpec)

/-- ITS FALSE NEIGHBOUR: 'it returns false'. Refute it at one input. -/
def fnExactProbeTubeOkWrong : ChangeSpec := { name := "fnExactProbeTubeOk", fn := fun _ => fun
  | [d] => { results := [.lit (.bool false)], args := [d] }
  | _ => none }
def FnExactProbeTubeOkWrongFalsely : Prop := fnExactProbeTubeOkRow.holds Try.pinned (OpenSpec.ofChange fnExactProbeTubeOkWrong)

/-- 'laws.FnExactFlyPathOk': WHATEVER THE INPUT: true; the input reads as it did. -/
def fnExactFlyPathOkSpec : ChangeSpec := { name := "fnExactFlyPathOk", fn := fun _ => fun
  | [d] => { results := [.lit (.bool true)], args := [d] }
  | _ => none }
def fnExactFlyPathOkRow : OpenClaim := { program := "ytbpkaoagpndnpaa", sum := "9674db95a300a254c8a8c44bade637db2b0b4bffee28d406873116e870d5791c", func := "loop.example/laplink/laws.FnExactFlyPathOk", spec := "fnExactFlyPathOk", apart := false }
def FnExactFlyPathOkSaid : Prop := fnExactFlyPathOkRow.holds Try.pinned (OpenSpec.ofChange fnExactFlyPathOkSpec)

/-- ITS FALSE NEIGHBOUR: 'it returns false'. Refute it at one input. -/
def fnExactFlyPathOkWrong : ChangeSpec := { name := "fnExactFlyPathOk", fn := fun _ => fun
  | [d] => { results := [.lit (.bool false)], args := [d] }
  | _ => none }
def FnExactFlyPathOkWrongFalsely : Prop := fnExactFlyPathOkRow.holds Try.pinned (OpenSpec.ofChange fnExactFlyPathOkWrong)

/-- 'laws.FnExactProbeSmaller': WHATEVER THE INPUT: true; the input reads as it did. -/
def fnExactProbeSmallerSpec : ChangeSpec := { name := "fnExactProbeSmaller", fn := fun _ => fun
  | [d1, d2] => { results := [.lit (.bool true)], args := [d1, d2] }
  | _ => none }
def fnExactProbeSmallerRow : OpenClaim := { program := "ytbpkaoagpndnpaa", sum := "9674db95a300a254c8a8c44bade637db2b0b4bffee28d406873116e870d5791c", func := "loop.example/laplink/laws.FnExactProbeSmaller", spec := "fnExactProbeSmaller", apart := false }
def FnExactProbeSmallerSaid : Prop := fnExactProbeSmallerRow.holds Try.pinned (OpenSpec.ofChange fnExactProbeSmallerSpec)

/-- ITS FALSE NEIGHBOUR: 'it returns false'. Refute it at one input. -/
def fnExactProbeSmallerWrong : ChangeSpec := { name := "fnExactProbeSmaller", fn := fun _ => fun
  | [d1, d2] => { results := [.lit (.bool false)], args := [d1, d2] }
  | _ => none }
def FnExactProbeSmallerWrongFalsely : Prop := fnExactProbeSmallerRow.holds Try.pinned (OpenSpec.ofChange fnExactProbeSmallerWrong)

/-- 'laws.FnExactProbeSkyOk': WHATEVER THE INPUT: true; the input reads as it did. -/
def fnExactProbeSkyOkSpec : ChangeSpec := { name := "fnExactProbeSkyOk", fn := fun _ => fun
  | [d] => { results := [.lit (.bool true)], args := [d] }
  | _ => none }
def fnExactProbeSkyOkRow : OpenClaim := { program := "ytbpkaoagpndnpaa", sum := "9674db95a300a254c8a8c44bade637db2b0b4bffee28d406873116e870d5791c", func := "loop.example/laplink/laws.FnExactProbeSkyOk", spec := "fnExactProbeSkyOk", apart := false }
def FnExactProbeSkyOkSaid : Prop := fnExactProbeSkyOkRow.holds Try.pinned (OpenSpec.ofChange fnExactProbeSkyOkSpec)

/-- ITS FALSE NEIGHBOUR: 'it returns false'. Refute it at one input. -/
def fnExactProbeSkyOkWrong : ChangeSpec := { name := "fnExactProbeSkyOk", fn := fun _ => fun
  | [d] => { results := [.lit (.bool false)], args := [d] }
  | _ => none }
def FnExactProbeSkyOkWrongFalsely : Prop := fnExactProbeSkyOkRow.holds Try.pinned (OpenSpec.ofChange fnExactProbeSkyOkWrong)

/- THE SECOND FORM. 'bulk': how many values and letters a reading holds, each counted each time it is reached (what is shared counts as often as it is met; a slice's spare places count too). A statement '..UptoSaid' is the law's where the arguments, and the package variables that the reading takes, are together of bulk at most 1048576: NARROWER than '..Said'. Prove '..Said' where nothing that the law and all that it calls make is longer than what came in: it says more and counts as full. Else prove '..UptoSaid'. A law counts once. -/
mutual
def uptoBulk {H : Type} : DataW H → Nat
  | .lit (.string bytes) => bytes.length + 1
  | .lit _ => 1
  | .nil => 1
  | .ptr d => uptoBulk d + 1
  | .slice elems spare => uptoBulkAll elems + uptoBulkAll spare + 1
  | .agg parts => uptoBulkAll parts + 1
  | .iface _ d => uptoBulk d + 1
  | .map entries => uptoBulkEntries entries + 1
  | .held _ => 1
def uptoBulkAll {H : Type} : List (DataW H) → Nat
  | [] => 0
  | d :: r => uptoBulk d + uptoBulkAll r
def uptoBulkEntries {H : Type} : List (Lit × DataW H) → Nat
  | [] => 0
  | x :: r => uptoBulkEntry x + uptoBulkEntries r
def uptoBulkEntry {H : Type} : Lit × DataW H → Nat
  | (.string bytes, d) => bytes.length + uptoBulk d + 1
  | (_, d) => uptoBulk d + 1
 end
def uptoSmall : (H : Type) → List (DataW H) → Bool := fun _ ds => decide (uptoBulkAll ds ≤ 1048576)
def OpenSpec.upto (s : _root_.Go.ChangeSpec) : _root_.Go.OpenSpec := { _root_.Go.OpenSpec.ofChange s with cond := some uptoSmall }

/-- 'laws.FnExactConstants', WHERE WHAT IT READS IS OF BULK AT MOST 1048576: true; the input reads as it did. -/
def fnExactConstantsUptoRow : OpenClaim := { program := "ytbpkaoagpndnpaa", sum := "9674db95a300a254c8a8c44bade637db2b0b4bffee28d406873116e870d5791c", func := "loop.example/laplink/laws.FnExactConstants", spec := "fnExactConstants", apart := false, narrowed := true }
def FnExactConstantsUptoSaid : Prop := fnExactConstantsUptoRow.holds Try.pinned (OpenSpec.upto fnExactConstantsSpec)

/-- 'laws.FnExactFlyKindOk', WHERE WHAT IT READS IS OF BULK AT MOST 1048576: true; the input reads as it did. -/
def fnExactFlyKindOkUptoRow : OpenClaim := { program := "ytbpkaoagpndnpaa", sum := "9674db95a300a254c8a8c44bade637db2b0b4bffee28d406873116e870d5791c", func := "loop.example/laplink/laws.FnExactFlyKindOk", spec := "fnExactFlyKindOk", apart := false, narrowed := true }
def FnExactFlyKindOkUptoSaid : Prop := fnExactFlyKindOkUptoRow.holds Try.pinned (OpenSpec.upto fnExactFlyKindOkSpec)

/-- 'laws.FnExactProbeBoxOk', WHERE WHAT IT READS IS OF BULK AT MOST 1048576: true; the input reads as it did. -/
def fnExactProbeBoxOkUptoRow : OpenClaim := { program := "ytbpkaoagpndnpaa", sum := "9674db95a300a254c8a8c44bade637db2b0b4bffee28d406873116e870d5791c", func := "loop.example/laplink/laws.FnExactProbeBoxOk", spec := "fnExactProbeBoxOk", apart := false, narrowed := true }
def FnExactProbeBoxOkUptoSaid : Prop := fnExactProbeBoxOkUptoRow.holds Try.pinned (OpenSpec.upto fnExactProbeBoxOkSpec)

/-- 'laws.FnExactFlyWhere', WHERE WHAT IT READS IS OF BULK AT MOST 1048576: true; the input reads as it did. -/
def fnExactFlyWhereUptoRow : OpenClaim := { program := "ytbpkaoagpndnpaa", sum := "9674db95a300a254c8a8c44bade637db2b0b4bffee28d406873116e870d5791c", func := "loop.example/laplink/laws.FnExactFlyWhere", spec := "fnExactFlyWhere", apart := false, narrowed := true }
def FnExactFlyWhereUptoSaid : Prop := fnExactFlyWhereUptoRow.holds Try.pinned (OpenSpec.upto fnExactFlyWhereSpec)

/-- 'laws.FnExactProbeClose', WHERE WHAT IT READS IS OF BULK AT MOST 1048576: true; the input reads as it did. -/
def fnExactProbeCloseUptoRow : OpenClaim := { program := "ytbpkaoagpndnpaa", sum := "9674db95a300a254c8a8c44bade637db2b0b4bffee28d406873116e870d5791c", func := "loop.example/laplink/laws.FnExactProbeClose", spec := "fnExactProbeClose", apart := false, narrowed := true }
def FnExactProbeCloseUptoSaid : Prop := fnExactProbeCloseUptoRow.holds Try.pinned (OpenSpec.upto fnExactProbeCloseSpec)

/-- 'laws.FnExactFlyWithin', WHERE WHAT IT READS IS OF BULK AT MOST 1048576: true; the input reads as it did. -/
def fnExactFlyWithinUptoRow : OpenClaim := { program := "ytbpkaoagpndnpaa", sum := "9674db95a300a254c8a8c44bade637db2b0b4bffee28d406873116e870d5791c", func := "loop.example/laplink/laws.FnExactFlyWithin", spec := "fnExactFlyWithin", apart := false, narrowed := true }
def FnExactFlyWithinUptoSaid : Prop := fnExactFlyWithinUptoRow.holds Try.pinned (OpenSpec.upto fnExactFlyWithinSpec)

/-- 'laws.FnExactFlySmaller', WHERE WHAT IT READS IS OF BULK AT MOST 1048576: true; the input reads as it did. -/
def fnExactFlySmallerUptoRow : OpenClaim := { program := "ytbpkaoagpndnpaa", sum := "9674db95a300a254c8a8c44bade637db2b0b4bffee28d406873116e870d5791c", func := "loop.example/laplink/laws.FnExactFlySmaller", spec := "fnExactFlySmaller", apart := false, narrowed := true }
def FnExactFlySmallerUptoSaid : Prop := fnExactFlySmallerUptoRow.holds Try.pinned (OpenSpec.upto fnExactFlySmallerSpec)

/-- 'laws.FnExactFlyShared', WHERE WHAT IT READS IS OF BULK AT MOST 1048576: true; the input reads as it did. -/
def fnExactFlySharedUptoRow : OpenClaim := { program := "ytbpkaoagpndnpaa", sum := "9674db95a300a254c8a8c44bade637db2b0b4bffee28d406873116e870d5791c", func := "loop.example/laplink/laws.FnExactFlyShared", spec := "fnExactFlyShared", apart := false, narrowed := true }
def FnExactFlySharedUptoSaid : Prop := fnExactFlySharedUptoRow.holds Try.pinned (OpenSpec.upto fnExactFlySharedSpec)

/-- 'laws.FnExactProbeTubeOk', WHERE WHAT IT READS IS OF BULK AT MOST 1048576: true; the input reads as it did. -/
def fnExactProbeTubeOkUptoRow : OpenClaim := { program := "ytbpkaoagpndnpaa", sum := "9674db95a300a254c8a8c44bade637db2b0b4bffee28d406873116e870d5791c", func := "loop.example/laplink/laws.FnExactProbeTubeOk", spec := "fnExactProbeTubeOk", apart := false, narrowed := true }
def FnExactProbeTubeOkUptoSaid : Prop := fnExactProbeTubeOkUptoRow.holds Try.pinned (OpenSpec.upto fnExactProbeTubeOkSpec)

/-- 'laws.FnExactFlyPathOk', WHERE WHAT IT READS IS OF BULK AT MOST 1048576: true; the input reads as it did. -/
def fnExactFlyPathOkUptoRow : OpenClaim := { program := "ytbpkaoagpndnpaa", sum := "9674db95a300a254c8a8c44bade637db2b0b4bffee28d406873116e870d5791c", func := "loop.example/laplink/laws.FnExactFlyPathOk", spec := "fnExactFlyPathOk", apart := false, narrowed := true }
def FnExactFlyPathOkUptoSaid : Prop := fnExactFlyPathOkUptoRow.holds Try.pinned (OpenSpec.upto fnExactFlyPathOkSpec)

/-- 'laws.FnExactProbeSmaller', WHERE WHAT IT READS IS OF BULK AT MOST 1048576: true; the input reads as it did. -/
def fnExactProbeSmallerUptoRow : OpenClaim := { program := "ytbpkaoagpndnpaa", sum := "9674db95a300a254c8a8c44bade637db2b0b4bffee28d406873116e870d5791c", func := "loop.example/laplink/laws.FnExactProbeSmaller", spec := "fnExactProbeSmaller", apart := false, narrowed := true }
def FnExactProbeSmallerUptoSaid : Prop := fnExactProbeSmallerUptoRow.holds Try.pinned (OpenSpec.upto fnExactProbeSmallerSpec)

/-- 'laws.FnExactProbeSkyOk', WHERE WHAT IT READS IS OF BULK AT MOST 1048576: true; the input reads as it did. -/
def fnExactProbeSkyOkUptoRow : OpenClaim := { program := "ytbpkaoagpndnpaa", sum := "9674db95a300a254c8a8c44bade637db2b0b4bffee28d406873116e870d5791c", func := "loop.example/laplink/laws.FnExactProbeSkyOk", spec := "fnExactProbeSkyOk", apart := false, narrowed := true }
def FnExactProbeSkyOkUptoSaid : Prop := fnExactProbeSkyOkUptoRow.holds Try.pinned (OpenSpec.upto fnExactProbeSkyOkSpec)

end Rows
end Go.Proofs.Ytbpkaoagpndnpaa
