/-
  No cell of these rows narrows 'for every input' (looked for: loops, veiled, ifaces, maps, wideKeys, modest, calm, conditions, laid).
  DERIVED. THE GIVEN ROWS OF THIS SEAT. 8 by the template 'for every input the law returns true; each argument reads behind the call as it read before'; 0 by the template 'total and deterministic' (their statements: YtpeojnknfonmlaaTotals.lean).
  GIVEN WITH THE SEED: the statements are not yours to turn. If you find one false, say at which input.
  Laid BY PROGRAM, IN A SANDBOX (cutbox-rows.mjs): the forced cells as the released guide's own fill.sh prints them over the translation a31c5cab89d908de… (all of the seat's roots in one cut). By AI agents, Wed Nov 11 2026. No macro, syntax, notation, axiom, sorry.
-/
import Derived.Test.YtpeojnknfonmlaaChecked
import GoSem.Claim
import GoSem.ClaimJoined
import GoSem.ClaimMapViews
import Derived.JoinedTies
import Derived.KernelRfl
namespace Go.Proofs.Ytpeojnknfonmlaa
/- THE CELL 'sum', in the pinned program and in every row, IS THE sha256 OF THE DUMP (.gsa) THAT YtpeojnknfonmlaaProg.lean LOADS. Nothing in Lean hashes anything: it is a label: what it is worth is what the hold of that sum in a sandbox is worth. -/
noncomputable def Try.pinned : Pinned := { name := "ytpeojnknfonmlaa", sum := "a31c5cab89d908de708472cf1aca66ef6d2ffbbc0678d724902fbc5d7784c13d", checked := Try.checked }
namespace Rows
def none {H : Type} : Left H := { results := [], args := [] }

/-- 'laws.FnProbeMeet': WHATEVER THE INPUT: true; the input reads as it did. -/
def fnProbeMeetSpec : ChangeSpec := { name := "fnProbeMeet", fn := fun _ => fun
  | [d] => { results := [.lit (.bool true)], args := [d] }
  | _ => none }
def fnProbeMeetRow : OpenClaim := { program := "ytpeojnknfonmlaa", sum := "a31c5cab89d908de708472cf1aca66ef6d2ffbbc0678d724902fbc5d7784c13d", func := "loop.example/laplink/laws.FnProbeMeet", spec := "fnProbeMeet", apart := false }
def FnProbeMeetSaid : Prop := fnProbeMeetRow.holds Try.pinned (OpenSpec.ofChange fnProbeMeetSpec)

/-- ITS FALSE NEIGHBOUR: 'it returns false'. Refute it at one input. -/
def fnProbeMeetWrong : ChangeSpec := { name := "fnProbeMeet", fn := fun _ => fun
  | [d] => { results := [.lit (.bool false)], args := [d] }
  | _ => none }
def FnProbeMeetWrongFalsely : Prop := fnProbeMeetRow.holds Try.pinned (OpenSpec.ofChange fnProbeMeetWrong)

/-- 'laws.FnFlyShift': WHATEVER THE INPUT: true; the input reads as it did. -/
def fnFlyShiftSpec : ChangeSpec := { name := "fnFlyShift", fn := fun _ => fun
  | [d] => { results := [.lit (.bool true)], args := [d] }
  | _ => none }
def fnFlyShiftRow : OpenClaim := { program := "ytpeojnknfonmlaa", sum := "a31c5cab89d908de708472cf1aca66ef6d2ffbbc0678d724902fbc5d7784c13d", func := "loop.example/laplink/laws.FnFlyShift", spec := "fnFlyShift", apart := false }
def FnFlyShiftSaid : Prop := fnFlyShiftRow.holds Try.pinned (OpenSpec.ofChange fnFlyShiftSpec)

/-- ITS FALSE NEIGHBOUR: 'it returns false'. Refute it at one input. -/
def fnFlyShiftWrong : ChangeSpec := { name := "fnFlyShift", fn := fun _ => fun
  | [d] => { results := [.lit (.bool false)], args := [d] }
  | _ => none }
def FnFlyShiftWrongFalsely : Prop := fnFlyShiftRow.holds Try.pinned (OpenSpec.ofChange fnFlyShiftWrong)

/-- 'laws.FnFlyTight': WHATEVER THE INPUT: true; the input reads as it did. -/
def fnFlyTightSpec : ChangeSpec := { name := "fnFlyTight", fn := fun _ => fun
  | [d] => { results := [.lit (.bool true)], args := [d] }
  | _ => none }
def fnFlyTightRow : OpenClaim := { program := "ytpeojnknfonmlaa", sum := "a31c5cab89d908de708472cf1aca66ef6d2ffbbc0678d724902fbc5d7784c13d", func := "loop.example/laplink/laws.FnFlyTight", spec := "fnFlyTight", apart := false }
def FnFlyTightSaid : Prop := fnFlyTightRow.holds Try.pinned (OpenSpec.ofChange fnFlyTightSpec)

/-- ITS FALSE NEIGHBOUR: 'it returns false'. Refute it at one input. -/
def fnFlyTightWrong : ChangeSpec := { name := "fnFlyTight", fn := fun _ => fun
  | [d] => { results := [.lit (.bool false)], args := [d] }
  | _ => none }
def FnFlyTightWrongFalsely : Prop := fnFlyTightRow.holds Try.pinned (OpenSpec.ofChange fnFlyTightWrong)

/-- 'laws.FnFlySpans': WHATEVER THE INPUT: true; the input reads as it did. -/
def fnFlySpansSpec : ChangeSpec := { name := "fnFlySpans", fn := fun _ => fun
  | [d] => { results := [.lit (.bool true)], args := [d] }
  | _ => none }
def fnFlySpansRow : OpenClaim := { program := "ytpeojnknfonmlaa", sum := "a31c5cab89d908de708472cf1aca66ef6d2ffbbc0678d724902fbc5d7784c13d", func := "loop.example/laplink/laws.FnFlySpans", spec := "fnFlySpans", apart := false }
def FnFlySpansSaid : Prop := fnFlySpansRow.holds Try.pinned (OpenSpec.ofChange fnFlySpansSpec)

/-- ITS FALSE NEIGHBOUR: 'it returns false'. Refute it at one input. -/
def fnFlySpansWrong : ChangeSpec := { name := "fnFlySpans", fn := fun _ => fun
  | [d] => { results := [.lit (.bool false)], args := [d] }
  | _ => none }
def FnFlySpansWrongFalsely : Prop := fnFlySpansRow.holds Try.pinned (OpenSpec.ofChange fnFlySpansWrong)

/-- 'laws.FnFlyNext': WHATEVER THE INPUT: true; the input reads as it did. -/
def fnFlyNextSpec : ChangeSpec := { name := "fnFlyNext", fn := fun _ => fun
  | [d] => { results := [.lit (.bool true)], args := [d] }
  | _ => none }
def fnFlyNextRow : OpenClaim := { program := "ytpeojnknfonmlaa", sum := "a31c5cab89d908de708472cf1aca66ef6d2ffbbc0678d724902fbc5d7784c13d", func := "loop.example/laplink/laws.FnFlyNext", spec := "fnFlyNext", apart := false }
def FnFlyNextSaid : Prop := fnFlyNextRow.holds Try.pinned (OpenSpec.ofChange fnFlyNextSpec)

/-- ITS FALSE NEIGHBOUR: 'it returns false'. Refute it at one input. -/
def fnFlyNextWrong : ChangeSpec := { name := "fnFlyNext", fn := fun _ => fun
  | [d] => { results := [.lit (.bool false)], args := [d] }
  | _ => none }
def FnFlyNextWrongFalsely : Prop := fnFlyNextRow.holds Try.pinned (OpenSpec.ofChange fnFlyNextWrong)

/-- 'laws.FnFlyRest': WHATEVER THE INPUT: true; the input reads as it did. -/
def fnFlyRestSpec : ChangeSpec := { name := "fnFlyRest", fn := fun _ => fun
  | [d] => { results := [.lit (.bool true)], args := [d] }
  | _ => none }
def fnFlyRestRow : OpenClaim := { program := "ytpeojnknfonmlaa", sum := "a31c5cab89d908de708472cf1aca66ef6d2ffbbc0678d724902fbc5d7784c13d", func := "loop.example/laplink/laws.FnFlyRest", spec := "fnFlyRest", apart := false }
def FnFlyRestSaid : Prop := fnFlyRestRow.holds Try.pinned (OpenSpec.ofChange fnFlyRestSpec)

/-- ITS FALSE NEIGHBOUR: 'it returns false'. Refute it at one input. -/
def fnFlyRestWrong : ChangeSpec := { name := "fnFlyRest", fn := fun _ => fun
  | [d] => { results := [.lit (.bool false)], args := [d] }
  | _ => none }
def FnFlyRestWrongFalsely : Prop := fnFlyRestRow.holds Try.pinned (OpenSpec.ofChange fnFlyRestWrong)

/-- 'laws.FnFlyTop': WHATEVER THE INPUT: true; the input reads as it did. -/
def fnFlyTopSpec : ChangeSpec := { name := "fnFlyTop", fn := fun _ => fun
  | [d] => { results := [.lit (.bool true)], args := [d] }
  | _ => none }
def fnFlyTopRow : OpenClaim := { program := "ytpeojnknfonmlaa", sum := "a31c5cab89d908de708472cf1aca66ef6d2ffbbc0678d724902fbc5d7784c13d", func := "loop.example/laplink/laws.FnFlyTop", spec := "fnFlyTop", apart := false }
def FnFlyTopSaid : Prop := fnFlyTopRow.holds Try.pinned (OpenSpec.ofChange fnFlyTopSpec)

/-- ITS FALSE NEIGHBOUR: 'it returns false'. Refute it at one input. -/
def fnFlyTopWrong : ChangeSpec := { name := "fnFlyTop", fn := fun _ => fun
  | [d] => { results := [.lit (.bool false)], args := [d] }
  | _ => none }
def FnFlyTopWrongFalsely : Prop := fnFlyTopRow.holds Try.pinned (OpenSpec.ofChange fnFlyTopWrong)

/-- 'laws.FnFlyTurn': WHATEVER THE INPUT: true; the input reads as it did. -/
def fnFlyTurnSpec : ChangeSpec := { name := "fnFlyTurn", fn := fun _ => fun
  | [d] => { results := [.lit (.bool true)], args := [d] }
  | _ => none }
def fnFlyTurnRow : OpenClaim := { program := "ytpeojnknfonmlaa", sum := "a31c5cab89d908de708472cf1aca66ef6d2ffbbc0678d724902fbc5d7784c13d", func := "loop.example/laplink/laws.FnFlyTurn", spec := "fnFlyTurn", apart := false }
def FnFlyTurnSaid : Prop := fnFlyTurnRow.holds Try.pinned (OpenSpec.ofChange fnFlyTurnSpec)

/-- ITS FALSE NEIGHBOUR: 'it returns false'. Refute it at one input. -/
def fnFlyTurnWrong : ChangeSpec := { name := "fnFlyTurn", fn := fun _ => fun
  | [d] => { results := [.lit (.bool false)], args := [d] }
  | _ => none }
def FnFlyTurnWrongFalsely : Prop := fnFlyTurnRow.holds Try.pinned (OpenSpec.ofChange fnFlyTurnWrong)

/- THE SECOND FORM. 'bulk': how many values and letters a reading holds, each counted each time it is reached (what is shared counts as often as it is met; a slice's spare places count too). A statement '..UptoSaid' is the law's where the arguments, and the package variables that the reading takes, are together of bulk at most 1048576: NARROWER than '..Said'. Prove '..Said' where nothing that the law and all that it calls make is longer than what came in: it says more and counts as full. Else prove '..UptoSaid'. A law counts once. -/
mutual
def uptoBulk {H : Type} : DataW H → Nat
  | .lit (.string bytes) => bytes.length + 1
  | .lit _ => 1
  | .nil => 1
  | .ptr d => uptoBulk d + 1
  | .slice elems spare => uptoBulkAll elems + uptoBulkAll spare + 1
  | .agg parts => uptoBulkAll parts + 1
  | .iface _ d => uptoBulk d + 1
  | .map entries => uptoBulkEntries entries + 1
  | .held _ => 1
def uptoBulkAll {H : Type} : List (DataW H) → Nat
  | [] => 0
  | d :: r => uptoBulk d + uptoBulkAll r
def uptoBulkEntries {H : Type} : List (Lit × DataW H) → Nat
  | [] => 0
  | x :: r => uptoBulkEntry x + uptoBulkEntries r
def uptoBulkEntry {H : Type} : Lit × DataW H → Nat
  | (.string bytes, d) => bytes.length + uptoBulk d + 1
  | (_, d) => uptoBulk d + 1
 end
def uptoSmall : (H : Type) → List (DataW H) → Bool := fun _ ds => decide (uptoBulkAll ds ≤ 1048576)
def OpenSpec.upto (s : _root_.Go.ChangeSpec) : _root_.Go.OpenSpec := { _root_.Go.OpenSpec.ofChange s with cond := some uptoSmall }

/-- 'laws.FnProbeMeet', WHERE WHAT IT READS IS OF BULK AT MOST 1048576: true; the input reads as it did. -/
def fnProbeMeetUptoRow : OpenClaim := { program := "ytpeojnknfonmlaa", sum := "a31c5cab89d908de708472cf1aca66ef6d2ffbbc0678d724902fbc5d7784c13d", func := "loop.example/laplink/laws.FnProbeMeet", spec := "fnProbeMeet", apart := false, narrowed := true }
def FnProbeMeetUptoSaid : Prop := fnProbeMeetUptoRow.holds Try.pinned (OpenSpec.upto fnProbeMeetSpec)

/-- 'laws.FnFlyShift', WHERE WHAT IT READS IS OF BULK AT MOST 1048576: true; the input reads as it did. -/
def fnFlyShiftUptoRow : OpenClaim := { program := "ytpeojnknfonmlaa", sum := "a31c5cab89d908de708472cf1aca66ef6d2ffbbc0678d724902fbc5d7784c13d", func := "loop.example/laplink/laws.FnFlyShift", spec := "fnFlyShift", apart := false, narrowed := true }
def FnFlyShiftUptoSaid : Prop := fnFlyShiftUptoRow.holds Try.pinned (OpenSpec.upto fnFlyShiftSpec)

/-- 'laws.FnFlyTight', WHERE WHAT IT READS IS OF BULK AT MOST 1048576: true; the input reads as it did. -/
def fnFlyTightUptoRow : OpenClaim := { program := "ytpeojnknfonmlaa", sum := "a31c5cab89d908de708472cf1aca66ef6d2ffbbc0678d724902fbc5d7784c13d", func := "loop.example/laplink/laws.FnFlyTight", spec := "fnFlyTight", apart := false, narrowed := true }
def FnFlyTightUptoSaid : Prop := fnFlyTightUptoRow.holds Try.pinned (OpenSpec.upto fnFlyTightSpec)

/-- 'laws.FnFlySpans', WHERE WHAT IT READS IS OF BULK AT MOST 1048576: true; the input reads as it did. -/
def fnFlySpansUptoRow : OpenClaim := { program := "ytpeojnknfonmlaa", sum := "a31c5cab89d908de708472cf1aca66ef6d2ffbbc0678d724902fbc5d7784c13d", func := "loop.example/laplink/laws.FnFlySpans", spec := "fnFlySpans", apart := false, narrowed := true }
def FnFlySpansUptoSaid : Prop := fnFlySpansUptoRow.holds Try.pinned (OpenSpec.upto fnFlySpansSpec)

/-- 'laws.FnFlyNext', WHERE WHAT IT READS IS OF BULK AT MOST 1048576: true; the input reads as it did. -/
def fnFlyNextUptoRow : OpenClaim := { program := "ytpeojnknfonmlaa", sum := "a31c5cab89d908de708472cf1aca66ef6d2ffbbc0678d724902fbc5d7784c13d", func := "loop.example/laplink/laws.FnFlyNext", spec := "fnFlyNext", apart := false, narrowed := true }
def FnFlyNextUptoSaid : Prop := fnFlyNextUptoRow.holds Try.pinned (OpenSpec.upto fnFlyNextSpec)

/-- 'laws.FnFlyRest', WHERE WHAT IT READS IS OF BULK AT MOST 1048576: true; the input reads as it did. -/
def fnFlyRestUptoRow : OpenClaim := { program := "ytpeojnknfonmlaa", sum := "a31c5cab89d908de708472cf1aca66ef6d2ffbbc0678d724902fbc5d7784c13d", func := "loop.example/laplink/laws.FnFlyRest", spec := "fnFlyRest", apart := false, narrowed := true }
def FnFlyRestUptoSaid : Prop := fnFlyRestUptoRow.holds Try.pinned (OpenSpec.upto fnFlyRestSpec)

/-- 'laws.FnFlyTop', WHERE WHAT IT READS IS OF BULK AT MOST 1048576: true; the input reads as it did. -/
def fnFlyTopUptoRow : OpenClaim := { program := "ytpeojnknfonmlaa", sum := "a31c5cab89d908de708472cf1aca66ef6d2ffbbc0678d724902fbc5d7784c13d", func := "loop.example/laplink/laws.FnFlyTop", spec := "fnFlyTop", apart := false, narrowed := true }
def FnFlyTopUptoSaid : Prop := fnFlyTopUptoRow.holds Try.pinned (OpenSpec.upto fnFlyTopSpec)

/-- 'laws.FnFlyTurn', WHERE WHAT IT READS IS OF BULK AT MOST 1048576: true; the input reads as it did. -/
def fnFlyTurnUptoRow : OpenClaim := { program := "ytpeojnknfonmlaa", sum := "a31c5cab89d908de708472cf1aca66ef6d2ffbbc0678d724902fbc5d7784c13d", func := "loop.example/laplink/laws.FnFlyTurn", spec := "fnFlyTurn", apart := false, narrowed := true }
def FnFlyTurnUptoSaid : Prop := fnFlyTurnUptoRow.holds Try.pinned (OpenSpec.upto fnFlyTurnSpec)

end Rows
end Go.Proofs.Ytpeojnknfonmlaa
