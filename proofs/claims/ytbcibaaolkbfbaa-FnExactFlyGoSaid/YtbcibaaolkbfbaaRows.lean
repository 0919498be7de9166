/-
  No cell of these rows narrows 'for every input' (looked for: loops, veiled, ifaces, maps, wideKeys, modest, calm, conditions, laid).
  DERIVED. THE GIVEN ROWS OF THIS SEAT. 12 by the template 'for every input the law returns true; each argument reads behind the call as it read before'; 0 by the template 'total and deterministic' (their statements: YtbcibaaolkbfbaaTotals.lean).
  GIVEN WITH THE SEED: the statements are not yours to turn. If you find one false, say at which input.
  Laid BY PROGRAM, IN A SANDBOX (cutbox-rows.mjs): the forced cells as the released guide's own fill.sh prints them over the translation 56f2c173702e0b54… (all of the seat's roots in one cut). By AI agents, Wed Nov 11 2026. No macro, syntax, notation, axiom, sorry.
-/
import Derived.Test.YtbcibaaolkbfbaaChecked
import GoSem.Claim
import GoSem.ClaimJoined
import GoSem.ClaimMapViews
import Derived.JoinedTies
import Derived.KernelRfl
namespace Go.Proofs.Ytbcibaaolkbfbaa
/- THE CELL 'sum', in the pinned program and in every row, IS THE sha256 OF THE DUMP (.gsa) THAT YtbcibaaolkbfbaaProg.lean LOADS. Nothing in Lean hashes anything: it is a label: what it is worth is what the hold of that sum in a sandbox is worth. -/
noncomputable def Try.pinned : Pinned := { name := "ytbcibaaolkbfbaa", sum := "56f2c173702e0b54f29cee59187e7506bbb51d9cda04d7d2a1fd650082e0f4d4", checked := Try.checked }
namespace Rows
def none {H : Type} : Left H := { results := [], args := [] }

/-- 'laws.FnExactFlyLawful': WHATEVER THE INPUT: true; the input reads as it did. -/
def fnExactFlyLawfulSpec : ChangeSpec := { name := "fnExactFlyLawful", fn := fun _ => fun
  | [d1, d2] => { results := [.lit (.bool true)], args := [d1, d2] }
  | _ => none }
def fnExactFlyLawfulRow : OpenClaim := { program := "ytbcibaaolkbfbaa", sum := "56f2c173702e0b54f29cee59187e7506bbb51d9cda04d7d2a1fd650082e0f4d4", func := "loop.example/laplink/laws.FnExactFlyLawful", spec := "fnExactFlyLawful", apart := false }
def FnExactFlyLawfulSaid : Prop := fnExactFlyLawfulRow.holds Try.pinned (OpenSpec.ofChange fnExactFlyLawfulSpec)

/-- ITS FALSE NEIGHBOUR: 'it returns false'. Refute it at one input. -/
def fnExactFlyLawfulWrong : ChangeSpec := { name := "fnExactFlyLawful", fn := fun _ => fun
  | [d1, d2] => { results := [.lit (.bool false)], args := [d1, d2] }
  | _ => none }
def FnExactFlyLawfulWrongFalsely : Prop := fnExactFlyLawfulRow.holds Try.pinned (OpenSpec.ofChange fnExactFlyLawfulWrong)

/-- 'laws.FnExactFlyShift': WHATEVER THE INPUT: true; the input reads as it did. -/
def fnExactFlyShiftSpec : ChangeSpec := { name := "fnExactFlyShift", fn := fun _ => fun
  | [d1, d2] => { results := [.lit (.bool true)], args := [d1, d2] }
  | _ => none }
def fnExactFlyShiftRow : OpenClaim := { program := "ytbcibaaolkbfbaa", sum := "56f2c173702e0b54f29cee59187e7506bbb51d9cda04d7d2a1fd650082e0f4d4", func := "loop.example/laplink/laws.FnExactFlyShift", spec := "fnExactFlyShift", apart := false }
def FnExactFlyShiftSaid : Prop := fnExactFlyShiftRow.holds Try.pinned (OpenSpec.ofChange fnExactFlyShiftSpec)

/-- ITS FALSE NEIGHBOUR: 'it returns false'. Refute it at one input. -/
def fnExactFlyShiftWrong : ChangeSpec := { name := "fnExactFlyShift", fn := fun _ => fun
  | [d1, d2] => { results := [.lit (.bool false)], args := [d1, d2] }
  | _ => none }
def FnExactFlyShiftWrongFalsely : Prop := fnExactFlyShiftRow.holds Try.pinned (OpenSpec.ofChange fnExactFlyShiftWrong)

/-- 'laws.FnExactFlySpans': WHATEVER THE INPUT: true; the input reads as it did. -/
def fnExactFlySpansSpec : ChangeSpec := { name := "fnExactFlySpans", fn := fun _ => fun
  | [d] => { results := [.lit (.bool true)], args := [d] }
  | _ => none }
def fnExactFlySpansRow : OpenClaim := { program := "ytbcibaaolkbfbaa", sum := "56f2c173702e0b54f29cee59187e7506bbb51d9cda04d7d2a1fd650082e0f4d4", func := "loop.example/laplink/laws.FnExactFlySpans", spec := "fnExactFlySpans", apart := false }
def FnExactFlySpansSaid : Prop := fnExactFlySpansRow.holds Try.pinned (OpenSpec.ofChange fnExactFlySpansSpec)

/-- ITS FALSE NEIGHBOUR: 'it returns false'. Refute it at one input. -/
def fnExactFlySpansWrong : ChangeSpec := { name := "fnExactFlySpans", fn := fun _ => fun
  | [d] => { results := [.lit (.bool false)], args := [d] }
  | _ => none }
def FnExactFlySpansWrongFalsely : Prop := fnExactFlySpansRow.holds Try.pinned (OpenSpec.ofChange fnExactFlySpansWrong)

/-- 'laws.FnExactFlyFirst': WHATEVER THE INPUT: true; the input reads as it did. -/
def fnExactFlyFirstSpec : ChangeSpec := { name := "fnExactFlyFirst", fn := fun _ => fun
  | [d] => { results := [.lit (.bool true)], args := [d] }
  | _ => none }
def fnExactFlyFirstRow : OpenClaim := { program := "ytbcibaaolkbfbaa", sum := "56f2c173702e0b54f29cee59187e7506bbb51d9cda04d7d2a1fd650082e0f4d4", func := "loop.example/laplink/laws.FnExactFlyFirst", spec := "fnExactFlyFirst", apart := false }
def FnExactFlyFirstSaid : Prop := fnExactFlyFirstRow.holds Try.pinned (OpenSpec.ofChange fnExactFlyFirstSpec)

/-- ITS FALSE NEIGHBOUR: 'it returns false'. Refute it at one input. -/
def fnExactFlyFirstWrong : ChangeSpec := { name := "fnExactFlyFirst", fn := fun _ => fun
  | [d] => { results := [.lit (.bool false)], args := [d] }
  | _ => none }
def FnExactFlyFirstWrongFalsely : Prop := fnExactFlyFirstRow.holds Try.pinned (OpenSpec.ofChange fnExactFlyFirstWrong)

/-- 'laws.FnExactFlyLast': WHATEVER THE INPUT: true; the input reads as it did. -/
def fnExactFlyLastSpec : ChangeSpec := { name := "fnExactFlyLast", fn := fun _ => fun
  | [d] => { results := [.lit (.bool true)], args := [d] }
  | _ => none }
def fnExactFlyLastRow : OpenClaim := { program := "ytbcibaaolkbfbaa", sum := "56f2c173702e0b54f29cee59187e7506bbb51d9cda04d7d2a1fd650082e0f4d4", func := "loop.example/laplink/laws.FnExactFlyLast", spec := "fnExactFlyLast", apart := false }
def FnExactFlyLastSaid : Prop := fnExactFlyLastRow.holds Try.pinned (OpenSpec.ofChange fnExactFlyLastSpec)

/-- ITS FALSE NEIGHBOUR: 'it returns false'. Refute it at one input. -/
def fnExactFlyLastWrong : ChangeSpec := { name := "fnExactFlyLast", fn := fun _ => fun
  | [d] => { results := [.lit (.bool false)], args := [d] }
  | _ => none }
def FnExactFlyLastWrongFalsely : Prop := fnExactFlyLastRow.holds Try.pinned (OpenSpec.ofChange fnExactFlyLastWrong)

/-- 'laws.FnExactFlyNext': WHATEVER THE INPUT: true; the input reads as it did. -/
def fnExactFlyNextSpec : ChangeSpec := { name := "fnExactFlyNext", fn := fun _ => fun
  | [d1, d2] => { results := [.lit (.bool true)], args := [d1, d2] }
  | _ => none }
def fnExactFlyNextRow : OpenClaim := { program := "ytbcibaaolkbfbaa", sum := "56f2c173702e0b54f29cee59187e7506bbb51d9cda04d7d2a1fd650082e0f4d4", func := "loop.example/laplink/laws.FnExactFlyNext", spec := "fnExactFlyNext", apart := false }
def FnExactFlyNextSaid : Prop := fnExactFlyNextRow.holds Try.pinned (OpenSpec.ofChange fnExactFlyNextSpec)

/-- ITS FALSE NEIGHBOUR: 'it returns false'. Refute it at one input. -/
def fnExactFlyNextWrong : ChangeSpec := { name := "fnExactFlyNext", fn := fun _ => fun
  | [d1, d2] => { results := [.lit (.bool false)], args := [d1, d2] }
  | _ => none }
def FnExactFlyNextWrongFalsely : Prop := fnExactFlyNextRow.holds Try.pinned (OpenSpec.ofChange fnExactFlyNextWrong)

/-- 'laws.FnExactFlySeen': WHATEVER THE INPUT: true; the input reads as it did. -/
def fnExactFlySeenSpec : ChangeSpec := { name := "fnExactFlySeen", fn := fun _ => fun
  | [d1, d2, d3] => { results := [.lit (.bool true)], args := [d1, d2, d3] }
  | _ => none }
def fnExactFlySeenRow : OpenClaim := { program := "ytbcibaaolkbfbaa", sum := "56f2c173702e0b54f29cee59187e7506bbb51d9cda04d7d2a1fd650082e0f4d4", func := "loop.example/laplink/laws.FnExactFlySeen", spec := "fnExactFlySeen", apart := false }
def FnExactFlySeenSaid : Prop := fnExactFlySeenRow.holds Try.pinned (OpenSpec.ofChange fnExactFlySeenSpec)

/-- ITS FALSE NEIGHBOUR: 'it returns false'. Refute it at one input. -/
def fnExactFlySeenWrong : ChangeSpec := { name := "fnExactFlySeen", fn := fun _ => fun
  | [d1, d2, d3] => { results := [.lit (.bool false)], args := [d1, d2, d3] }
  | _ => none }
def FnExactFlySeenWrongFalsely : Prop := fnExactFlySeenRow.holds Try.pinned (OpenSpec.ofChange fnExactFlySeenWrong)

/-- 'laws.FnExactFlyMayTurn': WHATEVER THE INPUT: true; the input reads as it did. -/
def fnExactFlyMayTurnSpec : ChangeSpec := { name := "fnExactFlyMayTurn", fn := fun _ => fun
  | [d1, d2, d3, d4] => { results := [.lit (.bool true)], args := [d1, d2, d3, d4] }
  | _ => none }
def fnExactFlyMayTurnRow : OpenClaim := { program := "ytbcibaaolkbfbaa", sum := "56f2c173702e0b54f29cee59187e7506bbb51d9cda04d7d2a1fd650082e0f4d4", func := "loop.example/laplink/laws.FnExactFlyMayTurn", spec := "fnExactFlyMayTurn", apart := false }
def FnExactFlyMayTurnSaid : Prop := fnExactFlyMayTurnRow.holds Try.pinned (OpenSpec.ofChange fnExactFlyMayTurnSpec)

/-- ITS FALSE NEIGHBOUR: 'it returns false'. Refute it at one input. -/
def fnExactFlyMayTurnWrong : ChangeSpec := { name := "fnExactFlyMayTurn", fn := fun _ => fun
  | [d1, d2, d3, d4] => { results := [.lit (.bool false)], args := [d1, d2, d3, d4] }
  | _ => none }
def FnExactFlyMayTurnWrongFalsely : Prop := fnExactFlyMayTurnRow.holds Try.pinned (OpenSpec.ofChange fnExactFlyMayTurnWrong)

/-- 'laws.FnExactFlyTube': WHATEVER THE INPUT: true; the input reads as it did. -/
def fnExactFlyTubeSpec : ChangeSpec := { name := "fnExactFlyTube", fn := fun _ => fun
  | [d] => { results := [.lit (.bool true)], args := [d] }
  | _ => none }
def fnExactFlyTubeRow : OpenClaim := { program := "ytbcibaaolkbfbaa", sum := "56f2c173702e0b54f29cee59187e7506bbb51d9cda04d7d2a1fd650082e0f4d4", func := "loop.example/laplink/laws.FnExactFlyTube", spec := "fnExactFlyTube", apart := false }
def FnExactFlyTubeSaid : Prop := fnExactFlyTubeRow.holds Try.pinned (OpenSpec.ofChange fnExactFlyTubeSpec)

/-- ITS FALSE NEIGHBOUR: 'it returns false'. Refute it at one input. -/
def fnExactFlyTubeWrong : ChangeSpec := { name := "fnExactFlyTube", fn := fun _ => fun
  | [d] => { results := [.lit (.bool false)], args := [d] }
  | _ => none }
def FnExactFlyTubeWrongFalsely : Prop := fnExactFlyTubeRow.holds Try.pinned (OpenSpec.ofChange fnExactFlyTubeWrong)

/-- 'laws.FnExactFlyRest': WHATEVER THE INPUT: true; the input reads as it did. -/
def fnExactFlyRestSpec : ChangeSpec := { name := "fnExactFlyRest", fn := fun _ => fun
  | [d1, d2, d3, d4] => { results := [.lit (.bool true)], args := [d1, d2, d3, d4] }
  | _ => none }
def fnExactFlyRestRow : OpenClaim := { program := "ytbcibaaolkbfbaa", sum := "56f2c173702e0b54f29cee59187e7506bbb51d9cda04d7d2a1fd650082e0f4d4", func := "loop.example/laplink/laws.FnExactFlyRest", spec := "fnExactFlyRest", apart := false }
def FnExactFlyRestSaid : Prop := fnExactFlyRestRow.holds Try.pinned (OpenSpec.ofChange fnExactFlyRestSpec)

/-- ITS FALSE NEIGHBOUR: 'it returns false'. Refute it at one input. -/
def fnExactFlyRestWrong : ChangeSpec := { name := "fnExactFlyRest", fn := fun _ => fun
  | [d1, d2, d3, d4] => { results := [.lit (.bool false)], args := [d1, d2, d3, d4] }
  | _ => none }
def FnExactFlyRestWrongFalsely : Prop := fnExactFlyRestRow.holds Try.pinned (OpenSpec.ofChange fnExactFlyRestWrong)

/-- 'laws.FnExactFlyGo': WHATEVER THE INPUT: true; the input reads as it did. -/
def fnExactFlyGoSpec : ChangeSpec := { name := "fnExactFlyGo", fn := fun _ => fun
  | [d1, d2, d3] => { results := [.lit (.bool true)], args := [d1, d2, d3] }
  | _ => none }
def fnExactFlyGoRow : OpenClaim := { program := "ytbcibaaolkbfbaa", sum := "56f2c173702e0b54f29cee59187e7506bbb51d9cda04d7d2a1fd650082e0f4d4", func := "loop.example/laplink/laws.FnExactFlyGo", spec := "fnExactFlyGo", apart := false }
def FnExactFlyGoSaid : Prop := fnExactFlyGoRow.holds Try.pinned (OpenSpec.ofChange fnExactFlyGoSpec)

/-- ITS FALSE NEIGHBOUR: 'it returns false'. Refute it at one input. -/
def fnExactFlyGoWrong : ChangeSpec := { name := "fnExactFlyGo", fn := fun _ => fun
  | [d1, d2, d3] => { results := [.lit (.bool false)], args := [d1, d2, d3] }
  | _ => none }
def FnExactFlyGoWrongFalsely : Prop := fnExactFlyGoRow.holds Try.pinned (OpenSpec.ofChange fnExactFlyGoWrong)

/-- 'laws.FnExactFlyTurnBy': WHATEVER THE INPUT: true; the input reads as it did. -/
def fnExactFlyTurnBySpec : ChangeSpec := { name := "fnExactFlyTurnBy", fn := fun _ => fun
  | [d1, d2, d3] => { results := [.lit (.bool true)], args := [d1, d2, d3] }
  | _ => none }
def fnExactFlyTurnByRow : OpenClaim := { program := "ytbcibaaolkbfbaa", sum := "56f2c173702e0b54f29cee59187e7506bbb51d9cda04d7d2a1fd650082e0f4d4", func := "loop.example/laplink/laws.FnExactFlyTurnBy", spec := "fnExactFlyTurnBy", apart := false }
def FnExactFlyTurnBySaid : Prop := fnExactFlyTurnByRow.holds Try.pinned (OpenSpec.ofChange fnExactFlyTurnBySpec)

/-- ITS FALSE NEIGHBOUR: 'it returns false'. Refute it at one input. -/
def fnExactFlyTurnByWrong : ChangeSpec := { name := "fnExactFlyTurnBy", fn := fun _ => fun
  | [d1, d2, d3] => { results := [.lit (.bool false)], args := [d1, d2, d3] }
  | _ => none }
def FnExactFlyTurnByWrongFalsely : Prop := fnExactFlyTurnByRow.holds Try.pinned (OpenSpec.ofChange fnExactFlyTurnByWrong)

/- THE SECOND FORM. 'bulk': how many values and letters a reading holds, each counted each time it is reached (what is shared counts as often as it is met; a slice's spare places count too). A statement '..UptoSaid' is the law's where the arguments, and the package variables that the reading takes, are together of bulk at most 1048576: NARROWER than '..Said'. Prove '..Said' where nothing that the law and all that it calls make is longer than what came in: it says more and counts as full. Else prove '..UptoSaid'. A law counts once. -/
mutual
def uptoBulk {H : Type} : DataW H → Nat
  | .lit (.string bytes) => bytes.length + 1
  | .lit _ => 1
  | .nil => 1
  | .ptr d => uptoBulk d + 1
  | .slice elems spare => uptoBulkAll elems + uptoBulkAll spare + 1
  | .agg parts => uptoBulkAll parts + 1
  | .iface _ d => uptoBulk d + 1
  | .map entries => uptoBulkEntries entries + 1
  | .held _ => 1
def uptoBulkAll {H : Type} : List (DataW H) → Nat
  | [] => 0
  | d :: r => uptoBulk d + uptoBulkAll r
def uptoBulkEntries {H : Type} : List (Lit × DataW H) → Nat
  | [] => 0
  | x :: r => uptoBulkEntry x + uptoBulkEntries r
def uptoBulkEntry {H : Type} : Lit × DataW H → Nat
  | (.string bytes, d) => bytes.length + uptoBulk d + 1
  | (_, d) => uptoBulk d + 1
 end
def uptoSmall : (H : Type) → List (DataW H) → Bool := fun _ ds => decide (uptoBulkAll ds ≤ 1048576)
def OpenSpec.upto (s : _root_.Go.ChangeSpec) : _root_.Go.OpenSpec := { _root_.Go.OpenSpec.ofChange s with cond := some uptoSmall }

/-- 'laws.FnExactFlyLawful', WHERE WHAT IT READS IS OF BULK AT MOST 1048576: true; the input reads as it did. -/
def fnExactFlyLawfulUptoRow : OpenClaim := { program := "ytbcibaaolkbfbaa", sum := "56f2c173702e0b54f29cee59187e7506bbb51d9cda04d7d2a1fd650082e0f4d4", func := "loop.example/laplink/laws.FnExactFlyLawful", spec := "fnExactFlyLawful", apart := false, narrowed := true }
def FnExactFlyLawfulUptoSaid : Prop := fnExactFlyLawfulUptoRow.holds Try.pinned (OpenSpec.upto fnExactFlyLawfulSpec)

/-- 'laws.FnExactFlyShift', WHERE WHAT IT READS IS OF BULK AT MOST 1048576: true; the input reads as it did. -/
def fnExactFlyShiftUptoRow : OpenClaim := { program := "ytbcibaaolkbfbaa", sum := "56f2c173702e0b54f29cee59187e7506bbb51d9cda04d7d2a1fd650082e0f4d4", func := "loop.example/laplink/laws.FnExactFlyShift", spec := "fnExactFlyShift", apart := false, narrowed := true }
def FnExactFlyShiftUptoSaid : Prop := fnExactFlyShiftUptoRow.holds Try.pinned (OpenSpec.upto fnExactFlyShiftSpec)

/-- 'laws.FnExactFlySpans', WHERE WHAT IT READS IS OF BULK AT MOST 1048576: true; the input reads as it did. -/
def fnExactFlySpansUptoRow : OpenClaim := { program := "ytbcibaaolkbfbaa", sum := "56f2c173702e0b54f29cee59187e7506bbb51d9cda04d7d2a1fd650082e0f4d4", func := "loop.example/laplink/laws.FnExactFlySpans", spec := "fnExactFlySpans", apart := false, narrowed := true }
def FnExactFlySpansUptoSaid : Prop := fnExactFlySpansUptoRow.holds Try.pinned (OpenSpec.upto fnExactFlySpansSpec)

/-- 'laws.FnExactFlyFirst', WHERE WHAT IT READS IS OF BULK AT MOST 1048576: true; the input reads as it did. -/
def fnExactFlyFirstUptoRow : OpenClaim := { program := "ytbcibaaolkbfbaa", sum := "56f2c173702e0b54f29cee59187e7506bbb51d9cda04d7d2a1fd650082e0f4d4", func := "loop.example/laplink/laws.FnExactFlyFirst", spec := "fnExactFlyFirst", apart := false, narrowed := true }
def FnExactFlyFirstUptoSaid : Prop := fnExactFlyFirstUptoRow.holds Try.pinned (OpenSpec.upto fnExactFlyFirstSpec)

/-- 'laws.FnExactFlyLast', WHERE WHAT IT READS IS OF BULK AT MOST 1048576: true; the input reads as it did. -/
def fnExactFlyLastUptoRow : OpenClaim := { program := "ytbcibaaolkbfbaa", sum := "56f2c173702e0b54f29cee59187e7506bbb51d9cda04d7d2a1fd650082e0f4d4", func := "loop.example/laplink/laws.FnExactFlyLast", spec := "fnExactFlyLast", apart := false, narrowed := true }
def FnExactFlyLastUptoSaid : Prop := fnExactFlyLastUptoRow.holds Try.pinned (OpenSpec.upto fnExactFlyLastSpec)

/-- 'laws.FnExactFlyNext', WHERE WHAT IT READS IS OF BULK AT MOST 1048576: true; the input reads as it did. -/
def fnExactFlyNextUptoRow : OpenClaim := { program := "ytbcibaaolkbfbaa", sum := "56f2c173702e0b54f29cee59187e7506bbb51d9cda04d7d2a1fd650082e0f4d4", func := "loop.example/laplink/laws.FnExactFlyNext", spec := "fnExactFlyNext", apart := false, narrowed := true }
def FnExactFlyNextUptoSaid : Prop := fnExactFlyNextUptoRow.holds Try.pinned (OpenSpec.upto fnExactFlyNextSpec)

/-- 'laws.FnExactFlySeen', WHERE WHAT IT READS IS OF BULK AT MOST 1048576: true; the input reads as it did. -/
def fnExactFlySeenUptoRow : OpenClaim := { program := "ytbcibaaolkbfbaa", sum := "56f2c173702e0b54f29cee59187e7506bbb51d9cda04d7d2a1fd650082e0f4d4", func := "loop.example/laplink/laws.FnExactFlySeen", spec := "fnExactFlySeen", apart := false, narrowed := true }
def FnExactFlySeenUptoSaid : Prop := fnExactFlySeenUptoRow.holds Try.pinned (OpenSpec.upto fnExactFlySeenSpec)

/-- 'laws.FnExactFlyMayTurn', WHERE WHAT IT READS IS OF BULK AT MOST 1048576: true; the input reads as it did. -/
def fnExactFlyMayTurnUptoRow : OpenClaim := { program := "ytbcibaaolkbfbaa", sum := "56f2c173702e0b54f29cee59187e7506bbb51d9cda04d7d2a1fd650082e0f4d4", func := "loop.example/laplink/laws.FnExactFlyMayTurn", spec := "fnExactFlyMayTurn", apart := false, narrowed := true }
def FnExactFlyMayTurnUptoSaid : Prop := fnExactFlyMayTurnUptoRow.holds Try.pinned (OpenSpec.upto fnExactFlyMayTurnSpec)

/-- 'laws.FnExactFlyTube', WHERE WHAT IT READS IS OF BULK AT MOST 1048576: true; the input reads as it did. -/
def fnExactFlyTubeUptoRow : OpenClaim := { program := "ytbcibaaolkbfbaa", sum := "56f2c173702e0b54f29cee59187e7506bbb51d9cda04d7d2a1fd650082e0f4d4", func := "loop.example/laplink/laws.FnExactFlyTube", spec := "fnExactFlyTube", apart := false, narrowed := true }
def FnExactFlyTubeUptoSaid : Prop := fnExactFlyTubeUptoRow.holds Try.pinned (OpenSpec.upto fnExactFlyTubeSpec)

/-- 'laws.FnExactFlyRest', WHERE WHAT IT READS IS OF BULK AT MOST 1048576: true; the input reads as it did. -/
def fnExactFlyRestUptoRow : OpenClaim := { program := "ytbcibaaolkbfbaa", sum := "56f2c173702e0b54f29cee59187e7506bbb51d9cda04d7d2a1fd650082e0f4d4", func := "loop.example/laplink/laws.FnExactFlyRest", spec := "fnExactFlyRest", apart := false, narrowed := true }
def FnExactFlyRestUptoSaid : Prop := fnExactFlyRestUptoRow.holds Try.pinned (OpenSpec.upto fnExactFlyRestSpec)

/-- 'laws.FnExactFlyGo', WHERE WHAT IT READS IS OF BULK AT MOST 1048576: true; the input reads as it did. -/
def fnExactFlyGoUptoRow : OpenClaim := { program := "ytbcibaaolkbfbaa", sum := "56f2c173702e0b54f29cee59187e7506bbb51d9cda04d7d2a1fd650082e0f4d4", func := "loop.example/laplink/laws.FnExactFlyGo", spec := "fnExactFlyGo", apart := false, narrowed := true }
def FnExactFlyGoUptoSaid : Prop := fnExactFlyGoUptoRow.holds Try.pinned (OpenSpec.upto fnExactFlyGoSpec)

/-- 'laws.FnExactFlyTurnBy', WHERE WHAT IT READS IS OF BULK AT MOST 1048576: true; the input reads as it did. -/
def fnExactFlyTurnByUptoRow : OpenClaim := { program := "ytbcibaaolkbfbaa", sum := "56f2c173702e0b54f29cee59187e7506bbb51d9cda04d7d2a1fd650082e0f4d4", func := "loop.example/laplink/laws.FnExactFlyTurnBy", spec := "fnExactFlyTurnBy", apart := false, narrowed := true }
def FnExactFlyTurnByUptoSaid : Prop := fnExactFlyTurnByUptoRow.holds Try.pinned (OpenSpec.upto fnExactFlyTurnBySpec)

end Rows
end Go.Proofs.Ytbcibaaolkbfbaa
