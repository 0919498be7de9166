/-
  No cell of these rows narrows 'for every input' (looked for: loops, veiled, ifaces, maps, wideKeys, modest, calm, conditions, laid).
  DERIVED. THE GIVEN ROWS OF THIS SEAT. 8 by the template 'for every input the law returns true; each argument reads behind the call as it read before'; 0 by the template 'total and deterministic' (their statements: YtkpnjnkfbhomgaaTotals.lean).
  GIVEN WITH THE SEED: the statements are not yours to turn. If you find one false, say at which input.
  Laid BY PROGRAM, IN A SANDBOX (cutbox-rows.mjs): the forced cells as the released guide's own fill.sh prints them over the translation 58206eec00420e8c… (all of the seat's roots in one cut). By AI agents, Wed Nov 11 2026. No macro, syntax, notation, axiom, sorry.
-/
import Derived.Test.YtkpnjnkfbhomgaaChecked
import GoSem.Claim
import GoSem.ClaimJoined
import GoSem.ClaimMapViews
import Derived.JoinedTies
import Derived.KernelRfl
namespace Go.Proofs.Ytkpnjnkfbhomgaa
/- THE CELL 'sum', in the pinned program and in every row, IS THE sha256 OF THE DUMP (.gsa) THAT YtkpnjnkfbhomgaaProg.lean LOADS. Nothing in Lean hashes anything: it is a label: what it is worth is what the hold of that sum in a sandbox is worth. -/
noncomputable def Try.pinned : Pinned := { name := "ytkpnjnkfbhomgaa", sum := "58206eec00420e8cc8d017b6f905cb6cab3519be8753f40bc813efb77ac6bf20", checked := Try.checked }
namespace Rows
def none {H : Type} : Left H := { results := [], args := [] }

/-- 'laws.FnExactProbeSkyOk': WHATEVER THE INPUT: true; the input reads as it did. -/
def fnExactProbeSkyOkSpec : ChangeSpec := { name := "fnExactProbeSkyOk", fn := fun _ => fun
  | [d] => { results := [.lit (.bool true)], args := [d] }
  | _ => none }
def fnExactProbeSkyOkRow : OpenClaim := { program := "ytkpnjnkfbhomgaa", sum := "58206eec00420e8cc8d017b6f905cb6cab3519be8753f40bc813efb77ac6bf20", func := "loop.example/laplink/laws.FnExactProbeSkyOk", spec := "fnExactProbeSkyOk", apart := false }
def FnExactProbeSkyOkSaid : Prop := fnExactProbeSkyOkRow.holds Try.pinned (OpenSpec.ofChange fnExactProbeSkyOkSpec)

/-- ITS FALSE NEIGHBOUR: 'it returns false'. Refute it at one input. -/
def fnExactProbeSkyOkWrong : ChangeSpec := { name := "fnExactProbeSkyOk", fn := fun _ => fun
  | [d] => { results := [.lit (.bool false)], args := [d] }
  | _ => none }
def FnExactProbeSkyOkWrongFalsely : Prop := fnExactProbeSkyOkRow.holds Try.pinned (OpenSpec.ofChange fnExactProbeSkyOkWrong)

/-- 'laws.FnExactLinkBookOk': WHATEVER THE INPUT: true; the input reads as it did. -/
def fnExactLinkBookOkSpec : ChangeSpec := { name := "fnExactLinkBookOk", fn := fun _ => fun
  | [d1, d2] => { results := [.lit (.bool true)], args := [d1, d2] }
  | _ => none }
def fnExactLinkBookOkRow : OpenClaim := { program := "ytkpnjnkfbhomgaa", sum := "58206eec00420e8cc8d017b6f905cb6cab3519be8753f40bc813efb77ac6bf20", func := "loop.example/laplink/laws.FnExactLinkBookOk", spec := "fnExactLinkBookOk", apart := false }
def FnExactLinkBookOkSaid : Prop := fnExactLinkBookOkRow.holds Try.pinned (OpenSpec.ofChange fnExactLinkBookOkSpec)

/-- ITS FALSE NEIGHBOUR: 'it returns false'. Refute it at one input. -/
def fnExactLinkBookOkWrong : ChangeSpec := { name := "fnExactLinkBookOk", fn := fun _ => fun
  | [d1, d2] => { results := [.lit (.bool false)], args := [d1, d2] }
  | _ => none }
def FnExactLinkBookOkWrongFalsely : Prop := fnExactLinkBookOkRow.holds Try.pinned (OpenSpec.ofChange fnExactLinkBookOkWrong)

/-- 'laws.FnExactLinkAgain': WHATEVER THE INPUT: true; the input reads as it did. -/
def fnExactLinkAgainSpec : ChangeSpec := { name := "fnExactLinkAgain", fn := fun _ => fun
  | [d1, d2] => { results := [.lit (.bool true)], args := [d1, d2] }
  | _ => none }
def fnExactLinkAgainRow : OpenClaim := { program := "ytkpnjnkfbhomgaa", sum := "58206eec00420e8cc8d017b6f905cb6cab3519be8753f40bc813efb77ac6bf20", func := "loop.example/laplink/laws.FnExactLinkAgain", spec := "fnExactLinkAgain", apart := false }
def FnExactLinkAgainSaid : Prop := fnExactLinkAgainRow.holds Try.pinned (OpenSpec.ofChange fnExactLinkAgainSpec)

/-- ITS FALSE NEIGHBOUR: 'it returns false'. Refute it at one input. -/
def fnExactLinkAgainWrong : ChangeSpec := { name := "fnExactLinkAgain", fn := fun _ => fun
  | [d1, d2] => { results := [.lit (.bool false)], args := [d1, d2] }
  | _ => none }
def FnExactLinkAgainWrongFalsely : Prop := fnExactLinkAgainRow.holds Try.pinned (OpenSpec.ofChange fnExactLinkAgainWrong)

/-- 'laws.FnExactLinkHear': WHATEVER THE INPUT: true; the input reads as it did. -/
def fnExactLinkHearSpec : ChangeSpec := { name := "fnExactLinkHear", fn := fun _ => fun
  | [d1, d2] => { results := [.lit (.bool true)], args := [d1, d2] }
  | _ => none }
def fnExactLinkHearRow : OpenClaim := { program := "ytkpnjnkfbhomgaa", sum := "58206eec00420e8cc8d017b6f905cb6cab3519be8753f40bc813efb77ac6bf20", func := "loop.example/laplink/laws.FnExactLinkHear", spec := "fnExactLinkHear", apart := false }
def FnExactLinkHearSaid : Prop := fnExactLinkHearRow.holds Try.pinned (OpenSpec.ofChange fnExactLinkHearSpec)

/-- ITS FALSE NEIGHBOUR: 'it returns false'. Refute it at one input. -/
def fnExactLinkHearWrong : ChangeSpec := { name := "fnExactLinkHear", fn := fun _ => fun
  | [d1, d2] => { results := [.lit (.bool false)], args := [d1, d2] }
  | _ => none }
def FnExactLinkHearWrongFalsely : Prop := fnExactLinkHearRow.holds Try.pinned (OpenSpec.ofChange fnExactLinkHearWrong)

/-- 'laws.FnExactLinkFree': WHATEVER THE INPUT: true; the input reads as it did. -/
def fnExactLinkFreeSpec : ChangeSpec := { name := "fnExactLinkFree", fn := fun _ => fun
  | [d1, d2, d3, d4] => { results := [.lit (.bool true)], args := [d1, d2, d3, d4] }
  | _ => none }
def fnExactLinkFreeRow : OpenClaim := { program := "ytkpnjnkfbhomgaa", sum := "58206eec00420e8cc8d017b6f905cb6cab3519be8753f40bc813efb77ac6bf20", func := "loop.example/laplink/laws.FnExactLinkFree", spec := "fnExactLinkFree", apart := false }
def FnExactLinkFreeSaid : Prop := fnExactLinkFreeRow.holds Try.pinned (OpenSpec.ofChange fnExactLinkFreeSpec)

/-- ITS FALSE NEIGHBOUR: 'it returns false'. Refute it at one input. -/
def fnExactLinkFreeWrong : ChangeSpec := { name := "fnExactLinkFree", fn := fun _ => fun
  | [d1, d2, d3, d4] => { results := [.lit (.bool false)], args := [d1, d2, d3, d4] }
  | _ => none }
def FnExactLinkFreeWrongFalsely : Prop := fnExactLinkFreeRow.holds Try.pinned (OpenSpec.ofChange fnExactLinkFreeWrong)

/-- 'laws.FnExactLinkPast': WHATEVER THE INPUT: true; the input reads as it did. -/
def fnExactLinkPastSpec : ChangeSpec := { name := "fnExactLinkPast", fn := fun _ => fun
  | [d1, d2] => { results := [.lit (.bool true)], args := [d1, d2] }
  | _ => none }
def fnExactLinkPastRow : OpenClaim := { program := "ytkpnjnkfbhomgaa", sum := "58206eec00420e8cc8d017b6f905cb6cab3519be8753f40bc813efb77ac6bf20", func := "loop.example/laplink/laws.FnExactLinkPast", spec := "fnExactLinkPast", apart := false }
def FnExactLinkPastSaid : Prop := fnExactLinkPastRow.holds Try.pinned (OpenSpec.ofChange fnExactLinkPastSpec)

/-- ITS FALSE NEIGHBOUR: 'it returns false'. Refute it at one input. -/
def fnExactLinkPastWrong : ChangeSpec := { name := "fnExactLinkPast", fn := fun _ => fun
  | [d1, d2] => { results := [.lit (.bool false)], args := [d1, d2] }
  | _ => none }
def FnExactLinkPastWrongFalsely : Prop := fnExactLinkPastRow.holds Try.pinned (OpenSpec.ofChange fnExactLinkPastWrong)

/-- 'laws.FnExactLinkTake': WHATEVER THE INPUT: true; the input reads as it did. -/
def fnExactLinkTakeSpec : ChangeSpec := { name := "fnExactLinkTake", fn := fun _ => fun
  | [d1, d2, d3] => { results := [.lit (.bool true)], args := [d1, d2, d3] }
  | _ => none }
def fnExactLinkTakeRow : OpenClaim := { program := "ytkpnjnkfbhomgaa", sum := "58206eec00420e8cc8d017b6f905cb6cab3519be8753f40bc813efb77ac6bf20", func := "loop.example/laplink/laws.FnExactLinkTake", spec := "fnExactLinkTake", apart := false }
def FnExactLinkTakeSaid : Prop := fnExactLinkTakeRow.holds Try.pinned (OpenSpec.ofChange fnExactLinkTakeSpec)

/-- ITS FALSE NEIGHBOUR: 'it returns false'. Refute it at one input. -/
def fnExactLinkTakeWrong : ChangeSpec := { name := "fnExactLinkTake", fn := fun _ => fun
  | [d1, d2, d3] => { results := [.lit (.bool false)], args := [d1, d2, d3] }
  | _ => none }
def FnExactLinkTakeWrongFalsely : Prop := fnExactLinkTakeRow.holds Try.pinned (OpenSpec.ofChange fnExactLinkTakeWrong)

/-- 'laws.FnExactLinkSend': WHATEVER THE INPUT: true; the input reads as it did. -/
def fnExactLinkSendSpec : ChangeSpec := { name := "fnExactLinkSend", fn := fun _ => fun
  | [d1, d2, d3, d4] => { results := [.lit (.bool true)], args := [d1, d2, d3, d4] }
  | _ => none }
def fnExactLinkSendRow : OpenClaim := { program := "ytkpnjnkfbhomgaa", sum := "58206eec00420e8cc8d017b6f905cb6cab3519be8753f40bc813efb77ac6bf20", func := "loop.example/laplink/laws.FnExactLinkSend", spec := "fnExactLinkSend", apart := false }
def FnExactLinkSendSaid : Prop := fnExactLinkSendRow.holds Try.pinned (OpenSpec.ofChange fnExactLinkSendSpec)

/-- ITS FALSE NEIGHBOUR: 'it returns false'. Refute it at one input. -/
def fnExactLinkSendWrong : ChangeSpec := { name := "fnExactLinkSend", fn := fun _ => fun
  | [d1, d2, d3, d4] => { results := [.lit (.bool false)], args := [d1, d2, d3, d4] }
  | _ => none }
def FnExactLinkSendWrongFalsely : Prop := fnExactLinkSendRow.holds Try.pinned (OpenSpec.ofChange fnExactLinkSendWrong)

/- THE SECOND FORM. 'bulk': how many values and letters a reading holds, each counted each time it is reached (what is shared counts as often as it is met; a slice's spare places count too). A statement '..UptoSaid' is the law's where the arguments, and the package variables that the reading takes, are together of bulk at most 1048576: NARROWER than '..Said'. Prove '..Said' where nothing that the law and all that it calls make is longer than what came in: it says more and counts as full. Else prove '..UptoSaid'. A law counts once. -/
mutual
def uptoBulk {H : Type} : DataW H → Nat
  | .lit (.string bytes) => bytes.length + 1
  | .lit _ => 1
  | .nil => 1
  | .ptr d => uptoBulk d + 1
  | .slice elems spare => uptoBulkAll elems + uptoBulkAll spare + 1
  | .agg parts => uptoBulkAll parts + 1
  | .iface _ d => uptoBulk d + 1
  | .map entries => uptoBulkEntries entries + 1
  | .held _ => 1
def uptoBulkAll {H : Type} : List (DataW H) → Nat
  | [] => 0
  | d :: r => uptoBulk d + uptoBulkAll r
def uptoBulkEntries {H : Type} : List (Lit × DataW H) → Nat
  | [] => 0
  | x :: r => uptoBulkEntry x + uptoBulkEntries r
def uptoBulkEntry {H : Type} : Lit × DataW H → Nat
  | (.string bytes, d) => bytes.length + uptoBulk d + 1
  | (_, d) => uptoBulk d + 1
 end
def uptoSmall : (H : Type) → List (DataW H) → Bool := fun _ ds => decide (uptoBulkAll ds ≤ 1048576)
def OpenSpec.upto (s : _root_.Go.ChangeSpec) : _root_.Go.OpenSpec := { _root_.Go.OpenSpec.ofChange s with cond := some uptoSmall }

/-- 'laws.FnExactProbeSkyOk', WHERE WHAT IT READS IS OF BULK AT MOST 1048576: true; the input reads as it did. -/
def fnExactProbeSkyOkUptoRow : OpenClaim := { program := "ytkpnjnkfbhomgaa", sum := "58206eec00420e8cc8d017b6f905cb6cab3519be8753f40bc813efb77ac6bf20", func := "loop.example/laplink/laws.FnExactProbeSkyOk", spec := "fnExactProbeSkyOk", apart := false, narrowed := true }
def FnExactProbeSkyOkUptoSaid : Prop := fnExactProbeSkyOkUptoRow.holds Try.pinned (OpenSpec.upto fnExactProbeSkyOkSpec)

/-- 'laws.FnExactLinkBookOk', WHERE WHAT IT READS IS OF BULK AT MOST 1048576: true; the input reads as it did. -/
def fnExactLinkBookOkUptoRow : OpenClaim := { program := "ytkpnjnkfbhomgaa", sum := "58206eec00420e8cc8d017b6f905cb6cab3519be8753f40bc813efb77ac6bf20", func := "loop.example/laplink/laws.FnExactLinkBookOk", spec := "fnExactLinkBookOk", apart := false, narrowed := true }
def FnExactLinkBookOkUptoSaid : Prop := fnExactLinkBookOkUptoRow.holds Try.pinned (OpenSpec.upto fnExactLinkBookOkSpec)

/-- 'laws.FnExactLinkAgain', WHERE WHAT IT READS IS OF BULK AT MOST 1048576: true; the input reads as it did. -/
def fnExactLinkAgainUptoRow : OpenClaim := { program := "ytkpnjnkfbhomgaa", sum := "58206eec00420e8cc8d017b6f905cb6cab3519be8753f40bc813efb77ac6bf20", func := "loop.example/laplink/laws.FnExactLinkAgain", spec := "fnExactLinkAgain", apart := false, narrowed := true }
def FnExactLinkAgainUptoSaid : Prop := fnExactLinkAgainUptoRow.holds Try.pinned (OpenSpec.upto fnExactLinkAgainSpec)

/-- 'laws.FnExactLinkHear', WHERE WHAT IT READS IS OF BULK AT MOST 1048576: true; the input reads as it did. -/
def fnExactLinkHearUptoRow : OpenClaim := { program := "ytkpnjnkfbhomgaa", sum := "58206eec00420e8cc8d017b6f905cb6cab3519be8753f40bc813efb77ac6bf20", func := "loop.example/laplink/laws.FnExactLinkHear", spec := "fnExactLinkHear", apart := false, narrowed := true }
def FnExactLinkHearUptoSaid : Prop := fnExactLinkHearUptoRow.holds Try.pinned (OpenSpec.upto fnExactLinkHearSpec)

/-- 'laws.FnExactLinkFree', WHERE WHAT IT READS IS OF BULK AT MOST 1048576: true; the input reads as it did. -/
def fnExactLinkFreeUptoRow : OpenClaim := { program := "ytkpnjnkfbhomgaa", sum := "58206eec00420e8cc8d017b6f905cb6cab3519be8753f40bc813efb77ac6bf20", func := "loop.example/laplink/laws.FnExactLinkFree", spec := "fnExactLinkFree", apart := false, narrowed := true }
def FnExactLinkFreeUptoSaid : Prop := fnExactLinkFreeUptoRow.holds Try.pinned (OpenSpec.upto fnExactLinkFreeSpec)

/-- 'laws.FnExactLinkPast', WHERE WHAT IT READS IS OF BULK AT MOST 1048576: true; the input reads as it did. -/
def fnExactLinkPastUptoRow : OpenClaim := { program := "ytkpnjnkfbhomgaa", sum := "58206eec00420e8cc8d017b6f905cb6cab3519be8753f40bc813efb77ac6bf20", func := "loop.example/laplink/laws.FnExactLinkPast", spec := "fnExactLinkPast", apart := false, narrowed := true }
def FnExactLinkPastUptoSaid : Prop := fnExactLinkPastUptoRow.holds Try.pinned (OpenSpec.upto fnExactLinkPastSpec)

/-- 'laws.FnExactLinkTake', WHERE WHAT IT READS IS OF BULK AT MOST 1048576: true; the input reads as it did. -/
def fnExactLinkTakeUptoRow : OpenClaim := { program := "ytkpnjnkfbhomgaa", sum := "58206eec00420e8cc8d017b6f905cb6cab3519be8753f40bc813efb77ac6bf20", func := "loop.example/laplink/laws.FnExactLinkTake", spec := "fnExactLinkTake", apart := false, narrowed := true }
def FnExactLinkTakeUptoSaid : Prop := fnExactLinkTakeUptoRow.holds Try.pinned (OpenSpec.upto fnExactLinkTakeSpec)

/-- 'laws.FnExactLinkSend', WHERE WHAT IT READS IS OF BULK AT MOST 1048576: true; the input reads as it did. -/
def fnExactLinkSendUptoRow : OpenClaim := { program := "ytkpnjnkfbhomgaa", sum := "58206eec00420e8cc8d017b6f905cb6cab3519be8753f40bc813efb77ac6bf20", func := "loop.example/laplink/laws.FnExactLinkSend", spec := "fnExactLinkSend", apart := false, narrowed := true }
def FnExactLinkSendUptoSaid : Prop := fnExactLinkSendUptoRow.holds Try.pinned (OpenSpec.upto fnExactLinkSendSpec)

end Rows
end Go.Proofs.Ytkpnjnkfbhomgaa
