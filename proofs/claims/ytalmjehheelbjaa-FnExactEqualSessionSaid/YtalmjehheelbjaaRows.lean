/-
  No cell of these rows narrows 'for every input' (looked for: loops, veiled, ifaces, maps, wideKeys, modest, calm, conditions, laid).
  DERIVED. THE GIVEN ROWS OF THIS SEAT. 8 by the template 'for every input the law returns true; each argument reads behind the call as it read before'; 0 by the template 'total and deterministic' (their statements: YtalmjehheelbjaaTotals.lean).
  GIVEN WITH THE SEED: the statements are not yours to turn. If you find one false, say at which input.
  Laid BY PROGRAM, IN A SANDBOX (cutbox-rows.mjs): the forced cells as the released guide's own fill.sh prints them over the translation 9c41c8c6342e0140… (all of the seat's roots in one cut). By AI agents, Wed Nov 11 2026. No macro, syntax, notation, axiom, sorry.
-/
import Derived.Test.YtalmjehheelbjaaChecked
import GoSem.Claim
import GoSem.ClaimJoined
import GoSem.ClaimMapViews
import Derived.JoinedTies
import Derived.KernelRfl
namespace Go.Proofs.Ytalmjehheelbjaa
/- THE CELL 'sum', in the pinned program and in every row, IS THE sha256 OF THE DUMP (.gsa) THAT YtalmjehheelbjaaProg.lean LOADS. Nothing in Lean hashes anything: it is a label: what it is worth is what the hold of that sum in a sandbox is worth. -/
noncomputable def Try.pinned : Pinned := { name := "ytalmjehheelbjaa", sum := "9c41c8c6342e01409c7166a657e08e13700acbc94fbba7f1bdbeb3b5e57bec5a", checked := Try.checked }
namespace Rows
def none {H : Type} : Left H := { results := [], args := [] }

/-- 'laws.FnExactExampleText': WHATEVER THE INPUT: true; the input reads as it did. -/
def fnExactExampleTextSpec : ChangeSpec := { name := "fnExactExampleText", fn := fun _ => fun
  | [d] => { results := [.lit (.bool true)], args := [d] }
  | _ => none }
def fnExactExampleTextRow : OpenClaim := { program := "ytalmjehheelbjaa", sum := "9c41c8c6342e01409c7166a657e08e13700acbc94fbba7f1bdbeb3b5e57bec5a", func := "loop.example/g00593/laws.FnExactExampleText", spec := "fnExactExampleText", apart := false }
def FnExactExampleTextSaid : Prop := fnExactExampleTextRow.holds Try.pinned (OpenSpec.ofChange fnExactExampleTextSpec)

/-- ITS FALSE NEIGHBOUR: 'it returns false'. Refute it at one input. -/
def fnExactExampleTextWrong : ChangeSpec := { name := "fnExactExampleText", fn := fun _ => fun
  | [d] => { results := [.lit (.bool false)], args := [d] }
  | _ => none }
def FnExactExampleTextWrongFalsely : Prop := fnExactExampleTextRow.holds Try.pinned (OpenSpec.ofChange fnExactExampleTextWrong)

/-- 'laws.FnExactEvaluateAt': WHATEVER THE INPUT: true; the input reads as it did. -/
def fnExactEvaluateAtSpec : ChangeSpec := { name := "fnExactEvaluateAt", fn := fun _ => fun
  | [d1, d2] => { results := [.lit (.bool true)], args := [d1, d2] }
  | _ => none }
def fnExactEvaluateAtRow : OpenClaim := { program := "ytalmjehheelbjaa", sum := "9c41c8c6342e01409c7166a657e08e13700acbc94fbba7f1bdbeb3b5e57bec5a", func := "loop.example/g00593/laws.FnExactEvaluateAt", spec := "fnExactEvaluateAt", apart := false }
def FnExactEvaluateAtSaid : Prop := fnExactEvaluateAtRow.holds Try.pinned (OpenSpec.ofChange fnExactEvaluateAtSpec)

/-- ITS FALSE NEIGHBOUR: 'it returns false'. Refute it at one input. -/
def fnExactEvaluateAtWrong : ChangeSpec := { name := "fnExactEvaluateAt", fn := fun _ => fun
  | [d1, d2] => { results := [.lit (.bool false)], args := [d1, d2] }
  | _ => none }
def FnExactEvaluateAtWrongFalsely : Prop := fnExactEvaluateAtRow.holds Try.pinned (OpenSpec.ofChange fnExactEvaluateAtWrong)

/-- 'laws.FnExactAreTasks': WHATEVER THE INPUT: true; the input reads as it did. -/
def fnExactAreTasksSpec : ChangeSpec := { name := "fnExactAreTasks", fn := fun _ => fun
  | [d] => { results := [.lit (.bool true)], args := [d] }
  | _ => none }
def fnExactAreTasksRow : OpenClaim := { program := "ytalmjehheelbjaa", sum := "9c41c8c6342e01409c7166a657e08e13700acbc94fbba7f1bdbeb3b5e57bec5a", func := "loop.example/g00593/laws.FnExactAreTasks", spec := "fnExactAreTasks", apart := false }
def FnExactAreTasksSaid : Prop := fnExactAreTasksRow.holds Try.pinned (OpenSpec.ofChange fnExactAreTasksSpec)

/-- ITS FALSE NEIGHBOUR: 'it returns false'. Refute it at one input. -/
def fnExactAreTasksWrong : ChangeSpec := { name := "fnExactAreTasks", fn := fun _ => fun
  | [d] => { results := [.lit (.bool false)], args := [d] }
  | _ => none }
def FnExactAreTasksWrongFalsely : Prop := fnExactAreTasksRow.holds Try.pinned (OpenSpec.ofChange fnExactAreTasksWrong)

/-- 'laws.FnExactEarningsOf': WHATEVER THE INPUT: true; the input reads as it did. -/
def fnExactEarningsOfSpec : ChangeSpec := { name := "fnExactEarningsOf", fn := fun _ => fun
  | [d1, d2] => { results := [.lit (.bool true)], args := [d1, d2] }
  | _ => none }
def fnExactEarningsOfRow : OpenClaim := { program := "ytalmjehheelbjaa", sum := "9c41c8c6342e01409c7166a657e08e13700acbc94fbba7f1bdbeb3b5e57bec5a", func := "loop.example/g00593/laws.FnExactEarningsOf", spec := "fnExactEarningsOf", apart := false }
def FnExactEarningsOfSaid : Prop := fnExactEarningsOfRow.holds Try.pinned (OpenSpec.ofChange fnExactEarningsOfSpec)

/-- ITS FALSE NEIGHBOUR: 'it returns false'. Refute it at one input. -/
def fnExactEarningsOfWrong : ChangeSpec := { name := "fnExactEarningsOf", fn := fun _ => fun
  | [d1, d2] => { results := [.lit (.bool false)], args := [d1, d2] }
  | _ => none }
def FnExactEarningsOfWrongFalsely : Prop := fnExactEarningsOfRow.holds Try.pinned (OpenSpec.ofChange fnExactEarningsOfWrong)

/-- 'laws.FnExactEvaluateTutte': WHATEVER THE INPUT: true; the input reads as it did. -/
def fnExactEvaluateTutteSpec : ChangeSpec := { name := "fnExactEvaluateTutte", fn := fun _ => fun
  | [d1, d2, d3] => { results := [.lit (.bool true)], args := [d1, d2, d3] }
  | _ => none }
def fnExactEvaluateTutteRow : OpenClaim := { program := "ytalmjehheelbjaa", sum := "9c41c8c6342e01409c7166a657e08e13700acbc94fbba7f1bdbeb3b5e57bec5a", func := "loop.example/g00593/laws.FnExactEvaluateTutte", spec := "fnExactEvaluateTutte", apart := false }
def FnExactEvaluateTutteSaid : Prop := fnExactEvaluateTutteRow.holds Try.pinned (OpenSpec.ofChange fnExactEvaluateTutteSpec)

/-- ITS FALSE NEIGHBOUR: 'it returns false'. Refute it at one input. -/
def fnExactEvaluateTutteWrong : ChangeSpec := { name := "fnExactEvaluateTutte", fn := fun _ => fun
  | [d1, d2, d3] => { results := [.lit (.bool false)], args := [d1, d2, d3] }
  | _ => none }
def FnExactEvaluateTutteWrongFalsely : Prop := fnExactEvaluateTutteRow.holds Try.pinned (OpenSpec.ofChange fnExactEvaluateTutteWrong)

/-- 'laws.FnExactEqualSession': WHATEVER THE INPUT: true; the input reads as it did. -/
def fnExactEqualSessionSpec : ChangeSpec := { name := "fnExactEqualSession", fn := fun _ => fun
  | [d1, d2] => { results := [.lit (.bool true)], args := [d1, d2] }
  | _ => none }
def fnExactEqualSessionRow : OpenClaim := { program := "ytalmjehheelbjaa", sum := "9c41c8c6342e01409c7166a657e08e13700acbc94fbba7f1bdbeb3b5e57bec5a", func := "loop.example/g00593/laws.FnExactEqualSession", spec := "fnExactEqualSession", apart := false }
def FnExactEqualSessionSaid : Prop := fnExactEqualSessionRow.holds Try.pinned (OpenSpec.ofChange fnExactEqualSessionSpec)

/-- ITS FALSE NEIGHBOUR: 'it returns false'. Refute it at one input. -/
def fnExactEqualSessionWrong : ChangeSpec := { name := "fnExactEqualSession", fn := fun _ => fun
  | [d1, d2] => { results := [.lit (.bool false)], args := [d1, d2] }
  | _ => none }
def FnExactEqualSessionWrongFalsely : Prop := fnExactEqualSessionRow.holds Try.pinned (OpenSpec.ofChange fnExactEqualSessionWrong)

/-- 'laws.FnExactShiftTable': WHATEVER THE INPUT: true; the input reads as it did. -/
def fnExactShiftTableSpec : ChangeSpec := { name := "fnExactShiftTable", fn := fun _ => fun
  | [d1, d2, d3] => { results := [.lit (.bool true)], args := [d1, d2, d3] }
  | _ => none }
def fnExactShiftTableRow : OpenClaim := { program := "ytalmjehheelbjaa", sum := "9c41c8c6342e01409c7166a657e08e13700acbc94fbba7f1bdbeb3b5e57bec5a", func := "loop.example/g00593/laws.FnExactShiftTable", spec := "fnExactShiftTable", apart := false }
def FnExactShiftTableSaid : Prop := fnExactShiftTableRow.holds Try.pinned (OpenSpec.ofChange fnExactShiftTableSpec)

/-- ITS FALSE NEIGHBOUR: 'it returns false'. Refute it at one input. -/
def fnExactShiftTableWrong : ChangeSpec := { name := "fnExactShiftTable", fn := fun _ => fun
  | [d1, d2, d3] => { results := [.lit (.bool false)], args := [d1, d2, d3] }
  | _ => none }
def FnExactShiftTableWrongFalsely : Prop := fnExactShiftTableRow.holds Try.pinned (OpenSpec.ofChange fnExactShiftTableWrong)

/-- 'laws.FnExactAddTables': WHATEVER THE INPUT: true; the input reads as it did. -/
def fnExactAddTablesSpec : ChangeSpec := { name := "fnExactAddTables", fn := fun _ => fun
  | [d1, d2] => { results := [.lit (.bool true)], args := [d1, d2] }
  | _ => none }
def fnExactAddTablesRow : OpenClaim := { program := "ytalmjehheelbjaa", sum := "9c41c8c6342e01409c7166a657e08e13700acbc94fbba7f1bdbeb3b5e57bec5a", func := "loop.example/g00593/laws.FnExactAddTables", spec := "fnExactAddTables", apart := false }
def FnExactAddTablesSaid : Prop := fnExactAddTablesRow.holds Try.pinned (OpenSpec.ofChange fnExactAddTablesSpec)

/-- ITS FALSE NEIGHBOUR: 'it returns false'. Refute it at one input. -/
def fnExactAddTablesWrong : ChangeSpec := { name := "fnExactAddTables", fn := fun _ => fun
  | [d1, d2] => { results := [.lit (.bool false)], args := [d1, d2] }
  | _ => none }
def FnExactAddTablesWrongFalsely : Prop := fnExactAddTablesRow.holds Try.pinned (OpenSpec.ofChange fnExactAddTablesWrong)

/- THE SECOND FORM. 'bulk': how many values and letters a reading holds, each counted each time it is reached (what is shared counts as often as it is met; a slice's spare places count too). A statement '..UptoSaid' is the law's where the arguments, and the package variables that the reading takes, are together of bulk at most 1048576: NARROWER than '..Said'. Prove '..Said' where nothing that the law and all that it calls make is longer than what came in: it says more and counts as full. Else prove '..UptoSaid'. A law counts once. -/
mutual
def uptoBulk {H : Type} : DataW H → Nat
  | .lit (.string bytes) => bytes.length + 1
  | .lit _ => 1
  | .nil => 1
  | .ptr d => uptoBulk d + 1
  | .slice elems spare => uptoBulkAll elems + uptoBulkAll spare + 1
  | .agg parts => uptoBulkAll parts + 1
  | .iface _ d => uptoBulk d + 1
  | .map entries => uptoBulkEntries entries + 1
  | .held _ => 1
def uptoBulkAll {H : Type} : List (DataW H) → Nat
  | [] => 0
  | d :: r => uptoBulk d + uptoBulkAll r
def uptoBulkEntries {H : Type} : List (Lit × DataW H) → Nat
  | [] => 0
  | x :: r => uptoBulkEntry x + uptoBulkEntries r
def uptoBulkEntry {H : Type} : Lit × DataW H → Nat
  | (.string bytes, d) => bytes.length + uptoBulk d + 1
  | (_, d) => uptoBulk d + 1
 end
def uptoSmall : (H : Type) → List (DataW H) → Bool := fun _ ds => decide (uptoBulkAll ds ≤ 1048576)
def OpenSpec.upto (s : _root_.Go.ChangeSpec) : _root_.Go.OpenSpec := { _root_.Go.OpenSpec.ofChange s with cond := some uptoSmall }

/-- 'laws.FnExactExampleText', WHERE WHAT IT READS IS OF BULK AT MOST 1048576: true; the input reads as it did. -/
def fnExactExampleTextUptoRow : OpenClaim := { program := "ytalmjehheelbjaa", sum := "9c41c8c6342e01409c7166a657e08e13700acbc94fbba7f1bdbeb3b5e57bec5a", func := "loop.example/g00593/laws.FnExactExampleText", spec := "fnExactExampleText", apart := false, narrowed := true }
def FnExactExampleTextUptoSaid : Prop := fnExactExampleTextUptoRow.holds Try.pinned (OpenSpec.upto fnExactExampleTextSpec)

/-- 'laws.FnExactEvaluateAt', WHERE WHAT IT READS IS OF BULK AT MOST 1048576: true; the input reads as it did. -/
def fnExactEvaluateAtUptoRow : OpenClaim := { program := "ytalmjehheelbjaa", sum := "9c41c8c6342e01409c7166a657e08e13700acbc94fbba7f1bdbeb3b5e57bec5a", func := "loop.example/g00593/laws.FnExactEvaluateAt", spec := "fnExactEvaluateAt", apart := false, narrowed := true }
def FnExactEvaluateAtUptoSaid : Prop := fnExactEvaluateAtUptoRow.holds Try.pinned (OpenSpec.upto fnExactEvaluateAtSpec)

/-- 'laws.FnExactAreTasks', WHERE WHAT IT READS IS OF BULK AT MOST 1048576: true; the input reads as it did. -/
def fnExactAreTasksUptoRow : OpenClaim := { program := "ytalmjehheelbjaa", sum := "9c41c8c6342e01409c7166a657e08e13700acbc94fbba7f1bdbeb3b5e57bec5a", func := "loop.example/g00593/laws.FnExactAreTasks", spec := "fnExactAreTasks", apart := false, narrowed := true }
def FnExactAreTasksUptoSaid : Prop := fnExactAreTasksUptoRow.holds Try.pinned (OpenSpec.upto fnExactAreTasksSpec)

/-- 'laws.FnExactEarningsOf', WHERE WHAT IT READS IS OF BULK AT MOST 1048576: true; the input reads as it did. -/
def fnExactEarningsOfUptoRow : OpenClaim := { program := "ytalmjehheelbjaa", sum := "9c41c8c6342e01409c7166a657e08e13700acbc94fbba7f1bdbeb3b5e57bec5a", func := "loop.example/g00593/laws.FnExactEarningsOf", spec := "fnExactEarningsOf", apart := false, narrowed := true }
def FnExactEarningsOfUptoSaid : Prop := fnExactEarningsOfUptoRow.holds Try.pinned (OpenSpec.upto fnExactEarningsOfSpec)

/-- 'laws.FnExactEvaluateTutte', WHERE WHAT IT READS IS OF BULK AT MOST 1048576: true; the input reads as it did. -/
def fnExactEvaluateTutteUptoRow : OpenClaim := { program := "ytalmjehheelbjaa", sum := "9c41c8c6342e01409c7166a657e08e13700acbc94fbba7f1bdbeb3b5e57bec5a", func := "loop.example/g00593/laws.FnExactEvaluateTutte", spec := "fnExactEvaluateTutte", apart := false, narrowed := true }
def FnExactEvaluateTutteUptoSaid : Prop := fnExactEvaluateTutteUptoRow.holds Try.pinned (OpenSpec.upto fnExactEvaluateTutteSpec)

/-- 'laws.FnExactEqualSession', WHERE WHAT IT READS IS OF BULK AT MOST 1048576: true; the input reads as it did. -/
def fnExactEqualSessionUptoRow : OpenClaim := { program := "ytalmjehheelbjaa", sum := "9c41c8c6342e01409c7166a657e08e13700acbc94fbba7f1bdbeb3b5e57bec5a", func := "loop.example/g00593/laws.FnExactEqualSession", spec := "fnExactEqualSession", apart := false, narrowed := true }
def FnExactEqualSessionUptoSaid : Prop := fnExactEqualSessionUptoRow.holds Try.pinned (OpenSpec.upto fnExactEqualSessionSpec)

/-- 'laws.FnExactShiftTable', WHERE WHAT IT READS IS OF BULK AT MOST 1048576: true; the input reads as it did. -/
def fnExactShiftTableUptoRow : OpenClaim := { program := "ytalmjehheelbjaa", sum := "9c41c8c6342e01409c7166a657e08e13700acbc94fbba7f1bdbeb3b5e57bec5a", func := "loop.example/g00593/laws.FnExactShiftTable", spec := "fnExactShiftTable", apart := false, narrowed := true }
def FnExactShiftTableUptoSaid : Prop := fnExactShiftTableUptoRow.holds Try.pinned (OpenSpec.upto fnExactShiftTableSpec)

/-- 'laws.FnExactAddTables', WHERE WHAT IT READS IS OF BULK AT MOST 1048576: true; the input reads as it did. -/
def fnExactAddTablesUptoRow : OpenClaim := { program := "ytalmjehheelbjaa", sum := "9c41c8c6342e01409c7166a657e08e13700acbc94fbba7f1bdbeb3b5e57bec5a", func := "loop.example/g00593/laws.FnExactAddTables", spec := "fnExactAddTables", apart := false, narrowed := true }
def FnExactAddTablesUptoSaid : Prop := fnExactAddTablesUptoRow.holds Try.pinned (OpenSpec.upto fnExactAddTablesSpec)

end Rows
end Go.Proofs.Ytalmjehheelbjaa
