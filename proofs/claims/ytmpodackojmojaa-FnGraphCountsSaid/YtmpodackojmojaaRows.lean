/-
  No cell of these rows narrows 'for every input' (looked for: loops, veiled, ifaces, maps, wideKeys, modest, calm, conditions, laid).
  DERIVED. THE GIVEN ROWS OF THIS SEAT. 9 by the template 'for every input the law returns true; each argument reads behind the call as it read before'; 0 by the template 'total and deterministic' (their statements: YtmpodackojmojaaTotals.lean).
  GIVEN WITH THE SEED: the statements are not yours to turn. If you find one false, say at which input.
  Laid BY PROGRAM, IN A SANDBOX (cutbox-rows.mjs): the forced cells as the released guide's own fill.sh prints them over the translation 1f6663fdd76f0444… (all of the seat's roots in one cut). By AI agents, Wed Nov 11 2026. No macro, syntax, notation, axiom, sorry.
-/
import Derived.Test.YtmpodackojmojaaChecked
import GoSem.Claim
import GoSem.ClaimJoined
import GoSem.ClaimMapViews
import Derived.JoinedTies
import Derived.KernelRfl
namespace Go.Proofs.Ytmpodackojmojaa
/- THE CELL 'sum', in the pinned program and in every row, IS THE sha256 OF THE DUMP (.gsa) THAT YtmpodackojmojaaProg.lean LOADS. Nothing in Lean hashes anything: it is a label: what it is worth is what the hold of that sum in a sandbox is worth. -/
noncomputable def Try.pinned : Pinned := { name := "ytmpodackojmojaa", sum := "1f6663fdd76f044418d5b98f1060e88d69acbc12267e9153999a53f5896a3b4b", checked := Try.checked }
namespace Rows
def none {H : Type} : Left H := { results := [], args := [] }

/-- 'laws.FnExactPlanOf': WHATEVER THE INPUT: true; the input reads as it did. -/
def fnExactPlanOfSpec : ChangeSpec := { name := "fnExactPlanOf", fn := fun _ => fun
  | [d1, d2] => { results := [.lit (.bool true)], args := [d1, d2] }
  | _ => none }
def fnExactPlanOfRow : OpenClaim := { program := "ytmpodackojmojaa", sum := "1f6663fdd76f044418d5b98f1060e88d69acbc12267e9153999a53f5896a3b4b", func := "loop.example/g00593/laws.FnExactPlanOf", spec := "fnExactPlanOf", unfollowed := true, recurses := true, apart := false }
def FnExactPlanOfSaid : Prop := fnExactPlanOfRow.holds Try.pinned (OpenSpec.ofChange fnExactPlanOfSpec)

/-- ITS FALSE NEIGHBOUR: 'it returns false'. Refute it at one input. -/
def fnExactPlanOfWrong : ChangeSpec := { name := "fnExactPlanOf", fn := fun _ => fun
  | [d1, d2] => { results := [.lit (.bool false)], args := [d1, d2] }
  | _ => none }
def FnExactPlanOfWrongFalsely : Prop := fnExactPlanOfRow.holds Try.pinned (OpenSpec.ofChange fnExactPlanOfWrong)

/-- 'laws.FnExactTaskMatroid': WHATEVER THE INPUT: true; the input reads as it did. -/
def fnExactTaskMatroidSpec : ChangeSpec := { name := "fnExactTaskMatroid", fn := fun _ => fun
  | [d] => { results := [.lit (.bool true)], args := [d] }
  | _ => none }
def fnExactTaskMatroidRow : OpenClaim := { program := "ytmpodackojmojaa", sum := "1f6663fdd76f044418d5b98f1060e88d69acbc12267e9153999a53f5896a3b4b", func := "loop.example/g00593/laws.FnExactTaskMatroid", spec := "fnExactTaskMatroid", unfollowed := true, recurses := true, apart := false }
def FnExactTaskMatroidSaid : Prop := fnExactTaskMatroidRow.holds Try.pinned (OpenSpec.ofChange fnExactTaskMatroidSpec)

/-- ITS FALSE NEIGHBOUR: 'it returns false'. Refute it at one input. -/
def fnExactTaskMatroidWrong : ChangeSpec := { name := "fnExactTaskMatroid", fn := fun _ => fun
  | [d] => { results := [.lit (.bool false)], args := [d] }
  | _ => none }
def FnExactTaskMatroidWrongFalsely : Prop := fnExactTaskMatroidRow.holds Try.pinned (OpenSpec.ofChange fnExactTaskMatroidWrong)

/-- 'laws.FnExactLateTasks': WHATEVER THE INPUT: true; the input reads as it did. -/
def fnExactLateTasksSpec : ChangeSpec := { name := "fnExactLateTasks", fn := fun _ => fun
  | [d] => { results := [.lit (.bool true)], args := [d] }
  | _ => none }
def fnExactLateTasksRow : OpenClaim := { program := "ytmpodackojmojaa", sum := "1f6663fdd76f044418d5b98f1060e88d69acbc12267e9153999a53f5896a3b4b", func := "loop.example/g00593/laws.FnExactLateTasks", spec := "fnExactLateTasks", unfollowed := true, recurses := true, apart := false }
def FnExactLateTasksSaid : Prop := fnExactLateTasksRow.holds Try.pinned (OpenSpec.ofChange fnExactLateTasksSpec)

/-- ITS FALSE NEIGHBOUR: 'it returns false'. Refute it at one input. -/
def fnExactLateTasksWrong : ChangeSpec := { name := "fnExactLateTasks", fn := fun _ => fun
  | [d] => { results := [.lit (.bool false)], args := [d] }
  | _ => none }
def FnExactLateTasksWrongFalsely : Prop := fnExactLateTasksRow.holds Try.pinned (OpenSpec.ofChange fnExactLateTasksWrong)

/-- 'laws.FnExactBestTasks': WHATEVER THE INPUT: true; the input reads as it did. -/
def fnExactBestTasksSpec : ChangeSpec := { name := "fnExactBestTasks", fn := fun _ => fun
  | [d] => { results := [.lit (.bool true)], args := [d] }
  | _ => none }
def fnExactBestTasksRow : OpenClaim := { program := "ytmpodackojmojaa", sum := "1f6663fdd76f044418d5b98f1060e88d69acbc12267e9153999a53f5896a3b4b", func := "loop.example/g00593/laws.FnExactBestTasks", spec := "fnExactBestTasks", unfollowed := true, recurses := true, apart := false }
def FnExactBestTasksSaid : Prop := fnExactBestTasksRow.holds Try.pinned (OpenSpec.ofChange fnExactBestTasksSpec)

/-- ITS FALSE NEIGHBOUR: 'it returns false'. Refute it at one input. -/
def fnExactBestTasksWrong : ChangeSpec := { name := "fnExactBestTasks", fn := fun _ => fun
  | [d] => { results := [.lit (.bool false)], args := [d] }
  | _ => none }
def FnExactBestTasksWrongFalsely : Prop := fnExactBestTasksRow.holds Try.pinned (OpenSpec.ofChange fnExactBestTasksWrong)

/-- 'laws.FnExactIsBinary': WHATEVER THE INPUT: true; the input reads as it did. -/
def fnExactIsBinarySpec : ChangeSpec := { name := "fnExactIsBinary", fn := fun _ => fun
  | [d] => { results := [.lit (.bool true)], args := [d] }
  | _ => none }
def fnExactIsBinaryRow : OpenClaim := { program := "ytmpodackojmojaa", sum := "1f6663fdd76f044418d5b98f1060e88d69acbc12267e9153999a53f5896a3b4b", func := "loop.example/g00593/laws.FnExactIsBinary", spec := "fnExactIsBinary", unfollowed := true, recurses := true, apart := false }
def FnExactIsBinarySaid : Prop := fnExactIsBinaryRow.holds Try.pinned (OpenSpec.ofChange fnExactIsBinarySpec)

/-- ITS FALSE NEIGHBOUR: 'it returns false'. Refute it at one input. -/
def fnExactIsBinaryWrong : ChangeSpec := { name := "fnExactIsBinary", fn := fun _ => fun
  | [d] => { results := [.lit (.bool false)], args := [d] }
  | _ => none }
def FnExactIsBinaryWrongFalsely : Prop := fnExactIsBinaryRow.holds Try.pinned (OpenSpec.ofChange fnExactIsBinaryWrong)

/-- 'laws.FnExactIsTernary': WHATEVER THE INPUT: true; the input reads as it did. -/
def fnExactIsTernarySpec : ChangeSpec := { name := "fnExactIsTernary", fn := fun _ => fun
  | [d] => { results := [.lit (.bool true)], args := [d] }
  | _ => none }
def fnExactIsTernaryRow : OpenClaim := { program := "ytmpodackojmojaa", sum := "1f6663fdd76f044418d5b98f1060e88d69acbc12267e9153999a53f5896a3b4b", func := "loop.example/g00593/laws.FnExactIsTernary", spec := "fnExactIsTernary", unfollowed := true, recurses := true, apart := false }
def FnExactIsTernarySaid : Prop := fnExactIsTernaryRow.holds Try.pinned (OpenSpec.ofChange fnExactIsTernarySpec)

/-- ITS FALSE NEIGHBOUR: 'it returns false'. Refute it at one input. -/
def fnExactIsTernaryWrong : ChangeSpec := { name := "fnExactIsTernary", fn := fun _ => fun
  | [d] => { results := [.lit (.bool false)], args := [d] }
  | _ => none }
def FnExactIsTernaryWrongFalsely : Prop := fnExactIsTernaryRow.holds Try.pinned (OpenSpec.ofChange fnExactIsTernaryWrong)

/-- 'laws.FnExactIsRegular': WHATEVER THE INPUT: true; the input reads as it did. -/
def fnExactIsRegularSpec : ChangeSpec := { name := "fnExactIsRegular", fn := fun _ => fun
  | [d] => { results := [.lit (.bool true)], args := [d] }
  | _ => none }
def fnExactIsRegularRow : OpenClaim := { program := "ytmpodackojmojaa", sum := "1f6663fdd76f044418d5b98f1060e88d69acbc12267e9153999a53f5896a3b4b", func := "loop.example/g00593/laws.FnExactIsRegular", spec := "fnExactIsRegular", unfollowed := true, recurses := true, apart := false }
def FnExactIsRegularSaid : Prop := fnExactIsRegularRow.holds Try.pinned (OpenSpec.ofChange fnExactIsRegularSpec)

/-- ITS FALSE NEIGHBOUR: 'it returns false'. Refute it at one input. -/
def fnExactIsRegularWrong : ChangeSpec := { name := "fnExactIsRegular", fn := fun _ => fun
  | [d] => { results := [.lit (.bool false)], args := [d] }
  | _ => none }
def FnExactIsRegularWrongFalsely : Prop := fnExactIsRegularRow.holds Try.pinned (OpenSpec.ofChange fnExactIsRegularWrong)

/-- 'laws.FnExactFindMatrix': WHATEVER THE INPUT: true; the input reads as it did. -/
def fnExactFindMatrixSpec : ChangeSpec := { name := "fnExactFindMatrix", fn := fun _ => fun
  | [d1, d2] => { results := [.lit (.bool true)], args := [d1, d2] }
  | _ => none }
def fnExactFindMatrixRow : OpenClaim := { program := "ytmpodackojmojaa", sum := "1f6663fdd76f044418d5b98f1060e88d69acbc12267e9153999a53f5896a3b4b", func := "loop.example/g00593/laws.FnExactFindMatrix", spec := "fnExactFindMatrix", unfollowed := true, recurses := true, apart := false }
def FnExactFindMatrixSaid : Prop := fnExactFindMatrixRow.holds Try.pinned (OpenSpec.ofChange fnExactFindMatrixSpec)

/-- ITS FALSE NEIGHBOUR: 'it returns false'. Refute it at one input. -/
def fnExactFindMatrixWrong : ChangeSpec := { name := "fnExactFindMatrix", fn := fun _ => fun
  | [d1, d2] => { results := [.lit (.bool false)], args := [d1, d2] }
  | _ => none }
def FnExactFindMatrixWrongFalsely : Prop := fnExactFindMatrixRow.holds Try.pinned (OpenSpec.ofChange fnExactFindMatrixWrong)

/-- 'laws.FnGraphCounts': WHATEVER THE INPUT: true; the input reads as it did. -/
def fnGraphCountsSpec : ChangeSpec := { name := "fnGraphCounts", fn := fun _ => fun
  | [d] => { results := [.lit (.bool true)], args := [d] }
  | _ => none }
def fnGraphCountsRow : OpenClaim := { program := "ytmpodackojmojaa", sum := "1f6663fdd76f044418d5b98f1060e88d69acbc12267e9153999a53f5896a3b4b", func := "loop.example/g00593/laws.FnGraphCounts", spec := "fnGraphCounts", unfollowed := true, recurses := true, apart := false }
def FnGraphCountsSaid : Prop := fnGraphCountsRow.holds Try.pinned (OpenSpec.ofChange fnGraphCountsSpec)

/-- ITS FALSE NEIGHBOUR: 'it returns false'. Refute it at one input. -/
def fnGraphCountsWrong : ChangeSpec := { name := "fnGraphCounts", fn := fun _ => fun
  | [d] => { results := [.lit (.bool false)], args := [d] }
  | _ => none }
def FnGraphCountsWrongFalsely : Prop := fnGraphCountsRow.holds Try.pinned (OpenSpec.ofChange fnGraphCountsWrong)

/- THE SECOND FORM. 'bulk': how many values and letters a reading holds, each counted each time it is reached (what is shared counts as often as it is met; a slice's spare places count too). A statement '..UptoSaid' is the law's where the arguments, and the package variables that the reading takes, are together of bulk at most 1048576: NARROWER than '..Said'. Prove '..Said' where nothing that the law and all that it calls make is longer than what came in: it says more and counts as full. Else prove '..UptoSaid'. A law counts once. -/
mutual
def uptoBulk {H : Type} : DataW H → Nat
  | .lit (.string bytes) => bytes.length + 1
  | .lit _ => 1
  | .nil => 1
  | .ptr d => uptoBulk d + 1
  | .slice elems spare => uptoBulkAll elems + uptoBulkAll spare + 1
  | .agg parts => uptoBulkAll parts + 1
  | .iface _ d => uptoBulk d + 1
  | .map entries => uptoBulkEntries entries + 1
  | .held _ => 1
def uptoBulkAll {H : Type} : List (DataW H) → Nat
  | [] => 0
  | d :: r => uptoBulk d + uptoBulkAll r
def uptoBulkEntries {H : Type} : List (Lit × DataW H) → Nat
  | [] => 0
  | x :: r => uptoBulkEntry x + uptoBulkEntries r
def uptoBulkEntry {H : Type} : Lit × DataW H → Nat
  | (.string bytes, d) => bytes.length + uptoBulk d + 1
  | (_, d) => uptoBulk d + 1
 end
def uptoSmall : (H : Type) → List (DataW H) → Bool := fun _ ds => decide (uptoBulkAll ds ≤ 1048576)
def OpenSpec.upto (s : _root_.Go.ChangeSpec) : _root_.Go.OpenSpec := { _root_.Go.OpenSpec.ofChange s with cond := some uptoSmall }

/-- 'laws.FnExactPlanOf', WHERE WHAT IT READS IS OF BULK AT MOST 1048576: true; the input reads as it did. -/
def fnExactPlanOfUptoRow : OpenClaim := { program := "ytmpodackojmojaa", sum := "1f6663fdd76f044418d5b98f1060e88d69acbc12267e9153999a53f5896a3b4b", func := "loop.example/g00593/laws.FnExactPlanOf", spec := "fnExactPlanOf", unfollowed := true, recurses := true, apart := false, narrowed := true }
def FnExactPlanOfUptoSaid : Prop := fnExactPlanOfUptoRow.holds Try.pinned (OpenSpec.upto fnExactPlanOfSpec)

/-- 'laws.FnExactTaskMatroid', WHERE WHAT IT READS IS OF BULK AT MOST 1048576: true; the input reads as it did. -/
def fnExactTaskMatroidUptoRow : OpenClaim := { program := "ytmpodackojmojaa", sum := "1f6663fdd76f044418d5b98f1060e88d69acbc12267e9153999a53f5896a3b4b", func := "loop.example/g00593/laws.FnExactTaskMatroid", spec := "fnExactTaskMatroid", unfollowed := true, recurses := true, apart := false, narrowed := true }
def FnExactTaskMatroidUptoSaid : Prop := fnExactTaskMatroidUptoRow.holds Try.pinned (OpenSpec.upto fnExactTaskMatroidSpec)

/-- 'laws.FnExactLateTasks', WHERE WHAT IT READS IS OF BULK AT MOST 1048576: true; the input reads as it did. -/
def fnExactLateTasksUptoRow : OpenClaim := { program := "ytmpodackojmojaa", sum := "1f6663fdd76f044418d5b98f1060e88d69acbc12267e9153999a53f5896a3b4b", func := "loop.example/g00593/laws.FnExactLateTasks", spec := "fnExactLateTasks", unfollowed := true, recurses := true, apart := false, narrowed := true }
def FnExactLateTasksUptoSaid : Prop := fnExactLateTasksUptoRow.holds Try.pinned (OpenSpec.upto fnExactLateTasksSpec)

/-- 'laws.FnExactBestTasks', WHERE WHAT IT READS IS OF BULK AT MOST 1048576: true; the input reads as it did. -/
def fnExactBestTasksUptoRow : OpenClaim := { program := "ytmpodackojmojaa", sum := "1f6663fdd76f044418d5b98f1060e88d69acbc12267e9153999a53f5896a3b4b", func := "loop.example/g00593/laws.FnExactBestTasks", spec := "fnExactBestTasks", unfollowed := true, recurses := true, apart := false, narrowed := true }
def FnExactBestTasksUptoSaid : Prop := fnExactBestTasksUptoRow.holds Try.pinned (OpenSpec.upto fnExactBestTasksSpec)

/-- 'laws.FnExactIsBinary', WHERE WHAT IT READS IS OF BULK AT MOST 1048576: true; the input reads as it did. -/
def fnExactIsBinaryUptoRow : OpenClaim := { program := "ytmpodackojmojaa", sum := "1f6663fdd76f044418d5b98f1060e88d69acbc12267e9153999a53f5896a3b4b", func := "loop.example/g00593/laws.FnExactIsBinary", spec := "fnExactIsBinary", unfollowed := true, recurses := true, apart := false, narrowed := true }
def FnExactIsBinaryUptoSaid : Prop := fnExactIsBinaryUptoRow.holds Try.pinned (OpenSpec.upto fnExactIsBinarySpec)

/-- 'laws.FnExactIsTernary', WHERE WHAT IT READS IS OF BULK AT MOST 1048576: true; the input reads as it did. -/
def fnExactIsTernaryUptoRow : OpenClaim := { program := "ytmpodackojmojaa", sum := "1f6663fdd76f044418d5b98f1060e88d69acbc12267e9153999a53f5896a3b4b", func := "loop.example/g00593/laws.FnExactIsTernary", spec := "fnExactIsTernary", unfollowed := true, recurses := true, apart := false, narrowed := true }
def FnExactIsTernaryUptoSaid : Prop := fnExactIsTernaryUptoRow.holds Try.pinned (OpenSpec.upto fnExactIsTernarySpec)

/-- 'laws.FnExactIsRegular', WHERE WHAT IT READS IS OF BULK AT MOST 1048576: true; the input reads as it did. -/
def fnExactIsRegularUptoRow : OpenClaim := { program := "ytmpodackojmojaa", sum := "1f6663fdd76f044418d5b98f1060e88d69acbc12267e9153999a53f5896a3b4b", func := "loop.example/g00593/laws.FnExactIsRegular", spec := "fnExactIsRegular", unfollowed := true, recurses := true, apart := false, narrowed := true }
def FnExactIsRegularUptoSaid : Prop := fnExactIsRegularUptoRow.holds Try.pinned (OpenSpec.upto fnExactIsRegularSpec)

/-- 'laws.FnExactFindMatrix', WHERE WHAT IT READS IS OF BULK AT MOST 1048576: true; the input reads as it did. -/
def fnExactFindMatrixUptoRow : OpenClaim := { program := "ytmpodackojmojaa", sum := "1f6663fdd76f044418d5b98f1060e88d69acbc12267e9153999a53f5896a3b4b", func := "loop.example/g00593/laws.FnExactFindMatrix", spec := "fnExactFindMatrix", unfollowed := true, recurses := true, apart := false, narrowed := true }
def FnExactFindMatrixUptoSaid : Prop := fnExactFindMatrixUptoRow.holds Try.pinned (OpenSpec.upto fnExactFindMatrixSpec)

/-- 'laws.FnGraphCounts', WHERE WHAT IT READS IS OF BULK AT MOST 1048576: true; the input reads as it did. -/
def fnGraphCountsUptoRow : OpenClaim := { program := "ytmpodackojmojaa", sum := "1f6663fdd76f044418d5b98f1060e88d69acbc12267e9153999a53f5896a3b4b", func := "loop.example/g00593/laws.FnGraphCounts", spec := "fnGraphCounts", unfollowed := true, recurses := true, apart := false, narrowed := true }
def FnGraphCountsUptoSaid : Prop := fnGraphCountsUptoRow.holds Try.pinned (OpenSpec.upto fnGraphCountsSpec)

end Rows
end Go.Proofs.Ytmpodackojmojaa
