/-
  No cell of these rows narrows 'for every input' (looked for: loops, veiled, ifaces, maps, wideKeys, modest, calm, conditions, laid).
  DERIVED. THE GIVEN ROWS OF THIS SEAT. 11 by the template 'for every input the law returns true; each argument reads behind the call as it read before'; 0 by the template 'total and deterministic' (their statements: YtbjnkcfkhonkhaaTotals.lean).
  GIVEN WITH THE SEED: the statements are not yours to turn. If you find one false, say at which input.
  Laid BY PROGRAM, IN A SANDBOX (cutbox-rows.mjs): the forced cells as the released guide's own fill.sh prints them over the translation 348baf92ed379ed8… (all of the seat's roots in one cut). By AI agents, Wed Nov 11 2026. No macro, syntax, notation, axiom, sorry.
-/
import Derived.Test.YtbjnkcfkhonkhaaChecked
import GoSem.Claim
import GoSem.ClaimJoined
import GoSem.ClaimMapViews
import Derived.JoinedTies
import Derived.KernelRfl
namespace Go.Proofs.Ytbjnkcfkhonkhaa
/- THE CELL 'sum', in the pinned program and in every row, IS THE sha256 OF THE DUMP (.gsa) THAT YtbjnkcfkhonkhaaProg.lean LOADS. Nothing in Lean hashes anything: it is a label: what it is worth is what the hold of that sum in a sandbox is worth. -/
noncomputable def Try.pinned : Pinned := { name := "ytbjnkcfkhonkhaa", sum := "348baf92ed379ed8f11e0fd786517e5b8c41a475b2bec6a4f548220fb05193b5", checked := Try.checked }
namespace Rows
def none {H : Type} : Left H := { results := [], args := [] }

/-- 'laws.FnExactShiftTable': WHATEVER THE INPUT: true; the input reads as it did. -/
def fnExactShiftTableSpec : ChangeSpec := { name := "fnExactShiftTable", fn := fun _ => fun
  | [d1, d2, d3] => { results := [.lit (.bool true)], args := [d1, d2, d3] }
  | _ => none }
def fnExactShiftTableRow : OpenClaim := { program := "ytbjnkcfkhonkhaa", sum := "348baf92ed379ed8f11e0fd786517e5b8c41a475b2bec6a4f548220fb05193b5", func := "loop.example/g00593/laws.FnExactShiftTable", spec := "fnExactShiftTable", apart := false }
def FnExactShiftTableSaid : Prop := fnExactShiftTableRow.holds Try.pinned (OpenSpec.ofChange fnExactShiftTableSpec)

/-- ITS FALSE NEIGHBOUR: 'it returns false'. Refute it at one input. -/
def fnExactShiftTableWrong : ChangeSpec := { name := "fnExactShiftTable", fn := fun _ => fun
  | [d1, d2, d3] => { results := [.lit (.bool false)], args := [d1, d2, d3] }
  | _ => none }
def FnExactShiftTableWrongFalsely : Prop := fnExactShiftTableRow.holds Try.pinned (OpenSpec.ofChange fnExactShiftTableWrong)

/-- 'laws.FnExactAddTables': WHATEVER THE INPUT: true; the input reads as it did. -/
def fnExactAddTablesSpec : ChangeSpec := { name := "fnExactAddTables", fn := fun _ => fun
  | [d1, d2] => { results := [.lit (.bool true)], args := [d1, d2] }
  | _ => none }
def fnExactAddTablesRow : OpenClaim := { program := "ytbjnkcfkhonkhaa", sum := "348baf92ed379ed8f11e0fd786517e5b8c41a475b2bec6a4f548220fb05193b5", func := "loop.example/g00593/laws.FnExactAddTables", spec := "fnExactAddTables", apart := false }
def FnExactAddTablesSaid : Prop := fnExactAddTablesRow.holds Try.pinned (OpenSpec.ofChange fnExactAddTablesSpec)

/-- ITS FALSE NEIGHBOUR: 'it returns false'. Refute it at one input. -/
def fnExactAddTablesWrong : ChangeSpec := { name := "fnExactAddTables", fn := fun _ => fun
  | [d1, d2] => { results := [.lit (.bool false)], args := [d1, d2] }
  | _ => none }
def FnExactAddTablesWrongFalsely : Prop := fnExactAddTablesRow.holds Try.pinned (OpenSpec.ofChange fnExactAddTablesWrong)

/-- 'laws.FnExactPlanOf': WHATEVER THE INPUT: true; the input reads as it did. -/
def fnExactPlanOfSpec : ChangeSpec := { name := "fnExactPlanOf", fn := fun _ => fun
  | [d1, d2] => { results := [.lit (.bool true)], args := [d1, d2] }
  | _ => none }
def fnExactPlanOfRow : OpenClaim := { program := "ytbjnkcfkhonkhaa", sum := "348baf92ed379ed8f11e0fd786517e5b8c41a475b2bec6a4f548220fb05193b5", func := "loop.example/g00593/laws.FnExactPlanOf", spec := "fnExactPlanOf", unfollowed := true, recurses := true, apart := false }
def FnExactPlanOfSaid : Prop := fnExactPlanOfRow.holds Try.pinned (OpenSpec.ofChange fnExactPlanOfSpec)

/-- ITS FALSE NEIGHBOUR: 'it returns false'. Refute it at one input. -/
def fnExactPlanOfWrong : ChangeSpec := { name := "fnExactPlanOf", fn := fun _ => fun
  | [d1, d2] => { results := [.lit (.bool false)], args := [d1, d2] }
  | _ => none }
def FnExactPlanOfWrongFalsely : Prop := fnExactPlanOfRow.holds Try.pinned (OpenSpec.ofChange fnExactPlanOfWrong)

/-- 'laws.FnExactTutteOf': WHATEVER THE INPUT: true; the input reads as it did. -/
def fnExactTutteOfSpec : ChangeSpec := { name := "fnExactTutteOf", fn := fun _ => fun
  | [d] => { results := [.lit (.bool true)], args := [d] }
  | _ => none }
def fnExactTutteOfRow : OpenClaim := { program := "ytbjnkcfkhonkhaa", sum := "348baf92ed379ed8f11e0fd786517e5b8c41a475b2bec6a4f548220fb05193b5", func := "loop.example/g00593/laws.FnExactTutteOf", spec := "fnExactTutteOf", unfollowed := true, recurses := true, apart := false }
def FnExactTutteOfSaid : Prop := fnExactTutteOfRow.holds Try.pinned (OpenSpec.ofChange fnExactTutteOfSpec)

/-- ITS FALSE NEIGHBOUR: 'it returns false'. Refute it at one input. -/
def fnExactTutteOfWrong : ChangeSpec := { name := "fnExactTutteOf", fn := fun _ => fun
  | [d] => { results := [.lit (.bool false)], args := [d] }
  | _ => none }
def FnExactTutteOfWrongFalsely : Prop := fnExactTutteOfRow.holds Try.pinned (OpenSpec.ofChange fnExactTutteOfWrong)

/-- 'laws.FnExactTutteCounts': WHATEVER THE INPUT: true; the input reads as it did. -/
def fnExactTutteCountsSpec : ChangeSpec := { name := "fnExactTutteCounts", fn := fun _ => fun
  | [d] => { results := [.lit (.bool true)], args := [d] }
  | _ => none }
def fnExactTutteCountsRow : OpenClaim := { program := "ytbjnkcfkhonkhaa", sum := "348baf92ed379ed8f11e0fd786517e5b8c41a475b2bec6a4f548220fb05193b5", func := "loop.example/g00593/laws.FnExactTutteCounts", spec := "fnExactTutteCounts", unfollowed := true, recurses := true, apart := false }
def FnExactTutteCountsSaid : Prop := fnExactTutteCountsRow.holds Try.pinned (OpenSpec.ofChange fnExactTutteCountsSpec)

/-- ITS FALSE NEIGHBOUR: 'it returns false'. Refute it at one input. -/
def fnExactTutteCountsWrong : ChangeSpec := { name := "fnExactTutteCounts", fn := fun _ => fun
  | [d] => { results := [.lit (.bool false)], args := [d] }
  | _ => none }
def FnExactTutteCountsWrongFalsely : Prop := fnExactTutteCountsRow.holds Try.pinned (OpenSpec.ofChange fnExactTutteCountsWrong)

/-- 'laws.FnExactExcludedMinor': WHATEVER THE INPUT: true; the input reads as it did. -/
def fnExactExcludedMinorSpec : ChangeSpec := { name := "fnExactExcludedMinor", fn := fun _ => fun
  | [d1, d2] => { results := [.lit (.bool true)], args := [d1, d2] }
  | _ => none }
def fnExactExcludedMinorRow : OpenClaim := { program := "ytbjnkcfkhonkhaa", sum := "348baf92ed379ed8f11e0fd786517e5b8c41a475b2bec6a4f548220fb05193b5", func := "loop.example/g00593/laws.FnExactExcludedMinor", spec := "fnExactExcludedMinor", unfollowed := true, recurses := true, apart := false }
def FnExactExcludedMinorSaid : Prop := fnExactExcludedMinorRow.holds Try.pinned (OpenSpec.ofChange fnExactExcludedMinorSpec)

/-- ITS FALSE NEIGHBOUR: 'it returns false'. Refute it at one input. -/
def fnExactExcludedMinorWrong : ChangeSpec := { name := "fnExactExcludedMinor", fn := fun _ => fun
  | [d1, d2] => { results := [.lit (.bool false)], args := [d1, d2] }
  | _ => none }
def FnExactExcludedMinorWrongFalsely : Prop := fnExactExcludedMinorRow.holds Try.pinned (OpenSpec.ofChange fnExactExcludedMinorWrong)

/-- 'laws.FnExactUnionOf': WHATEVER THE INPUT: true; the input reads as it did. -/
def fnExactUnionOfSpec : ChangeSpec := { name := "fnExactUnionOf", fn := fun _ => fun
  | [d1, d2] => { results := [.lit (.bool true)], args := [d1, d2] }
  | _ => none }
def fnExactUnionOfRow : OpenClaim := { program := "ytbjnkcfkhonkhaa", sum := "348baf92ed379ed8f11e0fd786517e5b8c41a475b2bec6a4f548220fb05193b5", func := "loop.example/g00593/laws.FnExactUnionOf", spec := "fnExactUnionOf", unfollowed := true, recurses := true, apart := false }
def FnExactUnionOfSaid : Prop := fnExactUnionOfRow.holds Try.pinned (OpenSpec.ofChange fnExactUnionOfSpec)

/-- ITS FALSE NEIGHBOUR: 'it returns false'. Refute it at one input. -/
def fnExactUnionOfWrong : ChangeSpec := { name := "fnExactUnionOf", fn := fun _ => fun
  | [d1, d2] => { results := [.lit (.bool false)], args := [d1, d2] }
  | _ => none }
def FnExactUnionOfWrongFalsely : Prop := fnExactUnionOfRow.holds Try.pinned (OpenSpec.ofChange fnExactUnionOfWrong)

/-- 'laws.FnExactBrokenCircuits': WHATEVER THE INPUT: true; the input reads as it did. -/
def fnExactBrokenCircuitsSpec : ChangeSpec := { name := "fnExactBrokenCircuits", fn := fun _ => fun
  | [d] => { results := [.lit (.bool true)], args := [d] }
  | _ => none }
def fnExactBrokenCircuitsRow : OpenClaim := { program := "ytbjnkcfkhonkhaa", sum := "348baf92ed379ed8f11e0fd786517e5b8c41a475b2bec6a4f548220fb05193b5", func := "loop.example/g00593/laws.FnExactBrokenCircuits", spec := "fnExactBrokenCircuits", unfollowed := true, recurses := true, apart := false }
def FnExactBrokenCircuitsSaid : Prop := fnExactBrokenCircuitsRow.holds Try.pinned (OpenSpec.ofChange fnExactBrokenCircuitsSpec)

/-- ITS FALSE NEIGHBOUR: 'it returns false'. Refute it at one input. -/
def fnExactBrokenCircuitsWrong : ChangeSpec := { name := "fnExactBrokenCircuits", fn := fun _ => fun
  | [d] => { results := [.lit (.bool false)], args := [d] }
  | _ => none }
def FnExactBrokenCircuitsWrongFalsely : Prop := fnExactBrokenCircuitsRow.holds Try.pinned (OpenSpec.ofChange fnExactBrokenCircuitsWrong)

/-- 'laws.FnExactUnbrokenSets': WHATEVER THE INPUT: true; the input reads as it did. -/
def fnExactUnbrokenSetsSpec : ChangeSpec := { name := "fnExactUnbrokenSets", fn := fun _ => fun
  | [d] => { results := [.lit (.bool true)], args := [d] }
  | _ => none }
def fnExactUnbrokenSetsRow : OpenClaim := { program := "ytbjnkcfkhonkhaa", sum := "348baf92ed379ed8f11e0fd786517e5b8c41a475b2bec6a4f548220fb05193b5", func := "loop.example/g00593/laws.FnExactUnbrokenSets", spec := "fnExactUnbrokenSets", unfollowed := true, recurses := true, apart := false }
def FnExactUnbrokenSetsSaid : Prop := fnExactUnbrokenSetsRow.holds Try.pinned (OpenSpec.ofChange fnExactUnbrokenSetsSpec)

/-- ITS FALSE NEIGHBOUR: 'it returns false'. Refute it at one input. -/
def fnExactUnbrokenSetsWrong : ChangeSpec := { name := "fnExactUnbrokenSets", fn := fun _ => fun
  | [d] => { results := [.lit (.bool false)], args := [d] }
  | _ => none }
def FnExactUnbrokenSetsWrongFalsely : Prop := fnExactUnbrokenSetsRow.holds Try.pinned (OpenSpec.ofChange fnExactUnbrokenSetsWrong)

/-- 'laws.FnExactActivityTable': WHATEVER THE INPUT: true; the input reads as it did. -/
def fnExactActivityTableSpec : ChangeSpec := { name := "fnExactActivityTable", fn := fun _ => fun
  | [d] => { results := [.lit (.bool true)], args := [d] }
  | _ => none }
def fnExactActivityTableRow : OpenClaim := { program := "ytbjnkcfkhonkhaa", sum := "348baf92ed379ed8f11e0fd786517e5b8c41a475b2bec6a4f548220fb05193b5", func := "loop.example/g00593/laws.FnExactActivityTable", spec := "fnExactActivityTable", unfollowed := true, recurses := true, apart := false }
def FnExactActivityTableSaid : Prop := fnExactActivityTableRow.holds Try.pinned (OpenSpec.ofChange fnExactActivityTableSpec)

/-- ITS FALSE NEIGHBOUR: 'it returns false'. Refute it at one input. -/
def fnExactActivityTableWrong : ChangeSpec := { name := "fnExactActivityTable", fn := fun _ => fun
  | [d] => { results := [.lit (.bool false)], args := [d] }
  | _ => none }
def FnExactActivityTableWrongFalsely : Prop := fnExactActivityTableRow.holds Try.pinned (OpenSpec.ofChange fnExactActivityTableWrong)

/-- 'laws.FnExactTaskMatroid': WHATEVER THE INPUT: true; the input reads as it did. -/
def fnExactTaskMatroidSpec : ChangeSpec := { name := "fnExactTaskMatroid", fn := fun _ => fun
  | [d] => { results := [.lit (.bool true)], args := [d] }
  | _ => none }
def fnExactTaskMatroidRow : OpenClaim := { program := "ytbjnkcfkhonkhaa", sum := "348baf92ed379ed8f11e0fd786517e5b8c41a475b2bec6a4f548220fb05193b5", func := "loop.example/g00593/laws.FnExactTaskMatroid", spec := "fnExactTaskMatroid", unfollowed := true, recurses := true, apart := false }
def FnExactTaskMatroidSaid : Prop := fnExactTaskMatroidRow.holds Try.pinned (OpenSpec.ofChange fnExactTaskMatroidSpec)

/-- ITS FALSE NEIGHBOUR: 'it returns false'. Refute it at one input. -/
def fnExactTaskMatroidWrong : ChangeSpec := { name := "fnExactTaskMatroid", fn := fun _ => fun
  | [d] => { results := [.lit (.bool false)], args := [d] }
  | _ => none }
def FnExactTaskMatroidWrongFalsely : Prop := fnExactTaskMatroidRow.holds Try.pinned (OpenSpec.ofChange fnExactTaskMatroidWrong)

/- THE SECOND FORM. 'bulk': how many values and letters a reading holds, each counted each time it is reached (what is shared counts as often as it is met; a slice's spare places count too). A statement '..UptoSaid' is the law's where the arguments, and the package variables that the reading takes, are together of bulk at most 1048576: NARROWER than '..Said'. Prove '..Said' where nothing that the law and all that it calls make is longer than what came in: it says more and counts as full. Else prove '..UptoSaid'. A law counts once. -/
mutual
def uptoBulk {H : Type} : DataW H → Nat
  | .lit (.string bytes) => bytes.length + 1
  | .lit _ => 1
  | .nil => 1
  | .ptr d => uptoBulk d + 1
  | .slice elems spare => uptoBulkAll elems + uptoBulkAll spare + 1
  | .agg parts => uptoBulkAll parts + 1
  | .iface _ d => uptoBulk d + 1
  | .map entries => uptoBulkEntries entries + 1
  | .held _ => 1
def uptoBulkAll {H : Type} : List (DataW H) → Nat
  | [] => 0
  | d :: r => uptoBulk d + uptoBulkAll r
def uptoBulkEntries {H : Type} : List (Lit × DataW H) → Nat
  | [] => 0
  | x :: r => uptoBulkEntry x + uptoBulkEntries r
def uptoBulkEntry {H : Type} : Lit × DataW H → Nat
  | (.string bytes, d) => bytes.length + uptoBulk d + 1
  | (_, d) => uptoBulk d + 1
 end
def uptoSmall : (H : Type) → List (DataW H) → Bool := fun _ ds => decide (uptoBulkAll ds ≤ 1048576)
def OpenSpec.upto (s : _root_.Go.ChangeSpec) : _root_.Go.OpenSpec := { _root_.Go.OpenSpec.ofChange s with cond := some uptoSmall }

/-- 'laws.FnExactShiftTable', WHERE WHAT IT READS IS OF BULK AT MOST 1048576: true; the input reads as it did. -/
def fnExactShiftTableUptoRow : OpenClaim := { program := "ytbjnkcfkhonkhaa", sum := "348baf92ed379ed8f11e0fd786517e5b8c41a475b2bec6a4f548220fb05193b5", func := "loop.example/g00593/laws.FnExactShiftTable", spec := "fnExactShiftTable", apart := false, narrowed := true }
def FnExactShiftTableUptoSaid : Prop := fnExactShiftTableUptoRow.holds Try.pinned (OpenSpec.upto fnExactShiftTableSpec)

/-- 'laws.FnExactAddTables', WHERE WHAT IT READS IS OF BULK AT MOST 1048576: true; the input reads as it did. -/
def fnExactAddTablesUptoRow : OpenClaim := { program := "ytbjnkcfkhonkhaa", sum := "348baf92ed379ed8f11e0fd786517e5b8c41a475b2bec6a4f548220fb05193b5", func := "loop.example/g00593/laws.FnExactAddTables", spec := "fnExactAddTables", apart := false, narrowed := true }
def FnExactAddTablesUptoSaid : Prop := fnExactAddTablesUptoRow.holds Try.pinned (OpenSpec.upto fnExactAddTablesSpec)

/-- 'laws.FnExactPlanOf', WHERE WHAT IT READS IS OF BULK AT MOST 1048576: true; the input reads as it did. -/
def fnExactPlanOfUptoRow : OpenClaim := { program := "ytbjnkcfkhonkhaa", sum := "348baf92ed379ed8f11e0fd786517e5b8c41a475b2bec6a4f548220fb05193b5", func := "loop.example/g00593/laws.FnExactPlanOf", spec := "fnExactPlanOf", unfollowed := true, recurses := true, apart := false, narrowed := true }
def FnExactPlanOfUptoSaid : Prop := fnExactPlanOfUptoRow.holds Try.pinned (OpenSpec.upto fnExactPlanOfSpec)

/-- 'laws.FnExactTutteOf', WHERE WHAT IT READS IS OF BULK AT MOST 1048576: true; the input reads as it did. -/
def fnExactTutteOfUptoRow : OpenClaim := { program := "ytbjnkcfkhonkhaa", sum := "348baf92ed379ed8f11e0fd786517e5b8c41a475b2bec6a4f548220fb05193b5", func := "loop.example/g00593/laws.FnExactTutteOf", spec := "fnExactTutteOf", unfollowed := true, recurses := true, apart := false, narrowed := true }
def FnExactTutteOfUptoSaid : Prop := fnExactTutteOfUptoRow.holds Try.pinned (OpenSpec.upto fnExactTutteOfSpec)

/-- 'laws.FnExactTutteCounts', WHERE WHAT IT READS IS OF BULK AT MOST 1048576: true; the input reads as it did. -/
def fnExactTutteCountsUptoRow : OpenClaim := { program := "ytbjnkcfkhonkhaa", sum := "348baf92ed379ed8f11e0fd786517e5b8c41a475b2bec6a4f548220fb05193b5", func := "loop.example/g00593/laws.FnExactTutteCounts", spec := "fnExactTutteCounts", unfollowed := true, recurses := true, apart := false, narrowed := true }
def FnExactTutteCountsUptoSaid : Prop := fnExactTutteCountsUptoRow.holds Try.pinned (OpenSpec.upto fnExactTutteCountsSpec)

/-- 'laws.FnExactExcludedMinor', WHERE WHAT IT READS IS OF BULK AT MOST 1048576: true; the input reads as it did. -/
def fnExactExcludedMinorUptoRow : OpenClaim := { program := "ytbjnkcfkhonkhaa", sum := "348baf92ed379ed8f11e0fd786517e5b8c41a475b2bec6a4f548220fb05193b5", func := "loop.example/g00593/laws.FnExactExcludedMinor", spec := "fnExactExcludedMinor", unfollowed := true, recurses := true, apart := false, narrowed := true }
def FnExactExcludedMinorUptoSaid : Prop := fnExactExcludedMinorUptoRow.holds Try.pinned (OpenSpec.upto fnExactExcludedMinorSpec)

/-- 'laws.FnExactUnionOf', WHERE WHAT IT READS IS OF BULK AT MOST 1048576: true; the input reads as it did. -/
def fnExactUnionOfUptoRow : OpenClaim := { program := "ytbjnkcfkhonkhaa", sum := "348baf92ed379ed8f11e0fd786517e5b8c41a475b2bec6a4f548220fb05193b5", func := "loop.example/g00593/laws.FnExactUnionOf", spec := "fnExactUnionOf", unfollowed := true, recurses := true, apart := false, narrowed := true }
def FnExactUnionOfUptoSaid : Prop := fnExactUnionOfUptoRow.holds Try.pinned (OpenSpec.upto fnExactUnionOfSpec)

/-- 'laws.FnExactBrokenCircuits', WHERE WHAT IT READS IS OF BULK AT MOST 1048576: true; the input reads as it did. -/
def fnExactBrokenCircuitsUptoRow : OpenClaim := { program := "ytbjnkcfkhonkhaa", sum := "348baf92ed379ed8f11e0fd786517e5b8c41a475b2bec6a4f548220fb05193b5", func := "loop.example/g00593/laws.FnExactBrokenCircuits", spec := "fnExactBrokenCircuits", unfollowed := true, recurses := true, apart := false, narrowed := true }
def FnExactBrokenCircuitsUptoSaid : Prop := fnExactBrokenCircuitsUptoRow.holds Try.pinned (OpenSpec.upto fnExactBrokenCircuitsSpec)

/-- 'laws.FnExactUnbrokenSets', WHERE WHAT IT READS IS OF BULK AT MOST 1048576: true; the input reads as it did. -/
def fnExactUnbrokenSetsUptoRow : OpenClaim := { program := "ytbjnkcfkhonkhaa", sum := "348baf92ed379ed8f11e0fd786517e5b8c41a475b2bec6a4f548220fb05193b5", func := "loop.example/g00593/laws.FnExactUnbrokenSets", spec := "fnExactUnbrokenSets", unfollowed := true, recurses := true, apart := false, narrowed := true }
def FnExactUnbrokenSetsUptoSaid : Prop := fnExactUnbrokenSetsUptoRow.holds Try.pinned (OpenSpec.upto fnExactUnbrokenSetsSpec)

/-- 'laws.FnExactActivityTable', WHERE WHAT IT READS IS OF BULK AT MOST 1048576: true; the input reads as it did. -/
def fnExactActivityTableUptoRow : OpenClaim := { program := "ytbjnkcfkhonkhaa", sum := "348baf92ed379ed8f11e0fd786517e5b8c41a475b2bec6a4f548220fb05193b5", func := "loop.example/g00593/laws.FnExactActivityTable", spec := "fnExactActivityTable", unfollowed := true, recurses := true, apart := false, narrowed := true }
def FnExactActivityTableUptoSaid : Prop := fnExactActivityTableUptoRow.holds Try.pinned (OpenSpec.upto fnExactActivityTableSpec)

/-- 'laws.FnExactTaskMatroid', WHERE WHAT IT READS IS OF BULK AT MOST 1048576: true; the input reads as it did. -/
def fnExactTaskMatroidUptoRow : OpenClaim := { program := "ytbjnkcfkhonkhaa", sum := "348baf92ed379ed8f11e0fd786517e5b8c41a475b2bec6a4f548220fb05193b5", func := "loop.example/g00593/laws.FnExactTaskMatroid", spec := "fnExactTaskMatroid", unfollowed := true, recurses := true, apart := false, narrowed := true }
def FnExactTaskMatroidUptoSaid : Prop := fnExactTaskMatroidUptoRow.holds Try.pinned (OpenSpec.upto fnExactTaskMatroidSpec)

end Rows
end Go.Proofs.Ytbjnkcfkhonkhaa
