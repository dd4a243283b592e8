/-
  No cell of these rows narrows 'for every input' (looked for: loops, veiled, ifaces, maps, wideKeys, modest, calm, conditions, laid).
  DERIVED. THE GIVEN ROWS OF THIS SEAT. 12 by the template 'for every input the law returns true; each argument reads behind the call as it read before'; 0 by the template 'total and deterministic' (their statements: YtaepaekagenfnaaTotals.lean).
  GIVEN WITH THE SEED: the statements are not yours to turn. If you find one false, say at which input.
  Laid BY PROGRAM, IN A SANDBOX (cutbox-rows.mjs): the forced cells as the released guide's own fill.sh prints them over the translation ab80f12e566717e3… (all of the seat's roots in one cut). By AI agents, Wed Nov 11 2026. No macro, syntax, notation, axiom, sorry.
-/
import Derived.Test.YtaepaekagenfnaaChecked
import GoSem.Claim
import GoSem.ClaimJoined
import GoSem.ClaimMapViews
import Derived.JoinedTies
import Derived.KernelRfl
namespace Go.Proofs.Ytaepaekagenfnaa
/- THE CELL 'sum', in the pinned program and in every row, IS THE sha256 OF THE DUMP (.gsa) THAT YtaepaekagenfnaaProg.lean LOADS. Nothing in Lean hashes anything: it is a label: what it is worth is what the hold of that sum in a sandbox is worth. -/
noncomputable def Try.pinned : Pinned := { name := "ytaepaekagenfnaa", sum := "ab80f12e566717e3d2fa5ff42911a21abfcb32391cfa1f98c8663faef6704f82", checked := Try.checked }
namespace Rows
def none {H : Type} : Left H := { results := [], args := [] }

/-- 'laws.FnExactExternalActivity': WHATEVER THE INPUT: true; the input reads as it did. -/
def fnExactExternalActivitySpec : ChangeSpec := { name := "fnExactExternalActivity", fn := fun _ => fun
  | [d1, d2] => { results := [.lit (.bool true)], args := [d1, d2] }
  | _ => none }
def fnExactExternalActivityRow : OpenClaim := { program := "ytaepaekagenfnaa", sum := "ab80f12e566717e3d2fa5ff42911a21abfcb32391cfa1f98c8663faef6704f82", func := "loop.example/g00593/laws.FnExactExternalActivity", spec := "fnExactExternalActivity", unfollowed := true, recurses := true, apart := false }
def FnExactExternalActivitySaid : Prop := fnExactExternalActivityRow.holds Try.pinned (OpenSpec.ofChange fnExactExternalActivitySpec)

/-- ITS FALSE NEIGHBOUR: 'it returns false'. Refute it at one input. -/
def fnExactExternalActivityWrong : ChangeSpec := { name := "fnExactExternalActivity", fn := fun _ => fun
  | [d1, d2] => { results := [.lit (.bool false)], args := [d1, d2] }
  | _ => none }
def FnExactExternalActivityWrongFalsely : Prop := fnExactExternalActivityRow.holds Try.pinned (OpenSpec.ofChange fnExactExternalActivityWrong)

/-- 'laws.FnExactCountAll': WHATEVER THE INPUT: true; the input reads as it did. -/
def fnExactCountAllSpec : ChangeSpec := { name := "fnExactCountAll", fn := fun _ => fun
  | [d1, d2] => { results := [.lit (.bool true)], args := [d1, d2] }
  | _ => none }
def fnExactCountAllRow : OpenClaim := { program := "ytaepaekagenfnaa", sum := "ab80f12e566717e3d2fa5ff42911a21abfcb32391cfa1f98c8663faef6704f82", func := "loop.example/g00593/laws.FnExactCountAll", spec := "fnExactCountAll", unfollowed := true, recurses := true, apart := false }
def FnExactCountAllSaid : Prop := fnExactCountAllRow.holds Try.pinned (OpenSpec.ofChange fnExactCountAllSpec)

/-- ITS FALSE NEIGHBOUR: 'it returns false'. Refute it at one input. -/
def fnExactCountAllWrong : ChangeSpec := { name := "fnExactCountAll", fn := fun _ => fun
  | [d1, d2] => { results := [.lit (.bool false)], args := [d1, d2] }
  | _ => none }
def FnExactCountAllWrongFalsely : Prop := fnExactCountAllRow.holds Try.pinned (OpenSpec.ofChange fnExactCountAllWrong)

/-- 'laws.FnExactJoinFlats': WHATEVER THE INPUT: true; the input reads as it did. -/
def fnExactJoinFlatsSpec : ChangeSpec := { name := "fnExactJoinFlats", fn := fun _ => fun
  | [d1, d2, d3] => { results := [.lit (.bool true)], args := [d1, d2, d3] }
  | _ => none }
def fnExactJoinFlatsRow : OpenClaim := { program := "ytaepaekagenfnaa", sum := "ab80f12e566717e3d2fa5ff42911a21abfcb32391cfa1f98c8663faef6704f82", func := "loop.example/g00593/laws.FnExactJoinFlats", spec := "fnExactJoinFlats", unfollowed := true, recurses := true, apart := false }
def FnExactJoinFlatsSaid : Prop := fnExactJoinFlatsRow.holds Try.pinned (OpenSpec.ofChange fnExactJoinFlatsSpec)

/-- ITS FALSE NEIGHBOUR: 'it returns false'. Refute it at one input. -/
def fnExactJoinFlatsWrong : ChangeSpec := { name := "fnExactJoinFlats", fn := fun _ => fun
  | [d1, d2, d3] => { results := [.lit (.bool false)], args := [d1, d2, d3] }
  | _ => none }
def FnExactJoinFlatsWrongFalsely : Prop := fnExactJoinFlatsRow.holds Try.pinned (OpenSpec.ofChange fnExactJoinFlatsWrong)

/-- 'laws.FnExactMeetFlats': WHATEVER THE INPUT: true; the input reads as it did. -/
def fnExactMeetFlatsSpec : ChangeSpec := { name := "fnExactMeetFlats", fn := fun _ => fun
  | [d1, d2, d3] => { results := [.lit (.bool true)], args := [d1, d2, d3] }
  | _ => none }
def fnExactMeetFlatsRow : OpenClaim := { program := "ytaepaekagenfnaa", sum := "ab80f12e566717e3d2fa5ff42911a21abfcb32391cfa1f98c8663faef6704f82", func := "loop.example/g00593/laws.FnExactMeetFlats", spec := "fnExactMeetFlats", unfollowed := true, recurses := true, apart := false }
def FnExactMeetFlatsSaid : Prop := fnExactMeetFlatsRow.holds Try.pinned (OpenSpec.ofChange fnExactMeetFlatsSpec)

/-- ITS FALSE NEIGHBOUR: 'it returns false'. Refute it at one input. -/
def fnExactMeetFlatsWrong : ChangeSpec := { name := "fnExactMeetFlats", fn := fun _ => fun
  | [d1, d2, d3] => { results := [.lit (.bool false)], args := [d1, d2, d3] }
  | _ => none }
def FnExactMeetFlatsWrongFalsely : Prop := fnExactMeetFlatsRow.holds Try.pinned (OpenSpec.ofChange fnExactMeetFlatsWrong)

/-- 'laws.FnExactPlanOf': WHATEVER THE INPUT: true; the input reads as it did. -/
def fnExactPlanOfSpec : ChangeSpec := { name := "fnExactPlanOf", fn := fun _ => fun
  | [d1, d2] => { results := [.lit (.bool true)], args := [d1, d2] }
  | _ => none }
def fnExactPlanOfRow : OpenClaim := { program := "ytaepaekagenfnaa", sum := "ab80f12e566717e3d2fa5ff42911a21abfcb32391cfa1f98c8663faef6704f82", func := "loop.example/g00593/laws.FnExactPlanOf", spec := "fnExactPlanOf", unfollowed := true, recurses := true, apart := false }
def FnExactPlanOfSaid : Prop := fnExactPlanOfRow.holds Try.pinned (OpenSpec.ofChange fnExactPlanOfSpec)

/-- ITS FALSE NEIGHBOUR: 'it returns false'. Refute it at one input. -/
def fnExactPlanOfWrong : ChangeSpec := { name := "fnExactPlanOf", fn := fun _ => fun
  | [d1, d2] => { results := [.lit (.bool false)], args := [d1, d2] }
  | _ => none }
def FnExactPlanOfWrongFalsely : Prop := fnExactPlanOfRow.holds Try.pinned (OpenSpec.ofChange fnExactPlanOfWrong)

/-- 'laws.FnExactWhitneyNumbers': WHATEVER THE INPUT: true; the input reads as it did. -/
def fnExactWhitneyNumbersSpec : ChangeSpec := { name := "fnExactWhitneyNumbers", fn := fun _ => fun
  | [d] => { results := [.lit (.bool true)], args := [d] }
  | _ => none }
def fnExactWhitneyNumbersRow : OpenClaim := { program := "ytaepaekagenfnaa", sum := "ab80f12e566717e3d2fa5ff42911a21abfcb32391cfa1f98c8663faef6704f82", func := "loop.example/g00593/laws.FnExactWhitneyNumbers", spec := "fnExactWhitneyNumbers", unfollowed := true, recurses := true, apart := false }
def FnExactWhitneyNumbersSaid : Prop := fnExactWhitneyNumbersRow.holds Try.pinned (OpenSpec.ofChange fnExactWhitneyNumbersSpec)

/-- ITS FALSE NEIGHBOUR: 'it returns false'. Refute it at one input. -/
def fnExactWhitneyNumbersWrong : ChangeSpec := { name := "fnExactWhitneyNumbers", fn := fun _ => fun
  | [d] => { results := [.lit (.bool false)], args := [d] }
  | _ => none }
def FnExactWhitneyNumbersWrongFalsely : Prop := fnExactWhitneyNumbersRow.holds Try.pinned (OpenSpec.ofChange fnExactWhitneyNumbersWrong)

/-- 'laws.FnExactMoebiusOf': WHATEVER THE INPUT: true; the input reads as it did. -/
def fnExactMoebiusOfSpec : ChangeSpec := { name := "fnExactMoebiusOf", fn := fun _ => fun
  | [d1, d2] => { results := [.lit (.bool true)], args := [d1, d2] }
  | _ => none }
def fnExactMoebiusOfRow : OpenClaim := { program := "ytaepaekagenfnaa", sum := "ab80f12e566717e3d2fa5ff42911a21abfcb32391cfa1f98c8663faef6704f82", func := "loop.example/g00593/laws.FnExactMoebiusOf", spec := "fnExactMoebiusOf", unfollowed := true, recurses := true, apart := false }
def FnExactMoebiusOfSaid : Prop := fnExactMoebiusOfRow.holds Try.pinned (OpenSpec.ofChange fnExactMoebiusOfSpec)

/-- ITS FALSE NEIGHBOUR: 'it returns false'. Refute it at one input. -/
def fnExactMoebiusOfWrong : ChangeSpec := { name := "fnExactMoebiusOf", fn := fun _ => fun
  | [d1, d2] => { results := [.lit (.bool false)], args := [d1, d2] }
  | _ => none }
def FnExactMoebiusOfWrongFalsely : Prop := fnExactMoebiusOfRow.holds Try.pinned (OpenSpec.ofChange fnExactMoebiusOfWrong)

/-- 'laws.FnExactTutteOf': WHATEVER THE INPUT: true; the input reads as it did. -/
def fnExactTutteOfSpec : ChangeSpec := { name := "fnExactTutteOf", fn := fun _ => fun
  | [d] => { results := [.lit (.bool true)], args := [d] }
  | _ => none }
def fnExactTutteOfRow : OpenClaim := { program := "ytaepaekagenfnaa", sum := "ab80f12e566717e3d2fa5ff42911a21abfcb32391cfa1f98c8663faef6704f82", func := "loop.example/g00593/laws.FnExactTutteOf", spec := "fnExactTutteOf", unfollowed := true, recurses := true, apart := false }
def FnExactTutteOfSaid : Prop := fnExactTutteOfRow.holds Try.pinned (OpenSpec.ofChange fnExactTutteOfSpec)

/-- ITS FALSE NEIGHBOUR: 'it returns false'. Refute it at one input. -/
def fnExactTutteOfWrong : ChangeSpec := { name := "fnExactTutteOf", fn := fun _ => fun
  | [d] => { results := [.lit (.bool false)], args := [d] }
  | _ => none }
def FnExactTutteOfWrongFalsely : Prop := fnExactTutteOfRow.holds Try.pinned (OpenSpec.ofChange fnExactTutteOfWrong)

/-- 'laws.FnExactTutteCounts': WHATEVER THE INPUT: true; the input reads as it did. -/
def fnExactTutteCountsSpec : ChangeSpec := { name := "fnExactTutteCounts", fn := fun _ => fun
  | [d] => { results := [.lit (.bool true)], args := [d] }
  | _ => none }
def fnExactTutteCountsRow : OpenClaim := { program := "ytaepaekagenfnaa", sum := "ab80f12e566717e3d2fa5ff42911a21abfcb32391cfa1f98c8663faef6704f82", func := "loop.example/g00593/laws.FnExactTutteCounts", spec := "fnExactTutteCounts", unfollowed := true, recurses := true, apart := false }
def FnExactTutteCountsSaid : Prop := fnExactTutteCountsRow.holds Try.pinned (OpenSpec.ofChange fnExactTutteCountsSpec)

/-- ITS FALSE NEIGHBOUR: 'it returns false'. Refute it at one input. -/
def fnExactTutteCountsWrong : ChangeSpec := { name := "fnExactTutteCounts", fn := fun _ => fun
  | [d] => { results := [.lit (.bool false)], args := [d] }
  | _ => none }
def FnExactTutteCountsWrongFalsely : Prop := fnExactTutteCountsRow.holds Try.pinned (OpenSpec.ofChange fnExactTutteCountsWrong)

/-- 'laws.FnExactCharacteristicOf': WHATEVER THE INPUT: true; the input reads as it did. -/
def fnExactCharacteristicOfSpec : ChangeSpec := { name := "fnExactCharacteristicOf", fn := fun _ => fun
  | [d] => { results := [.lit (.bool true)], args := [d] }
  | _ => none }
def fnExactCharacteristicOfRow : OpenClaim := { program := "ytaepaekagenfnaa", sum := "ab80f12e566717e3d2fa5ff42911a21abfcb32391cfa1f98c8663faef6704f82", func := "loop.example/g00593/laws.FnExactCharacteristicOf", spec := "fnExactCharacteristicOf", unfollowed := true, recurses := true, apart := false }
def FnExactCharacteristicOfSaid : Prop := fnExactCharacteristicOfRow.holds Try.pinned (OpenSpec.ofChange fnExactCharacteristicOfSpec)

/-- ITS FALSE NEIGHBOUR: 'it returns false'. Refute it at one input. -/
def fnExactCharacteristicOfWrong : ChangeSpec := { name := "fnExactCharacteristicOf", fn := fun _ => fun
  | [d] => { results := [.lit (.bool false)], args := [d] }
  | _ => none }
def FnExactCharacteristicOfWrongFalsely : Prop := fnExactCharacteristicOfRow.holds Try.pinned (OpenSpec.ofChange fnExactCharacteristicOfWrong)

/-- 'laws.FnExactExcludedMinor': WHATEVER THE INPUT: true; the input reads as it did. -/
def fnExactExcludedMinorSpec : ChangeSpec := { name := "fnExactExcludedMinor", fn := fun _ => fun
  | [d1, d2] => { results := [.lit (.bool true)], args := [d1, d2] }
  | _ => none }
def fnExactExcludedMinorRow : OpenClaim := { program := "ytaepaekagenfnaa", sum := "ab80f12e566717e3d2fa5ff42911a21abfcb32391cfa1f98c8663faef6704f82", func := "loop.example/g00593/laws.FnExactExcludedMinor", spec := "fnExactExcludedMinor", unfollowed := true, recurses := true, apart := false }
def FnExactExcludedMinorSaid : Prop := fnExactExcludedMinorRow.holds Try.pinned (OpenSpec.ofChange fnExactExcludedMinorSpec)

/-- ITS FALSE NEIGHBOUR: 'it returns false'. Refute it at one input. -/
def fnExactExcludedMinorWrong : ChangeSpec := { name := "fnExactExcludedMinor", fn := fun _ => fun
  | [d1, d2] => { results := [.lit (.bool false)], args := [d1, d2] }
  | _ => none }
def FnExactExcludedMinorWrongFalsely : Prop := fnExactExcludedMinorRow.holds Try.pinned (OpenSpec.ofChange fnExactExcludedMinorWrong)

/-- 'laws.FnExactInternalActivity': WHATEVER THE INPUT: true; the input reads as it did. -/
def fnExactInternalActivitySpec : ChangeSpec := { name := "fnExactInternalActivity", fn := fun _ => fun
  | [d1, d2] => { results := [.lit (.bool true)], args := [d1, d2] }
  | _ => none }
def fnExactInternalActivityRow : OpenClaim := { program := "ytaepaekagenfnaa", sum := "ab80f12e566717e3d2fa5ff42911a21abfcb32391cfa1f98c8663faef6704f82", func := "loop.example/g00593/laws.FnExactInternalActivity", spec := "fnExactInternalActivity", unfollowed := true, recurses := true, apart := false }
def FnExactInternalActivitySaid : Prop := fnExactInternalActivityRow.holds Try.pinned (OpenSpec.ofChange fnExactInternalActivitySpec)

/-- ITS FALSE NEIGHBOUR: 'it returns false'. Refute it at one input. -/
def fnExactInternalActivityWrong : ChangeSpec := { name := "fnExactInternalActivity", fn := fun _ => fun
  | [d1, d2] => { results := [.lit (.bool false)], args := [d1, d2] }
  | _ => none }
def FnExactInternalActivityWrongFalsely : Prop := fnExactInternalActivityRow.holds Try.pinned (OpenSpec.ofChange fnExactInternalActivityWrong)

/- THE SECOND FORM. 'bulk': how many values and letters a reading holds, each counted each time it is reached (what is shared counts as often as it is met; a slice's spare places count too). A statement '..UptoSaid' is the law's where the arguments, and the package variables that the reading takes, are together of bulk at most 1048576: NARROWER than '..Said'. Prove '..Said' where nothing that the law and all that it calls make is longer than what came in: it says more and counts as full. Else prove '..UptoSaid'. A law counts once. -/
mutual
def uptoBulk {H : Type} : DataW H → Nat
  | .lit (.string bytes) => bytes.length + 1
  | .lit _ => 1
  | .nil => 1
  | .ptr d => uptoBulk d + 1
  | .slice elems spare => uptoBulkAll elems + uptoBulkAll spare + 1
  | .agg parts => uptoBulkAll parts + 1
  | .iface _ d => uptoBulk d + 1
  | .map entries => uptoBulkEntries entries + 1
  | .held _ => 1
def uptoBulkAll {H : Type} : List (DataW H) → Nat
  | [] => 0
  | d :: r => uptoBulk d + uptoBulkAll r
def uptoBulkEntries {H : Type} : List (Lit × DataW H) → Nat
  | [] => 0
  | x :: r => uptoBulkEntry x + uptoBulkEntries r
def uptoBulkEntry {H : Type} : Lit × DataW H → Nat
  | (.string bytes, d) => bytes.length + uptoBulk d + 1
  | (_, d) => uptoBulk d + 1
 end
def uptoSmall : (H : Type) → List (DataW H) → Bool := fun _ ds => decide (uptoBulkAll ds ≤ 1048576)
def OpenSpec.upto (s : _root_.Go.ChangeSpec) : _root_.Go.OpenSpec := { _root_.Go.OpenSpec.ofChange s with cond := some uptoSmall }

/-- 'laws.FnExactExternalActivity', WHERE WHAT IT READS IS OF BULK AT MOST 1048576: true; the input reads as it did. -/
def fnExactExternalActivityUptoRow : OpenClaim := { program := "ytaepaekagenfnaa", sum := "ab80f12e566717e3d2fa5ff42911a21abfcb32391cfa1f98c8663faef6704f82", func := "loop.example/g00593/laws.FnExactExternalActivity", spec := "fnExactExternalActivity", unfollowed := true, recurses := true, apart := false, narrowed := true }
def FnExactExternalActivityUptoSaid : Prop := fnExactExternalActivityUptoRow.holds Try.pinned (OpenSpec.upto fnExactExternalActivitySpec)

/-- 'laws.FnExactCountAll', WHERE WHAT IT READS IS OF BULK AT MOST 1048576: true; the input reads as it did. -/
def fnExactCountAllUptoRow : OpenClaim := { program := "ytaepaekagenfnaa", sum := "ab80f12e566717e3d2fa5ff42911a21abfcb32391cfa1f98c8663faef6704f82", func := "loop.example/g00593/laws.FnExactCountAll", spec := "fnExactCountAll", unfollowed := true, recurses := true, apart := false, narrowed := true }
def FnExactCountAllUptoSaid : Prop := fnExactCountAllUptoRow.holds Try.pinned (OpenSpec.upto fnExactCountAllSpec)

/-- 'laws.FnExactJoinFlats', WHERE WHAT IT READS IS OF BULK AT MOST 1048576: true; the input reads as it did. -/
def fnExactJoinFlatsUptoRow : OpenClaim := { program := "ytaepaekagenfnaa", sum := "ab80f12e566717e3d2fa5ff42911a21abfcb32391cfa1f98c8663faef6704f82", func := "loop.example/g00593/laws.FnExactJoinFlats", spec := "fnExactJoinFlats", unfollowed := true, recurses := true, apart := false, narrowed := true }
def FnExactJoinFlatsUptoSaid : Prop := fnExactJoinFlatsUptoRow.holds Try.pinned (OpenSpec.upto fnExactJoinFlatsSpec)

/-- 'laws.FnExactMeetFlats', WHERE WHAT IT READS IS OF BULK AT MOST 1048576: true; the input reads as it did. -/
def fnExactMeetFlatsUptoRow : OpenClaim := { program := "ytaepaekagenfnaa", sum := "ab80f12e566717e3d2fa5ff42911a21abfcb32391cfa1f98c8663faef6704f82", func := "loop.example/g00593/laws.FnExactMeetFlats", spec := "fnExactMeetFlats", unfollowed := true, recurses := true, apart := false, narrowed := true }
def FnExactMeetFlatsUptoSaid : Prop := fnExactMeetFlatsUptoRow.holds Try.pinned (OpenSpec.upto fnExactMeetFlatsSpec)

/-- 'laws.FnExactPlanOf', WHERE WHAT IT READS IS OF BULK AT MOST 1048576: true; the input reads as it did. -/
def fnExactPlanOfUptoRow : OpenClaim := { program := "ytaepaekagenfnaa", sum := "ab80f12e566717e3d2fa5ff42911a21abfcb32391cfa1f98c8663faef6704f82", func := "loop.example/g00593/laws.FnExactPlanOf", spec := "fnExactPlanOf", unfollowed := true, recurses := true, apart := false, narrowed := true }
def FnExactPlanOfUptoSaid : Prop := fnExactPlanOfUptoRow.holds Try.pinned (OpenSpec.upto fnExactPlanOfSpec)

/-- 'laws.FnExactWhitneyNumbers', WHERE WHAT IT READS IS OF BULK AT MOST 1048576: true; the input reads as it did. -/
def fnExactWhitneyNumbersUptoRow : OpenClaim := { program := "ytaepaekagenfnaa", sum := "ab80f12e566717e3d2fa5ff42911a21abfcb32391cfa1f98c8663faef6704f82", func := "loop.example/g00593/laws.FnExactWhitneyNumbers", spec := "fnExactWhitneyNumbers", unfollowed := true, recurses := true, apart := false, narrowed := true }
def FnExactWhitneyNumbersUptoSaid : Prop := fnExactWhitneyNumbersUptoRow.holds Try.pinned (OpenSpec.upto fnExactWhitneyNumbersSpec)

/-- 'laws.FnExactMoebiusOf', WHERE WHAT IT READS IS OF BULK AT MOST 1048576: true; the input reads as it did. -/
def fnExactMoebiusOfUptoRow : OpenClaim := { program := "ytaepaekagenfnaa", sum := "ab80f12e566717e3d2fa5ff42911a21abfcb32391cfa1f98c8663faef6704f82", func := "loop.example/g00593/laws.FnExactMoebiusOf", spec := "fnExactMoebiusOf", unfollowed := true, recurses := true, apart := false, narrowed := true }
def FnExactMoebiusOfUptoSaid : Prop := fnExactMoebiusOfUptoRow.holds Try.pinned (OpenSpec.upto fnExactMoebiusOfSpec)

/-- 'laws.FnExactTutteOf', WHERE WHAT IT READS IS OF BULK AT MOST 1048576: true; the input reads as it did. -/
def fnExactTutteOfUptoRow : OpenClaim := { program := "ytaepaekagenfnaa", sum := "ab80f12e566717e3d2fa5ff42911a21abfcb32391cfa1f98c8663faef6704f82", func := "loop.example/g00593/laws.FnExactTutteOf", spec := "fnExactTutteOf", unfollowed := true, recurses := true, apart := false, narrowed := true }
def FnExactTutteOfUptoSaid : Prop := fnExactTutteOfUptoRow.holds Try.pinned (OpenSpec.upto fnExactTutteOfSpec)

/-- 'laws.FnExactTutteCounts', WHERE WHAT IT READS IS OF BULK AT MOST 1048576: true; the input reads as it did. -/
def fnExactTutteCountsUptoRow : OpenClaim := { program := "ytaepaekagenfnaa", sum := "ab80f12e566717e3d2fa5ff42911a21abfcb32391cfa1f98c8663faef6704f82", func := "loop.example/g00593/laws.FnExactTutteCounts", spec := "fnExactTutteCounts", unfollowed := true, recurses := true, apart := false, narrowed := true }
def FnExactTutteCountsUptoSaid : Prop := fnExactTutteCountsUptoRow.holds Try.pinned (OpenSpec.upto fnExactTutteCountsSpec)

/-- 'laws.FnExactCharacteristicOf', WHERE WHAT IT READS IS OF BULK AT MOST 1048576: true; the input reads as it did. -/
def fnExactCharacteristicOfUptoRow : OpenClaim := { program := "ytaepaekagenfnaa", sum := "ab80f12e566717e3d2fa5ff42911a21abfcb32391cfa1f98c8663faef6704f82", func := "loop.example/g00593/laws.FnExactCharacteristicOf", spec := "fnExactCharacteristicOf", unfollowed := true, recurses := true, apart := false, narrowed := true }
def FnExactCharacteristicOfUptoSaid : Prop := fnExactCharacteristicOfUptoRow.holds Try.pinned (OpenSpec.upto fnExactCharacteristicOfSpec)

/-- 'laws.FnExactExcludedMinor', WHERE WHAT IT READS IS OF BULK AT MOST 1048576: true; the input reads as it did. -/
def fnExactExcludedMinorUptoRow : OpenClaim := { program := "ytaepaekagenfnaa", sum := "ab80f12e566717e3d2fa5ff42911a21abfcb32391cfa1f98c8663faef6704f82", func := "loop.example/g00593/laws.FnExactExcludedMinor", spec := "fnExactExcludedMinor", unfollowed := true, recurses := true, apart := false, narrowed := true }
def FnExactExcludedMinorUptoSaid : Prop := fnExactExcludedMinorUptoRow.holds Try.pinned (OpenSpec.upto fnExactExcludedMinorSpec)

/-- 'laws.FnExactInternalActivity', WHERE WHAT IT READS IS OF BULK AT MOST 1048576: true; the input reads as it did. -/
def fnExactInternalActivityUptoRow : OpenClaim := { program := "ytaepaekagenfnaa", sum := "ab80f12e566717e3d2fa5ff42911a21abfcb32391cfa1f98c8663faef6704f82", func := "loop.example/g00593/laws.FnExactInternalActivity", spec := "fnExactInternalActivity", unfollowed := true, recurses := true, apart := false, narrowed := true }
def FnExactInternalActivityUptoSaid : Prop := fnExactInternalActivityUptoRow.holds Try.pinned (OpenSpec.upto fnExactInternalActivitySpec)

end Rows
end Go.Proofs.Ytaepaekagenfnaa
