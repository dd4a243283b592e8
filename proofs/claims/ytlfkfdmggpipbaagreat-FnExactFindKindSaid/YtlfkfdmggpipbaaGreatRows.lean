/-
  No cell of these rows narrows 'for every input' (looked for: loops, veiled, ifaces, maps, wideKeys, modest, calm, conditions, laid).
  DERIVED. THE GIVEN ROWS OF THIS SEAT. 5 by the template 'for every input the law returns true; each argument reads behind the call as it read before'; 0 by the template 'total and deterministic' (their statements: YtlfkfdmggpipbaaGreatTotals.lean).
  GIVEN WITH THE SEED: the statements are not yours to turn. If you find one false, say at which input.
  Laid BY PROGRAM, IN A SANDBOX (cutbox-rows.mjs): the forced cells as the released guide's own fill.sh prints them over the translation 269ab3f902a69dcf… (all of the seat's roots in one cut). By AI agents, Wed Nov 11 2026. No macro, syntax, notation, axiom, sorry.
-/
import Derived.Test.YtlfkfdmggpipbaaGreatChecked
import GoSem.Claim
import GoSem.ClaimJoined
import GoSem.ClaimMapViews
import Derived.JoinedTies
import Derived.KernelRfl
namespace Go.Proofs.YtlfkfdmggpipbaaGreat
/- THE CELL 'sum', in the pinned program and in every row, IS THE sha256 OF THE DUMP (.gsa) THAT YtlfkfdmggpipbaaGreatProg.lean LOADS. Nothing in Lean hashes anything: it is a label: what it is worth is what the hold of that sum in a sandbox is worth. -/
noncomputable def Tryz.pinned : Pinned := { name := "ytlfkfdmggpipbaagreat", sum := "269ab3f902a69dcfe5b992df0ab067edec22be7fa638847ed2b183b98232bcc4", checked := Tryz.checked }
namespace Rows
def none {H : Type} : Left H := { results := [], args := [] }

/-- 'laws.FnExactCountKinds': WHATEVER THE INPUT: true; the input reads as it did. -/
def fnExactCountKindsSpec : ChangeSpec := { name := "fnExactCountKinds", fn := fun _ => fun
  | [d] => { results := [.lit (.bool true)], args := [d] }
  | _ => none }
def fnExactCountKindsRow : OpenClaim := { program := "ytlfkfdmggpipbaagreat", sum := "269ab3f902a69dcfe5b992df0ab067edec22be7fa638847ed2b183b98232bcc4", func := "loop.example/g00593/laws.FnExactCountKinds", spec := "fnExactCountKinds", unfollowed := true, recurses := true, apart := false }
def FnExactCountKindsSaid : Prop := fnExactCountKindsRow.holds Tryz.pinned (OpenSpec.ofChange fnExactCountKindsSpec)

/-- ITS FALSE NEIGHBOUR: 'it returns false'. Refute it at one input. -/
def fnExactCountKindsWrong : ChangeSpec := { name := "fnExactCountKinds", fn := fun _ => fun
  | [d] => { results := [.lit (.bool false)], args := [d] }
  | _ => none }
def FnExactCountKindsWrongFalsely : Prop := fnExactCountKindsRow.holds Tryz.pinned (OpenSpec.ofChange fnExactCountKindsWrong)

/-- 'laws.FnExactCatalogue': WHATEVER THE INPUT: true; the input reads as it did. -/
def fnExactCatalogueSpec : ChangeSpec := { name := "fnExactCatalogue", fn := fun _ => fun
  | [d1, d2] => { results := [.lit (.bool true)], args := [d1, d2] }
  | _ => none }
def fnExactCatalogueRow : OpenClaim := { program := "ytlfkfdmggpipbaagreat", sum := "269ab3f902a69dcfe5b992df0ab067edec22be7fa638847ed2b183b98232bcc4", func := "loop.example/g00593/laws.FnExactCatalogue", spec := "fnExactCatalogue", unfollowed := true, recurses := true, apart := false }
def FnExactCatalogueSaid : Prop := fnExactCatalogueRow.holds Tryz.pinned (OpenSpec.ofChange fnExactCatalogueSpec)

/-- ITS FALSE NEIGHBOUR: 'it returns false'. Refute it at one input. -/
def fnExactCatalogueWrong : ChangeSpec := { name := "fnExactCatalogue", fn := fun _ => fun
  | [d1, d2] => { results := [.lit (.bool false)], args := [d1, d2] }
  | _ => none }
def FnExactCatalogueWrongFalsely : Prop := fnExactCatalogueRow.holds Tryz.pinned (OpenSpec.ofChange fnExactCatalogueWrong)

/-- 'laws.FnExactFindKind': WHATEVER THE INPUT: true; the input reads as it did. -/
def fnExactFindKindSpec : ChangeSpec := { name := "fnExactFindKind", fn := fun _ => fun
  | [d] => { results := [.lit (.bool true)], args := [d] }
  | _ => none }
def fnExactFindKindRow : OpenClaim := { program := "ytlfkfdmggpipbaagreat", sum := "269ab3f902a69dcfe5b992df0ab067edec22be7fa638847ed2b183b98232bcc4", func := "loop.example/g00593/laws.FnExactFindKind", spec := "fnExactFindKind", unfollowed := true, recurses := true, apart := false }
def FnExactFindKindSaid : Prop := fnExactFindKindRow.holds Tryz.pinned (OpenSpec.ofChange fnExactFindKindSpec)

/-- ITS FALSE NEIGHBOUR: 'it returns false'. Refute it at one input. -/
def fnExactFindKindWrong : ChangeSpec := { name := "fnExactFindKind", fn := fun _ => fun
  | [d] => { results := [.lit (.bool false)], args := [d] }
  | _ => none }
def FnExactFindKindWrongFalsely : Prop := fnExactFindKindRow.holds Tryz.pinned (OpenSpec.ofChange fnExactFindKindWrong)

/-- 'laws.FnActivities': WHATEVER THE INPUT: true; the input reads as it did. -/
def fnActivitiesSpec : ChangeSpec := { name := "fnActivities", fn := fun _ => fun
  | [d] => { results := [.lit (.bool true)], args := [d] }
  | _ => none }
def fnActivitiesRow : OpenClaim := { program := "ytlfkfdmggpipbaagreat", sum := "269ab3f902a69dcfe5b992df0ab067edec22be7fa638847ed2b183b98232bcc4", func := "loop.example/g00593/laws.FnActivities", spec := "fnActivities", unfollowed := true, recurses := true, apart := false }
def FnActivitiesSaid : Prop := fnActivitiesRow.holds Tryz.pinned (OpenSpec.ofChange fnActivitiesSpec)

/-- ITS FALSE NEIGHBOUR: 'it returns false'. Refute it at one input. -/
def fnActivitiesWrong : ChangeSpec := { name := "fnActivities", fn := fun _ => fun
  | [d] => { results := [.lit (.bool false)], args := [d] }
  | _ => none }
def FnActivitiesWrongFalsely : Prop := fnActivitiesRow.holds Tryz.pinned (OpenSpec.ofChange fnActivitiesWrong)

/-- 'laws.FnExactExtensionKinds': WHATEVER THE INPUT: true; the input reads as it did. -/
def fnExactExtensionKindsSpec : ChangeSpec := { name := "fnExactExtensionKinds", fn := fun _ => fun
  | [d] => { results := [.lit (.bool true)], args := [d] }
  | _ => none }
def fnExactExtensionKindsRow : OpenClaim := { program := "ytlfkfdmggpipbaagreat", sum := "269ab3f902a69dcfe5b992df0ab067edec22be7fa638847ed2b183b98232bcc4", func := "loop.example/g00593/laws.FnExactExtensionKinds", spec := "fnExactExtensionKinds", unfollowed := true, recurses := true, apart := false }
def FnExactExtensionKindsSaid : Prop := fnExactExtensionKindsRow.holds Tryz.pinned (OpenSpec.ofChange fnExactExtensionKindsSpec)

/-- ITS FALSE NEIGHBOUR: 'it returns false'. Refute it at one input. -/
def fnExactExtensionKindsWrong : ChangeSpec := { name := "fnExactExtensionKinds", fn := fun _ => fun
  | [d] => { results := [.lit (.bool false)], args := [d] }
  | _ => none }
def FnExactExtensionKindsWrongFalsely : Prop := fnExactExtensionKindsRow.holds Tryz.pinned (OpenSpec.ofChange fnExactExtensionKindsWrong)

/- THE SECOND FORM. 'bulk': how many values and letters a reading holds, each counted each time it is reached (what is shared counts as often as it is met; a slice's spare places count too). A statement '..UptoSaid' is the law's where the arguments, and the package variables that the reading takes, are together of bulk at most 1048576: NARROWER than '..Said'. Prove '..Said' where nothing that the law and all that it calls make is longer than what came in: it says more and counts as full. Else prove '..UptoSaid'. A law counts once. -/
mutual
def uptoBulk {H : Type} : DataW H → Nat
  | .lit (.string bytes) => bytes.length + 1
  | .lit _ => 1
  | .nil => 1
  | .ptr d => uptoBulk d + 1
  | .slice elems spare => uptoBulkAll elems + uptoBulkAll spare + 1
  | .agg parts => uptoBulkAll parts + 1
  | .iface _ d => uptoBulk d + 1
  | .map entries => uptoBulkEntries entries + 1
  | .held _ => 1
def uptoBulkAll {H : Type} : List (DataW H) → Nat
  | [] => 0
  | d :: r => uptoBulk d + uptoBulkAll r
def uptoBulkEntries {H : Type} : List (Lit × DataW H) → Nat
  | [] => 0
  | x :: r => uptoBulkEntry x + uptoBulkEntries r
def uptoBulkEntry {H : Type} : Lit × DataW H → Nat
  | (.string bytes, d) => bytes.length + uptoBulk d + 1
  | (_, d) => uptoBulk d + 1
 end
def uptoSmall : (H : Type) → List (DataW H) → Bool := fun _ ds => decide (uptoBulkAll ds ≤ 1048576)
def OpenSpec.upto (s : _root_.Go.ChangeSpec) : _root_.Go.OpenSpec := { _root_.Go.OpenSpec.ofChange s with cond := some uptoSmall }

/-- 'laws.FnExactCountKinds', WHERE WHAT IT READS IS OF BULK AT MOST 1048576: true; the input reads as it did. -/
def fnExactCountKindsUptoRow : OpenClaim := { program := "ytlfkfdmggpipbaagreat", sum := "269ab3f902a69dcfe5b992df0ab067edec22be7fa638847ed2b183b98232bcc4", func := "loop.example/g00593/laws.FnExactCountKinds", spec := "fnExactCountKinds", unfollowed := true, recurses := true, apart := false, narrowed := true }
def FnExactCountKindsUptoSaid : Prop := fnExactCountKindsUptoRow.holds Tryz.pinned (OpenSpec.upto fnExactCountKindsSpec)

/-- 'laws.FnExactCatalogue', WHERE WHAT IT READS IS OF BULK AT MOST 1048576: true; the input reads as it did. -/
def fnExactCatalogueUptoRow : OpenClaim := { program := "ytlfkfdmggpipbaagreat", sum := "269ab3f902a69dcfe5b992df0ab067edec22be7fa638847ed2b183b98232bcc4", func := "loop.example/g00593/laws.FnExactCatalogue", spec := "fnExactCatalogue", unfollowed := true, recurses := true, apart := false, narrowed := true }
def FnExactCatalogueUptoSaid : Prop := fnExactCatalogueUptoRow.holds Tryz.pinned (OpenSpec.upto fnExactCatalogueSpec)

/-- 'laws.FnExactFindKind', WHERE WHAT IT READS IS OF BULK AT MOST 1048576: true; the input reads as it did. -/
def fnExactFindKindUptoRow : OpenClaim := { program := "ytlfkfdmggpipbaagreat", sum := "269ab3f902a69dcfe5b992df0ab067edec22be7fa638847ed2b183b98232bcc4", func := "loop.example/g00593/laws.FnExactFindKind", spec := "fnExactFindKind", unfollowed := true, recurses := true, apart := false, narrowed := true }
def FnExactFindKindUptoSaid : Prop := fnExactFindKindUptoRow.holds Tryz.pinned (OpenSpec.upto fnExactFindKindSpec)

/-- 'laws.FnActivities', WHERE WHAT IT READS IS OF BULK AT MOST 1048576: true; the input reads as it did. -/
def fnActivitiesUptoRow : OpenClaim := { program := "ytlfkfdmggpipbaagreat", sum := "269ab3f902a69dcfe5b992df0ab067edec22be7fa638847ed2b183b98232bcc4", func := "loop.example/g00593/laws.FnActivities", spec := "fnActivities", unfollowed := true, recurses := true, apart := false, narrowed := true }
def FnActivitiesUptoSaid : Prop := fnActivitiesUptoRow.holds Tryz.pinned (OpenSpec.upto fnActivitiesSpec)

/-- 'laws.FnExactExtensionKinds', WHERE WHAT IT READS IS OF BULK AT MOST 1048576: true; the input reads as it did. -/
def fnExactExtensionKindsUptoRow : OpenClaim := { program := "ytlfkfdmggpipbaagreat", sum := "269ab3f902a69dcfe5b992df0ab067edec22be7fa638847ed2b183b98232bcc4", func := "loop.example/g00593/laws.FnExactExtensionKinds", spec := "fnExactExtensionKinds", unfollowed := true, recurses := true, apart := false, narrowed := true }
def FnExactExtensionKindsUptoSaid : Prop := fnExactExtensionKindsUptoRow.holds Tryz.pinned (OpenSpec.upto fnExactExtensionKindsSpec)

end Rows
end Go.Proofs.YtlfkfdmggpipbaaGreat
