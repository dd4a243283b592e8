/-
  No cell of these rows narrows 'for every input' (looked for: loops, veiled, ifaces, maps, wideKeys, modest, calm, conditions, laid).
  DERIVED. THE GIVEN ROWS OF THIS SEAT. 5 by the template 'for every input the law returns true; each argument reads behind the call as it read before'; 0 by the template 'total and deterministic' (their statements: YtmpbccmcaabpjaaGreatTotals.lean).
  GIVEN WITH THE SEED: the statements are not yours to turn. If you find one false, say at which input.
  Laid BY PROGRAM, IN A SANDBOX (cutbox-rows.mjs): the forced cells as the released guide's own fill.sh prints them over the translation be9d73aa21a2c327… (all of the seat's roots in one cut). By AI agents, Wed Nov 11 2026. No macro, syntax, notation, axiom, sorry.
-/
import Derived.Test.YtmpbccmcaabpjaaGreatChecked
import GoSem.Claim
import GoSem.ClaimJoined
import GoSem.ClaimMapViews
import Derived.JoinedTies
import Derived.KernelRfl
namespace Go.Proofs.YtmpbccmcaabpjaaGreat
/- THE CELL 'sum', in the pinned program and in every row, IS THE sha256 OF THE DUMP (.gsa) THAT YtmpbccmcaabpjaaGreatProg.lean LOADS. Nothing in Lean hashes anything: it is a label: what it is worth is what the hold of that sum in a sandbox is worth. -/
noncomputable def Tryz.pinned : Pinned := { name := "ytmpbccmcaabpjaagreat", sum := "be9d73aa21a2c327b9f4770c1c5d90aacc46c51bcf0988ea7bbcb238c4b653b0", checked := Tryz.checked }
namespace Rows
def none {H : Type} : Left H := { results := [], args := [] }

/-- 'laws.FnRepresented': WHATEVER THE INPUT: true; the input reads as it did. -/
def fnRepresentedSpec : ChangeSpec := { name := "fnRepresented", fn := fun _ => fun
  | [d] => { results := [.lit (.bool true)], args := [d] }
  | _ => none }
def fnRepresentedRow : OpenClaim := { program := "ytmpbccmcaabpjaagreat", sum := "be9d73aa21a2c327b9f4770c1c5d90aacc46c51bcf0988ea7bbcb238c4b653b0", func := "loop.example/g00593/laws.FnRepresented", spec := "fnRepresented", unfollowed := true, recurses := true, apart := false }
def FnRepresentedSaid : Prop := fnRepresentedRow.holds Tryz.pinned (OpenSpec.ofChange fnRepresentedSpec)

/-- ITS FALSE NEIGHBOUR: 'it returns false'. Refute it at one input. -/
def fnRepresentedWrong : ChangeSpec := { name := "fnRepresented", fn := fun _ => fun
  | [d] => { results := [.lit (.bool false)], args := [d] }
  | _ => none }
def FnRepresentedWrongFalsely : Prop := fnRepresentedRow.holds Tryz.pinned (OpenSpec.ofChange fnRepresentedWrong)

/-- 'laws.FnCatalogue': WHATEVER THE INPUT: true; the input reads as it did. -/
def fnCatalogueSpec : ChangeSpec := { name := "fnCatalogue", fn := fun _ => fun
  | [d] => { results := [.lit (.bool true)], args := [d] }
  | _ => none }
def fnCatalogueRow : OpenClaim := { program := "ytmpbccmcaabpjaagreat", sum := "be9d73aa21a2c327b9f4770c1c5d90aacc46c51bcf0988ea7bbcb238c4b653b0", func := "loop.example/g00593/laws.FnCatalogue", spec := "fnCatalogue", unfollowed := true, recurses := true, apart := false }
def FnCatalogueSaid : Prop := fnCatalogueRow.holds Tryz.pinned (OpenSpec.ofChange fnCatalogueSpec)

/-- ITS FALSE NEIGHBOUR: 'it returns false'. Refute it at one input. -/
def fnCatalogueWrong : ChangeSpec := { name := "fnCatalogue", fn := fun _ => fun
  | [d] => { results := [.lit (.bool false)], args := [d] }
  | _ => none }
def FnCatalogueWrongFalsely : Prop := fnCatalogueRow.holds Tryz.pinned (OpenSpec.ofChange fnCatalogueWrong)

/-- 'laws.FnExactCatalogue': WHATEVER THE INPUT: true; the input reads as it did. -/
def fnExactCatalogueSpec : ChangeSpec := { name := "fnExactCatalogue", fn := fun _ => fun
  | [d1, d2] => { results := [.lit (.bool true)], args := [d1, d2] }
  | _ => none }
def fnExactCatalogueRow : OpenClaim := { program := "ytmpbccmcaabpjaagreat", sum := "be9d73aa21a2c327b9f4770c1c5d90aacc46c51bcf0988ea7bbcb238c4b653b0", func := "loop.example/g00593/laws.FnExactCatalogue", spec := "fnExactCatalogue", unfollowed := true, recurses := true, apart := false }
def FnExactCatalogueSaid : Prop := fnExactCatalogueRow.holds Tryz.pinned (OpenSpec.ofChange fnExactCatalogueSpec)

/-- ITS FALSE NEIGHBOUR: 'it returns false'. Refute it at one input. -/
def fnExactCatalogueWrong : ChangeSpec := { name := "fnExactCatalogue", fn := fun _ => fun
  | [d1, d2] => { results := [.lit (.bool false)], args := [d1, d2] }
  | _ => none }
def FnExactCatalogueWrongFalsely : Prop := fnExactCatalogueRow.holds Tryz.pinned (OpenSpec.ofChange fnExactCatalogueWrong)

/-- 'laws.FnUnions': WHATEVER THE INPUT: true; the input reads as it did. -/
def fnUnionsSpec : ChangeSpec := { name := "fnUnions", fn := fun _ => fun
  | [d] => { results := [.lit (.bool true)], args := [d] }
  | _ => none }
def fnUnionsRow : OpenClaim := { program := "ytmpbccmcaabpjaagreat", sum := "be9d73aa21a2c327b9f4770c1c5d90aacc46c51bcf0988ea7bbcb238c4b653b0", func := "loop.example/g00593/laws.FnUnions", spec := "fnUnions", unfollowed := true, recurses := true, apart := false }
def FnUnionsSaid : Prop := fnUnionsRow.holds Tryz.pinned (OpenSpec.ofChange fnUnionsSpec)

/-- ITS FALSE NEIGHBOUR: 'it returns false'. Refute it at one input. -/
def fnUnionsWrong : ChangeSpec := { name := "fnUnions", fn := fun _ => fun
  | [d] => { results := [.lit (.bool false)], args := [d] }
  | _ => none }
def FnUnionsWrongFalsely : Prop := fnUnionsRow.holds Tryz.pinned (OpenSpec.ofChange fnUnionsWrong)

/-- 'laws.FnExactExtensionKinds': WHATEVER THE INPUT: true; the input reads as it did. -/
def fnExactExtensionKindsSpec : ChangeSpec := { name := "fnExactExtensionKinds", fn := fun _ => fun
  | [d] => { results := [.lit (.bool true)], args := [d] }
  | _ => none }
def fnExactExtensionKindsRow : OpenClaim := { program := "ytmpbccmcaabpjaagreat", sum := "be9d73aa21a2c327b9f4770c1c5d90aacc46c51bcf0988ea7bbcb238c4b653b0", func := "loop.example/g00593/laws.FnExactExtensionKinds", spec := "fnExactExtensionKinds", unfollowed := true, recurses := true, apart := false }
def FnExactExtensionKindsSaid : Prop := fnExactExtensionKindsRow.holds Tryz.pinned (OpenSpec.ofChange fnExactExtensionKindsSpec)

/-- ITS FALSE NEIGHBOUR: 'it returns false'. Refute it at one input. -/
def fnExactExtensionKindsWrong : ChangeSpec := { name := "fnExactExtensionKinds", fn := fun _ => fun
  | [d] => { results := [.lit (.bool false)], args := [d] }
  | _ => none }
def FnExactExtensionKindsWrongFalsely : Prop := fnExactExtensionKindsRow.holds Tryz.pinned (OpenSpec.ofChange fnExactExtensionKindsWrong)

/- THE SECOND FORM. 'bulk': how many values and letters a reading holds, each counted each time it is reached (what is shared counts as often as it is met; a slice's spare places count too). A statement '..UptoSaid' is the law's where the arguments, and the package variables that the reading takes, are together of bulk at most 1048576: NARROWER than '..Said'. Prove '..Said' where nothing that the law and all that it calls make is longer than what came in: it says more and counts as full. Else prove '..UptoSaid'. A law counts once. -/
mutual
def uptoBulk {H : Type} : DataW H → Nat
  | .lit (.string bytes) => bytes.length + 1
  | .lit _ => 1
  | .nil => 1
  | .ptr d => uptoBulk d + 1
  | .slice elems spare => uptoBulkAll elems + uptoBulkAll spare + 1
  | .agg parts => uptoBulkAll parts + 1
  | .iface _ d => uptoBulk d + 1
  | .map entries => uptoBulkEntries entries + 1
  | .held _ => 1
def uptoBulkAll {H : Type} : List (DataW H) → Nat
  | [] => 0
  | d :: r => uptoBulk d + uptoBulkAll r
def uptoBulkEntries {H : Type} : List (Lit × DataW H) → Nat
  | [] => 0
  | x :: r => uptoBulkEntry x + uptoBulkEntries r
def uptoBulkEntry {H : Type} : Lit × DataW H → Nat
  | (.string bytes, d) => bytes.length + uptoBulk d + 1
  | (_, d) => uptoBulk d + 1
 end
def uptoSmall : (H : Type) → List (DataW H) → Bool := fun _ ds => decide (uptoBulkAll ds ≤ 1048576)
def OpenSpec.upto (s : _root_.Go.ChangeSpec) : _root_.Go.OpenSpec := { _root_.Go.OpenSpec.ofChange s with cond := some uptoSmall }

/-- 'laws.FnRepresented', WHERE WHAT IT READS IS OF BULK AT MOST 1048576: true; the input reads as it did. -/
def fnRepresentedUptoRow : OpenClaim := { program := "ytmpbccmcaabpjaagreat", sum := "be9d73aa21a2c327b9f4770c1c5d90aacc46c51bcf0988ea7bbcb238c4b653b0", func := "loop.example/g00593/laws.FnRepresented", spec := "fnRepresented", unfollowed := true, recurses := true, apart := false, narrowed := true }
def FnRepresentedUptoSaid : Prop := fnRepresentedUptoRow.holds Tryz.pinned (OpenSpec.upto fnRepresentedSpec)

/-- 'laws.FnCatalogue', WHERE WHAT IT READS IS OF BULK AT MOST 1048576: true; the input reads as it did. -/
def fnCatalogueUptoRow : OpenClaim := { program := "ytmpbccmcaabpjaagreat", sum := "be9d73aa21a2c327b9f4770c1c5d90aacc46c51bcf0988ea7bbcb238c4b653b0", func := "loop.example/g00593/laws.FnCatalogue", spec := "fnCatalogue", unfollowed := true, recurses := true, apart := false, narrowed := true }
def FnCatalogueUptoSaid : Prop := fnCatalogueUptoRow.holds Tryz.pinned (OpenSpec.upto fnCatalogueSpec)

/-- 'laws.FnExactCatalogue', WHERE WHAT IT READS IS OF BULK AT MOST 1048576: true; the input reads as it did. -/
def fnExactCatalogueUptoRow : OpenClaim := { program := "ytmpbccmcaabpjaagreat", sum := "be9d73aa21a2c327b9f4770c1c5d90aacc46c51bcf0988ea7bbcb238c4b653b0", func := "loop.example/g00593/laws.FnExactCatalogue", spec := "fnExactCatalogue", unfollowed := true, recurses := true, apart := false, narrowed := true }
def FnExactCatalogueUptoSaid : Prop := fnExactCatalogueUptoRow.holds Tryz.pinned (OpenSpec.upto fnExactCatalogueSpec)

/-- 'laws.FnUnions', WHERE WHAT IT READS IS OF BULK AT MOST 1048576: true; the input reads as it did. -/
def fnUnionsUptoRow : OpenClaim := { program := "ytmpbccmcaabpjaagreat", sum := "be9d73aa21a2c327b9f4770c1c5d90aacc46c51bcf0988ea7bbcb238c4b653b0", func := "loop.example/g00593/laws.FnUnions", spec := "fnUnions", unfollowed := true, recurses := true, apart := false, narrowed := true }
def FnUnionsUptoSaid : Prop := fnUnionsUptoRow.holds Tryz.pinned (OpenSpec.upto fnUnionsSpec)

/-- 'laws.FnExactExtensionKinds', WHERE WHAT IT READS IS OF BULK AT MOST 1048576: true; the input reads as it did. -/
def fnExactExtensionKindsUptoRow : OpenClaim := { program := "ytmpbccmcaabpjaagreat", sum := "be9d73aa21a2c327b9f4770c1c5d90aacc46c51bcf0988ea7bbcb238c4b653b0", func := "loop.example/g00593/laws.FnExactExtensionKinds", spec := "fnExactExtensionKinds", unfollowed := true, recurses := true, apart := false, narrowed := true }
def FnExactExtensionKindsUptoSaid : Prop := fnExactExtensionKindsUptoRow.holds Tryz.pinned (OpenSpec.upto fnExactExtensionKindsSpec)

end Rows
end Go.Proofs.YtmpbccmcaabpjaaGreat
