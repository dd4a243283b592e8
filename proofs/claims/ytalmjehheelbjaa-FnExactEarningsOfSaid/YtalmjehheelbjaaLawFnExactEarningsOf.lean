/- The row of the law FnExactEarningsOf: for every input the law returns true, and its arguments read as before. Out of the pure theorem and the walk. Written by mkrow.py. -/
import Derived.Test.YtalmjehheelbjaaRows
import Derived.Test.YtalmjehheelbjaaPr11
import Derived.Test.YtalmjehheelbjaaPureFnExactEarningsOf
import Derived.Test.YtalmjehheelbjaaOpen
import Derived.WalkKit
import Derived.ProofKit
import Derived.OpenShut
import Derived.ShutString
import Derived.ChangeOld
import Derived.Below
import Derived.SizedLaws
namespace Go.Proofs.Ytalmjehheelbjaa.fnExactEarningsOf
open Go.ChangeShapes Go.WideShapes Go.ChangeAt Go.RowKit Go.Proofs.Ytalmjehheelbjaa.Open Go.Proofs.YtalmjehheelbjaaW.PrintWords
open Go.ChangeMaps (open_string shut_string)
set_option linter.unusedVariables false
theorem own : ownKnob Try.prog.godebug = none := by kernel_rfl
theorem laidOut : laidOutB Try.prog = true := by kernel_rfl
set_option maxRecDepth 100000 in
theorem lifted (os : Os) (started : os.Started) (H : Type) (enc : TypeId × Value → H) :
    ReturnsInHanded {} Try.checked os 6 .any (Rows.fnExactEarningsOfSpec.pre6 enc Try.prog Try.f6 Rows.fnExactEarningsOfRow.domain false) (Rows.fnExactEarningsOfSpec.post enc Try.prog Try.f6 false true false false) := by
  refine returnsInHanded_of_change_sized (C := Try.checked) own started (by kernel_rfl) Try.func6
    (ChangeSpec.witness6 (enc := enc) (C := Try.checked) false ⟨#[], #[.slice none 0 0, .int .i64 0], []⟩ 8 (by kernel_rfl) (by kernel_rfl) (by kernel_rfl) (by kernel_rfl)) ?_
  intro W base args ds gs before hval0 hW hcnd hsz0 _
  have hval : ∀ (j : Nat) t v, Try.f6.params[j]? = some t → args[j]? = some v → Value.okWide Try.prog W .any base t v := hval0
  have hW' := hW
  obtain ⟨p, q, hA0, hV, rfl, hfz, hnd⟩ := hW
  have hA : DataW.TrodAll enc Try.prog W 0 (fun _ => true) true Try.f6.params.toList args.toList ds p := hA0
  rw [Try.params6] at hA hval
  obtain ⟨v0, vs0, d0, ds0, p0, q0, hargs, rfl, rfl, h0, r0⟩ := trodAll_cons hA
  obtain ⟨v1, vs1, d1, ds1, p1, q1, rfl, rfl, rfl, h1, r1⟩ := trodAll_cons r0
  obtain ⟨rfl, rfl, rfl⟩ := trodAll_nil r1
  obtain rfl : args = #[v0, v1] := by cases args; simp_all
  obtain ⟨rfl, rfl⟩ := trodVars_none hV
  have k0 := h0
  have lt0 : ∀ x ∈ p0, x.block < W.heap.size := by obtain ⟨m, hm⟩ := k0; exact DataW.trod_lt m _ _ _ hm
  obtain ⟨A0, c0, x0, rfl, hl0, hr0, w0⟩ := Opens.argSlice (Opens.slice Try.underlying29 (by kernel_rfl) (Opens.iso (Opens.struct Try.underlying62 (by kernel_rfl) (OpensFs.cons rfl (by kernel_rfl) (Opens.int Try.underlying3) (OpensFs.one rfl (by kernel_rfl) (Opens.int Try.underlying3)))) (fun x : Pr.S62 => (x.f0, x.f1)) (fun a => ⟨a.1, a.2⟩) (fun _ => rfl))) (okWide_slice Try.underlying29 (hval 0 29 v0 rfl rfl)) h0
  obtain ⟨a1, rfl, rfl, rfl, w1⟩ := open_int Try.underlying3 (hval 1 3 v1 rfl rfl) h1
  clear hA0 hval0 hsz0
  obtain ⟨k, hk⟩ := Pure.FnExactEarningsOf x0 a1 w0.1 w1
  refine (Pr.laws_FnExactEarningsOf.calls k _ _ x0 a1 true W hr0 hl0 ⟨rfl⟩ hk).mono fun e W' ⟨he, bel⟩ => ?_
  subst he
  exact ⟨_, rfl, _, _, _, [], _, [], hW', trodAll_mk1 (shut_bool Try.underlying4 _), (trodAll_cons_mk (Below.trod laidOut (by kernel_rfl) (of_decide_eq_true (by kernel_rfl)) k0 bel lt0) (trodAll_cons_mk (shut_int Try.underlying3 w1) trodAll_mk0)), rfl, bel.frame _, fun h => by cases h⟩
theorem over : Rows.fnExactEarningsOfRow.holds Try.pinned (OpenSpec.ofChange Rows.fnExactEarningsOfSpec) :=
  OpenClaim.holds_of_wide 6 Try.f6 rfl rfl rfl rfl rfl rfl rfl ⟨rfl, rfl, rfl, rfl, rfl⟩ rfl rfl rfl rfl rfl (by kernel_rfl) Try.func6 (by kernel_rfl)
    (of_decide_eq_true (by kernel_rfl)) (by unfold Func.isWrapper; first | (rw [if_pos (by decide +kernel)]; kernel_rfl) | (rw [if_neg (by decide +kernel)]; exact ⟨rfl, rfl⟩))
    (fun os started H enc _ => lifted os started H enc)
theorem proved : Rows.FnExactEarningsOfSaid := over
#print axioms proved
end Go.Proofs.Ytalmjehheelbjaa.fnExactEarningsOf
namespace Go.Proofs.Ytalmjehheelbjaa
theorem fnExactEarningsOf_holds : Rows.FnExactEarningsOfSaid := fnExactEarningsOf.proved
end Go.Proofs.Ytalmjehheelbjaa
