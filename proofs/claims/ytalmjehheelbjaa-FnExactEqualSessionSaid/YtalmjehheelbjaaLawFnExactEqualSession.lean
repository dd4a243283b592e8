/- The row of the law FnExactEqualSession: for every input the law returns true, and its arguments read as before. Out of the pure theorem and the walk. Written by mkrow.py. -/
import Derived.Test.YtalmjehheelbjaaRows
import Derived.Test.YtalmjehheelbjaaPr18
import Derived.Test.YtalmjehheelbjaaPureFnExactEqualSession
import Derived.Test.YtalmjehheelbjaaOpen
import Derived.WalkKit
import Derived.ProofKit
import Derived.OpenShut
import Derived.ShutString
import Derived.ChangeOld
import Derived.Below
import Derived.SizedLaws
namespace Go.Proofs.Ytalmjehheelbjaa.fnExactEqualSession
open Go.ChangeShapes Go.WideShapes Go.ChangeAt Go.RowKit Go.Proofs.Ytalmjehheelbjaa.Open Go.Proofs.YtalmjehheelbjaaW.PrintWords
open Go.ChangeMaps (open_string shut_string)
set_option linter.unusedVariables false
theorem own : ownKnob Try.prog.godebug = none := by kernel_rfl
theorem laidOut : laidOutB Try.prog = true := by kernel_rfl
set_option maxRecDepth 100000 in
theorem lifted (os : Os) (started : os.Started) (H : Type) (enc : TypeId × Value → H) :
    ReturnsInHanded {} Try.checked os 8 .any (Rows.fnExactEqualSessionSpec.pre6 enc Try.prog Try.f8 Rows.fnExactEqualSessionRow.domain false) (Rows.fnExactEqualSessionSpec.post enc Try.prog Try.f8 false true false false) := by
  refine returnsInHanded_of_change_sized (C := Try.checked) own started (by kernel_rfl) Try.func8
    (ChangeSpec.witness6 (enc := enc) (C := Try.checked) false ⟨#[], #[.agg #[.int .i64 0, .slice none 0 0, .int .i64 0, .slice none 0 0], .agg #[.int .i64 0, .slice none 0 0, .int .i64 0, .slice none 0 0]], []⟩ 8 (by kernel_rfl) (by kernel_rfl) (by kernel_rfl) (by kernel_rfl)) ?_
  intro W base args ds gs before hval0 hW hcnd hsz0 _
  have hval : ∀ (j : Nat) t v, Try.f8.params[j]? = some t → args[j]? = some v → Value.okWide Try.prog W .any base t v := hval0
  have hW' := hW
  obtain ⟨p, q, hA0, hV, rfl, hfz, hnd⟩ := hW
  have hA : DataW.TrodAll enc Try.prog W 0 (fun _ => true) true Try.f8.params.toList args.toList ds p := hA0
  rw [Try.params8] at hA hval
  obtain ⟨v0, vs0, d0, ds0, p0, q0, hargs, rfl, rfl, h0, r0⟩ := trodAll_cons hA
  obtain ⟨v1, vs1, d1, ds1, p1, q1, rfl, rfl, rfl, h1, r1⟩ := trodAll_cons r0
  obtain ⟨rfl, rfl, rfl⟩ := trodAll_nil r1
  obtain rfl : args = #[v0, v1] := by cases args; simp_all
  obtain ⟨rfl, rfl⟩ := trodVars_none hV
  have k0 := h0
  have lt0 : ∀ x ∈ p0, x.block < W.heap.size := by obtain ⟨m, hm⟩ := k0; exact DataW.trod_lt m _ _ _ hm
  obtain ⟨cs0, x0, rfl, K0, w0⟩ := Opens.argStruct (Opens.struct Try.underlying47 (by kernel_rfl) (OpensFs.cons rfl (by kernel_rfl) (Opens.struct Try.underlying45 (by kernel_rfl) (OpensFs.cons rfl (by kernel_rfl) (Opens.int Try.underlying3) (OpensFs.one rfl (by kernel_rfl) (Opens.slice Try.underlying24 (by kernel_rfl) (Opens.int Try.underlying3))))) (OpensFs.one rfl (by kernel_rfl) (Opens.struct Try.underlying45 (by kernel_rfl) (OpensFs.cons rfl (by kernel_rfl) (Opens.int Try.underlying3) (OpensFs.one rfl (by kernel_rfl) (Opens.slice Try.underlying24 (by kernel_rfl) (Opens.int Try.underlying3)))))))) (okWide_struct Try.underlying47 (hval 0 47 v0 rfl rfl)) h0
  obtain ⟨_, _, rfl, ⟨_, _, rfl, rfl, ⟨A0_1, c0_1, rfl, hl0_1, hr0_1⟩⟩, ⟨_, _, rfl, rfl, ⟨A0_3, c0_3, rfl, hl0_3, hr0_3⟩⟩⟩ := K0
  obtain ⟨⟨w0_0, w0_1⟩, ⟨w0_2, w0_3⟩⟩ := w0
  have k1 := h1
  have lt1 : ∀ x ∈ p1, x.block < W.heap.size := by obtain ⟨m, hm⟩ := k1; exact DataW.trod_lt m _ _ _ hm
  obtain ⟨cs1, x1, rfl, K1, w1⟩ := Opens.argStruct (Opens.struct Try.underlying47 (by kernel_rfl) (OpensFs.cons rfl (by kernel_rfl) (Opens.struct Try.underlying45 (by kernel_rfl) (OpensFs.cons rfl (by kernel_rfl) (Opens.int Try.underlying3) (OpensFs.one rfl (by kernel_rfl) (Opens.slice Try.underlying24 (by kernel_rfl) (Opens.int Try.underlying3))))) (OpensFs.one rfl (by kernel_rfl) (Opens.struct Try.underlying45 (by kernel_rfl) (OpensFs.cons rfl (by kernel_rfl) (Opens.int Try.underlying3) (OpensFs.one rfl (by kernel_rfl) (Opens.slice Try.underlying24 (by kernel_rfl) (Opens.int Try.underlying3)))))))) (okWide_struct Try.underlying47 (hval 1 47 v1 rfl rfl)) h1
  obtain ⟨_, _, rfl, ⟨_, _, rfl, rfl, ⟨A1_1, c1_1, rfl, hl1_1, hr1_1⟩⟩, ⟨_, _, rfl, rfl, ⟨A1_3, c1_3, rfl, hl1_3, hr1_3⟩⟩⟩ := K1
  obtain ⟨⟨w1_0, w1_1⟩, ⟨w1_2, w1_3⟩⟩ := w1
  clear hA0 hval0 hsz0
  obtain ⟨k, hk⟩ := Pure.FnExactEqualSession x0.1.1 x0.1.2 x0.2.1 x0.2.2 x1.1.1 x1.1.2 x1.2.1 x1.2.2 w0_0 w0_1 w0_2 w0_3 w1_0 w1_1 w1_2 w1_3
  refine (Pr.laws_FnExactEqualSession.calls k x0.1.1 _ _ x0.1.2 x0.2.1 _ _ x0.2.2 x1.1.1 _ _ x1.1.2 x1.2.1 _ _ x1.2.2 true W hr0_1 hl0_1 hr0_3 hl0_3 hr1_1 hl1_1 hr1_3 hl1_3 ⟨rfl⟩ hk).mono fun e W' ⟨he, bel⟩ => ?_
  subst he
  exact ⟨_, rfl, _, _, _, [], _, [], hW', trodAll_mk1 (shut_bool Try.underlying4 _), (trodAll_cons_mk (Below.trod laidOut (by kernel_rfl) (of_decide_eq_true (by kernel_rfl)) k0 bel lt0) (trodAll_cons_mk (Below.trod laidOut (by kernel_rfl) (of_decide_eq_true (by kernel_rfl)) k1 bel lt1) trodAll_mk0)), rfl, bel.frame _, fun h => by cases h⟩
theorem over : Rows.fnExactEqualSessionRow.holds Try.pinned (OpenSpec.ofChange Rows.fnExactEqualSessionSpec) :=
  OpenClaim.holds_of_wide 8 Try.f8 rfl rfl rfl rfl rfl rfl rfl ⟨rfl, rfl, rfl, rfl, rfl⟩ rfl rfl rfl rfl rfl (by kernel_rfl) Try.func8 (by kernel_rfl)
    (of_decide_eq_true (by kernel_rfl)) (by unfold Func.isWrapper; first | (rw [if_pos (by decide +kernel)]; kernel_rfl) | (rw [if_neg (by decide +kernel)]; exact ⟨rfl, rfl⟩))
    (fun os started H enc _ => lifted os started H enc)
theorem proved : Rows.FnExactEqualSessionSaid := over
#print axioms proved
end Go.Proofs.Ytalmjehheelbjaa.fnExactEqualSession
namespace Go.Proofs.Ytalmjehheelbjaa
theorem fnExactEqualSession_holds : Rows.FnExactEqualSessionSaid := fnExactEqualSession.proved
end Go.Proofs.Ytalmjehheelbjaa
