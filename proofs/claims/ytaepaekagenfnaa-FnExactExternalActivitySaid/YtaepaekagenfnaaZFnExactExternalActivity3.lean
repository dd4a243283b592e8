/- Texts of the claim FnExactExternalActivity, laid together by merge.py. -/
import Derived.Below
import Derived.ChangeArms
import Derived.ChangeOld
import Derived.DataReads
import Derived.Deep.Slices
import Derived.OpenShut
import Derived.ProofKit
import Derived.ShutString
import Derived.SizedLaws
import Derived.Test.YtaepaekagenfnaaRows
import Derived.Test.YtaepaekagenfnaaWWords
import Derived.Test.YtaepaekagenfnaaZFnExactExternalActivity2
import Derived.WalkKit
/-! ## Pr65 -/
section
/- The functions that the laws reach, as plain Lean functions, and that the calls come to what these say. By pr.py over the kit's print. -/
namespace Go.Proofs.Ytaepaekagenfnaa.Pr
open Go.RowKit Go.Proofs.YtaepaekagenfnaaW.PrintWords Go.Proofs.YtaepaekagenfnaaW.PrintLast Go.Proofs.YtaepaekagenfnaaW.PrintMore
attribute [local go_sem] max2_int min2_int max_two min_two max_three min_three max_four min_four   -- for this text's walks alone
set_option linter.unusedVariables false
set_option linter.unusedSimpArgs false

/-! ### impl_isFlat: function 73 -/
def impl_isFlat.f (k : Nat) (a0_0 : Int) (l0_1 : List Int) (a1 : Int) : Option (Bool) := (impl_knows.f k a0_0 l0_1 a1).bind fun t319 => (if t319 = true then ((impl_closure.f k a0_0 l0_1 a1).bind fun t320 => (some (t320 == a1))) else (some false))
theorem impl_isFlat.mono : ∀ a0 a1 a2 k, LeO (impl_isFlat.f k a0 a1 a2) (impl_isFlat.f (k + 1) a0 a1 a2) := by
  intro a0 a1 a2 k
  unfold impl_isFlat.f
  repeat' first
      | (with_reducible exact impl_closure.mono _ _ _ _)
      | (with_reducible exact impl_knows.mono _ _ _ _)
      | (with_reducible exact LeO.refl _)
      | (with_reducible exact LeO.none _)
      | (with_reducible refine LeO.ite ?_ ?_)
      | (with_reducible refine LeO.bind ?_ (fun _ => ?_))
      | exact impl_closure.mono _ _ _ _
      | exact impl_knows.mono _ _ _ _
      | exact LeO.none _
      | refine LeO.ite ?_ ?_
      | refine LeO.bind ?_ (fun _ => ?_)
set_option maxHeartbeats 8000000 in
set_option maxRecDepth 100000 in
theorem impl_isFlat.calls (k : Nat) (a0_0 : Int) (A0_1 : Option Addr) (c0_1 : Nat) (l0_1 : List Int) (a1 : Int) (r : Bool) (w : World) (hr0_1 : Kd.C (Kd.int .i64) w A0_1 l0_1.length l0_1) (hc0_1 : l0_1.length ≤ c0_1) (h : impl_isFlat.f k a0_0 l0_1 a1 = some r) :
    Calls Try.prog 73 #[.agg #[.int .i64 a0_0, .slice A0_1 l0_1.length c0_1], .int .i64 a1] w fun e w' => e = .returned (.bool r) ∧ Below w.heap.size w w' := by
  have hu27 := Try.underlying27
  have HR0_1 := Aside0.mk hr0_1
  have HC0_1 := Aside0.mk hc0_1
  clear hr0_1 hc0_1
  have HB := Aside0.mk (Below.refl w.heap.size w)
  have H : ((impl_knows.f k a0_0 l0_1 a1).bind fun t319 => (if t319 = true then ((impl_closure.f k a0_0 l0_1 a1).bind fun t320 => (some (t320 == a1))) else (some false))) = some r := h
  clear h
  replace H := Option.bind_eq_some_iff.mp H
  obtain ⟨t319, A30, H⟩ := H
  replace H : (if t319 = true then ((impl_closure.f k a0_0 l0_1 a1).bind fun t320 => (some (t320 == a1))) else (some false)) = some r := H
  have A3 := Aside0.mk A30
  clear A30
  by_cases c4 : t319 = true
  · subst c4
    have H1 : ((impl_closure.f k a0_0 l0_1 a1).bind fun t320 => (some (t320 == a1))) = some r := by rw [if_pos rfl] at H; exact H
    clear H
    have H := H1
    clear H1
    replace H := Option.bind_eq_some_iff.mp H
    obtain ⟨t320, A50, H⟩ := H
    replace H : (some (t320 == a1)) = some r := H
    have A5 := Aside0.mk A50
    clear A50
    obtain rfl := Option.some.inj H
    go_enter Try.func73, Try.ntmps73
    go_wp2_with (first | ((with_reducible refine gate_dst (N := 2) rfl ?_); refine box_event ?hg (N := 2) ?hd (cs := #[.int .i64 a0_0, .slice A0_1 l0_1.length c0_1]) (t := 27) ?hr ?_; (case hd => rfl); (case hg => rfl); (case hr => first | (go_simp; done) | (go_simp; rfl)); intro gb318 hg w6 hbox hb; have n0_ := Aside0.mk (below_step (by repeat (first | (with_reducible first | exact HB.out | apply below_alloc | apply pw_below_drewN | apply below_drew1) | exact HB.out)) hb); have n1_ := Aside0.mk (hbox); have n2_ := Aside0.mk ((by rw [hg]; exact (below_size (by repeat (first | (with_reducible first | exact HB.out | apply below_alloc | apply pw_below_drewN | apply below_drew1) | exact HB.out))) : w.heap.size ≤ gb318)); have n3_ := Aside0.mk ((by rw [hg]; exact (below_size (by repeat (first | (with_reducible first | exact HB.out | apply below_alloc | apply pw_below_drewN | apply below_drew1) | exact HB.out))) : w.heap.size ≤ gb318)); clear HB; have HB := n0_; have BK318 := n1_; have GW318 := n2_; have GE318 := n3_; clear n0_ n1_ n2_ n3_; clear hb hbox hg; have hcz7_0 : w6.cell? ⟨gb318, 0, none⟩ = some (.int .i64 a0_0) := (blk_cell BK318.out 0).trans rfl; have hcz7_1 : w6.cell? ⟨gb318, 1, none⟩ = some (.slice A0_1 l0_1.length c0_1) := (blk_cell BK318.out 1).trans rfl; have hfz7_0 := blk_frozen BK318.out 0; have hfz7_1 := blk_frozen BK318.out 1) | ((with_reducible refine gate_callee (f := 120) rfl ?_); refine goesL_ (some 7) rfl rfl Try.func120 (by kernel_rfl) rfl #[.agg #[.int .i64 a0_0, .slice A0_1 l0_1.length c0_1], .int .i64 a1] rfl (by (try simp only [List.map_toArray, List.map_cons, List.map_nil]); first | done | rfl | (simp only [List.length_drop, List.length_take]; rfl)) ?_; (with_reducible refine (impl_knows.calls k a0_0 _ _ l0_1 a1 true _ ?side1 ?side2 A3.out).mono ?_); (case side1 => repeat (first | exact (Kd.C_below HR0_1.out HB.out) | (with_reducible refine Kd.C_alloc ?_ _) | (with_reducible refine Kd.C_drewN ?_ _) | (with_reducible refine Kd.C_drew ?_))); (case side2 => exact HC0_1.out); rintro e w8 ⟨rfl, hb⟩; refine ⟨_, rfl, ?_⟩; have n0_ := Aside0.mk (blk_below (g := gb318) (o := .cells #[.int .i64 a0_0, .slice A0_1 l0_1.length c0_1] 27 (0, 0)) (by (with_reducible repeat (first | refine blk_drewN ?_ _ | refine blk_drew ?_ | refine blk_alloc ?_ _)); exact BK318.out) hb); have n1_ := Aside0.mk (below_step (by repeat (first | (with_reducible first | exact HB.out | apply below_alloc | apply pw_below_drewN | apply below_drew1 | refine below_set ?_ GE318.out) | exact HB.out)) hb); clear BK318; clear HB; have BK318 := n0_; have HB := n1_; clear n0_ n1_; (try clear hb); (try clear hb2); (try clear hk); (try clear hi); have hcz9_0 : w8.cell? ⟨gb318, 0, none⟩ = some (.int .i64 a0_0) := (blk_cell BK318.out 0).trans rfl; have hcz9_1 : w8.cell? ⟨gb318, 1, none⟩ = some (.slice A0_1 l0_1.length c0_1) := (blk_cell BK318.out 1).trans rfl; have hfz9_0 := blk_frozen BK318.out 0; have hfz9_1 := blk_frozen BK318.out 1) | (go_at_call 74; (with_reducible refine (impl_closure.calls k a0_0 _ _ l0_1 a1 t320 _ ?side1 ?side2 A5.out).mono ?_); (case side1 => repeat (first | exact (Kd.C_below HR0_1.out HB.out) | (with_reducible refine Kd.C_alloc ?_ _) | (with_reducible refine Kd.C_drewN ?_ _) | (with_reducible refine Kd.C_drew ?_))); (case side2 => exact HC0_1.out); rintro e w10 ⟨rfl, hb⟩; have n0_ := Aside0.mk (blk_below (g := gb318) (o := .cells #[.int .i64 a0_0, .slice A0_1 l0_1.length c0_1] 27 (0, 0)) (by (with_reducible repeat (first | refine blk_drewN ?_ _ | refine blk_drew ?_ | refine blk_alloc ?_ _)); exact BK318.out) hb); have n1_ := Aside0.mk (below_step (by repeat (first | (with_reducible first | exact HB.out | apply below_alloc | apply pw_below_drewN | apply below_drew1 | refine below_set ?_ GE318.out) | exact HB.out)) hb); clear BK318; clear HB; have BK318 := n0_; have HB := n1_; clear n0_ n1_; (try clear hb); (try clear hb2); (try clear hk); (try clear hi)))
    go_ret
    exact ⟨by first | rfl | (simp [errW_none, errW_some] <;> rfl) | (simp [*, errW_none, errW_some] <;> rfl), by repeat (first | (with_reducible first | exact HB.out | apply below_alloc | apply pw_below_drewN | apply below_drew1 | refine below_set ?_ GE318.out) | exact HB.out)⟩
  · replace c4 := Bool.eq_false_iff.mpr c4
    subst c4
    have H1 : (some false) = some r := by rw [if_neg (show ¬ (false = true) by decide)] at H; exact H
    clear H
    have H := H1
    clear H1
    obtain rfl := Option.some.inj H
    go_enter Try.func73, Try.ntmps73
    go_wp2_with (first | ((with_reducible refine gate_dst (N := 2) rfl ?_); refine box_event ?hg (N := 2) ?hd (cs := #[.int .i64 a0_0, .slice A0_1 l0_1.length c0_1]) (t := 27) ?hr ?_; (case hd => rfl); (case hg => rfl); (case hr => first | (go_simp; done) | (go_simp; rfl)); intro gb318 hg w11 hbox hb; have n0_ := Aside0.mk (below_step (by repeat (first | (with_reducible first | exact HB.out | apply below_alloc | apply pw_below_drewN | apply below_drew1) | exact HB.out)) hb); have n1_ := Aside0.mk (hbox); have n2_ := Aside0.mk ((by rw [hg]; exact (below_size (by repeat (first | (with_reducible first | exact HB.out | apply below_alloc | apply pw_below_drewN | apply below_drew1) | exact HB.out))) : w.heap.size ≤ gb318)); have n3_ := Aside0.mk ((by rw [hg]; exact (below_size (by repeat (first | (with_reducible first | exact HB.out | apply below_alloc | apply pw_below_drewN | apply below_drew1) | exact HB.out))) : w.heap.size ≤ gb318)); clear HB; have HB := n0_; have BK318 := n1_; have GW318 := n2_; have GE318 := n3_; clear n0_ n1_ n2_ n3_; clear hb hbox hg; have hcz12_0 : w11.cell? ⟨gb318, 0, none⟩ = some (.int .i64 a0_0) := (blk_cell BK318.out 0).trans rfl; have hcz12_1 : w11.cell? ⟨gb318, 1, none⟩ = some (.slice A0_1 l0_1.length c0_1) := (blk_cell BK318.out 1).trans rfl; have hfz12_0 := blk_frozen BK318.out 0; have hfz12_1 := blk_frozen BK318.out 1) | ((with_reducible refine gate_callee (f := 120) rfl ?_); refine goesL_ (some 7) rfl rfl Try.func120 (by kernel_rfl) rfl #[.agg #[.int .i64 a0_0, .slice A0_1 l0_1.length c0_1], .int .i64 a1] rfl (by (try simp only [List.map_toArray, List.map_cons, List.map_nil]); first | done | rfl | (simp only [List.length_drop, List.length_take]; rfl)) ?_; (with_reducible refine (impl_knows.calls k a0_0 _ _ l0_1 a1 false _ ?side1 ?side2 A3.out).mono ?_); (case side1 => repeat (first | exact (Kd.C_below HR0_1.out HB.out) | (with_reducible refine Kd.C_alloc ?_ _) | (with_reducible refine Kd.C_drewN ?_ _) | (with_reducible refine Kd.C_drew ?_))); (case side2 => exact HC0_1.out); rintro e w13 ⟨rfl, hb⟩; refine ⟨_, rfl, ?_⟩; have n0_ := Aside0.mk (blk_below (g := gb318) (o := .cells #[.int .i64 a0_0, .slice A0_1 l0_1.length c0_1] 27 (0, 0)) (by (with_reducible repeat (first | refine blk_drewN ?_ _ | refine blk_drew ?_ | refine blk_alloc ?_ _)); exact BK318.out) hb); have n1_ := Aside0.mk (below_step (by repeat (first | (with_reducible first | exact HB.out | apply below_alloc | apply pw_below_drewN | apply below_drew1 | refine below_set ?_ GE318.out) | exact HB.out)) hb); clear BK318; clear HB; have BK318 := n0_; have HB := n1_; clear n0_ n1_; (try clear hb); (try clear hb2); (try clear hk); (try clear hi)))
    go_ret
    exact ⟨by first | rfl | (simp [errW_none, errW_some] <;> rfl) | (simp [*, errW_none, errW_some] <;> rfl), by repeat (first | (with_reducible first | exact HB.out | apply below_alloc | apply pw_below_drewN | apply below_drew1 | refine below_set ?_ GE318.out) | exact HB.out)⟩

end Go.Proofs.Ytaepaekagenfnaa.Pr
end

/-! ## Pr97 -/
section
/- The functions that the laws reach, as plain Lean functions, and that the calls come to what these say. By pr.py over the kit's print. -/
namespace Go.Proofs.Ytaepaekagenfnaa.Pr
open Go.RowKit Go.Proofs.YtaepaekagenfnaaW.PrintWords Go.Proofs.YtaepaekagenfnaaW.PrintLast Go.Proofs.YtaepaekagenfnaaW.PrintMore
attribute [local go_sem] max2_int min2_int max_two min_two max_three min_three max_four min_four   -- for this text's walks alone
set_option linter.unusedVariables false
set_option linter.unusedSimpArgs false

/-! ### impl_flatsIn: function 89 -/
def impl_flatsIn_1.f (k : Nat) (a0_0 : Int) (l0_1 : List Int) (s : Int) : Option Bool := (impl_closure.f k a0_0 l0_1 s).bind fun t => some (t == s)
theorem impl_flatsIn_1.mono (a0 : Int) (l0 : List Int) (s : Int) (k : Nat) : LeO (impl_flatsIn_1.f k a0 l0 s) (impl_flatsIn_1.f (k + 1) a0 l0 s) := LeO.bind (impl_closure.mono _ _ _ _) fun _ => LeO.refl _
def impl_flatsIn.f (k : Nat) (a0_0 : Int) (l0_1 : List Int) : Option (List Int) := impl_setsOf.f k a0_0 (fun s => impl_flatsIn_1.f k a0_0 l0_1 s)
theorem impl_flatsIn.mono : ∀ a0 a1 k, LeO (impl_flatsIn.f k a0 a1) (impl_flatsIn.f (k + 1) a0 a1) := fun a0 a1 k => impl_setsOf.mono (fun s => impl_flatsIn_1.mono a0 a1 s k) k a0
set_option maxHeartbeats 8000000 in
set_option maxRecDepth 100000 in
theorem impl_flatsIn_1.calls (k : Nat) (a0_0 : Int) (A0_1 : Option Addr) (c0_1 : Nat) (l0_1 : List Int) (s : Int) (b : Bool) (gb : Nat) (w : World) (hbk : w.heap[gb]? = some (.cells #[.int .i64 a0_0, (.slice A0_1 l0_1.length c0_1)] 27 (0, 0))) (hr0_1 : Kd.C (Kd.int .i64) w A0_1 l0_1.length l0_1) (hc0_1 : l0_1.length ≤ c0_1) (h : impl_flatsIn_1.f k a0_0 l0_1 s = some b) :
    Calls Try.prog 123 #[.int .i64 s, .pointer (some ⟨gb, 0, none⟩)] w fun e w' => e = .returned (.bool b) ∧ Below w.heap.size w w' := by
  have hu27 := Try.underlying27
  have HR := Aside0.mk hr0_1
  have HC := Aside0.mk hc0_1
  have hcz5_0 : w.cell? ⟨gb, 0, none⟩ = some (.int .i64 a0_0) := (blk_cell hbk 0).trans rfl
  have hcz5_1 : w.cell? ⟨gb, 1, none⟩ = some (.slice A0_1 l0_1.length c0_1) := (blk_cell hbk 1).trans rfl
  clear hr0_1 hc0_1 hbk
  unfold impl_flatsIn_1.f at h
  obtain ⟨t, h1, h⟩ := Option.bind_eq_some_iff.mp h
  have A1 := Aside0.mk h1
  clear h1
  obtain rfl := Option.some.inj h
  clear h
  go_enter Try.func123, Try.ntmps123
  go_wp2_with (first | ((with_reducible refine gate_callee (f := 74) rfl ?_); refine goesL_ (some 6) rfl rfl Try.func74 (by kernel_rfl) rfl #[.agg #[.int .i64 a0_0, .slice A0_1 l0_1.length c0_1], .int .i64 s] rfl (by (try simp only [List.map_toArray, List.map_cons, List.map_nil]); first | done | rfl) ?_; (with_reducible refine (impl_closure.calls k a0_0 _ _ l0_1 s t _ HR.out HC.out A1.out).mono ?_); rintro e w6 ⟨rfl, hb⟩; refine ⟨_, rfl, ?_⟩; have HB := Aside0.mk hb; clear hb))
  go_ret
  exact ⟨rfl, HB.out⟩
theorem impl_flatsIn_1.fun1 (k : Nat) (a0_0 : Int) (A0_1 : Option Addr) (c0_1 : Nat) (l0_1 : List Int) (gb : Nat) (w : World) (hbk : w.heap[gb]? = some (.cells #[.int .i64 a0_0, (.slice A0_1 l0_1.length c0_1)] 27 (0, 0))) (hr0_1 : Kd.C (Kd.int .i64) w A0_1 l0_1.length l0_1) (hc0_1 : l0_1.length ≤ c0_1) :
    Hof.Fun1 Try.prog w (.func (.func 123) #[] #[.pointer (some ⟨gb, 0, none⟩)]) (fun s => impl_flatsIn_1.f k a0_0 l0_1 s) :=
  ⟨⟨123, #[.pointer (some ⟨gb, 0, none⟩)], Try.f123, rfl, Try.func123, by kernel_rfl, rfl, fun s b w' hw hg => impl_flatsIn_1.calls k a0_0 A0_1 c0_1 l0_1 s b gb w' (blk_below hbk hw) (Kd.C_below hr0_1 hw) hc0_1 hg⟩⟩
set_option maxHeartbeats 8000000 in
set_option maxRecDepth 100000 in
theorem impl_flatsIn.calls (k : Nat) (a0_0 : Int) (A0_1 : Option Addr) (c0_1 : Nat) (l0_1 : List Int) (r : List Int) (w : World) (hr0_1 : Kd.C (Kd.int .i64) w A0_1 l0_1.length l0_1) (hc0_1 : l0_1.length ≤ c0_1) (h : impl_flatsIn.f k a0_0 l0_1 = some r) :
    Calls Try.prog 89 #[.agg #[.int .i64 a0_0, .slice A0_1 l0_1.length c0_1]] w fun e w' => ∃ v0_ : Value, e = .returned (v0_) ∧ Kd.R (Kd.int .i64) 3 w' w.heap.size (fun _ => True) v0_ r ∧ Below w.heap.size w w' := by
  have hu27 := Try.underlying27
  have HR := Aside0.mk hr0_1
  have HC := Aside0.mk hc0_1
  have HB := Aside0.mk (Below.refl w.heap.size w)
  have A1 := Aside0.mk (show impl_setsOf.f k a0_0 (fun s => impl_flatsIn_1.f k a0_0 l0_1 s) = some r from h)
  clear hr0_1 hc0_1 h
  go_enter Try.func89, Try.ntmps89
  go_wp2_with (first | ((with_reducible refine gate_dst (N := 1) rfl ?_); refine box_event ?hg (N := 1) ?hd (cs := #[.int .i64 a0_0, .slice A0_1 l0_1.length c0_1]) (t := 27) ?hr ?_; (case hd => rfl); (case hg => rfl); (case hr => first | (go_simp; done) | (go_simp; rfl)); intro gb275 hg w4 hbox hb; have n0_ := Aside0.mk (below_step HB.out hb); clear HB; have HB := n0_; have BK275 := Aside0.mk hbox; clear n0_ hb hbox hg; have hcz5_0 : w4.cell? ⟨gb275, 0, none⟩ = some (.int .i64 a0_0) := (blk_cell BK275.out 0).trans rfl; have hcz5_1 : w4.cell? ⟨gb275, 1, none⟩ = some (.slice A0_1 l0_1.length c0_1) := (blk_cell BK275.out 1).trans rfl) | ((with_reducible refine gate_callee (f := 122) rfl ?_); refine goesL_ (some 6) rfl rfl Try.func122 (by kernel_rfl) rfl #[.int .i64 a0_0, .func (.func 123) #[] #[.pointer (some ⟨gb275, 0, none⟩)]] rfl (by (try simp only [List.map_toArray, List.map_cons, List.map_nil]); first | done | rfl) ?_; (with_reducible refine (impl_setsOf.calls k a0_0 _ (fun s => impl_flatsIn_1.f k a0_0 l0_1 s) r _ (impl_flatsIn_1.fun1 k a0_0 A0_1 c0_1 l0_1 gb275 _ BK275.out (Kd.C_below HR.out HB.out) HC.out) A1.out).mono ?_); rintro e w6 ⟨v1, rfl, ho, hb⟩; refine ⟨_, rfl, ?_⟩; have HO := Aside0.mk (Kd.R_lower ho (below_size HB.out)); have n0_ := Aside0.mk (below_step HB.out hb); clear HB; have HB := n0_; clear n0_ hb ho hcz5_0 hcz5_1))
  go_ret
  exact ⟨_, rfl, HO.out, HB.out⟩

end Go.Proofs.Ytaepaekagenfnaa.Pr
end

/-! ## Sets -/
section
/- Sets as numbers below 256; loops that search. No program in it. -/
namespace Go.Proofs.Ytaepaekagenfnaa.Sets
open Go.RowKit Go.Proofs.YtaepaekagenfnaaW.PrintWords Go.Proofs.YtaepaekagenfnaaW.PrintMore

/-- A loop that looks for a place: where there is one it ends with what is sought; else it comes to its end. -/
theorem ev_search {γ : Type} (L : Nat → Int → Option γ) (n : Nat) (p : Nat → Bool) (S : γ → Prop)
    (hyes : ∀ i, i < n → p i = true → ∃ r, S r ∧ Ev (fun k => L k (i : Int)) r)
    (hno : ∀ i, i < n → p i = false → ∀ r, Ev (fun k => L k ((i + 1 : Nat) : Int)) r → Ev (fun k => L k (i : Int)) r) :
    ∀ d i : Nat, i + d = n → ((List.range' i d).any p = true → ∃ r, S r ∧ Ev (fun k => L k (i : Int)) r) ∧ ((List.range' i d).any p = false → ∀ r, Ev (fun k => L k (n : Int)) r → Ev (fun k => L k (i : Int)) r) := by
  intro d
  induction d with
  | zero =>
    intro i hi
    obtain rfl : i = n := by omega
    exact ⟨fun h => by simp at h, fun _ r h => h⟩
  | succ d ih =>
    intro i hi
    obtain ⟨h1, h2⟩ := ih (i + 1) (by omega)
    rw [List.range'_succ, List.any_cons]
    cases hp : p i with
    | true => exact ⟨fun _ => hyes i (by omega) hp, fun h => by simp at h⟩
    | false =>
      refine ⟨fun h => ?_, fun h r hr => hno i (by omega) hp r (h2 (by simpa using h) r hr)⟩
      obtain ⟨r, hr, hE⟩ := h1 (by simpa using h)
      exact ⟨r, hr, hno i (by omega) hp r hE⟩
theorem wraps_i64 (n : Int) (h0 : 0 ≤ n) (h1 : n < 2 ^ 62) : IntKind.i64.wrap n = n := by
  rw [IntKind.wrap_i64]
  omega
theorem and_nat (a b : Nat) (ha : a < 2 ^ 62) (hb : b < 2 ^ 62) : Go.bits .and .i64 (a : Int) (b : Int) = ((a &&& b : Nat) : Int) := (bits_nat .i64 62 (by decide) wraps_i64 a b ha hb).1
theorem or_nat (a b : Nat) (ha : a < 2 ^ 62) (hb : b < 2 ^ 62) : Go.bits .or .i64 (a : Int) (b : Int) = ((a ||| b : Nat) : Int) := (bits_nat .i64 62 (by decide) wraps_i64 a b ha hb).2
/-- The elements of the one that are not in the other. -/
def diff (a b : Nat) : Nat := a ^^^ (a &&& b)
theorem diff_bit (a b i : Nat) : (diff a b).testBit i = (a.testBit i && !b.testBit i) := by
  unfold diff
  rw [Nat.testBit_xor, Nat.testBit_and]
  cases a.testBit i <;> cases b.testBit i <;> rfl
theorem lt_of_bits {a : Nat} (h : ∀ i, 62 ≤ i → a.testBit i = false) : a < 2 ^ 62 := by
  apply Nat.lt_pow_two_of_testBit
  exact h
theorem diff_lt {a b : Nat} {n : Nat} (ha : a < 2 ^ n) : diff a b < 2 ^ n := by
  apply Nat.lt_pow_two_of_testBit
  intro i hi
  rw [diff_bit, Nat.testBit_lt_two_pow (Nat.lt_of_lt_of_le ha (Nat.pow_le_pow_right (by decide) hi))]
  rfl
theorem andNot_nat (a b : Nat) (ha : a < 2 ^ 62) : Go.bits .andNot .i64 (a : Int) (b : Int) = ((diff a b : Nat) : Int) := by
  have h64 : (2 : Nat) ^ 62 ≤ 2 ^ 64 := by decide
  have key : (BitVec.ofNat 64 a &&& ~~~(BitVec.ofNat 64 b)).toNat = diff a b := by
    apply Nat.eq_of_testBit_eq
    intro i
    rw [diff_bit, BitVec.testBit_toNat, BitVec.getLsbD_and, BitVec.getLsbD_not, BitVec.getLsbD_ofNat, BitVec.getLsbD_ofNat]
    by_cases hi : i < 64
    · simp [hi]
    · have : a.testBit i = false := Nat.testBit_lt_two_pow (Nat.lt_of_lt_of_le ha (Nat.pow_le_pow_right (by decide) (by omega)))
      simp [hi, this]
  show IntKind.i64.wrap ((BitVec.ofInt 64 (a : Int) &&& ~~~(BitVec.ofInt 64 (b : Int))).toNat : Int) = _
  have e1 : BitVec.ofInt 64 (a : Int) = BitVec.ofNat 64 a := by simp
  have e2 : BitVec.ofInt 64 (b : Int) = BitVec.ofNat 64 b := by simp
  rw [e1, e2, key]
  have := diff_lt (b := b) ha
  exact wraps_i64 _ (by omega) (by exact_mod_cast this)
theorem shl_nat (e : Nat) (he : e < 62) : shl .i64 1 (e : Int) = ((2 ^ e : Nat) : Int) := by
  unfold shl
  have h1 : min ((e : Int)).toNat IntKind.i64.bits = e := by
    show min e 64 = e
    omega
  rw [h1, Int.one_mul]
  have h2 : (2 : Nat) ^ e < 2 ^ 62 := Nat.pow_lt_pow_right (by decide) he
  rw [wraps_i64 _ (by exact_mod_cast Nat.zero_le _) (by exact_mod_cast h2)]
  push_cast
  rfl
theorem shr_bit (a e : Nat) (he : e < 62) (ha : a < 2 ^ 62) : ((Go.bits .and .i64 (shr .i64 (a : Int) (e : Int)) 1) == 1) = a.testBit e := by
  unfold shr
  have h1 : min ((e : Int)).toNat IntKind.i64.bits = e := by
    show min e 64 = e
    omega
  rw [h1]
  have h2 : ((a : Int) / 2 ^ e) = ((a / 2 ^ e : Nat) : Int) := by push_cast; rfl
  have h3 : a / 2 ^ e < 2 ^ 62 := Nat.lt_of_le_of_lt (Nat.div_le_self _ _) ha
  rw [h2, show (1 : Int) = ((1 : Nat) : Int) from rfl, and_nat _ 1 h3 (by decide), Nat.testBit_eq_decide_div_mod_eq, Nat.and_one_is_mod]
  by_cases h : a / 2 ^ e % 2 = 1
  · simp [h]
  · have h4 : a / 2 ^ e % 2 = 0 := by omega
    simp [h4]
theorem bit_far {a n e : Nat} (ha : a < 2 ^ n) (he : n ≤ e) : a.testBit e = false := Nat.testBit_lt_two_pow (Nat.lt_of_lt_of_le ha (Nat.pow_le_pow_right (by decide) he))
/-- An element is exchanged: as it is computed by the program, and by the reference. -/
theorem swap_eq : ∀ a, a < 256 → ∀ e, e < 8 → ∀ f, f < 8 → a.testBit e = true → a.testBit f = false → diff a (2 ^ e) ||| 2 ^ f = a - 2 ^ e + 2 ^ f := by decide +kernel
theorem bit_le : ∀ a, a < 256 → ∀ e, e < 8 → a.testBit e = true → 2 ^ e ≤ a := by decide +kernel
/-- The elements, in their order. -/
def elems (s : Nat) : List Nat := (List.range' 0 8).filter fun j => s.testBit j
/-- What fails of the exchange of bases. -/
def exch (l : List Nat) (a b e : Nat) : Bool := (List.range' 0 8).any fun f => b.testBit f && !a.testBit f && l.contains (a - 2 ^ e + 2 ^ f)
def fails (l : List Nat) : Bool := l.any fun a => l.any fun b => (List.range' 0 8).any fun e => a.testBit e && !b.testBit e && !exch l a b e
def ints (l : List Nat) : List Int := l.map fun j : Nat => (j : Int)
theorem ints_length (l : List Nat) : (ints l).length = l.length := by simp [ints]
theorem ints_getD (l : List Nat) (i : Nat) : (ints l).getD i 0 = ((l.getD i 0 : Nat) : Int) := by
  by_cases h : i < l.length
  · simp [ints, List.getD, h]
  · simp [ints, List.getD, h]
theorem ints_rd (l : List Nat) (i : Nat) : rd (ints l) (i : Int) = ((l.getD i 0 : Nat) : Int) := by rw [Gen.rd_nat, ints_getD]
theorem ints_contains (l : List Nat) (x : Nat) : (ints l).contains (x : Int) = l.contains x := by
  rw [Bool.eq_iff_iff]
  simp only [ints, List.contains_eq_mem, List.mem_map, decide_eq_true_eq]
  constructor
  · rintro ⟨a, h, e⟩
    obtain rfl : a = x := by omega
    exact h
  · exact fun h => ⟨x, h, rfl⟩
theorem any_index {α : Type} (l : List α) (d : α) (p : α → Bool) : ((List.range' 0 l.length).any fun i => p (l.getD i d)) = l.any p := by
  rw [Bool.eq_iff_iff]
  simp only [List.any_eq_true]
  constructor
  · rintro ⟨i, hi, hp⟩
    have hlt : i < l.length := by have := List.mem_range'_1.1 hi; omega
    refine ⟨l[i], List.getElem_mem hlt, ?_⟩
    simpa [List.getD, hlt] using hp
  · rintro ⟨x, hx, hp⟩
    obtain ⟨i, hi, rfl⟩ := List.getElem_of_mem hx
    exact ⟨i, List.mem_range'_1.2 (by omega), by simpa [List.getD, hi] using hp⟩
theorem any_more (p : Nat → Bool) (m d : Nat) (h : ∀ j, m ≤ j → p j = false) : (List.range' 0 (m + d)).any p = (List.range' 0 m).any p := by
  rw [← List.range'_append_1, List.any_append]
  have : (List.range' (0 + m) d).any p = false := by
    rw [List.any_eq_false]
    intro j hj
    have := List.mem_range'_1.1 hj
    rw [h j (by omega)]
    decide
  rw [this, Bool.or_false]
theorem range8 (m : Nat) (hm : m ≤ 8) (p : Nat → Bool) (h : ∀ j, m ≤ j → p j = false) : (List.range' 0 m).any p = (List.range' 0 8).any p := by
  have := any_more p m (8 - m) h
  rw [show m + (8 - m) = 8 by omega] at this
  exact this.symm
theorem elems_any (s : Nat) (q : Nat → Bool) : (elems s).any q = (List.range' 0 8).any fun j => s.testBit j && q j := by
  unfold elems
  rw [List.any_filter]
theorem elems_lt {s j : Nat} (h : j ∈ elems s) : j < 8 ∧ s.testBit j = true := by
  unfold elems at h
  obtain ⟨h1, h2⟩ := List.mem_filter.1 h
  have := List.mem_range'_1.1 h1
  exact ⟨by omega, h2⟩
theorem elems_length (s : Nat) : (elems s).length ≤ 8 := by
  unfold elems
  exact Nat.le_trans (List.length_filter_le _ _) (by simp)
theorem pow_le_256 {m : Nat} (hm : m ≤ 8) : (2 : Nat) ^ m ≤ 256 := Nat.pow_le_pow_right (n := 2) (by decide) hm
theorem swap_le : ∀ a, a < 256 → ∀ e, e < 8 → ∀ f, f < 8 → a.testBit e = true → a.testBit f = false → a - 2 ^ e + 2 ^ f < 256 := by decide +kernel
theorem getD_mem {α : Type} (l : List α) (d : α) (i : Nat) (h : i < l.length) : l.getD i d ∈ l := by
  have : l.getD i d = l[i] := by simp [List.getD, h]
  rw [this]
  exact List.getElem_mem h
end Go.Proofs.Ytaepaekagenfnaa.Sets
end

/-! ## Mat -/
section
/- When a family of sets is a matroid: the program's answer is the reference's. -/
namespace Go.Proofs.Ytaepaekagenfnaa.Mat
open Go.RowKit Go.Proofs.Ytaepaekagenfnaa.Pr Go.Proofs.Ytaepaekagenfnaa.Sets Go.Proofs.YtaepaekagenfnaaW.PrintWords Go.Proofs.YtaepaekagenfnaaW.PrintLast Go.Proofs.YtaepaekagenfnaaW.PrintMore
set_option linter.unusedVariables false

def isSet (n s : Int) : Bool := decide (0 ≤ n ∧ n ≤ 8 ∧ 0 ≤ s ∧ s < 2 ^ n.toNat)
theorem implIsSet (n s : Int) : impl_IsSet.f n s = some (isSet n s) := by
  unfold impl_IsSet.f impl_isSize.f isSet
  by_cases h0 : n ≥ 0
  · rw [if_pos h0]
    simp only [Option.bind_some]
    by_cases h1 : n ≤ 8
    · rw [if_pos (decide_eq_true h1)]
      obtain ⟨m, rfl⟩ : ∃ m : Nat, n = m := ⟨n.toNat, by omega⟩
      by_cases h2 : s ≥ 0
      · rw [if_pos h2, if_pos h0, shl_nat m (by omega)]
        congr 1
        rw [decide_eq_decide]
        simp only [Int.toNat_natCast]
        push_cast
        omega
      · rw [if_neg h2, decide_eq_false (by omega)]
    · rw [if_neg (by rw [decide_eq_true_eq]; exact h1), decide_eq_false (by omega)]
  · rw [if_neg h0]
    simp only [Option.bind_some]
    rw [if_neg (by decide), decide_eq_false (by omega)]
theorem specIsSet (n s : Int) : spec_IsSet.f n s = some (isSet n s) := by
  unfold spec_IsSet.f spec_l1In.f isSet
  by_cases h0 : n ≥ 0
  · rw [if_pos h0]
    simp only [Option.bind_some]
    by_cases h1 : n ≤ 8
    · rw [if_pos (decide_eq_true h1)]
      obtain ⟨m, rfl⟩ : ∃ m : Nat, n = m := ⟨n.toNat, by omega⟩
      have hu : IntKind.u64.wrap (m : Int) = m := by
        have : m = 0 ∨ m = 1 ∨ m = 2 ∨ m = 3 ∨ m = 4 ∨ m = 5 ∨ m = 6 ∨ m = 7 ∨ m = 8 := by omega
        rcases this with rfl | rfl | rfl | rfl | rfl | rfl | rfl | rfl | rfl <;> decide +kernel
      have hp := pow_le_256 (m := m) (by omega)
      have hp1 : 1 ≤ 2 ^ m := Nat.one_le_two_pow
      rw [hu, if_pos h0, shl_nat m (by omega), Gen.w64 (by omega) (by omega)]
      by_cases h2 : s ≥ 0
      · rw [if_pos h2]
        simp only [Option.bind_some]
        congr 1
        rw [decide_eq_decide]
        simp only [Int.toNat_natCast]
        have : ((2 : Int) ^ m) = ((2 ^ m : Nat) : Int) := by push_cast; rfl
        rw [this]
        omega
      · rw [if_neg h2]
        simp only [Option.bind_some]
        rw [decide_eq_false (by omega)]
    · rw [if_neg (by rw [decide_eq_true_eq]; exact h1), decide_eq_false (by omega)]
  · rw [if_neg h0]
    simp only [Option.bind_some]
    rw [if_neg (by decide), decide_eq_false (by omega)]
def fam (n : Int) (l : List Int) : Bool := ((List.range' 0 l.length).all fun i => isSet n (l.getD i 0) && (decide (i = 0) || decide (l.getD (i - 1) 0 < l.getD i 0))) && decide (0 ≤ n ∧ n ≤ 8)
theorem implFamily (n : Int) (l : List Int) (hn : l.length ≤ 1048576) (k : Nat) (hk : l.length < k) : impl_IsFamily.f k n l = some (fam n l) := by
  unfold impl_IsFamily.f fam
  refine Gen.all_loop (fun k i => impl_IsFamily.l0 k n l l (l.length : Int) i) l.length (fun i => isSet n (l.getD i 0) && (decide (i = 0) || decide (l.getD (i - 1) 0 < l.getD i 0))) 0 (decide (0 ≤ n ∧ n ≤ 8)) (fun k i _ hi => ?_) (fun k _ => ?_) l.length 0 k (by omega) (by omega)
  · simp only [impl_IsFamily.l0]
    rw [if_pos (by omega), if_pos (by omega), if_pos (by omega), implIsSet, Gen.rd_nat]
    simp only [Option.bind_some]
    cases isSet n (l.getD i 0) with
    | false => rfl
    | true =>
      rw [if_pos rfl, Gen.w64s i (by omega)]
      by_cases h0 : i = 0
      · subst h0
        rw [if_neg (by decide), if_pos (by rfl)]
      · rw [if_pos (by omega), Gen.w64 (by omega) (by omega), show (i : Int) - 1 = ((i - 1 : Nat) : Int) by omega, if_pos (by omega), if_pos (by omega), Gen.rd_nat]
        by_cases h1 : l.getD i 0 ≤ l.getD (i - 1) 0
        · rw [if_pos h1, decide_eq_false h0, decide_eq_false (by omega)]
          rfl
        · rw [if_neg h1, decide_eq_false h0, decide_eq_true (by omega)]
          rfl
  · simp only [impl_IsFamily.l0]
    rw [if_neg (by omega)]
    unfold impl_isSize.f
    by_cases h0 : n ≥ 0
    · rw [if_pos h0]
      simp only [Option.bind_some]
      congr 1
      rw [decide_eq_decide]
      omega
    · rw [if_neg h0, decide_eq_false (by omega)]
      rfl
theorem specFamily (n : Int) (l : List Int) (hn : l.length ≤ 1048576) (k : Nat) (hk : l.length < k) : spec_IsFamily.f k n l = some (fam n l) := by
  unfold spec_IsFamily.f fam
  refine Gen.all_loop (fun k i => spec_IsFamily.l0 k n l i) l.length (fun i => isSet n (l.getD i 0) && (decide (i = 0) || decide (l.getD (i - 1) 0 < l.getD i 0))) 0 (decide (0 ≤ n ∧ n ≤ 8)) (fun k i _ hi => ?_) (fun k _ => ?_) l.length 0 k (by omega) (by omega)
  · simp only [spec_IsFamily.l0]
    rw [if_pos (by omega), if_pos (by omega), specIsSet, Gen.rd_nat]
    simp only [Option.bind_some]
    cases isSet n (l.getD i 0) with
    | false => rfl
    | true =>
      rw [if_pos rfl, Gen.w64s i (by omega)]
      by_cases h0 : i = 0
      · subst h0
        rw [if_neg (by decide), if_pos (by rfl)]
      · rw [if_pos (by omega), Gen.w64 (by omega) (by omega), show (i : Int) - 1 = ((i - 1 : Nat) : Int) by omega, if_pos (by omega), if_pos (by omega), Gen.rd_nat]
        by_cases h1 : l.getD (i - 1) 0 ≥ l.getD i 0
        · rw [if_pos h1, decide_eq_false h0, decide_eq_false (by omega)]
          rfl
        · rw [if_neg h1, decide_eq_false h0, decide_eq_true (by omega)]
          rfl
  · simp only [spec_IsFamily.l0]
    rw [if_neg (by omega)]
    unfold spec_l1In.f
    by_cases h0 : n ≥ 0
    · rw [if_pos h0]
      simp only [Option.bind_some]
      congr 1
      rw [decide_eq_decide]
      omega
    · rw [if_neg h0, decide_eq_false (by omega)]
      rfl
/-- A family is a list of numbers. -/
theorem fam_nat {n : Int} {l : List Int} (h : fam n l = true) : ∃ (m : Nat) (lN : List Nat), n = m ∧ m ≤ 8 ∧ l = ints lN ∧ ∀ s ∈ lN, s < 2 ^ m := by
  unfold fam at h
  rw [Bool.and_eq_true, decide_eq_true_eq] at h
  obtain ⟨hl, h0, h8⟩ := h
  have key : ∀ s ∈ l, 0 ≤ s ∧ s < 2 ^ n.toNat := fun s hs => by
    obtain ⟨i, hi, rfl⟩ := List.getElem_of_mem hs
    have := List.all_eq_true.1 hl i (List.mem_range'_1.2 (by omega))
    rw [Bool.and_eq_true] at this
    have h1 := this.1
    unfold isSet at h1
    rw [decide_eq_true_eq] at h1
    have e : l.getD i 0 = l[i] := by simp [List.getD, hi]
    rw [e] at h1
    exact ⟨h1.2.2.1, h1.2.2.2⟩
  refine ⟨n.toNat, l.map Int.toNat, by omega, by omega, ?_, fun s hs => ?_⟩
  · unfold ints
    rw [List.map_map]
    conv => lhs; rw [← List.map_id l]
    refine List.map_congr_left fun s hs => ?_
    have := (key s hs).1
    show s = ((s.toNat : Nat) : Int)
    omega
  · obtain ⟨x, hx, rfl⟩ := List.mem_map.1 hs
    obtain ⟨h1, h2⟩ := key x hx
    have e : ((2 : Int) ^ n.toNat) = ((2 ^ n.toNat : Nat) : Int) := by push_cast; rfl
    rw [e] at h2
    omega
theorem index (l : List Nat) (x : Nat) (hn : l.length ≤ 1048576) : ∀ (d i k : Nat), i + d = l.length → d < k → ∃ r, slices_Index_int_int.l0 k (ints l) (x : Int) ((ints l).length : Int) (i : Int) = some r ∧ decide (r ≥ 0) = (l.drop i).contains x := by
  intro d
  induction d with
  | zero =>
    intro i k hi hk
    obtain ⟨k, rfl⟩ : ∃ m, k = m + 1 := ⟨k - 1, by omega⟩
    refine ⟨-1, ?_, ?_⟩
    · simp only [slices_Index_int_int.l0]
      rw [if_neg (by rw [ints_length]; omega)]
    · rw [List.drop_of_length_le (by omega)]
      rfl
  | succ d ih =>
    intro i k hi hk
    obtain ⟨k, rfl⟩ : ∃ m, k = m + 1 := ⟨k - 1, by omega⟩
    have hlt : i < l.length := by omega
    simp only [slices_Index_int_int.l0]
    rw [if_pos (by rw [ints_length]; omega), if_pos (by omega), if_pos (by rw [ints_length]; omega), ints_rd, Gen.w64s i (by omega)]
    have hd : l.drop i = l.getD i 0 :: l.drop (i + 1) := by
      rw [List.drop_eq_getElem_cons hlt]
      simp [List.getD, hlt]
    rw [hd]
    by_cases h : x = l.getD i 0
    · refine ⟨i, by rw [if_pos (by omega)], ?_⟩
      rw [← h, List.contains_cons, beq_self_eq_true, Bool.true_or, decide_eq_true (by omega)]
    · obtain ⟨r, h1, h2⟩ := ih (i + 1) k (by omega) (by omega)
      refine ⟨r, by rw [if_neg (by omega)]; exact h1, ?_⟩
      rw [h2, List.contains_cons, beq_eq_false_iff_ne.2 h, Bool.false_or]
theorem implHas (l : List Nat) (x : Nat) (hn : l.length ≤ 1048576) (k : Nat) (hk : l.length < k) : impl_HasSet.f k (ints l) (x : Int) = some (l.contains x) := by
  unfold impl_HasSet.f slices_Contains_int_int.f slices_Index_int_int.f
  obtain ⟨r, h1, h2⟩ := index l x hn l.length 0 k (by omega) hk
  rw [show (0 : Int) = ((0 : Nat) : Int) from rfl, h1]
  simp only [Option.bind_some]
  rw [show ((0 : Nat) : Int) = (0 : Int) from rfl, h2, List.drop_zero]
theorem specHas (l : List Nat) (x : Nat) (hn : l.length ≤ 1048576) (k : Nat) (hk : l.length < k) : spec_HasSet.f k (ints l) (x : Int) = some (l.contains x) := by
  unfold spec_HasSet.f
  have key : ∀ (d i k : Nat), i + d = l.length → d < k → spec_HasSet.l0 k (ints l) (x : Int) (i : Int) = some ((l.drop i).contains x) := by
    intro d
    induction d with
    | zero =>
      intro i k hi hk
      obtain ⟨k, rfl⟩ : ∃ m, k = m + 1 := ⟨k - 1, by omega⟩
      simp only [spec_HasSet.l0]
      rw [if_neg (by rw [ints_length]; omega), List.drop_of_length_le (by omega)]
      rfl
    | succ d ih =>
      intro i k hi hk
      obtain ⟨k, rfl⟩ : ∃ m, k = m + 1 := ⟨k - 1, by omega⟩
      have hlt : i < l.length := by omega
      simp only [spec_HasSet.l0]
      rw [if_pos (by rw [ints_length]; omega), if_pos (by omega), ints_rd, Gen.w64s i (by omega)]
      have hd : l.drop i = l.getD i 0 :: l.drop (i + 1) := by
        rw [List.drop_eq_getElem_cons hlt]
        simp [List.getD, hlt]
      rw [hd, List.contains_cons]
      by_cases h : l.getD i 0 = x
      · rw [if_pos (by omega), ← h, beq_self_eq_true, Bool.true_or]
      · rw [if_neg (by omega), ih (i + 1) k (by omega) (by omega), beq_eq_false_iff_ne.2 (Ne.symm h), Bool.false_or]
  have := key l.length 0 k (by omega) hk
  rw [List.drop_zero] at this
  exact this
theorem implElem (s : Nat) (j : Nat) (hs : s < 256) (hj : j < 8) : impl_HasElement.f (s : Int) (j : Int) = some (s.testBit j) := by
  unfold impl_HasElement.f impl_isAny.f
  rw [if_pos (by omega)]
  simp only [Option.bind_some]
  rw [if_pos (decide_eq_true (by omega)), if_pos (by omega), if_pos (by omega), if_pos (by omega), shr_bit s j (by omega) (by omega)]
theorem foldl_elems (s : Nat) : ((List.range' 0 8).foldl (fun (acc : List Int) (j : Nat) => if s.testBit j = true then acc ++ [(j : Int)] else acc) []) = ints (elems s) := by
  rw [Gen.foldl_append (fun j => s.testBit j)]
  rfl
theorem implElements (s : Nat) (hs : s < 256) : Ev (fun k => impl_ElementsOf.f k (s : Int)) (ints (elems s)) := by
  unfold impl_ElementsOf.f
  refine Gen.ev_loop (fun k s3 i => impl_ElementsOf.l0 k (s : Int) s3 i) 8 (fun j s3 => if s.testBit j = true then s3 ++ [(j : Int)] else s3) (fun i s3 => s3.length ≤ i) _ (fun i s3 hi hP => ⟨?_, fun h => Ev.step (fun k => ?_) h⟩) 8 0 [] rfl (by simp) (fun _ => Gen.ev_at 1 (fun k hk => ?_))
  · by_cases hh : s.testBit i = true
    · rw [if_pos hh]; simp; omega
    · rw [if_neg hh]; omega
  · simp only [impl_ElementsOf.l0]
    rw [if_pos (by omega), implElem s i hs hi]
    simp only [Option.bind_some]
    rw [Gen.w64s i (by omega)]
    by_cases hh : s.testBit i = true
    · rw [if_pos hh, if_pos (by omega), if_pos hh]
    · rw [if_neg hh, if_neg hh]
  · obtain ⟨m, rfl⟩ : ∃ m, k = m + 1 := ⟨k - 1, by omega⟩
    simp only [impl_ElementsOf.l0]
    rw [if_neg (by omega), foldl_elems]
end Go.Proofs.Ytaepaekagenfnaa.Mat
end

/-! ## MatB -/
section
/- The exchange of bases is looked for by the program as by the reference: IsMatroid gives one answer. -/
namespace Go.Proofs.Ytaepaekagenfnaa.Mat
open Go.RowKit Go.Proofs.Ytaepaekagenfnaa.Pr Go.Proofs.Ytaepaekagenfnaa.Sets Go.Proofs.YtaepaekagenfnaaW.PrintWords Go.Proofs.YtaepaekagenfnaaW.PrintLast Go.Proofs.YtaepaekagenfnaaW.PrintMore
set_option linter.unusedVariables false

theorem indexFunc (g : Int → Option Bool) (fs : List Nat) (v : Nat → Bool) (hn : fs.length ≤ 1048576) (hg : ∀ f ∈ fs, g (f : Int) = some (v f)) :
    ∀ (d i k : Nat), i + d = fs.length → d < k → ∃ r, slices_IndexFunc_int_int.l0 g k (ints fs) (i : Int) = some r ∧ decide (r ≥ 0) = (fs.drop i).any v := by
  intro d
  induction d with
  | zero =>
    intro i k hi hk
    obtain ⟨k, rfl⟩ : ∃ m, k = m + 1 := ⟨k - 1, by omega⟩
    refine ⟨-1, ?_, ?_⟩
    · simp only [slices_IndexFunc_int_int.l0]
      rw [if_neg (by rw [ints_length]; omega)]
    · rw [List.drop_of_length_le (by omega)]
      rfl
  | succ d ih =>
    intro i k hi hk
    obtain ⟨k, rfl⟩ : ∃ m, k = m + 1 := ⟨k - 1, by omega⟩
    have hlt : i < fs.length := by omega
    simp only [slices_IndexFunc_int_int.l0]
    rw [if_pos (by rw [ints_length]; omega), if_pos (by omega), ints_rd, hg _ (getD_mem fs 0 i hlt), Gen.w64s i (by omega)]
    simp only [Option.bind_some]
    have hd : fs.drop i = fs.getD i 0 :: fs.drop (i + 1) := by
      rw [List.drop_eq_getElem_cons hlt]
      simp [List.getD, hlt]
    rw [hd, List.any_cons]
    cases hv : v (fs.getD i 0) with
    | true => exact ⟨i, by rw [if_pos rfl], by rw [decide_eq_true (by omega), Bool.true_or]⟩
    | false =>
      obtain ⟨r, h1, h2⟩ := ih (i + 1) k (by omega) (by omega)
      exact ⟨r, by rw [if_neg (by decide)]; exact h1, by rw [h2, Bool.false_or]⟩
theorem containsFunc (g : Int → Option Bool) (fs : List Nat) (v : Nat → Bool) (hn : fs.length ≤ 1048576) (hg : ∀ f ∈ fs, g (f : Int) = some (v f)) (k : Nat) (hk : fs.length < k) :
    slices_ContainsFunc_int_int.f k (ints fs) g = some (fs.any v) := by
  unfold slices_ContainsFunc_int_int.f slices_IndexFunc_int_int.f
  obtain ⟨r, h1, h2⟩ := indexFunc g fs v hn hg fs.length 0 k (by omega) hk
  rw [show (0 : Int) = ((0 : Nat) : Int) from rfl, h1]
  simp only [Option.bind_some]
  rw [show ((0 : Nat) : Int) = (0 : Int) from rfl, h2, List.drop_zero]
theorem swapImpl (l : List Nat) (a e f : Nat) (hn : l.length ≤ 1048576) (ha : a < 256) (he : e < 8) (hf : f < 8) (hae : a.testBit e = true) (haf : a.testBit f = false) (k : Nat) (hk : l.length < k) :
    impl_FirstFailure_1.f k (ints l) (a : Int) (e : Int) (f : Int) = some (l.contains (a - 2 ^ e + 2 ^ f)) := by
  unfold impl_FirstFailure_1.f
  have h1 : (2 : Nat) ^ e < 2 ^ 62 := Nat.pow_lt_pow_right (by decide) (by omega)
  have h2 : (2 : Nat) ^ f < 2 ^ 62 := Nat.pow_lt_pow_right (by decide) (by omega)
  have h3 : diff a (2 ^ e) < 2 ^ 8 := diff_lt (n := 8) (by omega)
  rw [if_pos (by omega), if_pos (by omega), shl_nat e (by omega), shl_nat f (by omega), andNot_nat a _ (by omega), or_nat _ _ (by omega) h2, swap_eq a ha e he f hf hae haf]
  exact implHas l _ hn k hk
theorem exch_elems (l : List Nat) (a b e : Nat) : exch l a b e = (elems (diff b a)).any fun f => l.contains (a - 2 ^ e + 2 ^ f) := by
  rw [elems_any]
  unfold exch
  congr 1
  funext f
  rw [diff_bit]
theorem fails_elems (l : List Nat) : fails l = l.any fun a => l.any fun b => (elems (diff a b)).any fun e => !exch l a b e := by
  unfold fails
  congr 1
  funext a
  congr 1
  funext b
  rw [elems_any]
  congr 1
  funext e
  rw [diff_bit]
theorem implFirst (m : Nat) (hm : m ≤ 8) (l : List Nat) (hl : ∀ s ∈ l, s < 2 ^ m) (hn : l.length ≤ 1048576) (hf : fam (m : Int) (ints l) = true) :
    ∃ x y z, Ev (fun k => impl_FirstFailure.f k (m : Int) (ints l)) (x, y, z, fails l) := by
  have h256 := pow_le_256 hm
  have hlt : ∀ i, i < l.length → l.getD i 0 < 256 := fun i hi => Nat.lt_of_lt_of_le (hl _ (getD_mem l 0 i hi)) h256
  have inner : ∀ x y : Nat, x < l.length → y < l.length → ∀ d i : Nat, i + d = (elems (diff (l.getD x 0) (l.getD y 0))).length → _ := fun x y hx hy =>
    ev_search (fun k z => impl_FirstFailure.l2 k (m : Int) (ints l) (x : Int) ((l.getD x 0 : Nat) : Int) (y : Int) ((l.getD y 0 : Nat) : Int) (ints (elems (diff (l.getD x 0) (l.getD y 0)))) z) (elems (diff (l.getD x 0) (l.getD y 0))).length
      (fun z => !exch l (l.getD x 0) (l.getD y 0) ((elems (diff (l.getD x 0) (l.getD y 0))).getD z 0)) (fun r => r.2.2.2 = true)
      (by
        intro z hz hp
        have ha := hlt x hx
        have hb := hlt y hy
        obtain ⟨he, hbit⟩ := elems_lt (getD_mem _ 0 z hz)
        rw [diff_bit, Bool.and_eq_true] at hbit
        have hl8 := elems_length (diff (l.getD x 0) (l.getD y 0))
        have hd : diff (l.getD y 0) (l.getD x 0) < 2 ^ 8 := diff_lt (n := 8) (by omega)
        refine ⟨(((l.getD x 0 : Nat) : Int), ((l.getD y 0 : Nat) : Int), (((elems (diff (l.getD x 0) (l.getD y 0))).getD z 0 : Nat) : Int), true), rfl, ?_⟩
        refine Ev.step (f := fun k => (impl_ElementsOf.f k (Go.bits .andNot .i64 ((l.getD y 0 : Nat) : Int) ((l.getD x 0 : Nat) : Int))).bind fun fs => ((slices_ContainsFunc_int_int.f k fs (fun f => impl_FirstFailure_1.f k (ints l) ((l.getD x 0 : Nat) : Int) (((elems (diff (l.getD x 0) (l.getD y 0))).getD z 0 : Nat) : Int) f)).bind fun t => (if t = true then (impl_FirstFailure.l2 k (m : Int) (ints l) (x : Int) ((l.getD x 0 : Nat) : Int) (y : Int) ((l.getD y 0 : Nat) : Int) (ints (elems (diff (l.getD x 0) (l.getD y 0)))) ((z + 1 : Nat) : Int)) else (some (((l.getD x 0 : Nat) : Int), ((l.getD y 0 : Nat) : Int), (((elems (diff (l.getD x 0) (l.getD y 0))).getD z 0 : Nat) : Int), true))))) (fun k => ?_) ?_
        · simp only [impl_FirstFailure.l2]
          rw [if_pos (by rw [ints_length]; omega), if_pos (by omega), ints_rd, Gen.w64s z (by omega)]
        · rw [andNot_nat _ _ (by omega)]
          refine Ev.bind (implElements _ (by omega)) ?_
          refine Ev.bind (a := exch l (l.getD x 0) (l.getD y 0) ((elems (diff (l.getD x 0) (l.getD y 0))).getD z 0)) (Gen.ev_at (1048577 + 8) (fun k hk => ?_)) ?_
          · rw [exch_elems]
            refine containsFunc _ _ _ (by have := elems_length (diff (l.getD y 0) (l.getD x 0)); omega) (fun f hf => ?_) k (by have := elems_length (diff (l.getD y 0) (l.getD x 0)); omega)
            obtain ⟨hf8, hfb⟩ := elems_lt hf
            rw [diff_bit, Bool.and_eq_true] at hfb
            exact swapImpl l _ _ _ hn ha he hf8 hbit.1 (by simpa using hfb.2) k (by omega)
          · have hp' : exch l (l.getD x 0) (l.getD y 0) ((elems (diff (l.getD x 0) (l.getD y 0))).getD z 0) = false := by simpa using hp
            rw [hp']
            exact Ev.now _)
      (by
        intro z hz hp r hr
        have ha := hlt x hx
        have hb := hlt y hy
        obtain ⟨he, hbit⟩ := elems_lt (getD_mem _ 0 z hz)
        rw [diff_bit, Bool.and_eq_true] at hbit
        have hl8 := elems_length (diff (l.getD x 0) (l.getD y 0))
        have hd : diff (l.getD y 0) (l.getD x 0) < 2 ^ 8 := diff_lt (n := 8) (by omega)
        refine Ev.step (f := fun k => (impl_ElementsOf.f k (Go.bits .andNot .i64 ((l.getD y 0 : Nat) : Int) ((l.getD x 0 : Nat) : Int))).bind fun fs => ((slices_ContainsFunc_int_int.f k fs (fun f => impl_FirstFailure_1.f k (ints l) ((l.getD x 0 : Nat) : Int) (((elems (diff (l.getD x 0) (l.getD y 0))).getD z 0 : Nat) : Int) f)).bind fun t => (if t = true then (impl_FirstFailure.l2 k (m : Int) (ints l) (x : Int) ((l.getD x 0 : Nat) : Int) (y : Int) ((l.getD y 0 : Nat) : Int) (ints (elems (diff (l.getD x 0) (l.getD y 0)))) ((z + 1 : Nat) : Int)) else (some (((l.getD x 0 : Nat) : Int), ((l.getD y 0 : Nat) : Int), (((elems (diff (l.getD x 0) (l.getD y 0))).getD z 0 : Nat) : Int), true))))) (fun k => ?_) ?_
        · simp only [impl_FirstFailure.l2]
          rw [if_pos (by rw [ints_length]; omega), if_pos (by omega), ints_rd, Gen.w64s z (by omega)]
        · rw [andNot_nat _ _ (by omega)]
          refine Ev.bind (implElements _ (by omega)) ?_
          refine Ev.bind (a := exch l (l.getD x 0) (l.getD y 0) ((elems (diff (l.getD x 0) (l.getD y 0))).getD z 0)) (Gen.ev_at (1048577 + 8) (fun k hk => ?_)) ?_
          · rw [exch_elems]
            refine containsFunc _ _ _ (by have := elems_length (diff (l.getD y 0) (l.getD x 0)); omega) (fun f hf => ?_) k (by have := elems_length (diff (l.getD y 0) (l.getD x 0)); omega)
            obtain ⟨hf8, hfb⟩ := elems_lt hf
            rw [diff_bit, Bool.and_eq_true] at hfb
            exact swapImpl l _ _ _ hn ha he hf8 hbit.1 (by simpa using hfb.2) k (by omega)
          · have hp' : exch l (l.getD x 0) (l.getD y 0) ((elems (diff (l.getD x 0) (l.getD y 0))).getD z 0) = true := by simpa using hp
            rw [hp']
            simp only [if_true]
            exact hr)
  have innerAny : ∀ x y : Nat, ((List.range' 0 (elems (diff (l.getD x 0) (l.getD y 0))).length).any fun z => !exch l (l.getD x 0) (l.getD y 0) ((elems (diff (l.getD x 0) (l.getD y 0))).getD z 0)) = (elems (diff (l.getD x 0) (l.getD y 0))).any fun e => !exch l (l.getD x 0) (l.getD y 0) e := fun x y => any_index (elems (diff (l.getD x 0) (l.getD y 0))) 0 (fun e => !exch l (l.getD x 0) (l.getD y 0) e)
  have middle : ∀ x : Nat, x < l.length → ∀ d i : Nat, i + d = l.length → _ := fun x hx =>
    ev_search (fun k y => impl_FirstFailure.l1 k (m : Int) (ints l) (x : Int) ((l.getD x 0 : Nat) : Int) y) l.length
      (fun y => (elems (diff (l.getD x 0) (l.getD y 0))).any fun e => !exch l (l.getD x 0) (l.getD y 0) e) (fun r => r.2.2.2 = true)
      (by
        intro y hy hp
        have ha := hlt x hx
        obtain ⟨h1, _⟩ := inner x y hx hy (elems (diff (l.getD x 0) (l.getD y 0))).length 0 (by omega)
        rw [innerAny] at h1
        obtain ⟨r, hr, hE⟩ := h1 hp
        refine ⟨r, hr, Ev.step (f := fun k => (impl_ElementsOf.f k (Go.bits .andNot .i64 ((l.getD x 0 : Nat) : Int) ((l.getD y 0 : Nat) : Int))).bind fun es => (impl_FirstFailure.l2 k (m : Int) (ints l) (x : Int) ((l.getD x 0 : Nat) : Int) (y : Int) ((l.getD y 0 : Nat) : Int) es 0)) (fun k => ?_) ?_⟩
        · simp only [impl_FirstFailure.l1]
          rw [if_pos (by rw [ints_length]; omega), if_pos (by omega), ints_rd]
        · rw [andNot_nat _ _ (by omega)]
          have hd : diff (l.getD x 0) (l.getD y 0) < 2 ^ 8 := diff_lt (n := 8) (by omega)
          exact Ev.bind (implElements _ (by omega)) hE)
      (by
        intro y hy hp r hr
        have ha := hlt x hx
        obtain ⟨_, h2⟩ := inner x y hx hy (elems (diff (l.getD x 0) (l.getD y 0))).length 0 (by omega)
        rw [innerAny] at h2
        refine Ev.step (f := fun k => (impl_ElementsOf.f k (Go.bits .andNot .i64 ((l.getD x 0 : Nat) : Int) ((l.getD y 0 : Nat) : Int))).bind fun es => (impl_FirstFailure.l2 k (m : Int) (ints l) (x : Int) ((l.getD x 0 : Nat) : Int) (y : Int) ((l.getD y 0 : Nat) : Int) es 0)) (fun k => ?_) ?_
        · simp only [impl_FirstFailure.l1]
          rw [if_pos (by rw [ints_length]; omega), if_pos (by omega), ints_rd]
        · rw [andNot_nat _ _ (by omega)]
          have hd : diff (l.getD x 0) (l.getD y 0) < 2 ^ 8 := diff_lt (n := 8) (by omega)
          refine Ev.bind (implElements _ (by omega)) (h2 hp r (Ev.step (fun k => ?_) hr))
          simp only [impl_FirstFailure.l2]
          rw [if_neg (by rw [ints_length]; omega), Gen.w64s y (by omega)])
  have middleAny : ∀ x : Nat, ((List.range' 0 l.length).any fun y => (elems (diff (l.getD x 0) (l.getD y 0))).any fun e => !exch l (l.getD x 0) (l.getD y 0) e) = l.any fun b => (elems (diff (l.getD x 0) b)).any fun e => !exch l (l.getD x 0) b e := fun x => any_index l 0 (fun b => (elems (diff (l.getD x 0) b)).any fun e => !exch l (l.getD x 0) b e)
  obtain ⟨o1, o2⟩ := ev_search (fun k x => impl_FirstFailure.l0 k (m : Int) (ints l) x) l.length
      (fun x => l.any fun b => (elems (diff (l.getD x 0) b)).any fun e => !exch l (l.getD x 0) b e) (fun r => r.2.2.2 = true)
      (by
        intro x hx hp
        obtain ⟨h1, _⟩ := middle x hx l.length 0 (by omega)
        rw [middleAny] at h1
        obtain ⟨r, hr, hE⟩ := h1 hp
        refine ⟨r, hr, Ev.step (fun k => ?_) hE⟩
        simp only [impl_FirstFailure.l0]
        rw [if_pos (by rw [ints_length]; omega), if_pos (by omega), ints_rd]
        rfl)
      (by
        intro x hx hp r hr
        obtain ⟨_, h2⟩ := middle x hx l.length 0 (by omega)
        rw [middleAny] at h2
        have h3 := h2 hp r (Ev.step (fun k => by
          simp only [impl_FirstFailure.l1]
          rw [if_neg (by rw [ints_length]; omega), Gen.w64s x (by omega)]) hr)
        refine Ev.step (fun k => ?_) h3
        simp only [impl_FirstFailure.l0]
        rw [if_pos (by rw [ints_length]; omega), if_pos (by omega), ints_rd]
        rfl) l.length 0 (by omega)
  have outerAny : ((List.range' 0 l.length).any fun x => l.any fun b => (elems (diff (l.getD x 0) b)).any fun e => !exch l (l.getD x 0) b e) = fails l := by
    rw [fails_elems]
    exact any_index l 0 (fun a => l.any fun b => (elems (diff a b)).any fun e => !exch l a b e)
  rw [outerAny] at o1 o2
  have start : ∀ r, Ev (fun k => impl_FirstFailure.l0 k (m : Int) (ints l) 0) r → Ev (fun k => impl_FirstFailure.f k (m : Int) (ints l)) r := fun r hr => by
    unfold impl_FirstFailure.f
    refine Ev.bind (Gen.ev_at (l.length + 1) (fun k hk => implFamily (m : Int) (ints l) (by rw [ints_length]; exact hn) k (by rw [ints_length]; omega))) ?_
    rw [hf]
    simp only [if_true]
    exact hr
  cases hfl : fails l with
  | true =>
    obtain ⟨⟨x, y, z, b⟩, hb, hE⟩ := o1 hfl
    simp only at hb
    subst hb
    exact ⟨x, y, z, start _ hE⟩
  | false =>
    refine ⟨0, 0, 0, start _ (o2 hfl _ (Gen.ev_at 1 (fun k hk => ?_)))⟩
    obtain ⟨q, rfl⟩ : ∃ q, k = q + 1 := ⟨k - 1, by omega⟩
    simp only [impl_FirstFailure.l0]
    rw [if_neg (by rw [ints_length]; omega)]
end Go.Proofs.Ytaepaekagenfnaa.Mat
end

/-! ## MatC -/
section
/- The reference looks for the exchange of bases: it finds what the program finds; so IsMatroid gives one answer. -/
namespace Go.Proofs.Ytaepaekagenfnaa.Mat
open Go.RowKit Go.Proofs.Ytaepaekagenfnaa.Pr Go.Proofs.Ytaepaekagenfnaa.Sets Go.Proofs.YtaepaekagenfnaaW.PrintWords Go.Proofs.YtaepaekagenfnaaW.PrintLast Go.Proofs.YtaepaekagenfnaaW.PrintMore
set_option linter.unusedVariables false

theorem u64_small (e : Nat) (he : e < 62) : IntKind.u64.wrap (e : Int) = e := by
  unfold IntKind.wrap
  simp only [IntKind.bits, IntKind.signed, Bool.false_and, Bool.false_eq_true, if_false]
  omega
theorem l2Has (s e : Nat) (hs : s < 256) (he : e < 8) : spec_l2Has.f (s : Int) (e : Int) = some (s.testBit e) := by
  unfold spec_l2Has.f
  rw [u64_small e (by omega), if_pos (by omega), shr_bit s e (by omega) (by omega)]
theorem specExchange (m : Nat) (hm : m ≤ 8) (l : List Nat) (hn : l.length ≤ 1048576) (a b e : Nat) (ha : a < 256) (hb : b < 2 ^ m) (he : e < 8) (hae : a.testBit e = true) : Ev (fun k => spec_l4Exchange.f k (m : Int) (ints l) (a : Int) (b : Int) (e : Int)) (exch l a b e) := by
  have h256 := pow_le_256 hm
  unfold spec_l4Exchange.f
  have hle := bit_le a ha e he hae
  have key : ∀ f : Nat, f < m → a.testBit f = false → wrap64 ((wrap64 ((a : Int) - ((2 ^ e : Nat) : Int))) + ((2 ^ f : Nat) : Int)) = ((a - 2 ^ e + 2 ^ f : Nat) : Int) := fun f hf haf => by
    have h1 := swap_le a ha e he f (by omega) hae haf
    have h2 : 2 ^ f ≤ 256 := pow_le_256 (by omega)
    clear hae
    generalize (2 : Nat) ^ e = P at *
    generalize (2 : Nat) ^ f = Q at *
    rw [Gen.w64 (i := (a : Int) - (P : Int)) (by omega) (by omega), Gen.w64 (by omega) (by omega)]
    omega
  obtain ⟨o1, o2⟩ := ev_search (fun k f => spec_l4Exchange.l0 k (a : Int) (b : Int) (e : Int) f (m : Int) (ints l)) m (fun f => b.testBit f && !a.testBit f && l.contains (a - 2 ^ e + 2 ^ f)) (fun r => r = true)
    (by
      intro f hf hp
      rw [Bool.and_eq_true, Bool.and_eq_true] at hp
      obtain ⟨⟨h1, h2⟩, h3⟩ := hp
      have h2' : a.testBit f = false := by simpa using h2
      refine ⟨true, rfl, Gen.ev_at (l.length + 2) (fun k hk => ?_)⟩
      obtain ⟨q, rfl⟩ : ∃ q, k = q + 1 := ⟨k - 1, by omega⟩
      simp only [spec_l4Exchange.l0]
      rw [if_pos (by omega), l2Has b f (by omega) (by omega), h1]
      simp only [Option.bind_some, if_true]
      rw [l2Has a f ha (by omega), h2']
      simp only [Option.bind_some, Bool.false_eq_true, if_false]
      rw [u64_small e (by omega), u64_small f (by omega), if_pos (by omega), if_pos (by omega), shl_nat e (by omega), shl_nat f (by omega), key f hf h2', specHas l _ hn q (by omega), h3]
      rfl)
    (by
      intro f hf hp r hr
      by_cases h1 : b.testBit f = true
      · by_cases h2 : a.testBit f = true
        · refine Ev.step (fun k => ?_) hr
          simp only [spec_l4Exchange.l0]
          rw [if_pos (by omega), l2Has b f (by omega) (by omega), h1]
          simp only [Option.bind_some, if_true]
          rw [l2Has a f ha (by omega), h2]
          simp only [Option.bind_some, if_true]
          rw [Gen.w64s f (by omega)]
        · have h2' : a.testBit f = false := by simpa using h2
          have h3 : l.contains (a - 2 ^ e + 2 ^ f) = false := by
            rw [h1, h2'] at hp
            simpa using hp
          refine Ev.step (f := fun k => (spec_HasSet.f k (ints l) ((a - 2 ^ e + 2 ^ f : Nat) : Int)).bind fun t => (if t = true then (some true) else (spec_l4Exchange.l0 k (a : Int) (b : Int) (e : Int) ((f + 1 : Nat) : Int) (m : Int) (ints l)))) (fun k => ?_) ?_
          · simp only [spec_l4Exchange.l0]
            rw [if_pos (by omega), l2Has b f (by omega) (by omega), h1]
            simp only [Option.bind_some, if_true]
            rw [l2Has a f ha (by omega), h2']
            simp only [Option.bind_some, Bool.false_eq_true, if_false]
            rw [u64_small e (by omega), u64_small f (by omega), if_pos (by omega), if_pos (by omega), shl_nat e (by omega), shl_nat f (by omega), key f hf h2', Gen.w64s f (by omega)]
          · refine Ev.bind (Gen.ev_at (l.length + 1) (fun k hk => specHas l _ hn k (by omega))) ?_
            rw [h3]
            exact hr
      · have h1' : b.testBit f = false := by simpa using h1
        refine Ev.step (fun k => ?_) hr
        simp only [spec_l4Exchange.l0]
        rw [if_pos (by omega), l2Has b f (by omega) (by omega), h1']
        simp only [Option.bind_some, Bool.false_eq_true, if_false]
        rw [Gen.w64s f (by omega)]) m 0 (by omega)
  have e8 : ((List.range' 0 m).any fun f => b.testBit f && !a.testBit f && l.contains (a - 2 ^ e + 2 ^ f)) = exch l a b e := range8 m hm _ (fun j hj => by rw [bit_far hb hj]; rfl)
  rw [e8] at o1 o2
  cases hx : exch l a b e with
  | true =>
    obtain ⟨r, rfl, hE⟩ := o1 hx
    exact hE
  | false =>
    refine o2 hx _ (Gen.ev_at 1 (fun k hk => ?_))
    obtain ⟨q, rfl⟩ : ∃ q, k = q + 1 := ⟨k - 1, by omega⟩
    simp only [spec_l4Exchange.l0]
    rw [if_neg (by omega)]
theorem specFirst (m : Nat) (hm : m ≤ 8) (l : List Nat) (hl : ∀ s ∈ l, s < 2 ^ m) (hn : l.length ≤ 1048576) (hf : fam (m : Int) (ints l) = true) :
    ∃ x y z, Ev (fun k => spec_FirstFailure.f k (m : Int) (ints l)) (x, y, z, fails l) := by
  have h256 := pow_le_256 hm
  have hlt : ∀ i, i < l.length → l.getD i 0 < 256 := fun i hi => Nat.lt_of_lt_of_le (hl _ (getD_mem l 0 i hi)) h256
  have hltm : ∀ i, i < l.length → l.getD i 0 < 2 ^ m := fun i hi => hl _ (getD_mem l 0 i hi)
  have round : ∀ x y z : Nat, x < l.length → y < l.length → z < m → ∀ r, (((l.getD x 0).testBit z && !(l.getD y 0).testBit z && !exch l (l.getD x 0) (l.getD y 0) z) = true → r.2.2.2 = true → r = (((l.getD x 0 : Nat) : Int), ((l.getD y 0 : Nat) : Int), (z : Int), true) → Ev (fun k => spec_FirstFailure.l2 k (x : Int) (y : Int) (z : Int) (m : Int) (ints l)) r) ∧
      (((l.getD x 0).testBit z && !(l.getD y 0).testBit z && !exch l (l.getD x 0) (l.getD y 0) z) = false → Ev (fun k => spec_FirstFailure.l2 k (x : Int) (y : Int) ((z + 1 : Nat) : Int) (m : Int) (ints l)) r → Ev (fun k => spec_FirstFailure.l2 k (x : Int) (y : Int) (z : Int) (m : Int) (ints l)) r) := by
    intro x y z hx hy hz r
    have ha := hlt x hx
    have hb := hlt y hy
    have unf : ∀ k, spec_FirstFailure.l2 (k + 1) (x : Int) (y : Int) (z : Int) (m : Int) (ints l) = (if (l.getD x 0).testBit z = true then (if (l.getD y 0).testBit z = true then spec_FirstFailure.l2 k (x : Int) (y : Int) ((z + 1 : Nat) : Int) (m : Int) (ints l) else ((spec_l4Exchange.f k (m : Int) (ints l) ((l.getD x 0 : Nat) : Int) ((l.getD y 0 : Nat) : Int) (z : Int)).bind fun t => (if t = true then spec_FirstFailure.l2 k (x : Int) (y : Int) ((z + 1 : Nat) : Int) (m : Int) (ints l) else some (((l.getD x 0 : Nat) : Int), ((l.getD y 0 : Nat) : Int), (z : Int), true)))) else spec_FirstFailure.l2 k (x : Int) (y : Int) ((z + 1 : Nat) : Int) (m : Int) (ints l)) := fun k => by
      simp only [spec_FirstFailure.l2]
      rw [if_pos (by omega), if_pos (by omega), if_pos (by rw [ints_length]; omega), if_pos (by omega), if_pos (by rw [ints_length]; omega), ints_rd, ints_rd, l2Has _ z ha (by omega)]
      simp only [Option.bind_some]
      rw [l2Has _ z hb (by omega)]
      simp only [Option.bind_some]
      rw [Gen.w64s z (by omega)]
    cases h1 : (l.getD x 0).testBit z with
    | false =>
      refine ⟨fun h => by simp at h, fun _ hr => Ev.step (fun k => ?_) hr⟩
      rw [unf, h1, if_neg (by decide)]
    | true =>
      cases h2 : (l.getD y 0).testBit z with
      | true =>
        refine ⟨fun h => by simp at h, fun _ hr => Ev.step (fun k => ?_) hr⟩
        rw [unf, h1, h2, if_pos rfl, if_pos rfl]
      | false =>
        have hE := specExchange m hm l hn (l.getD x 0) (l.getD y 0) z ha (hltm y hy) (by omega) h1
        cases h3 : exch l (l.getD x 0) (l.getD y 0) z with
        | true =>
          rw [h3] at hE
          refine ⟨fun h => by simp at h, fun _ hr => Ev.step (fun k => ?_) (Ev.bind hE (f := fun k t => (if t = true then spec_FirstFailure.l2 k (x : Int) (y : Int) ((z + 1 : Nat) : Int) (m : Int) (ints l) else some (((l.getD x 0 : Nat) : Int), ((l.getD y 0 : Nat) : Int), (z : Int), true))) (by simp only [if_true]; exact hr))⟩
          rw [unf, h1, h2, if_pos rfl, if_neg (by decide)]
        | false =>
          rw [h3] at hE
          refine ⟨fun _ _ e => ?_, fun h => by simp at h⟩
          subst e
          refine Ev.step (fun k => ?_) (Ev.bind hE (f := fun k t => (if t = true then spec_FirstFailure.l2 k (x : Int) (y : Int) ((z + 1 : Nat) : Int) (m : Int) (ints l) else some (((l.getD x 0 : Nat) : Int), ((l.getD y 0 : Nat) : Int), (z : Int), true))) (by simp only [Bool.false_eq_true, if_false]; exact Ev.now _))
          rw [unf, h1, h2, if_pos rfl, if_neg (by decide)]
  have inner : ∀ x y : Nat, x < l.length → y < l.length → ∀ d i : Nat, i + d = m → _ := fun x y hx hy =>
    ev_search (fun k z => spec_FirstFailure.l2 k (x : Int) (y : Int) z (m : Int) (ints l)) m
      (fun z => (l.getD x 0).testBit z && !(l.getD y 0).testBit z && !exch l (l.getD x 0) (l.getD y 0) z) (fun r => r.2.2.2 = true)
      (fun z hz hp => ⟨_, rfl, (round x y z hx hy hz (((l.getD x 0 : Nat) : Int), ((l.getD y 0 : Nat) : Int), (z : Int), true)).1 hp rfl rfl⟩)
      (fun z hz hp r hr => (round x y z hx hy hz r).2 hp hr)
  have innerAny : ∀ x y : Nat, x < l.length → ((List.range' 0 m).any fun z => (l.getD x 0).testBit z && !(l.getD y 0).testBit z && !exch l (l.getD x 0) (l.getD y 0) z) = (List.range' 0 8).any fun e => (l.getD x 0).testBit e && !(l.getD y 0).testBit e && !exch l (l.getD x 0) (l.getD y 0) e := fun x y hx => range8 m hm _ (fun j hj => by rw [bit_far (hltm x hx) hj]; rfl)
  have middle : ∀ x : Nat, x < l.length → ∀ d i : Nat, i + d = l.length → _ := fun x hx =>
    ev_search (fun k y => spec_FirstFailure.l1 k (x : Int) y (m : Int) (ints l)) l.length
      (fun y => (List.range' 0 8).any fun e => (l.getD x 0).testBit e && !(l.getD y 0).testBit e && !exch l (l.getD x 0) (l.getD y 0) e) (fun r => r.2.2.2 = true)
      (by
        intro y hy hp
        obtain ⟨h1, _⟩ := inner x y hx hy m 0 (by omega)
        rw [innerAny x y hx] at h1
        obtain ⟨r, hr, hE⟩ := h1 hp
        refine ⟨r, hr, Ev.step (fun k => ?_) hE⟩
        simp only [spec_FirstFailure.l1]
        rw [if_pos (by rw [ints_length]; omega)]
        rfl)
      (by
        intro y hy hp r hr
        obtain ⟨_, h2⟩ := inner x y hx hy m 0 (by omega)
        rw [innerAny x y hx] at h2
        refine Ev.step (fun k => ?_) (h2 hp r (Ev.step (fun k => by
          simp only [spec_FirstFailure.l2]
          rw [if_neg (by omega), Gen.w64s y (by omega)]) hr))
        simp only [spec_FirstFailure.l1]
        rw [if_pos (by rw [ints_length]; omega)]
        rfl)
  have middleAny : ∀ x : Nat, ((List.range' 0 l.length).any fun y => (List.range' 0 8).any fun e => (l.getD x 0).testBit e && !(l.getD y 0).testBit e && !exch l (l.getD x 0) (l.getD y 0) e) = l.any fun b => (List.range' 0 8).any fun e => (l.getD x 0).testBit e && !b.testBit e && !exch l (l.getD x 0) b e := fun x => any_index l 0 (fun b => (List.range' 0 8).any fun e => (l.getD x 0).testBit e && !b.testBit e && !exch l (l.getD x 0) b e)
  obtain ⟨o1, o2⟩ := ev_search (fun k x => spec_FirstFailure.l0 k x (m : Int) (ints l)) l.length
      (fun x => l.any fun b => (List.range' 0 8).any fun e => (l.getD x 0).testBit e && !b.testBit e && !exch l (l.getD x 0) b e) (fun r => r.2.2.2 = true)
      (by
        intro x hx hp
        obtain ⟨h1, _⟩ := middle x hx l.length 0 (by omega)
        rw [middleAny] at h1
        obtain ⟨r, hr, hE⟩ := h1 hp
        refine ⟨r, hr, Ev.step (fun k => ?_) hE⟩
        simp only [spec_FirstFailure.l0]
        rw [if_pos (by rw [ints_length]; omega)]
        rfl)
      (by
        intro x hx hp r hr
        obtain ⟨_, h2⟩ := middle x hx l.length 0 (by omega)
        rw [middleAny] at h2
        refine Ev.step (fun k => ?_) (h2 hp r (Ev.step (fun k => by
          simp only [spec_FirstFailure.l1]
          rw [if_neg (by rw [ints_length]; omega), Gen.w64s x (by omega)]) hr))
        simp only [spec_FirstFailure.l0]
        rw [if_pos (by rw [ints_length]; omega)]
        rfl) l.length 0 (by omega)
  have outerAny : ((List.range' 0 l.length).any fun x => l.any fun b => (List.range' 0 8).any fun e => (l.getD x 0).testBit e && !b.testBit e && !exch l (l.getD x 0) b e) = fails l := by
    unfold fails
    exact any_index l 0 (fun a => l.any fun b => (List.range' 0 8).any fun e => a.testBit e && !b.testBit e && !exch l a b e)
  rw [outerAny] at o1 o2
  have start : ∀ r, Ev (fun k => spec_FirstFailure.l0 k 0 (m : Int) (ints l)) r → Ev (fun k => spec_FirstFailure.f k (m : Int) (ints l)) r := fun r hr => by
    unfold spec_FirstFailure.f
    refine Ev.bind (Gen.ev_at (l.length + 1) (fun k hk => specFamily (m : Int) (ints l) (by rw [ints_length]; exact hn) k (by rw [ints_length]; omega))) ?_
    rw [hf]
    simp only [if_true]
    exact hr
  cases hfl : fails l with
  | true =>
    obtain ⟨⟨x, y, z, b⟩, hb, hE⟩ := o1 hfl
    simp only at hb
    subst hb
    exact ⟨x, y, z, start _ hE⟩
  | false =>
    refine ⟨0, 0, 0, start _ (o2 hfl _ (Gen.ev_at 1 (fun k hk => ?_)))⟩
    obtain ⟨q, rfl⟩ : ∃ q, k = q + 1 := ⟨k - 1, by omega⟩
    simp only [spec_FirstFailure.l0]
    rw [if_neg (by rw [ints_length]; omega)]
/-- Is it a matroid? -/
def isMat (n : Int) (l : List Int) : Bool := fam n l && decide (0 < l.length) && !fails (l.map Int.toNat)
theorem toNat_ints (l : List Nat) : (ints l).map Int.toNat = l := by
  unfold ints
  rw [List.map_map]
  conv => rhs; rw [← List.map_id l]
  exact List.map_congr_left fun x _ => by simp
theorem implMat (n : Int) (l : List Int) (hn : l.length ≤ 1048576) : Ev (fun k => impl_IsMatroid.f k n l) (isMat n l) := by
  unfold impl_IsMatroid.f isMat
  have hF : Ev (fun k => impl_IsFamily.f k n l) (fam n l) := Gen.ev_at (l.length + 1) (fun k hk => implFamily n l hn k (by omega))
  cases hf : fam n l with
  | false =>
    rw [hf] at hF
    refine Ev.bind (a := (0, 0, 0, false)) ?_ (Ev.bind hF (by simp only [Bool.false_eq_true, if_false]; exact Ev.now _))
    unfold impl_FirstFailure.f
    exact Ev.bind hF (by simp only [Bool.false_eq_true, if_false]; exact Ev.now _)
  | true =>
    rw [hf] at hF
    obtain ⟨m, lN, rfl, hm, rfl, hl⟩ := fam_nat hf
    rw [toNat_ints]
    rw [ints_length] at hn
    obtain ⟨x, y, z, hE⟩ := implFirst m hm lN hl hn hf
    refine Ev.bind hE (Ev.bind hF ?_)
    simp only [if_true, ints_length]
    by_cases h0 : 0 < lN.length
    · simp only [if_pos (show (lN.length : Int) > 0 by omega), decide_eq_true h0, Bool.true_and]
      exact Ev.now _
    · simp only [if_neg (show ¬ (lN.length : Int) > 0 by omega), decide_eq_false h0, Bool.true_and, Bool.false_and]
      exact Ev.now _
theorem specMat (n : Int) (l : List Int) (hn : l.length ≤ 1048576) : Ev (fun k => spec_IsMatroid.f k n l) (isMat n l) := by
  unfold spec_IsMatroid.f isMat
  have hF : Ev (fun k => spec_IsFamily.f k n l) (fam n l) := Gen.ev_at (l.length + 1) (fun k hk => specFamily n l hn k (by omega))
  cases hf : fam n l with
  | false =>
    rw [hf] at hF
    refine Ev.bind (a := (0, 0, 0, false)) ?_ (Ev.bind hF (by simp only [Bool.false_eq_true, if_false]; exact Ev.now _))
    unfold spec_FirstFailure.f
    exact Ev.bind hF (by simp only [Bool.false_eq_true, if_false]; exact Ev.now _)
  | true =>
    rw [hf] at hF
    obtain ⟨m, lN, rfl, hm, rfl, hl⟩ := fam_nat hf
    rw [toNat_ints]
    rw [ints_length] at hn
    obtain ⟨x, y, z, hE⟩ := specFirst m hm lN hl hn hf
    refine Ev.bind hE (Ev.bind hF ?_)
    simp only [if_true, ints_length]
    by_cases h0 : 0 < lN.length
    · simp only [if_pos (show (lN.length : Int) > 0 by omega), decide_eq_true h0, Bool.true_and]
      exact Ev.now _
    · simp only [if_neg (show ¬ (lN.length : Int) > 0 by omega), decide_eq_false h0, Bool.true_and, Bool.false_and]
      exact Ev.now _
end Go.Proofs.Ytaepaekagenfnaa.Mat
end

/-! ## Rank -/
section
/- Ranks, closures, flats: what the program and the reference compute of a family of sets. -/
namespace Go.Proofs.Ytaepaekagenfnaa.Rank
open Go.RowKit Go.Proofs.Ytaepaekagenfnaa.Pr Go.Proofs.Ytaepaekagenfnaa.Sets Go.Proofs.Ytaepaekagenfnaa.Mat Go.Proofs.YtaepaekagenfnaaW.PrintWords Go.Proofs.YtaepaekagenfnaaW.PrintLast Go.Proofs.YtaepaekagenfnaaW.PrintMore
set_option linter.unusedVariables false

def cnt (s : Nat) : Nat := (elems s).length
theorem cnt_le (s : Nat) : cnt s ≤ 8 := elems_length s
set_option maxRecDepth 100000 in
theorem implCountB : ∀ s : Nat, s < 256 → impl_CountOf.f (s : Int) = some (cnt s : Int) := by decide +kernel
theorem implCount (s : Nat) (h : s < 256) : impl_CountOf.f (s : Int) = some (cnt s : Int) := implCountB s h
set_option maxRecDepth 100000 in
theorem specCountB : ∀ s : Nat, s < 256 → spec_CountOf.f 10 (s : Int) = some (cnt s : Int) := by decide +kernel
theorem specCount (s : Nat) (h : s < 256) (k : Nat) (hk : 10 ≤ k) : spec_CountOf.f k (s : Int) = some (cnt s : Int) := by
  induction k with
  | zero => omega
  | succ k ih =>
    by_cases e : 10 ≤ k
    · exact spec_CountOf.mono _ _ _ (ih e)
    · obtain rfl : k = 9 := by omega
      exact specCountB s h
theorem specCountE (s : Nat) (h : s < 256) : Ev (fun k => spec_CountOf.f k (s : Int)) (cnt s : Int) := Gen.ev_at 10 (fun k hk => specCount s h k hk)
/-- The rank of a set. -/
def rank (l : List Nat) (s : Nat) : Nat := l.foldl (fun m b => max m (cnt (s &&& b))) 0
theorem foldl_index {σ : Type} (l : List Nat) (f : σ → Nat → σ) (s : σ) : (List.range' 0 l.length).foldl (fun s i => f s (l.getD i 0)) s = l.foldl f s := by
  have e : l = (List.range' 0 l.length).map fun i => l.getD i 0 := by
    rw [← List.range_eq_range', Gen.map_getD']
  conv => rhs; rw [e]
  rw [List.foldl_map]
theorem and_lt {a b n : Nat} (ha : a < 2 ^ n) : a &&& b < 2 ^ n := Nat.lt_of_le_of_lt Nat.and_le_left ha
theorem implRank (m : Nat) (l : List Nat) (s : Nat) (hs : s < 256) (hl : ∀ b ∈ l, b < 256) (hn : l.length ≤ 1048576) : Ev (fun k => impl_rankIn.f k (m : Int) (ints l) (s : Int)) (rank l s : Int) := by
  unfold impl_rankIn.f
  have e : rank l s = (List.range' 0 l.length).foldl (fun o i => max o (cnt (s &&& l.getD i 0))) 0 := (foldl_index l (fun o b => max o (cnt (s &&& b))) 0).symm
  rw [e]
  have key := Gen.ev_loop (fun k (o : Nat) i => impl_rankIn.l0 k (s : Int) (o : Int) (ints l) ((ints l).length : Int) i) l.length (fun i o => max o (cnt (s &&& l.getD i 0))) (fun _ _ => True) (((List.range' 0 l.length).foldl (fun o i => max o (cnt (s &&& l.getD i 0))) 0 : Nat) : Int) (fun i o hi _ => ⟨trivial, fun h => Ev.step (fun k => ?_) h⟩) l.length 0 0 (by omega) trivial (fun _ => Gen.ev_at 1 (fun k hk => ?_))
  · exact key
  · simp only [impl_rankIn.l0]
    have hb := hl _ (getD_mem l 0 i hi)
    rw [if_pos (by rw [ints_length]; omega), if_pos (by omega), if_pos (by rw [ints_length]; omega), ints_rd, and_nat s _ (by omega) (by omega), implCount _ (and_lt (n := 8) hs)]
    simp only [Option.bind_some]
    rw [Gen.w64s i (by omega)]
    congr 1
    unfold mx
    split <;> omega
  · obtain ⟨q, rfl⟩ : ∃ q, k = q + 1 := ⟨k - 1, by omega⟩
    simp only [impl_rankIn.l0]
    rw [if_neg (by rw [ints_length]; omega)]
theorem specRank (m : Nat) (l : List Nat) (s : Nat) (hs : s < 256) (hl : ∀ b ∈ l, b < 256) (hn : l.length ≤ 1048576) : Ev (fun k => spec_l5Rank.f k (m : Int) (ints l) (s : Int)) (rank l s : Int) := by
  unfold spec_l5Rank.f
  have e : rank l s = (List.range' 0 l.length).foldl (fun o i => max o (cnt (s &&& l.getD i 0))) 0 := (foldl_index l (fun o b => max o (cnt (s &&& b))) 0).symm
  rw [e]
  have key := Gen.ev_loop (fun k (o : Nat) i => spec_l5Rank.l0 k (s : Int) (o : Int) i (m : Int) (ints l)) l.length (fun i o => max o (cnt (s &&& l.getD i 0))) (fun _ _ => True) (((List.range' 0 l.length).foldl (fun o i => max o (cnt (s &&& l.getD i 0))) 0 : Nat) : Int) (fun i o hi _ => ⟨trivial, fun h => ?_⟩) l.length 0 0 (by omega) trivial (fun _ => Gen.ev_at 1 (fun k hk => ?_))
  · exact key
  · have hb := hl _ (getD_mem l 0 i hi)
    refine Ev.step (f := fun k => (spec_CountOf.f k (Go.bits .and .i64 (rd (ints l) (i : Int)) (s : Int))).bind fun t278 => ((spec_l1Max.f (o : Int) t278).bind fun t279 => (spec_l5Rank.l0 k (s : Int) t279 (wrap64 ((i : Int) + 1)) (m : Int) (ints l)))) (fun k => ?_) ?_
    · simp only [spec_l5Rank.l0]
      rw [if_pos (by rw [ints_length]; omega), if_pos (by omega)]
    · rw [ints_rd, and_nat _ s (by omega) (by omega), Nat.and_comm, Gen.w64s i (by omega)]
      refine Ev.bind (specCountE _ (and_lt (n := 8) hs)) ?_
      have hx : spec_l1Max.f (o : Int) (cnt (s &&& l.getD i 0) : Int) = some ((max o (cnt (s &&& l.getD i 0)) : Nat) : Int) := by
        unfold spec_l1Max.f
        split <;> · congr 1; omega
      rw [hx]
      exact h
  · obtain ⟨q, rfl⟩ : ∃ q, k = q + 1 := ⟨k - 1, by omega⟩
    simp only [spec_l5Rank.l0]
    rw [if_neg (by rw [ints_length]; omega)]
/-- The closure of a set, begun at a set. -/
def clos (m : Nat) (l : List Nat) (s o : Nat) : Nat := (List.range' 0 m).foldl (fun o e => if rank l (s ||| 2 ^ e) = rank l s then o ||| 2 ^ e else o) o
theorem foldl_or (p : Nat → Bool) (q : List Nat) (o : Nat) (j : Nat) : (q.foldl (fun o e => if p e = true then o ||| 2 ^ e else o) o).testBit j = (o.testBit j || q.any fun e => p e && decide (e = j)) := by
  induction q generalizing o with
  | nil => simp
  | cons a q ih =>
    rw [List.foldl_cons, ih, List.any_cons]
    cases h : p a with
    | false => simp
    | true =>
      simp only [if_true, Nat.testBit_or, Nat.testBit_two_pow, Bool.true_and]
      rw [Bool.or_assoc]
theorem clos_bit (m : Nat) (l : List Nat) (s o j : Nat) : (clos m l s o).testBit j = (o.testBit j || (decide (j < m) && decide (rank l (s ||| 2 ^ j) = rank l s))) := by
  unfold clos
  have := foldl_or (fun e => decide (rank l (s ||| 2 ^ e) = rank l s)) (List.range' 0 m) o j
  simp only [decide_eq_true_eq] at this
  rw [this]
  congr 1
  rw [Bool.eq_iff_iff]
  simp only [List.any_eq_true, List.mem_range'_1, Bool.and_eq_true, decide_eq_true_eq]
  constructor
  · rintro ⟨x, h1, h2, rfl⟩
    exact ⟨by omega, h2⟩
  · rintro ⟨h1, h2⟩
    exact ⟨j, by omega, h2, rfl⟩
theorem or_bit {s j : Nat} (h : s.testBit j = true) : s ||| 2 ^ j = s := by
  apply Nat.eq_of_testBit_eq
  intro i
  rw [Nat.testBit_or, Nat.testBit_two_pow]
  by_cases e : j = i
  · subst e; rw [h]; rfl
  · rw [decide_eq_false e, Bool.or_false]
theorem clos_same (m : Nat) (l : List Nat) (s : Nat) (hs : s < 2 ^ m) : clos m l s s = clos m l s 0 := by
  apply Nat.eq_of_testBit_eq
  intro j
  rw [clos_bit, clos_bit, Nat.zero_testBit, Bool.false_or]
  cases h : s.testBit j with
  | false => rfl
  | true =>
    have hj : j < m := by
      refine Nat.lt_of_not_le fun hle => ?_
      rw [bit_far hs hle] at h
      exact Bool.noConfusion h
    rw [or_bit h, decide_eq_true hj, decide_eq_true rfl]
    rfl
theorem clos_lt (m : Nat) (l : List Nat) (s o : Nat) (ho : o < 2 ^ m) : clos m l s o < 2 ^ m := by
  apply Nat.lt_pow_two_of_testBit
  intro j hj
  rw [clos_bit, bit_far ho hj, decide_eq_false (by omega)]
  rfl
theorem or_lt {a b n : Nat} (ha : a < 2 ^ n) (hb : b < 2 ^ n) : a ||| b < 2 ^ n := Nat.or_lt_two_pow ha hb
theorem pow_lt {e m : Nat} (h : e < m) : 2 ^ e < 2 ^ m := Nat.pow_lt_pow_right (by decide) h
theorem implClos (m : Nat) (hm : m ≤ 8) (l : List Nat) (s : Nat) (hs : s < 2 ^ m) (hl : ∀ b ∈ l, b < 256) (hn : l.length ≤ 1048576) : Ev (fun k => impl_closure.f k (m : Int) (ints l) (s : Int)) (clos m l s 0 : Int) := by
  have h256 := pow_le_256 hm
  unfold impl_closure.f
  refine Ev.bind (implRank m l s (by omega) hl hn) ?_
  refine Gen.ev_loop (fun k (o : Nat) i => impl_closure.l0 k (s : Int) (rank l s : Int) (o : Int) i (m : Int) (ints l)) m (fun e o => if rank l (s ||| 2 ^ e) = rank l s then o ||| 2 ^ e else o) (fun _ o => o < 2 ^ m) (clos m l s 0 : Int) (fun i o hi ho => ⟨?_, fun h => ?_⟩) m 0 0 (by omega) (by exact Nat.pow_pos (by decide)) (fun _ => Gen.ev_at 1 (fun k hk => ?_))
  · show (if _ then _ else _) < _
    split
    · exact or_lt ho (pow_lt hi)
    · exact ho
  · have hp := pow_lt hi
    refine Ev.step (f := fun k => (impl_rankIn.f k (m : Int) (ints l) ((s ||| 2 ^ i : Nat) : Int)).bind fun t => (if t = (rank l s : Int) then (impl_closure.l0 k (s : Int) (rank l s : Int) ((o ||| 2 ^ i : Nat) : Int) ((i + 1 : Nat) : Int) (m : Int) (ints l)) else (impl_closure.l0 k (s : Int) (rank l s : Int) (o : Int) ((i + 1 : Nat) : Int) (m : Int) (ints l)))) (fun k => ?_) ?_
    · simp only [impl_closure.l0]
      rw [if_pos (by omega), if_pos (by omega), shl_nat i (by omega), or_nat s _ (by omega) (by omega), or_nat o _ (by omega) (by omega), Gen.w64s i (by omega)]
    · refine Ev.bind (implRank m l _ (by have := or_lt hs hp; omega) hl hn) ?_
      by_cases e : rank l (s ||| 2 ^ i) = rank l s
      · rw [if_pos e] at h
        simp only [e, if_true]
        exact h
      · rw [if_neg e] at h
        simp only [if_neg (show ¬ ((rank l (s ||| 2 ^ i) : Nat) : Int) = (rank l s : Int) by omega)]
        exact h
  · obtain ⟨q, rfl⟩ : ∃ q, k = q + 1 := ⟨k - 1, by omega⟩
    simp only [impl_closure.l0]
    rw [if_neg (by omega)]
    rfl
theorem u64_nat (m : Nat) (h : m < 2 ^ 62) : IntKind.u64.wrap (m : Int) = m := by
  rw [IntKind.wrap_u64]
  omega
theorem specClos (m : Nat) (hm : m ≤ 8) (l : List Nat) (s : Nat) (hs : s < 2 ^ m) (hl : ∀ b ∈ l, b < 256) (hn : l.length ≤ 1048576) : Ev (fun k => spec_l5Closure.f k (m : Int) (ints l) (s : Int)) (clos m l s 0 : Int) := by
  have h256 := pow_le_256 hm
  rw [← clos_same m l s hs]
  unfold spec_l5Closure.f
  refine Ev.bind (specRank m l s (by omega) hl hn) ?_
  refine Gen.ev_loop (fun k (o : Nat) i => spec_l5Closure.l0 k (s : Int) (o : Int) (rank l s : Int) i (m : Int) (ints l)) m (fun e o => if rank l (s ||| 2 ^ e) = rank l s then o ||| 2 ^ e else o) (fun _ o => o < 2 ^ m) (clos m l s s : Int) (fun i o hi ho => ⟨?_, fun h => ?_⟩) m 0 s (by omega) hs (fun _ => Gen.ev_at 1 (fun k hk => ?_))
  · show (if _ then _ else _) < _
    split
    · exact or_lt ho (pow_lt hi)
    · exact ho
  · have hp := pow_lt hi
    refine Ev.step (f := fun k => (spec_l5Rank.f k (m : Int) (ints l) ((s ||| 2 ^ i : Nat) : Int)).bind fun t => (if t = (rank l s : Int) then (spec_l5Closure.l0 k (s : Int) ((o ||| 2 ^ i : Nat) : Int) (rank l s : Int) ((i + 1 : Nat) : Int) (m : Int) (ints l)) else (spec_l5Closure.l0 k (s : Int) (o : Int) (rank l s : Int) ((i + 1 : Nat) : Int) (m : Int) (ints l)))) (fun k => ?_) ?_
    · simp only [spec_l5Closure.l0]
      rw [u64_nat i (by omega), if_pos (by omega), if_pos (by omega), shl_nat i (by omega), or_nat s _ (by omega) (by omega), or_nat o _ (by omega) (by omega), Gen.w64s i (by omega)]
    · refine Ev.bind (specRank m l _ (by have := or_lt hs hp; omega) hl hn) ?_
      by_cases e : rank l (s ||| 2 ^ i) = rank l s
      · rw [if_pos e] at h
        simp only [e, if_true]
        exact h
      · rw [if_neg e] at h
        simp only [if_neg (show ¬ ((rank l (s ||| 2 ^ i) : Nat) : Int) = (rank l s : Int) by omega)]
        exact h
  · obtain ⟨q, rfl⟩ : ∃ q, k = q + 1 := ⟨k - 1, by omega⟩
    simp only [spec_l5Closure.l0]
    rw [if_neg (by omega)]
    rfl
end Go.Proofs.Ytaepaekagenfnaa.Rank
end

/-! ## Flat -/
section
/- Flats, and the searches for a number in a list: the program and the reference. -/
namespace Go.Proofs.Ytaepaekagenfnaa.Flat
open Go.RowKit Go.Proofs.Ytaepaekagenfnaa.Pr Go.Proofs.Ytaepaekagenfnaa.Sets Go.Proofs.Ytaepaekagenfnaa.Mat Go.Proofs.Ytaepaekagenfnaa.Rank Go.Proofs.YtaepaekagenfnaaW.PrintWords Go.Proofs.YtaepaekagenfnaaW.PrintLast Go.Proofs.YtaepaekagenfnaaW.PrintMore
set_option linter.unusedVariables false

theorem any_search {γ : Type} (l : List Int) (x : Int) (L : Nat → Int → Option γ) (yes no : γ) (hn : l.length ≤ 1048576)
    (hstep : ∀ k i, i < l.length → L (k + 1) (i : Int) = if l.getD i 0 = x then some yes else L k ((i + 1 : Nat) : Int))
    (hend : ∀ k, L (k + 1) (l.length : Int) = some no) : Ev (fun k => L k 0) (if l.contains x = true then yes else no) := by
  have key : ∀ d i : Nat, i + d = l.length → Ev (fun k => L k (i : Int)) (if (l.drop i).contains x = true then yes else no) := by
    intro d
    induction d with
    | zero =>
      intro i hi
      obtain rfl : i = l.length := by omega
      rw [List.drop_length]
      refine Gen.ev_at 1 (fun k hk => ?_)
      obtain ⟨q, rfl⟩ : ∃ q, k = q + 1 := ⟨k - 1, by omega⟩
      rw [hend]
      rfl
    | succ d ih =>
      intro i hi
      have hlt : i < l.length := by omega
      have hd : l.drop i = l.getD i 0 :: l.drop (i + 1) := by
        rw [List.drop_eq_getElem_cons hlt]
        simp [List.getD, hlt]
      rw [hd, List.contains_cons]
      by_cases e : l.getD i 0 = x
      · refine Gen.ev_at 1 (fun k hk => ?_)
        obtain ⟨q, rfl⟩ : ∃ q, k = q + 1 := ⟨k - 1, by omega⟩
        rw [hstep q i hlt, if_pos e, e]
        simp
      · have e' : (x == l.getD i 0) = false := by
          rw [beq_eq_false_iff_ne]
          exact fun h => e h.symm
        rw [e', Bool.false_or]
        exact Ev.step (fun k => by rw [hstep k i hlt, if_neg e]) (ih (i + 1) (by omega))
  have := key l.length 0 (by omega)
  rw [List.drop_zero] at this
  exact this
theorem specHasI (l : List Int) (x : Int) (hn : l.length ≤ 1048576) : Ev (fun k => spec_HasSet.f k l x) (l.contains x) := by
  unfold spec_HasSet.f
  have := any_search l x (fun k i => spec_HasSet.l0 k l x i) true false hn (fun k i hi => by
    simp only [spec_HasSet.l0]
    rw [if_pos (by omega), if_pos (by omega), Gen.rd_nat, Gen.w64s i (by omega)]) (fun k => by
    simp only [spec_HasSet.l0]
    rw [if_neg (by omega)])
  cases h : l.contains x <;> rw [h] at this <;> exact this
theorem implHasI (l : List Int) (x : Int) (hn : l.length ≤ 1048576) : Ev (fun k => impl_HasSet.f k l x) (l.contains x) := by
  unfold impl_HasSet.f slices_Contains_int_int.f slices_Index_int_int.f
  have key : ∀ d i : Nat, i + d = l.length → ∃ r, Ev (fun k => slices_Index_int_int.l0 k l x (l.length : Int) (i : Int)) r ∧ decide (r ≥ 0) = (l.drop i).contains x := by
    intro d
    induction d with
    | zero =>
      intro i hi
      obtain rfl : i = l.length := by omega
      refine ⟨-1, Gen.ev_at 1 (fun k hk => ?_), by rw [List.drop_length]; rfl⟩
      obtain ⟨q, rfl⟩ : ∃ q, k = q + 1 := ⟨k - 1, by omega⟩
      simp only [slices_Index_int_int.l0]
      rw [if_neg (by omega)]
    | succ d ih =>
      intro i hi
      have hlt : i < l.length := by omega
      have hd : l.drop i = l.getD i 0 :: l.drop (i + 1) := by
        rw [List.drop_eq_getElem_cons hlt]
        simp [List.getD, hlt]
      rw [hd, List.contains_cons]
      by_cases e : x = l.getD i 0
      · refine ⟨(i : Int), Gen.ev_at 1 (fun k hk => ?_), ?_⟩
        · obtain ⟨q, rfl⟩ : ∃ q, k = q + 1 := ⟨k - 1, by omega⟩
          simp only [slices_Index_int_int.l0]
          rw [if_pos (by omega), if_pos (by omega), if_pos (by omega), Gen.rd_nat, if_pos e]
        · rw [beq_iff_eq.2 e, Bool.true_or, decide_eq_true (by omega)]
      · obtain ⟨r, h1, h2⟩ := ih (i + 1) (by omega)
        refine ⟨r, Ev.step (fun k => ?_) h1, ?_⟩
        · simp only [slices_Index_int_int.l0]
          rw [if_pos (by omega), if_pos (by omega), if_pos (by omega), Gen.rd_nat, if_neg e, Gen.w64s i (by omega)]
        · rw [h2, beq_eq_false_iff_ne.2 e, Bool.false_or]
  obtain ⟨r, h1, h2⟩ := key l.length 0 (by omega)
  rw [List.drop_zero] at h2
  refine Ev.bind (a := decide (r ≥ 0)) (Ev.bind h1 (Ev.now _)) ?_
  rw [h2]
  exact Ev.now _
/-- What a matroid is made of. -/
theorem mat_nat {n : Int} {l : List Int} (h : isMat n l = true) : ∃ (m : Nat) (lN : List Nat), n = m ∧ m ≤ 8 ∧ l = ints lN ∧ (∀ s ∈ lN, s < 2 ^ m) ∧ 0 < lN.length ∧ fails lN = false := by
  unfold isMat at h
  rw [Bool.and_eq_true, Bool.and_eq_true, decide_eq_true_eq] at h
  obtain ⟨⟨h1, h2⟩, h3⟩ := h
  obtain ⟨m, lN, rfl, hm, rfl, hl⟩ := fam_nat h1
  rw [toNat_ints] at h3
  rw [ints_length] at h2
  exact ⟨m, lN, rfl, hm, rfl, hl, h2, by simpa using h3⟩
theorem isSet_nat {m : Nat} {s : Int} (h : isSet (m : Int) s = true) : ∃ x : Nat, s = x ∧ x < 2 ^ m := by
  unfold isSet at h
  rw [decide_eq_true_eq] at h
  obtain ⟨_, _, h1, h2⟩ := h
  rw [Int.toNat_natCast] at h2
  refine ⟨s.toNat, by omega, ?_⟩
  have : ((s.toNat : Nat) : Int) < ((2 ^ m : Nat) : Int) := by push_cast; omega
  exact_mod_cast this
theorem isSet_of {m : Nat} {x : Nat} (hm : m ≤ 8) (h : x < 2 ^ m) : isSet (m : Int) (x : Int) = true := by
  unfold isSet
  rw [decide_eq_true_eq, Int.toNat_natCast]
  refine ⟨by omega, by omega, by omega, ?_⟩
  exact_mod_cast h
/-- The flats, in their order. -/
def flats (m : Nat) (l : List Nat) : List Nat := (List.range' 0 (2 ^ m)).filter fun s => decide (clos m l s 0 = s)
theorem flats_length (m : Nat) (hm : m ≤ 8) (l : List Nat) : (flats m l).length ≤ 256 := by
  refine Nat.le_trans (List.length_filter_le _ _) ?_
  rw [List.length_range']
  exact pow_le_256 hm
theorem flats_lt {m : Nat} {l : List Nat} {s : Nat} (h : s ∈ flats m l) : s < 2 ^ m ∧ clos m l s 0 = s := by
  unfold flats at h
  obtain ⟨h1, h2⟩ := List.mem_filter.1 h
  have := List.mem_range'_1.1 h1
  exact ⟨by omega, by simpa using h2⟩
theorem flats_contains {m : Nat} (l : List Nat) {s : Nat} (h : s < 2 ^ m) : (flats m l).contains s = decide (clos m l s 0 = s) := by
  rw [Bool.eq_iff_iff]
  simp only [List.contains_eq_mem, decide_eq_true_eq]
  unfold flats
  rw [List.mem_filter]
  constructor
  · exact fun h => by simpa using h.2
  · exact fun h1 => ⟨List.mem_range'_1.2 (by omega), by simpa using h1⟩
theorem full_impl (m : Nat) (hm : m ≤ 8) : impl_FullSet.f (m : Int) = some ((2 ^ m - 1 : Nat) : Int) := by
  have : ∀ m : Nat, m < 9 → impl_FullSet.f (m : Int) = some ((2 ^ m - 1 : Nat) : Int) := by decide +kernel
  exact this m (by omega)
theorem full_spec (m : Nat) (hm : m ≤ 8) : spec_FullSet.f (m : Int) = some ((2 ^ m - 1 : Nat) : Int) := by
  have : ∀ m : Nat, m < 9 → spec_FullSet.f (m : Int) = some ((2 ^ m - 1 : Nat) : Int) := by decide +kernel
  exact this m (by omega)
theorem foldl_filter (p : Nat → Bool) (q : List Nat) : (q.foldl (fun (s : List Int) j => if p j = true then s ++ [(j : Int)] else s) []) = ints (q.filter p) := by
  rw [Gen.foldl_append, List.nil_append]
  rfl
/-- A loop over all sets of a size that keeps some. -/
theorem keep_loop (L : Nat → List Int → Int → Option (List Int)) (n : Nat) (p : Nat → Bool)
    (hround : ∀ i s, i < n → s.length ≤ i → ∀ r, Ev (fun k => L k (if p i = true then s ++ [(i : Int)] else s) ((i + 1 : Nat) : Int)) r → Ev (fun k => L k s (i : Int)) r)
    (hend : ∀ k s, L (k + 1) s (n : Int) = some s) : Ev (fun k => L k [] 0) (ints ((List.range' 0 n).filter p)) := by
  rw [← foldl_filter]
  refine Gen.ev_loop L n (fun i s => if p i = true then s ++ [(i : Int)] else s) (fun i s => s.length ≤ i) _ (fun i s hi hP => ⟨?_, hround i s hi hP _⟩) n 0 [] (by omega) (by simp) (fun _ => Gen.ev_at 1 (fun k hk => ?_))
  · show (if _ then _ else _ : List Int).length ≤ _
    split
    · simp; omega
    · omega
  · obtain ⟨q, rfl⟩ : ∃ q, k = q + 1 := ⟨k - 1, by omega⟩
    exact hend _ _
theorem specFlatsN (m : Nat) (hm : m ≤ 8) (l : List Nat) (hl : ∀ b ∈ l, b < 256) (hn : l.length ≤ 1048576) : Ev (fun k => spec_l7Flats.f k (m : Int) (ints l)) (ints (flats m l)) := by
  have h256 := pow_le_256 hm
  have hpos : 0 < 2 ^ m := Nat.pow_pos (by decide)
  unfold spec_l7Flats.f flats
  refine keep_loop (fun k s i => spec_l7Flats.l0 k s i (m : Int) (ints l)) (2 ^ m) (fun s => decide (clos m l s 0 = s)) (fun i s hi hs r h => ?_) (fun k s => ?_)
  · refine Ev.step (f := fun k => (spec_l5Closure.f k (m : Int) (ints l) (i : Int)).bind fun t => (if t = (i : Int) then (spec_l7Flats.l0 k (s ++ [(i : Int)]) ((i + 1 : Nat) : Int) (m : Int) (ints l)) else (spec_l7Flats.l0 k s ((i + 1 : Nat) : Int) (m : Int) (ints l)))) (fun k => ?_) ?_
    · simp only [spec_l7Flats.l0]
      rw [full_spec m hm]
      simp only [Option.bind_some]
      rw [if_pos (by omega), if_pos (by omega), Gen.w64s i (by omega)]
    · refine Ev.bind (specClos m hm l i hi hl hn) ?_
      by_cases e : clos m l i 0 = i
      · rw [decide_eq_true e] at h
        rw [e]
        simp only [if_true] at h ⊢
        exact h
      · rw [decide_eq_false e] at h
        simp only [if_neg (show ¬ ((clos m l i 0 : Nat) : Int) = (i : Int) by omega)]
        simpa using h
  · simp only [spec_l7Flats.l0]
    rw [full_spec m hm]
    simp only [Option.bind_some]
    rw [if_neg (by omega)]
theorem implSetsOf (m : Nat) (hm : m ≤ 8) (g : Nat → Int → Option Bool) (p : Nat → Bool) (hg : ∀ s : Nat, s < 2 ^ m → Ev (fun k => g k (s : Int)) (p s)) (hmono : ∀ k s, LeO (g k s) (g (k + 1) s)) : Ev (fun k => impl_setsOf.f k (m : Int) (g k)) (ints ((List.range' 0 (2 ^ m)).filter p)) := by
  have h256 := pow_le_256 hm
  have hpos : 0 < 2 ^ m := Nat.pow_pos (by decide)
  -- one number of rounds for all sets
  have hup : ∀ s : Int, ∀ a d r, g a s = some r → g (a + d) s = some r := by
    intro s a d r h
    induction d with
    | zero => exact h
    | succ d ih => exact hmono _ _ _ ih
  have all : ∀ n : Nat, n ≤ 2 ^ m → ∃ K, ∀ k, K ≤ k → ∀ s : Nat, s < n → g k (s : Int) = some (p s) := by
    intro n
    induction n with
    | zero => exact fun _ => ⟨0, fun k _ s hs => by omega⟩
    | succ n ih =>
      intro hn
      obtain ⟨K, hK⟩ := ih (by omega)
      obtain ⟨K', hK'⟩ := hg n (by omega)
      refine ⟨max K K', fun k hk s hs => ?_⟩
      by_cases e : s = n
      · subst e
        exact hK' k (by omega)
      · exact hK k (by omega) s (by omega)
  obtain ⟨K, hK⟩ := all (2 ^ m) (Nat.le_refl _)
  have fixed : ∀ k0, K ≤ k0 → Ev (fun k => impl_setsOf.l0 (g k0) k (m : Int) [] 0) (ints ((List.range' 0 (2 ^ m)).filter p)) := fun k0 hk0 => by
    refine keep_loop (fun k s i => impl_setsOf.l0 (g k0) k (m : Int) s i) (2 ^ m) p (fun i s hi hs r h => Ev.step (fun k => ?_) h) (fun k s => ?_)
    · simp only [impl_setsOf.l0]
      rw [full_impl m hm]
      simp only [Option.bind_some]
      rw [if_pos (by omega), hK k0 hk0 i hi]
      simp only [Option.bind_some]
      rw [Gen.w64s i (by omega)]
      cases p i with
      | false => rfl
      | true => rw [if_pos rfl, if_pos (by omega), if_pos rfl]
    · simp only [impl_setsOf.l0]
      rw [full_impl m hm]
      simp only [Option.bind_some]
      rw [if_neg (by omega)]
  have count : ∀ k0, K ≤ k0 → ∀ (d i : Nat) (s : List Int) (k : Nat), i + d = 2 ^ m → d < k → s.length ≤ i → impl_setsOf.l0 (g k0) k (m : Int) s (i : Int) = impl_setsOf.l0 (g K) k (m : Int) s (i : Int) ∧ ∀ e, impl_setsOf.l0 (g k0) (k + e) (m : Int) s (i : Int) = impl_setsOf.l0 (g k0) k (m : Int) s (i : Int) := by
    intro k0 hk0 d
    induction d with
    | zero =>
      intro i s k hi hk hs
      obtain rfl : i = 2 ^ m := by omega
      obtain ⟨k, rfl⟩ : ∃ q, k = q + 1 := ⟨k - 1, by omega⟩
      refine ⟨?_, fun e => ?_⟩
      · simp only [impl_setsOf.l0]
        rw [full_impl m hm]
        simp only [Option.bind_some]
        rw [if_neg (by omega), if_neg (by omega)]
      · rw [show k + 1 + e = (k + e) + 1 by omega]
        simp only [impl_setsOf.l0]
        rw [full_impl m hm]
        simp only [Option.bind_some]
        rw [if_neg (by omega), if_neg (by omega)]
    | succ d ih =>
      intro i s k hi hk hs
      obtain ⟨k, rfl⟩ : ∃ q, k = q + 1 := ⟨k - 1, by omega⟩
      obtain ⟨a1, a2⟩ := ih (i + 1) (s ++ [(i : Int)]) k (by omega) (by omega) (by simp; omega)
      obtain ⟨b1, b2⟩ := ih (i + 1) s k (by omega) (by omega) (by omega)
      refine ⟨?_, fun e => ?_⟩
      · simp only [impl_setsOf.l0]
        rw [full_impl m hm]
        simp only [Option.bind_some]
        simp only [if_pos (show (i : Int) ≤ ((2 ^ m - 1 : Nat) : Int) by omega), if_pos (show s.length < 17592186044416 by omega), hK k0 hk0 i (by omega), hK K (Nat.le_refl _) i (by omega), Gen.w64s i (by omega), Option.bind_some, a1, b1]
      · rw [show k + 1 + e = (k + e) + 1 by omega]
        simp only [impl_setsOf.l0]
        rw [full_impl m hm]
        simp only [Option.bind_some]
        simp only [if_pos (show (i : Int) ≤ ((2 ^ m - 1 : Nat) : Int) by omega), if_pos (show s.length < 17592186044416 by omega), hK k0 hk0 i (by omega), Gen.w64s i (by omega), Option.bind_some, a2, b2]
  obtain ⟨K2, hK2⟩ := fixed K (Nat.le_refl _)
  refine ⟨max (max K K2) (2 ^ m + 1), fun k hk => ?_⟩
  show impl_setsOf.l0 (g k) k (m : Int) [] ((0 : Nat) : Int) = _
  rw [(count k (by omega) (2 ^ m) 0 [] k (by omega) (by omega) (by simp)).1]
  exact hK2 k (by omega)
theorem implFlatsN (m : Nat) (hm : m ≤ 8) (l : List Nat) (hl : ∀ b ∈ l, b < 256) (hn : l.length ≤ 1048576) : Ev (fun k => impl_flatsIn.f k (m : Int) (ints l)) (ints (flats m l)) := by
  unfold impl_flatsIn.f flats
  refine implSetsOf m hm (fun k s => impl_flatsIn_1.f k (m : Int) (ints l) s) (fun s => decide (clos m l s 0 = s)) (fun s hs => ?_) (fun k s => impl_flatsIn_1.mono _ _ _ k)
  unfold impl_flatsIn_1.f
  refine Ev.bind (implClos m hm l s hs hl hn) ?_
  have : (((clos m l s 0 : Nat) : Int) == (s : Int)) = decide (clos m l s 0 = s) := by
    rw [Bool.eq_iff_iff]
    simp
    omega
  rw [this]
  exact Ev.now _
/-- Is it a flat? -/
def isFlat (n : Int) (l : List Int) (s : Int) : Bool := isMat n l && isSet n s && decide (clos n.toNat (l.map Int.toNat) s.toNat 0 = s.toNat)
theorem implFlat (n : Int) (l : List Int) (s : Int) (hn : l.length ≤ 1048576) : Ev (fun k => impl_isFlat.f k n l s) (isFlat n l s) := by
  unfold impl_isFlat.f impl_knows.f isFlat
  cases h : isMat n l with
  | false =>
    have hM := implMat n l hn
    rw [h] at hM
    refine Ev.bind (a := false) (Ev.bind hM (by simp only [Bool.false_eq_true, if_false]; exact Ev.now _)) ?_
    simp only [Bool.false_eq_true, if_false, Bool.false_and]
    exact Ev.now _
  | true =>
    have hM := implMat n l hn
    rw [h] at hM
    cases h2 : isSet n s with
    | false =>
      refine Ev.bind (a := false) (Ev.bind hM (by simp only [if_true, implIsSet, h2]; exact Ev.now _)) ?_
      simp only [Bool.false_eq_true, if_false, Bool.false_and, Bool.and_false]
      exact Ev.now _
    | true =>
      refine Ev.bind (a := true) (Ev.bind hM (by simp only [if_true, implIsSet, h2]; exact Ev.now _)) ?_
      obtain ⟨m, lN, rfl, hm, rfl, hl, _, _⟩ := mat_nat h
      obtain ⟨x, rfl, hx⟩ := isSet_nat h2
      have h256 := pow_le_256 hm
      rw [ints_length] at hn
      simp only [if_true, Bool.true_and, toNat_ints, Int.toNat_natCast]
      refine Ev.bind (implClos m hm lN x hx (fun b hb => by have := hl b hb; omega) hn) ?_
      have : (((clos m lN x 0 : Nat) : Int) == (x : Int)) = decide (clos m lN x 0 = x) := by
        rw [Bool.eq_iff_iff]
        simp
        omega
      rw [this]
      exact Ev.now _
theorem specFlats (n : Int) (l : List Int) (hn : l.length ≤ 1048576) : Ev (fun k => spec_Flats.f k n l) (if isMat n l = true then ints (flats n.toNat (l.map Int.toNat)) else []) := by
  unfold spec_Flats.f
  refine Ev.bind (specMat n l hn) ?_
  cases h : isMat n l with
  | false =>
    simp only [Bool.false_eq_true, if_false]
    exact Ev.now _
  | true =>
    obtain ⟨m, lN, rfl, hm, rfl, hl, _, _⟩ := mat_nat h
    have h256 := pow_le_256 hm
    rw [ints_length] at hn
    simp only [if_true, toNat_ints, Int.toNat_natCast]
    exact Ev.bind (specFlatsN m hm lN (fun b hb => by have := hl b hb; omega) hn) (Ev.now _)
theorem flat_contains (n : Int) (l : List Int) (s : Int) : (if isMat n l = true then ints (flats n.toNat (l.map Int.toNat)) else []).contains s = isFlat n l s := by
  unfold isFlat
  cases h : isMat n l with
  | false => simp
  | true =>
    obtain ⟨m, lN, rfl, hm, rfl, hl, _, _⟩ := mat_nat h
    simp only [if_true, toNat_ints, Int.toNat_natCast, Bool.true_and]
    cases h2 : isSet (m : Int) s with
    | true =>
      obtain ⟨x, rfl, hx⟩ := isSet_nat h2
      rw [ints_contains, flats_contains lN hx]
      simp
    | false =>
      rw [Bool.false_and, ← Bool.not_eq_true]
      intro hc
      simp only [ints, List.contains_eq_mem, List.mem_map, decide_eq_true_eq] at hc
      obtain ⟨a, ha, rfl⟩ := hc
      rw [isSet_of hm (flats_lt ha).1] at h2
      exact Bool.noConfusion h2
theorem flatsI_length (n : Int) (l : List Int) : (if isMat n l = true then ints (flats n.toNat (l.map Int.toNat)) else []).length ≤ 256 := by
  cases h : isMat n l with
  | false => simp
  | true =>
    obtain ⟨m, lN, rfl, hm, rfl, hl, _, _⟩ := mat_nat h
    simp only [if_true, toNat_ints, Int.toNat_natCast, ints_length]
    exact flats_length m hm lN
theorem specTwo (n : Int) (l : List Int) (s t : Int) (hn : l.length ≤ 1048576) : Ev (fun k => spec_l25Two.f k n l s t) (isFlat n l s && isFlat n l t) := by
  unfold spec_l25Two.f
  have hle := flatsI_length n l
  refine Ev.bind (specFlats n l hn) (Ev.bind (specHasI _ s (by omega)) ?_)
  rw [flat_contains]
  cases h : isFlat n l s with
  | false =>
    simp only [Bool.false_eq_true, if_false, Bool.false_and]
    exact Ev.now _
  | true =>
    simp only [if_true, Bool.true_and]
    refine Ev.bind (specHasI _ t (by omega)) ?_
    rw [flat_contains]
    exact Ev.now _
end Go.Proofs.Ytaepaekagenfnaa.Flat
end

/-! ## Act -/
section
/- Circuits of a base and an element, activities: the program and the reference. -/
namespace Go.Proofs.Ytaepaekagenfnaa.Act
open Go.RowKit Go.Proofs.Ytaepaekagenfnaa.Pr Go.Proofs.Ytaepaekagenfnaa.Sets Go.Proofs.Ytaepaekagenfnaa.Mat Go.Proofs.Ytaepaekagenfnaa.Rank Go.Proofs.Ytaepaekagenfnaa.Flat Go.Proofs.YtaepaekagenfnaaW.PrintWords Go.Proofs.YtaepaekagenfnaaW.PrintLast Go.Proofs.YtaepaekagenfnaaW.PrintMore
set_option linter.unusedVariables false

/-- A loop over a list, by place. -/
theorem list_loop {σ γ : Type} (L : Nat → σ → Int → Option γ) (q : List Nat) (f : σ → Nat → σ) (P : Nat → σ → Prop) (r : γ) (s : σ)
    (hround : ∀ i s, i < q.length → P i s → P (i + 1) (f s (q.getD i 0)) ∧ (Ev (fun k => L k (f s (q.getD i 0)) ((i + 1 : Nat) : Int)) r → Ev (fun k => L k s (i : Int)) r))
    (hs : P 0 s) (hend : P q.length (q.foldl f s) → Ev (fun k => L k (q.foldl f s) (q.length : Int)) r) : Ev (fun k => L k s 0) r := by
  have := Gen.ev_loop L q.length (fun i s => f s (q.getD i 0)) P r (fun i s hi hp => hround i s hi hp) q.length 0 s (by omega) hs
  rw [foldl_index q f s] at this
  exact this hend
theorem elems_getD {s i : Nat} (h : i < (elems s).length) : (elems s).getD i 0 < 8 ∧ s.testBit ((elems s).getD i 0) = true := elems_lt (getD_mem _ 0 i h)
/-- The circuit of a base and an element. -/
def circ (l : List Nat) (b e : Nat) : Nat := (elems b).foldl (fun c f => if l.contains (b - 2 ^ f + 2 ^ e) = true then c ||| 2 ^ f else c) (2 ^ e)
theorem implCirc (n : Int) (l : List Nat) (b e : Nat) (hb : b < 256) (he : e < 8) (hbe : b.testBit e = false) (hn : l.length ≤ 1048576) : Ev (fun k => impl_circuit.f k n (ints l) (b : Int) (e : Int)) (circ l b e : Int) ∧ circ l b e < 256 ∧ (circ l b e).testBit e = true := by
  have hp : 2 ^ e < 2 ^ 8 := pow_lt he
  have hinv : circ l b e < 256 ∧ (circ l b e).testBit e = true := by
    unfold circ
    have : ∀ (q : List Nat) (c : Nat), (∀ f ∈ q, f < 8) → c < 2 ^ 8 → c.testBit e = true → (q.foldl (fun c f => if l.contains (b - 2 ^ f + 2 ^ e) = true then c ||| 2 ^ f else c) c) < 2 ^ 8 ∧ (q.foldl (fun c f => if l.contains (b - 2 ^ f + 2 ^ e) = true then c ||| 2 ^ f else c) c).testBit e = true := by
      intro q
      induction q with
      | nil => exact fun c _ h1 h2 => ⟨h1, h2⟩
      | cons a q ih =>
        intro c hq h1 h2
        rw [List.foldl_cons]
        have ha := hq a (by simp)
        refine ih _ (fun f hf => hq f (by simp [hf])) ?_ ?_
        · split
          · exact or_lt h1 (pow_lt ha)
          · exact h1
        · split
          · rw [Nat.testBit_or, h2]; rfl
          · exact h2
    exact this (elems b) (2 ^ e) (fun f hf => (elems_lt hf).1) hp (by rw [Nat.testBit_two_pow]; simp)
  refine ⟨?_, hinv⟩
  unfold impl_circuit.f
  simp only [if_pos (show (0 : Int) ≤ (e : Int) by omega)]
  refine Ev.bind (implElements b hb) ?_
  rw [shl_nat e (by omega)]
  refine list_loop (fun k (c : Nat) i => impl_circuit.l0 k (b : Int) (e : Int) (c : Int) (ints (elems b)) ((ints (elems b)).length : Int) i n (ints l)) (elems b) (fun c f => if l.contains (b - 2 ^ f + 2 ^ e) = true then c ||| 2 ^ f else c) (fun _ c => c < 256) (circ l b e : Int) (2 ^ e) (fun i c hi hc => ?_) hp (fun _ => Gen.ev_at 1 (fun k hk => ?_))
  · obtain ⟨h8, hbit⟩ := elems_getD hi
    have hrd := ints_rd (elems b) i
    generalize hf : (elems b).getD i 0 = f at *
    have hpf : 2 ^ f < 2 ^ 8 := pow_lt h8
    refine ⟨?_, fun h => ?_⟩
    · show (if _ then _ else _) < _
      split
      · exact or_lt (n := 8) hc hpf
      · exact hc
    · refine Ev.step (f := fun k => (impl_HasSet.f k (ints l) ((b - 2 ^ f + 2 ^ e : Nat) : Int)).bind fun t => (if t = true then (impl_circuit.l0 k (b : Int) (e : Int) ((c ||| 2 ^ f : Nat) : Int) (ints (elems b)) ((ints (elems b)).length : Int) ((i + 1 : Nat) : Int) n (ints l)) else (impl_circuit.l0 k (b : Int) (e : Int) (c : Int) (ints (elems b)) ((ints (elems b)).length : Int) ((i + 1 : Nat) : Int) n (ints l)))) (fun k => ?_) ?_
      · simp only [impl_circuit.l0]
        rw [if_pos (by rw [ints_length]; omega), if_pos (by omega), if_pos (by rw [ints_length]; omega), hrd, if_pos (by omega), if_pos (by omega), shl_nat f (by omega), shl_nat e (by omega), andNot_nat b _ (by omega), or_nat _ _ (by have := diff_lt (b := 2 ^ f) (n := 8) hb; omega) (by omega), swap_eq b hb f h8 e he hbit hbe, or_nat c _ (by omega) (by omega), Gen.w64s i (by have := elems_length b; omega)]
      · refine Ev.bind (Gen.ev_at (l.length + 1) (fun k hk => implHas l _ hn k (by omega))) ?_
        by_cases hx : l.contains (b - 2 ^ f + 2 ^ e) = true
        · rw [if_pos hx] at h
          simp only [hx, if_true]
          exact h
        · rw [if_neg hx] at h
          simp only [if_neg hx]
          exact h
  · obtain ⟨q, rfl⟩ : ∃ q, k = q + 1 := ⟨k - 1, by omega⟩
    simp only [impl_circuit.l0]
    rw [if_neg (by rw [ints_length]; omega)]
    rfl
theorem foldl_cond {σ : Type} (p : Nat → Bool) (f : σ → Nat → σ) (q : List Nat) (s : σ) : (q.filter p).foldl f s = q.foldl (fun s j => if p j = true then f s j else s) s := by
  rw [List.foldl_filter]
theorem foldl_congr {σ : Type} (f g : σ → Nat → σ) (q : List Nat) (s : σ) (h : ∀ e ∈ q, ∀ s, f s e = g s e) : q.foldl f s = q.foldl g s := by
  induction q generalizing s with
  | nil => rfl
  | cons a q ih =>
    rw [List.foldl_cons, List.foldl_cons, h a (by simp)]
    exact ih _ fun e he => h e (by simp [he])
theorem add_or : ∀ c, c < 256 → ∀ f, f < 8 → c.testBit f = false → c + 2 ^ f = c ||| 2 ^ f := by decide +kernel
theorem specCirc (m : Nat) (hm : m ≤ 8) (l : List Nat) (b e : Nat) (hb : b < 2 ^ m) (he : e < m) (hbe : b.testBit e = false) (hn : l.length ≤ 1048576) (hM : isMat (m : Int) (ints l) = true) (hmem : l.contains b = true) : Ev (fun k => spec_CircuitOf.f k (m : Int) (ints l) (b : Int) (e : Int)) (circ l b e : Int) := by
  have h256 := pow_le_256 hm
  have hp : 2 ^ e < 2 ^ 8 := pow_lt (by omega)
  have hMe := specMat (m : Int) (ints l) (by rw [ints_length]; exact hn)
  rw [hM] at hMe
  unfold spec_CircuitOf.f
  refine Ev.bind hMe ?_
  simp only [if_true]
  refine Ev.bind (specHasI (ints l) (b : Int) (by rw [ints_length]; exact hn)) ?_
  rw [ints_contains, hmem]
  have hin : spec_l1In.f (e : Int) 0 (wrap64 ((m : Int) - 1)) = some true := by
    unfold spec_l1In.f
    rw [Gen.w64 (by omega) (by omega), if_pos (by omega), decide_eq_true (by omega)]
  simp only [if_true, hin, Option.bind_some, l2Has b e (by omega) (by omega), hbe]
  refine Ev.step (f := fun k => spec_CircuitOf.l0 k (b : Int) (e : Int) ((2 ^ e : Nat) : Int) 0 (m : Int) (ints l)) (fun k => ?_) ?_ |> fun h => h
  · simp only [spec_CircuitOf.j0]
    rw [if_neg (by decide), u64_nat e (by omega), if_pos (by omega), shl_nat e (by omega)]
  · have efold : circ l b e = (List.range' 0 m).foldl (fun c f => if b.testBit f = true then (if l.contains (b - 2 ^ f + 2 ^ e) = true then c ||| 2 ^ f else c) else c) (2 ^ e) := by
      unfold circ elems
      rw [foldl_cond, show (8 : Nat) = m + (8 - m) by omega, Gen.foldl_more _ m (8 - m) _ (fun j hj s => by rw [bit_far hb hj]; simp)]
    refine Gen.ev_loop (fun k (c : Nat) i => spec_CircuitOf.l0 k (b : Int) (e : Int) (c : Int) i (m : Int) (ints l)) m (fun f c => if b.testBit f = true then (if l.contains (b - 2 ^ f + 2 ^ e) = true then c ||| 2 ^ f else c) else c) (fun i c => c < 256 ∧ ∀ j, i ≤ j → j ≠ e → c.testBit j = false) (circ l b e : Int) (fun f c hf hc => ⟨?_, fun h => ?_⟩) m 0 (2 ^ e) (by omega) ⟨hp, fun j _ hj => by rw [Nat.testBit_two_pow]; exact decide_eq_false (fun h => hj h.symm)⟩ (fun _ => Gen.ev_at 1 (fun k hk => ?_))
    · have hpf : 2 ^ f < 2 ^ 8 := pow_lt (by omega)
      have hstay : c < 256 ∧ ∀ j, f + 1 ≤ j → j ≠ e → c.testBit j = false := ⟨hc.1, fun j hj => hc.2 j (by omega)⟩
      split
      · split
        · refine ⟨or_lt (n := 8) hc.1 hpf, fun j hj hje => ?_⟩
          rw [Nat.testBit_or, hc.2 j (by omega) hje, Nat.testBit_two_pow, decide_eq_false (by omega)]
          rfl
        · exact hstay
      · exact hstay
    · have hpf : 2 ^ f < 2 ^ 8 := pow_lt (by omega)
      cases hbf : b.testBit f with
      | false =>
        rw [hbf] at h
        simp only [Bool.false_eq_true, if_false] at h
        refine Ev.step (fun k => ?_) h
        simp only [spec_CircuitOf.l0]
        rw [if_pos (by omega), l2Has b f (by omega) (by omega), hbf, Gen.w64s f (by omega)]
        rfl
      | true =>
        rw [hbf] at h
        simp only [if_true] at h
        have hfe : f ≠ e := fun h => by rw [h, hbe] at hbf; exact Bool.noConfusion hbf
        have hle := bit_le b (by omega) f (by omega) hbf
        have hw : wrap64 ((wrap64 ((b : Int) - ((2 ^ f : Nat) : Int))) + ((2 ^ e : Nat) : Int)) = ((b - 2 ^ f + 2 ^ e : Nat) : Int) := by
          clear hbf h
          generalize (2 : Nat) ^ f = P at *
          generalize (2 : Nat) ^ e = Q at *
          rw [Gen.w64 (i := (b : Int) - (P : Int)) (by omega) (by omega), Gen.w64 (by omega) (by omega)]
          omega
        have hadd : wrap64 ((c : Int) + ((2 ^ f : Nat) : Int)) = ((c ||| 2 ^ f : Nat) : Int) := by
          rw [← add_or c hc.1 f (by omega) (hc.2 f (by omega) hfe)]
          have hc1 := hc.1
          generalize (2 : Nat) ^ f = P at hpf ⊢
          rw [Gen.w64 (by omega) (by omega)]
          omega
        refine Ev.step (f := fun k => (spec_HasSet.f k (ints l) ((b - 2 ^ f + 2 ^ e : Nat) : Int)).bind fun t => (if t = true then (spec_CircuitOf.l0 k (b : Int) (e : Int) ((c ||| 2 ^ f : Nat) : Int) ((f + 1 : Nat) : Int) (m : Int) (ints l)) else (spec_CircuitOf.l0 k (b : Int) (e : Int) (c : Int) ((f + 1 : Nat) : Int) (m : Int) (ints l)))) (fun k => ?_) ?_
        · simp only [spec_CircuitOf.l0]
          rw [if_pos (by omega), l2Has b f (by omega) (by omega), hbf]
          simp only [Option.bind_some, if_true]
          rw [u64_nat f (by omega), u64_nat e (by omega), if_pos (by omega), if_pos (by omega), shl_nat f (by omega), shl_nat e (by omega), hw, hadd, Gen.w64s f (by omega)]
        · refine Ev.bind (Gen.ev_at (l.length + 1) (fun k hk => specHas l _ hn k (by omega))) ?_
          by_cases hx : l.contains (b - 2 ^ f + 2 ^ e) = true
          · rw [if_pos hx] at h
            simp only [hx, if_true]
            exact h
          · rw [if_neg hx] at h
            simp only [if_neg hx]
            exact h
    · obtain ⟨q, rfl⟩ : ∃ q, k = q + 1 := ⟨k - 1, by omega⟩
      simp only [spec_CircuitOf.l0]
      rw [if_neg (by omega), efold]
/-- Where no circuit is asked for. -/
theorem specCircNone (n : Int) (l : List Int) (a e : Int) (hn : l.length ≤ 1048576) (h : (isMat n l && l.contains a) = false) : Ev (fun k => spec_CircuitOf.f k n l a e) 0 := by
  have hend : ∀ n l, Ev (fun k => spec_CircuitOf.j0 k a e true n l) 0 := fun n l => Gen.ev_at 1 (fun k hk => by
    obtain ⟨q, rfl⟩ : ∃ q, k = q + 1 := ⟨k - 1, by omega⟩
    simp only [spec_CircuitOf.j0]
    rw [if_pos trivial])
  unfold spec_CircuitOf.f
  refine Ev.bind (specMat n l hn) ?_
  cases hM : isMat n l with
  | false => simp only [Bool.false_eq_true, if_false]; exact hend _ _
  | true =>
    rw [hM, Bool.true_and] at h
    simp only [if_true]
    refine Ev.bind (specHasI l a hn) ?_
    rw [h]
    simp only [Bool.false_eq_true, if_false]
    exact hend _ _
theorem specCircIn (m : Nat) (hm : m ≤ 8) (l : List Nat) (b e : Nat) (hb : b < 2 ^ m) (he : e < m) (hbe : b.testBit e = true) (hn : l.length ≤ 1048576) (hM : isMat (m : Int) (ints l) = true) (hmem : l.contains b = true) : Ev (fun k => spec_CircuitOf.f k (m : Int) (ints l) (b : Int) (e : Int)) 0 := by
  have h256 := pow_le_256 hm
  have hMe := specMat (m : Int) (ints l) (by rw [ints_length]; exact hn)
  rw [hM] at hMe
  unfold spec_CircuitOf.f
  refine Ev.bind hMe ?_
  simp only [if_true]
  refine Ev.bind (specHasI (ints l) (b : Int) (by rw [ints_length]; exact hn)) ?_
  rw [ints_contains, hmem]
  have hin : spec_l1In.f (e : Int) 0 (wrap64 ((m : Int) - 1)) = some true := by
    unfold spec_l1In.f
    rw [Gen.w64 (by omega) (by omega), if_pos (by omega), decide_eq_true (by omega)]
  simp only [if_true, hin, Option.bind_some, l2Has b e (by omega) (by omega), hbe]
  exact Gen.ev_at 1 (fun k hk => by
    obtain ⟨q, rfl⟩ : ∃ q, k = q + 1 := ⟨k - 1, by omega⟩
    simp only [spec_CircuitOf.j0]
    rw [if_pos trivial])
def least (c : Nat) : Nat := (elems c).headD 0
theorem specLeast : ∀ c : Nat, c < 256 → c ≠ 0 → spec_l24Least.f (c : Int) = some ((2 ^ least c : Nat) : Int) := by decide +kernel
theorem elems_pos : ∀ c : Nat, c < 256 → c ≠ 0 → 0 < (elems c).length := by decide +kernel
theorem implLeast (c : Nat) (h : c < 256) (h0 : c ≠ 0) : Ev (fun k => impl_leastElement.f k (c : Int)) (least c : Int) := by
  unfold impl_leastElement.f
  refine Ev.bind (implElements c h) ?_
  have := elems_pos c h h0
  simp only [if_pos (show (0 : Int) < ((ints (elems c)).length : Int) by rw [ints_length]; omega)]
  have e : rd (ints (elems c)) 0 = ((least c : Nat) : Int) := by
    have := ints_rd (elems c) 0
    rw [show ((0 : Nat) : Int) = (0 : Int) from rfl] at this
    rw [this]
    unfold least
    cases elems c <;> rfl
  rw [e]
  exact Ev.now _
/-- The elements that are externally active. -/
def actv (m : Nat) (l : List Nat) (b : Nat) : Nat := (List.range' 0 m).foldl (fun o e => if b.testBit e = true then o else if least (circ l b e) = e then o ||| 2 ^ e else o) 0
def actvI (n : Int) (l : List Int) (a : Int) : Int := if (isMat n l && l.contains a) = true then (actv n.toNat (l.map Int.toNat) a.toNat : Int) else 0
theorem base_nat {n : Int} {l : List Int} {a : Int} (h : (isMat n l && l.contains a) = true) : ∃ (m : Nat) (lN : List Nat) (b : Nat), n = m ∧ m ≤ 8 ∧ l = ints lN ∧ (∀ s ∈ lN, s < 2 ^ m) ∧ a = b ∧ b < 2 ^ m ∧ lN.contains b = true := by
  rw [Bool.and_eq_true] at h
  obtain ⟨h1, h2⟩ := h
  obtain ⟨m, lN, rfl, hm, rfl, hl, _, _⟩ := mat_nat h1
  have h3 := h2
  simp only [ints, List.contains_eq_mem, List.mem_map, decide_eq_true_eq] at h3
  obtain ⟨b, hb, rfl⟩ := h3
  exact ⟨m, lN, b, rfl, hm, rfl, hl, rfl, hl b hb, by simpa using hb⟩
theorem specActv (n : Int) (l : List Int) (a : Int) (hn : l.length ≤ 1048576) : Ev (fun k => spec_ExternalActivity.f k n l a) (actvI n l a) := by
  unfold spec_ExternalActivity.f
  cases h : (isMat n l && l.contains a) with
  | false =>
    unfold actvI
    rw [h]
    simp only [Bool.false_eq_true, if_false]
    have hend : ∀ x5 x6, Ev (fun k => spec_ExternalActivity.j1 k a x5 x6 false n l) x5 := fun x5 x6 => Gen.ev_at 1 (fun k hk => by
      obtain ⟨q, rfl⟩ : ∃ q, k = q + 1 := ⟨k - 1, by omega⟩
      simp only [spec_ExternalActivity.j1]
      rw [if_neg (by decide)])
    by_cases hin : 0 ≤ n ∧ n ≤ 8
    · have hIn : spec_l1In.f n 0 8 = some true := by
        unfold spec_l1In.f
        rw [if_pos (by omega), decide_eq_true (by omega)]
      have loop : ∀ d : Nat, ∀ x6 : Int, 0 ≤ x6 → x6 + d = n → Ev (fun k => spec_ExternalActivity.l0 k a 0 x6 n l) 0 := by
        intro d
        induction d with
        | zero =>
          intro x6 h0 h1
          refine Ev.step (fun k => ?_) (hend 0 x6)
          simp only [spec_ExternalActivity.l0]
          rw [if_neg (by omega)]
        | succ d ih =>
          intro x6 h0 h1
          refine Ev.step (f := fun k => spec_ExternalActivity.j1 k a 0 x6 true n l) (fun k => ?_) ?_
          · simp only [spec_ExternalActivity.l0]
            rw [if_pos (by omega), hIn]
            rfl
          · refine Ev.step (f := fun k => (spec_CircuitOf.f k n l a x6).bind fun t139 => (if t139 = 0 then (spec_ExternalActivity.l0 k a 0 (wrap64 (x6 + 1)) n l) else ((spec_l24Least.f t139).bind fun t140 => (if 0 ≤ (IntKind.u64.wrap (x6)) then (if t140 = (shl .i64 1 (IntKind.u64.wrap (x6))) then (spec_ExternalActivity.l0 k a (Go.bits .or .i64 0 (shl .i64 1 (IntKind.u64.wrap (x6)))) (wrap64 (x6 + 1)) n l) else (spec_ExternalActivity.l0 k a 0 (wrap64 (x6 + 1)) n l)) else (none))))) (fun k => ?_) ?_
            · simp only [spec_ExternalActivity.j1]
              rw [if_pos trivial]
            · refine Ev.bind (specCircNone n l a x6 hn h) ?_
              simp only [if_true]
              rw [Gen.w64 (by omega) (by omega)]
              exact ih (x6 + 1) (by omega) (by omega)
      exact loop n.toNat 0 (by omega) (by omega)
    · have hIn : spec_l1In.f n 0 8 = some false := by
        unfold spec_l1In.f
        by_cases h0 : n ≥ 0
        · rw [if_pos h0, decide_eq_false (by omega)]
        · rw [if_neg h0]
      refine Ev.step (f := fun k => spec_ExternalActivity.j1 k a 0 0 false n l) (fun k => ?_) (hend 0 0)
      simp only [spec_ExternalActivity.l0]
      rw [hIn]
      simp only [Option.bind_some]
      by_cases h0 : (0 : Int) < n
      · rw [if_pos h0]
      · rw [if_neg h0]
  | true =>
    have hM : isMat n l = true := by rw [Bool.and_eq_true] at h; exact h.1
    unfold actvI
    rw [if_pos h]
    obtain ⟨m, lN, b, rfl, hm, rfl, hl, rfl, hb, hmem⟩ := base_nat h
    have h256 := pow_le_256 hm
    rw [ints_length] at hn
    simp only [toNat_ints, Int.toNat_natCast]
    have hIn : spec_l1In.f (m : Int) 0 8 = some true := by
      unfold spec_l1In.f
      rw [if_pos (by omega), decide_eq_true (by omega)]
    refine Gen.ev_loop (fun k (o : Nat) i => spec_ExternalActivity.l0 k (b : Int) (o : Int) i (m : Int) (ints lN)) m (fun e o => if b.testBit e = true then o else if least (circ lN b e) = e then o ||| 2 ^ e else o) (fun _ o => o < 2 ^ m) (actv m lN b : Int) (fun e o he ho => ⟨?_, fun h => ?_⟩) m 0 0 (by omega) (by exact Nat.pow_pos (by decide)) (fun _ => ?_)
    · show (if _ then _ else if _ then _ else _) < _
      split
      · exact ho
      · split
        · exact or_lt ho (pow_lt he)
        · exact ho
    · have hp := pow_lt he
      refine Ev.step (f := fun k => spec_ExternalActivity.j1 k (b : Int) (o : Int) (e : Int) true (m : Int) (ints lN)) (fun k => ?_) ?_
      · simp only [spec_ExternalActivity.l0]
        rw [if_pos (by omega), hIn]
        rfl
      · refine Ev.step (f := fun k => (spec_CircuitOf.f k (m : Int) (ints lN) (b : Int) (e : Int)).bind fun t139 => (if t139 = 0 then (spec_ExternalActivity.l0 k (b : Int) (o : Int) ((e + 1 : Nat) : Int) (m : Int) (ints lN)) else ((spec_l24Least.f t139).bind fun t140 => (if t140 = ((2 ^ e : Nat) : Int) then (spec_ExternalActivity.l0 k (b : Int) ((o ||| 2 ^ e : Nat) : Int) ((e + 1 : Nat) : Int) (m : Int) (ints lN)) else (spec_ExternalActivity.l0 k (b : Int) (o : Int) ((e + 1 : Nat) : Int) (m : Int) (ints lN)))))) (fun k => ?_) ?_
        · simp only [spec_ExternalActivity.j1]
          rw [if_pos trivial, u64_nat e (by omega), shl_nat e (by omega), or_nat o _ (by omega) (by omega), Gen.w64s e (by omega)]
          simp only [if_pos (show (0 : Int) ≤ (e : Int) by omega)]
        · cases hbe : b.testBit e with
          | true =>
            rw [hbe] at h
            simp only [if_true] at h
            refine Ev.bind (specCircIn m hm lN b e hb he hbe hn hM hmem) ?_
            simp only [if_true]
            exact h
          | false =>
            rw [hbe] at h
            simp only [Bool.false_eq_true, if_false] at h
            obtain ⟨_, hc1, hc2⟩ := implCirc (m : Int) lN b e (by omega) (by omega) hbe hn
            have hc0 : circ lN b e ≠ 0 := fun hz => by rw [hz, Nat.zero_testBit] at hc2; exact Bool.noConfusion hc2
            refine Ev.bind (specCirc m hm lN b e hb he hbe hn hM hmem) ?_
            simp only [if_neg (show ¬ ((circ lN b e : Nat) : Int) = 0 by omega), specLeast _ hc1 hc0, Option.bind_some]
            by_cases hx : least (circ lN b e) = e
            · rw [if_pos hx] at h
              rw [hx]
              simp only [if_true]
              exact h
            · rw [if_neg hx] at h
              have hne : ¬ ((2 ^ least (circ lN b e) : Nat) : Int) = ((2 ^ e : Nat) : Int) := fun hh => hx ((Nat.pow_right_inj (by decide)).1 (by exact_mod_cast hh : (2 : Nat) ^ least (circ lN b e) = 2 ^ e))
              simp only [if_neg hne]
              exact h
    · refine Ev.step (f := fun k => spec_ExternalActivity.j1 k (b : Int) ((actv m lN b : Nat) : Int) (m : Int) false (m : Int) (ints lN)) (fun k => ?_) (Gen.ev_at 1 (fun k hk => ?_))
      · simp only [spec_ExternalActivity.l0]
        rw [if_neg (by omega)]
        rfl
      · obtain ⟨q, rfl⟩ : ∃ q, k = q + 1 := ⟨k - 1, by omega⟩
        simp only [spec_ExternalActivity.j1]
        rw [if_neg (by decide)]
theorem implActv (n : Int) (l : List Int) (a : Int) (hn : l.length ≤ 1048576) : Ev (fun k => impl_ExternalActivity.f k n l a) (actvI n l a) := by
  unfold impl_ExternalActivity.f
  refine Ev.bind (implMat n l hn) ?_
  have hend : Ev (fun k => impl_ExternalActivity.j0 k a true n l) 0 := Gen.ev_at 1 (fun k hk => by
    obtain ⟨q, rfl⟩ : ∃ q, k = q + 1 := ⟨k - 1, by omega⟩
    simp only [impl_ExternalActivity.j0]
    rw [if_pos trivial])
  cases hM : isMat n l with
  | false =>
    unfold actvI
    simp only [hM, Bool.false_and, Bool.false_eq_true, if_false]
    exact hend
  | true =>
    simp only [if_true]
    refine Ev.bind (implHasI l a hn) ?_
    cases hmem0 : l.contains a with
    | false =>
      unfold actvI
      simp only [hM, hmem0, Bool.and_false, Bool.false_eq_true, if_false, Bool.not_false]
      exact hend
    | true =>
      have h : (isMat n l && l.contains a) = true := by rw [hM, hmem0]; rfl
      unfold actvI
      rw [if_pos h]
      obtain ⟨m, lN, b, rfl, hm, rfl, hl, rfl, hb, hmem⟩ := base_nat h
      have h256 := pow_le_256 hm
      rw [ints_length] at hn
      simp only [toNat_ints, Int.toNat_natCast, Bool.not_true]
      have hfull : 2 ^ m - 1 < 2 ^ m := by have : 0 < 2 ^ m := Nat.pow_pos (by decide); omega
      have hd := diff_lt (b := b) hfull
      refine Ev.step (f := fun k => (impl_ElementsOf.f k ((diff (2 ^ m - 1) b : Nat) : Int)).bind fun t190 => (impl_ExternalActivity.l0 k (b : Int) 0 t190 (t190.length : Int) 0 (m : Int) (ints lN))) (fun k => ?_) ?_
      · simp only [impl_ExternalActivity.j0]
        rw [if_neg (by decide), full_impl m hm]
        simp only [Option.bind_some]
        rw [andNot_nat _ b (by omega)]
      · refine Ev.bind (implElements _ (by omega)) ?_
        have efold : actv m lN b = (elems (diff (2 ^ m - 1) b)).foldl (fun o e => if least (circ lN b e) = e then o ||| 2 ^ e else o) 0 := by
          unfold elems
          rw [foldl_cond, show (8 : Nat) = m + (8 - m) by omega, Gen.foldl_more _ m (8 - m) _ (fun j hj s => by rw [bit_far hd hj]; simp)]
          unfold actv
          refine foldl_congr _ _ _ _ fun e he o => ?_
          have := List.mem_range'_1.1 he
          rw [diff_bit, Nat.testBit_two_pow_sub_one, decide_eq_true (by omega), Bool.true_and]
          cases b.testBit e <;> rfl
        rw [efold]
        refine list_loop (fun k (o : Nat) i => impl_ExternalActivity.l0 k (b : Int) (o : Int) (ints (elems (diff (2 ^ m - 1) b))) ((ints (elems (diff (2 ^ m - 1) b))).length : Int) i (m : Int) (ints lN)) (elems (diff (2 ^ m - 1) b)) (fun o e => if least (circ lN b e) = e then o ||| 2 ^ e else o) (fun _ o => o < 256) _ 0 (fun i o hi ho => ?_) (by decide) (fun _ => Gen.ev_at 1 (fun k hk => ?_))
        · obtain ⟨h8, hbit⟩ := elems_getD hi
          have hrd := ints_rd (elems (diff (2 ^ m - 1) b)) i
          have hlen := elems_length (diff (2 ^ m - 1) b)
          generalize hf : (elems (diff (2 ^ m - 1) b)).getD i 0 = e at *
          have hp : 2 ^ e < 2 ^ 8 := pow_lt h8
          have hbe : b.testBit e = false := by
            rw [diff_bit, Bool.and_eq_true] at hbit
            simpa using hbit.2
          refine ⟨?_, fun h => ?_⟩
          · show (if _ then _ else _) < _
            split
            · exact or_lt (n := 8) ho hp
            · exact ho
          · obtain ⟨hc, hc1, hc2⟩ := implCirc (m : Int) lN b e (by omega) h8 hbe hn
            have hc0 : circ lN b e ≠ 0 := fun hz => by rw [hz, Nat.zero_testBit] at hc2; exact Bool.noConfusion hc2
            refine Ev.step (f := fun k => (impl_circuit.f k (m : Int) (ints lN) (b : Int) (e : Int)).bind fun t194 => ((impl_leastElement.f k t194).bind fun t195 => (if t195 = (e : Int) then (impl_ExternalActivity.l0 k (b : Int) ((o ||| 2 ^ e : Nat) : Int) (ints (elems (diff (2 ^ m - 1) b))) ((ints (elems (diff (2 ^ m - 1) b))).length : Int) ((i + 1 : Nat) : Int) (m : Int) (ints lN)) else (impl_ExternalActivity.l0 k (b : Int) (o : Int) (ints (elems (diff (2 ^ m - 1) b))) ((ints (elems (diff (2 ^ m - 1) b))).length : Int) ((i + 1 : Nat) : Int) (m : Int) (ints lN))))) (fun k => ?_) ?_
            · simp only [impl_ExternalActivity.l0]
              rw [if_pos (by rw [ints_length]; omega), if_pos (by omega), if_pos (by rw [ints_length]; omega), hrd, shl_nat e (by omega), or_nat o _ (by omega) (by omega), Gen.w64s i (by omega)]
              simp only [if_pos (show (0 : Int) ≤ (e : Int) by omega)]
            · refine Ev.bind hc (Ev.bind (implLeast _ hc1 hc0) ?_)
              by_cases hx : least (circ lN b e) = e
              · rw [if_pos hx] at h
                rw [hx]
                simp only [if_true]
                exact h
              · rw [if_neg hx] at h
                simp only [if_neg (show ¬ ((least (circ lN b e) : Nat) : Int) = (e : Int) by omega)]
                exact h
        · obtain ⟨q, rfl⟩ : ∃ q, k = q + 1 := ⟨k - 1, by omega⟩
          simp only [impl_ExternalActivity.l0]
          rw [if_neg (by rw [ints_length]; omega)]
end Go.Proofs.Ytaepaekagenfnaa.Act
end

/-! ## PureFnExactExternalActivity -/
section
/- ExternalActivity: the elements that are active outside a base, by the program and by the reference; the argument stays. -/
namespace Go.Proofs.Ytaepaekagenfnaa.Pure
open Go.RowKit Go.Proofs.Ytaepaekagenfnaa.Pr Go.Proofs.Ytaepaekagenfnaa.Base Go.Proofs.Ytaepaekagenfnaa.Sets Go.Proofs.Ytaepaekagenfnaa.Mat Go.Proofs.Ytaepaekagenfnaa.Rank Go.Proofs.Ytaepaekagenfnaa.Flat Go.Proofs.Ytaepaekagenfnaa.Act Go.Proofs.YtaepaekagenfnaaW.PrintWords Go.Proofs.YtaepaekagenfnaaW.PrintLast Go.Proofs.YtaepaekagenfnaaW.PrintMore
set_option linter.unusedVariables false

theorem FnExactExternalActivity (n : Int) (xs : List Int) (s : Int) (_ : (Lit.int .i64 n).wf = true) (hm : xs.length ≤ maxLen ∧ ∀ x ∈ xs, (Lit.int .i64 x).wf = true) (_ : (Lit.int .i64 s).wf = true) : ∃ k, laws_FnExactExternalActivity.f k n xs s = some true := by
  obtain ⟨z, hz, h⟩ := szMatroid n xs 1048576 hm.1 (by decide) (by decide)
  refine Ev.rounds ?_
  unfold laws_FnExactExternalActivity.f
  rw [hz]
  simp only [Option.bind_some]
  by_cases hneg : z < 0
  · simp only [if_pos hneg]
    exact Ev.now _
  · simp only [if_neg hneg]
    have hl : xs.length ≤ 1048576 := by rcases h with h | h <;> omega
    refine Ev.bind (toMatroid n xs hl) (Ev.bind (specActv n xs s hl) (Ev.bind (toMatroid n xs hl) (Ev.bind (implActv n xs s hl) ?_)))
    simp only [if_true]
    refine Ev.bind (toMatroid n xs hl) (Ev.bind (eqMatroid n xs hl) ?_)
    simp only [if_true]
    exact Ev.now _
end Go.Proofs.Ytaepaekagenfnaa.Pure
end

/-! ## Open -/
section
/- What can be read as data of a Go type is a value of the print's kind of that type: numbers, bools, strings, slices and structs in any nesting. -/
namespace Go.Proofs.Ytaepaekagenfnaa.Open
open Go.ChangeShapes Go.WideShapes Go.RowKit Go.Proofs.YtaepaekagenfnaaW.PrintWords Go.Deep
set_option linter.unusedVariables false

structure Opens {α : Type} (P : Program) (d : Kd α) (t : TypeId) (Wf : α → Prop) : Prop where
  go : ∀ (H : Type) (enc : TypeId × Value → H) (w : World) (base : Nat) (spare : Nat → Bool) (held : Bool) (fuel : Nat) (cs : List Value) (x : DataW H × List MemPlace),
    DataW.trod enc P w base spare held fuel t cs = some x → ∃ a, d.K w a cs ∧ Wf a
theorem Opens.int {P : Program} {t : TypeId} {k : IntKind} (ht : P.underlying t = some (.int k)) : Opens P (Kd.int k) t (fun n => (Lit.int k n).wf = true) := by
  refine ⟨fun H enc w base spare held fuel cs x h => ?_⟩
  obtain ⟨n, rfl, _, hw⟩ := DataW.trod_int ht h
  exact ⟨n, rfl, hw⟩
theorem Opens.bool {P : Program} {t : TypeId} (ht : P.underlying t = some .bool) : Opens P Kd.bool t (fun _ => True) := by
  refine ⟨fun H enc w base spare held fuel cs x h => ?_⟩
  obtain ⟨n, rfl, _⟩ := DataW.trod_bool ht h
  exact ⟨n, rfl, trivial⟩
theorem Opens.string {P : Program} {t : TypeId} (ht : P.underlying t = some .string) : Opens P Kd.string t (fun s => s.size ≤ maxLen) := by
  refine ⟨fun H enc w base spare held fuel cs x h => ?_⟩
  obtain ⟨n, rfl, _, hw⟩ := DataW.trod_string ht h
  exact ⟨n, rfl, hw⟩
theorem list_of {α : Type} {p : Nat → α → Prop} : ∀ {len : Nat}, (∀ i, i < len → ∃ y, p i y) → ∃ xs : List α, xs.length = len ∧ ∀ i y, xs[i]? = some y → p i y := by
  intro len
  induction len with
  | zero => exact fun _ => ⟨[], rfl, fun i y h => by simp at h⟩
  | succ len ih =>
    intro key
    obtain ⟨xs, hxl, hxs⟩ := ih (fun i hi => key i (by omega))
    obtain ⟨y, hy⟩ := key len (by omega)
    refine ⟨xs ++ [y], by simp [hxl], fun i z hz => ?_⟩
    by_cases hi : i < xs.length
    · rw [List.getElem?_append_left hi] at hz
      exact hxs i z hz
    · have hlt : i < (xs ++ [y]).length := (List.getElem?_eq_some_iff.1 hz).1
      have e : i = len := by simp [hxl] at hlt hi; omega
      subst e
      rw [List.getElem?_append_right (by omega), hxl] at hz
      simp at hz
      subst hz
      exact hy
theorem Opens.slice {α : Type} {P : Program} {t e : TypeId} {d : Kd α} {Wf : α → Prop} (ht : P.underlying t = some (.slice e)) (hs : P.cellsOf e = d.sz) (h : Opens P d e Wf) :
    Opens P (Kd.slice e d) t (fun xs => xs.length ≤ maxLen ∧ ∀ x ∈ xs, Wf x) := by
  refine ⟨fun H enc w base spare held fuel cs x hx => ?_⟩
  rcases open_slice ht hx with ⟨rfl, _⟩ | ⟨a, len, cap, m, n, D, Pl, rfl, hb, hl, hm, hmm, _, hel⟩
  · exact ⟨[], ⟨none, 0, rfl, Nat.le_refl _, rfl, by simp, fun h => absurd h (by simp)⟩, by simp, by simp⟩
  · have hlm : len ≤ m := by rw [hmm]; split <;> omega
    have key : ∀ i, i < len → ∃ y : α, (∃ cs', w.cells? base (a.add (i * P.cellsOf e)) (P.cellsOf e) = some cs' ∧ d.K w y cs') ∧ Wf y := fun i hi => by
      obtain ⟨cs', h1, h2⟩ := hel i (by omega)
      obtain ⟨y, h3, h4⟩ := h.go _ enc w base spare held n cs' _ h2
      exact ⟨y, ⟨cs', h1, h3⟩, h4⟩
    obtain ⟨xs, hxl, hxs⟩ := list_of key
    refine ⟨xs, ⟨some a, cap, by rw [hxl], by omega, rfl, by have := hm; unfold maxLen at this; omega, fun _ => ⟨a, rfl, fun j p hj => ?_⟩⟩, by omega, fun y hy => ?_⟩
    · obtain ⟨⟨cs', h1, h2⟩, _⟩ := hxs j p hj
      obtain ⟨_, h3, h4⟩ := World.cells?_some h1
      refine ⟨cs', by rw [h3, hs], h2, fun i u hu => ?_⟩
      have hlt : i < cs'.length := (List.getElem?_eq_some_iff.1 hu).1
      have := h4 i (by omega)
      rw [hs, Go.Deep.add_add] at this
      rw [this, hu]
    · obtain ⟨i, hi⟩ := List.getElem?_of_mem hy
      exact (hxs i y hi).2
/-- Fields in line, from a place on. -/
structure OpensFs {α : Type} (P : Program) (fs : List Field) (off : Nat) (d : Kd α) (Wf : α → Prop) : Prop where
  go : ∀ (H : Type) (enc : TypeId × Value → H) (w : World) (base : Nat) (spare : Nat → Bool) (held : Bool) (n : Nat) (cs : List Value),
    cs.length = off + d.sz → (∀ f ∈ fs, ∃ x, DataW.trod enc P w base spare held n f.type ((cs.drop f.offset).take (P.cellsOf f.type)) = some x) → ∃ a, d.K w a (cs.drop off) ∧ Wf a
theorem OpensFs.one {α : Type} {P : Program} {f : Field} {off : Nat} {d : Kd α} {Wf : α → Prop} (ho : f.offset = off) (hs : P.cellsOf f.type = d.sz) (h : Opens P d f.type Wf) : OpensFs P [f] off d Wf := by
  refine ⟨fun H enc w base spare held n cs hl hf => ?_⟩
  obtain ⟨x, hx⟩ := hf f (by simp)
  rw [ho, hs, List.take_of_length_le (by rw [List.length_drop]; omega)] at hx
  exact h.go _ enc w base spare held n _ x hx
theorem OpensFs.cons {α β : Type} {P : Program} {f : Field} {fs : List Field} {off : Nat} {d : Kd α} {d' : Kd β} {Wf : α → Prop} {Wf' : β → Prop} (ho : f.offset = off) (hs : P.cellsOf f.type = d.sz) (h : Opens P d f.type Wf)
    (h' : OpensFs P fs (off + d.sz) d' Wf') : OpensFs P (f :: fs) off (Kd.pair d d') (fun x => Wf x.1 ∧ Wf' x.2) := by
  refine ⟨fun H enc w base spare held n cs hl hf => ?_⟩
  have hl' : cs.length = off + (d.sz + d'.sz) := hl
  obtain ⟨x, hx⟩ := hf f (by simp)
  rw [ho, hs] at hx
  obtain ⟨a, ha, wa⟩ := h.go _ enc w base spare held n _ x hx
  obtain ⟨b, hb, wb⟩ := h'.go _ enc w base spare held n cs (by omega) (fun g hg => hf g (by simp [hg]))
  refine ⟨(a, b), ⟨(cs.drop off).take d.sz, cs.drop (off + d.sz), ?_, ha, hb⟩, wa, wb⟩
  rw [← List.drop_drop, List.take_append_drop]
theorem Opens.struct {α : Type} {P : Program} {t : TypeId} {fs : Array Field} {d : Kd α} {Wf : α → Prop} (ht : P.underlying t = some (.struct fs)) (hs : P.cellsOf t = d.sz) (h : OpensFs P fs.toList 0 d Wf) : Opens P d t Wf := by
  refine ⟨fun H enc w base spare held fuel cs x hx => ?_⟩
  obtain ⟨xs, n, _, _, hl, hlen, hg⟩ := DataW.trod_struct ht hx
  obtain ⟨a, ha, wa⟩ := h.go _ enc w base spare held n cs (by omega) (fun f hf => by
    obtain ⟨i, hi⟩ := List.getElem?_of_mem hf
    have h1 := hg i f (by simpa using hi)
    have hlt : i < fs.size := by have := (List.getElem?_eq_some_iff.1 hi).1; simpa using this
    exact ⟨_, h1.trans (List.getElem?_eq_getElem (by omega))⟩)
  exact ⟨a, by simpa using ha, wa⟩
theorem Opens.iso {α β : Type} {P : Program} {t : TypeId} {d : Kd α} {Wf : α → Prop} (h : Opens P d t Wf) (f : β → α) (g : α → β) (hfg : ∀ a, f (g a) = a) : Opens P (Kd.iso d f) t (fun b => Wf (f b)) := by
  refine ⟨fun H enc w base spare held fuel cs x hx => ?_⟩
  obtain ⟨a, ha, wa⟩ := h.go _ enc w base spare held fuel cs x hx
  exact ⟨g a, by show d.K w (f (g a)) cs; rw [hfg]; exact ha, by show Wf (f (g a)); rw [hfg]; exact wa⟩
theorem Opens.wk {α : Type} {P : Program} {t : TypeId} {d : Kd α} {Wf Wf' : α → Prop} (h : Opens P d t Wf) (hw : ∀ a, Wf a → Wf' a) : Opens P d t Wf' := by
  refine ⟨fun H enc w base spare held fuel cs x hx => ?_⟩
  obtain ⟨a, ha, wa⟩ := h.go _ enc w base spare held fuel cs x hx
  exact ⟨a, ha, hw _ wa⟩
/-- An argument of one slice. -/
theorem Opens.argSlice {α : Type} {P : Program} {t e : TypeId} {d : Kd α} {Wf : List α → Prop} (h : Opens P (Kd.slice e d) t Wf) {H : Type} {enc : TypeId × Value → H} {w : World} {base : Nat} {spare : Nat → Bool} {held : Bool} {v : Value} {x : DataW H} {ps : List MemPlace}
    (hv : ∃ a len cap, v = .slice a len cap) (ht : DataW.Trod enc P w base spare held t v x ps) : ∃ A c xs, v = .slice A xs.length c ∧ xs.length ≤ c ∧ d.C w A xs.length xs ∧ Wf xs := by
  obtain ⟨a, len, cap, rfl⟩ := hv
  obtain ⟨fuel, hf⟩ := ht
  obtain ⟨xs, ⟨A, c, hc, hl, hr⟩, wf⟩ := h.go _ enc w base spare held fuel _ _ hf
  simp only [Value.cells, List.cons.injEq, and_true] at hc
  exact ⟨A, c, xs, hc, hl, hr, wf⟩
/-- An argument that is a struct. -/
theorem Opens.argStruct {α : Type} {P : Program} {t : TypeId} {d : Kd α} {Wf : α → Prop} (h : Opens P d t Wf) {H : Type} {enc : TypeId × Value → H} {w : World} {base : Nat} {spare : Nat → Bool} {held : Bool} {v : Value} {x : DataW H} {ps : List MemPlace}
    (hv : ∃ cs, v = .agg cs ∧ cs.size = P.cellsOf t) (ht : DataW.Trod enc P w base spare held t v x ps) : ∃ cs a, v = .agg cs.toArray ∧ d.K w a cs ∧ Wf a := by
  obtain ⟨cs, rfl, _⟩ := hv
  obtain ⟨fuel, hf⟩ := ht
  obtain ⟨a, ha, wf⟩ := h.go _ enc w base spare held fuel _ _ hf
  exact ⟨cs.toList, a, by simp, ha, wf⟩
end Go.Proofs.Ytaepaekagenfnaa.Open
end

/-! ## LawFnExactExternalActivity -/
section
/- The row of the law FnExactExternalActivity: for every input the law returns true, and its arguments read as before. Out of the pure theorem and the walk. Written by mkrow.py. -/
namespace Go.Proofs.Ytaepaekagenfnaa.fnExactExternalActivity
open Go.ChangeShapes Go.WideShapes Go.ChangeAt Go.RowKit Go.Proofs.Ytaepaekagenfnaa.Open Go.Proofs.YtaepaekagenfnaaW.PrintWords
open Go.ChangeMaps (open_string shut_string)
set_option linter.unusedVariables false
theorem own : ownKnob Try.prog.godebug = none := by kernel_rfl
theorem laidOut : laidOutB Try.prog = true := by kernel_rfl
set_option maxRecDepth 100000 in
theorem lifted (os : Os) (started : os.Started) (H : Type) (enc : TypeId × Value → H) :
    ReturnsInHanded {} Try.checked os 3 .any (Rows.fnExactExternalActivitySpec.pre6 enc Try.prog Try.f3 Rows.fnExactExternalActivityRow.domain false) (Rows.fnExactExternalActivitySpec.post enc Try.prog Try.f3 false true false false) := by
  refine returnsInHanded_of_change_sized (C := Try.checked) own started (by kernel_rfl) Try.func3
    (ChangeSpec.witness6 (enc := enc) (C := Try.checked) false ⟨#[], #[.agg #[.int .i64 0, .slice none 0 0], .int .i64 0], []⟩ 8 (by kernel_rfl) (by kernel_rfl) (by kernel_rfl) (by kernel_rfl)) ?_
  intro W base args ds gs before hval0 hW hcnd hsz0 _
  have hval : ∀ (j : Nat) t v, Try.f3.params[j]? = some t → args[j]? = some v → Value.okWide Try.prog W .any base t v := hval0
  have hW' := hW
  obtain ⟨p, q, hA0, hV, rfl, hfz, hnd⟩ := hW
  have hA : DataW.TrodAll enc Try.prog W 0 (fun _ => true) true Try.f3.params.toList args.toList ds p := hA0
  rw [Try.params3] at hA hval
  obtain ⟨v0, vs0, d0, ds0, p0, q0, hargs, rfl, rfl, h0, r0⟩ := trodAll_cons hA
  obtain ⟨v1, vs1, d1, ds1, p1, q1, rfl, rfl, rfl, h1, r1⟩ := trodAll_cons r0
  obtain ⟨rfl, rfl, rfl⟩ := trodAll_nil r1
  obtain rfl : args = #[v0, v1] := by cases args; simp_all
  obtain ⟨rfl, rfl⟩ := trodVars_none hV
  have k0 := h0
  have lt0 : ∀ x ∈ p0, x.block < W.heap.size := by obtain ⟨m, hm⟩ := k0; exact DataW.trod_lt m _ _ _ hm
  obtain ⟨cs0, x0, rfl, K0, w0⟩ := Opens.argStruct (Opens.struct Try.underlying24 (by kernel_rfl) (OpensFs.cons rfl (by kernel_rfl) (Opens.int Try.underlying3) (OpensFs.one rfl (by kernel_rfl) (Opens.slice Try.underlying22 (by kernel_rfl) (Opens.int Try.underlying3))))) (okWide_struct Try.underlying24 (hval 0 24 v0 rfl rfl)) h0
  obtain ⟨_, _, rfl, rfl, ⟨A0_1, c0_1, rfl, hl0_1, hr0_1⟩⟩ := K0
  obtain ⟨w0_0, w0_1⟩ := w0
  obtain ⟨a1, rfl, rfl, rfl, w1⟩ := open_int Try.underlying3 (hval 1 3 v1 rfl rfl) h1
  clear hA0 hval0 hsz0
  obtain ⟨k, hk⟩ := Pure.FnExactExternalActivity x0.1 x0.2 a1 w0_0 w0_1 w1
  refine (Pr.laws_FnExactExternalActivity.calls k x0.1 _ _ x0.2 a1 true W hr0_1 hl0_1 ⟨rfl⟩ hk).mono fun e W' ⟨he, bel⟩ => ?_
  subst he
  exact ⟨_, rfl, _, _, _, [], _, [], hW', trodAll_mk1 (shut_bool Try.underlying4 _), (trodAll_cons_mk (Below.trod laidOut (by kernel_rfl) (of_decide_eq_true (by kernel_rfl)) k0 bel lt0) (trodAll_cons_mk (shut_int Try.underlying3 w1) trodAll_mk0)), rfl, bel.frame _, fun h => by cases h⟩
theorem over : Rows.fnExactExternalActivityRow.holds Try.pinned (OpenSpec.ofChange Rows.fnExactExternalActivitySpec) :=
  OpenClaim.holds_of_wide 3 Try.f3 rfl rfl rfl rfl rfl rfl rfl ⟨rfl, rfl, rfl, rfl, rfl⟩ rfl rfl rfl rfl rfl (by kernel_rfl) Try.func3 (by kernel_rfl)
    (of_decide_eq_true (by kernel_rfl)) (by unfold Func.isWrapper; first | (rw [if_pos (by decide +kernel)]; kernel_rfl) | (rw [if_neg (by decide +kernel)]; exact ⟨rfl, rfl⟩))
    (fun os started H enc _ => lifted os started H enc)
theorem proved : Rows.FnExactExternalActivitySaid := over
#print axioms proved
end Go.Proofs.Ytaepaekagenfnaa.fnExactExternalActivity
namespace Go.Proofs.Ytaepaekagenfnaa
theorem fnExactExternalActivity_holds : Rows.FnExactExternalActivitySaid := fnExactExternalActivity.proved
end Go.Proofs.Ytaepaekagenfnaa
end
