/- The claim FnExactExcludedMinor: every text that its row comes to, laid together by slim.py (the words of the kit's print, the printed walks, the pure law, the row). -/
import Derived.Below
import Derived.ChangeArms
import Derived.ChangeOld
import Derived.DataReads
import Derived.Deep.Slices
import Derived.OpenShut
import Derived.ProofKit
import Derived.ShutString
import Derived.SizedLaws
import Derived.Test.YtbjnkcfkhonkhaaRows
import Derived.WalkKit
import Derived.Test.YtbjnkcfkhonkhaaYFnExactExcludedMinor4
section
namespace Go.Proofs.Ytbjnkcfkhonkhaa.Pr
open Go.RowKit Go.Proofs.YtbjnkcfkhonkhaaW.PrintWords Go.Proofs.YtbjnkcfkhonkhaaW.PrintLast Go.Proofs.YtbjnkcfkhonkhaaW.PrintMore
attribute [local go_sem] max2_int min2_int max_two min_two max_three min_three max_four min_four
set_option linter.unusedVariables false
set_option linter.unusedSimpArgs false
def laws_FnExactExcludedMinor.j0 : Nat → Bool → Int → List Int → Int → List Int → Option (Bool)
 | 0, _, _, _, _, _ => none
 | k + 1, x39, x762000, x762001, x778000, x778001 => if x39 = true then (some false) else ((laws_toMatroid.f k x762000 x762001).bind fun bt785 => ((laws_eqMatroid.f k x778000 x778001 bt785.1 bt785.2).bind fun t789 => (if t789 = true then (some true) else (some false))))
def laws_FnExactExcludedMinor.f (k : Nat) (a0_0 : Int) (l0_1 : List Int) (a1 : Int) : Option (Bool) := (laws_szMatroid.f a0_0 l0_1 1048576).bind fun t762 => (if t762 < 0 then (some true) else ((laws_toMatroid.f k a0_0 l0_1).bind fun bt763 => ((spec_ExcludedMinor.f k bt763.1 bt763.2 a1).bind fun bt767 => ((laws_toMatroid.f k a0_0 l0_1).bind fun bt773 => ((impl_ExcludedMinor.f k bt773.1 bt773.2 a1).bind fun bt778 => ((laws_eqWitness.f bt778.1 bt778.2.1 bt778.2.2.1 bt778.2.2.2.1 bt767.1 bt767.2.1 bt767.2.2.1 bt767.2.2.2.1).bind fun t784 => (if t784 = true then (laws_FnExactExcludedMinor.j0 k (bt778.2.2.2.2 != bt767.2.2.2.2) a0_0 l0_1 bt773.1 bt773.2) else (laws_FnExactExcludedMinor.j0 k true a0_0 l0_1 bt773.1 bt773.2))))))))
set_option maxHeartbeats 8000000 in
set_option maxRecDepth 100000 in
theorem laws_FnExactExcludedMinor.calls (k : Nat) (a0_0 : Int) (A0_1 : Option Addr) (c0_1 : Nat) (l0_1 : List Int) (a1 : Int) (r : Bool) (w : World) (hr0_1 : Kd.C (Kd.int .i64) w A0_1 l0_1.length l0_1) (hc0_1 : l0_1.length ≤ c0_1) (hT : Aside0 (r = true)) (h : laws_FnExactExcludedMinor.f k a0_0 l0_1 a1 = some r) :
  Calls Try.prog 8 #[.agg #[.int .i64 a0_0, .slice A0_1 l0_1.length c0_1], .int .i64 a1] w fun e w' => e = .returned (.bool r) ∧ Below w.heap.size w w' := by
 have hu42 := Try.underlying42
 have hu52 := Try.underlying52
 have hu45 := Try.underlying45
 have HR0_1 := Aside0.mk hr0_1
 have HC0_1 := Aside0.mk hc0_1
 clear hr0_1 hc0_1
 have HB := Aside0.mk (Below.refl w.heap.size w)
 have H : ((laws_szMatroid.f a0_0 l0_1 1048576).bind fun t762 => (if t762 < 0 then (some true) else ((laws_toMatroid.f k a0_0 l0_1).bind fun bt763 => ((spec_ExcludedMinor.f k bt763.1 bt763.2 a1).bind fun bt767 => ((laws_toMatroid.f k a0_0 l0_1).bind fun bt773 => ((impl_ExcludedMinor.f k bt773.1 bt773.2 a1).bind fun bt778 => ((laws_eqWitness.f bt778.1 bt778.2.1 bt778.2.2.1 bt778.2.2.2.1 bt767.1 bt767.2.1 bt767.2.2.1 bt767.2.2.2.1).bind fun t784 => (if t784 = true then (laws_FnExactExcludedMinor.j0 k (bt778.2.2.2.2 != bt767.2.2.2.2) a0_0 l0_1 bt773.1 bt773.2) else (laws_FnExactExcludedMinor.j0 k true a0_0 l0_1 bt773.1 bt773.2))))))))) = some r := h
 clear h
 replace H := Option.bind_eq_some_iff.mp H
 obtain ⟨t762, A30, H⟩ := H
 (try dsimp only at H)
 have A3 := Aside0.mk A30
 clear A30
 by_cases c4 : t762 < 0
 ·rw [if_pos c4] at H
  have c4b0 : decide (t762 < 0) = true := decide_eq_true c4
  clear c4
  obtain rfl := Option.some.inj H
  go_enter Try.func8, Try.ntmps8
  go_wp2_with (first | ((with_reducible refine gate_dst (N := 2) rfl ?_); refine box_event ?hg (N := 2) ?hd (cs := #[.int .i64 a0_0, .slice A0_1 l0_1.length c0_1]) (t := 42) ?hr ?_; (case hd => rfl); (case hg => rfl); (case hr => first | (go_simp; done) | (go_simp; rfl)); intro gb761 hg w5 hbox hb; have BK761 := Aside0.mk hbox; have GW761 := Aside0.mk ((by rw [hg]; exact (below_size (Hof.Lw HB.out)) : w.heap.size ≤ gb761)); have GE761 := Aside0.mk ((by rw [hg]; exact (below_size (Hof.Lw HB.out)) : w.heap.size ≤ gb761)); replace HB := Aside0.mk (below_step (Hof.Lw HB.out) hb); clear hb hbox hg; obtain ⟨hcz6_0, hcz6_1, hfz6_0, hfz6_1⟩ := Hof.blk2 BK761.out) | ((with_reducible refine gate_callee (f := 32) rfl ?_); refine goesL_ (some 13) rfl rfl Try.func32 (by kernel_rfl) rfl #[.agg #[.int .i64 a0_0, .slice A0_1 l0_1.length c0_1], .int .i64 1048576] rfl (by (try simp only [List.map_toArray, List.map_cons, List.map_nil]); first | done | rfl) ?_; (with_reducible refine (laws_szMatroid.calls a0_0 _ _ l0_1 1048576 t762 _ ?side1 ?side2 A3.out).mono ?_); (case side1 => exact Hof.Cw (Kd.C_below HR0_1.out HB.out)); (case side2 => exact HC0_1.out); rintro e w7 ⟨rfl, hb⟩; refine ⟨_, rfl, ?_⟩; replace BK761 := Aside0.mk (blk_below (Hof.Bw BK761.out) hb); replace HB := Aside0.mk (below_step (by repeat (first | (with_reducible first | exact HB.out | apply below_alloc | apply pw_below_drewN | apply below_drew1 | refine below_set ?_ GE761.out) | exact HB.out)) hb); (try clear hb); (try clear hb2); (try clear hk); (try clear hi)))
  go_ret
  exact ⟨by first | rfl | (simp [errW_none, errW_some] <;> rfl) | (simp [*, errW_none, errW_some] <;> rfl), by repeat (first | (with_reducible first | exact HB.out | apply below_alloc | apply pw_below_drewN | apply below_drew1 | refine below_set ?_ GE761.out) | exact HB.out)⟩
 ·rw [if_neg c4] at H
  have c4b0 : decide (t762 < 0) = false := decide_eq_false c4
  clear c4
  replace H := Option.bind_eq_some_iff.mp H
  obtain ⟨⟨t763, t764⟩, A80, H⟩ := H
  (try dsimp only at H)
  have A8 := Aside0.mk A80
  clear A80
  replace H := Option.bind_eq_some_iff.mp H
  obtain ⟨⟨t767, t768, t769, t770, t771⟩, A90, H⟩ := H
  (try dsimp only at H)
  have A9 := Aside0.mk A90
  clear A90
  replace H := Option.bind_eq_some_iff.mp H
  obtain ⟨⟨t773, t774⟩, A100, H⟩ := H
  (try dsimp only at H)
  have A10 := Aside0.mk A100
  clear A100
  replace H := Option.bind_eq_some_iff.mp H
  obtain ⟨⟨t778, t779, t780, t781, t782⟩, A110, H⟩ := H
  (try dsimp only at H)
  have A11 := Aside0.mk A110
  clear A110
  have HC12 := Aside0.mk H
  clear H
  go_enter Try.func8, Try.ntmps8
  go_upto_region 8 with (first | ((with_reducible refine gate_dst (N := 2) rfl ?_); refine box_event ?hg (N := 2) ?hd (cs := #[.int .i64 a0_0, .slice A0_1 l0_1.length c0_1]) (t := 42) ?hr ?_; (case hd => rfl); (case hg => rfl); (case hr => first | (go_simp; done) | (go_simp; rfl)); intro gb761 hg w13 hbox hb; have BK761 := Aside0.mk hbox; have GW761 := Aside0.mk ((by rw [hg]; exact (below_size (Hof.Lw HB.out)) : w.heap.size ≤ gb761)); have GE761 := Aside0.mk ((by rw [hg]; exact (below_size (Hof.Lw HB.out)) : w.heap.size ≤ gb761)); replace HB := Aside0.mk (below_step (Hof.Lw HB.out) hb); clear hb hbox hg; obtain ⟨hcz14_0, hcz14_1, hfz14_0, hfz14_1⟩ := Hof.blk2 BK761.out) | ((with_reducible refine gate_callee (f := 32) rfl ?_); refine goesL_ (some 13) rfl rfl Try.func32 (by kernel_rfl) rfl #[.agg #[.int .i64 a0_0, .slice A0_1 l0_1.length c0_1], .int .i64 1048576] rfl (by (try simp only [List.map_toArray, List.map_cons, List.map_nil]); first | done | rfl) ?_; (with_reducible refine (laws_szMatroid.calls a0_0 _ _ l0_1 1048576 t762 _ ?side1 ?side2 A3.out).mono ?_); (case side1 => exact Hof.Cw (Kd.C_below HR0_1.out HB.out)); (case side2 => exact HC0_1.out); rintro e w15 ⟨rfl, hb⟩; refine ⟨_, rfl, ?_⟩; replace BK761 := Aside0.mk (blk_below (Hof.Bw BK761.out) hb); replace HB := Aside0.mk (below_step (by repeat (first | (with_reducible first | exact HB.out | apply below_alloc | apply pw_below_drewN | apply below_drew1 | refine below_set ?_ GE761.out) | exact HB.out)) hb); (try clear hb); (try clear hb2); (try clear hk); (try clear hi); obtain ⟨hcz16_0, hcz16_1, hfz16_0, hfz16_1⟩ := Hof.blk2 BK761.out) | ((with_reducible refine gate_callee (f := 34) rfl ?_); refine goesL_ (some 18) rfl rfl Try.func34 (by kernel_rfl) rfl #[.agg #[.int .i64 a0_0, .slice A0_1 l0_1.length c0_1]] rfl (by (try simp only [List.map_toArray, List.map_cons, List.map_nil]); first | done | rfl) ?_; (with_reducible refine (laws_toMatroid.calls k a0_0 _ _ l0_1 t763 t764 _ ?side1 ?side2 A8.out).mono ?_); (case side1 => exact Hof.Cw (Kd.C_below HR0_1.out HB.out)); (case side2 => exact HC0_1.out); rintro e w17 ⟨v765, rfl, ho0, hb⟩; refine ⟨_, rfl, ?_⟩; have HO766 := Aside0.mk (Kd.R_lower ho0 (below_size (by repeat (first | (with_reducible first | exact HB.out | apply below_alloc | apply pw_below_drewN | apply below_drew1 | refine below_set ?_ GE761.out) | exact HB.out)))); replace BK761 := Aside0.mk (blk_below (Hof.Bw BK761.out) hb); replace HB := Aside0.mk (below_step (by repeat (first | (with_reducible first | exact HB.out | apply below_alloc | apply pw_below_drewN | apply below_drew1 | refine below_set ?_ GE761.out) | exact HB.out)) hb); (try clear hb); (try clear hb2); (try clear hk); (try clear hi); (try clear ho0); obtain ⟨Ao18, co18, eo18⟩ := Kd.R_slice HO766.out; subst eo18) | ((with_reducible refine gate_callee (f := 40) rfl ?_); refine goesL_ (some 20) rfl rfl Try.func40 (by kernel_rfl) rfl #[.agg #[.int .i64 t763, .slice Ao18 t764.length co18], .int .i64 a1] rfl (by (try simp only [List.map_toArray, List.map_cons, List.map_nil]); first | done | rfl) ?_; (with_reducible refine (spec_ExcludedMinor.calls k t763 _ _ t764 a1 t767 t768 t769 t770 t771 _ ?side1 ?side2 A9.out).mono ?_); (case side1 => exact Hof.Cw ((Kd.R_reads' HO766.out).2.2)); (case side2 => exact (Kd.R_reads' HO766.out).2.1); rintro e w19 ⟨rfl, hb⟩; refine ⟨_, rfl, ?_⟩; replace HO766 := Aside0.mk (Kd.R_below (Hof.Rw HO766.out) hb); replace BK761 := Aside0.mk (blk_below (Hof.Bw BK761.out) hb); replace HB := Aside0.mk (below_step (by repeat (first | (with_reducible first | exact HB.out | apply below_alloc | apply pw_below_drewN | apply below_drew1 | refine below_set ?_ GE761.out) | exact HB.out)) hb); (try clear hb); (try clear hb2); (try clear hk); (try clear hi)) | ((with_reducible refine gate_dst (N := 6) rfl ?_); refine box_event ?hg (N := 6) ?hd (cs := #[.int .i64 0, .int .i64 0, .int .i64 0, .int .i64 0]) (t := 52) ?hr ?_; (case hd => rfl); (case hg => rfl); (case hr => first | (go_simp; done) | (go_simp; rfl)); intro gb772 hg w20 hbox hb; replace HO766 := Aside0.mk (Kd.R_below (Hof.Rw HO766.out) hb); have BK772 := Aside0.mk hbox; have GW772 := Aside0.mk ((by rw [hg]; exact (below_size (by repeat (first | (with_reducible first | exact HB.out | apply below_alloc | apply pw_below_drewN | apply below_drew1 | refine below_set ?_ GE761.out) | exact HB.out))) : w.heap.size ≤ gb772)); have GE772 := Aside0.mk ((by rw [hg]; exact (below_size (by repeat (first | (with_reducible first | exact HB.out | apply below_alloc | apply pw_below_drewN | apply below_drew1 | refine below_set ?_ GE761.out) | exact HB.out))) : w.heap.size ≤ gb772)); replace HB := Aside0.mk (below_step (by repeat (first | (with_reducible first | exact HB.out | apply below_alloc | apply pw_below_drewN | apply below_drew1 | refine below_set ?_ GE761.out) | exact HB.out)) hb); have NB761_772 := Aside0.mk ((by rw [hg]; exact Nat.ne_of_lt (blk_lt (g := gb761) (o := .cells #[.int .i64 a0_0, .slice A0_1 l0_1.length c0_1] 42 (0, 0)) (Hof.Bw BK761.out)) : gb761 ≠ gb772)); have NB772_761 := Aside0.mk ((by rw [hg]; exact Nat.ne_of_gt (blk_lt (g := gb761) (o := .cells #[.int .i64 a0_0, .slice A0_1 l0_1.length c0_1] 42 (0, 0)) (Hof.Bw BK761.out)) : gb772 ≠ gb761)); replace BK761 := Aside0.mk (blk_below (Hof.Bw BK761.out) hb); clear hb hbox hg; have hnb21 := NB772_761.out; have hnc21 := NB761_772.out; obtain ⟨hcz22_0, hcz22_1, hcz22_2, hcz22_3, hfz22_0, hfz22_1, hfz22_2, hfz22_3⟩ := Hof.blk4 BK772.out; obtain ⟨hcz23_0, hcz23_1, hfz23_0, hfz23_1⟩ := Hof.blk2 BK761.out) | ((with_reducible refine gate_callee (f := 34) rfl ?_); refine goesL_ (some 24) rfl rfl Try.func34 (by kernel_rfl) rfl #[.agg #[.int .i64 a0_0, .slice A0_1 l0_1.length c0_1]] rfl (by (try simp only [List.map_toArray, List.map_cons, List.map_nil]); first | done | rfl) ?_; (with_reducible refine (laws_toMatroid.calls k a0_0 _ _ l0_1 t773 t774 _ ?side1 ?side2 A10.out).mono ?_); (case side1 => exact Kd.C_below HR0_1.out (by repeat (first | (with_reducible first | exact HB.out | apply below_alloc | apply pw_below_drewN | apply below_drew1 | refine below_set ?_ GE761.out | refine below_set ?_ GE772.out) | exact HB.out))); (case side2 => exact HC0_1.out); rintro e w24 ⟨v775, rfl, ho0, hb⟩; refine ⟨_, rfl, ?_⟩; have HO776 := Aside0.mk (Kd.R_lower (Kd.R_new' ho0 (Kd.R_lt (Hof.Rw ((Kd.R_mono (Kd.R_far (p := ⟨gb772, 3, none⟩) (Kd.R_far (p := ⟨gb772, 2, none⟩) (Kd.R_far (p := ⟨gb772, 1, none⟩) (Kd.R_far (p := ⟨gb772, 0, none⟩) (Kd.R_types HO766.out BK772.out (by decide)) (fun _ hk => hk.2) (.int .i64 t767)) (fun _ hk => hk.2) (.int .i64 t768)) (fun _ hk => hk.2) (.int .i64 t769)) (fun _ hk => hk.2) (.int .i64 t770)) (fun _ h_ => h_.1)))))) (below_size (by repeat (first | (with_reducible first | exact HB.out | apply below_alloc | apply pw_below_drewN | apply below_drew1 | refine below_set ?_ GE761.out | refine below_set ?_ GE772.out) | exact HB.out)))); replace HO766 := Aside0.mk (Kd.R_elder' (Hof.Rw ((Kd.R_mono (Kd.R_far (p := ⟨gb772, 3, none⟩) (Kd.R_far (p := ⟨gb772, 2, none⟩) (Kd.R_far (p := ⟨gb772, 1, none⟩) (Kd.R_far (p := ⟨gb772, 0, none⟩) (Kd.R_types HO766.out BK772.out (by decide)) (fun _ hk => hk.2) (.int .i64 t767)) (fun _ hk => hk.2) (.int .i64 t768)) (fun _ hk => hk.2) (.int .i64 t769)) (fun _ hk => hk.2) (.int .i64 t770)) (fun _ h_ => h_.1)))) (Kd.R_base ho0) hb); replace BK761 := Aside0.mk (blk_below (g := gb761) (o := .cells #[.int .i64 a0_0, .slice A0_1 l0_1.length c0_1] 42 (0, 0)) (by (with_reducible repeat (first | refine blk_drewN ?_ _ | refine blk_drew ?_ | refine blk_alloc ?_ _)); refine blk_far ?_ NB761_772.out _; (with_reducible repeat (first | refine blk_drewN ?_ _ | refine blk_drew ?_ | refine blk_alloc ?_ _)); refine blk_far ?_ NB761_772.out _; (with_reducible repeat (first | refine blk_drewN ?_ _ | refine blk_drew ?_ | refine blk_alloc ?_ _)); refine blk_far ?_ NB761_772.out _; (with_reducible repeat (first | refine blk_drewN ?_ _ | refine blk_drew ?_ | refine blk_alloc ?_ _)); refine blk_far ?_ NB761_772.out _; (with_reducible repeat (first | refine blk_drewN ?_ _ | refine blk_drew ?_ | refine blk_alloc ?_ _)); exact BK761.out) hb); replace BK772 := Aside0.mk (blk_below (g := gb772) (o := .cells #[.int .i64 t767, .int .i64 t768, .int .i64 t769, .int .i64 t770] 52 (0, 0)) (by (with_reducible repeat (first | refine blk_drewN ?_ _ | refine blk_drew ?_ | refine blk_alloc ?_ _)); refine blk_put (cs := #[.int .i64 t767, .int .i64 t768, .int .i64 t769, .int .i64 0]) ?_ 3 _ rfl; (with_reducible repeat (first | refine blk_drewN ?_ _ | refine blk_drew ?_ | refine blk_alloc ?_ _)); refine blk_put (cs := #[.int .i64 t767, .int .i64 t768, .int .i64 0, .int .i64 0]) ?_ 2 _ rfl; (with_reducible repeat (first | refine blk_drewN ?_ _ | refine blk_drew ?_ | refine blk_alloc ?_ _)); refine blk_put (cs := #[.int .i64 t767, .int .i64 0, .int .i64 0, .int .i64 0]) ?_ 1 _ rfl; (with_reducible repeat (first | refine blk_drewN ?_ _ | refine blk_drew ?_ | refine blk_alloc ?_ _)); refine blk_put (cs := #[.int .i64 0, .int .i64 0, .int .i64 0, .int .i64 0]) ?_ 0 _ rfl; (with_reducible repeat (first | refine blk_drewN ?_ _ | refine blk_drew ?_ | refine blk_alloc ?_ _)); exact BK772.out) hb); replace HB := Aside0.mk (below_step (by repeat (first | (with_reducible first | exact HB.out | apply below_alloc | apply pw_below_drewN | apply below_drew1 | refine below_set ?_ GE761.out | refine below_set ?_ GE772.out) | exact HB.out)) hb); (try clear hb); (try clear hb2); (try clear hk); (try clear hi); (try clear ho0)) | ((with_reducible refine gate_dst (N := 8) rfl ?_); refine box_event ?hg (N := 8) ?hd (cs := #[.int .i64 0, .slice none 0 0]) (t := 45) ?hr ?_; (case hd => rfl); (case hg => rfl); (case hr => first | (go_simp; done) | (go_simp; rfl)); intro gb777 hg w25 hbox hb; have n0_ := Aside0.mk (Kd.R_below (Hof.Rw HO766.out) hb); have n1_ := Aside0.mk (Kd.R_below (Hof.Rw HO776.out) hb); have n2_ := Aside0.mk (blk_below (Hof.Bw BK761.out) hb); have n3_ := Aside0.mk (blk_below (Hof.Bw BK772.out) hb); have n4_ := Aside0.mk (below_step (by repeat (first | (with_reducible first | exact HB.out | apply below_alloc | apply pw_below_drewN | apply below_drew1 | refine below_set ?_ GE761.out | refine below_set ?_ GE772.out) | exact HB.out)) hb); have n5_ := Aside0.mk hbox; have n6_ := Aside0.mk ((by rw [hg]; exact (below_size (by repeat (first | (with_reducible first | exact HB.out | apply below_alloc | apply pw_below_drewN | apply below_drew1 | refine below_set ?_ GE761.out | refine below_set ?_ GE772.out) | exact HB.out))) : w.heap.size ≤ gb777)); have n7_ := Aside0.mk ((by rw [hg]; exact (below_size (by repeat (first | (with_reducible first | exact HB.out | apply below_alloc | apply pw_below_drewN | apply below_drew1 | refine below_set ?_ GE761.out | refine below_set ?_ GE772.out) | exact HB.out))) : w.heap.size ≤ gb777)); have n8_ := Aside0.mk ((by rw [hg]; exact Nat.ne_of_lt (blk_lt (g := gb761) (o := .cells #[.int .i64 a0_0, .slice A0_1 l0_1.length c0_1] 42 (0, 0)) (Hof.Bw BK761.out)) : gb761 ≠ gb777)); have n9_ := Aside0.mk ((by rw [hg]; exact Nat.ne_of_gt (blk_lt (g := gb761) (o := .cells #[.int .i64 a0_0, .slice A0_1 l0_1.length c0_1] 42 (0, 0)) (Hof.Bw BK761.out)) : gb777 ≠ gb761)); have n10_ := Aside0.mk ((by rw [hg]; exact Nat.ne_of_lt (blk_lt (g := gb772) (o := .cells #[.int .i64 t767, .int .i64 t768, .int .i64 t769, .int .i64 t770] 52 (0, 0)) (Hof.Bw BK772.out)) : gb772 ≠ gb777)); have n11_ := Aside0.mk ((by rw [hg]; exact Nat.ne_of_gt (blk_lt (g := gb772) (o := .cells #[.int .i64 t767, .int .i64 t768, .int .i64 t769, .int .i64 t770] 52 (0, 0)) (Hof.Bw BK772.out)) : gb777 ≠ gb772)); clear HO766; clear HO776; clear BK761; clear BK772; clear HB; have HO766 := n0_; have HO776 := n1_; have BK761 := n2_; have BK772 := n3_; have HB := n4_; have BK777 := n5_; have GW777 := n6_; have GE777 := n7_; have NB761_777 := n8_; have NB777_761 := n9_; have NB772_777 := n10_; have NB777_772 := n11_; clear n0_ n1_ n2_ n3_ n4_ n5_ n6_ n7_ n8_ n9_ n10_ n11_; clear hb hbox hg; have hnb26 := NB777_761.out; have hnc26 := NB761_777.out; have hnb27 := NB777_772.out; have hnc27 := NB772_777.out; obtain ⟨hcz28_0, hcz28_1, hfz28_0, hfz28_1⟩ := Hof.blk2 BK777.out; obtain ⟨Ao29, co29, eo29⟩ := Kd.R_slice HO776.out; subst eo29) | ((with_reducible refine gate_callee (f := 41) rfl ?_); refine goesL_ (some 28) rfl rfl Try.func41 (by kernel_rfl) rfl #[.agg #[.int .i64 t773, .slice Ao29 t774.length co29], .int .i64 a1] rfl (by (try simp only [List.map_toArray, List.map_cons, List.map_nil]); first | done | rfl) ?_; (with_reducible refine (impl_ExcludedMinor.calls k t773 _ _ t774 a1 t778 t779 t780 t781 t782 _ ?side1 ?side2 A11.out).mono ?_); (case side1 => refine (Kd.R_reads' (e := 3) (base := w.heap.size) (ok := fun k_ => (True ∧ some k_ ≠ (.slice Ao18 t764.length co18 : Value).ownBlock)) (n := t774.length) (c := co29) ?_).2.2; exact (Hof.Rw ((Kd.R_mono (Kd.R_far (p := ⟨gb777, 1, none⟩) (Kd.R_far (p := ⟨gb777, 0, none⟩) (Kd.R_types HO776.out BK777.out (by decide)) (fun _ hk => hk.2) (.int .i64 t773)) (fun _ hk => hk.2) (.slice Ao29 t774.length co29)) (fun _ h_ => h_.1))))); (case side2 => exact (Kd.R_reads' HO776.out).2.1); rintro e w30 ⟨rfl, hb⟩; refine ⟨_, rfl, ?_⟩; replace HO766 := Aside0.mk (Kd.R_below (Hof.Rw ((Kd.R_mono (Kd.R_far (p := ⟨gb777, 1, none⟩) (Kd.R_far (p := ⟨gb777, 0, none⟩) (Kd.R_types HO766.out BK777.out (by decide)) (fun _ hk => hk.2) (.int .i64 t773)) (fun _ hk => hk.2) (.slice Ao29 t774.length co29)) (fun _ h_ => h_.1)))) hb); replace HO776 := Aside0.mk (Kd.R_below (Hof.Rw ((Kd.R_mono (Kd.R_far (p := ⟨gb777, 1, none⟩) (Kd.R_far (p := ⟨gb777, 0, none⟩) (Kd.R_types HO776.out BK777.out (by decide)) (fun _ hk => hk.2) (.int .i64 t773)) (fun _ hk => hk.2) (.slice Ao29 t774.length co29)) (fun _ h_ => h_.1)))) hb); replace BK761 := Aside0.mk (blk_below (g := gb761) (o := .cells #[.int .i64 a0_0, .slice A0_1 l0_1.length c0_1] 42 (0, 0)) (by (with_reducible repeat (first | refine blk_drewN ?_ _ | refine blk_drew ?_ | refine blk_alloc ?_ _)); refine blk_far ?_ NB761_777.out _; (with_reducible repeat (first | refine blk_drewN ?_ _ | refine blk_drew ?_ | refine blk_alloc ?_ _)); refine blk_far ?_ NB761_777.out _; (with_reducible repeat (first | refine blk_drewN ?_ _ | refine blk_drew ?_ | refine blk_alloc ?_ _)); exact BK761.out) hb); replace BK772 := Aside0.mk (blk_below (g := gb772) (o := .cells #[.int .i64 t767, .int .i64 t768, .int .i64 t769, .int .i64 t770] 52 (0, 0)) (by (with_reducible repeat (first | refine blk_drewN ?_ _ | refine blk_drew ?_ | refine blk_alloc ?_ _)); refine blk_far ?_ NB772_777.out _; (with_reducible repeat (first | refine blk_drewN ?_ _ | refine blk_drew ?_ | refine blk_alloc ?_ _)); refine blk_far ?_ NB772_777.out _; (with_reducible repeat (first | refine blk_drewN ?_ _ | refine blk_drew ?_ | refine blk_alloc ?_ _)); exact BK772.out) hb); replace BK777 := Aside0.mk (blk_below (g := gb777) (o := .cells #[.int .i64 t773, .slice Ao29 t774.length co29] 45 (0, 0)) (by (with_reducible repeat (first | refine blk_drewN ?_ _ | refine blk_drew ?_ | refine blk_alloc ?_ _)); refine blk_put (cs := #[.int .i64 t773, .slice none 0 0]) ?_ 1 _ rfl; (with_reducible repeat (first | refine blk_drewN ?_ _ | refine blk_drew ?_ | refine blk_alloc ?_ _)); refine blk_put (cs := #[.int .i64 0, .slice none 0 0]) ?_ 0 _ rfl; (with_reducible repeat (first | refine blk_drewN ?_ _ | refine blk_drew ?_ | refine blk_alloc ?_ _)); exact BK777.out) hb); replace HB := Aside0.mk (below_step (by repeat (first | (with_reducible first | exact HB.out | apply below_alloc | apply pw_below_drewN | apply below_drew1 | refine below_set ?_ GE761.out | refine below_set ?_ GE772.out | refine below_set ?_ GE777.out) | exact HB.out)) hb); (try clear hb); (try clear hb2); (try clear hk); (try clear hi)) | ((with_reducible refine gate_dst (N := 9) rfl ?_); refine box_event ?hg (N := 9) ?hd (cs := #[.int .i64 0, .int .i64 0, .int .i64 0, .int .i64 0]) (t := 52) ?hr ?_; (case hd => rfl); (case hg => rfl); (case hr => first | (go_simp; done) | (go_simp; rfl)); intro gb783 hg w31 hbox hb; have n0_ := Aside0.mk (Kd.R_below (Hof.Rw HO766.out) hb); have n1_ := Aside0.mk (Kd.R_below (Hof.Rw HO776.out) hb); have n2_ := Aside0.mk (blk_below (Hof.Bw BK761.out) hb); have n3_ := Aside0.mk (blk_below (Hof.Bw BK772.out) hb); have n4_ := Aside0.mk (blk_below (Hof.Bw BK777.out) hb); have n5_ := Aside0.mk (below_step (by repeat (first | (with_reducible first | exact HB.out | apply below_alloc | apply pw_below_drewN | apply below_drew1 | refine below_set ?_ GE761.out | refine below_set ?_ GE772.out | refine below_set ?_ GE777.out) | exact HB.out)) hb); have n6_ := Aside0.mk hbox; have n7_ := Aside0.mk ((by rw [hg]; exact (below_size (by repeat (first | (with_reducible first | exact HB.out | apply below_alloc | apply pw_below_drewN | apply below_drew1 | refine below_set ?_ GE761.out | refine below_set ?_ GE772.out | refine below_set ?_ GE777.out) | exact HB.out))) : w.heap.size ≤ gb783)); have n8_ := Aside0.mk ((by rw [hg]; exact (below_size (by repeat (first | (with_reducible first | exact HB.out | apply below_alloc | apply pw_below_drewN | apply below_drew1 | refine below_set ?_ GE761.out | refine below_set ?_ GE772.out | refine below_set ?_ GE777.out) | exact HB.out))) : w.heap.size ≤ gb783)); have n9_ := Aside0.mk ((by rw [hg]; exact Nat.ne_of_lt (blk_lt (g := gb761) (o := .cells #[.int .i64 a0_0, .slice A0_1 l0_1.length c0_1] 42 (0, 0)) (Hof.Bw BK761.out)) : gb761 ≠ gb783)); have n10_ := Aside0.mk ((by rw [hg]; exact Nat.ne_of_gt (blk_lt (g := gb761) (o := .cells #[.int .i64 a0_0, .slice A0_1 l0_1.length c0_1] 42 (0, 0)) (Hof.Bw BK761.out)) : gb783 ≠ gb761)); have n11_ := Aside0.mk ((by rw [hg]; exact Nat.ne_of_lt (blk_lt (g := gb772) (o := .cells #[.int .i64 t767, .int .i64 t768, .int .i64 t769, .int .i64 t770] 52 (0, 0)) (Hof.Bw BK772.out)) : gb772 ≠ gb783)); have n12_ := Aside0.mk ((by rw [hg]; exact Nat.ne_of_gt (blk_lt (g := gb772) (o := .cells #[.int .i64 t767, .int .i64 t768, .int .i64 t769, .int .i64 t770] 52 (0, 0)) (Hof.Bw BK772.out)) : gb783 ≠ gb772)); have n13_ := Aside0.mk ((by rw [hg]; exact Nat.ne_of_lt (blk_lt (g := gb777) (o := .cells #[.int .i64 t773, .slice Ao29 t774.length co29] 45 (0, 0)) (Hof.Bw BK777.out)) : gb777 ≠ gb783)); have n14_ := Aside0.mk ((by rw [hg]; exact Nat.ne_of_gt (blk_lt (g := gb777) (o := .cells #[.int .i64 t773, .slice Ao29 t774.length co29] 45 (0, 0)) (Hof.Bw BK777.out)) : gb783 ≠ gb777)); clear HO766; clear HO776; clear BK761; clear BK772; clear BK777; clear HB; have HO766 := n0_; have HO776 := n1_; have BK761 := n2_; have BK772 := n3_; have BK777 := n4_; have HB := n5_; have BK783 := n6_; have GW783 := n7_; have GE783 := n8_; have NB761_783 := n9_; have NB783_761 := n10_; have NB772_783 := n11_; have NB783_772 := n12_; have NB777_783 := n13_; have NB783_777 := n14_; clear n0_ n1_ n2_ n3_ n4_ n5_ n6_ n7_ n8_ n9_ n10_ n11_ n12_ n13_ n14_; clear hb hbox hg; have hnb32 := NB783_761.out; have hnc32 := NB761_783.out; have hnb33 := NB783_772.out; have hnc33 := NB772_783.out; have hnb34 := NB783_777.out; have hnc34 := NB777_783.out; obtain ⟨hcz35_0, hcz35_1, hcz35_2, hcz35_3, hfz35_0, hfz35_1, hfz35_2, hfz35_3⟩ := Hof.blk4 BK783.out))
  (try simp only [Act.put, List.setIfInBounds_toArray, List.set_cons_zero, List.set_cons_succ])
  go_cut [39] (fun v39 wc => ∃ (kq : Nat) (x39_11 : Bool), v39 = .bool x39_11 ∧ Aside0 (laws_FnExactExcludedMinor.j0 kq x39_11 a0_0 l0_1 t773 t774 = some r) ∧ Aside0 (kq ≤ k) ∧ Aside0 (Kd.R (Kd.int .i64) 3 wc w.heap.size (fun _ => True) (.slice Ao29 t774.length co29) t774) ∧ Aside0 (wc.heap[gb761]? = some (.cells #[.int .i64 a0_0, (.slice A0_1 l0_1.length c0_1)] 42 (0, 0))) ∧ Aside0 (wc.heap[gb772]? = some (.cells #[.int .i64 t767, .int .i64 t768, .int .i64 t769, .int .i64 t770] 52 (0, 0))) ∧ Aside0 (wc.heap[gb777]? = some (.cells #[.int .i64 t773, (.slice Ao29 t774.length co29)] 45 (0, 0))) ∧ Aside0 (wc.heap[gb783]? = some (.cells #[.int .i64 t778, .int .i64 t779, .int .i64 t780, .int .i64 t781] 52 (0, 0))) ∧ Aside0 (Below w.heap.size w wc))
  case first =>
   have H := HC12.out
   clear HC12
   replace H := Option.bind_eq_some_iff.mp H
   obtain ⟨t784, A360, H⟩ := H
   (try dsimp only at H)
   have A36 := Aside0.mk A360
   clear A360
   by_cases c37 : t784 = true
   ·subst c37
    have H1 : (laws_FnExactExcludedMinor.j0 k (t782 != t771) a0_0 l0_1 t773 t774) = some r := by rw [if_pos rfl] at H; exact H
    clear H
    have H := H1
    clear H1
    have H' := Aside0.mk H
    clear H
    have hnb38 := NB783_761.out
    have hnc38 := NB761_783.out
    have hnb39 := NB783_772.out
    have hnc39 := NB772_783.out
    have hnb40 := NB783_777.out
    have hnc40 := NB777_783.out
    obtain ⟨hcz41_0, hcz41_1, hcz41_2, hcz41_3, hfz41_0, hfz41_1, hfz41_2, hfz41_3⟩ := Hof.blk4 BK783.out
    have hnb42 := NB772_761.out
    have hnc42 := NB761_772.out
    have hnb43 := NB772_777.out
    have hnc43 := NB777_772.out
    obtain ⟨hcz44_0, hcz44_1, hcz44_2, hcz44_3, hfz44_0, hfz44_1, hfz44_2, hfz44_3⟩ := Hof.blk4 BK772.out
    go_wp2_with (first | ((with_reducible refine gate_callee (f := 42) rfl ?_); refine goesL_ (some 33) rfl rfl Try.func42 (by kernel_rfl) rfl #[.agg #[.int .i64 t778, .int .i64 t779, .int .i64 t780, .int .i64 t781], .agg #[.int .i64 t767, .int .i64 t768, .int .i64 t769, .int .i64 t770]] rfl (by (try simp only [List.map_toArray, List.map_cons, List.map_nil]); first | done | rfl) ?_; (with_reducible refine (laws_eqWitness.calls t778 t779 t780 t781 t767 t768 t769 t770 true _ A36.out).mono ?_); rintro e w45 ⟨rfl, hb⟩; refine ⟨_, rfl, ?_⟩; replace HO766 := Aside0.mk (Kd.R_below (Hof.Rw ((Kd.R_mono (Kd.R_far (p := ⟨gb783, 3, none⟩) (Kd.R_far (p := ⟨gb783, 2, none⟩) (Kd.R_far (p := ⟨gb783, 1, none⟩) (Kd.R_far (p := ⟨gb783, 0, none⟩) (Kd.R_types HO766.out BK783.out (by decide)) (fun _ hk => hk.2) (.int .i64 t778)) (fun _ hk => hk.2) (.int .i64 t779)) (fun _ hk => hk.2) (.int .i64 t780)) (fun _ hk => hk.2) (.int .i64 t781)) (fun _ h_ => h_.1)))) hb); replace HO776 := Aside0.mk (Kd.R_below (Hof.Rw ((Kd.R_mono (Kd.R_far (p := ⟨gb783, 3, none⟩) (Kd.R_far (p := ⟨gb783, 2, none⟩) (Kd.R_far (p := ⟨gb783, 1, none⟩) (Kd.R_far (p := ⟨gb783, 0, none⟩) (Kd.R_types HO776.out BK783.out (by decide)) (fun _ hk => hk.2) (.int .i64 t778)) (fun _ hk => hk.2) (.int .i64 t779)) (fun _ hk => hk.2) (.int .i64 t780)) (fun _ hk => hk.2) (.int .i64 t781)) (fun _ h_ => h_.1)))) hb); replace BK761 := Aside0.mk (blk_below (g := gb761) (o := .cells #[.int .i64 a0_0, .slice A0_1 l0_1.length c0_1] 42 (0, 0)) (by (with_reducible repeat (first | refine blk_drewN ?_ _ | refine blk_drew ?_ | refine blk_alloc ?_ _)); refine blk_far ?_ NB761_783.out _; (with_reducible repeat (first | refine blk_drewN ?_ _ | refine blk_drew ?_ | refine blk_alloc ?_ _)); refine blk_far ?_ NB761_783.out _; (with_reducible repeat (first | refine blk_drewN ?_ _ | refine blk_drew ?_ | refine blk_alloc ?_ _)); refine blk_far ?_ NB761_783.out _; (with_reducible repeat (first | refine blk_drewN ?_ _ | refine blk_drew ?_ | refine blk_alloc ?_ _)); refine blk_far ?_ NB761_783.out _; (with_reducible repeat (first | refine blk_drewN ?_ _ | refine blk_drew ?_ | refine blk_alloc ?_ _)); exact BK761.out) hb); replace BK772 := Aside0.mk (blk_below (g := gb772) (o := .cells #[.int .i64 t767, .int .i64 t768, .int .i64 t769, .int .i64 t770] 52 (0, 0)) (by (with_reducible repeat (first | refine blk_drewN ?_ _ | refine blk_drew ?_ | refine blk_alloc ?_ _)); refine blk_far ?_ NB772_783.out _; (with_reducible repeat (first | refine blk_drewN ?_ _ | refine blk_drew ?_ | refine blk_alloc ?_ _)); refine blk_far ?_ NB772_783.out _; (with_reducible repeat (first | refine blk_drewN ?_ _ | refine blk_drew ?_ | refine blk_alloc ?_ _)); refine blk_far ?_ NB772_783.out _; (with_reducible repeat (first | refine blk_drewN ?_ _ | refine blk_drew ?_ | refine blk_alloc ?_ _)); refine blk_far ?_ NB772_783.out _; (with_reducible repeat (first | refine blk_drewN ?_ _ | refine blk_drew ?_ | refine blk_alloc ?_ _)); exact BK772.out) hb); replace BK777 := Aside0.mk (blk_below (g := gb777) (o := .cells #[.int .i64 t773, .slice Ao29 t774.length co29] 45 (0, 0)) (by (with_reducible repeat (first | refine blk_drewN ?_ _ | refine blk_drew ?_ | refine blk_alloc ?_ _)); refine blk_far ?_ NB777_783.out _; (with_reducible repeat (first | refine blk_drewN ?_ _ | refine blk_drew ?_ | refine blk_alloc ?_ _)); refine blk_far ?_ NB777_783.out _; (with_reducible repeat (first | refine blk_drewN ?_ _ | refine blk_drew ?_ | refine blk_alloc ?_ _)); refine blk_far ?_ NB777_783.out _; (with_reducible repeat (first | refine blk_drewN ?_ _ | refine blk_drew ?_ | refine blk_alloc ?_ _)); refine blk_far ?_ NB777_783.out _; (with_reducible repeat (first | refine blk_drewN ?_ _ | refine blk_drew ?_ | refine blk_alloc ?_ _)); exact BK777.out) hb); replace BK783 := Aside0.mk (blk_below (g := gb783) (o := .cells #[.int .i64 t778, .int .i64 t779, .int .i64 t780, .int .i64 t781] 52 (0, 0)) (by (with_reducible repeat (first | refine blk_drewN ?_ _ | refine blk_drew ?_ | refine blk_alloc ?_ _)); refine blk_put (cs := #[.int .i64 t778, .int .i64 t779, .int .i64 t780, .int .i64 0]) ?_ 3 _ rfl; (with_reducible repeat (first | refine blk_drewN ?_ _ | refine blk_drew ?_ | refine blk_alloc ?_ _)); refine blk_put (cs := #[.int .i64 t778, .int .i64 t779, .int .i64 0, .int .i64 0]) ?_ 2 _ rfl; (with_reducible repeat (first | refine blk_drewN ?_ _ | refine blk_drew ?_ | refine blk_alloc ?_ _)); refine blk_put (cs := #[.int .i64 t778, .int .i64 0, .int .i64 0, .int .i64 0]) ?_ 1 _ rfl; (with_reducible repeat (first | refine blk_drewN ?_ _ | refine blk_drew ?_ | refine blk_alloc ?_ _)); refine blk_put (cs := #[.int .i64 0, .int .i64 0, .int .i64 0, .int .i64 0]) ?_ 0 _ rfl; (with_reducible repeat (first | refine blk_drewN ?_ _ | refine blk_drew ?_ | refine blk_alloc ?_ _)); exact BK783.out) hb); replace HB := Aside0.mk (below_step (by repeat (first | (with_reducible first | exact HB.out | apply below_alloc | apply pw_below_drewN | apply below_drew1 | refine below_set ?_ GE761.out | refine below_set ?_ GE772.out | refine below_set ?_ GE777.out | refine below_set ?_ GE783.out) | exact HB.out)) hb); (try clear hb); (try clear hb2); (try clear hk); (try clear hi)))
    go_meet
    case rel => exact ⟨_, ((t782 != t771)), (by first | rfl | (simp; done) | (simp [*]; done)), H', ⟨by first | omega | exact Nat.le_refl _⟩, ⟨Hof.Rw (Kd.R_mono HO776.out (fun _ hk => trivial))⟩, ⟨Hof.Bw BK761.out⟩, ⟨Hof.Bw BK772.out⟩, ⟨Hof.Bw BK777.out⟩, ⟨Hof.Bw BK783.out⟩, ⟨by repeat (first | (with_reducible first | exact HB.out | apply below_alloc | apply pw_below_drewN | apply below_drew1 | refine below_set ?_ GE761.out | refine below_set ?_ GE772.out | refine below_set ?_ GE777.out | refine below_set ?_ GE783.out) | exact HB.out)⟩⟩
   ·replace c37 := Bool.eq_false_iff.mpr c37
    subst c37
    have H1 : (laws_FnExactExcludedMinor.j0 k true a0_0 l0_1 t773 t774) = some r := by rw [if_neg (show ¬ (false = true) by decide)] at H; exact H
    clear H
    have H := H1
    clear H1
    have H' := Aside0.mk H
    clear H
    have hnb46 := NB783_761.out
    have hnc46 := NB761_783.out
    have hnb47 := NB783_772.out
    have hnc47 := NB772_783.out
    have hnb48 := NB783_777.out
    have hnc48 := NB777_783.out
    obtain ⟨hcz49_0, hcz49_1, hcz49_2, hcz49_3, hfz49_0, hfz49_1, hfz49_2, hfz49_3⟩ := Hof.blk4 BK783.out
    have hnb50 := NB772_761.out
    have hnc50 := NB761_772.out
    have hnb51 := NB772_777.out
    have hnc51 := NB777_772.out
    obtain ⟨hcz52_0, hcz52_1, hcz52_2, hcz52_3, hfz52_0, hfz52_1, hfz52_2, hfz52_3⟩ := Hof.blk4 BK772.out
    go_wp2_with (first | ((with_reducible refine gate_callee (f := 42) rfl ?_); refine goesL_ (some 33) rfl rfl Try.func42 (by kernel_rfl) rfl #[.agg #[.int .i64 t778, .int .i64 t779, .int .i64 t780, .int .i64 t781], .agg #[.int .i64 t767, .int .i64 t768, .int .i64 t769, .int .i64 t770]] rfl (by (try simp only [List.map_toArray, List.map_cons, List.map_nil]); first | done | rfl) ?_; (with_reducible refine (laws_eqWitness.calls t778 t779 t780 t781 t767 t768 t769 t770 false _ A36.out).mono ?_); rintro e w53 ⟨rfl, hb⟩; refine ⟨_, rfl, ?_⟩; replace HO766 := Aside0.mk (Kd.R_below (Hof.Rw ((Kd.R_mono (Kd.R_far (p := ⟨gb783, 3, none⟩) (Kd.R_far (p := ⟨gb783, 2, none⟩) (Kd.R_far (p := ⟨gb783, 1, none⟩) (Kd.R_far (p := ⟨gb783, 0, none⟩) (Kd.R_types HO766.out BK783.out (by decide)) (fun _ hk => hk.2) (.int .i64 t778)) (fun _ hk => hk.2) (.int .i64 t779)) (fun _ hk => hk.2) (.int .i64 t780)) (fun _ hk => hk.2) (.int .i64 t781)) (fun _ h_ => h_.1)))) hb); replace HO776 := Aside0.mk (Kd.R_below (Hof.Rw ((Kd.R_mono (Kd.R_far (p := ⟨gb783, 3, none⟩) (Kd.R_far (p := ⟨gb783, 2, none⟩) (Kd.R_far (p := ⟨gb783, 1, none⟩) (Kd.R_far (p := ⟨gb783, 0, none⟩) (Kd.R_types HO776.out BK783.out (by decide)) (fun _ hk => hk.2) (.int .i64 t778)) (fun _ hk => hk.2) (.int .i64 t779)) (fun _ hk => hk.2) (.int .i64 t780)) (fun _ hk => hk.2) (.int .i64 t781)) (fun _ h_ => h_.1)))) hb); replace BK761 := Aside0.mk (blk_below (g := gb761) (o := .cells #[.int .i64 a0_0, .slice A0_1 l0_1.length c0_1] 42 (0, 0)) (by (with_reducible repeat (first | refine blk_drewN ?_ _ | refine blk_drew ?_ | refine blk_alloc ?_ _)); refine blk_far ?_ NB761_783.out _; (with_reducible repeat (first | refine blk_drewN ?_ _ | refine blk_drew ?_ | refine blk_alloc ?_ _)); refine blk_far ?_ NB761_783.out _; (with_reducible repeat (first | refine blk_drewN ?_ _ | refine blk_drew ?_ | refine blk_alloc ?_ _)); refine blk_far ?_ NB761_783.out _; (with_reducible repeat (first | refine blk_drewN ?_ _ | refine blk_drew ?_ | refine blk_alloc ?_ _)); refine blk_far ?_ NB761_783.out _; (with_reducible repeat (first | refine blk_drewN ?_ _ | refine blk_drew ?_ | refine blk_alloc ?_ _)); exact BK761.out) hb); replace BK772 := Aside0.mk (blk_below (g := gb772) (o := .cells #[.int .i64 t767, .int .i64 t768, .int .i64 t769, .int .i64 t770] 52 (0, 0)) (by (with_reducible repeat (first | refine blk_drewN ?_ _ | refine blk_drew ?_ | refine blk_alloc ?_ _)); refine blk_far ?_ NB772_783.out _; (with_reducible repeat (first | refine blk_drewN ?_ _ | refine blk_drew ?_ | refine blk_alloc ?_ _)); refine blk_far ?_ NB772_783.out _; (with_reducible repeat (first | refine blk_drewN ?_ _ | refine blk_drew ?_ | refine blk_alloc ?_ _)); refine blk_far ?_ NB772_783.out _; (with_reducible repeat (first | refine blk_drewN ?_ _ | refine blk_drew ?_ | refine blk_alloc ?_ _)); refine blk_far ?_ NB772_783.out _; (with_reducible repeat (first | refine blk_drewN ?_ _ | refine blk_drew ?_ | refine blk_alloc ?_ _)); exact BK772.out) hb); replace BK777 := Aside0.mk (blk_below (g := gb777) (o := .cells #[.int .i64 t773, .slice Ao29 t774.length co29] 45 (0, 0)) (by (with_reducible repeat (first | refine blk_drewN ?_ _ | refine blk_drew ?_ | refine blk_alloc ?_ _)); refine blk_far ?_ NB777_783.out _; (with_reducible repeat (first | refine blk_drewN ?_ _ | refine blk_drew ?_ | refine blk_alloc ?_ _)); refine blk_far ?_ NB777_783.out _; (with_reducible repeat (first | refine blk_drewN ?_ _ | refine blk_drew ?_ | refine blk_alloc ?_ _)); refine blk_far ?_ NB777_783.out _; (with_reducible repeat (first | refine blk_drewN ?_ _ | refine blk_drew ?_ | refine blk_alloc ?_ _)); refine blk_far ?_ NB777_783.out _; (with_reducible repeat (first | refine blk_drewN ?_ _ | refine blk_drew ?_ | refine blk_alloc ?_ _)); exact BK777.out) hb); replace BK783 := Aside0.mk (blk_below (g := gb783) (o := .cells #[.int .i64 t778, .int .i64 t779, .int .i64 t780, .int .i64 t781] 52 (0, 0)) (by (with_reducible repeat (first | refine blk_drewN ?_ _ | refine blk_drew ?_ | refine blk_alloc ?_ _)); refine blk_put (cs := #[.int .i64 t778, .int .i64 t779, .int .i64 t780, .int .i64 0]) ?_ 3 _ rfl; (with_reducible repeat (first | refine blk_drewN ?_ _ | refine blk_drew ?_ | refine blk_alloc ?_ _)); refine blk_put (cs := #[.int .i64 t778, .int .i64 t779, .int .i64 0, .int .i64 0]) ?_ 2 _ rfl; (with_reducible repeat (first | refine blk_drewN ?_ _ | refine blk_drew ?_ | refine blk_alloc ?_ _)); refine blk_put (cs := #[.int .i64 t778, .int .i64 0, .int .i64 0, .int .i64 0]) ?_ 1 _ rfl; (with_reducible repeat (first | refine blk_drewN ?_ _ | refine blk_drew ?_ | refine blk_alloc ?_ _)); refine blk_put (cs := #[.int .i64 0, .int .i64 0, .int .i64 0, .int .i64 0]) ?_ 0 _ rfl; (with_reducible repeat (first | refine blk_drewN ?_ _ | refine blk_drew ?_ | refine blk_alloc ?_ _)); exact BK783.out) hb); replace HB := Aside0.mk (below_step (by repeat (first | (with_reducible first | exact HB.out | apply below_alloc | apply pw_below_drewN | apply below_drew1 | refine below_set ?_ GE761.out | refine below_set ?_ GE772.out | refine below_set ?_ GE777.out | refine below_set ?_ GE783.out) | exact HB.out)) hb); (try clear hb); (try clear hb2); (try clear hk); (try clear hi)))
    go_meet
    case rel => exact ⟨_, (true), (by first | rfl | (simp; done) | (simp [*]; done)), H', ⟨by first | omega | exact Nat.le_refl _⟩, ⟨Hof.Rw (Kd.R_mono HO776.out (fun _ hk => trivial))⟩, ⟨Hof.Bw BK761.out⟩, ⟨Hof.Bw BK772.out⟩, ⟨Hof.Bw BK777.out⟩, ⟨Hof.Bw BK783.out⟩, ⟨by repeat (first | (with_reducible first | exact HB.out | apply below_alloc | apply pw_below_drewN | apply below_drew1 | refine below_set ?_ GE761.out | refine below_set ?_ GE772.out | refine below_set ?_ GE777.out | refine below_set ?_ GE783.out) | exact HB.out)⟩⟩
  case rest =>
   clear HC12
   try clear c2
   try clear p2
   try clear c3
   try clear c4
   try clear c4b0
   try clear c5
   try clear c8
   try clear c21
   try clear c26
   try clear c27
   try clear c32
   try clear c33
   try clear c34
   try clear c37
   try clear c38
   try clear c39
   try clear c40
   try clear c41
   try clear c42
   try clear c43
   try clear c46
   try clear c47
   try clear c48
   try clear c50
   try clear c51
   try clear hcz14_0
   try clear hcz14_1
   try clear hcz16_0
   try clear hcz16_1
   try clear hcz22_0
   try clear hcz22_1
   try clear hcz22_2
   try clear hcz22_3
   try clear hcz23_0
   try clear hcz23_1
   try clear hcz28_0
   try clear hcz28_1
   try clear hcz35_0
   try clear hcz35_1
   try clear hcz35_2
   try clear hcz35_3
   try clear hcz41_0
   try clear hcz41_1
   try clear hcz41_2
   try clear hcz41_3
   try clear hcz44_0
   try clear hcz44_1
   try clear hcz44_2
   try clear hcz44_3
   try clear hcz49_0
   try clear hcz49_1
   try clear hcz49_2
   try clear hcz49_3
   try clear hcz52_0
   try clear hcz52_1
   try clear hcz52_2
   try clear hcz52_3
   try clear hcz6_0
   try clear hcz6_1
   try clear hfz14_0
   try clear hfz14_1
   try clear hfz16_0
   try clear hfz16_1
   try clear hfz22_0
   try clear hfz22_1
   try clear hfz22_2
   try clear hfz22_3
   try clear hfz23_0
   try clear hfz23_1
   try clear hfz28_0
   try clear hfz28_1
   try clear hfz35_0
   try clear hfz35_1
   try clear hfz35_2
   try clear hfz35_3
   try clear hfz41_0
   try clear hfz41_1
   try clear hfz41_2
   try clear hfz41_3
   try clear hfz44_0
   try clear hfz44_1
   try clear hfz44_2
   try clear hfz44_3
   try clear hfz49_0
   try clear hfz49_1
   try clear hfz49_2
   try clear hfz49_3
   try clear hfz52_0
   try clear hfz52_1
   try clear hfz52_2
   try clear hfz52_3
   try clear hfz6_0
   try clear hfz6_1
   obtain ⟨kq, x39_11, rfl, HA, HJ11, HO_778001, BK761, BK772, BK777, BK783, HB⟩ := hcut
   cases kq with
   | zero => exact absurd HA.out (by simp [laws_FnExactExcludedMinor.j0])
   | succ kj11 =>
    have H := HA.out
    clear HA
    simp only [laws_FnExactExcludedMinor.j0] at H
    by_cases c54 : x39_11 = true
    ·subst c54
     have H1 : (some false) = some r := by rw [if_pos rfl] at H; exact H
     clear H
     have H := H1
     clear H1
     obtain rfl := Option.some.inj H
     exact absurd hT.out (by decide)
    ·replace c54 := Bool.eq_false_iff.mpr c54
     subst c54
     have H1 : ((laws_toMatroid.f kj11 a0_0 l0_1).bind fun bt785 => ((laws_eqMatroid.f kj11 t773 t774 bt785.1 bt785.2).bind fun t789 => (if t789 = true then (some true) else (some false)))) = some r := by rw [if_neg (show ¬ (false = true) by decide)] at H; exact H
     clear H
     have H := H1
     clear H1
     replace H := Option.bind_eq_some_iff.mp H
     obtain ⟨⟨t785, t786⟩, A550, H⟩ := H
     (try dsimp only at H)
     have A55 := Aside0.mk A550
     clear A550
     replace H := Option.bind_eq_some_iff.mp H
     obtain ⟨t789, A560, H⟩ := H
     (try dsimp only at H)
     have A56 := Aside0.mk A560
     clear A560
     by_cases c57 : t789 = true
     ·subst c57
      have H1 : (some true) = some r := by rw [if_pos rfl] at H; exact H
      clear H
      have H := H1
      clear H1
      obtain rfl := Option.some.inj H
      try go_wp2
      have n0_ := Aside0.mk (Kd.R_drew HO_778001.out)
      have n1_ := Aside0.mk (blk_drew BK761.out)
      have n2_ := Aside0.mk (blk_drew BK772.out)
      have n3_ := Aside0.mk (blk_drew BK777.out)
      have n4_ := Aside0.mk (blk_drew BK783.out)
      have n5_ := Aside0.mk (below_drew1 HB.out)
      clear HO_778001
      clear BK761
      clear BK772
      clear BK777
      clear BK783
      clear HB
      have HO_778001 := n0_
      have BK761 := n1_
      have BK772 := n2_
      have BK777 := n3_
      have BK783 := n4_
      have HB := n5_
      clear n0_ n1_ n2_ n3_ n4_ n5_
      refine start_ (n := 5) (S := fun w' => w'.cell? ⟨gb777, 0, none⟩ = some (.int .i64 t773) ∧ w'.cell? ⟨gb777, 1, none⟩ = some (.slice Ao29 t774.length co29) ∧ w'.cell? ⟨gb761, 0, none⟩ = some (.int .i64 a0_0) ∧ w'.cell? ⟨gb761, 1, none⟩ = some (.slice A0_1 l0_1.length c0_1)) (ds := []) #[false, false, false, false, false] (by kernel_rfl) rfl rfl ⟨(blk_cell BK777.out 0).trans rfl, (blk_cell BK777.out 1).trans rfl, (blk_cell BK761.out 0).trans rfl, (blk_cell BK761.out 1).trans rfl⟩ (fun hHeld => ?_)
      generalize wc.drew = w58 at HO_778001 BK761 BK772 BK777 BK783 HB hHeld ⊢
      refine take_ (i := 0) (N := some 40) (v := ?_) (a' := ?_) #[true, false, false, false, false] rfl rfl (by kernel_rfl) (fun _ _ _ h => h) (Or.inl ⟨by rfl, ?_⟩) hHeld ?_ ?_
      rotate_left
      ·rintro w' ⟨s0, s1, s2, s3⟩
       go_simp
       with_reducible rfl
      rotate_left
      ·simp only [Act.put, List.setIfInBounds_toArray, List.set_cons_zero, List.set_cons_succ, i64_w, i32_w]
       rfl
      refine take_ (i := 1) (N := some 41) (v := ?_) (a' := ?_) #[true, true, false, false, false] rfl rfl (by kernel_rfl) (fun _ _ _ h => h) (Or.inl ⟨by rfl, ?_⟩) hHeld ?_ ?_
      rotate_left
      ·rintro w' ⟨s0, s1, s2, s3⟩
       go_simp
       with_reducible rfl
      rotate_left
      ·simp only [Act.put, List.setIfInBounds_toArray, List.set_cons_zero, List.set_cons_succ, i64_w, i32_w]
       rfl
      refine one_ (i := 2) (N := some 42) #[true, true, true, false, false] rfl rfl (by kernel_rfl) (by decide) (fun K hK => ?_)
      refine goes_ Try.func34 (by kernel_rfl) rfl #[.agg #[.int .i64 a0_0, .slice A0_1 l0_1.length c0_1]] (by rfl) rfl rfl (by (try simp only [List.map_toArray, List.map_cons, List.map_nil]); first | done | rfl) ?_
      with_reducible refine (laws_toMatroid.calls kj11 a0_0 _ _ l0_1 t785 t786 _ ?side1 ?side2 A55.out).mono ?_
      (case side1 => exact Hof.Cw (Kd.C_below HR0_1.out HB.out))
      (case side2 => exact HC0_1.out)
      rintro e w59 ⟨v787, rfl, ho0, hb⟩
      refine ⟨_, rfl, ?_⟩
      have n0_ := Aside0.mk (Kd.R_elder' (Hof.Rw HO_778001.out) (Kd.R_base ho0) hb)
      have n1_ := Aside0.mk (Kd.R_lower (Kd.R_new' ho0 (Kd.R_lt (Hof.Rw HO_778001.out))) (below_size (by repeat (first | (with_reducible first | exact HB.out | apply below_alloc | apply pw_below_drewN | apply below_drew1 | refine below_set ?_ GE761.out | refine below_set ?_ GE772.out | refine below_set ?_ GE777.out | refine below_set ?_ GE783.out) | exact HB.out))))
      have n2_ := Aside0.mk (blk_below (Hof.Bw BK761.out) hb)
      have n3_ := Aside0.mk (blk_below (Hof.Bw BK772.out) hb)
      have n4_ := Aside0.mk (blk_below (Hof.Bw BK777.out) hb)
      have n5_ := Aside0.mk (blk_below (Hof.Bw BK783.out) hb)
      have n6_ := Aside0.mk (below_step (by repeat (first | (with_reducible first | exact HB.out | apply below_alloc | apply pw_below_drewN | apply below_drew1 | refine below_set ?_ GE761.out | refine below_set ?_ GE772.out | refine below_set ?_ GE777.out | refine below_set ?_ GE783.out) | exact HB.out)) hb)
      clear HO_778001
      clear BK761
      clear BK772
      clear BK777
      clear BK783
      clear HB
      have HO_778001 := n0_
      have HO788 := n1_
      have BK761 := n2_
      have BK772 := n3_
      have BK777 := n4_
      have BK783 := n5_
      have HB := n6_
      clear n0_ n1_ n2_ n3_ n4_ n5_ n6_
      (try clear hb)
      (try clear hb2)
      (try clear hk)
      (try clear hi)
      (try clear ho0)
      obtain ⟨Ao60, co60, eo60⟩ := Kd.R_slice HO788.out
      (first | subst eo60 | (injection eo60 with f1_ f2_ f3_; have f4_ := f1_.symm; have f5_ := f3_.symm; clear f1_ f2_ f3_; subst f4_; subst f5_))
      refine hK.out _ _ ⟨(blk_cell BK777.out 0).trans rfl, (blk_cell BK777.out 1).trans rfl, (blk_cell BK761.out 0).trans rfl, (blk_cell BK761.out 1).trans rfl⟩ (fun hHeld => ?_)
      clear hK K
      refine norm_ (a' := ?_) ?_ ?_
      rotate_left
      ·show Act.put _ (some 42) _ = _
       simp only [Act.put, List.setIfInBounds_toArray, List.set_cons_zero, List.set_cons_succ, i64_w, i32_w]
       rfl
      refine one_ (i := 3) (N := some 43) #[true, true, true, true, false] rfl rfl (by kernel_rfl) (by decide) (fun K hK => ?_)
      refine goes_ Try.func36 (by kernel_rfl) rfl #[.agg #[.int .i64 t773, .slice Ao29 t774.length co29], .agg #[.int .i64 t785, .slice Ao60 t786.length co60]] (by rfl) rfl rfl (by (try simp only [List.map_toArray, List.map_cons, List.map_nil]); first | done | rfl) ?_
      with_reducible refine (laws_eqMatroid.calls kj11 t773 _ _ t774 t785 _ _ t786 true _ ?side1 ?side2 ?side3 ?side4 A56.out).mono ?_
      (case side1 => exact Hof.Cw ((Kd.R_reads' HO_778001.out).2.2))
      (case side2 => exact (Kd.R_reads' HO_778001.out).2.1)
      (case side3 => exact Hof.Cw ((Kd.R_reads' HO788.out).2.2))
      (case side4 => exact (Kd.R_reads' HO788.out).2.1)
      rintro e w61 ⟨rfl, hb⟩
      refine ⟨_, rfl, ?_⟩
      have n0_ := Aside0.mk (Kd.R_below (Hof.Rw HO_778001.out) hb)
      have n1_ := Aside0.mk (Kd.R_below (Hof.Rw HO788.out) hb)
      have n2_ := Aside0.mk (blk_below (Hof.Bw BK761.out) hb)
      have n3_ := Aside0.mk (blk_below (Hof.Bw BK772.out) hb)
      have n4_ := Aside0.mk (blk_below (Hof.Bw BK777.out) hb)
      have n5_ := Aside0.mk (blk_below (Hof.Bw BK783.out) hb)
      have n6_ := Aside0.mk (below_step (by repeat (first | (with_reducible first | exact HB.out | apply below_alloc | apply pw_below_drewN | apply below_drew1 | refine below_set ?_ GE761.out | refine below_set ?_ GE772.out | refine below_set ?_ GE777.out | refine below_set ?_ GE783.out) | exact HB.out)) hb)
      clear HO_778001
      clear HO788
      clear BK761
      clear BK772
      clear BK777
      clear BK783
      clear HB
      have HO_778001 := n0_
      have HO788 := n1_
      have BK761 := n2_
      have BK772 := n3_
      have BK777 := n4_
      have BK783 := n5_
      have HB := n6_
      clear n0_ n1_ n2_ n3_ n4_ n5_ n6_
      (try clear hb)
      (try clear hb2)
      (try clear hk)
      (try clear hi)
      refine hK.out _ _ ⟨(blk_cell BK777.out 0).trans rfl, (blk_cell BK777.out 1).trans rfl, (blk_cell BK761.out 0).trans rfl, (blk_cell BK761.out 1).trans rfl⟩ (fun hHeld => ?_)
      clear hK K
      refine norm_ (a' := ?_) ?_ ?_
      rotate_left
      ·show Act.put _ (some 43) _ = _
       simp only [Act.put, List.setIfInBounds_toArray, List.set_cons_zero, List.set_cons_succ, i64_w, i32_w]
       rfl
      refine pure_ (i := 4) (N := some 44) (v := ?_) (a' := ?_) #[true, true, true, true, true] rfl rfl (by kernel_rfl) (fun _ _ _ h => h) (Or.inl ⟨by rfl, ?_⟩) ?_ ?_
      rotate_left
      ·intro w'
       go_simp
       with_reducible rfl
      rotate_left
      ·simp only [Act.put, List.setIfInBounds_toArray, List.set_cons_zero, List.set_cons_succ, i64_w, i32_w]
       rfl
      refine done_ (by kernel_rfl) ?_
      try go_wp2
      go_ret
      exact ⟨by first | rfl | (simp [errW_none, errW_some] <;> rfl) | (simp [*, errW_none, errW_some] <;> rfl), by repeat (first | (with_reducible first | exact HB.out | apply below_alloc | apply pw_below_drewN | apply below_drew1 | refine below_set ?_ GE761.out | refine below_set ?_ GE772.out | refine below_set ?_ GE777.out | refine below_set ?_ GE783.out) | exact HB.out)⟩
     ·replace c57 := Bool.eq_false_iff.mpr c57
      subst c57
      have H1 : (some false) = some r := by rw [if_neg (show ¬ (false = true) by decide)] at H; exact H
      clear H
      have H := H1
      clear H1
      obtain rfl := Option.some.inj H
      exact absurd hT.out (by decide)
end Go.Proofs.Ytbjnkcfkhonkhaa.Pr
end
section
namespace Go.Proofs.Ytbjnkcfkhonkhaa.Gen
open Go.RowKit Go.Proofs.YtbjnkcfkhonkhaaW.PrintWords Go.Proofs.YtbjnkcfkhonkhaaW.PrintMore
theorem w64 {i : Int} (h0 : -9223372036854775808 ≤ i) (h1 : i ≤ 9223372036854775807) : wrap64 i = i := by
 unfold wrap64
 omega
theorem w64s (i : Nat) (h1 : i < 9223372036854775807) : wrap64 ((i : Int) + 1) = ((i + 1 : Nat) : Int) := by
 unfold wrap64
 omega
theorem rd_nat (xs : List Int) (i : Nat) : rd xs (i : Int) = xs.getD i 0 := rfl
theorem count_loop {σ γ : Type} (L : Nat → σ → Int → Option γ) (n : Nat) (step : Nat → σ → σ) (P : Nat → σ → Prop) (K : Nat)
  (hstep : ∀ k i s, K ≤ k → i < n → P i s → L (k + 1) s (i : Int) = L k (step i s) ((i + 1 : Nat) : Int) ∧ P (i + 1) (step i s)) :
  ∀ (d i : Nat) (s : σ) (k : Nat), i + d = n → K + d ≤ k → P i s → ∃ s', L k s (i : Int) = L (k - d) s' (n : Int) ∧ P n s' ∧ s' = (List.range' i d).foldl (fun s j => step j s) s := by
 intro d
 induction d with
 | zero =>
  intro i s k hi hk hP
  obtain rfl : i = n := by omega
  exact ⟨s, by simp, hP, by simp⟩
 | succ d ih =>
  intro i s k hi hk hP
  obtain ⟨k, rfl⟩ : ∃ m, k = m + 1 := ⟨k - 1, by omega⟩
  obtain ⟨h1, h2⟩ := hstep k i s (by omega) (by omega) hP
  obtain ⟨s', h3, h4, h5⟩ := ih (i + 1) (step i s) k (by omega) (by omega) h2
  refine ⟨s', ?_, h4, ?_⟩
  ·rw [h1, h3]
   congr 1
   omega
  ·rw [h5, List.range'_succ]
   rfl
theorem fill_loop {β γ : Type} (L : Nat → List β → Int → Option γ) (f : Nat → β) (K n : Nat)
  (hstep : ∀ k i ys, K ≤ k → i < n → ys.length = n → L (k + 1) ys (i : Int) = L k (ys.set i (f i)) ((i + 1 : Nat) : Int))
  (ys : List β) (hy : ys.length = n) (k : Nat) (hk : K + n ≤ k) : L k ys 0 = L (k - n) ((List.range n).map f) (n : Int) := by
 obtain ⟨s', h1, h2, _⟩ := count_loop L n (fun i s => s.set i (f i)) (fun i s => s.length = n ∧ ∀ j, j < i → s[j]? = some (f j)) K
  (fun k i s hK hi hP => ⟨hstep k i s hK hi hP.1, by simpa using hP.1, fun j hj => by
   rw [List.getElem?_set]
   by_cases e : i = j
   ·subst e
    rw [if_pos rfl, if_pos (by omega)]
   ·rw [if_neg e]
    exact hP.2 j (by omega)⟩) n 0 ys k (by omega) hk ⟨hy, fun j hj => by omega⟩
 refine h1.trans ?_
 congr 1
 apply List.ext_getElem?
 intro j
 by_cases hj : j < n
 ·rw [h2.2 j hj]
  simp [hj]
 ·rw [List.getElem?_eq_none (by omega), List.getElem?_eq_none (by simp; omega)]
theorem map_getD {α β : Type} (xs : List α) (d : α) (g : α → β) : (List.range xs.length).map (fun i => g (xs.getD i d)) = xs.map g := by
 apply List.ext_getElem?
 intro j
 by_cases hj : j < xs.length
 ·simp [hj, List.getD]
 ·simp [hj]
theorem map_getD' {α : Type} (xs : List α) (d : α) : (List.range xs.length).map (fun i => xs.getD i d) = xs := by
 have := map_getD xs d id
 simpa using this
theorem all_loop (L : Nat → Int → Option Bool) (n : Nat) (p : Nat → Bool) (K : Nat) (last : Bool)
  (hstep : ∀ k i, K ≤ k → i < n → L (k + 1) (i : Int) = if p i = true then L k ((i + 1 : Nat) : Int) else some false)
  (hend : ∀ k, K ≤ k → L (k + 1) (n : Int) = some last) :
  ∀ (d i k : Nat), i + d = n → K + d < k → L k (i : Int) = some ((List.range' i d).all p && last) := by
 intro d
 induction d with
 | zero =>
  intro i k hi hk
  obtain rfl : i = n := by omega
  obtain ⟨k, rfl⟩ : ∃ m, k = m + 1 := ⟨k - 1, by omega⟩
  simp [hend k (by omega)]
 | succ d ih =>
  intro i k hi hk
  obtain ⟨k, rfl⟩ : ∃ m, k = m + 1 := ⟨k - 1, by omega⟩
  rw [hstep k i (by omega) (by omega), List.range'_succ]
  by_cases h : p i = true
  ·rw [if_pos h, ih (i + 1) k (by omega) (by omega)]
   simp [h]
  ·rw [if_neg h]
   simp [h]
theorem ev_loop {σ γ : Type} (L : Nat → σ → Int → Option γ) (n : Nat) (step : Nat → σ → σ) (P : Nat → σ → Prop) (r : γ)
  (hround : ∀ i s, i < n → P i s → P (i + 1) (step i s) ∧ (Ev (fun k => L k (step i s) ((i + 1 : Nat) : Int)) r → Ev (fun k => L k s (i : Int)) r)) :
  ∀ (d i : Nat) (s : σ), i + d = n → P i s → (P n ((List.range' i d).foldl (fun s j => step j s) s) → Ev (fun k => L k ((List.range' i d).foldl (fun s j => step j s) s) (n : Int)) r) → Ev (fun k => L k s (i : Int)) r := by
 intro d
 induction d with
 | zero =>
  intro i s hi hP h
  obtain rfl : i = n := by omega
  exact h (by simpa using hP)
 | succ d ih =>
  intro i s hi hP h
  obtain ⟨h1, h2⟩ := hround i s (by omega) hP
  refine h2 (ih (i + 1) (step i s) (by omega) h1 ?_)
  rw [List.range'_succ] at h
  exact h
theorem ev_at {γ : Type} {g : Nat → Option γ} {r : γ} (K : Nat) (h : ∀ k, K ≤ k → g k = some r) : Ev g r := ⟨K, h⟩
theorem foldl_append (p : Nat → Bool) (l : List Nat) (acc : List Int) : l.foldl (fun s j => if p j = true then s ++ [(j : Int)] else s) acc = acc ++ (l.filter p).map (fun j : Nat => (j : Int)) := by
 induction l generalizing acc with
 | nil => simp
 | cons a l ih =>
  rw [List.foldl_cons, ih]
  by_cases h : p a = true
  ·simp [h]
  ·simp [h]
theorem all_yes (l : List Nat) : (l.all fun _ => true) = true := List.all_eq_true.2 (fun _ _ => rfl)
end Go.Proofs.Ytbjnkcfkhonkhaa.Gen
end
section
namespace Go.Proofs.Ytbjnkcfkhonkhaa.Base
open Go.RowKit Go.Proofs.Ytbjnkcfkhonkhaa.Pr Go.Proofs.YtbjnkcfkhonkhaaW.PrintWords Go.Proofs.YtbjnkcfkhonkhaaW.PrintLast Go.Proofs.YtbjnkcfkhonkhaaW.PrintMore
theorem toIntS (xs : List Int) (hn : xs.length ≤ 1048576) (k : Nat) (hk : xs.length < k) : laws_toIntS.f k xs = some xs := by
 unfold laws_toIntS.f
 rw [if_pos (by omega), if_pos (by omega)]
 rw [Gen.fill_loop (fun k ys i => laws_toIntS.l0 k xs ys i) (fun i => xs.getD i 0) 0 xs.length (fun k i ys _ hi hy => by
  simp only [laws_toIntS.l0]
  rw [if_pos (by omega), if_pos (by omega), if_pos (by omega), Gen.w64s i (by omega), Gen.rd_nat]
  simp) _ (by simp) k (by omega), Gen.map_getD']
 obtain ⟨m, hm⟩ : ∃ m, k - xs.length = m + 1 := ⟨k - xs.length - 1, by omega⟩
 rw [hm]
 simp only [laws_toIntS.l0]
 rw [if_neg (by omega)]
theorem eqIntS (xs : List Int) (hn : xs.length ≤ 1048576) (k : Nat) (hk : xs.length < k) : laws_eqIntS.f k xs xs = some true := by
 unfold laws_eqIntS.f
 rw [if_pos rfl]
 have := Gen.all_loop (fun k i => laws_eqIntS.l0 k xs xs i) xs.length (fun _ => true) 0 true (fun k i _ hi => by
  simp only [laws_eqIntS.l0]
  rw [if_pos (by omega), if_pos (by omega), if_pos (by omega), if_pos (by trivial), Gen.w64s i (by omega), if_pos (by trivial)]) (fun k _ => by
  simp only [laws_eqIntS.l0]
  rw [if_neg (by omega)]) xs.length 0 k (by omega) (by omega)
 simpa [Gen.all_yes] using this
end Go.Proofs.Ytbjnkcfkhonkhaa.Base
end
section
namespace Go.Proofs.Ytbjnkcfkhonkhaa.Base
open Go.RowKit Go.Proofs.Ytbjnkcfkhonkhaa.Pr Go.Proofs.YtbjnkcfkhonkhaaW.PrintWords Go.Proofs.YtbjnkcfkhonkhaaW.PrintLast Go.Proofs.YtbjnkcfkhonkhaaW.PrintMore
theorem szIntS (xs : List Int) (left : Int) (hm : xs.length ≤ maxLen) (h1 : left ≤ 1048576) (h0 : 0 ≤ left) : ∃ z, laws_szIntS.f xs left = some z ∧ (z < 0 ∨ (xs.length ≤ 1048576 ∧ 0 ≤ z ∧ z ≤ left)) := by
 unfold maxLen at hm
 unfold laws_szIntS.f
 rw [Gen.w64 (by omega) (by omega)]
 by_cases h : left - (xs.length : Int) < 0
 ·exact ⟨-1, by rw [if_pos h], .inl (by omega)⟩
 ·exact ⟨_, by rw [if_neg h], .inr ⟨by omega, by omega, by omega⟩⟩
theorem szMatroid (n : Int) (xs : List Int) (left : Int) (hm : xs.length ≤ maxLen) (h1 : left ≤ 1048576) (h0 : 0 ≤ left) : ∃ z, laws_szMatroid.f n xs left = some z ∧ (z < 0 ∨ (xs.length ≤ 1048576 ∧ 0 ≤ z ∧ z ≤ left)) := by
 obtain ⟨z, hz, h⟩ := szIntS xs left hm h1 h0
 unfold laws_szMatroid.f
 rw [hz]
 simp only [Option.bind_some]
 by_cases hn : z < 0
 ·exact ⟨-1, by rw [if_pos hn], .inl (by omega)⟩
 ·exact ⟨z, by rw [if_neg hn], h⟩
theorem toIntSE (xs : List Int) (hn : xs.length ≤ 1048576) : Ev (fun k => laws_toIntS.f k xs) xs := Gen.ev_at (xs.length + 1) (fun k hk => toIntS xs hn k (by omega))
theorem eqIntSE (xs : List Int) (hn : xs.length ≤ 1048576) : Ev (fun k => laws_eqIntS.f k xs xs) true := Gen.ev_at (xs.length + 1) (fun k hk => eqIntS xs hn k (by omega))
theorem toMatroid (n : Int) (xs : List Int) (hn : xs.length ≤ 1048576) : Ev (fun k => laws_toMatroid.f k n xs) (n, xs) := by
 unfold laws_toMatroid.f
 exact Ev.bind (toIntSE xs hn) (Ev.now _)
theorem eqMatroid (n : Int) (xs : List Int) (hn : xs.length ≤ 1048576) : Ev (fun k => laws_eqMatroid.f k n xs n xs) true := by
 unfold laws_eqMatroid.f
 simp only [if_true]
 exact Ev.bind (eqIntSE xs hn) (Ev.now _)
end Go.Proofs.Ytbjnkcfkhonkhaa.Base
end
section
namespace Go.Proofs.Ytbjnkcfkhonkhaa.Sets
open Go.RowKit Go.Proofs.YtbjnkcfkhonkhaaW.PrintWords Go.Proofs.YtbjnkcfkhonkhaaW.PrintMore
theorem ev_search {γ : Type} (L : Nat → Int → Option γ) (n : Nat) (p : Nat → Bool) (S : γ → Prop)
  (hyes : ∀ i, i < n → p i = true → ∃ r, S r ∧ Ev (fun k => L k (i : Int)) r)
  (hno : ∀ i, i < n → p i = false → ∀ r, Ev (fun k => L k ((i + 1 : Nat) : Int)) r → Ev (fun k => L k (i : Int)) r) :
  ∀ d i : Nat, i + d = n → ((List.range' i d).any p = true → ∃ r, S r ∧ Ev (fun k => L k (i : Int)) r) ∧ ((List.range' i d).any p = false → ∀ r, Ev (fun k => L k (n : Int)) r → Ev (fun k => L k (i : Int)) r) := by
 intro d
 induction d with
 | zero =>
  intro i hi
  obtain rfl : i = n := by omega
  exact ⟨fun h => by simp at h, fun _ r h => h⟩
 | succ d ih =>
  intro i hi
  obtain ⟨h1, h2⟩ := ih (i + 1) (by omega)
  rw [List.range'_succ, List.any_cons]
  cases hp : p i with
  | true => exact ⟨fun _ => hyes i (by omega) hp, fun h => by simp at h⟩
  | false =>
   refine ⟨fun h => ?_, fun h r hr => hno i (by omega) hp r (h2 (by simpa using h) r hr)⟩
   obtain ⟨r, hr, hE⟩ := h1 (by simpa using h)
   exact ⟨r, hr, hno i (by omega) hp r hE⟩
theorem wraps_i64 (n : Int) (h0 : 0 ≤ n) (h1 : n < 2 ^ 62) : IntKind.i64.wrap n = n := by
 rw [IntKind.wrap_i64]
 omega
theorem and_nat (a b : Nat) (ha : a < 2 ^ 62) (hb : b < 2 ^ 62) : Go.bits .and .i64 (a : Int) (b : Int) = ((a &&& b : Nat) : Int) := (bits_nat .i64 62 (by decide) wraps_i64 a b ha hb).1
theorem or_nat (a b : Nat) (ha : a < 2 ^ 62) (hb : b < 2 ^ 62) : Go.bits .or .i64 (a : Int) (b : Int) = ((a ||| b : Nat) : Int) := (bits_nat .i64 62 (by decide) wraps_i64 a b ha hb).2
def diff (a b : Nat) : Nat := a ^^^ (a &&& b)
theorem diff_bit (a b i : Nat) : (diff a b).testBit i = (a.testBit i && !b.testBit i) := by
 unfold diff
 rw [Nat.testBit_xor, Nat.testBit_and]
 cases a.testBit i <;> cases b.testBit i <;> rfl
theorem diff_lt {a b : Nat} {n : Nat} (ha : a < 2 ^ n) : diff a b < 2 ^ n := by
 apply Nat.lt_pow_two_of_testBit
 intro i hi
 rw [diff_bit, Nat.testBit_lt_two_pow (Nat.lt_of_lt_of_le ha (Nat.pow_le_pow_right (by decide) hi))]
 rfl
theorem andNot_nat (a b : Nat) (ha : a < 2 ^ 62) : Go.bits .andNot .i64 (a : Int) (b : Int) = ((diff a b : Nat) : Int) := by
 have h64 : (2 : Nat) ^ 62 ≤ 2 ^ 64 := by decide
 have key : (BitVec.ofNat 64 a &&& ~~~(BitVec.ofNat 64 b)).toNat = diff a b := by
  apply Nat.eq_of_testBit_eq
  intro i
  rw [diff_bit, BitVec.testBit_toNat, BitVec.getLsbD_and, BitVec.getLsbD_not, BitVec.getLsbD_ofNat, BitVec.getLsbD_ofNat]
  by_cases hi : i < 64
  ·simp [hi]
  ·have : a.testBit i = false := Nat.testBit_lt_two_pow (Nat.lt_of_lt_of_le ha (Nat.pow_le_pow_right (by decide) (by omega)))
   simp [hi, this]
 show IntKind.i64.wrap ((BitVec.ofInt 64 (a : Int) &&& ~~~(BitVec.ofInt 64 (b : Int))).toNat : Int) = _
 have e1 : BitVec.ofInt 64 (a : Int) = BitVec.ofNat 64 a := by simp
 have e2 : BitVec.ofInt 64 (b : Int) = BitVec.ofNat 64 b := by simp
 rw [e1, e2, key]
 have := diff_lt (b := b) ha
 exact wraps_i64 _ (by omega) (by exact_mod_cast this)
theorem shl_nat (e : Nat) (he : e < 62) : shl .i64 1 (e : Int) = ((2 ^ e : Nat) : Int) := by
 unfold shl
 have h1 : min ((e : Int)).toNat IntKind.i64.bits = e := by
  show min e 64 = e
  omega
 rw [h1, Int.one_mul]
 have h2 : (2 : Nat) ^ e < 2 ^ 62 := Nat.pow_lt_pow_right (by decide) he
 rw [wraps_i64 _ (by exact_mod_cast Nat.zero_le _) (by exact_mod_cast h2)]
 push_cast
 rfl
theorem shr_bit (a e : Nat) (he : e < 62) (ha : a < 2 ^ 62) : ((Go.bits .and .i64 (shr .i64 (a : Int) (e : Int)) 1) == 1) = a.testBit e := by
 unfold shr
 have h1 : min ((e : Int)).toNat IntKind.i64.bits = e := by
  show min e 64 = e
  omega
 rw [h1]
 have h2 : ((a : Int) / 2 ^ e) = ((a / 2 ^ e : Nat) : Int) := by push_cast; rfl
 have h3 : a / 2 ^ e < 2 ^ 62 := Nat.lt_of_le_of_lt (Nat.div_le_self _ _) ha
 rw [h2, show (1 : Int) = ((1 : Nat) : Int) from rfl, and_nat _ 1 h3 (by decide), Nat.testBit_eq_decide_div_mod_eq, Nat.and_one_is_mod]
 by_cases h : a / 2 ^ e % 2 = 1
 ·simp [h]
 ·have h4 : a / 2 ^ e % 2 = 0 := by omega
  simp [h4]
theorem bit_far {a n e : Nat} (ha : a < 2 ^ n) (he : n ≤ e) : a.testBit e = false := Nat.testBit_lt_two_pow (Nat.lt_of_lt_of_le ha (Nat.pow_le_pow_right (by decide) he))
theorem swap_eq : ∀ a, a < 256 → ∀ e, e < 8 → ∀ f, f < 8 → a.testBit e = true → a.testBit f = false → diff a (2 ^ e) ||| 2 ^ f = a - 2 ^ e + 2 ^ f := by decide +kernel
theorem bit_le : ∀ a, a < 256 → ∀ e, e < 8 → a.testBit e = true → 2 ^ e ≤ a := by decide +kernel
def elems (s : Nat) : List Nat := (List.range' 0 8).filter fun j => s.testBit j
def exch (l : List Nat) (a b e : Nat) : Bool := (List.range' 0 8).any fun f => b.testBit f && !a.testBit f && l.contains (a - 2 ^ e + 2 ^ f)
def fails (l : List Nat) : Bool := l.any fun a => l.any fun b => (List.range' 0 8).any fun e => a.testBit e && !b.testBit e && !exch l a b e
def ints (l : List Nat) : List Int := l.map fun j : Nat => (j : Int)
theorem ints_length (l : List Nat) : (ints l).length = l.length := by simp [ints]
theorem ints_getD (l : List Nat) (i : Nat) : (ints l).getD i 0 = ((l.getD i 0 : Nat) : Int) := by
 by_cases h : i < l.length
 ·simp [ints, List.getD, h]
 ·simp [ints, List.getD, h]
theorem ints_rd (l : List Nat) (i : Nat) : rd (ints l) (i : Int) = ((l.getD i 0 : Nat) : Int) := by rw [Gen.rd_nat, ints_getD]
theorem any_index {α : Type} (l : List α) (d : α) (p : α → Bool) : ((List.range' 0 l.length).any fun i => p (l.getD i d)) = l.any p := by
 rw [Bool.eq_iff_iff]
 simp only [List.any_eq_true]
 constructor
 ·rintro ⟨i, hi, hp⟩
  have hlt : i < l.length := by have := List.mem_range'_1.1 hi; omega
  refine ⟨l[i], List.getElem_mem hlt, ?_⟩
  simpa [List.getD, hlt] using hp
 ·rintro ⟨x, hx, hp⟩
  obtain ⟨i, hi, rfl⟩ := List.getElem_of_mem hx
  exact ⟨i, List.mem_range'_1.2 (by omega), by simpa [List.getD, hi] using hp⟩
theorem any_more (p : Nat → Bool) (m d : Nat) (h : ∀ j, m ≤ j → p j = false) : (List.range' 0 (m + d)).any p = (List.range' 0 m).any p := by
 rw [← List.range'_append_1, List.any_append]
 have : (List.range' (0 + m) d).any p = false := by
  rw [List.any_eq_false]
  intro j hj
  have := List.mem_range'_1.1 hj
  rw [h j (by omega)]
  decide
 rw [this, Bool.or_false]
theorem range8 (m : Nat) (hm : m ≤ 8) (p : Nat → Bool) (h : ∀ j, m ≤ j → p j = false) : (List.range' 0 m).any p = (List.range' 0 8).any p := by
 have := any_more p m (8 - m) h
 rw [show m + (8 - m) = 8 by omega] at this
 exact this.symm
theorem elems_any (s : Nat) (q : Nat → Bool) : (elems s).any q = (List.range' 0 8).any fun j => s.testBit j && q j := by
 unfold elems
 rw [List.any_filter]
theorem elems_lt {s j : Nat} (h : j ∈ elems s) : j < 8 ∧ s.testBit j = true := by
 unfold elems at h
 obtain ⟨h1, h2⟩ := List.mem_filter.1 h
 have := List.mem_range'_1.1 h1
 exact ⟨by omega, h2⟩
theorem elems_length (s : Nat) : (elems s).length ≤ 8 := by
 unfold elems
 exact Nat.le_trans (List.length_filter_le _ _) (by simp)
theorem pow_le_256 {m : Nat} (hm : m ≤ 8) : (2 : Nat) ^ m ≤ 256 := Nat.pow_le_pow_right (n := 2) (by decide) hm
theorem swap_le : ∀ a, a < 256 → ∀ e, e < 8 → ∀ f, f < 8 → a.testBit e = true → a.testBit f = false → a - 2 ^ e + 2 ^ f < 256 := by decide +kernel
theorem getD_mem {α : Type} (l : List α) (d : α) (i : Nat) (h : i < l.length) : l.getD i d ∈ l := by
 have : l.getD i d = l[i] := by simp [List.getD, h]
 rw [this]
 exact List.getElem_mem h
end Go.Proofs.Ytbjnkcfkhonkhaa.Sets
end
section
namespace Go.Proofs.Ytbjnkcfkhonkhaa.Mat
open Go.RowKit Go.Proofs.Ytbjnkcfkhonkhaa.Pr Go.Proofs.Ytbjnkcfkhonkhaa.Sets Go.Proofs.YtbjnkcfkhonkhaaW.PrintWords Go.Proofs.YtbjnkcfkhonkhaaW.PrintLast Go.Proofs.YtbjnkcfkhonkhaaW.PrintMore
set_option linter.unusedVariables false
def isSet (n s : Int) : Bool := decide (0 ≤ n ∧ n ≤ 8 ∧ 0 ≤ s ∧ s < 2 ^ n.toNat)
theorem implIsSet (n s : Int) : impl_IsSet.f n s = some (isSet n s) := by
 unfold impl_IsSet.f impl_isSize.f isSet
 by_cases h0 : n ≥ 0
 ·rw [if_pos h0]
  simp only [Option.bind_some]
  by_cases h1 : n ≤ 8
  ·rw [if_pos (decide_eq_true h1)]
   obtain ⟨m, rfl⟩ : ∃ m : Nat, n = m := ⟨n.toNat, by omega⟩
   by_cases h2 : s ≥ 0
   ·rw [if_pos h2, if_pos h0, shl_nat m (by omega)]
    congr 1
    rw [decide_eq_decide]
    simp only [Int.toNat_natCast]
    push_cast
    omega
   ·rw [if_neg h2, decide_eq_false (by omega)]
  ·rw [if_neg (by rw [decide_eq_true_eq]; exact h1), decide_eq_false (by omega)]
 ·rw [if_neg h0]
  simp only [Option.bind_some]
  rw [if_neg (by decide), decide_eq_false (by omega)]
theorem specIsSet (n s : Int) : spec_IsSet.f n s = some (isSet n s) := by
 unfold spec_IsSet.f spec_l1In.f isSet
 by_cases h0 : n ≥ 0
 ·rw [if_pos h0]
  simp only [Option.bind_some]
  by_cases h1 : n ≤ 8
  ·rw [if_pos (decide_eq_true h1)]
   obtain ⟨m, rfl⟩ : ∃ m : Nat, n = m := ⟨n.toNat, by omega⟩
   have hu : IntKind.u64.wrap (m : Int) = m := by
    have : m = 0 ∨ m = 1 ∨ m = 2 ∨ m = 3 ∨ m = 4 ∨ m = 5 ∨ m = 6 ∨ m = 7 ∨ m = 8 := by omega
    rcases this with rfl | rfl | rfl | rfl | rfl | rfl | rfl | rfl | rfl <;> decide +kernel
   have hp := pow_le_256 (m := m) (by omega)
   have hp1 : 1 ≤ 2 ^ m := Nat.one_le_two_pow
   rw [hu, if_pos h0, shl_nat m (by omega), Gen.w64 (by omega) (by omega)]
   by_cases h2 : s ≥ 0
   ·rw [if_pos h2]
    simp only [Option.bind_some]
    congr 1
    rw [decide_eq_decide]
    simp only [Int.toNat_natCast]
    have : ((2 : Int) ^ m) = ((2 ^ m : Nat) : Int) := by push_cast; rfl
    rw [this]
    omega
   ·rw [if_neg h2]
    simp only [Option.bind_some]
    rw [decide_eq_false (by omega)]
  ·rw [if_neg (by rw [decide_eq_true_eq]; exact h1), decide_eq_false (by omega)]
 ·rw [if_neg h0]
  simp only [Option.bind_some]
  rw [if_neg (by decide), decide_eq_false (by omega)]
def fam (n : Int) (l : List Int) : Bool := ((List.range' 0 l.length).all fun i => isSet n (l.getD i 0) && (decide (i = 0) || decide (l.getD (i - 1) 0 < l.getD i 0))) && decide (0 ≤ n ∧ n ≤ 8)
theorem implFamily (n : Int) (l : List Int) (hn : l.length ≤ 1048576) (k : Nat) (hk : l.length < k) : impl_IsFamily.f k n l = some (fam n l) := by
 unfold impl_IsFamily.f fam
 refine Gen.all_loop (fun k i => impl_IsFamily.l0 k n l l (l.length : Int) i) l.length (fun i => isSet n (l.getD i 0) && (decide (i = 0) || decide (l.getD (i - 1) 0 < l.getD i 0))) 0 (decide (0 ≤ n ∧ n ≤ 8)) (fun k i _ hi => ?_) (fun k _ => ?_) l.length 0 k (by omega) (by omega)
 ·simp only [impl_IsFamily.l0]
  rw [if_pos (by omega), if_pos (by omega), if_pos (by omega), implIsSet, Gen.rd_nat]
  simp only [Option.bind_some]
  cases isSet n (l.getD i 0) with
  | false => rfl
  | true =>
   rw [if_pos rfl, Gen.w64s i (by omega)]
   by_cases h0 : i = 0
   ·subst h0
    rw [if_neg (by decide), if_pos (by rfl)]
   ·rw [if_pos (by omega), Gen.w64 (by omega) (by omega), show (i : Int) - 1 = ((i - 1 : Nat) : Int) by omega, if_pos (by omega), if_pos (by omega), Gen.rd_nat]
    by_cases h1 : l.getD i 0 ≤ l.getD (i - 1) 0
    ·rw [if_pos h1, decide_eq_false h0, decide_eq_false (by omega)]
     rfl
    ·rw [if_neg h1, decide_eq_false h0, decide_eq_true (by omega)]
     rfl
 ·simp only [impl_IsFamily.l0]
  rw [if_neg (by omega)]
  unfold impl_isSize.f
  by_cases h0 : n ≥ 0
  ·rw [if_pos h0]
   simp only [Option.bind_some]
   congr 1
   rw [decide_eq_decide]
   omega
  ·rw [if_neg h0, decide_eq_false (by omega)]
   rfl
theorem specFamily (n : Int) (l : List Int) (hn : l.length ≤ 1048576) (k : Nat) (hk : l.length < k) : spec_IsFamily.f k n l = some (fam n l) := by
 unfold spec_IsFamily.f fam
 refine Gen.all_loop (fun k i => spec_IsFamily.l0 k n l i) l.length (fun i => isSet n (l.getD i 0) && (decide (i = 0) || decide (l.getD (i - 1) 0 < l.getD i 0))) 0 (decide (0 ≤ n ∧ n ≤ 8)) (fun k i _ hi => ?_) (fun k _ => ?_) l.length 0 k (by omega) (by omega)
 ·simp only [spec_IsFamily.l0]
  rw [if_pos (by omega), if_pos (by omega), specIsSet, Gen.rd_nat]
  simp only [Option.bind_some]
  cases isSet n (l.getD i 0) with
  | false => rfl
  | true =>
   rw [if_pos rfl, Gen.w64s i (by omega)]
   by_cases h0 : i = 0
   ·subst h0
    rw [if_neg (by decide), if_pos (by rfl)]
   ·rw [if_pos (by omega), Gen.w64 (by omega) (by omega), show (i : Int) - 1 = ((i - 1 : Nat) : Int) by omega, if_pos (by omega), if_pos (by omega), Gen.rd_nat]
    by_cases h1 : l.getD (i - 1) 0 ≥ l.getD i 0
    ·rw [if_pos h1, decide_eq_false h0, decide_eq_false (by omega)]
     rfl
    ·rw [if_neg h1, decide_eq_false h0, decide_eq_true (by omega)]
     rfl
 ·simp only [spec_IsFamily.l0]
  rw [if_neg (by omega)]
  unfold spec_l1In.f
  by_cases h0 : n ≥ 0
  ·rw [if_pos h0]
   simp only [Option.bind_some]
   congr 1
   rw [decide_eq_decide]
   omega
  ·rw [if_neg h0, decide_eq_false (by omega)]
   rfl
theorem fam_nat {n : Int} {l : List Int} (h : fam n l = true) : ∃ (m : Nat) (lN : List Nat), n = m ∧ m ≤ 8 ∧ l = ints lN ∧ ∀ s ∈ lN, s < 2 ^ m := by
 unfold fam at h
 rw [Bool.and_eq_true, decide_eq_true_eq] at h
 obtain ⟨hl, h0, h8⟩ := h
 have key : ∀ s ∈ l, 0 ≤ s ∧ s < 2 ^ n.toNat := fun s hs => by
  obtain ⟨i, hi, rfl⟩ := List.getElem_of_mem hs
  have := List.all_eq_true.1 hl i (List.mem_range'_1.2 (by omega))
  rw [Bool.and_eq_true] at this
  have h1 := this.1
  unfold isSet at h1
  rw [decide_eq_true_eq] at h1
  have e : l.getD i 0 = l[i] := by simp [List.getD, hi]
  rw [e] at h1
  exact ⟨h1.2.2.1, h1.2.2.2⟩
 refine ⟨n.toNat, l.map Int.toNat, by omega, by omega, ?_, fun s hs => ?_⟩
 ·unfold ints
  rw [List.map_map]
  conv => lhs; rw [← List.map_id l]
  refine List.map_congr_left fun s hs => ?_
  have := (key s hs).1
  show s = ((s.toNat : Nat) : Int)
  omega
 ·obtain ⟨x, hx, rfl⟩ := List.mem_map.1 hs
  obtain ⟨h1, h2⟩ := key x hx
  have e : ((2 : Int) ^ n.toNat) = ((2 ^ n.toNat : Nat) : Int) := by push_cast; rfl
  rw [e] at h2
  omega
theorem index (l : List Nat) (x : Nat) (hn : l.length ≤ 1048576) : ∀ (d i k : Nat), i + d = l.length → d < k → ∃ r, slices_Index_int_int.l0 k (ints l) (x : Int) ((ints l).length : Int) (i : Int) = some r ∧ decide (r ≥ 0) = (l.drop i).contains x := by
 intro d
 induction d with
 | zero =>
  intro i k hi hk
  obtain ⟨k, rfl⟩ : ∃ m, k = m + 1 := ⟨k - 1, by omega⟩
  refine ⟨-1, ?_, ?_⟩
  ·simp only [slices_Index_int_int.l0]
   rw [if_neg (by rw [ints_length]; omega)]
  ·rw [List.drop_of_length_le (by omega)]
   rfl
 | succ d ih =>
  intro i k hi hk
  obtain ⟨k, rfl⟩ : ∃ m, k = m + 1 := ⟨k - 1, by omega⟩
  have hlt : i < l.length := by omega
  simp only [slices_Index_int_int.l0]
  rw [if_pos (by rw [ints_length]; omega), if_pos (by omega), if_pos (by rw [ints_length]; omega), ints_rd, Gen.w64s i (by omega)]
  have hd : l.drop i = l.getD i 0 :: l.drop (i + 1) := by
   rw [List.drop_eq_getElem_cons hlt]
   simp [List.getD, hlt]
  rw [hd]
  by_cases h : x = l.getD i 0
  ·refine ⟨i, by rw [if_pos (by omega)], ?_⟩
   rw [← h, List.contains_cons, beq_self_eq_true, Bool.true_or, decide_eq_true (by omega)]
  ·obtain ⟨r, h1, h2⟩ := ih (i + 1) k (by omega) (by omega)
   refine ⟨r, by rw [if_neg (by omega)]; exact h1, ?_⟩
   rw [h2, List.contains_cons, beq_eq_false_iff_ne.2 h, Bool.false_or]
theorem implHas (l : List Nat) (x : Nat) (hn : l.length ≤ 1048576) (k : Nat) (hk : l.length < k) : impl_HasSet.f k (ints l) (x : Int) = some (l.contains x) := by
 unfold impl_HasSet.f slices_Contains_int_int.f slices_Index_int_int.f
 obtain ⟨r, h1, h2⟩ := index l x hn l.length 0 k (by omega) hk
 rw [show (0 : Int) = ((0 : Nat) : Int) from rfl, h1]
 simp only [Option.bind_some]
 rw [show ((0 : Nat) : Int) = (0 : Int) from rfl, h2, List.drop_zero]
theorem specHas (l : List Nat) (x : Nat) (hn : l.length ≤ 1048576) (k : Nat) (hk : l.length < k) : spec_HasSet.f k (ints l) (x : Int) = some (l.contains x) := by
 unfold spec_HasSet.f
 have key : ∀ (d i k : Nat), i + d = l.length → d < k → spec_HasSet.l0 k (ints l) (x : Int) (i : Int) = some ((l.drop i).contains x) := by
  intro d
  induction d with
  | zero =>
   intro i k hi hk
   obtain ⟨k, rfl⟩ : ∃ m, k = m + 1 := ⟨k - 1, by omega⟩
   simp only [spec_HasSet.l0]
   rw [if_neg (by rw [ints_length]; omega), List.drop_of_length_le (by omega)]
   rfl
  | succ d ih =>
   intro i k hi hk
   obtain ⟨k, rfl⟩ : ∃ m, k = m + 1 := ⟨k - 1, by omega⟩
   have hlt : i < l.length := by omega
   simp only [spec_HasSet.l0]
   rw [if_pos (by rw [ints_length]; omega), if_pos (by omega), ints_rd, Gen.w64s i (by omega)]
   have hd : l.drop i = l.getD i 0 :: l.drop (i + 1) := by
    rw [List.drop_eq_getElem_cons hlt]
    simp [List.getD, hlt]
   rw [hd, List.contains_cons]
   by_cases h : l.getD i 0 = x
   ·rw [if_pos (by omega), ← h, beq_self_eq_true, Bool.true_or]
   ·rw [if_neg (by omega), ih (i + 1) k (by omega) (by omega), beq_eq_false_iff_ne.2 (Ne.symm h), Bool.false_or]
 have := key l.length 0 k (by omega) hk
 rw [List.drop_zero] at this
 exact this
theorem implElem (s : Nat) (j : Nat) (hs : s < 256) (hj : j < 8) : impl_HasElement.f (s : Int) (j : Int) = some (s.testBit j) := by
 unfold impl_HasElement.f impl_isAny.f
 rw [if_pos (by omega)]
 simp only [Option.bind_some]
 rw [if_pos (decide_eq_true (by omega)), if_pos (by omega), if_pos (by omega), if_pos (by omega), shr_bit s j (by omega) (by omega)]
theorem foldl_elems (s : Nat) : ((List.range' 0 8).foldl (fun (acc : List Int) (j : Nat) => if s.testBit j = true then acc ++ [(j : Int)] else acc) []) = ints (elems s) := by
 rw [Gen.foldl_append (fun j => s.testBit j)]
 rfl
theorem implElements (s : Nat) (hs : s < 256) : Ev (fun k => impl_ElementsOf.f k (s : Int)) (ints (elems s)) := by
 unfold impl_ElementsOf.f
 refine Gen.ev_loop (fun k s3 i => impl_ElementsOf.l0 k (s : Int) s3 i) 8 (fun j s3 => if s.testBit j = true then s3 ++ [(j : Int)] else s3) (fun i s3 => s3.length ≤ i) _ (fun i s3 hi hP => ⟨?_, fun h => Ev.step (fun k => ?_) h⟩) 8 0 [] rfl (by simp) (fun _ => Gen.ev_at 1 (fun k hk => ?_))
 ·by_cases hh : s.testBit i = true
  ·rw [if_pos hh]; simp; omega
  ·rw [if_neg hh]; omega
 ·simp only [impl_ElementsOf.l0]
  rw [if_pos (by omega), implElem s i hs hi]
  simp only [Option.bind_some]
  rw [Gen.w64s i (by omega)]
  by_cases hh : s.testBit i = true
  ·rw [if_pos hh, if_pos (by omega), if_pos hh]
  ·rw [if_neg hh, if_neg hh]
 ·obtain ⟨m, rfl⟩ : ∃ m, k = m + 1 := ⟨k - 1, by omega⟩
  simp only [impl_ElementsOf.l0]
  rw [if_neg (by omega), foldl_elems]
end Go.Proofs.Ytbjnkcfkhonkhaa.Mat
end
section
namespace Go.Proofs.Ytbjnkcfkhonkhaa.Mat
open Go.RowKit Go.Proofs.Ytbjnkcfkhonkhaa.Pr Go.Proofs.Ytbjnkcfkhonkhaa.Sets Go.Proofs.YtbjnkcfkhonkhaaW.PrintWords Go.Proofs.YtbjnkcfkhonkhaaW.PrintLast Go.Proofs.YtbjnkcfkhonkhaaW.PrintMore
set_option linter.unusedVariables false
theorem indexFunc (g : Int → Option Bool) (fs : List Nat) (v : Nat → Bool) (hn : fs.length ≤ 1048576) (hg : ∀ f ∈ fs, g (f : Int) = some (v f)) :
  ∀ (d i k : Nat), i + d = fs.length → d < k → ∃ r, slices_IndexFunc_int_int.l0 g k (ints fs) (i : Int) = some r ∧ decide (r ≥ 0) = (fs.drop i).any v := by
 intro d
 induction d with
 | zero =>
  intro i k hi hk
  obtain ⟨k, rfl⟩ : ∃ m, k = m + 1 := ⟨k - 1, by omega⟩
  refine ⟨-1, ?_, ?_⟩
  ·simp only [slices_IndexFunc_int_int.l0]
   rw [if_neg (by rw [ints_length]; omega)]
  ·rw [List.drop_of_length_le (by omega)]
   rfl
 | succ d ih =>
  intro i k hi hk
  obtain ⟨k, rfl⟩ : ∃ m, k = m + 1 := ⟨k - 1, by omega⟩
  have hlt : i < fs.length := by omega
  simp only [slices_IndexFunc_int_int.l0]
  rw [if_pos (by rw [ints_length]; omega), if_pos (by omega), ints_rd, hg _ (getD_mem fs 0 i hlt), Gen.w64s i (by omega)]
  simp only [Option.bind_some]
  have hd : fs.drop i = fs.getD i 0 :: fs.drop (i + 1) := by
   rw [List.drop_eq_getElem_cons hlt]
   simp [List.getD, hlt]
  rw [hd, List.any_cons]
  cases hv : v (fs.getD i 0) with
  | true => exact ⟨i, by rw [if_pos rfl], by rw [decide_eq_true (by omega), Bool.true_or]⟩
  | false =>
   obtain ⟨r, h1, h2⟩ := ih (i + 1) k (by omega) (by omega)
   exact ⟨r, by rw [if_neg (by decide)]; exact h1, by rw [h2, Bool.false_or]⟩
theorem containsFunc (g : Int → Option Bool) (fs : List Nat) (v : Nat → Bool) (hn : fs.length ≤ 1048576) (hg : ∀ f ∈ fs, g (f : Int) = some (v f)) (k : Nat) (hk : fs.length < k) :
  slices_ContainsFunc_int_int.f k (ints fs) g = some (fs.any v) := by
 unfold slices_ContainsFunc_int_int.f slices_IndexFunc_int_int.f
 obtain ⟨r, h1, h2⟩ := indexFunc g fs v hn hg fs.length 0 k (by omega) hk
 rw [show (0 : Int) = ((0 : Nat) : Int) from rfl, h1]
 simp only [Option.bind_some]
 rw [show ((0 : Nat) : Int) = (0 : Int) from rfl, h2, List.drop_zero]
theorem swapImpl (l : List Nat) (a e f : Nat) (hn : l.length ≤ 1048576) (ha : a < 256) (he : e < 8) (hf : f < 8) (hae : a.testBit e = true) (haf : a.testBit f = false) (k : Nat) (hk : l.length < k) :
  impl_FirstFailure_1.f k (ints l) (a : Int) (e : Int) (f : Int) = some (l.contains (a - 2 ^ e + 2 ^ f)) := by
 unfold impl_FirstFailure_1.f
 have h1 : (2 : Nat) ^ e < 2 ^ 62 := Nat.pow_lt_pow_right (by decide) (by omega)
 have h2 : (2 : Nat) ^ f < 2 ^ 62 := Nat.pow_lt_pow_right (by decide) (by omega)
 have h3 : diff a (2 ^ e) < 2 ^ 8 := diff_lt (n := 8) (by omega)
 rw [if_pos (by omega), if_pos (by omega), shl_nat e (by omega), shl_nat f (by omega), andNot_nat a _ (by omega), or_nat _ _ (by omega) h2, swap_eq a ha e he f hf hae haf]
 exact implHas l _ hn k hk
theorem exch_elems (l : List Nat) (a b e : Nat) : exch l a b e = (elems (diff b a)).any fun f => l.contains (a - 2 ^ e + 2 ^ f) := by
 rw [elems_any]
 unfold exch
 congr 1
 funext f
 rw [diff_bit]
theorem fails_elems (l : List Nat) : fails l = l.any fun a => l.any fun b => (elems (diff a b)).any fun e => !exch l a b e := by
 unfold fails
 congr 1
 funext a
 congr 1
 funext b
 rw [elems_any]
 congr 1
 funext e
 rw [diff_bit]
theorem implFirst (m : Nat) (hm : m ≤ 8) (l : List Nat) (hl : ∀ s ∈ l, s < 2 ^ m) (hn : l.length ≤ 1048576) (hf : fam (m : Int) (ints l) = true) :
  ∃ x y z, Ev (fun k => impl_FirstFailure.f k (m : Int) (ints l)) (x, y, z, fails l) := by
 have h256 := pow_le_256 hm
 have hlt : ∀ i, i < l.length → l.getD i 0 < 256 := fun i hi => Nat.lt_of_lt_of_le (hl _ (getD_mem l 0 i hi)) h256
 have inner : ∀ x y : Nat, x < l.length → y < l.length → ∀ d i : Nat, i + d = (elems (diff (l.getD x 0) (l.getD y 0))).length → _ := fun x y hx hy =>
  ev_search (fun k z => impl_FirstFailure.l2 k (m : Int) (ints l) (x : Int) ((l.getD x 0 : Nat) : Int) (y : Int) ((l.getD y 0 : Nat) : Int) (ints (elems (diff (l.getD x 0) (l.getD y 0)))) z) (elems (diff (l.getD x 0) (l.getD y 0))).length
   (fun z => !exch l (l.getD x 0) (l.getD y 0) ((elems (diff (l.getD x 0) (l.getD y 0))).getD z 0)) (fun r => r.2.2.2 = true)
   (by
    intro z hz hp
    have ha := hlt x hx
    have hb := hlt y hy
    obtain ⟨he, hbit⟩ := elems_lt (getD_mem _ 0 z hz)
    rw [diff_bit, Bool.and_eq_true] at hbit
    have hl8 := elems_length (diff (l.getD x 0) (l.getD y 0))
    have hd : diff (l.getD y 0) (l.getD x 0) < 2 ^ 8 := diff_lt (n := 8) (by omega)
    refine ⟨(((l.getD x 0 : Nat) : Int), ((l.getD y 0 : Nat) : Int), (((elems (diff (l.getD x 0) (l.getD y 0))).getD z 0 : Nat) : Int), true), rfl, ?_⟩
    refine Ev.step (f := fun k => (impl_ElementsOf.f k (Go.bits .andNot .i64 ((l.getD y 0 : Nat) : Int) ((l.getD x 0 : Nat) : Int))).bind fun fs => ((slices_ContainsFunc_int_int.f k fs (fun f => impl_FirstFailure_1.f k (ints l) ((l.getD x 0 : Nat) : Int) (((elems (diff (l.getD x 0) (l.getD y 0))).getD z 0 : Nat) : Int) f)).bind fun t => (if t = true then (impl_FirstFailure.l2 k (m : Int) (ints l) (x : Int) ((l.getD x 0 : Nat) : Int) (y : Int) ((l.getD y 0 : Nat) : Int) (ints (elems (diff (l.getD x 0) (l.getD y 0)))) ((z + 1 : Nat) : Int)) else (some (((l.getD x 0 : Nat) : Int), ((l.getD y 0 : Nat) : Int), (((elems (diff (l.getD x 0) (l.getD y 0))).getD z 0 : Nat) : Int), true))))) (fun k => ?_) ?_
    ·simp only [impl_FirstFailure.l2]
     rw [if_pos (by rw [ints_length]; omega), if_pos (by omega), ints_rd, Gen.w64s z (by omega)]
    ·rw [andNot_nat _ _ (by omega)]
     refine Ev.bind (implElements _ (by omega)) ?_
     refine Ev.bind (a := exch l (l.getD x 0) (l.getD y 0) ((elems (diff (l.getD x 0) (l.getD y 0))).getD z 0)) (Gen.ev_at (1048577 + 8) (fun k hk => ?_)) ?_
     ·rw [exch_elems]
      refine containsFunc _ _ _ (by have := elems_length (diff (l.getD y 0) (l.getD x 0)); omega) (fun f hf => ?_) k (by have := elems_length (diff (l.getD y 0) (l.getD x 0)); omega)
      obtain ⟨hf8, hfb⟩ := elems_lt hf
      rw [diff_bit, Bool.and_eq_true] at hfb
      exact swapImpl l _ _ _ hn ha he hf8 hbit.1 (by simpa using hfb.2) k (by omega)
     ·have hp' : exch l (l.getD x 0) (l.getD y 0) ((elems (diff (l.getD x 0) (l.getD y 0))).getD z 0) = false := by simpa using hp
      rw [hp']
      exact Ev.now _)
   (by
    intro z hz hp r hr
    have ha := hlt x hx
    have hb := hlt y hy
    obtain ⟨he, hbit⟩ := elems_lt (getD_mem _ 0 z hz)
    rw [diff_bit, Bool.and_eq_true] at hbit
    have hl8 := elems_length (diff (l.getD x 0) (l.getD y 0))
    have hd : diff (l.getD y 0) (l.getD x 0) < 2 ^ 8 := diff_lt (n := 8) (by omega)
    refine Ev.step (f := fun k => (impl_ElementsOf.f k (Go.bits .andNot .i64 ((l.getD y 0 : Nat) : Int) ((l.getD x 0 : Nat) : Int))).bind fun fs => ((slices_ContainsFunc_int_int.f k fs (fun f => impl_FirstFailure_1.f k (ints l) ((l.getD x 0 : Nat) : Int) (((elems (diff (l.getD x 0) (l.getD y 0))).getD z 0 : Nat) : Int) f)).bind fun t => (if t = true then (impl_FirstFailure.l2 k (m : Int) (ints l) (x : Int) ((l.getD x 0 : Nat) : Int) (y : Int) ((l.getD y 0 : Nat) : Int) (ints (elems (diff (l.getD x 0) (l.getD y 0)))) ((z + 1 : Nat) : Int)) else (some (((l.getD x 0 : Nat) : Int), ((l.getD y 0 : Nat) : Int), (((elems (diff (l.getD x 0) (l.getD y 0))).getD z 0 : Nat) : Int), true))))) (fun k => ?_) ?_
    ·simp only [impl_FirstFailure.l2]
     rw [if_pos (by rw [ints_length]; omega), if_pos (by omega), ints_rd, Gen.w64s z (by omega)]
    ·rw [andNot_nat _ _ (by omega)]
     refine Ev.bind (implElements _ (by omega)) ?_
     refine Ev.bind (a := exch l (l.getD x 0) (l.getD y 0) ((elems (diff (l.getD x 0) (l.getD y 0))).getD z 0)) (Gen.ev_at (1048577 + 8) (fun k hk => ?_)) ?_
     ·rw [exch_elems]
      refine containsFunc _ _ _ (by have := elems_length (diff (l.getD y 0) (l.getD x 0)); omega) (fun f hf => ?_) k (by have := elems_length (diff (l.getD y 0) (l.getD x 0)); omega)
      obtain ⟨hf8, hfb⟩ := elems_lt hf
      rw [diff_bit, Bool.and_eq_true] at hfb
      exact swapImpl l _ _ _ hn ha he hf8 hbit.1 (by simpa using hfb.2) k (by omega)
     ·have hp' : exch l (l.getD x 0) (l.getD y 0) ((elems (diff (l.getD x 0) (l.getD y 0))).getD z 0) = true := by simpa using hp
      rw [hp']
      simp only [if_true]
      exact hr)
 have innerAny : ∀ x y : Nat, ((List.range' 0 (elems (diff (l.getD x 0) (l.getD y 0))).length).any fun z => !exch l (l.getD x 0) (l.getD y 0) ((elems (diff (l.getD x 0) (l.getD y 0))).getD z 0)) = (elems (diff (l.getD x 0) (l.getD y 0))).any fun e => !exch l (l.getD x 0) (l.getD y 0) e := fun x y => any_index (elems (diff (l.getD x 0) (l.getD y 0))) 0 (fun e => !exch l (l.getD x 0) (l.getD y 0) e)
 have middle : ∀ x : Nat, x < l.length → ∀ d i : Nat, i + d = l.length → _ := fun x hx =>
  ev_search (fun k y => impl_FirstFailure.l1 k (m : Int) (ints l) (x : Int) ((l.getD x 0 : Nat) : Int) y) l.length
   (fun y => (elems (diff (l.getD x 0) (l.getD y 0))).any fun e => !exch l (l.getD x 0) (l.getD y 0) e) (fun r => r.2.2.2 = true)
   (by
    intro y hy hp
    have ha := hlt x hx
    obtain ⟨h1, _⟩ := inner x y hx hy (elems (diff (l.getD x 0) (l.getD y 0))).length 0 (by omega)
    rw [innerAny] at h1
    obtain ⟨r, hr, hE⟩ := h1 hp
    refine ⟨r, hr, Ev.step (f := fun k => (impl_ElementsOf.f k (Go.bits .andNot .i64 ((l.getD x 0 : Nat) : Int) ((l.getD y 0 : Nat) : Int))).bind fun es => (impl_FirstFailure.l2 k (m : Int) (ints l) (x : Int) ((l.getD x 0 : Nat) : Int) (y : Int) ((l.getD y 0 : Nat) : Int) es 0)) (fun k => ?_) ?_⟩
    ·simp only [impl_FirstFailure.l1]
     rw [if_pos (by rw [ints_length]; omega), if_pos (by omega), ints_rd]
    ·rw [andNot_nat _ _ (by omega)]
     have hd : diff (l.getD x 0) (l.getD y 0) < 2 ^ 8 := diff_lt (n := 8) (by omega)
     exact Ev.bind (implElements _ (by omega)) hE)
   (by
    intro y hy hp r hr
    have ha := hlt x hx
    obtain ⟨_, h2⟩ := inner x y hx hy (elems (diff (l.getD x 0) (l.getD y 0))).length 0 (by omega)
    rw [innerAny] at h2
    refine Ev.step (f := fun k => (impl_ElementsOf.f k (Go.bits .andNot .i64 ((l.getD x 0 : Nat) : Int) ((l.getD y 0 : Nat) : Int))).bind fun es => (impl_FirstFailure.l2 k (m : Int) (ints l) (x : Int) ((l.getD x 0 : Nat) : Int) (y : Int) ((l.getD y 0 : Nat) : Int) es 0)) (fun k => ?_) ?_
    ·simp only [impl_FirstFailure.l1]
     rw [if_pos (by rw [ints_length]; omega), if_pos (by omega), ints_rd]
    ·rw [andNot_nat _ _ (by omega)]
     have hd : diff (l.getD x 0) (l.getD y 0) < 2 ^ 8 := diff_lt (n := 8) (by omega)
     refine Ev.bind (implElements _ (by omega)) (h2 hp r (Ev.step (fun k => ?_) hr))
     simp only [impl_FirstFailure.l2]
     rw [if_neg (by rw [ints_length]; omega), Gen.w64s y (by omega)])
 have middleAny : ∀ x : Nat, ((List.range' 0 l.length).any fun y => (elems (diff (l.getD x 0) (l.getD y 0))).any fun e => !exch l (l.getD x 0) (l.getD y 0) e) = l.any fun b => (elems (diff (l.getD x 0) b)).any fun e => !exch l (l.getD x 0) b e := fun x => any_index l 0 (fun b => (elems (diff (l.getD x 0) b)).any fun e => !exch l (l.getD x 0) b e)
 obtain ⟨o1, o2⟩ := ev_search (fun k x => impl_FirstFailure.l0 k (m : Int) (ints l) x) l.length
   (fun x => l.any fun b => (elems (diff (l.getD x 0) b)).any fun e => !exch l (l.getD x 0) b e) (fun r => r.2.2.2 = true)
   (by
    intro x hx hp
    obtain ⟨h1, _⟩ := middle x hx l.length 0 (by omega)
    rw [middleAny] at h1
    obtain ⟨r, hr, hE⟩ := h1 hp
    refine ⟨r, hr, Ev.step (fun k => ?_) hE⟩
    simp only [impl_FirstFailure.l0]
    rw [if_pos (by rw [ints_length]; omega), if_pos (by omega), ints_rd]
    rfl)
   (by
    intro x hx hp r hr
    obtain ⟨_, h2⟩ := middle x hx l.length 0 (by omega)
    rw [middleAny] at h2
    have h3 := h2 hp r (Ev.step (fun k => by
     simp only [impl_FirstFailure.l1]
     rw [if_neg (by rw [ints_length]; omega), Gen.w64s x (by omega)]) hr)
    refine Ev.step (fun k => ?_) h3
    simp only [impl_FirstFailure.l0]
    rw [if_pos (by rw [ints_length]; omega), if_pos (by omega), ints_rd]
    rfl) l.length 0 (by omega)
 have outerAny : ((List.range' 0 l.length).any fun x => l.any fun b => (elems (diff (l.getD x 0) b)).any fun e => !exch l (l.getD x 0) b e) = fails l := by
  rw [fails_elems]
  exact any_index l 0 (fun a => l.any fun b => (elems (diff a b)).any fun e => !exch l a b e)
 rw [outerAny] at o1 o2
 have start : ∀ r, Ev (fun k => impl_FirstFailure.l0 k (m : Int) (ints l) 0) r → Ev (fun k => impl_FirstFailure.f k (m : Int) (ints l)) r := fun r hr => by
  unfold impl_FirstFailure.f
  refine Ev.bind (Gen.ev_at (l.length + 1) (fun k hk => implFamily (m : Int) (ints l) (by rw [ints_length]; exact hn) k (by rw [ints_length]; omega))) ?_
  rw [hf]
  simp only [if_true]
  exact hr
 cases hfl : fails l with
 | true =>
  obtain ⟨⟨x, y, z, b⟩, hb, hE⟩ := o1 hfl
  simp only at hb
  subst hb
  exact ⟨x, y, z, start _ hE⟩
 | false =>
  refine ⟨0, 0, 0, start _ (o2 hfl _ (Gen.ev_at 1 (fun k hk => ?_)))⟩
  obtain ⟨q, rfl⟩ : ∃ q, k = q + 1 := ⟨k - 1, by omega⟩
  simp only [impl_FirstFailure.l0]
  rw [if_neg (by rw [ints_length]; omega)]
end Go.Proofs.Ytbjnkcfkhonkhaa.Mat
end
section
namespace Go.Proofs.Ytbjnkcfkhonkhaa.Mat
open Go.RowKit Go.Proofs.Ytbjnkcfkhonkhaa.Pr Go.Proofs.Ytbjnkcfkhonkhaa.Sets Go.Proofs.YtbjnkcfkhonkhaaW.PrintWords Go.Proofs.YtbjnkcfkhonkhaaW.PrintLast Go.Proofs.YtbjnkcfkhonkhaaW.PrintMore
set_option linter.unusedVariables false
theorem u64_small (e : Nat) (he : e < 62) : IntKind.u64.wrap (e : Int) = e := by
 unfold IntKind.wrap
 simp only [IntKind.bits, IntKind.signed, Bool.false_and, Bool.false_eq_true, if_false]
 omega
theorem l2Has (s e : Nat) (hs : s < 256) (he : e < 8) : spec_l2Has.f (s : Int) (e : Int) = some (s.testBit e) := by
 unfold spec_l2Has.f
 rw [u64_small e (by omega), if_pos (by omega), shr_bit s e (by omega) (by omega)]
theorem specExchange (m : Nat) (hm : m ≤ 8) (l : List Nat) (hn : l.length ≤ 1048576) (a b e : Nat) (ha : a < 256) (hb : b < 2 ^ m) (he : e < 8) (hae : a.testBit e = true) : Ev (fun k => spec_l4Exchange.f k (m : Int) (ints l) (a : Int) (b : Int) (e : Int)) (exch l a b e) := by
 have h256 := pow_le_256 hm
 unfold spec_l4Exchange.f
 have hle := bit_le a ha e he hae
 have key : ∀ f : Nat, f < m → a.testBit f = false → wrap64 ((wrap64 ((a : Int) - ((2 ^ e : Nat) : Int))) + ((2 ^ f : Nat) : Int)) = ((a - 2 ^ e + 2 ^ f : Nat) : Int) := fun f hf haf => by
  have h1 := swap_le a ha e he f (by omega) hae haf
  have h2 : 2 ^ f ≤ 256 := pow_le_256 (by omega)
  clear hae
  generalize (2 : Nat) ^ e = P at *
  generalize (2 : Nat) ^ f = Q at *
  rw [Gen.w64 (i := (a : Int) - (P : Int)) (by omega) (by omega), Gen.w64 (by omega) (by omega)]
  omega
 obtain ⟨o1, o2⟩ := ev_search (fun k f => spec_l4Exchange.l0 k (a : Int) (b : Int) (e : Int) f (m : Int) (ints l)) m (fun f => b.testBit f && !a.testBit f && l.contains (a - 2 ^ e + 2 ^ f)) (fun r => r = true)
  (by
   intro f hf hp
   rw [Bool.and_eq_true, Bool.and_eq_true] at hp
   obtain ⟨⟨h1, h2⟩, h3⟩ := hp
   have h2' : a.testBit f = false := by simpa using h2
   refine ⟨true, rfl, Gen.ev_at (l.length + 2) (fun k hk => ?_)⟩
   obtain ⟨q, rfl⟩ : ∃ q, k = q + 1 := ⟨k - 1, by omega⟩
   simp only [spec_l4Exchange.l0]
   rw [if_pos (by omega), l2Has b f (by omega) (by omega), h1]
   simp only [Option.bind_some, if_true]
   rw [l2Has a f ha (by omega), h2']
   simp only [Option.bind_some, Bool.false_eq_true, if_false]
   rw [u64_small e (by omega), u64_small f (by omega), if_pos (by omega), if_pos (by omega), shl_nat e (by omega), shl_nat f (by omega), key f hf h2', specHas l _ hn q (by omega), h3]
   rfl)
  (by
   intro f hf hp r hr
   by_cases h1 : b.testBit f = true
   ·by_cases h2 : a.testBit f = true
    ·refine Ev.step (fun k => ?_) hr
     simp only [spec_l4Exchange.l0]
     rw [if_pos (by omega), l2Has b f (by omega) (by omega), h1]
     simp only [Option.bind_some, if_true]
     rw [l2Has a f ha (by omega), h2]
     simp only [Option.bind_some, if_true]
     rw [Gen.w64s f (by omega)]
    ·have h2' : a.testBit f = false := by simpa using h2
     have h3 : l.contains (a - 2 ^ e + 2 ^ f) = false := by
      rw [h1, h2'] at hp
      simpa using hp
     refine Ev.step (f := fun k => (spec_HasSet.f k (ints l) ((a - 2 ^ e + 2 ^ f : Nat) : Int)).bind fun t => (if t = true then (some true) else (spec_l4Exchange.l0 k (a : Int) (b : Int) (e : Int) ((f + 1 : Nat) : Int) (m : Int) (ints l)))) (fun k => ?_) ?_
     ·simp only [spec_l4Exchange.l0]
      rw [if_pos (by omega), l2Has b f (by omega) (by omega), h1]
      simp only [Option.bind_some, if_true]
      rw [l2Has a f ha (by omega), h2']
      simp only [Option.bind_some, Bool.false_eq_true, if_false]
      rw [u64_small e (by omega), u64_small f (by omega), if_pos (by omega), if_pos (by omega), shl_nat e (by omega), shl_nat f (by omega), key f hf h2', Gen.w64s f (by omega)]
     ·refine Ev.bind (Gen.ev_at (l.length + 1) (fun k hk => specHas l _ hn k (by omega))) ?_
      rw [h3]
      exact hr
   ·have h1' : b.testBit f = false := by simpa using h1
    refine Ev.step (fun k => ?_) hr
    simp only [spec_l4Exchange.l0]
    rw [if_pos (by omega), l2Has b f (by omega) (by omega), h1']
    simp only [Option.bind_some, Bool.false_eq_true, if_false]
    rw [Gen.w64s f (by omega)]) m 0 (by omega)
 have e8 : ((List.range' 0 m).any fun f => b.testBit f && !a.testBit f && l.contains (a - 2 ^ e + 2 ^ f)) = exch l a b e := range8 m hm _ (fun j hj => by rw [bit_far hb hj]; rfl)
 rw [e8] at o1 o2
 cases hx : exch l a b e with
 | true =>
  obtain ⟨r, rfl, hE⟩ := o1 hx
  exact hE
 | false =>
  refine o2 hx _ (Gen.ev_at 1 (fun k hk => ?_))
  obtain ⟨q, rfl⟩ : ∃ q, k = q + 1 := ⟨k - 1, by omega⟩
  simp only [spec_l4Exchange.l0]
  rw [if_neg (by omega)]
theorem specFirst (m : Nat) (hm : m ≤ 8) (l : List Nat) (hl : ∀ s ∈ l, s < 2 ^ m) (hn : l.length ≤ 1048576) (hf : fam (m : Int) (ints l) = true) :
  ∃ x y z, Ev (fun k => spec_FirstFailure.f k (m : Int) (ints l)) (x, y, z, fails l) := by
 have h256 := pow_le_256 hm
 have hlt : ∀ i, i < l.length → l.getD i 0 < 256 := fun i hi => Nat.lt_of_lt_of_le (hl _ (getD_mem l 0 i hi)) h256
 have hltm : ∀ i, i < l.length → l.getD i 0 < 2 ^ m := fun i hi => hl _ (getD_mem l 0 i hi)
 have round : ∀ x y z : Nat, x < l.length → y < l.length → z < m → ∀ r, (((l.getD x 0).testBit z && !(l.getD y 0).testBit z && !exch l (l.getD x 0) (l.getD y 0) z) = true → r.2.2.2 = true → r = (((l.getD x 0 : Nat) : Int), ((l.getD y 0 : Nat) : Int), (z : Int), true) → Ev (fun k => spec_FirstFailure.l2 k (x : Int) (y : Int) (z : Int) (m : Int) (ints l)) r) ∧
   (((l.getD x 0).testBit z && !(l.getD y 0).testBit z && !exch l (l.getD x 0) (l.getD y 0) z) = false → Ev (fun k => spec_FirstFailure.l2 k (x : Int) (y : Int) ((z + 1 : Nat) : Int) (m : Int) (ints l)) r → Ev (fun k => spec_FirstFailure.l2 k (x : Int) (y : Int) (z : Int) (m : Int) (ints l)) r) := by
  intro x y z hx hy hz r
  have ha := hlt x hx
  have hb := hlt y hy
  have unf : ∀ k, spec_FirstFailure.l2 (k + 1) (x : Int) (y : Int) (z : Int) (m : Int) (ints l) = (if (l.getD x 0).testBit z = true then (if (l.getD y 0).testBit z = true then spec_FirstFailure.l2 k (x : Int) (y : Int) ((z + 1 : Nat) : Int) (m : Int) (ints l) else ((spec_l4Exchange.f k (m : Int) (ints l) ((l.getD x 0 : Nat) : Int) ((l.getD y 0 : Nat) : Int) (z : Int)).bind fun t => (if t = true then spec_FirstFailure.l2 k (x : Int) (y : Int) ((z + 1 : Nat) : Int) (m : Int) (ints l) else some (((l.getD x 0 : Nat) : Int), ((l.getD y 0 : Nat) : Int), (z : Int), true)))) else spec_FirstFailure.l2 k (x : Int) (y : Int) ((z + 1 : Nat) : Int) (m : Int) (ints l)) := fun k => by
   simp only [spec_FirstFailure.l2]
   rw [if_pos (by omega), if_pos (by omega), if_pos (by rw [ints_length]; omega), if_pos (by omega), if_pos (by rw [ints_length]; omega), ints_rd, ints_rd, l2Has _ z ha (by omega)]
   simp only [Option.bind_some]
   rw [l2Has _ z hb (by omega)]
   simp only [Option.bind_some]
   rw [Gen.w64s z (by omega)]
  cases h1 : (l.getD x 0).testBit z with
  | false =>
   refine ⟨fun h => by simp at h, fun _ hr => Ev.step (fun k => ?_) hr⟩
   rw [unf, h1, if_neg (by decide)]
  | true =>
   cases h2 : (l.getD y 0).testBit z with
   | true =>
    refine ⟨fun h => by simp at h, fun _ hr => Ev.step (fun k => ?_) hr⟩
    rw [unf, h1, h2, if_pos rfl, if_pos rfl]
   | false =>
    have hE := specExchange m hm l hn (l.getD x 0) (l.getD y 0) z ha (hltm y hy) (by omega) h1
    cases h3 : exch l (l.getD x 0) (l.getD y 0) z with
    | true =>
     rw [h3] at hE
     refine ⟨fun h => by simp at h, fun _ hr => Ev.step (fun k => ?_) (Ev.bind hE (f := fun k t => (if t = true then spec_FirstFailure.l2 k (x : Int) (y : Int) ((z + 1 : Nat) : Int) (m : Int) (ints l) else some (((l.getD x 0 : Nat) : Int), ((l.getD y 0 : Nat) : Int), (z : Int), true))) (by simp only [if_true]; exact hr))⟩
     rw [unf, h1, h2, if_pos rfl, if_neg (by decide)]
    | false =>
     rw [h3] at hE
     refine ⟨fun _ _ e => ?_, fun h => by simp at h⟩
     subst e
     refine Ev.step (fun k => ?_) (Ev.bind hE (f := fun k t => (if t = true then spec_FirstFailure.l2 k (x : Int) (y : Int) ((z + 1 : Nat) : Int) (m : Int) (ints l) else some (((l.getD x 0 : Nat) : Int), ((l.getD y 0 : Nat) : Int), (z : Int), true))) (by simp only [Bool.false_eq_true, if_false]; exact Ev.now _))
     rw [unf, h1, h2, if_pos rfl, if_neg (by decide)]
 have inner : ∀ x y : Nat, x < l.length → y < l.length → ∀ d i : Nat, i + d = m → _ := fun x y hx hy =>
  ev_search (fun k z => spec_FirstFailure.l2 k (x : Int) (y : Int) z (m : Int) (ints l)) m
   (fun z => (l.getD x 0).testBit z && !(l.getD y 0).testBit z && !exch l (l.getD x 0) (l.getD y 0) z) (fun r => r.2.2.2 = true)
   (fun z hz hp => ⟨_, rfl, (round x y z hx hy hz (((l.getD x 0 : Nat) : Int), ((l.getD y 0 : Nat) : Int), (z : Int), true)).1 hp rfl rfl⟩)
   (fun z hz hp r hr => (round x y z hx hy hz r).2 hp hr)
 have innerAny : ∀ x y : Nat, x < l.length → ((List.range' 0 m).any fun z => (l.getD x 0).testBit z && !(l.getD y 0).testBit z && !exch l (l.getD x 0) (l.getD y 0) z) = (List.range' 0 8).any fun e => (l.getD x 0).testBit e && !(l.getD y 0).testBit e && !exch l (l.getD x 0) (l.getD y 0) e := fun x y hx => range8 m hm _ (fun j hj => by rw [bit_far (hltm x hx) hj]; rfl)
 have middle : ∀ x : Nat, x < l.length → ∀ d i : Nat, i + d = l.length → _ := fun x hx =>
  ev_search (fun k y => spec_FirstFailure.l1 k (x : Int) y (m : Int) (ints l)) l.length
   (fun y => (List.range' 0 8).any fun e => (l.getD x 0).testBit e && !(l.getD y 0).testBit e && !exch l (l.getD x 0) (l.getD y 0) e) (fun r => r.2.2.2 = true)
   (by
    intro y hy hp
    obtain ⟨h1, _⟩ := inner x y hx hy m 0 (by omega)
    rw [innerAny x y hx] at h1
    obtain ⟨r, hr, hE⟩ := h1 hp
    refine ⟨r, hr, Ev.step (fun k => ?_) hE⟩
    simp only [spec_FirstFailure.l1]
    rw [if_pos (by rw [ints_length]; omega)]
    rfl)
   (by
    intro y hy hp r hr
    obtain ⟨_, h2⟩ := inner x y hx hy m 0 (by omega)
    rw [innerAny x y hx] at h2
    refine Ev.step (fun k => ?_) (h2 hp r (Ev.step (fun k => by
     simp only [spec_FirstFailure.l2]
     rw [if_neg (by omega), Gen.w64s y (by omega)]) hr))
    simp only [spec_FirstFailure.l1]
    rw [if_pos (by rw [ints_length]; omega)]
    rfl)
 have middleAny : ∀ x : Nat, ((List.range' 0 l.length).any fun y => (List.range' 0 8).any fun e => (l.getD x 0).testBit e && !(l.getD y 0).testBit e && !exch l (l.getD x 0) (l.getD y 0) e) = l.any fun b => (List.range' 0 8).any fun e => (l.getD x 0).testBit e && !b.testBit e && !exch l (l.getD x 0) b e := fun x => any_index l 0 (fun b => (List.range' 0 8).any fun e => (l.getD x 0).testBit e && !b.testBit e && !exch l (l.getD x 0) b e)
 obtain ⟨o1, o2⟩ := ev_search (fun k x => spec_FirstFailure.l0 k x (m : Int) (ints l)) l.length
   (fun x => l.any fun b => (List.range' 0 8).any fun e => (l.getD x 0).testBit e && !b.testBit e && !exch l (l.getD x 0) b e) (fun r => r.2.2.2 = true)
   (by
    intro x hx hp
    obtain ⟨h1, _⟩ := middle x hx l.length 0 (by omega)
    rw [middleAny] at h1
    obtain ⟨r, hr, hE⟩ := h1 hp
    refine ⟨r, hr, Ev.step (fun k => ?_) hE⟩
    simp only [spec_FirstFailure.l0]
    rw [if_pos (by rw [ints_length]; omega)]
    rfl)
   (by
    intro x hx hp r hr
    obtain ⟨_, h2⟩ := middle x hx l.length 0 (by omega)
    rw [middleAny] at h2
    refine Ev.step (fun k => ?_) (h2 hp r (Ev.step (fun k => by
     simp only [spec_FirstFailure.l1]
     rw [if_neg (by rw [ints_length]; omega), Gen.w64s x (by omega)]) hr))
    simp only [spec_FirstFailure.l0]
    rw [if_pos (by rw [ints_length]; omega)]
    rfl) l.length 0 (by omega)
 have outerAny : ((List.range' 0 l.length).any fun x => l.any fun b => (List.range' 0 8).any fun e => (l.getD x 0).testBit e && !b.testBit e && !exch l (l.getD x 0) b e) = fails l := by
  unfold fails
  exact any_index l 0 (fun a => l.any fun b => (List.range' 0 8).any fun e => a.testBit e && !b.testBit e && !exch l a b e)
 rw [outerAny] at o1 o2
 have start : ∀ r, Ev (fun k => spec_FirstFailure.l0 k 0 (m : Int) (ints l)) r → Ev (fun k => spec_FirstFailure.f k (m : Int) (ints l)) r := fun r hr => by
  unfold spec_FirstFailure.f
  refine Ev.bind (Gen.ev_at (l.length + 1) (fun k hk => specFamily (m : Int) (ints l) (by rw [ints_length]; exact hn) k (by rw [ints_length]; omega))) ?_
  rw [hf]
  simp only [if_true]
  exact hr
 cases hfl : fails l with
 | true =>
  obtain ⟨⟨x, y, z, b⟩, hb, hE⟩ := o1 hfl
  simp only at hb
  subst hb
  exact ⟨x, y, z, start _ hE⟩
 | false =>
  refine ⟨0, 0, 0, start _ (o2 hfl _ (Gen.ev_at 1 (fun k hk => ?_)))⟩
  obtain ⟨q, rfl⟩ : ∃ q, k = q + 1 := ⟨k - 1, by omega⟩
  simp only [spec_FirstFailure.l0]
  rw [if_neg (by rw [ints_length]; omega)]
def isMat (n : Int) (l : List Int) : Bool := fam n l && decide (0 < l.length) && !fails (l.map Int.toNat)
theorem toNat_ints (l : List Nat) : (ints l).map Int.toNat = l := by
 unfold ints
 rw [List.map_map]
 conv => rhs; rw [← List.map_id l]
 exact List.map_congr_left fun x _ => by simp
theorem implMat (n : Int) (l : List Int) (hn : l.length ≤ 1048576) : Ev (fun k => impl_IsMatroid.f k n l) (isMat n l) := by
 unfold impl_IsMatroid.f isMat
 have hF : Ev (fun k => impl_IsFamily.f k n l) (fam n l) := Gen.ev_at (l.length + 1) (fun k hk => implFamily n l hn k (by omega))
 cases hf : fam n l with
 | false =>
  rw [hf] at hF
  refine Ev.bind (a := (0, 0, 0, false)) ?_ (Ev.bind hF (by simp only [Bool.false_eq_true, if_false]; exact Ev.now _))
  unfold impl_FirstFailure.f
  exact Ev.bind hF (by simp only [Bool.false_eq_true, if_false]; exact Ev.now _)
 | true =>
  rw [hf] at hF
  obtain ⟨m, lN, rfl, hm, rfl, hl⟩ := fam_nat hf
  rw [toNat_ints]
  rw [ints_length] at hn
  obtain ⟨x, y, z, hE⟩ := implFirst m hm lN hl hn hf
  refine Ev.bind hE (Ev.bind hF ?_)
  simp only [if_true, ints_length]
  by_cases h0 : 0 < lN.length
  ·simp only [if_pos (show (lN.length : Int) > 0 by omega), decide_eq_true h0, Bool.true_and]
   exact Ev.now _
  ·simp only [if_neg (show ¬ (lN.length : Int) > 0 by omega), decide_eq_false h0, Bool.true_and, Bool.false_and]
   exact Ev.now _
theorem specMat (n : Int) (l : List Int) (hn : l.length ≤ 1048576) : Ev (fun k => spec_IsMatroid.f k n l) (isMat n l) := by
 unfold spec_IsMatroid.f isMat
 have hF : Ev (fun k => spec_IsFamily.f k n l) (fam n l) := Gen.ev_at (l.length + 1) (fun k hk => specFamily n l hn k (by omega))
 cases hf : fam n l with
 | false =>
  rw [hf] at hF
  refine Ev.bind (a := (0, 0, 0, false)) ?_ (Ev.bind hF (by simp only [Bool.false_eq_true, if_false]; exact Ev.now _))
  unfold spec_FirstFailure.f
  exact Ev.bind hF (by simp only [Bool.false_eq_true, if_false]; exact Ev.now _)
 | true =>
  rw [hf] at hF
  obtain ⟨m, lN, rfl, hm, rfl, hl⟩ := fam_nat hf
  rw [toNat_ints]
  rw [ints_length] at hn
  obtain ⟨x, y, z, hE⟩ := specFirst m hm lN hl hn hf
  refine Ev.bind hE (Ev.bind hF ?_)
  simp only [if_true, ints_length]
  by_cases h0 : 0 < lN.length
  ·simp only [if_pos (show (lN.length : Int) > 0 by omega), decide_eq_true h0, Bool.true_and]
   exact Ev.now _
  ·simp only [if_neg (show ¬ (lN.length : Int) > 0 by omega), decide_eq_false h0, Bool.true_and, Bool.false_and]
   exact Ev.now _
end Go.Proofs.Ytbjnkcfkhonkhaa.Mat
end
section
namespace Go.Proofs.Ytbjnkcfkhonkhaa.Rank
open Go.RowKit Go.Proofs.Ytbjnkcfkhonkhaa.Pr Go.Proofs.Ytbjnkcfkhonkhaa.Sets Go.Proofs.Ytbjnkcfkhonkhaa.Mat Go.Proofs.YtbjnkcfkhonkhaaW.PrintWords Go.Proofs.YtbjnkcfkhonkhaaW.PrintLast Go.Proofs.YtbjnkcfkhonkhaaW.PrintMore
set_option linter.unusedVariables false
def cnt (s : Nat) : Nat := (elems s).length
theorem cnt_le (s : Nat) : cnt s ≤ 8 := elems_length s
set_option maxRecDepth 100000 in
theorem implCountB : ∀ s : Nat, s < 256 → impl_CountOf.f (s : Int) = some (cnt s : Int) := by decide +kernel
theorem implCount (s : Nat) (h : s < 256) : impl_CountOf.f (s : Int) = some (cnt s : Int) := implCountB s h
set_option maxRecDepth 100000 in
theorem specCountB : ∀ s : Nat, s < 256 → spec_CountOf.f 10 (s : Int) = some (cnt s : Int) := by decide +kernel
theorem specCount (s : Nat) (h : s < 256) (k : Nat) (hk : 10 ≤ k) : spec_CountOf.f k (s : Int) = some (cnt s : Int) := by
 induction k with
 | zero => omega
 | succ k ih =>
  by_cases e : 10 ≤ k
  ·exact spec_CountOf.mono _ _ _ (ih e)
  ·obtain rfl : k = 9 := by omega
   exact specCountB s h
theorem specCountE (s : Nat) (h : s < 256) : Ev (fun k => spec_CountOf.f k (s : Int)) (cnt s : Int) := Gen.ev_at 10 (fun k hk => specCount s h k hk)
def rank (l : List Nat) (s : Nat) : Nat := l.foldl (fun m b => max m (cnt (s &&& b))) 0
theorem foldl_index {σ : Type} (l : List Nat) (f : σ → Nat → σ) (s : σ) : (List.range' 0 l.length).foldl (fun s i => f s (l.getD i 0)) s = l.foldl f s := by
 have e : l = (List.range' 0 l.length).map fun i => l.getD i 0 := by
  rw [← List.range_eq_range', Gen.map_getD']
 conv => rhs; rw [e]
 rw [List.foldl_map]
theorem and_lt {a b n : Nat} (ha : a < 2 ^ n) : a &&& b < 2 ^ n := Nat.lt_of_le_of_lt Nat.and_le_left ha
theorem implRank (m : Nat) (l : List Nat) (s : Nat) (hs : s < 256) (hl : ∀ b ∈ l, b < 256) (hn : l.length ≤ 1048576) : Ev (fun k => impl_rankIn.f k (m : Int) (ints l) (s : Int)) (rank l s : Int) := by
 unfold impl_rankIn.f
 have e : rank l s = (List.range' 0 l.length).foldl (fun o i => max o (cnt (s &&& l.getD i 0))) 0 := (foldl_index l (fun o b => max o (cnt (s &&& b))) 0).symm
 rw [e]
 have key := Gen.ev_loop (fun k (o : Nat) i => impl_rankIn.l0 k (s : Int) (o : Int) (ints l) ((ints l).length : Int) i) l.length (fun i o => max o (cnt (s &&& l.getD i 0))) (fun _ _ => True) (((List.range' 0 l.length).foldl (fun o i => max o (cnt (s &&& l.getD i 0))) 0 : Nat) : Int) (fun i o hi _ => ⟨trivial, fun h => Ev.step (fun k => ?_) h⟩) l.length 0 0 (by omega) trivial (fun _ => Gen.ev_at 1 (fun k hk => ?_))
 ·exact key
 ·simp only [impl_rankIn.l0]
  have hb := hl _ (getD_mem l 0 i hi)
  rw [if_pos (by rw [ints_length]; omega), if_pos (by omega), if_pos (by rw [ints_length]; omega), ints_rd, and_nat s _ (by omega) (by omega), implCount _ (and_lt (n := 8) hs)]
  simp only [Option.bind_some]
  rw [Gen.w64s i (by omega)]
  congr 1
  unfold mx
  split <;> omega
 ·obtain ⟨q, rfl⟩ : ∃ q, k = q + 1 := ⟨k - 1, by omega⟩
  simp only [impl_rankIn.l0]
  rw [if_neg (by rw [ints_length]; omega)]
theorem specRank (m : Nat) (l : List Nat) (s : Nat) (hs : s < 256) (hl : ∀ b ∈ l, b < 256) (hn : l.length ≤ 1048576) : Ev (fun k => spec_l5Rank.f k (m : Int) (ints l) (s : Int)) (rank l s : Int) := by
 unfold spec_l5Rank.f
 have e : rank l s = (List.range' 0 l.length).foldl (fun o i => max o (cnt (s &&& l.getD i 0))) 0 := (foldl_index l (fun o b => max o (cnt (s &&& b))) 0).symm
 rw [e]
 have key := Gen.ev_loop (fun k (o : Nat) i => spec_l5Rank.l0 k (s : Int) (o : Int) i (m : Int) (ints l)) l.length (fun i o => max o (cnt (s &&& l.getD i 0))) (fun _ _ => True) (((List.range' 0 l.length).foldl (fun o i => max o (cnt (s &&& l.getD i 0))) 0 : Nat) : Int) (fun i o hi _ => ⟨trivial, fun h => ?_⟩) l.length 0 0 (by omega) trivial (fun _ => Gen.ev_at 1 (fun k hk => ?_))
 ·exact key
 ·have hb := hl _ (getD_mem l 0 i hi)
  refine Ev.step (f := fun k => (spec_CountOf.f k (Go.bits .and .i64 (rd (ints l) (i : Int)) (s : Int))).bind fun t278 => ((spec_l1Max.f (o : Int) t278).bind fun t279 => (spec_l5Rank.l0 k (s : Int) t279 (wrap64 ((i : Int) + 1)) (m : Int) (ints l)))) (fun k => ?_) ?_
  ·simp only [spec_l5Rank.l0]
   rw [if_pos (by rw [ints_length]; omega), if_pos (by omega)]
  ·rw [ints_rd, and_nat _ s (by omega) (by omega), Nat.and_comm, Gen.w64s i (by omega)]
   refine Ev.bind (specCountE _ (and_lt (n := 8) hs)) ?_
   have hx : spec_l1Max.f (o : Int) (cnt (s &&& l.getD i 0) : Int) = some ((max o (cnt (s &&& l.getD i 0)) : Nat) : Int) := by
    unfold spec_l1Max.f
    split <;> · congr 1; omega
   rw [hx]
   exact h
 ·obtain ⟨q, rfl⟩ : ∃ q, k = q + 1 := ⟨k - 1, by omega⟩
  simp only [spec_l5Rank.l0]
  rw [if_neg (by rw [ints_length]; omega)]
theorem foldl_or (p : Nat → Bool) (q : List Nat) (o : Nat) (j : Nat) : (q.foldl (fun o e => if p e = true then o ||| 2 ^ e else o) o).testBit j = (o.testBit j || q.any fun e => p e && decide (e = j)) := by
 induction q generalizing o with
 | nil => simp
 | cons a q ih =>
  rw [List.foldl_cons, ih, List.any_cons]
  cases h : p a with
  | false => simp
  | true =>
   simp only [if_true, Nat.testBit_or, Nat.testBit_two_pow, Bool.true_and]
   rw [Bool.or_assoc]
theorem or_lt {a b n : Nat} (ha : a < 2 ^ n) (hb : b < 2 ^ n) : a ||| b < 2 ^ n := Nat.or_lt_two_pow ha hb
theorem pow_lt {e m : Nat} (h : e < m) : 2 ^ e < 2 ^ m := Nat.pow_lt_pow_right (by decide) h
end Go.Proofs.Ytbjnkcfkhonkhaa.Rank
end
section
namespace Go.Proofs.Ytbjnkcfkhonkhaa.Size
open Go.RowKit Go.Proofs.Ytbjnkcfkhonkhaa.Sets Go.Proofs.Ytbjnkcfkhonkhaa.Rank
set_option linter.unusedVariables false
theorem cnt_count (s : Nat) : cnt s = (List.range' 0 8).countP fun j => s.testBit j := by
 unfold cnt elems
 rw [List.countP_eq_length_filter]
theorem cnt_mono {a b : Nat} (h : ∀ j, j < 8 → a.testBit j = true → b.testBit j = true) : cnt a ≤ cnt b := by
 rw [cnt_count, cnt_count]
 refine List.countP_mono_left fun j hj => h j ?_
 have := List.mem_range'_1.1 hj
 omega
theorem cnt_swap : ∀ a, a < 256 → ∀ e, e < 8 → ∀ f, f < 8 → a.testBit e = true → a.testBit f = false → cnt (diff a (2 ^ e) ||| 2 ^ f) = cnt a := by decide +kernel
theorem cnt_less : ∀ a, a < 256 → ∀ e, e < 8 → a.testBit e = true → cnt (diff a (2 ^ e)) < cnt a := by decide +kernel
theorem cnt_some : ∀ a, a < 256 → 0 < cnt a → ∃ e, e < 8 ∧ a.testBit e = true := by decide +kernel
theorem cnt_zero_bit : ∀ a, a < 256 → cnt a = 0 → a = 0 := by decide +kernel
theorem exch_some {l : List Nat} {a b e : Nat} (hf : fails l = false) (ha : a ∈ l) (hb : b ∈ l) (he : e < 8) (h1 : a.testBit e = true) (h2 : b.testBit e = false) : ∃ f, f < 8 ∧ b.testBit f = true ∧ a.testBit f = false ∧ (a - 2 ^ e + 2 ^ f) ∈ l := by
 have hx : exch l a b e = true := by
  cases h : exch l a b e with
  | true => rfl
  | false =>
   have : fails l = true := by
    unfold fails
    rw [List.any_eq_true]
    refine ⟨a, ha, List.any_eq_true.2 ⟨b, hb, List.any_eq_true.2 ⟨e, List.mem_range'_1.2 (by omega), ?_⟩⟩⟩
    rw [h1, h2, h]
    rfl
   rw [hf] at this
   exact Bool.noConfusion this
 unfold exch at hx
 obtain ⟨f, hf1, hf2⟩ := List.any_eq_true.1 hx
 have := List.mem_range'_1.1 hf1
 rw [Bool.and_eq_true, Bool.and_eq_true] at hf2
 exact ⟨f, by omega, hf2.1.1, by simpa using hf2.1.2, by simpa using hf2.2⟩
theorem bases_le (l : List Nat) (hl : ∀ s ∈ l, s < 256) (hf : fails l = false) : ∀ n a b : Nat, a ∈ l → b ∈ l → cnt (diff a b) ≤ n → cnt a ≤ cnt b := by
 intro n
 induction n with
 | zero =>
  intro a b ha hb h
  have h256 := hl a ha
  have hz : diff a b = 0 := cnt_zero_bit _ (diff_lt (n := 8) h256) (by omega)
  refine cnt_mono fun j hj hbit => ?_
  have := diff_bit a b j
  rw [hz, Nat.zero_testBit, hbit] at this
  simpa using this.symm
 | succ n ih =>
  intro a b ha hb h
  have h256 := hl a ha
  by_cases hle : cnt (diff a b) ≤ n
  ·exact ih a b ha hb hle
  ·obtain ⟨e, he, hbit⟩ := cnt_some _ (diff_lt (n := 8) h256) (show 0 < cnt (diff a b) by omega)
   have hbit' := hbit
   rw [diff_bit, Bool.and_eq_true] at hbit'
   obtain ⟨h1, h2⟩ := hbit'
   have h2' : b.testBit e = false := by simpa using h2
   obtain ⟨f, hf8, hbf, haf, hmem⟩ := exch_some hf ha hb he h1 h2'
   rw [← swap_eq a h256 e he f hf8 h1 haf] at hmem
   have hd : diff (diff a (2 ^ e) ||| 2 ^ f) b = diff (diff a b) (2 ^ e) := by
    apply Nat.eq_of_testBit_eq
    intro j
    rw [diff_bit, Nat.testBit_or, diff_bit, diff_bit, diff_bit, Nat.testBit_two_pow, Nat.testBit_two_pow]
    by_cases ej : f = j
    ·subst ej
     rw [hbf, haf]
     simp
    ·rw [decide_eq_false ej, Bool.or_false]
     cases a.testBit j <;> cases b.testBit j <;> cases decide (e = j) <;> rfl
   have hlt := cnt_less _ (diff_lt (n := 8) h256) e he hbit
   rw [← hd] at hlt
   have := ih _ b hmem hb (by omega)
   rw [cnt_swap a h256 e he f hf8 h1 haf] at this
   exact this
theorem bases_same {l : List Nat} (hl : ∀ s ∈ l, s < 256) (hf : fails l = false) {a b : Nat} (ha : a ∈ l) (hb : b ∈ l) : cnt a = cnt b :=
 Nat.le_antisymm (bases_le l hl hf _ a b ha hb (Nat.le_refl _)) (bases_le l hl hf _ b a hb ha (Nat.le_refl _))
theorem rank_le_of (l : List Nat) (s r : Nat) (h : ∀ b ∈ l, cnt (s &&& b) ≤ r) : rank l s ≤ r := by
 have : ∀ (l : List Nat) (o : Nat), o ≤ r → (∀ b ∈ l, cnt (s &&& b) ≤ r) → l.foldl (fun m b => max m (cnt (s &&& b))) o ≤ r := by
  intro l
  induction l with
  | nil => exact fun o ho _ => ho
  | cons a l ih =>
   intro o ho h
   rw [List.foldl_cons]
   have := h a (by simp)
   exact ih _ (by omega) fun b hb => h b (by simp [hb])
 exact this l 0 (by omega) h
theorem rank_ge (l : List Nat) (s b : Nat) (hb : b ∈ l) : cnt (s &&& b) ≤ rank l s := by
 have mono : ∀ (l : List Nat) (o : Nat), o ≤ l.foldl (fun m b => max m (cnt (s &&& b))) o := by
  intro l
  induction l with
  | nil => exact fun o => Nat.le_refl _
  | cons a l ih =>
   intro o
   rw [List.foldl_cons]
   exact Nat.le_trans (by omega) (ih _)
 have : ∀ (l : List Nat) (o : Nat), b ∈ l → cnt (s &&& b) ≤ l.foldl (fun m b => max m (cnt (s &&& b))) o := by
  intro l
  induction l with
  | nil => exact fun o h => by simp at h
  | cons a l ih =>
   intro o h
   rw [List.foldl_cons]
   rcases List.mem_cons.1 h with rfl | h
   ·exact Nat.le_trans (by omega) (mono l _)
   ·exact ih _ h
 exact this l 0 hb
def top (l : List Nat) : Nat := cnt (l.getD 0 0)
end Go.Proofs.Ytbjnkcfkhonkhaa.Size
end
section
namespace Go.Proofs.Ytbjnkcfkhonkhaa.Indep
open Go.RowKit Go.Proofs.Ytbjnkcfkhonkhaa.Sets Go.Proofs.Ytbjnkcfkhonkhaa.Rank Go.Proofs.Ytbjnkcfkhonkhaa.Size
set_option linter.unusedVariables false
def indep (l : List Nat) (s : Nat) : Bool := l.any fun b => decide (s &&& b = s)
theorem indep_zero {l : List Nat} (hn : 0 < l.length) : indep l 0 = true := by
 unfold indep
 rw [List.any_eq_true]
 exact ⟨_, getD_mem l 0 0 hn, by simp⟩
end Go.Proofs.Ytbjnkcfkhonkhaa.Indep
end
section
namespace Go.Proofs.Ytbjnkcfkhonkhaa.Aug
open Go.RowKit Go.Proofs.Ytbjnkcfkhonkhaa.Sets Go.Proofs.Ytbjnkcfkhonkhaa.Rank Go.Proofs.Ytbjnkcfkhonkhaa.Size Go.Proofs.Ytbjnkcfkhonkhaa.Indep
set_option linter.unusedVariables false
def Sub (a b : Nat) : Prop := ∀ j, a.testBit j = true → b.testBit j = true
theorem sub_and {a b : Nat} : a &&& b = a ↔ Sub a b := by
 constructor
 ·intro h j hj
  rw [← h, Nat.testBit_and, Bool.and_eq_true] at hj
  exact hj.2
 ·intro h
  apply Nat.eq_of_testBit_eq
  intro j
  rw [Nat.testBit_and]
  cases ha : a.testBit j with
  | false => rfl
  | true => rw [h j ha]; rfl
theorem Sub.refl (a : Nat) : Sub a a := fun _ h => h
theorem Sub.trans {a b c : Nat} (h : Sub a b) (k : Sub b c) : Sub a c := fun j hj => k j (h j hj)
theorem sub_antisymm {a b : Nat} (h : Sub a b) (k : Sub b a) : a = b := by
 apply Nat.eq_of_testBit_eq
 intro j
 cases ha : a.testBit j with
 | true => exact (h j ha).symm
 | false =>
  cases hb : b.testBit j with
  | false => rfl
  | true => rw [k j hb] at ha; exact Bool.noConfusion ha
theorem sub_lt {a b n : Nat} (h : Sub a b) (hb : b < 2 ^ n) : a < 2 ^ n := by
 apply Nat.lt_pow_two_of_testBit
 intro j hj
 cases ha : a.testBit j with
 | false => rfl
 | true =>
  have := h j ha
  rw [bit_far hb hj] at this
  exact Bool.noConfusion this
theorem sub_or_left (a b : Nat) : Sub a (a ||| b) := fun j h => by rw [Nat.testBit_or, h]; rfl
theorem sub_or_right (a b : Nat) : Sub b (a ||| b) := fun j h => by rw [Nat.testBit_or, h, Bool.or_true]
theorem sub_and_left (a b : Nat) : Sub (a &&& b) a := fun j h => by rw [Nat.testBit_and, Bool.and_eq_true] at h; exact h.1
theorem sub_and_right (a b : Nat) : Sub (a &&& b) b := fun j h => by rw [Nat.testBit_and, Bool.and_eq_true] at h; exact h.2
theorem sub_diff (a b : Nat) : Sub (diff a b) a := fun j h => by rw [diff_bit, Bool.and_eq_true] at h; exact h.1
theorem sub_or {a b c : Nat} (h : Sub a c) (k : Sub b c) : Sub (a ||| b) c := fun j hj => by
 rw [Nat.testBit_or, Bool.or_eq_true] at hj
 exact hj.elim (h j) (k j)
theorem sub_and_of {a b c : Nat} (h : Sub c a) (k : Sub c b) : Sub c (a &&& b) := fun j hj => by
 rw [Nat.testBit_and, h j hj, k j hj]; rfl
theorem or_mono {a b c d : Nat} (h : Sub a c) (k : Sub b d) : Sub (a ||| b) (c ||| d) := sub_or (h.trans (sub_or_left _ _)) (k.trans (sub_or_right _ _))
theorem and_mono {a b c d : Nat} (h : Sub a c) (k : Sub b d) : Sub (a &&& b) (c &&& d) := sub_and_of ((sub_and_left _ _).trans h) ((sub_and_right _ _).trans k)
theorem bit_lt8 {a e : Nat} (ha : a < 256) (h : a.testBit e = true) : e < 8 := by
 refine Nat.lt_of_not_le fun hle => ?_
 rw [bit_far (n := 8) ha hle] at h
 exact Bool.noConfusion h
theorem bit_ltn {a e n : Nat} (ha : a < 2 ^ n) (h : a.testBit e = true) : e < n := by
 refine Nat.lt_of_not_le fun hle => ?_
 rw [bit_far ha hle] at h
 exact Bool.noConfusion h
theorem pow_bit (e j : Nat) : (2 ^ e).testBit j = decide (e = j) := Nat.testBit_two_pow
theorem bit_sub {a e : Nat} (h : a.testBit e = true) : Sub (2 ^ e) a := fun j hj => by
 rw [pow_bit, decide_eq_true_eq] at hj
 rw [← hj]; exact h
theorem or_one (a e j : Nat) : (a ||| 2 ^ e).testBit j = (a.testBit j || decide (e = j)) := by rw [Nat.testBit_or, pow_bit]
theorem or_self_bit (a e : Nat) : (a ||| 2 ^ e).testBit e = true := by rw [or_one, decide_eq_true rfl, Bool.or_true]
theorem less_one (a e j : Nat) : (diff a (2 ^ e)).testBit j = (a.testBit j && !decide (e = j)) := by rw [diff_bit, pow_bit]
theorem not_bit {b : Bool} (h : b ≠ true) : b = false := by cases b <;> simp_all
theorem countP_split {α : Type} (p q : α → Bool) (l : List α) : l.countP p = l.countP (fun x => p x && q x) + l.countP (fun x => p x && !q x) := by
 induction l with
 | nil => rfl
 | cons a l ih =>
  rw [List.countP_cons, List.countP_cons, List.countP_cons, ih]
  cases p a <;> cases q a <;> simp <;> omega
theorem cnt_split (a b : Nat) : cnt a = cnt (a &&& b) + cnt (diff a b) := by
 rw [cnt_count, cnt_count, cnt_count, countP_split (fun j => a.testBit j) (fun j => b.testBit j)]
 congr 1
 ·refine List.countP_congr fun j _ => ?_
  rw [Nat.testBit_and]
 ·refine List.countP_congr fun j _ => ?_
  rw [diff_bit]
theorem cnt_sub {a b : Nat} (h : Sub a b) : cnt a ≤ cnt b := cnt_mono fun j _ hj => h j hj
theorem cnt_bitB : ∀ e, e < 8 → cnt (2 ^ e) = 1 := by decide +kernel
theorem cnt_disj {a b : Nat} (h : ∀ j, a.testBit j = true → b.testBit j = false) : cnt (a ||| b) = cnt a + cnt b := by
 rw [cnt_split (a ||| b) a]
 congr 1
 ·congr 1
  exact sub_antisymm (fun j hj => (sub_and_right _ _) j hj) (sub_and_of (sub_or_left _ _) (Sub.refl _))
 ·congr 1
  apply Nat.eq_of_testBit_eq
  intro j
  rw [diff_bit, Nat.testBit_or]
  cases ha : a.testBit j with
  | false => simp
  | true => rw [h j ha]; rfl
theorem cnt_or_bit {a e : Nat} (he : e < 8) (h : a.testBit e = false) : cnt (a ||| 2 ^ e) = cnt a + 1 := by
 rw [cnt_disj fun j hj => ?_, cnt_bitB e he]
 rw [pow_bit, decide_eq_false_iff_not]
 rintro rfl
 rw [h] at hj
 exact Bool.noConfusion hj
theorem cnt_less_bit {a e : Nat} (ha : a < 256) (h : a.testBit e = true) : cnt a = cnt (diff a (2 ^ e)) + 1 := by
 rw [← cnt_or_bit (bit_lt8 ha h) (a := diff a (2 ^ e)) (by rw [less_one, decide_eq_true rfl]; simp)]
 congr 1
 apply Nat.eq_of_testBit_eq
 intro j
 rw [or_one, less_one]
 by_cases e' : e = j
 ·subst e'
  simp [h]
 ·simp [e']
theorem eq_of_cnt {a b : Nat} (hb : b < 256) (h : Sub a b) (hc : cnt b ≤ cnt a) : a = b := by
 have hs := cnt_split b a
 have hba : b &&& a = a := by
  rw [Nat.and_comm]
  exact sub_and.2 h
 rw [hba] at hs
 have hz : diff b a = 0 := cnt_zero_bit _ (diff_lt (n := 8) hb) (by omega)
 refine sub_antisymm h fun j hj => ?_
 have := diff_bit b a j
 rw [hz, Nat.zero_testBit, hj] at this
 simpa using this.symm
theorem cnt_some_bit {a : Nat} (ha : a < 256) (h : 0 < cnt a) : ∃ e, a.testBit e = true := by
 obtain ⟨e, _, he⟩ := cnt_some a ha h
 exact ⟨e, he⟩
theorem cnt_more {a b : Nat} (hb : b < 256) (h : cnt a < cnt b) : ∃ e, b.testBit e = true ∧ a.testBit e = false := by
 have h1 := cnt_split b a
 have h2 : cnt (b &&& a) ≤ cnt a := cnt_sub (sub_and_right _ _)
 obtain ⟨e, he⟩ := cnt_some_bit (a := diff b a) (diff_lt (n := 8) hb) (by omega)
 rw [diff_bit, Bool.and_eq_true] at he
 exact ⟨e, he.1, by simpa using he.2⟩
structure Ind (m : Nat) (P : Nat → Bool) : Prop where
 zero : P 0 = true
 down : ∀ a b, b < 2 ^ m → Sub a b → P b = true → P a = true
 aug : ∀ a b, a < 2 ^ m → b < 2 ^ m → P a = true → P b = true → cnt a < cnt b → ∃ e, b.testBit e = true ∧ a.testBit e = false ∧ P (a ||| 2 ^ e) = true
theorem indep_iff {l : List Nat} {s : Nat} : indep l s = true ↔ ∃ b ∈ l, Sub s b := by
 unfold indep
 rw [List.any_eq_true]
 constructor
 ·rintro ⟨b, hb, h⟩
  exact ⟨b, hb, sub_and.1 (by simpa using h)⟩
 ·rintro ⟨b, hb, h⟩
  exact ⟨b, hb, by simpa using sub_and.2 h⟩
theorem base_aug {l : List Nat} (hl : ∀ s ∈ l, s < 256) (hf : fails l = false) (K c : Nat) (hc : c ∈ l) : ∀ n b, b ∈ l → cnt (diff b c) ≤ n → cnt (b &&& K) < cnt (c &&& K) → ∃ b' ∈ l, ∃ f, c.testBit f = true ∧ K.testBit f = true ∧ b.testBit f = false ∧ Sub ((b &&& K) ||| 2 ^ f) b' := by
 intro n
 induction n with
 | zero =>
  intro b hb hn hlt
  have hz : diff b c = 0 := cnt_zero_bit _ (diff_lt (n := 8) (hl b hb)) (by omega)
  have hbc : Sub b c := fun j hj => by
   have := diff_bit b c j
   rw [hz, Nat.zero_testBit, hj] at this
   simpa using this.symm
  have := eq_of_cnt (hl c hc) hbc (Nat.le_of_eq (bases_same hl hf hc hb))
  subst this
  omega
 | succ n ih =>
  intro b hb hn hlt
  have hb256 := hl b hb
  have hc256 := hl c hc
  have h1 := cnt_split b K
  have h2 := cnt_split c K
  have h3 := bases_same hl hf hb hc
  obtain ⟨e, he1, he2⟩ := cnt_more (a := diff c K) (b := diff b K) (diff_lt (n := 8) hb256) (by omega)
  rw [diff_bit, Bool.and_eq_true] at he1
  obtain ⟨hbe, hKe⟩ := he1
  have hKe' : K.testBit e = false := by simpa using hKe
  have hce : c.testBit e = false := by
   rw [diff_bit, hKe'] at he2
   simpa using he2
  have he8 := bit_lt8 hb256 hbe
  obtain ⟨f, hf8, hcf, hbf, hmem⟩ := exch_some hf hb hc he8 hbe hce
  rw [← swap_eq b hb256 e he8 f hf8 hbe hbf] at hmem
  have hsub : Sub (b &&& K) (diff b (2 ^ e) ||| 2 ^ f) := fun j hj => by
   rw [Nat.testBit_and, Bool.and_eq_true] at hj
   rw [or_one, less_one, hj.1]
   by_cases ej : e = j
   ·subst ej
    rw [hKe'] at hj
    exact absurd hj.2 (by decide)
   ·simp [ej]
  by_cases hKf : K.testBit f = true
  ·exact ⟨_, hmem, f, hcf, hKf, hbf, sub_or hsub (sub_or_right _ _)⟩
  ·have hKf' := not_bit hKf
   have hsame : (diff b (2 ^ e) ||| 2 ^ f) &&& K = b &&& K := by
    refine sub_antisymm (fun j hj => ?_) (sub_and_of hsub (sub_and_right _ _))
    rw [Nat.testBit_and, or_one, less_one, Bool.and_eq_true] at hj
    rw [Nat.testBit_and, hj.2, Bool.and_true]
    by_cases fj : f = j
    ·subst fj
     rw [hKf'] at hj
     exact absurd hj.2 (by decide)
    ·have := hj.1
     simp [fj] at this
     exact this.1
   have hd : diff (diff b (2 ^ e) ||| 2 ^ f) c = diff (diff b c) (2 ^ e) := by
    apply Nat.eq_of_testBit_eq
    intro j
    rw [diff_bit, or_one, less_one, less_one, diff_bit]
    by_cases fj : f = j
    ·subst fj
     rw [hcf, hbf]
     simp
    ·rw [decide_eq_false fj, Bool.or_false]
     cases b.testBit j <;> cases c.testBit j <;> cases decide (e = j) <;> rfl
   have hdc := cnt_less_bit (a := diff b c) (e := e) (diff_lt (n := 8) hb256) (by rw [diff_bit, hbe, hce]; rfl)
   rw [← hd] at hdc
   obtain ⟨b', hb', f', h4, h5, h6, h7⟩ := ih _ hmem (by omega) (by rw [hsame]; exact hlt)
   rw [hsame] at h7
   refine ⟨b', hb', f', h4, h5, ?_, h7⟩
   rw [or_one, less_one] at h6
   simp only [Bool.or_eq_false_iff] at h6
   by_cases ej : e = f'
   ·subst ej
    rw [hKe'] at h5
    exact Bool.noConfusion h5
   ·have := h6.1
    simpa [ej] using this
theorem ind_of_mat {m : Nat} (hm : m ≤ 8) {l : List Nat} (hl : ∀ s ∈ l, s < 2 ^ m) (hn : 0 < l.length) (hf : fails l = false) : Ind m (indep l) := by
 have h256 := pow_le_256 hm
 have hl' : ∀ s ∈ l, s < 256 := fun s hs => Nat.lt_of_lt_of_le (hl s hs) h256
 refine ⟨indep_zero hn, fun a b _ hab hb => ?_, fun a b ha hb hia hib hlt => ?_⟩
 ·obtain ⟨c, hc, hs⟩ := indep_iff.1 hb
  exact indep_iff.2 ⟨c, hc, hab.trans hs⟩
 ·obtain ⟨x, hx, hax⟩ := indep_iff.1 hia
  obtain ⟨y, hy, hby⟩ := indep_iff.1 hib
  by_cases hmore : ∃ e, x.testBit e = true ∧ b.testBit e = true ∧ a.testBit e = false
  ·obtain ⟨e, h1, h2, h3⟩ := hmore
   exact ⟨e, h2, h3, indep_iff.2 ⟨x, hx, sub_or hax (bit_sub h1)⟩⟩
  ·have hxa : x &&& (a ||| b) = a := by
    refine sub_antisymm (fun j hj => ?_) (sub_and_of hax (sub_or_left _ _))
    rw [Nat.testBit_and, Nat.testBit_or, Bool.and_eq_true, Bool.or_eq_true] at hj
    rcases hj.2 with h | h
    ·exact h
    ·cases ha' : a.testBit j with
     | true => rfl
     | false => exact absurd ⟨j, hj.1, h, ha'⟩ hmore
   have hyb : cnt b ≤ cnt (y &&& (a ||| b)) := cnt_sub (sub_and_of hby (sub_or_right _ _))
   obtain ⟨b', hb', f, h1, h2, h3, h4⟩ := base_aug hl' hf (a ||| b) y hy _ x hx (Nat.le_refl _) (by rw [hxa]; omega)
   rw [hxa] at h4
   have haf : a.testBit f = false := by
    cases h : a.testBit f with
    | false => rfl
    | true => rw [hax f h] at h3; exact Bool.noConfusion h3
   rw [Nat.testBit_or, haf, Bool.false_or] at h2
   exact ⟨f, h2, haf, indep_iff.2 ⟨b', hb', h4⟩⟩
def maxes (m : Nat) (P : Nat → Bool) : List Nat := (List.range' 0 (2 ^ m)).filter fun s => P s && (List.range' 0 (2 ^ m)).all fun t => !(P t && !decide (t = s) && decide (s &&& t = s))
theorem mem_maxes {m : Nat} {P : Nat → Bool} {s : Nat} : s ∈ maxes m P ↔ s < 2 ^ m ∧ P s = true ∧ ∀ t, t < 2 ^ m → P t = true → Sub s t → t = s := by
 unfold maxes
 rw [List.mem_filter, Bool.and_eq_true, List.all_eq_true]
 constructor
 ·rintro ⟨h1, h2, h3⟩
  refine ⟨by have := List.mem_range'_1.1 h1; omega, h2, fun t ht hp hs => ?_⟩
  have := h3 t (List.mem_range'_1.2 (by omega))
  rw [hp, sub_and.2 hs] at this
  simpa using this
 ·rintro ⟨h1, h2, h3⟩
  refine ⟨List.mem_range'_1.2 (by omega), h2, fun t ht => ?_⟩
  cases hp : P t with
  | false => rfl
  | true =>
   by_cases hs : s &&& t = s
   ·have := h3 t (by have := List.mem_range'_1.1 ht; omega) hp (sub_and.1 hs)
    simp [this]
   ·simp [hs]
section
variable {m : Nat} {P : Nat → Bool}
theorem Ind.max_ge (h : Ind m P) (hm : m ≤ 8) {s t : Nat} (hs : s ∈ maxes m P) (ht : t < 2 ^ m) (hp : P t = true) : cnt t ≤ cnt s := by
 obtain ⟨h1, h2, h3⟩ := mem_maxes.1 hs
 refine Nat.le_of_not_lt fun hlt => ?_
 obtain ⟨e, h4, h5, h6⟩ := h.aug s t h1 ht h2 hp hlt
 have hlt' : s ||| 2 ^ e < 2 ^ m := or_lt h1 (pow_lt (bit_ltn ht h4))
 have := h3 _ hlt' h6 (sub_or_left _ _)
 have h7 := or_self_bit s e
 rw [this, h5] at h7
 exact Bool.noConfusion h7
theorem Ind.max_of (h : Ind m P) (hm : m ≤ 8) {s : Nat} (hs : s < 2 ^ m) (hp : P s = true) (hmax : ∀ t, t < 2 ^ m → P t = true → cnt t ≤ cnt s) : s ∈ maxes m P := by
 have h256 := pow_le_256 hm
 refine mem_maxes.2 ⟨hs, hp, fun t ht hpt hst => (eq_of_cnt (by omega) hst (hmax t ht hpt)).symm⟩
theorem Ind.ext (h : Ind m P) (hm : m ≤ 8) : ∀ n s, s < 2 ^ m → P s = true → 8 ≤ cnt s + n → ∃ t ∈ maxes m P, Sub s t := by
 have h256 := pow_le_256 hm
 intro n
 induction n with
 | zero =>
  intro s hs hp hn
  exact ⟨s, h.max_of hm hs hp (fun t _ _ => Nat.le_trans (cnt_le t) (by omega)), Sub.refl s⟩
 | succ n ih =>
  intro s hs hp hn
  by_cases hmx : ∃ t, t < 2 ^ m ∧ P t = true ∧ cnt s < cnt t
  ·obtain ⟨t, ht, hpt, hlt⟩ := hmx
   obtain ⟨e, h4, h5, h6⟩ := h.aug s t hs ht hp hpt hlt
   have hlt' : s ||| 2 ^ e < 2 ^ m := or_lt hs (pow_lt (bit_ltn ht h4))
   have := cnt_or_bit (bit_lt8 (by omega) h4) h5
   obtain ⟨u, hu, hsub⟩ := ih _ hlt' h6 (by omega)
   exact ⟨u, hu, (sub_or_left _ _).trans hsub⟩
  ·exact ⟨s, h.max_of hm hs hp (fun t ht hpt => Nat.le_of_not_lt fun hlt => hmx ⟨t, ht, hpt, hlt⟩), Sub.refl s⟩
theorem Ind.some (h : Ind m P) (hm : m ≤ 8) : 0 < (maxes m P).length := by
 obtain ⟨t, ht, _⟩ := h.ext hm 8 0 (Nat.pow_pos (by decide)) h.zero (by omega)
 exact List.length_pos_of_mem ht
theorem Ind.indep (h : Ind m P) (hm : m ≤ 8) {s : Nat} (hs : s < 2 ^ m) : indep (maxes m P) s = P s := by
 cases hp : P s with
 | true =>
  obtain ⟨t, ht, hst⟩ := h.ext hm 8 s hs hp (by omega)
  exact indep_iff.2 ⟨t, ht, hst⟩
 | false =>
  cases hi : Indep.indep (maxes m P) s with
  | false => rfl
  | true =>
   obtain ⟨t, ht, hst⟩ := indep_iff.1 hi
   obtain ⟨h1, h2, _⟩ := mem_maxes.1 ht
   rw [h.down s t h1 hst h2] at hp
   exact Bool.noConfusion hp
theorem Ind.exch (h : Ind m P) (hm : m ≤ 8) : fails (maxes m P) = false := by
 have h256 := pow_le_256 hm
 unfold fails
 rw [List.any_eq_false]
 intro a ha
 rw [Bool.not_eq_true, List.any_eq_false]
 intro b hb
 rw [Bool.not_eq_true, List.any_eq_false]
 intro e he
 have he8 : e < 8 := by have := List.mem_range'_1.1 he; omega
 obtain ⟨a1, a2, a3⟩ := mem_maxes.1 ha
 obtain ⟨b1, b2, b3⟩ := mem_maxes.1 hb
 cases hae : a.testBit e with
 | false => simp
 | true =>
  cases hbe : b.testBit e with
  | true => simp
  | false =>
   have hx : Sets.exch (maxes m P) a b e = true := by
    have hsame : cnt a ≤ cnt b := h.max_ge hm hb a1 a2
    have hsame' : cnt b ≤ cnt a := h.max_ge hm ha b1 b2
    have hless := cnt_less_bit (a := a) (e := e) (by omega) hae
    have hd : diff a (2 ^ e) < 2 ^ m := diff_lt a1
    obtain ⟨f, h4, h5, h6⟩ := h.aug (diff a (2 ^ e)) b hd b1 (h.down _ a a1 (sub_diff _ _) a2) b2 (by omega)
    have hef : e ≠ f := fun e' => by
     subst e'
     rw [hbe] at h4
     exact Bool.noConfusion h4
    rw [less_one] at h5
    have haf : a.testBit f = false := by simpa [hef] using h5
    have hf8 : f < 8 := bit_lt8 (by omega) h4
    have hlt' : diff a (2 ^ e) ||| 2 ^ f < 2 ^ m := or_lt hd (pow_lt (bit_ltn b1 h4))
    have hc : cnt (diff a (2 ^ e) ||| 2 ^ f) = cnt a := cnt_swap a (by omega) e he8 f hf8 hae haf
    unfold Sets.exch
    rw [List.any_eq_true]
    refine ⟨f, List.mem_range'_1.2 (by omega), ?_⟩
    rw [h4, haf, ← swap_eq a (by omega) e he8 f hf8 hae haf, List.contains_iff_mem.2 (h.max_of hm hlt' h6 (fun t ht hpt => by rw [hc]; exact h.max_ge hm ha ht hpt))]
    rfl
   rw [hx]
   simp
end
end Go.Proofs.Ytbjnkcfkhonkhaa.Aug
end
section
namespace Go.Proofs.Ytbjnkcfkhonkhaa.Minor
open Go.RowKit Go.Proofs.Ytbjnkcfkhonkhaa.Sets Go.Proofs.Ytbjnkcfkhonkhaa.Rank Go.Proofs.Ytbjnkcfkhonkhaa.Size Go.Proofs.Ytbjnkcfkhonkhaa.Indep Go.Proofs.Ytbjnkcfkhonkhaa.Aug
set_option linter.unusedVariables false
def nth (K k : Nat) : Nat := (elems K).getD k 0
def idx (K j : Nat) : Nat := cnt (K &&& (2 ^ j - 1))
def ofBits (p : Nat → Bool) : Nat := (List.range' 0 8).foldl (fun o k => if p k = true then o ||| 2 ^ k else o) 0
theorem ofBits_bit (p : Nat → Bool) (j : Nat) : (ofBits p).testBit j = (decide (j < 8) && p j) := by
 unfold ofBits
 rw [foldl_or, Nat.zero_testBit, Bool.false_or, Bool.eq_iff_iff]
 simp only [List.any_eq_true, List.mem_range'_1, Bool.and_eq_true, decide_eq_true_eq]
 constructor
 ·rintro ⟨x, h1, h2, rfl⟩
  exact ⟨by omega, h2⟩
 ·rintro ⟨h1, h2⟩
  exact ⟨j, by omega, h2, rfl⟩
def pk (K x : Nat) : Nat := ofBits fun k => decide (k < cnt K) && x.testBit (nth K k)
def unpk (K s : Nat) : Nat := ofBits fun j => K.testBit j && s.testBit (idx K j)
set_option maxRecDepth 100000 in
theorem nth_idxB : ∀ K, K < 256 → ∀ j, j < 8 → K.testBit j = true → nth K (idx K j) = j ∧ idx K j < cnt K := by decide +kernel
set_option maxRecDepth 100000 in
theorem idx_nthB : ∀ K, K < 256 → ∀ k, k < 8 → k < cnt K → idx K (nth K k) = k ∧ K.testBit (nth K k) = true ∧ nth K k < 8 := by decide +kernel
set_option maxRecDepth 100000 in
theorem idx_ltB : ∀ K, K < 256 → ∀ k, k < 8 → ∀ j, j < 8 → (decide (k < cnt K) && K.testBit j) = true → decide (k < idx K j) = decide (nth K k < j) := by decide +kernel
section
variable {K : Nat} (hK : K < 256)
include hK
theorem nth_idx {j : Nat} (h : K.testBit j = true) : nth K (idx K j) = j ∧ idx K j < cnt K := nth_idxB K hK j (bit_lt8 hK h) h
theorem idx_nth {k : Nat} (h : k < cnt K) : idx K (nth K k) = k ∧ K.testBit (nth K k) = true ∧ nth K k < 8 := idx_nthB K hK k (by have := cnt_le K; omega) h
theorem idx_lt {k j : Nat} (h : k < cnt K) (hj : K.testBit j = true) : k < idx K j ↔ nth K k < j := decide_eq_decide.1 (idx_ltB K hK k (by have := cnt_le K; omega) j (bit_lt8 hK hj) (by rw [decide_eq_true h, hj]; rfl))
theorem unpk_bit (s j : Nat) : (unpk K s).testBit j = (K.testBit j && s.testBit (idx K j)) := by
 unfold unpk
 rw [ofBits_bit]
 by_cases h : j < 8
 ·rw [decide_eq_true h, Bool.true_and]
 ·rw [decide_eq_false h, bit_far (n := 8) hK (by omega)]
  rfl
omit hK in
theorem pk_bit (x k : Nat) : (pk K x).testBit k = (decide (k < cnt K) && x.testBit (nth K k)) := by
 unfold pk
 rw [ofBits_bit]
 by_cases h : k < 8
 ·rw [decide_eq_true h, Bool.true_and]
 ·have := cnt_le K
  rw [decide_eq_false h, decide_eq_false (show ¬ k < cnt K by omega)]
  rfl
omit hK in
theorem pk_lt (x : Nat) : pk K x < 2 ^ cnt K := by
 apply Nat.lt_pow_two_of_testBit
 intro j hj
 rw [pk_bit, decide_eq_false (by omega)]
 rfl
theorem unpk_sub (s : Nat) : Sub (unpk K s) K := fun j h => by
 rw [unpk_bit hK, Bool.and_eq_true] at h
 exact h.1
theorem unpk_pk {x : Nat} (h : Sub x K) : unpk K (pk K x) = x := by
 apply Nat.eq_of_testBit_eq
 intro j
 rw [unpk_bit hK]
 cases hj : K.testBit j with
 | true =>
  obtain ⟨h1, h2⟩ := nth_idx hK hj
  rw [pk_bit, h1, decide_eq_true h2]
  rfl
 | false =>
  cases hx : x.testBit j with
  | false => rfl
  | true => rw [h j hx] at hj; exact Bool.noConfusion hj
theorem pk_unpk {s : Nat} (h : s < 2 ^ cnt K) : pk K (unpk K s) = s := by
 apply Nat.eq_of_testBit_eq
 intro k
 rw [pk_bit]
 by_cases hk : k < cnt K
 ·obtain ⟨h1, h2, _⟩ := idx_nth hK hk
  rw [unpk_bit hK, h1, h2, decide_eq_true hk]
  rfl
 ·rw [decide_eq_false hk, bit_far h (by omega)]
  rfl
theorem unpk_zero : unpk K 0 = 0 := by
 apply Nat.eq_of_testBit_eq
 intro j
 rw [unpk_bit hK, Nat.zero_testBit, Nat.zero_testBit, Bool.and_false]
theorem unpk_or (a b : Nat) : unpk K (a ||| b) = unpk K a ||| unpk K b := by
 apply Nat.eq_of_testBit_eq
 intro j
 rw [Nat.testBit_or, unpk_bit hK, unpk_bit hK, unpk_bit hK, Nat.testBit_or]
 cases K.testBit j <;> rfl
theorem unpk_pow {e : Nat} (he : e < cnt K) : unpk K (2 ^ e) = 2 ^ nth K e := by
 obtain ⟨h1, h2, _⟩ := idx_nth hK he
 apply Nat.eq_of_testBit_eq
 intro j
 rw [unpk_bit hK, pow_bit, pow_bit, Bool.eq_iff_iff, Bool.and_eq_true, decide_eq_true_eq, decide_eq_true_eq]
 constructor
 ·rintro ⟨h3, h4⟩
  rw [h4]
  exact (nth_idx hK h3).1
 ·rintro rfl
  exact ⟨h2, h1.symm⟩
theorem unpk_mono {a b : Nat} (h : Sub a b) : Sub (unpk K a) (unpk K b) := fun j hj => by
 rw [unpk_bit hK, Bool.and_eq_true] at hj
 rw [unpk_bit hK, hj.1, h _ hj.2]
 rfl
theorem cnt_unpk : ∀ n s, s < 2 ^ cnt K → cnt s = n → cnt (unpk K s) = n := by
 intro n
 have h256 := pow_le_256 (cnt_le K)
 induction n with
 | zero =>
  intro s hs hc
  rw [cnt_zero_bit s (by omega) hc, unpk_zero hK]
  decide +kernel
 | succ n ih =>
  intro s hs hc
  obtain ⟨e, he⟩ := cnt_some_bit (a := s) (by omega) (by omega)
  have hec := bit_ltn hs he
  have h1 := cnt_less_bit (a := s) (e := e) (by omega) he
  have h2 := ih (diff s (2 ^ e)) (diff_lt hs) (by omega)
  have hse : s = diff s (2 ^ e) ||| 2 ^ e := by
   apply Nat.eq_of_testBit_eq
   intro j
   rw [or_one, less_one]
   by_cases ej : e = j
   ·subst ej
    simp [he]
   ·simp [ej]
  rw [hse, unpk_or hK, unpk_pow hK hec, cnt_or_bit (idx_nth hK hec).2.2 ?_, h2]
  rw [unpk_bit hK, (idx_nth hK hec).1, less_one]
  simp
theorem cnt_un {s : Nat} (hs : s < 2 ^ cnt K) : cnt (unpk K s) = cnt s := cnt_unpk hK _ s hs rfl
theorem cnt_pk {x : Nat} (h : Sub x K) : cnt (pk K x) = cnt x := by
 rw [← cnt_un hK (pk_lt x), unpk_pk hK h]
theorem unpk_lt {s m : Nat} (h : K < 2 ^ m) : unpk K s < 2 ^ m := sub_lt (unpk_sub hK s) h
end
theorem unpk_twice {K1 K : Nat} (h1 : K1 < 256) (h : Sub K K1) (x : Nat) : unpk K1 (unpk (pk K1 K) x) = unpk K x := by
 have hK : K < 256 := sub_lt (n := 8) h h1
 have hp : pk K1 K < 256 := Nat.lt_of_lt_of_le (pk_lt K) (pow_le_256 (cnt_le K1))
 apply Nat.eq_of_testBit_eq
 intro j
 rw [unpk_bit h1, unpk_bit hp, unpk_bit hK]
 cases hj1 : K1.testBit j with
 | false =>
  cases hj : K.testBit j with
  | false => rfl
  | true => rw [h j hj] at hj1; exact Bool.noConfusion hj1
 | true =>
  obtain ⟨e1, e2⟩ := nth_idx h1 hj1
  rw [pk_bit, e1, decide_eq_true e2, Bool.true_and, Bool.true_and]
  cases hj : K.testBit j with
  | false => rfl
  | true =>
   rw [Bool.true_and, Bool.true_and]
   congr 1
   unfold idx
   rw [← cnt_pk h1 (x := K &&& (2 ^ j - 1)) ((sub_and_left _ _).trans h)]
   congr 1
   apply Nat.eq_of_testBit_eq
   intro k
   rw [Nat.testBit_and, pk_bit, pk_bit, Nat.testBit_and, Nat.testBit_two_pow_sub_one, Nat.testBit_two_pow_sub_one]
   by_cases hk : k < cnt K1
   ·have := idx_lt h1 hk hj1
    have e : decide (k < cnt (K1 &&& (2 ^ j - 1))) = decide (nth K1 k < j) := by
     rw [decide_eq_decide]
     exact this
    rw [e, decide_eq_true hk, Bool.true_and, Bool.true_and]
   ·rw [decide_eq_false hk]
    rfl
theorem rank_has {l : List Nat} (hn : 0 < l.length) (s : Nat) : ∃ b ∈ l, cnt (s &&& b) = rank l s := by
 refine Classical.byContradiction fun hc => ?_
 have hlt : ∀ b ∈ l, cnt (s &&& b) < rank l s := fun b hb => Nat.lt_of_le_of_ne (rank_ge l s b hb) fun e => hc ⟨b, hb, e⟩
 have h0 := hlt _ (getD_mem l 0 0 hn)
 have := rank_le_of l s (rank l s - 1) fun b hb => by have := hlt b hb; omega
 omega
theorem rank_iff {l : List Nat} (hn : 0 < l.length) {s r : Nat} : rank l s = r ↔ (∃ t, Sub t s ∧ indep l t = true ∧ cnt t = r) ∧ ∀ t, Sub t s → indep l t = true → cnt t ≤ r := by
 have key : ∀ t, Sub t s → indep l t = true → cnt t ≤ rank l s := fun t h1 h2 => by
  obtain ⟨b, hb, h3⟩ := indep_iff.1 h2
  exact Nat.le_trans (cnt_sub (sub_and_of h1 h3)) (rank_ge l s b hb)
 obtain ⟨b, hb, hr⟩ := rank_has hn s
 have hi : indep l (s &&& b) = true := indep_iff.2 ⟨b, hb, sub_and_right _ _⟩
 constructor
 ·rintro rfl
  exact ⟨⟨_, sub_and_left _ _, hi, hr⟩, key⟩
 ·rintro ⟨⟨t, h1, h2, h3⟩, h4⟩
  have := key t h1 h2
  have := h4 _ (sub_and_left _ _) hi
  omega
theorem rank_mono {l : List Nat} {s t : Nat} (h : Sub s t) : rank l s ≤ rank l t :=
 rank_le_of l s _ fun b hb => Nat.le_trans (cnt_sub (and_mono h (Sub.refl b))) (rank_ge l t b hb)
theorem rank_le_cnt (l : List Nat) (s : Nat) : rank l s ≤ cnt s := rank_le_of l s _ fun b _ => cnt_sub (sub_and_left _ _)
theorem ind_pack {m : Nat} {P : Nat → Bool} (h : Ind m P) (hm : m ≤ 8) {K : Nat} (hK : K < 2 ^ m) : Ind (cnt K) (fun s => P (unpk K s)) := by
 have hK8 : K < 256 := Nat.lt_of_lt_of_le hK (pow_le_256 hm)
 refine ⟨?_, fun a b hb hab hp => ?_, fun a b ha hb hpa hpb hlt => ?_⟩
 ·show P (unpk K 0) = true
  rw [unpk_zero hK8]
  exact h.zero
 ·exact h.down _ _ (unpk_lt hK8 hK) (unpk_mono hK8 hab) hp
 ·obtain ⟨e, h1, h2, h3⟩ := h.aug _ _ (unpk_lt hK8 hK) (unpk_lt hK8 hK) hpa hpb (by rw [cnt_un hK8 ha, cnt_un hK8 hb]; exact hlt)
  rw [unpk_bit hK8, Bool.and_eq_true] at h1
  obtain ⟨h4, h5⟩ := h1
  rw [unpk_bit hK8, h4, Bool.true_and] at h2
  obtain ⟨h6, h7⟩ := nth_idx hK8 h4
  refine ⟨idx K e, h5, h2, ?_⟩
  show P (unpk K (a ||| 2 ^ idx K e)) = true
  rw [unpk_or hK8, unpk_pow hK8 h7, h6]
  exact h3
def restr (l : List Nat) (K : Nat) : List Nat := maxes (cnt K) fun s => indep l (unpk K s)
section
variable {m : Nat} {l : List Nat} (hm : m ≤ 8) (hl : ∀ s ∈ l, s < 2 ^ m) (hn : 0 < l.length) (hf : fails l = false) {K : Nat} (hK : K < 2 ^ m)
include hm hl hn hf hK
theorem restr_ind : Ind (cnt K) (fun s => indep l (unpk K s)) := ind_pack (ind_of_mat hm hl hn hf) hm hK
theorem restr_some : 0 < (restr l K).length := (restr_ind hm hl hn hf hK).some (cnt_le K)
theorem restr_exch : fails (restr l K) = false := (restr_ind hm hl hn hf hK).exch (cnt_le K)
theorem restr_indep {s : Nat} (hs : s < 2 ^ cnt K) : indep (restr l K) s = indep l (unpk K s) := (restr_ind hm hl hn hf hK).indep (cnt_le K) hs
theorem restr_rank {y : Nat} (hy : y < 2 ^ cnt K) : rank (restr l K) y = rank l (unpk K y) := by
 have hK8 : K < 256 := Nat.lt_of_lt_of_le hK (pow_le_256 hm)
 rw [rank_iff (restr_some hm hl hn hf hK)]
 obtain ⟨⟨t, h1, h2, h3⟩, h4⟩ := (rank_iff hn).1 (rfl : rank l (unpk K y) = _)
 refine ⟨⟨pk K t, ?_, ?_, ?_⟩, fun u hu hi => ?_⟩
 ·intro k hk
  rw [pk_bit, Bool.and_eq_true, decide_eq_true_eq] at hk
  have := h1 _ hk.2
  rw [unpk_bit hK8, (idx_nth hK8 hk.1).1, Bool.and_eq_true] at this
  exact this.2
 ·rw [restr_indep hm hl hn hf hK (pk_lt t), unpk_pk hK8 (h1.trans (unpk_sub hK8 y))]
  exact h2
 ·rw [cnt_pk hK8 (h1.trans (unpk_sub hK8 y))]
  exact h3
 ·have hu' := sub_lt hu hy
  rw [restr_indep hm hl hn hf hK hu'] at hi
  rw [← cnt_un hK8 hu']
  exact h4 _ (unpk_mono hK8 hu) hi
theorem mem_restr {s : Nat} : s ∈ restr l K ↔ ∃ b ∈ l, cnt (b &&& K) = rank l K ∧ s = pk K (b &&& K) := by
 have hK8 : K < 256 := Nat.lt_of_lt_of_le hK (pow_le_256 hm)
 have hI := restr_ind hm hl hn hf hK
 constructor
 ·intro hs
  obtain ⟨h1, h2, _⟩ := mem_maxes.1 hs
  obtain ⟨b, hb, hsub⟩ := indep_iff.1 h2
  obtain ⟨b0, hb0, hr0⟩ := rank_has hn K
  rw [Nat.and_comm] at hr0
  have hge := hI.max_ge (cnt_le K) hs (t := pk K (b0 &&& K)) (pk_lt _) (by
   show indep l (unpk K (pk K (b0 &&& K))) = true
   rw [unpk_pk hK8 (sub_and_right _ _)]
   exact indep_iff.2 ⟨b0, hb0, sub_and_left _ _⟩)
  rw [cnt_pk hK8 (sub_and_right _ _), hr0, ← cnt_un hK8 h1] at hge
  have hle := rank_ge l K b hb
  rw [Nat.and_comm] at hle
  have he := eq_of_cnt (a := unpk K s) (b := b &&& K) (Nat.lt_of_le_of_lt Nat.and_le_right hK8) (sub_and_of hsub (unpk_sub hK8 s)) (by omega)
  refine ⟨b, hb, ?_, ?_⟩
  ·have := cnt_sub (a := unpk K s) (b := b &&& K) (sub_and_of hsub (unpk_sub hK8 s))
   omega
  ·rw [← he, pk_unpk hK8 h1]
 ·rintro ⟨b, hb, hr, rfl⟩
  refine hI.max_of (cnt_le K) (pk_lt _) ?_ fun t ht hp => ?_
  ·show indep l (unpk K (pk K (b &&& K))) = true
   rw [unpk_pk hK8 (sub_and_right _ _)]
   exact indep_iff.2 ⟨b, hb, sub_and_left _ _⟩
  ·rw [cnt_pk hK8 (sub_and_right _ _), hr, ← cnt_un hK8 ht]
   exact ((rank_iff hn).1 rfl).2 _ (unpk_sub hK8 t) hp
end
theorem contr_iff {m : Nat} {l : List Nat} (hm : m ≤ 8) (hl : ∀ s ∈ l, s < 2 ^ m) (hn : 0 < l.length) (hf : fails l = false) {S : Nat} (hS : S < 2 ^ m) (x : Nat) :
  (∃ b ∈ l, cnt (b &&& S) = rank l S ∧ x = pk (diff (2 ^ m - 1) S) (diff b S)) ↔ (x < 2 ^ cnt (diff (2 ^ m - 1) S) ∧ cnt x + rank l S = rank l (2 ^ m - 1) ∧ rank l (unpk (diff (2 ^ m - 1) S) x ||| S) = rank l (2 ^ m - 1)) := by
 have h256 := pow_le_256 hm
 have hfull : 2 ^ m - 1 < 2 ^ m := by have := Nat.one_le_two_pow (n := m); omega
 have hK : diff (2 ^ m - 1) S < 2 ^ m := diff_lt hfull
 have hK8 : diff (2 ^ m - 1) S < 256 := by omega
 have hl8 : ∀ s ∈ l, s < 256 := fun s hs => Nat.lt_of_lt_of_le (hl s hs) h256
 have hin : ∀ b, b < 2 ^ m → Sub b (2 ^ m - 1) := fun b hb j hj => by
  rw [Nat.testBit_two_pow_sub_one, decide_eq_true (bit_ltn hb hj)]
 have htop : ∀ b ∈ l, cnt b = rank l (2 ^ m - 1) := fun b hb => by
  obtain ⟨c, hc, hr⟩ := rank_has hn (2 ^ m - 1)
  rw [Nat.and_comm, sub_and.2 (hin c (hl c hc))] at hr
  rw [← hr]
  exact bases_same hl8 hf hb hc
 have hsubK : ∀ b ∈ l, Sub (diff b S) (diff (2 ^ m - 1) S) := fun b hb j hj => by
  rw [diff_bit, Bool.and_eq_true] at hj
  rw [diff_bit, hin b (hl b hb) j hj.1, hj.2]
  rfl
 constructor
 ·rintro ⟨b, hb, hr, rfl⟩
  have h1 := cnt_split b S
  have h2 := htop b hb
  refine ⟨pk_lt _, ?_, ?_⟩
  ·rw [cnt_pk hK8 (hsubK b hb)]
   omega
  ·rw [unpk_pk hK8 (hsubK b hb)]
   refine Nat.le_antisymm (rank_mono (sub_or (hin _ (diff_lt (hl b hb))) (hin S hS))) ?_
   rw [← h2]
   refine Nat.le_trans (cnt_sub ?_) (rank_ge l _ b hb)
   refine sub_and_of (fun j hj => ?_) (Sub.refl b)
   rw [Nat.testBit_or, diff_bit, hj]
   cases S.testBit j <;> rfl
 ·rintro ⟨h1, h2, h3⟩
  obtain ⟨b, hb, hr⟩ := rank_has hn (unpk (diff (2 ^ m - 1) S) x ||| S)
  rw [h3, ← htop b hb, Nat.and_comm] at hr
  have hbs := eq_of_cnt (hl8 b hb) (sub_and_left b _) (Nat.le_of_eq hr.symm)
  have hsplit := cnt_split b S
  have hle := rank_ge l S b hb
  rw [Nat.and_comm] at hle
  have hsub : Sub (diff b S) (unpk (diff (2 ^ m - 1) S) x) := fun j hj => by
   rw [diff_bit, Bool.and_eq_true] at hj
   have := hj.1
   rw [← hbs, Nat.testBit_and, Nat.testBit_or, Bool.and_eq_true, Bool.or_eq_true] at this
   rcases this.2 with h | h
   ·exact h
   ·rw [h] at hj
    exact absurd hj.2 (by decide)
  have hcx := cnt_un hK8 h1
  have ht := htop b hb
  have he := eq_of_cnt (Nat.lt_of_lt_of_le (unpk_lt hK8 hK) h256) hsub (by omega)
  refine ⟨b, hb, ?_, ?_⟩
  ·rw [he] at hsplit
   omega
  ·rw [he, pk_unpk hK8 h1]
def minor (l : List Nat) (K S : Nat) : List Nat := (List.range' 0 (2 ^ cnt K)).filter fun s => decide (cnt s + rank l S = rank l (K ||| S)) && decide (rank l (unpk K s ||| S) = rank l (K ||| S))
theorem mem_minor {l : List Nat} {K S x : Nat} : x ∈ minor l K S ↔ x < 2 ^ cnt K ∧ cnt x + rank l S = rank l (K ||| S) ∧ rank l (unpk K x ||| S) = rank l (K ||| S) := by
 unfold minor
 rw [List.mem_filter, List.mem_range'_1, Bool.and_eq_true, decide_eq_true_eq, decide_eq_true_eq]
 constructor
 ·rintro ⟨h1, h2, h3⟩; exact ⟨by omega, h2, h3⟩
 ·rintro ⟨h1, h2, h3⟩; exact ⟨by omega, h2, h3⟩
theorem mem_both {m : Nat} {l : List Nat} (hm : m ≤ 8) (hl : ∀ s ∈ l, s < 2 ^ m) (hn : 0 < l.length) (hf : fails l = false) {K S : Nat} (hK : K < 2 ^ m) (hS : S < 2 ^ m) (hd : ∀ j, K.testBit j = true → S.testBit j = false) (x : Nat) :
  (∃ b ∈ restr l (K ||| S), cnt (b &&& pk (K ||| S) S) = rank (restr l (K ||| S)) (pk (K ||| S) S) ∧ x = pk (diff (2 ^ cnt (K ||| S) - 1) (pk (K ||| S) S)) (diff b (pk (K ||| S) S))) ↔ x ∈ minor l K S := by
 have h256 := pow_le_256 hm
 have h1 : K ||| S < 2 ^ m := or_lt hK hS
 have h18 : K ||| S < 256 := by omega
 have hS' : pk (K ||| S) S < 2 ^ cnt (K ||| S) := pk_lt S
 have hr := restr_some hm hl hn hf h1
 have hrl : ∀ s ∈ restr l (K ||| S), s < 2 ^ cnt (K ||| S) := fun s hs => (mem_maxes.1 hs).1
 have hfull : 2 ^ cnt (K ||| S) - 1 < 2 ^ cnt (K ||| S) := by have := Nat.one_le_two_pow (n := cnt (K ||| S)); omega
 rw [contr_iff (cnt_le _) hrl hr (restr_exch hm hl hn hf h1) hS', mem_minor]
 have hK' : diff (2 ^ cnt (K ||| S) - 1) (pk (K ||| S) S) = pk (K ||| S) K := by
  apply Nat.eq_of_testBit_eq
  intro k
  rw [diff_bit, Nat.testBit_two_pow_sub_one, pk_bit, pk_bit]
  by_cases hk : k < cnt (K ||| S)
  ·have h2 := (idx_nth h18 hk).2.1
   rw [Nat.testBit_or] at h2
   rw [decide_eq_true hk, Bool.true_and, Bool.true_and, Bool.true_and]
   cases hk1 : K.testBit (nth (K ||| S) k) with
   | true => rw [hd _ hk1]; rfl
   | false =>
    rw [hk1, Bool.false_or] at h2
    rw [h2]; rfl
  ·rw [decide_eq_false hk]
   rfl
 have hrank : ∀ y, y < 2 ^ cnt (K ||| S) → rank (restr l (K ||| S)) y = rank l (unpk (K ||| S) y) := fun y hy => restr_rank hm hl hn hf h1 hy
 have hful : unpk (K ||| S) (2 ^ cnt (K ||| S) - 1) = K ||| S := by
  apply Nat.eq_of_testBit_eq
  intro j
  rw [unpk_bit h18, Nat.testBit_two_pow_sub_one]
  cases hj : (K ||| S).testBit j with
  | false => rfl
  | true => rw [decide_eq_true (nth_idx h18 hj).2]; rfl
 rw [hK', cnt_pk h18 (sub_or_left K S), hrank _ hS', hrank _ hfull, hful, unpk_pk h18 (sub_or_right K S)]
 have hkk : ∀ y, unpk (pk (K ||| S) K) y < 2 ^ cnt (K ||| S) := fun y => unpk_lt (Nat.lt_of_lt_of_le (pk_lt K) (pow_le_256 (cnt_le _))) (pk_lt K)
 rw [hrank _ (or_lt (hkk x) hS'), unpk_or h18, unpk_twice h18 (sub_or_left K S), unpk_pk h18 (sub_or_right K S)]
end Go.Proofs.Ytbjnkcfkhonkhaa.Minor
end
section
namespace Go.Proofs.Ytbjnkcfkhonkhaa.Sort
open Go.RowKit Go.Proofs.Ytbjnkcfkhonkhaa.Pr Go.Proofs.Ytbjnkcfkhonkhaa.Sets Go.Proofs.YtbjnkcfkhonkhaaW.PrintWords Go.Proofs.YtbjnkcfkhonkhaaW.PrintLast Go.Proofs.YtbjnkcfkhonkhaaW.PrintMore
set_option linter.unusedVariables false
def ins (x : Int) : List Int → List Int
 | [] => [x]
 | a :: l => if a < x then a :: ins x l else if a = x then a :: l else x :: a :: l
def sset (l : List Int) : List Int := l.foldl (fun out x => ins x out) []
theorem mem_ins (x y : Int) (l : List Int) : y ∈ ins x l ↔ y = x ∨ y ∈ l := by
 induction l with
 | nil => simp [ins]
 | cons a l ih =>
  unfold ins
  split
  ·simp only [List.mem_cons, ih]
   constructor
   ·rintro (h | h | h) <;> simp [h]
   ·rintro (h | h | h) <;> simp [h]
  ·split
   ·rename_i h
    subst h
    simp
   ·simp
theorem ins_sorted (x : Int) (l : List Int) (h : l.Pairwise (· < ·)) : (ins x l).Pairwise (· < ·) := by
 induction l with
 | nil => simp [ins]
 | cons a l ih =>
  obtain ⟨h1, h2⟩ := List.pairwise_cons.1 h
  unfold ins
  split
  ·rename_i hlt
   refine List.pairwise_cons.2 ⟨fun y hy => ?_, ih h2⟩
   rcases (mem_ins x y l).1 hy with rfl | hy
   ·exact hlt
   ·exact h1 y hy
  ·split
   ·exact h
   ·rename_i ha hb
    refine List.pairwise_cons.2 ⟨fun y hy => ?_, h⟩
    rcases List.mem_cons.1 hy with rfl | hy
    ·omega
    ·have := h1 y hy
     omega
theorem ins_length (x : Int) (l : List Int) : (ins x l).length ≤ l.length + 1 := by
 induction l with
 | nil => simp [ins]
 | cons a l ih =>
  unfold ins
  split
  ·simp only [List.length_cons]; omega
  ·split <;> simp
theorem foldl_ins (l out : List Int) (ho : out.Pairwise (· < ·)) : (l.foldl (fun out x => ins x out) out).Pairwise (· < ·) ∧ (∀ y, y ∈ l.foldl (fun out x => ins x out) out ↔ y ∈ out ∨ y ∈ l) ∧ (l.foldl (fun out x => ins x out) out).length ≤ out.length + l.length := by
 induction l generalizing out with
 | nil => exact ⟨ho, fun y => by simp, by simp⟩
 | cons a l ih =>
  rw [List.foldl_cons]
  obtain ⟨h1, h2, h3⟩ := ih (ins a out) (ins_sorted a out ho)
  refine ⟨h1, fun y => ?_, ?_⟩
  ·rw [h2 y, mem_ins, List.mem_cons]
   constructor
   ·rintro ((h | h) | h) <;> simp [h]
   ·rintro (h | h | h) <;> simp [h]
  ·have := ins_length a out
   simp only [List.length_cons]
   omega
theorem sset_sorted (l : List Int) : (sset l).Pairwise (· < ·) := (foldl_ins l [] List.Pairwise.nil).1
theorem mem_sset (l : List Int) (y : Int) : y ∈ sset l ↔ y ∈ l := by
 have := (foldl_ins l [] List.Pairwise.nil).2.1 y
 simpa [sset] using this
theorem sset_length (l : List Int) : (sset l).length ≤ l.length := by
 have := (foldl_ins l [] List.Pairwise.nil).2.2
 simpa [sset] using this
theorem same_of (a b : List Int) (ha : a.Pairwise (· < ·)) (hb : b.Pairwise (· < ·)) (h : ∀ x, x ∈ a ↔ x ∈ b) : a = b := by
 induction a generalizing b with
 | nil =>
  cases b with
  | nil => rfl
  | cons y b => exact absurd ((h y).2 (by simp)) (by simp)
 | cons x a ih =>
  cases b with
  | nil => exact absurd ((h x).1 (by simp)) (by simp)
  | cons y b =>
   obtain ⟨a1, a2⟩ := List.pairwise_cons.1 ha
   obtain ⟨b1, b2⟩ := List.pairwise_cons.1 hb
   have hxy : x = y := by
    rcases List.mem_cons.1 ((h x).1 (by simp)) with e | e
    ·exact e
    ·rcases List.mem_cons.1 ((h y).2 (by simp)) with e' | e'
     ·exact e'.symm
     ·have := b1 x e
      have := a1 y e'
      omega
   subst hxy
   congr 1
   refine ih b a2 b2 fun z => ⟨fun hz => ?_, fun hz => ?_⟩
   ·rcases List.mem_cons.1 ((h z).1 (by simp [hz])) with rfl | e
    ·exact absurd (a1 z hz) (by omega)
    ·exact e
   ·rcases List.mem_cons.1 ((h z).2 (by simp [hz])) with rfl | e
    ·exact absurd (b1 z hz) (by omega)
    ·exact e
theorem drop_cons (l : List Int) (i : Nat) (h : i < l.length) : l.drop i = l.getD i 0 :: l.drop (i + 1) := by
 rw [List.drop_eq_getElem_cons h]
 simp [List.getD, h]
theorem ins_at (x : Int) (out : List Int) : ∀ i, i ≤ out.length → (∀ j, j < i → out.getD j 0 < x) → ins x out = out.take i ++ ins x (out.drop i) := by
 intro i
 induction i with
 | zero => intro _ _; simp
 | succ i ih =>
  intro hi h
  rw [ih (by omega) fun j hj => h j (by omega), drop_cons out i (by omega)]
  have := h i (by omega)
  rw [ins, if_pos this, List.take_succ_eq_append_getElem (by omega), List.append_assoc]
  simp [List.getD, show i < out.length by omega]
theorem specSort (l : List Int) (hn : l.length ≤ 1048576) : Ev (fun k => spec_SortSets.f k l) (sset l) := by
 unfold spec_SortSets.f sset
 have e : l.foldl (fun out x => ins x out) [] = (List.range' 0 l.length).foldl (fun out i => ins (l.getD i 0) out) [] := by
  have e2 : l = (List.range' 0 l.length).map fun i => l.getD i 0 := by rw [← List.range_eq_range', Gen.map_getD']
  conv => lhs; rw [e2]
  rw [List.foldl_map]
 rw [e]
 refine Gen.ev_loop (fun k (out : List Int) i => spec_SortSets.l0 k l out i) l.length (fun i out => ins (l.getD i 0) out) (fun i out => out.length ≤ i) _ (fun i out hi hP => ⟨?_, fun h => ?_⟩) l.length 0 [] (by omega) (by simp) (fun _ => Gen.ev_at 1 (fun k hk => ?_))
 ·have := ins_length (l.getD i 0) out
  show (ins _ _).length ≤ _
  omega
 ·refine Ev.step (f := fun k => spec_SortSets.l1 k l out (i : Int) 0) (fun k => ?_) ?_
  ·simp only [spec_SortSets.l0]
   rw [if_pos (by omega)]
  ·have key : ∀ d a : Nat, a + d = out.length → (∀ j, j < a → out.getD j 0 < l.getD i 0) → Ev (fun k => spec_SortSets.l1 k l out (i : Int) (a : Int)) ((List.range' 0 l.length).foldl (fun out i => ins (l.getD i 0) out) []) := by
    intro d
    induction d with
    | zero =>
     intro a ha hlt
     obtain rfl : a = out.length := by omega
     have hins : ins (l.getD i 0) out = out.take out.length ++ [l.getD i 0] ++ out.drop out.length := by
      rw [ins_at _ _ out.length (Nat.le_refl _) hlt, List.drop_length, ins]
      simp
     rw [hins] at h
     refine Ev.step (fun k => ?_) h
     simp only [spec_SortSets.l1]
     rw [if_neg (by omega)]
     simp only [Option.bind_some, Int.toNat_natCast, Gen.rd_nat, List.nil_append, List.length_nil, Nat.zero_add]
     rw [if_pos (by omega), if_pos (by omega), if_pos (by simp), if_pos (by omega), if_pos (by omega), if_pos (by rw [List.length_take]; omega), if_pos (by simp; omega), Gen.w64s i (by omega)]
    | succ d ih =>
     intro a ha hlt
     have hlen : a < out.length := by omega
     by_cases h1 : out.getD a 0 < l.getD i 0
     ·refine Ev.step (fun k => ?_) (ih (a + 1) (by omega) fun j hj => ?_)
      ·simp only [spec_SortSets.l1]
       rw [if_pos (by omega), if_pos (by omega), if_pos (by omega), if_pos (by omega), Gen.rd_nat, Gen.rd_nat, if_pos h1, Gen.w64s a (by omega)]
      ·by_cases e : j = a
       ·subst e; exact h1
       ·exact hlt j (by omega)
     ·have hat := ins_at (l.getD i 0) out a (by omega) hlt
      rw [drop_cons out a hlen, ins, if_neg h1] at hat
      by_cases h2 : out.getD a 0 = l.getD i 0
      ·have hins : ins (l.getD i 0) out = out := by
        rw [hat, if_pos h2, ← drop_cons out a hlen, List.take_append_drop]
       rw [hins] at h
       refine Ev.step (fun k => ?_) h
       simp only [spec_SortSets.l1]
       rw [if_pos (by omega), if_pos (by omega), if_pos (by omega), if_pos (by omega), Gen.rd_nat, Gen.rd_nat, if_neg h1, if_pos h2, Gen.w64s i (by omega)]
      ·have hins : ins (l.getD i 0) out = out.take a ++ [l.getD i 0] ++ out.drop a := by
        rw [hat, if_neg h2, ← drop_cons out a hlen, List.append_assoc]
        rfl
       rw [hins] at h
       refine Ev.step (fun k => ?_) h
       simp only [spec_SortSets.l1]
       rw [if_pos (by omega), if_pos (by omega), if_pos (by omega), if_pos (by omega), Gen.rd_nat, Gen.rd_nat, if_neg h1, if_neg h2]
       simp only [Option.bind_some, Int.toNat_natCast, List.nil_append, List.length_nil, Nat.zero_add]
       rw [if_pos (by omega), if_pos (by simp; omega), if_pos (by rw [List.length_take]; omega), if_pos (by simp; omega), Gen.w64s i (by omega)]
   exact key out.length 0 (by omega) (fun j hj => by omega)
 ·obtain ⟨q, rfl⟩ : ∃ q, k = q + 1 := ⟨k - 1, by omega⟩
  simp only [spec_SortSets.l0]
  rw [if_neg (by omega)]
end Go.Proofs.Ytbjnkcfkhonkhaa.Sort
end
section
namespace Go.Proofs.Ytbjnkcfkhonkhaa.Flat
open Go.RowKit Go.Proofs.Ytbjnkcfkhonkhaa.Pr Go.Proofs.Ytbjnkcfkhonkhaa.Sets Go.Proofs.Ytbjnkcfkhonkhaa.Mat Go.Proofs.Ytbjnkcfkhonkhaa.Rank Go.Proofs.YtbjnkcfkhonkhaaW.PrintWords Go.Proofs.YtbjnkcfkhonkhaaW.PrintLast Go.Proofs.YtbjnkcfkhonkhaaW.PrintMore
set_option linter.unusedVariables false
theorem mat_nat {n : Int} {l : List Int} (h : isMat n l = true) : ∃ (m : Nat) (lN : List Nat), n = m ∧ m ≤ 8 ∧ l = ints lN ∧ (∀ s ∈ lN, s < 2 ^ m) ∧ 0 < lN.length ∧ fails lN = false := by
 unfold isMat at h
 rw [Bool.and_eq_true, Bool.and_eq_true, decide_eq_true_eq] at h
 obtain ⟨⟨h1, h2⟩, h3⟩ := h
 obtain ⟨m, lN, rfl, hm, rfl, hl⟩ := fam_nat h1
 rw [toNat_ints] at h3
 rw [ints_length] at h2
 exact ⟨m, lN, rfl, hm, rfl, hl, h2, by simpa using h3⟩
theorem isSet_nat {m : Nat} {s : Int} (h : isSet (m : Int) s = true) : ∃ x : Nat, s = x ∧ x < 2 ^ m := by
 unfold isSet at h
 rw [decide_eq_true_eq] at h
 obtain ⟨_, _, h1, h2⟩ := h
 rw [Int.toNat_natCast] at h2
 refine ⟨s.toNat, by omega, ?_⟩
 have : ((s.toNat : Nat) : Int) < ((2 ^ m : Nat) : Int) := by push_cast; omega
 exact_mod_cast this
theorem isSet_of {m : Nat} {x : Nat} (hm : m ≤ 8) (h : x < 2 ^ m) : isSet (m : Int) (x : Int) = true := by
 unfold isSet
 rw [decide_eq_true_eq, Int.toNat_natCast]
 refine ⟨by omega, by omega, by omega, ?_⟩
 exact_mod_cast h
theorem full_impl (m : Nat) (hm : m ≤ 8) : impl_FullSet.f (m : Int) = some ((2 ^ m - 1 : Nat) : Int) := by
 have : ∀ m : Nat, m < 9 → impl_FullSet.f (m : Int) = some ((2 ^ m - 1 : Nat) : Int) := by decide +kernel
 exact this m (by omega)
theorem full_spec (m : Nat) (hm : m ≤ 8) : spec_FullSet.f (m : Int) = some ((2 ^ m - 1 : Nat) : Int) := by
 have : ∀ m : Nat, m < 9 → spec_FullSet.f (m : Int) = some ((2 ^ m - 1 : Nat) : Int) := by decide +kernel
 exact this m (by omega)
theorem foldl_filter (p : Nat → Bool) (q : List Nat) : (q.foldl (fun (s : List Int) j => if p j = true then s ++ [(j : Int)] else s) []) = ints (q.filter p) := by
 rw [Gen.foldl_append, List.nil_append]
 rfl
theorem keep_loop (L : Nat → List Int → Int → Option (List Int)) (n : Nat) (p : Nat → Bool)
  (hround : ∀ i s, i < n → s.length ≤ i → ∀ r, Ev (fun k => L k (if p i = true then s ++ [(i : Int)] else s) ((i + 1 : Nat) : Int)) r → Ev (fun k => L k s (i : Int)) r)
  (hend : ∀ k s, L (k + 1) s (n : Int) = some s) : Ev (fun k => L k [] 0) (ints ((List.range' 0 n).filter p)) := by
 rw [← foldl_filter]
 refine Gen.ev_loop L n (fun i s => if p i = true then s ++ [(i : Int)] else s) (fun i s => s.length ≤ i) _ (fun i s hi hP => ⟨?_, hround i s hi hP _⟩) n 0 [] (by omega) (by simp) (fun _ => Gen.ev_at 1 (fun k hk => ?_))
 ·show (if _ then _ else _ : List Int).length ≤ _
  split
  ·simp; omega
  ·omega
 ·obtain ⟨q, rfl⟩ : ∃ q, k = q + 1 := ⟨k - 1, by omega⟩
  exact hend _ _
theorem implSetsOf (m : Nat) (hm : m ≤ 8) (g : Nat → Int → Option Bool) (p : Nat → Bool) (hg : ∀ s : Nat, s < 2 ^ m → Ev (fun k => g k (s : Int)) (p s)) (hmono : ∀ k s, LeO (g k s) (g (k + 1) s)) : Ev (fun k => impl_setsOf.f k (m : Int) (g k)) (ints ((List.range' 0 (2 ^ m)).filter p)) := by
 have h256 := pow_le_256 hm
 have hpos : 0 < 2 ^ m := Nat.pow_pos (by decide)
 have hup : ∀ s : Int, ∀ a d r, g a s = some r → g (a + d) s = some r := by
  intro s a d r h
  induction d with
  | zero => exact h
  | succ d ih => exact hmono _ _ _ ih
 have all : ∀ n : Nat, n ≤ 2 ^ m → ∃ K, ∀ k, K ≤ k → ∀ s : Nat, s < n → g k (s : Int) = some (p s) := by
  intro n
  induction n with
  | zero => exact fun _ => ⟨0, fun k _ s hs => by omega⟩
  | succ n ih =>
   intro hn
   obtain ⟨K, hK⟩ := ih (by omega)
   obtain ⟨K', hK'⟩ := hg n (by omega)
   refine ⟨max K K', fun k hk s hs => ?_⟩
   by_cases e : s = n
   ·subst e
    exact hK' k (by omega)
   ·exact hK k (by omega) s (by omega)
 obtain ⟨K, hK⟩ := all (2 ^ m) (Nat.le_refl _)
 have fixed : ∀ k0, K ≤ k0 → Ev (fun k => impl_setsOf.l0 (g k0) k (m : Int) [] 0) (ints ((List.range' 0 (2 ^ m)).filter p)) := fun k0 hk0 => by
  refine keep_loop (fun k s i => impl_setsOf.l0 (g k0) k (m : Int) s i) (2 ^ m) p (fun i s hi hs r h => Ev.step (fun k => ?_) h) (fun k s => ?_)
  ·simp only [impl_setsOf.l0]
   rw [full_impl m hm]
   simp only [Option.bind_some]
   rw [if_pos (by omega), hK k0 hk0 i hi]
   simp only [Option.bind_some]
   rw [Gen.w64s i (by omega)]
   cases p i with
   | false => rfl
   | true => rw [if_pos rfl, if_pos (by omega), if_pos rfl]
  ·simp only [impl_setsOf.l0]
   rw [full_impl m hm]
   simp only [Option.bind_some]
   rw [if_neg (by omega)]
 have count : ∀ k0, K ≤ k0 → ∀ (d i : Nat) (s : List Int) (k : Nat), i + d = 2 ^ m → d < k → s.length ≤ i → impl_setsOf.l0 (g k0) k (m : Int) s (i : Int) = impl_setsOf.l0 (g K) k (m : Int) s (i : Int) ∧ ∀ e, impl_setsOf.l0 (g k0) (k + e) (m : Int) s (i : Int) = impl_setsOf.l0 (g k0) k (m : Int) s (i : Int) := by
  intro k0 hk0 d
  induction d with
  | zero =>
   intro i s k hi hk hs
   obtain rfl : i = 2 ^ m := by omega
   obtain ⟨k, rfl⟩ : ∃ q, k = q + 1 := ⟨k - 1, by omega⟩
   refine ⟨?_, fun e => ?_⟩
   ·simp only [impl_setsOf.l0]
    rw [full_impl m hm]
    simp only [Option.bind_some]
    rw [if_neg (by omega), if_neg (by omega)]
   ·rw [show k + 1 + e = (k + e) + 1 by omega]
    simp only [impl_setsOf.l0]
    rw [full_impl m hm]
    simp only [Option.bind_some]
    rw [if_neg (by omega), if_neg (by omega)]
  | succ d ih =>
   intro i s k hi hk hs
   obtain ⟨k, rfl⟩ : ∃ q, k = q + 1 := ⟨k - 1, by omega⟩
   obtain ⟨a1, a2⟩ := ih (i + 1) (s ++ [(i : Int)]) k (by omega) (by omega) (by simp; omega)
   obtain ⟨b1, b2⟩ := ih (i + 1) s k (by omega) (by omega) (by omega)
   refine ⟨?_, fun e => ?_⟩
   ·simp only [impl_setsOf.l0]
    rw [full_impl m hm]
    simp only [Option.bind_some]
    simp only [if_pos (show (i : Int) ≤ ((2 ^ m - 1 : Nat) : Int) by omega), if_pos (show s.length < 17592186044416 by omega), hK k0 hk0 i (by omega), hK K (Nat.le_refl _) i (by omega), Gen.w64s i (by omega), Option.bind_some, a1, b1]
   ·rw [show k + 1 + e = (k + e) + 1 by omega]
    simp only [impl_setsOf.l0]
    rw [full_impl m hm]
    simp only [Option.bind_some]
    simp only [if_pos (show (i : Int) ≤ ((2 ^ m - 1 : Nat) : Int) by omega), if_pos (show s.length < 17592186044416 by omega), hK k0 hk0 i (by omega), Gen.w64s i (by omega), Option.bind_some, a2, b2]
 obtain ⟨K2, hK2⟩ := fixed K (Nat.le_refl _)
 refine ⟨max (max K K2) (2 ^ m + 1), fun k hk => ?_⟩
 show impl_setsOf.l0 (g k) k (m : Int) [] ((0 : Nat) : Int) = _
 rw [(count k (by omega) (2 ^ m) 0 [] k (by omega) (by omega) (by simp)).1]
 exact hK2 k (by omega)
end Go.Proofs.Ytbjnkcfkhonkhaa.Flat
end
section
namespace Go.Proofs.Ytbjnkcfkhonkhaa.Mini
open Go.RowKit Go.Proofs.Ytbjnkcfkhonkhaa.Pr Go.Proofs.Ytbjnkcfkhonkhaa.Sets Go.Proofs.Ytbjnkcfkhonkhaa.Mat Go.Proofs.Ytbjnkcfkhonkhaa.Rank Go.Proofs.Ytbjnkcfkhonkhaa.Flat Go.Proofs.Ytbjnkcfkhonkhaa.Sort Go.Proofs.Ytbjnkcfkhonkhaa.Indep Go.Proofs.YtbjnkcfkhonkhaaW.PrintWords Go.Proofs.YtbjnkcfkhonkhaaW.PrintLast Go.Proofs.YtbjnkcfkhonkhaaW.PrintMore
set_option linter.unusedVariables false
def kept (p : Nat → Nat → Bool) (l : List Nat) : List Int := sset (ints (l.filter fun s => !l.any fun t => !decide (t = s) && p t s))
theorem mem_ints {l : List Nat} {x : Int} : x ∈ ints l ↔ ∃ y ∈ l, x = (y : Int) := by
 unfold ints
 rw [List.mem_map]
 constructor
 ·rintro ⟨y, h, rfl⟩; exact ⟨y, h, rfl⟩
 ·rintro ⟨y, h, rfl⟩; exact ⟨y, h, rfl⟩
theorem sset_nat (l : List Nat) : ∃ q : List Nat, sset (ints l) = ints q ∧ (∀ s, s ∈ q ↔ s ∈ l) ∧ q.length ≤ l.length := by
 have h : ∀ x ∈ sset (ints l), ∃ y ∈ l, x = (y : Int) := fun x hx => mem_ints.1 ((mem_sset _ _).1 hx)
 refine ⟨(sset (ints l)).map Int.toNat, ?_, fun s => ?_, ?_⟩
 ·unfold ints
  rw [List.map_map]
  conv => lhs; rw [← List.map_id (sset _)]
  refine List.map_congr_left fun x hx => ?_
  obtain ⟨y, _, rfl⟩ := h x hx
  rfl
 ·rw [List.mem_map]
  constructor
  ·rintro ⟨x, hx, rfl⟩
   obtain ⟨y, hy, rfl⟩ := h x hx
   simpa using hy
  ·intro hs
   exact ⟨(s : Int), (mem_sset _ _).2 (mem_ints.2 ⟨s, hs, rfl⟩), by simp⟩
 ·rw [List.length_map]
  have := sset_length (ints l)
  rw [ints_length] at this
  exact this
end Go.Proofs.Ytbjnkcfkhonkhaa.Mini
end
section
namespace Go.Proofs.Ytbjnkcfkhonkhaa.Whit
open Go.RowKit Go.Proofs.Ytbjnkcfkhonkhaa.Pr Go.Proofs.Ytbjnkcfkhonkhaa.Sets Go.Proofs.Ytbjnkcfkhonkhaa.Mat Go.Proofs.Ytbjnkcfkhonkhaa.Rank Go.Proofs.Ytbjnkcfkhonkhaa.Flat Go.Proofs.Ytbjnkcfkhonkhaa.Size Go.Proofs.YtbjnkcfkhonkhaaW.PrintWords Go.Proofs.YtbjnkcfkhonkhaaW.PrintLast Go.Proofs.YtbjnkcfkhonkhaaW.PrintMore
set_option linter.unusedVariables false
theorem mem_256 {m : Nat} {l : List Nat} (hm : m ≤ 8) (hl : ∀ s ∈ l, s < 2 ^ m) : ∀ b ∈ l, b < 256 := fun b hb => Nat.lt_of_lt_of_le (hl b hb) (pow_le_256 hm)
theorem specRankOf (n : Int) (l : List Int) (hn : l.length ≤ 1048576) : Ev (fun k => spec_RankOfMatroid.f k n l) (if isMat n l = true then (top (l.map Int.toNat) : Int) else -1) := by
 unfold spec_RankOfMatroid.f
 refine Ev.bind (specMat n l hn) ?_
 cases h : isMat n l with
 | false => simp only [Bool.false_eq_true, if_false]; exact Ev.now _
 | true =>
  obtain ⟨m, lN, rfl, hm, rfl, hl, h0, _⟩ := mat_nat h
  simp only [if_true, toNat_ints, ints_length, if_pos (show (0 : Int) < (lN.length : Int) by omega)]
  have hr : rd (ints lN) 0 = ((lN.getD 0 0 : Nat) : Int) := ints_rd lN 0
  rw [hr]
  exact Ev.bind (specCountE _ (mem_256 hm hl _ (getD_mem lN 0 0 h0))) (Ev.now _)
end Go.Proofs.Ytbjnkcfkhonkhaa.Whit
end
section
namespace Go.Proofs.Ytbjnkcfkhonkhaa.MinorP
open Go.RowKit Go.Proofs.Ytbjnkcfkhonkhaa.Pr Go.Proofs.Ytbjnkcfkhonkhaa.Sets Go.Proofs.Ytbjnkcfkhonkhaa.Mat Go.Proofs.Ytbjnkcfkhonkhaa.Rank Go.Proofs.Ytbjnkcfkhonkhaa.Flat Go.Proofs.Ytbjnkcfkhonkhaa.Size Go.Proofs.Ytbjnkcfkhonkhaa.Indep Go.Proofs.Ytbjnkcfkhonkhaa.Sort Go.Proofs.Ytbjnkcfkhonkhaa.Aug Go.Proofs.Ytbjnkcfkhonkhaa.Minor Go.Proofs.Ytbjnkcfkhonkhaa.Mini Go.Proofs.YtbjnkcfkhonkhaaW.PrintWords Go.Proofs.YtbjnkcfkhonkhaaW.PrintLast Go.Proofs.YtbjnkcfkhonkhaaW.PrintMore
set_option linter.unusedVariables false
theorem sset_ints {l q : List Nat} (hq : q.Pairwise (· < ·)) (h : ∀ s, s ∈ l ↔ s ∈ q) : sset (ints l) = ints q := by
 refine same_of _ _ (sset_sorted _) ?_ fun x => ?_
 ·unfold ints
  rw [List.pairwise_map]
  exact hq.imp fun h => by omega
 ·rw [mem_sset, mem_ints, mem_ints]
  constructor
  ·rintro ⟨y, hy, rfl⟩; exact ⟨y, (h y).1 hy, rfl⟩
  ·rintro ⟨y, hy, rfl⟩; exact ⟨y, (h y).2 hy, rfl⟩
set_option maxRecDepth 100000 in
theorem diff_addB : ∀ a, a < 256 → ∀ b, b < 256 → diff a b + (a &&& b) = a := by decide +kernel
theorem range_asc (n m : Nat) : (List.range' n m).Pairwise (· < ·) := List.pairwise_lt_range'
theorem isMat_of {m : Nat} (hm : m ≤ 8) {l : List Nat} (hl : ∀ s ∈ l, s < 2 ^ m) (hs : l.Pairwise (· < ·)) (hn : 0 < l.length) (hf : fails l = false) : isMat (m : Int) (ints l) = true := by
 unfold isMat
 rw [toNat_ints, hf, ints_length, decide_eq_true hn, Bool.and_true, Bool.not_false, Bool.and_true]
 unfold fam
 rw [decide_eq_true (show (0 : Int) ≤ (m : Int) ∧ (m : Int) ≤ 8 by omega), Bool.and_true, List.all_eq_true]
 intro i hi
 have hi' := List.mem_range'_1.1 hi
 rw [ints_length] at hi'
 rw [ints_getD, ints_getD, isSet_of hm (hl _ (getD_mem l 0 i (by omega))), Bool.true_and]
 by_cases h0 : i = 0
 ·rw [decide_eq_true h0]; rfl
 ·have := List.pairwise_iff_getElem.1 hs (i - 1) i (by omega) (by omega) (by omega)
  have e1 : l.getD (i - 1) 0 = l[i - 1] := by simp [List.getD, show i - 1 < l.length by omega]
  have e2 : l.getD i 0 = l[i] := by simp [List.getD, show i < l.length by omega]
  have h3 : decide (((l[i - 1] : Nat) : Int) < ((l[i] : Nat) : Int)) = true := decide_eq_true (by omega)
  rw [e1, e2, h3, Bool.or_true]
theorem maxes_asc (m : Nat) (P : Nat → Bool) : (maxes m P).Pairwise (· < ·) := (range_asc _ _).filter _
theorem maxes_length (m : Nat) (hm : m ≤ 8) (P : Nat → Bool) : (maxes m P).length ≤ 256 := by
 unfold maxes
 refine Nat.le_trans (List.length_filter_le _ _) ?_
 rw [List.length_range']
 exact pow_le_256 hm
theorem maxes_isMat {m : Nat} (hm : m ≤ 8) {P : Nat → Bool} (h : Ind m P) : isMat (m : Int) (ints (maxes m P)) = true :=
 isMat_of hm (fun s hs => (mem_maxes.1 hs).1) (maxes_asc m P) (h.some hm) (h.exch hm)
theorem specElem (s j : Nat) (hs : s < 256) (hj : j < 8) : spec_HasElement.f (s : Int) (j : Int) = some (s.testBit j) := by
 unfold spec_HasElement.f spec_l1In.f
 rw [specIsSet, show (8 : Int) = ((8 : Nat) : Int) from rfl, isSet_of (m := 8) (by omega) (x := s) (by omega)]
 simp only [Option.bind_some, if_true]
 rw [if_pos (by omega)]
 simp only [Option.bind_some]
 rw [if_pos (decide_eq_true (by omega)), l2Has s j hs hj]
 rfl
theorem specElements (s : Nat) (hs : s < 256) : Ev (fun k => spec_ElementsOf.f k (s : Int)) (ints (elems s)) := by
 unfold spec_ElementsOf.f
 refine Gen.ev_loop (fun k s3 i => spec_ElementsOf.l0 k (s : Int) s3 i) 8 (fun j s3 => if s.testBit j = true then s3 ++ [(j : Int)] else s3) (fun i s3 => s3.length ≤ i) _ (fun i s3 hi hP => ⟨?_, fun h => Ev.step (fun k => ?_) h⟩) 8 0 [] rfl (by simp) (fun _ => Gen.ev_at 1 (fun k hk => ?_))
 ·by_cases hh : s.testBit i = true
  ·rw [if_pos hh]; simp; omega
  ·rw [if_neg hh]; omega
 ·simp only [spec_ElementsOf.l0]
  rw [if_pos (by omega), specElem s i hs hi]
  simp only [Option.bind_some]
  rw [Gen.w64s i (by omega)]
  by_cases hh : s.testBit i = true
  ·rw [if_pos hh, if_pos (by omega), if_pos hh]
  ·rw [if_neg hh, if_neg hh]
 ·obtain ⟨m, rfl⟩ : ∃ m, k = m + 1 := ⟨k - 1, by omega⟩
  simp only [spec_ElementsOf.l0]
  rw [if_neg (by omega), foldl_elems]
def pkl (K x i : Nat) : Nat := (List.range' 0 i).foldl (fun o k => if x.testBit (nth K k) = true then o ||| 2 ^ k else o) 0
theorem pkl_bit (K x i j : Nat) : (pkl K x i).testBit j = (decide (j < i) && x.testBit (nth K j)) := by
 unfold pkl
 rw [foldl_or, Nat.zero_testBit, Bool.false_or, Bool.eq_iff_iff]
 simp only [List.any_eq_true, List.mem_range'_1, Bool.and_eq_true, decide_eq_true_eq]
 constructor
 ·rintro ⟨k, h1, h2, rfl⟩
  exact ⟨by omega, h2⟩
 ·rintro ⟨h1, h2⟩
  exact ⟨j, by omega, h2, rfl⟩
theorem pkl_lt (K x i : Nat) : pkl K x i < 2 ^ i := by
 apply Nat.lt_pow_two_of_testBit
 intro j hj
 rw [pkl_bit, decide_eq_false (by omega)]
 rfl
theorem pkl_pk (K x : Nat) : pkl K x (cnt K) = pk K x := by
 apply Nat.eq_of_testBit_eq
 intro j
 rw [pkl_bit, pk_bit]
theorem pkl_succ (K x i : Nat) : pkl K x (i + 1) = if x.testBit (nth K i) = true then pkl K x i ||| 2 ^ i else pkl K x i := by
 unfold pkl
 rw [List.range'_concat, List.foldl_append, List.foldl_cons, List.foldl_nil]
 simp
theorem specPack (K x : Nat) (hK : K < 256) (hx : x < 256) : Ev (fun k => spec_PackSet.f k (x : Int) (K : Int)) (pk K x : Int) := by
 unfold spec_PackSet.f
 refine Ev.bind (specElements K hK) ?_
 have hlen : (elems K).length = cnt K := rfl
 have h8 := cnt_le K
 rw [← pkl_pk]
 have key : ∀ d i : Nat, i + d = cnt K → Ev (fun k => spec_PackSet.l0 k (x : Int) (pkl K x i : Int) (ints (elems K)) (i : Int)) (pkl K x (cnt K) : Int) := by
  intro d
  induction d with
  | zero =>
   intro i hi
   obtain rfl : i = cnt K := by omega
   refine Gen.ev_at 1 (fun k hk => ?_)
   obtain ⟨q, rfl⟩ : ∃ q, k = q + 1 := ⟨k - 1, by omega⟩
   simp only [spec_PackSet.l0]
   rw [if_neg (by rw [ints_length, hlen]; omega)]
  | succ d ih =>
   intro i hi
   have hn8 := (idx_nth hK (k := i) (by omega)).2.2
   refine Ev.step (fun k => ?_) (ih (i + 1) (by omega))
   simp only [spec_PackSet.l0]
   rw [if_pos (by rw [ints_length, hlen]; omega), if_pos (by omega), ints_rd]
   show (spec_HasElement.f (x : Int) ((nth K i : Nat) : Int)).bind _ = _
   rw [specElem x _ hx hn8]
   simp only [Option.bind_some]
   rw [Gen.w64s i (by omega), pkl_succ]
   cases hb : x.testBit (nth K i) with
   | false => simp
   | true =>
    simp only [if_true]
    have hlt := pkl_lt K x i
    have hp : 2 ^ i ≤ 256 := pow_le_256 (by omega)
    have he : 2 ^ i + pkl K x i = 2 ^ i ||| pkl K x i := by
     have := Nat.two_pow_add_eq_or_of_lt hlt 1
     simpa using this
    rw [u64_small i (by omega), if_pos (by omega), shl_nat i (by omega), Gen.w64 (by omega) (by omega), Nat.or_comm, ← he]
    congr 1
    push_cast
    omega
 have := key (cnt K) 0 (by omega)
 have h0 : pkl K x 0 = 0 := rfl
 rw [h0] at this
 exact this
theorem implUnpack (K s : Nat) (hK : K < 256) (hs : s < 2 ^ cnt K) : Ev (fun k => impl_UnpackSet.f k (s : Int) (K : Int)) (unpk K s : Int) := by
 have hp := pow_le_256 (cnt_le K)
 unfold impl_UnpackSet.f
 refine Ev.bind (implElements K hK) (Ev.bind (implElements s (by omega)) ?_)
 have he : unpk K s = (List.range' 0 (elems s).length).foldl (fun o i => o ||| 2 ^ nth K ((elems s).getD i 0)) 0 := by
  rw [foldl_index (elems s) (fun o e => o ||| 2 ^ nth K e) 0]
  have e2 : (elems s).foldl (fun o e => o ||| 2 ^ nth K e) 0 = ((elems s).map (nth K)).foldl (fun o e => if (fun _ : Nat => true) e = true then o ||| 2 ^ e else o) 0 := by
   rw [List.foldl_map]
   simp
  rw [e2]
  apply Nat.eq_of_testBit_eq
  intro j
  rw [foldl_or (fun _ => true), unpk_bit hK, Nat.zero_testBit, Bool.false_or, Bool.eq_iff_iff, Bool.and_eq_true, List.any_eq_true]
  constructor
  ·rintro ⟨h1, h2⟩
   obtain ⟨h3, h4⟩ := nth_idx hK h1
   refine ⟨j, List.mem_map.2 ⟨idx K j, ?_, h3⟩, by simp⟩
   unfold elems
   exact List.mem_filter.2 ⟨List.mem_range'_1.2 ⟨by omega, by have := cnt_le K; omega⟩, h2⟩
  ·rintro ⟨x, hx, h1⟩
   obtain ⟨e, he, rfl⟩ := List.mem_map.1 hx
   obtain ⟨h8, hb⟩ := elems_lt he
   have := idx_nth hK (bit_ltn hs hb)
   simp only [Bool.true_and, decide_eq_true_eq] at h1
   rw [← h1, this.1]
   exact ⟨this.2.1, hb⟩
 rw [he]
 refine Gen.ev_loop (fun k (o : Nat) i => impl_UnpackSet.l0 k (ints (elems K)) (o : Int) (ints (elems s)) ((ints (elems s)).length : Int) i) (elems s).length (fun i o => o ||| 2 ^ nth K ((elems s).getD i 0)) (fun i o => o < 256) _ (fun i o hi ho => ⟨?_, fun h => Ev.step (fun k => ?_) h⟩) (elems s).length 0 0 (by omega) (by decide) (fun _ => Gen.ev_at 1 (fun k hk => ?_))
 ·have hm := elems_lt (getD_mem (elems s) 0 i hi)
  exact or_lt (n := 8) ho (pow_lt (idx_nth hK (bit_ltn hs hm.2)).2.2)
 ·have hm := elems_lt (getD_mem (elems s) 0 i hi)
  have hc := bit_ltn hs hm.2
  have hn8 := (idx_nth hK hc).2.2
  have hlen : (elems K).length = cnt K := rfl
  have hll := elems_length s
  have h28 : 2 ^ nth K ((elems s).getD i 0) < 256 := pow_lt (m := 8) hn8
  simp only [impl_UnpackSet.l0]
  rw [if_pos (by rw [ints_length]; omega), if_pos (by omega), if_pos (by rw [ints_length]; omega), ints_rd, if_neg (by rw [ints_length, hlen]; omega), if_pos (by omega), if_pos (by rw [ints_length, hlen]; omega), ints_rd, if_pos (by omega), Gen.w64s i (by omega)]
  show impl_UnpackSet.l0 k _ (Go.bits .or .i64 (o : Int) (shl .i64 1 ((nth K ((elems s).getD i 0) : Nat) : Int))) _ _ _ = _
  rw [shl_nat _ (by omega), or_nat _ _ (by omega) (by omega)]
 ·obtain ⟨q, rfl⟩ : ∃ q, k = q + 1 := ⟨k - 1, by omega⟩
  simp only [impl_UnpackSet.l0]
  rw [if_neg (by rw [ints_length]; omega)]
theorem implMinor (m : Nat) (hm : m ≤ 8) (l : List Nat) (hl : ∀ b ∈ l, b < 2 ^ m) (hn : l.length ≤ 1048576) (K S : Nat) (hK : K < 2 ^ m) (hS : S < 2 ^ m) : Ev (fun k => impl_minor.f k (m : Int) (ints l) (K : Int) (S : Int)) ((cnt K : Int), ints (minor l K S)) := by
 have h256 := pow_le_256 hm
 have hl8 : ∀ b ∈ l, b < 256 := fun b hb => Nat.lt_of_lt_of_le (hl b hb) h256
 have hKS : K ||| S < 2 ^ m := or_lt hK hS
 have hp := pow_le_256 (cnt_le K)
 have hc8 := cnt_le K
 have hr1 := rank_le_cnt l (K ||| S)
 have hr2 := cnt_le (K ||| S)
 have hr3 : rank l S ≤ rank l (K ||| S) := rank_mono (sub_or_right K S)
 unfold impl_minor.f
 refine Ev.bind (implRank m l S (by omega) hl8 hn) ?_
 simp only [or_nat K S (by omega) (by omega)]
 refine Ev.bind (implRank m l (K ||| S) (by omega) hl8 hn) ?_
 simp only [implCount K (by omega), Option.bind_some]
 have hw : wrap64 ((rank l (K ||| S) : Int) - (rank l S : Int)) = ((rank l (K ||| S) - rank l S : Nat) : Int) := by
  rw [Gen.w64 (by omega) (by omega)]
  omega
 rw [hw]
 refine Gen.ev_loop (fun k (s : List Int) i => impl_minor.l0 k (K : Int) (S : Int) (rank l S : Int) ((rank l (K ||| S) - rank l S : Nat) : Int) i (m : Int) (ints l) (cnt K : Int) s) (2 ^ cnt K) (fun i s => if (decide (cnt i + rank l S = rank l (K ||| S)) && decide (rank l (unpk K i ||| S) = rank l (K ||| S))) = true then s ++ [(i : Int)] else s) (fun i s => s.length ≤ i) _ (fun i s hi hP => ⟨?_, fun h => ?_⟩) (2 ^ cnt K) 0 [] (by omega) (by simp) (fun _ => ?_)
 ·show (if _ then _ else _ : List Int).length ≤ _
  split
  ·simp; omega
  ·omega
 ·have hfull := full_impl (cnt K) hc8
  have h1 := Nat.one_le_two_pow (n := cnt K)
  have hu := unpk_lt (s := i) (by omega) hK
  have hus : unpk K i ||| S < 2 ^ m := or_lt hu hS
  by_cases hc : cnt i + rank l S = rank l (K ||| S)
  ·refine Ev.step (f := fun k => (impl_UnpackSet.f k (i : Int) (K : Int)).bind fun t => ((impl_rankIn.f k (m : Int) (ints l) (Go.bits .or .i64 t (S : Int))).bind fun u => (if (wrap64 (u - (rank l S : Int))) = ((rank l (K ||| S) - rank l S : Nat) : Int) then (impl_minor.l0 k (K : Int) (S : Int) (rank l S : Int) ((rank l (K ||| S) - rank l S : Nat) : Int) ((i + 1 : Nat) : Int) (m : Int) (ints l) (cnt K : Int) (s ++ [(i : Int)])) else (impl_minor.l0 k (K : Int) (S : Int) (rank l S : Int) ((rank l (K ||| S) - rank l S : Nat) : Int) ((i + 1 : Nat) : Int) (m : Int) (ints l) (cnt K : Int) s)))) (fun k => ?_) ?_
   ·simp only [impl_minor.l0]
    rw [hfull]
    simp only [Option.bind_some]
    rw [if_pos (by omega), implCount i (by omega)]
    simp only [Option.bind_some]
    rw [if_pos (by omega), Gen.w64s i (by omega)]
    simp only [if_pos (show s.length < 17592186044416 by omega)]
   ·refine Ev.bind (implUnpack K i (by omega) hi) ?_
    simp only [or_nat _ S (show unpk K i < 2 ^ 62 by omega) (show S < 2 ^ 62 by omega)]
    refine Ev.bind (implRank m l _ (by omega) hl8 hn) ?_
    have hge : rank l S ≤ rank l (unpk K i ||| S) := rank_mono (sub_or_right _ _)
    have hle : rank l (unpk K i ||| S) ≤ rank l (K ||| S) := rank_mono (or_mono (unpk_sub (by omega) i) (Sub.refl S))
    have hw2 : wrap64 ((rank l (unpk K i ||| S) : Int) - (rank l S : Int)) = ((rank l (unpk K i ||| S) - rank l S : Nat) : Int) := by
     rw [Gen.w64 (by omega) (by omega)]
     omega
    rw [hw2]
    rw [decide_eq_true hc, Bool.true_and] at h
    by_cases hr : rank l (unpk K i ||| S) = rank l (K ||| S)
    ·rw [decide_eq_true hr] at h
     simp only [hr, if_true] at h ⊢
     exact h
    ·rw [decide_eq_false hr] at h
     simp only [if_neg (show ¬ ((rank l (unpk K i ||| S) - rank l S : Nat) : Int) = ((rank l (K ||| S) - rank l S : Nat) : Int) by omega)]
     simpa using h
  ·rw [decide_eq_false hc, Bool.false_and] at h
   refine Ev.step (fun k => ?_) (show Ev (fun k => impl_minor.l0 k (K : Int) (S : Int) (rank l S : Int) ((rank l (K ||| S) - rank l S : Nat) : Int) ((i + 1 : Nat) : Int) (m : Int) (ints l) (cnt K : Int) s) _ by simpa using h)
   simp only [impl_minor.l0]
   rw [hfull]
   simp only [Option.bind_some]
   rw [if_pos (by omega), implCount i (by omega)]
   simp only [Option.bind_some]
   rw [if_neg (by omega), Gen.w64s i (by omega)]
 ·refine Ev.step (f := fun k => some ((cnt K : Int), ints (minor l K S))) (fun k => ?_) (Ev.now _)
  simp only [impl_minor.l0]
  rw [full_impl (cnt K) hc8]
  simp only [Option.bind_some]
  rw [if_neg (by have := Nat.one_le_two_pow (n := cnt K); omega), foldl_filter]
  rfl
theorem specRankI (n : Int) (l : List Int) (s : Int) (hn : l.length ≤ 1048576) : Ev (fun k => spec_RankOf.f k n l s) (if (isMat n l && isSet n s) = true then (rank (l.map Int.toNat) s.toNat : Int) else -1) := by
 unfold spec_RankOf.f
 refine Ev.bind (specMat n l hn) ?_
 cases hM : isMat n l with
 | false => simp only [Bool.false_eq_true, if_false, Bool.false_and]; exact Ev.now _
 | true =>
  simp only [if_true, specIsSet, Option.bind_some, Bool.true_and]
  obtain ⟨m, lN, rfl, hm, rfl, hl, h0, hf⟩ := mat_nat hM
  cases hs : isSet (m : Int) s with
  | false => simp only [Bool.false_eq_true, if_false]; exact Ev.now _
  | true =>
   obtain ⟨x, rfl, hx⟩ := isSet_nat hs
   have h256 := pow_le_256 hm
   rw [ints_length] at hn
   simp only [if_true, toNat_ints, Int.toNat_natCast]
   exact Ev.bind (specRank m lN x (by omega) (fun b hb => Nat.lt_of_lt_of_le (hl b hb) h256) hn) (Ev.now _)
theorem specPackL (K : Nat) (hK : K < 256) (q : List Nat) (hq : ∀ s ∈ q, s < 256) (hn : q.length ≤ 1048576) : Ev (fun k => spec_l10Pack.f k (K : Int) (ints q)) ((cnt K : Int), sset (ints (q.map (pk K)))) := by
 have fa : ints (q.map (pk K)) = (List.range' 0 q.length).foldl (fun (s : List Int) i => s ++ [((pk K (q.getD i 0) : Nat) : Int)]) [] := by
  have : ∀ (q : List Nat) (f : Nat → Int) (o : List Int), q.foldl (fun (s : List Int) i => s ++ [f i]) o = o ++ q.map f := by
   intro q f
   induction q with
   | nil => intro o; simp
   | cons a q ih => intro o; rw [List.foldl_cons, ih]; simp
  rw [this, List.nil_append]
  unfold ints
  rw [List.map_map, ← List.range_eq_range']
  exact (Gen.map_getD q 0 (fun x => ((pk K x : Nat) : Int))).symm
 unfold spec_l10Pack.f
 refine Gen.ev_loop (fun k (s : List Int) i => spec_l10Pack.l0 k (K : Int) (ints q) s i) q.length (fun i s => s ++ [((pk K (q.getD i 0) : Nat) : Int)]) (fun i s => s.length ≤ i) _ (fun i s hi hP => ⟨by simp; omega, fun h => ?_⟩) q.length 0 [] (by omega) (by simp) (fun _ => ?_)
 ·refine Ev.step (f := fun k => (spec_PackSet.f k ((q.getD i 0 : Nat) : Int) (K : Int)).bind fun t => spec_l10Pack.l0 k (K : Int) (ints q) (s ++ [t]) ((i + 1 : Nat) : Int)) (fun k => ?_) (Ev.bind (specPack K _ hK (hq _ (getD_mem q 0 i hi))) h)
  simp only [spec_l10Pack.l0]
  rw [if_pos (by rw [ints_length]; omega), if_pos (by omega), ints_rd, Gen.w64s i (by omega)]
  simp only [if_pos (show s.length < 17592186044416 by omega)]
 ·rw [← fa]
  refine Ev.step (f := fun k => (spec_CountOf.f k (K : Int)).bind fun t => ((spec_SortSets.f k (ints (q.map (pk K)))).bind fun u => (some (t, u)))) (fun k => ?_) (Ev.bind (specCountE K hK) (Ev.bind (specSort _ (by rw [ints_length, List.length_map]; exact hn)) (Ev.now _)))
  simp only [spec_l10Pack.l0]
  rw [if_neg (by rw [ints_length]; omega)]
theorem full_sub (m : Nat) (hm : m ≤ 8) (s : Nat) (hs : s < 2 ^ m) : wrap64 (((2 ^ m - 1 : Nat) : Int) - (s : Int)) = ((diff (2 ^ m - 1) s : Nat) : Int) := by
 have h256 := pow_le_256 hm
 have hd : ∀ m, m < 9 → ∀ b, b < 256 → b < 2 ^ m → 2 ^ m - 1 - b = diff (2 ^ m - 1) b := by
  intro m hm b hb hlt
  apply Nat.eq_of_testBit_eq
  intro j
  rw [diff_bit, Nat.testBit_two_pow_sub_one, show 2 ^ m - 1 - b = 2 ^ m - (b + 1) by omega, Nat.testBit_two_pow_sub_succ hlt]
 rw [← hd m (by omega) s (by omega) hs, Gen.w64 (by omega) (by omega)]
 omega
section
variable (m : Nat) (hm : m ≤ 8) (l : List Nat) (hl : ∀ b ∈ l, b < 2 ^ m) (hn : l.length ≤ 1048576) (hM : isMat (m : Int) (ints l) = true) (h0 : 0 < l.length) (hf : fails l = false)
include hm hl hn hM
theorem specBases (K : Nat) (hK : K < 2 ^ m) : Ev (fun k => spec_BasesOf.f k (m : Int) (ints l) (K : Int)) (sset (ints ((l.filter fun b => decide (cnt (b &&& K) = rank l K)).map fun b => b &&& K))) := by
 have h256 := pow_le_256 hm
 have hl8 : ∀ b ∈ l, b < 256 := fun b hb => Nat.lt_of_lt_of_le (hl b hb) h256
 unfold spec_BasesOf.f
 simp only [Option.bind_some]
 have hR := specRankI (m : Int) (ints l) (K : Int) (by rw [ints_length]; exact hn)
 rw [hM, isSet_of hm hK, toNat_ints] at hR
 simp only [Bool.and_self, if_true, Int.toNat_natCast] at hR
 refine Ev.bind hR ?_
 simp only [if_neg (show ¬ ((rank l K : Nat) : Int) < 0 by omega)]
 have fl : ∀ (q : List Nat) (o : List Int), q.foldl (fun (s : List Int) b => if (decide (cnt (b &&& K) = rank l K)) = true then s ++ [((b &&& K : Nat) : Int)] else s) o = o ++ ints ((q.filter fun b => decide (cnt (b &&& K) = rank l K)).map fun b => b &&& K) := by
  intro q
  induction q with
  | nil => intro o; simp [ints]
  | cons a q ih =>
   intro o
   rw [List.foldl_cons, ih, List.filter_cons]
   split <;> simp [ints]
 refine Gen.ev_loop (fun k (s : List Int) i => spec_BasesOf.l0 k (K : Int) s (rank l K : Int) i (m : Int) (ints l)) l.length (fun i s => if (decide (cnt (l.getD i 0 &&& K) = rank l K)) = true then s ++ [((l.getD i 0 &&& K : Nat) : Int)] else s) (fun i s => s.length ≤ i) _ (fun i s hi hP => ⟨?_, fun h => ?_⟩) l.length 0 [] (by omega) (by simp) (fun _ => ?_)
 ·show (if _ then _ else _ : List Int).length ≤ _
  split
  ·simp; omega
  ·omega
 ·have hb := hl8 _ (getD_mem l 0 i hi)
  refine Ev.step (f := fun k => (spec_CountOf.f k ((l.getD i 0 &&& K : Nat) : Int)).bind fun t => (if t = (rank l K : Int) then (spec_BasesOf.l0 k (K : Int) (s ++ [((l.getD i 0 &&& K : Nat) : Int)]) (rank l K : Int) ((i + 1 : Nat) : Int) (m : Int) (ints l)) else (spec_BasesOf.l0 k (K : Int) s (rank l K : Int) ((i + 1 : Nat) : Int) (m : Int) (ints l)))) (fun k => ?_) ?_
  ·simp only [spec_BasesOf.l0]
   rw [if_pos (by rw [ints_length]; omega), if_pos (by omega), ints_rd, and_nat _ _ (by omega) (by omega), Gen.w64s i (by omega)]
   simp only [if_pos (show s.length < 17592186044416 by omega)]
  ·refine Ev.bind (specCountE _ (Nat.lt_of_le_of_lt Nat.and_le_left hb)) ?_
   by_cases e : cnt (l.getD i 0 &&& K) = rank l K
   ·rw [decide_eq_true e] at h
    simp only [e, if_true] at h ⊢
    exact h
   ·rw [decide_eq_false e] at h
    simp only [if_neg (show ¬ ((cnt (l.getD i 0 &&& K) : Nat) : Int) = (rank l K : Int) by omega)]
    simpa using h
 ·rw [foldl_index l (fun (s : List Int) b => if (decide (cnt (b &&& K) = rank l K)) = true then s ++ [((b &&& K : Nat) : Int)] else s) [], fl, List.nil_append]
  refine Ev.step (f := fun k => (spec_SortSets.f k (ints ((l.filter fun b => decide (cnt (b &&& K) = rank l K)).map fun b => b &&& K))).bind fun t => some t) (fun k => ?_) (Ev.bind (specSort _ (by rw [ints_length, List.length_map]; exact Nat.le_trans (List.length_filter_le _ _) hn)) (Ev.now _))
  simp only [spec_BasesOf.l0]
  rw [if_neg (by rw [ints_length]; omega)]
include h0 hf
theorem specDelete (s : Nat) (hs : s < 2 ^ m) : Ev (fun k => spec_DeleteSet.f k (m : Int) (ints l) (s : Int)) ((cnt (diff (2 ^ m - 1) s) : Int), ints (restr l (diff (2 ^ m - 1) s))) := by
 have h256 := pow_le_256 hm
 have hl8 : ∀ b ∈ l, b < 256 := fun b hb => Nat.lt_of_lt_of_le (hl b hb) h256
 have hfull : 2 ^ m - 1 < 2 ^ m := by have := Nat.one_le_two_pow (n := m); omega
 have hK : diff (2 ^ m - 1) s < 2 ^ m := diff_lt hfull
 unfold spec_DeleteSet.f
 have hR := specRankI (m : Int) (ints l) (s : Int) (by rw [ints_length]; exact hn)
 rw [hM, isSet_of hm hs] at hR
 simp only [Bool.and_self, if_true] at hR
 refine Ev.bind hR ?_
 simp only [if_neg (show ¬ ((rank ((ints l).map Int.toNat) (s : Int).toNat : Nat) : Int) < 0 by omega), full_spec m hm, Option.bind_some, full_sub m hm s hs]
 refine Ev.bind (specBases m hm l hl hn hM _ hK) ?_
 obtain ⟨q, hq, hmem, hlen⟩ := sset_nat ((l.filter fun b => decide (cnt (b &&& diff (2 ^ m - 1) s) = rank l (diff (2 ^ m - 1) s))).map fun b => b &&& diff (2 ^ m - 1) s)
 rw [hq]
 have hlq : q.length ≤ 1048576 := by
  rw [List.length_map] at hlen
  exact Nat.le_trans hlen (Nat.le_trans (List.length_filter_le _ _) hn)
 refine Ev.bind (specPackL _ (by omega) q (fun x hx => ?_) hlq) ?_
 ·obtain ⟨b, _, rfl⟩ := List.mem_map.1 ((hmem x).1 hx)
  exact Nat.lt_of_le_of_lt Nat.and_le_right (by omega)
 ·rw [sset_ints (maxes_asc _ _) (q := restr l (diff (2 ^ m - 1) s)) fun x => ?_]
  ·exact Ev.now _
  ·rw [mem_restr hm hl h0 hf hK, List.mem_map]
   constructor
   ·rintro ⟨y, hy, rfl⟩
    obtain ⟨b, hb, rfl⟩ := List.mem_map.1 ((hmem y).1 hy)
    obtain ⟨hb1, hb2⟩ := List.mem_filter.1 hb
    exact ⟨b, hb1, by simpa using hb2, rfl⟩
   ·rintro ⟨b, hb1, hb2, rfl⟩
    exact ⟨b &&& diff (2 ^ m - 1) s, (hmem _).2 (List.mem_map.2 ⟨b, List.mem_filter.2 ⟨hb1, by simpa using hb2⟩, rfl⟩), rfl⟩
omit h0 hf in
theorem specContract (s : Nat) (hs : s < 2 ^ m) : Ev (fun k => spec_ContractSet.f k (m : Int) (ints l) (s : Int)) ((cnt (diff (2 ^ m - 1) s) : Int), sset (ints (((l.filter fun b => decide (cnt (b &&& s) = rank l s)).map fun b => diff b s).map (pk (diff (2 ^ m - 1) s))))) := by
 have h256 := pow_le_256 hm
 have hl8 : ∀ b ∈ l, b < 256 := fun b hb => Nat.lt_of_lt_of_le (hl b hb) h256
 have hfull : 2 ^ m - 1 < 2 ^ m := by have := Nat.one_le_two_pow (n := m); omega
 have hK : diff (2 ^ m - 1) s < 2 ^ m := diff_lt hfull
 unfold spec_ContractSet.f
 have hR := specRankI (m : Int) (ints l) (s : Int) (by rw [ints_length]; exact hn)
 rw [hM, isSet_of hm hs, toNat_ints] at hR
 simp only [Bool.and_self, if_true, Int.toNat_natCast] at hR
 refine Ev.bind hR ?_
 simp only [if_neg (show ¬ ((rank l s : Nat) : Int) < 0 by omega)]
 have fl : ∀ (q : List Nat) (o : List Int), q.foldl (fun (u : List Int) b => if (decide (cnt (b &&& s) = rank l s)) = true then u ++ [((diff b s : Nat) : Int)] else u) o = o ++ ints ((q.filter fun b => decide (cnt (b &&& s) = rank l s)).map fun b => diff b s) := by
  intro q
  induction q with
  | nil => intro o; simp [ints]
  | cons a q ih =>
   intro o
   rw [List.foldl_cons, ih, List.filter_cons]
   split <;> simp [ints]
 refine Gen.ev_loop (fun k (u : List Int) i => spec_ContractSet.l0 k (s : Int) (rank l s : Int) u i (m : Int) (ints l)) l.length (fun i u => if (decide (cnt (l.getD i 0 &&& s) = rank l s)) = true then u ++ [((diff (l.getD i 0) s : Nat) : Int)] else u) (fun i u => u.length ≤ i) _ (fun i u hi hP => ⟨?_, fun h => ?_⟩) l.length 0 [] (by omega) (by simp) (fun _ => ?_)
 ·show (if _ then _ else _ : List Int).length ≤ _
  split
  ·simp; omega
  ·omega
 ·have hb := hl8 _ (getD_mem l 0 i hi)
  have hds : wrap64 (((l.getD i 0 : Nat) : Int) - ((l.getD i 0 &&& s : Nat) : Int)) = ((diff (l.getD i 0) s : Nat) : Int) := by
   have hle : l.getD i 0 &&& s ≤ l.getD i 0 := Nat.and_le_left
   have hx : diff (l.getD i 0) s + (l.getD i 0 &&& s) = l.getD i 0 := diff_addB _ hb s (by omega)
   rw [Gen.w64 (by omega) (by omega)]
   omega
  refine Ev.step (f := fun k => (spec_CountOf.f k ((l.getD i 0 &&& s : Nat) : Int)).bind fun t => (if t = (rank l s : Int) then (spec_ContractSet.l0 k (s : Int) (rank l s : Int) (u ++ [((diff (l.getD i 0) s : Nat) : Int)]) ((i + 1 : Nat) : Int) (m : Int) (ints l)) else (spec_ContractSet.l0 k (s : Int) (rank l s : Int) u ((i + 1 : Nat) : Int) (m : Int) (ints l)))) (fun k => ?_) ?_
  ·simp only [spec_ContractSet.l0]
   rw [if_pos (by rw [ints_length]; omega), if_pos (by omega), ints_rd, and_nat _ _ (by omega) (by omega), Gen.w64s i (by omega), hds]
   simp only [if_pos (show u.length < 17592186044416 by omega)]
  ·refine Ev.bind (specCountE _ (Nat.lt_of_le_of_lt Nat.and_le_left hb)) ?_
   by_cases e : cnt (l.getD i 0 &&& s) = rank l s
   ·rw [decide_eq_true e] at h
    simp only [e, if_true] at h ⊢
    exact h
   ·rw [decide_eq_false e] at h
    simp only [if_neg (show ¬ ((cnt (l.getD i 0 &&& s) : Nat) : Int) = (rank l s : Int) by omega)]
    simpa using h
 ·rw [foldl_index l (fun (u : List Int) b => if (decide (cnt (b &&& s) = rank l s)) = true then u ++ [((diff b s : Nat) : Int)] else u) [], fl, List.nil_append]
  refine Ev.step (f := fun k => (spec_l10Pack.f k ((diff (2 ^ m - 1) s : Nat) : Int) (ints ((l.filter fun b => decide (cnt (b &&& s) = rank l s)).map fun b => diff b s))).bind fun bt => some (bt.1, bt.2)) (fun k => ?_) (Ev.bind (specPackL _ (by omega) _ (fun x hx => ?_) (by rw [List.length_map]; exact Nat.le_trans (List.length_filter_le _ _) hn)) (Ev.now _))
  ·simp only [spec_ContractSet.l0]
   rw [if_neg (by rw [ints_length]; omega), full_spec m hm]
   simp only [Option.bind_some]
   rw [full_sub m hm s hs]
  ·obtain ⟨b, hb, rfl⟩ := List.mem_map.1 hx
   exact diff_lt (n := 8) (hl8 b (List.mem_filter.1 hb).1)
theorem specMinor (g s : Nat) (hg : g < 2 ^ m) (hs : s < 2 ^ m) (hd : g &&& s = 0) : Ev (fun k => spec_MinorOf.f k (m : Int) (ints l) (g : Int) (s : Int)) ((cnt (diff (diff (2 ^ m - 1) g) s) : Int), ints (minor l (diff (diff (2 ^ m - 1) g) s) s), true) := by
 have h256 := pow_le_256 hm
 have hfull : 2 ^ m - 1 < 2 ^ m := by have := Nat.one_le_two_pow (n := m); omega
 have hK1 : diff (2 ^ m - 1) g < 2 ^ m := diff_lt hfull
 have hK : diff (diff (2 ^ m - 1) g) s < 2 ^ m := diff_lt hK1
 have hbits : ∀ j, g.testBit j = true → s.testBit j = false := fun j hj => by
  have := congrArg (fun x => x.testBit j) hd
  simp only [Nat.testBit_and, hj, Bool.true_and, Nat.zero_testBit] at this
  exact this
 have hKS : diff (diff (2 ^ m - 1) g) s ||| s = diff (2 ^ m - 1) g := by
  apply Nat.eq_of_testBit_eq
  intro j
  rw [Nat.testBit_or, diff_bit]
  cases hsj : s.testBit j with
  | false => simp
  | true =>
   rw [Bool.or_true, diff_bit, Nat.testBit_two_pow_sub_one, decide_eq_true (bit_ltn hs hsj)]
   cases hgj : g.testBit j with
   | false => rfl
   | true => rw [hbits j hgj] at hsj; exact Bool.noConfusion hsj
 have hrk : ∀ x : Nat, x < 2 ^ m → Ev (fun k => spec_RankOf.f k (m : Int) (ints l) (x : Int)) (rank l x : Int) := fun x hx => by
  have hR := specRankI (m : Int) (ints l) (x : Int) (by rw [ints_length]; exact hn)
  rw [hM, isSet_of hm hx, toNat_ints] at hR
  simpa using hR
 unfold spec_MinorOf.f
 refine Ev.bind (hrk g hg) ?_
 simp only [if_neg (show ¬ ((rank l g : Nat) : Int) < 0 by omega)]
 refine Ev.bind (hrk s hs) ?_
 simp only [if_neg (show ¬ ((rank l s : Nat) : Int) < 0 by omega), and_nat g s (show g < 2 ^ 62 by omega) (show s < 2 ^ 62 by omega), hd]
 refine Ev.step (f := fun k => (spec_DeleteSet.f k (m : Int) (ints l) (g : Int)).bind fun bt678 => ((spec_FullSet.f (m : Int)).bind fun t682 => ((spec_PackSet.f k (s : Int) (wrap64 (t682 - (g : Int)))).bind fun t683 => ((spec_ContractSet.f k bt678.1 bt678.2 t683).bind fun bt684 => (some (bt684.1, bt684.2, true)))))) (fun k => ?_) ?_
 ·simp only [spec_MinorOf.j0]
  rw [if_neg (by decide)]
 ·refine Ev.bind (specDelete m hm l hl hn hM h0 hf g hg) ?_
  simp only [full_spec m hm, Option.bind_some, full_sub m hm g hg]
  refine Ev.bind (specPack _ s (by omega) (by omega)) ?_
  have hI := restr_ind hm hl h0 hf hK1
  have hDl : ∀ b ∈ restr l (diff (2 ^ m - 1) g), b < 2 ^ cnt (diff (2 ^ m - 1) g) := fun b hb => (mem_maxes.1 hb).1
  have hc8 := cnt_le (diff (2 ^ m - 1) g)
  refine Ev.bind (specContract (cnt (diff (2 ^ m - 1) g)) hc8 (restr l (diff (2 ^ m - 1) g)) hDl (by have := maxes_length _ hc8 (fun s => indep l (unpk (diff (2 ^ m - 1) g) s)); exact Nat.le_trans this (by decide)) (maxes_isMat hc8 hI) (pk (diff (2 ^ m - 1) g) s) (pk_lt _)) ?_
  have hmb := mem_both hm hl h0 hf hK hs (fun j hj => by rw [diff_bit, Bool.and_eq_true] at hj; simpa using hj.2)
  rw [hKS] at hmb
  rw [sset_ints (q := minor l (diff (diff (2 ^ m - 1) g) s) s) ((range_asc _ _).filter _) fun x => ?_]
  ·have hcc : cnt (diff (2 ^ cnt (diff (2 ^ m - 1) g) - 1) (pk (diff (2 ^ m - 1) g) s)) = cnt (diff (diff (2 ^ m - 1) g) s) := by
    have h18 : diff (2 ^ m - 1) g < 256 := by omega
    have hK' : diff (2 ^ cnt (diff (2 ^ m - 1) g) - 1) (pk (diff (2 ^ m - 1) g) s) = pk (diff (2 ^ m - 1) g) (diff (diff (2 ^ m - 1) g) s) := by
     apply Nat.eq_of_testBit_eq
     intro k
     rw [diff_bit, Nat.testBit_two_pow_sub_one, pk_bit, pk_bit, diff_bit]
     by_cases hk : k < cnt (diff (2 ^ m - 1) g)
     ·rw [decide_eq_true hk, (idx_nth h18 hk).2.1]
      simp
     ·rw [decide_eq_false hk]
      rfl
    rw [hK', cnt_pk h18 (sub_diff _ _)]
   rw [hcc]
   exact Ev.now _
  ·rw [← hmb x, List.mem_map]
   constructor
   ·rintro ⟨y, hy, rfl⟩
    obtain ⟨b, hb, rfl⟩ := List.mem_map.1 hy
    obtain ⟨hb1, hb2⟩ := List.mem_filter.1 hb
    exact ⟨b, hb1, by simpa using hb2, rfl⟩
   ·rintro ⟨b, hb1, hb2, rfl⟩
    exact ⟨_, List.mem_map.2 ⟨b, List.mem_filter.2 ⟨hb1, by simpa using hb2⟩, rfl⟩, rfl⟩
end
end Go.Proofs.Ytbjnkcfkhonkhaa.MinorP
end
section
namespace Go.Proofs.Ytbjnkcfkhonkhaa.Count
open Go.RowKit Go.Proofs.Ytbjnkcfkhonkhaa.Pr Go.Proofs.Ytbjnkcfkhonkhaa.Sets Go.Proofs.Ytbjnkcfkhonkhaa.Mat Go.Proofs.Ytbjnkcfkhonkhaa.Rank Go.Proofs.Ytbjnkcfkhonkhaa.Flat Go.Proofs.YtbjnkcfkhonkhaaW.PrintWords Go.Proofs.YtbjnkcfkhonkhaaW.PrintLast Go.Proofs.YtbjnkcfkhonkhaaW.PrintMore
set_option linter.unusedVariables false
def ofSize (m : Nat) (r : Int) : List Nat := (List.range' 0 (2 ^ m)).filter fun s => decide ((cnt s : Int) = r)
theorem ofSize_length (m : Nat) (r : Int) : (ofSize m r).length ≤ 2 ^ m := by
 refine Nat.le_trans (List.length_filter_le _ _) ?_
 rw [List.length_range']
 exact Nat.le_refl _
theorem implUnif (m : Nat) (hm : m ≤ 8) (r : Int) (h0 : 0 ≤ r) (h1 : r ≤ m) : Ev (fun k => impl_Uniform.f k r (m : Int)) ((m : Int), ints (ofSize m r)) := by
 have h256 := pow_le_256 hm
 have hs : impl_isSize.f (m : Int) = some true := by
  unfold impl_isSize.f
  rw [if_pos (by omega), decide_eq_true (by omega)]
 unfold impl_Uniform.f
 simp only [hs, Option.bind_some, if_true, if_neg (show ¬ r < 0 by omega), if_neg (show ¬ r > (m : Int) by omega)]
 refine Ev.bind (implSetsOf m hm (fun _ s => impl_Uniform_1.f r s) (fun s => decide ((cnt s : Int) = r)) (fun s hs => ?_) (fun _ _ => LeO.refl _)) (Ev.now _)
 unfold impl_Uniform_1.f
 rw [implCount s (by omega)]
 exact Ev.now _
theorem specUnif (m : Nat) (hm : m ≤ 8) (r : Int) (h0 : 0 ≤ r) (h1 : r ≤ m) : Ev (fun k => spec_Uniform.f k r (m : Int)) ((m : Int), ints (ofSize m r)) := by
 have h256 := pow_le_256 hm
 have hpos : 0 < 2 ^ m := Nat.pow_pos (by decide)
 have i1 : spec_l1In.f (m : Int) 0 8 = some true := by
  unfold spec_l1In.f
  rw [if_pos (by omega), decide_eq_true (by omega)]
 have i2 : spec_l1In.f r 0 (m : Int) = some true := by
  unfold spec_l1In.f
  rw [if_pos (by omega), decide_eq_true (by omega)]
 unfold spec_Uniform.f
 simp only [i1, i2, Option.bind_some, if_true, Bool.not_true]
 refine Ev.step (f := fun k => spec_Uniform.l0 k r (m : Int) 0 (m : Int) []) (fun k => ?_) ?_
 ·simp only [spec_Uniform.j0]
  rw [if_neg (by decide)]
 ·have e : ints (ofSize m r) = (List.range' 0 (2 ^ m)).foldl (fun (s : List Int) j => if decide ((cnt j : Int) = r) = true then s ++ [(j : Int)] else s) [] := (foldl_filter _ _).symm
  rw [e]
  refine Gen.ev_loop (fun k (s : List Int) i => spec_Uniform.l0 k r (m : Int) i (m : Int) s) (2 ^ m) (fun i s => if decide ((cnt i : Int) = r) = true then s ++ [(i : Int)] else s) (fun i s => s.length ≤ i) _ (fun i s hi hP => ⟨?_, fun h => ?_⟩) (2 ^ m) 0 [] (by omega) (by simp) (fun _ => Gen.ev_at 1 (fun k hk => ?_))
  ·split
   ·simp; omega
   ·omega
  ·refine Ev.step (f := fun k => (spec_CountOf.f k (i : Int)).bind fun t226 => (if t226 = r then (spec_Uniform.l0 k r (m : Int) ((i + 1 : Nat) : Int) (m : Int) (s ++ [(i : Int)])) else (spec_Uniform.l0 k r (m : Int) ((i + 1 : Nat) : Int) (m : Int) s))) (fun k => ?_) ?_
   ·simp only [spec_Uniform.l0]
    rw [full_spec m hm]
    simp only [Option.bind_some]
    rw [if_pos (by omega), Gen.w64s i (by omega)]
    simp only [if_pos (show s.length < 17592186044416 by omega)]
   ·refine Ev.bind (specCountE i (by omega)) ?_
    by_cases hx : (cnt i : Int) = r
    ·rw [if_pos (decide_eq_true hx)] at h
     simp only [if_pos hx]
     exact h
    ·rw [if_neg (by rw [decide_eq_true_eq]; exact hx)] at h
     simp only [if_neg hx]
     exact h
  ·obtain ⟨q, rfl⟩ : ∃ q, k = q + 1 := ⟨k - 1, by omega⟩
   simp only [spec_Uniform.l0]
   rw [full_spec m hm]
   simp only [Option.bind_some]
   rw [if_neg (by omega)]
end Go.Proofs.Ytbjnkcfkhonkhaa.Count
end
section
namespace Go.Proofs.Ytbjnkcfkhonkhaa.Find
open Go.RowKit Go.Proofs.Ytbjnkcfkhonkhaa.Pr Go.Proofs.Ytbjnkcfkhonkhaa.Sets Go.Proofs.Ytbjnkcfkhonkhaa.Mat Go.Proofs.Ytbjnkcfkhonkhaa.Rank Go.Proofs.Ytbjnkcfkhonkhaa.Flat Go.Proofs.Ytbjnkcfkhonkhaa.Size Go.Proofs.Ytbjnkcfkhonkhaa.Indep Go.Proofs.Ytbjnkcfkhonkhaa.Sort Go.Proofs.Ytbjnkcfkhonkhaa.Aug Go.Proofs.Ytbjnkcfkhonkhaa.Minor Go.Proofs.Ytbjnkcfkhonkhaa.Mini Go.Proofs.Ytbjnkcfkhonkhaa.MinorP Go.Proofs.Ytbjnkcfkhonkhaa.Whit Go.Proofs.Ytbjnkcfkhonkhaa.Count Go.Proofs.YtbjnkcfkhonkhaaW.PrintWords Go.Proofs.YtbjnkcfkhonkhaaW.PrintLast Go.Proofs.YtbjnkcfkhonkhaaW.PrintMore
set_option linter.unusedVariables false
theorem drop_eq {a b : List Int} {i : Nat} (hl : a.length = b.length) (h : i < a.length) : (a.drop i = b.drop i) ↔ (a.getD i 0 = b.getD i 0 ∧ a.drop (i + 1) = b.drop (i + 1)) := by
 rw [List.drop_eq_getElem_cons h, List.drop_eq_getElem_cons (show i < b.length by omega), List.cons.injEq]
 have e1 : a.getD i 0 = a[i] := by simp [List.getD, h]
 have e2 : b.getD i 0 = b[i] := by simp [List.getD, show i < b.length by omega]
 rw [e1, e2]
theorem same_loop (a b : List Int) (hl : a.length = b.length) (hn : a.length ≤ 1048576) (L : Nat → Int → Option Bool)
  (hstep : ∀ k i, i < a.length → L (k + 1) (i : Int) = if a.getD i 0 = b.getD i 0 then L k ((i + 1 : Nat) : Int) else some false)
  (hend : ∀ k, L (k + 1) (a.length : Int) = some true) : Ev (fun k => L k 0) (decide (a = b)) := by
 have key : ∀ d i : Nat, i + d = a.length → Ev (fun k => L k (i : Int)) (decide (a.drop i = b.drop i)) := by
  intro d
  induction d with
  | zero =>
   intro i hi
   obtain rfl : i = a.length := by omega
   rw [List.drop_length, hl, List.drop_length, decide_eq_true rfl, ← hl]
   exact Ev.step (f := fun _ => some true) (fun k => hend k) (Ev.now _)
  | succ d ih =>
   intro i hi
   have hlt : i < a.length := by omega
   have hd := drop_eq (i := i) hl hlt
   by_cases e : a.getD i 0 = b.getD i 0
   ·rw [show decide (a.drop i = b.drop i) = decide (a.drop (i + 1) = b.drop (i + 1)) by rw [decide_eq_decide, hd]; exact ⟨fun h => h.2, fun h => ⟨e, h⟩⟩]
    refine Ev.step (fun k => ?_) (ih (i + 1) (by omega))
    rw [hstep k i hlt, if_pos e]
   ·rw [decide_eq_false (fun h => e (hd.1 h).1)]
    refine Ev.step (f := fun _ => some false) (fun k => ?_) (Ev.now _)
    rw [hstep k i hlt, if_neg e]
 have := key a.length 0 (by omega)
 simpa using this
theorem implEq (n n' : Int) (a b : List Int) (hn : a.length ≤ 1048576) : Ev (fun k => impl_EqualMatroid.f k n a n' b) (decide (n = n') && decide (a = b)) := by
 unfold impl_EqualMatroid.f
 by_cases e : n = n'
 ·simp only [if_pos e, decide_eq_true e, Bool.true_and]
  refine Ev.bind ?_ (Ev.now _)
  unfold slices_Equal_int_int.f
  by_cases hl : a.length = b.length
  ·simp only [if_pos (show (a.length : Int) = (b.length : Int) by omega)]
   refine same_loop a b hl hn (fun k i => slices_Equal_int_int.l0 k a b (a.length : Int) i) (fun k i hi => ?_) (fun k => ?_)
   ·simp only [slices_Equal_int_int.l0]
    rw [if_pos (by omega), if_pos (by omega), if_pos (by omega), if_pos (by omega), Gen.rd_nat, Gen.rd_nat, Gen.w64s i (by omega)]
   ·simp only [slices_Equal_int_int.l0]
    rw [if_neg (by omega)]
  ·simp only [if_neg (show ¬ (a.length : Int) = (b.length : Int) by omega)]
   rw [decide_eq_false (fun h => hl (by rw [h]))]
   exact Ev.now _
 ·simp only [if_neg e, decide_eq_false e, Bool.false_and]
  exact Ev.now _
theorem specEq (n n' : Int) (a b : List Int) (hn : a.length ≤ 1048576) : Ev (fun k => spec_EqualMatroid.f k n a n' b) (decide (n = n') && decide (a = b)) := by
 unfold spec_EqualMatroid.f
 by_cases e : n = n'
 ·simp only [if_pos e, decide_eq_true e, Bool.true_and]
  by_cases hl : a.length = b.length
  ·refine Ev.step (f := fun k => spec_EqualMatroid.l0 k 0 n a n' b) (fun k => ?_) ?_
   ·simp only [spec_EqualMatroid.j0]
    rw [if_neg (by simp; omega)]
   ·refine same_loop a b hl hn (fun k i => spec_EqualMatroid.l0 k i n a n' b) (fun k i hi => ?_) (fun k => ?_)
    ·simp only [spec_EqualMatroid.l0]
     rw [if_pos (by omega), if_pos (by omega), if_pos (by omega), Gen.rd_nat, Gen.rd_nat, Gen.w64s i (by omega)]
    ·simp only [spec_EqualMatroid.l0]
     rw [if_neg (by omega)]
  ·rw [decide_eq_false (fun h => hl (by rw [h]))]
   refine Ev.step (f := fun _ => some false) (fun k => ?_) (Ev.now _)
   simp only [spec_EqualMatroid.j0]
   rw [if_pos (by simp; omega)]
 ·simp only [if_neg e, decide_eq_false e, Bool.false_and]
  refine Ev.step (f := fun _ => some false) (fun k => ?_) (Ev.now _)
  simp only [spec_EqualMatroid.j0]
  rw [if_pos (by trivial)]
def search (q : Nat → Nat → Bool) (M : Nat) : Nat → Nat → Int × Int × Bool
  | 0, _ => (0, 0, false)
  | d + 1, g => match (List.range' 0 M).find? (q g) with
    | some s => ((g : Int), (s : Int), true)
    | none => search q M d (g + 1)
theorem find_loop {γ : Type} (L : Nat → Int → Option γ) (M : Nat) (p : Nat → Bool) (v : Nat → γ) (r : γ)
  (hyes : ∀ i, i < M → p i = true → Ev (fun k => L k (i : Int)) (v i))
  (hno : ∀ i, i < M → p i = false → ∀ x, Ev (fun k => L k ((i + 1 : Nat) : Int)) x → Ev (fun k => L k (i : Int)) x)
  (hend : Ev (fun k => L k (M : Int)) r) : Ev (fun k => L k 0) (match (List.range' 0 M).find? p with | some s => v s | none => r) := by
 have key : ∀ d i : Nat, i + d = M → Ev (fun k => L k (i : Int)) (match (List.range' i d).find? p with | some s => v s | none => r) := by
  intro d
  induction d with
  | zero =>
   intro i hi
   obtain rfl : i = M := by omega
   simpa using hend
  | succ d ih =>
   intro i hi
   rw [List.range'_succ, List.find?_cons]
   cases hp : p i with
   | true => exact hyes i (by omega) hp
   | false => exact hno i (by omega) hp _ (ih (i + 1) (by omega))
 exact key M 0 (by omega)
def want (m : Nat) (l : List Nat) (n : Int) (nb : List Int) (g s : Nat) : Bool := decide (g &&& s = 0) && (decide ((cnt g : Int) + (cnt s : Int) + n = (m : Int)) && (decide ((cnt (diff (diff (2 ^ m - 1) g) s) : Int) = n) && decide (ints (minor l (diff (diff (2 ^ m - 1) g) s) s) = nb)))
def findI (a : Int) (la : List Int) (n : Int) (nb : List Int) : Int × Int × Bool := if (isMat a la && isMat n nb) = true then search (want a.toNat (la.map Int.toNat) n nb) (2 ^ a.toNat) (2 ^ a.toNat) 0 else (0, 0, false)
theorem minor_length (l : List Nat) (K S : Nat) : (ints (minor l K S)).length ≤ 1048576 := by
 rw [ints_length]
 unfold minor
 refine Nat.le_trans (List.length_filter_le _ _) ?_
 rw [List.length_range']
 exact Nat.le_trans (pow_le_256 (cnt_le K)) (by decide)
theorem bne_true {a b : Int} (h : a ≠ b) : (a != b) = true := by simpa using h
theorem bne_false {a b : Int} (h : a = b) : (a != b) = false := by simpa using h
theorem implFind (a : Int) (la : List Int) (n : Int) (nb : List Int) (hn : la.length ≤ 1048576) (hnb : nb.length ≤ 1048576) : Ev (fun k => impl_FindMinor.f k a la n nb) (findI a la n nb) := by
 unfold impl_FindMinor.f findI
 refine Ev.bind (implMat a la hn) ?_
 cases hM : isMat a la with
 | false =>
  simp only [Bool.false_eq_true, if_false, Bool.false_and]
  refine Ev.step (f := fun _ => some (0, 0, false)) (fun k => ?_) (Ev.now _)
  simp only [impl_FindMinor.j0]
  rw [if_pos (by trivial)]
 | true =>
  simp only [if_true, Bool.true_and]
  refine Ev.bind (implMat n nb hnb) ?_
  cases hN : isMat n nb with
  | false =>
   simp only [Bool.false_eq_true, if_false]
   refine Ev.step (f := fun _ => some (0, 0, false)) (fun k => ?_) (Ev.now _)
   simp only [impl_FindMinor.j0]
   rw [if_pos (by trivial)]
  | true =>
   simp only [if_true]
   obtain ⟨m, l, rfl, hm, rfl, hl, h0, hf⟩ := mat_nat hM
   rw [ints_length] at hn
   rw [toNat_ints, Int.toNat_natCast]
   have h256 := pow_le_256 hm
   have h1 := Nat.one_le_two_pow (n := m)
   have hn8 : 0 ≤ n ∧ n ≤ 8 := by
    obtain ⟨m', _, rfl, hm', _⟩ := mat_nat hN
    omega
   refine Ev.step (f := fun k => impl_FindMinor.l0 k ((2 ^ m - 1 : Nat) : Int) 0 (m : Int) (ints l) n nb) (fun k => ?_) ?_
   ·simp only [impl_FindMinor.j0]
    rw [if_neg (by decide), full_impl m hm]
    rfl
   ·have key : ∀ d g : Nat, g + d = 2 ^ m → Ev (fun k => impl_FindMinor.l0 k ((2 ^ m - 1 : Nat) : Int) (g : Int) (m : Int) (ints l) n nb) (search (want m l n nb) (2 ^ m) d g) := by
     intro d
     induction d with
     | zero =>
      intro g hg
      refine Ev.step (f := fun _ => some (0, 0, false)) (fun k => ?_) (Ev.now _)
      simp only [impl_FindMinor.l0]
      rw [if_neg (by omega)]
     | succ d ih =>
      intro g hg
      have hcg := cnt_le g
      refine Ev.step (f := fun k => impl_FindMinor.l1 k ((2 ^ m - 1 : Nat) : Int) (g : Int) 0 (m : Int) (ints l) n nb) (fun k => ?_) ?_
      ·simp only [impl_FindMinor.l0]
       rw [if_pos (by omega)]
      ·have skip : ∀ s : Nat, s < 2 ^ m → ∀ x, Ev (fun k => impl_FindMinor.l1 k ((2 ^ m - 1 : Nat) : Int) (g : Int) ((s + 1 : Nat) : Int) (m : Int) (ints l) n nb) x → Ev (fun k => impl_FindMinor.j3 k ((2 ^ m - 1 : Nat) : Int) (g : Int) (s : Int) true (m : Int) (ints l) n nb) x := fun s hs x hx => by
        refine Ev.step (fun k => ?_) hx
        simp only [impl_FindMinor.j3]
        rw [if_pos (by trivial), Gen.w64s s (by omega)]
       have go : ∀ s : Nat, s < 2 ^ m → g &&& s = 0 → ∀ x, Ev (fun k => impl_FindMinor.j3 k ((2 ^ m - 1 : Nat) : Int) (g : Int) (s : Int) (!decide ((cnt g : Int) + (cnt s : Int) + n = (m : Int))) (m : Int) (ints l) n nb) x → Ev (fun k => impl_FindMinor.l1 k ((2 ^ m - 1 : Nat) : Int) (g : Int) (s : Int) (m : Int) (ints l) n nb) x := fun s hs hd x hx => by
        refine Ev.step (fun k => ?_) hx
        have hcs := cnt_le s
        simp only [impl_FindMinor.l1]
        rw [if_pos (by omega), and_nat g s (by omega) (by omega), hd, if_pos (by rfl), implCount g (by omega), implCount s (by omega)]
        simp only [Option.bind_some]
        rw [Gen.w64 (i := (m : Int) - (cnt g : Int)) (by omega) (by omega), Gen.w64 (by omega) (by omega)]
        congr 1
        by_cases e : (cnt g : Int) + (cnt s : Int) + n = (m : Int)
        ·rw [decide_eq_true e, bne_false (by omega)]; rfl
        ·rw [decide_eq_false e, bne_true (by omega)]; rfl
       have last : ∀ s : Nat, s < 2 ^ m → ∀ x, (∀ b, b = (decide ((cnt (diff (diff (2 ^ m - 1) g) s) : Int) = n) && decide (ints (minor l (diff (diff (2 ^ m - 1) g) s) s) = nb)) → Ev (fun k => if b = true then (some ((g : Int), (s : Int), true)) else (impl_FindMinor.l1 k ((2 ^ m - 1 : Nat) : Int) (g : Int) ((s + 1 : Nat) : Int) (m : Int) (ints l) n nb)) x) → Ev (fun k => impl_FindMinor.j3 k ((2 ^ m - 1 : Nat) : Int) (g : Int) (s : Int) false (m : Int) (ints l) n nb) x := fun s hs x hx => by
        refine Ev.step (f := fun k => (impl_minor.f k (m : Int) (ints l) ((diff (diff (2 ^ m - 1) g) s : Nat) : Int) (s : Int)).bind fun bt => ((impl_EqualMatroid.f k bt.1 bt.2 n nb).bind fun t => (if t = true then (some ((g : Int), (s : Int), true)) else (impl_FindMinor.l1 k ((2 ^ m - 1 : Nat) : Int) (g : Int) ((s + 1 : Nat) : Int) (m : Int) (ints l) n nb)))) (fun k => ?_) ?_
        ·simp only [impl_FindMinor.j3]
         rw [if_neg (by decide), andNot_nat (2 ^ m - 1) g (by omega), andNot_nat _ s (Nat.lt_of_lt_of_le (diff_lt (n := m) (show 2 ^ m - 1 < 2 ^ m by omega)) (by omega)), Gen.w64s s (by omega)]
        ·refine Ev.bind (implMinor m hm l hl hn _ s (diff_lt (diff_lt (by omega))) hs) (Ev.bind (implEq _ _ _ _ (minor_length _ _ _)) (hx _ rfl))
       have res := find_loop (fun k s => impl_FindMinor.l1 k ((2 ^ m - 1 : Nat) : Int) (g : Int) s (m : Int) (ints l) n nb) (2 ^ m) (want m l n nb g) (fun s => ((g : Int), (s : Int), true)) (search (want m l n nb) (2 ^ m) d (g + 1))
        (fun s hs hp => by
         unfold want at hp
         rw [Bool.and_eq_true, Bool.and_eq_true, decide_eq_true_eq] at hp
         refine go s hs hp.1 _ ?_
         rw [hp.2.1]
         refine last s hs _ fun b hb => ?_
         rw [hp.2.2] at hb
         simp only [hb, if_true]
         exact Ev.now _)
        (fun s hs hp x hx => by
         unfold want at hp
         by_cases hd : g &&& s = 0
         ·refine go s hs hd _ ?_
          rw [decide_eq_true hd, Bool.true_and] at hp
          by_cases hc : (cnt g : Int) + (cnt s : Int) + n = (m : Int)
          ·rw [decide_eq_true hc, Bool.true_and] at hp
           rw [decide_eq_true hc]
           refine last s hs _ fun b hb => ?_
           rw [hp] at hb
           simpa [hb] using hx
          ·rw [decide_eq_false hc]
           exact skip s hs _ hx
         ·refine Ev.step (fun k => ?_) (skip s hs _ hx)
          simp only [impl_FindMinor.l1]
          rw [if_pos (by omega), and_nat g s (by omega) (by omega), if_neg (by omega)])
        (by
         refine Ev.step (fun k => ?_) (ih (g + 1) (by omega))
         simp only [impl_FindMinor.l1]
         rw [if_neg (by omega), Gen.w64s g (by omega)])
       rw [search]
       exact res
    exact key (2 ^ m) 0 (by omega)
theorem cnt_disj_or {g s : Nat} (h : g &&& s = 0) : cnt (g ||| s) = cnt g + cnt s := cnt_disj fun j hj => by
 have := congrArg (fun x => x.testBit j) h
 simp only [Nat.testBit_and, hj, Bool.true_and, Nat.zero_testBit] at this
 exact this
theorem specFind (a : Int) (la : List Int) (n : Int) (nb : List Int) (hn : la.length ≤ 1048576) (hnb : nb.length ≤ 1048576) : Ev (fun k => spec_FindMinor.f k a la n nb) (findI a la n nb) := by
 unfold spec_FindMinor.f findI
 have none_ : Ev (fun k => spec_FindMinor.j0 k true a la n nb) (0, 0, false) := by
  refine Ev.step (f := fun _ => some (0, 0, false)) (fun k => ?_) (Ev.now _)
  simp only [spec_FindMinor.j0]
  rw [if_pos (by trivial)]
 refine Ev.bind (specMat a la hn) ?_
 cases hM : isMat a la with
 | false =>
  simp only [Bool.false_eq_true, if_false, Bool.false_and]
  exact none_
 | true =>
  simp only [if_true, Bool.true_and]
  refine Ev.bind (specMat n nb hnb) ?_
  cases hN : isMat n nb with
  | false =>
   simp only [Bool.false_eq_true, if_false]
   exact none_
  | true =>
   simp only [if_true]
   obtain ⟨m, l, rfl, hm, rfl, hl, h0, hf⟩ := mat_nat hM
   rw [ints_length] at hn
   rw [toNat_ints, Int.toNat_natCast]
   have h256 := pow_le_256 hm
   have h1 := Nat.one_le_two_pow (n := m)
   have hn8 : 0 ≤ n ∧ n ≤ 8 := by
    obtain ⟨m', _, rfl, hm', _⟩ := mat_nat hN
    omega
   by_cases hbig : n > (m : Int)
   ·rw [decide_eq_true hbig]
    have hz : ∀ d g, search (want m l n nb) (2 ^ m) d g = (0, 0, false) := by
     intro d
     induction d with
     | zero => intro g; rfl
     | succ d ih =>
      intro g
      rw [search]
      have : (List.range' 0 (2 ^ m)).find? (want m l n nb g) = none := by
       rw [List.find?_eq_none]
       intro s hs
       unfold want
       rw [decide_eq_false (show ¬ (cnt g : Int) + (cnt s : Int) + n = (m : Int) by omega), Bool.false_and, Bool.and_false]
       decide
      rw [this]
      exact ih (g + 1)
    rw [hz]
    exact none_
   ·rw [decide_eq_false hbig]
    refine Ev.step (f := fun k => spec_FindMinor.l0 k 0 (m : Int) (ints l) n nb) (fun k => ?_) ?_
    ·simp only [spec_FindMinor.j0]
     rw [if_neg (by decide)]
    ·have key : ∀ d g : Nat, g + d = 2 ^ m → Ev (fun k => spec_FindMinor.l0 k (g : Int) (m : Int) (ints l) n nb) (search (want m l n nb) (2 ^ m) d g) := by
      intro d
      induction d with
      | zero =>
       intro g hg
       refine Ev.step (f := fun _ => some (0, 0, false)) (fun k => ?_) (Ev.now _)
       simp only [spec_FindMinor.l0]
       rw [full_spec m hm]
       simp only [Option.bind_some]
       rw [if_neg (by omega)]
      | succ d ih =>
       intro g hg
       refine Ev.step (f := fun k => spec_FindMinor.l1 k (g : Int) 0 (m : Int) (ints l) n nb) (fun k => ?_) ?_
       ·simp only [spec_FindMinor.l0]
        rw [full_spec m hm]
        simp only [Option.bind_some]
        rw [if_pos (by omega)]
       ·have skip : ∀ s : Nat, s < 2 ^ m → ∀ x, Ev (fun k => spec_FindMinor.l1 k (g : Int) ((s + 1 : Nat) : Int) (m : Int) (ints l) n nb) x → Ev (fun k => spec_FindMinor.j3 k (g : Int) (s : Int) true (m : Int) (ints l) n nb) x := fun s hs x hx => by
         refine Ev.step (fun k => ?_) hx
         simp only [spec_FindMinor.j3]
         rw [if_pos (by trivial), Gen.w64s s (by omega)]
        have go : ∀ s : Nat, s < 2 ^ m → g &&& s = 0 → ∀ x, Ev (fun k => spec_FindMinor.j3 k (g : Int) (s : Int) (!decide ((cnt g : Int) + (cnt s : Int) + n = (m : Int))) (m : Int) (ints l) n nb) x → Ev (fun k => spec_FindMinor.l1 k (g : Int) (s : Int) (m : Int) (ints l) n nb) x := fun s hs hd x hx => by
         have hgs : g ||| s < 2 ^ m := or_lt (by omega) hs
         have hcc := cnt_disj_or hd
         have hcs := cnt_le (g ||| s)
         refine Ev.step (f := fun k => (spec_CountOf.f k ((g ||| s : Nat) : Int)).bind fun t => (spec_FindMinor.j3 k (g : Int) (s : Int) (t != (wrap64 ((m : Int) - n))) (m : Int) (ints l) n nb)) (fun k => ?_) (Ev.bind (specCountE _ (by omega)) ?_)
         ·simp only [spec_FindMinor.l1]
          rw [full_spec m hm]
          simp only [Option.bind_some]
          rw [if_pos (by omega), and_nat g s (by omega) (by omega), hd, if_pos (by rfl), or_nat g s (by omega) (by omega)]
         ·rw [Gen.w64 (by omega) (by omega)]
          by_cases e : (cnt g : Int) + (cnt s : Int) + n = (m : Int)
          ·rw [decide_eq_true e] at hx
           rw [bne_false (by omega)]
           exact hx
          ·rw [decide_eq_false e] at hx
           rw [bne_true (by omega)]
           exact hx
        have last : ∀ s : Nat, s < 2 ^ m → g &&& s = 0 → ∀ x, (∀ b, b = (decide ((cnt (diff (diff (2 ^ m - 1) g) s) : Int) = n) && decide (ints (minor l (diff (diff (2 ^ m - 1) g) s) s) = nb)) → Ev (fun k => if b = true then (some ((g : Int), (s : Int), true)) else (spec_FindMinor.l1 k (g : Int) ((s + 1 : Nat) : Int) (m : Int) (ints l) n nb)) x) → Ev (fun k => spec_FindMinor.j3 k (g : Int) (s : Int) false (m : Int) (ints l) n nb) x := fun s hs hd x hx => by
         refine Ev.step (f := fun k => (spec_MinorOf.f k (m : Int) (ints l) (g : Int) (s : Int)).bind fun bt => ((spec_EqualMatroid.f k bt.1 bt.2.1 n nb).bind fun t => (if t = true then (some ((g : Int), (s : Int), true)) else (spec_FindMinor.l1 k (g : Int) ((s + 1 : Nat) : Int) (m : Int) (ints l) n nb)))) (fun k => ?_) ?_
         ·simp only [spec_FindMinor.j3]
          rw [if_neg (by decide), Gen.w64s s (by omega)]
         ·exact Ev.bind (specMinor m hm l hl hn hM h0 hf g s (by omega) hs hd) (Ev.bind (specEq _ _ _ _ (minor_length _ _ _)) (hx _ rfl))
        have res := find_loop (fun k s => spec_FindMinor.l1 k (g : Int) s (m : Int) (ints l) n nb) (2 ^ m) (want m l n nb g) (fun s => ((g : Int), (s : Int), true)) (search (want m l n nb) (2 ^ m) d (g + 1))
         (fun s hs hp => by
          unfold want at hp
          rw [Bool.and_eq_true, Bool.and_eq_true, decide_eq_true_eq] at hp
          refine go s hs hp.1 _ ?_
          rw [hp.2.1]
          refine last s hs hp.1 _ fun b hb => ?_
          rw [hp.2.2] at hb
          simp only [hb, if_true]
          exact Ev.now _)
         (fun s hs hp x hx => by
          unfold want at hp
          by_cases hd : g &&& s = 0
          ·refine go s hs hd _ ?_
           rw [decide_eq_true hd, Bool.true_and] at hp
           by_cases hc : (cnt g : Int) + (cnt s : Int) + n = (m : Int)
           ·rw [decide_eq_true hc, Bool.true_and] at hp
            rw [decide_eq_true hc]
            refine last s hs hd _ fun b hb => ?_
            rw [hp] at hb
            simpa [hb] using hx
           ·rw [decide_eq_false hc]
            exact skip s hs _ hx
          ·refine Ev.step (fun k => ?_) (skip s hs _ hx)
           simp only [spec_FindMinor.l1]
           rw [full_spec m hm]
           simp only [Option.bind_some]
           rw [if_pos (by omega), and_nat g s (by omega) (by omega), if_neg (by omega)])
         (by
          refine Ev.step (fun k => ?_) (ih (g + 1) (by omega))
          simp only [spec_FindMinor.l1]
          rw [full_spec m hm]
          simp only [Option.bind_some]
          rw [if_neg (by omega), Gen.w64s g (by omega)])
        rw [search]
        exact res
     exact key (2 ^ m) 0 (by omega)
end Go.Proofs.Ytbjnkcfkhonkhaa.Find
end
section
namespace Go.Proofs.Ytbjnkcfkhonkhaa.Pure
open Go.RowKit Go.Proofs.Ytbjnkcfkhonkhaa.Pr Go.Proofs.Ytbjnkcfkhonkhaa.Base Go.Proofs.Ytbjnkcfkhonkhaa.Sets Go.Proofs.Ytbjnkcfkhonkhaa.Mat Go.Proofs.Ytbjnkcfkhonkhaa.Rank Go.Proofs.Ytbjnkcfkhonkhaa.Flat Go.Proofs.Ytbjnkcfkhonkhaa.Size Go.Proofs.Ytbjnkcfkhonkhaa.Whit Go.Proofs.Ytbjnkcfkhonkhaa.Count Go.Proofs.Ytbjnkcfkhonkhaa.Find Go.Proofs.YtbjnkcfkhonkhaaW.PrintWords Go.Proofs.YtbjnkcfkhonkhaaW.PrintLast Go.Proofs.YtbjnkcfkhonkhaaW.PrintMore
set_option linter.unusedVariables false
def pick (n : Int) (l : List Int) : List (Nat × Nat) → Int × Int × Int × Int × Bool
 | [] => (0, 0, 0, 0, false)
 | w :: ws => if (findI n l (w.2 : Int) (ints (ofSize w.2 (w.1 : Int)))).2.2 = true then ((findI n l (w.2 : Int) (ints (ofSize w.2 (w.1 : Int)))).1, (findI n l (w.2 : Int) (ints (ofSize w.2 (w.1 : Int)))).2.1, (w.1 : Int), (w.2 : Int), true) else pick n l ws
def exclI (n : Int) (l : List Int) (p : Int) : Int × Int × Int × Int × Bool := if isMat n l = true then (if n > 6 then (0, 0, 0, 0, false) else (if p = 2 then pick n l [(2, 4)] else (if p = 3 then pick n l [(2, 5), (3, 5)] else (0, 0, 0, 0, false)))) else (0, 0, 0, 0, false)
theorem pick_none {n : Int} {l : List Int} (h : isMat n l = false) (ws : List (Nat × Nat)) : pick n l ws = (0, 0, 0, 0, false) := by
 induction ws with
 | nil => rfl
 | cons w ws ih =>
  have e : findI n l (w.2 : Int) (ints (ofSize w.2 (w.1 : Int))) = (0, 0, false) := by
   unfold findI
   rw [h]
   rfl
  rw [pick, e]
  exact ih
theorem size_len (m : Nat) (hm : m ≤ 8) (r : Int) : (ints (ofSize m r)).length ≤ 1048576 := by
 rw [ints_length]
 exact Nat.le_trans (ofSize_length m r) (Nat.le_trans (pow_le_256 hm) (by decide))
set_option maxRecDepth 100000 in
theorem mats : isMat 4 (ints (ofSize 4 2)) = true ∧ isMat 5 (ints (ofSize 5 2)) = true ∧ isMat 5 (ints (ofSize 5 3)) = true := by decide +kernel
set_option maxRecDepth 100000 in
theorem tops : Size.top ((ints (ofSize 4 2)).map Int.toNat) = 2 ∧ Size.top ((ints (ofSize 5 2)).map Int.toNat) = 2 ∧ Size.top ((ints (ofSize 5 3)).map Int.toNat) = 3 := by decide +kernel
section
variable (n : Int) (l : List Int) (hn : l.length ≤ 1048576)
include hn
theorem implRound (W : List (S52)) (i : Nat) (r s : Nat) (hs : s ≤ 8) (hrs : r ≤ s) (hi : i < W.length) (hW : W.length ≤ 2) (hw : rd_T52 W (i : Int) = ⟨0, 0, (r : Int), (s : Int)⟩) (ws : List (Nat × Nat))
  (h : Ev (fun k => impl_ExcludedMinor.l0 k W (W.length : Int) ((i + 1 : Nat) : Int) n l) (pick n l ws)) : Ev (fun k => impl_ExcludedMinor.l0 k W (W.length : Int) (i : Int) n l) (pick n l ((r, s) :: ws)) := by
 refine Ev.step (f := fun k => (impl_Uniform.f k (r : Int) (s : Int)).bind fun bt782 => ((impl_FindMinor.f k n l bt782.1 bt782.2).bind fun bt786 => (if bt786.2.2 = true then (some (bt786.1, bt786.2.1, (r : Int), (s : Int), true)) else (impl_ExcludedMinor.l0 k W (W.length : Int) ((i + 1 : Nat) : Int) n l)))) (fun k => ?_) ?_
 ·simp only [impl_ExcludedMinor.l0]
  rw [if_pos (by omega), if_pos (by omega), if_pos (by omega), hw, Gen.w64s i (by omega)]
 ·refine Ev.bind (implUnif s hs (r : Int) (by omega) (by omega)) (Ev.bind (implFind n l _ _ hn (size_len s hs _)) ?_)
  rw [pick]
  by_cases e : (findI n l (s : Int) (ints (ofSize s (r : Int)))).2.2 = true
  ·simp only [if_pos e]
   exact Ev.now _
  ·simp only [if_neg e]
   exact h
theorem specRound (W : List (S45)) (i : Nat) (r s : Nat) (hs : s ≤ 8) (hrs : r ≤ s) (hi : i < W.length) (hW : W.length ≤ 2) (hw : rd_T45 W (i : Int) = ⟨(s : Int), ints (ofSize s (r : Int))⟩) (hM : isMat (s : Int) (ints (ofSize s (r : Int))) = true) (ht : Size.top ((ints (ofSize s (r : Int))).map Int.toNat) = r) (ws : List (Nat × Nat))
  (h : Ev (fun k => spec_ExcludedMinor.l0 k W ((i + 1 : Nat) : Int) n l) (pick n l ws)) : Ev (fun k => spec_ExcludedMinor.l0 k W (i : Int) n l) (pick n l ((r, s) :: ws)) := by
 refine Ev.step (f := fun k => (spec_FindMinor.f k n l (s : Int) (ints (ofSize s (r : Int)))).bind fun bt727 => (if bt727.2.2 = true then ((spec_RankOfMatroid.f k (s : Int) (ints (ofSize s (r : Int)))).bind fun t731 => (some (bt727.1, bt727.2.1, t731, (s : Int), true))) else (spec_ExcludedMinor.l0 k W ((i + 1 : Nat) : Int) n l))) (fun k => ?_) ?_
 ·simp only [spec_ExcludedMinor.l0]
  rw [if_pos (by omega), if_pos (by omega), hw, Gen.w64s i (by omega)]
 ·refine Ev.bind (specFind n l _ _ hn (size_len s hs _)) ?_
  rw [pick]
  by_cases e : (findI n l (s : Int) (ints (ofSize s (r : Int)))).2.2 = true
  ·simp only [if_pos e]
   have hR := specRankOf (s : Int) (ints (ofSize s (r : Int))) (size_len s hs _)
   rw [hM, if_pos rfl, ht] at hR
   exact Ev.bind hR (Ev.now _)
  ·simp only [if_neg e]
   exact h
theorem implExcl (p : Int) : Ev (fun k => impl_ExcludedMinor.f k n l p) (exclI n l p) := by
 unfold impl_ExcludedMinor.f exclI
 have none_ : Ev (fun k => impl_ExcludedMinor.j0 k p true n l) (0, 0, 0, 0, false) := by
  refine Ev.step (f := fun _ => some (0, 0, 0, 0, false)) (fun k => ?_) (Ev.now _)
  simp only [impl_ExcludedMinor.j0]
  rw [if_pos (by trivial)]
 have two : ∀ b, b = false → p = 2 → Ev (fun k => impl_ExcludedMinor.j0 k p b n l) (pick n l [(2, 4)]) := fun b hb hp => by
  subst hb
  refine Ev.step (f := fun k => impl_ExcludedMinor.j1 k [(⟨0, 0, 2, 4⟩ : S52)] n l) (fun k => ?_) ?_
  ·simp only [impl_ExcludedMinor.j0]
   rw [if_neg (by decide), if_neg (by omega)]
  ·refine Ev.step (f := fun k => impl_ExcludedMinor.l0 k [(⟨0, 0, 2, 4⟩ : S52)] (([(⟨0, 0, 2, 4⟩ : S52)] : List (S52)).length : Int) ((0 : Nat) : Int) n l) (fun k => ?_) ?_
   ·simp only [impl_ExcludedMinor.j1]
    rfl
   ·refine implRound n l hn _ 0 2 4 (by omega) (by omega) (by decide) (by decide) rfl [] ?_
    refine Ev.step (f := fun _ => some (0, 0, 0, 0, false)) (fun k => ?_) (Ev.now _)
    simp only [impl_ExcludedMinor.l0]
    rw [if_neg (by decide)]
 have three : ∀ b, b = false → p = 3 → Ev (fun k => impl_ExcludedMinor.j0 k p b n l) (pick n l [(2, 5), (3, 5)]) := fun b hb hp => by
  subst hb
  refine Ev.step (f := fun k => impl_ExcludedMinor.j1 k [(⟨0, 0, 2, 5⟩ : S52), (⟨0, 0, 3, 5⟩ : S52)] n l) (fun k => ?_) ?_
  ·simp only [impl_ExcludedMinor.j0]
   rw [if_neg (by decide), if_pos hp]
  ·refine Ev.step (f := fun k => impl_ExcludedMinor.l0 k [(⟨0, 0, 2, 5⟩ : S52), (⟨0, 0, 3, 5⟩ : S52)] (([(⟨0, 0, 2, 5⟩ : S52), (⟨0, 0, 3, 5⟩ : S52)] : List (S52)).length : Int) ((0 : Nat) : Int) n l) (fun k => ?_) ?_
   ·simp only [impl_ExcludedMinor.j1]
    rfl
   ·refine implRound n l hn _ 0 2 5 (by omega) (by omega) (by decide) (by decide) rfl _ (implRound n l hn _ 1 3 5 (by omega) (by omega) (by decide) (by decide) rfl [] ?_)
    refine Ev.step (f := fun _ => some (0, 0, 0, 0, false)) (fun k => ?_) (Ev.now _)
    simp only [impl_ExcludedMinor.l0]
    rw [if_neg (by decide)]
 refine Ev.bind (implMat n l hn) ?_
 cases hM : isMat n l with
 | false => simp only [Bool.false_eq_true, if_false]; exact none_
 | true =>
  simp only [if_true]
  by_cases h6 : n > 6
  ·simp only [if_pos h6]; exact none_
  ·simp only [if_neg h6]
   by_cases h2 : p = 2
   ·simp only [if_pos h2]
    exact two _ rfl h2
   ·simp only [if_neg h2]
    by_cases h3 : p = 3
    ·simp only [if_pos h3, bne_false h3]
     exact three _ rfl h3
    ·simp only [if_neg h3, bne_true h3]
     exact none_
theorem specExcl (p : Int) : Ev (fun k => spec_ExcludedMinor.f k n l p) (exclI n l p) := by
 unfold spec_ExcludedMinor.f
 have none_ : Ev (fun k => spec_ExcludedMinor.j0 k p true n l) (0, 0, 0, 0, false) := by
  refine Ev.step (f := fun _ => some (0, 0, 0, 0, false)) (fun k => ?_) (Ev.now _)
  simp only [spec_ExcludedMinor.j0]
  rw [if_pos (by trivial)]
 have hu24 := specUnif 4 (by omega) 2 (by omega) (by omega)
 have hu25 := specUnif 5 (by omega) 2 (by omega) (by omega)
 have hu35 := specUnif 5 (by omega) 3 (by omega) (by omega)
 have two : ∀ b, b = false → p = 2 → Ev (fun k => spec_ExcludedMinor.j0 k p b n l) (pick n l [(2, 4)]) := fun b hb hp => by
  subst hb
  refine Ev.step (f := fun k => (spec_Uniform.f k 2 4).bind fun bt708 => (spec_ExcludedMinor.j1 k (([(⟨bt708.1, bt708.2⟩ : S45)] : List (S45))) n l)) (fun k => ?_) ?_
  ·simp only [spec_ExcludedMinor.j0]
   rw [if_neg (by decide)]
   simp only [if_neg (show ¬ p = 3 by omega)]
  ·refine Ev.bind hu24 ?_
   refine Ev.step (f := fun k => spec_ExcludedMinor.l0 k [(⟨((4 : Nat) : Int), ints (ofSize 4 2)⟩ : S45)] ((0 : Nat) : Int) n l) (fun k => ?_) ?_
   ·simp only [spec_ExcludedMinor.j1]
    rfl
   ·refine specRound n l hn _ 0 2 4 (by omega) (by omega) (by show 0 < 1; omega) (by show 1 ≤ 2; omega) rfl mats.1 tops.1 [] ?_
    refine Ev.step (f := fun _ => some (0, 0, 0, 0, false)) (fun k => ?_) (Ev.now _)
    simp only [spec_ExcludedMinor.l0]
    rw [if_neg (by show ¬ ((0 + 1 : Nat) : Int) < ((1 : Nat) : Int); omega)]
 have three : ∀ b, b = false → p = 3 → Ev (fun k => spec_ExcludedMinor.j0 k p b n l) (pick n l [(2, 5), (3, 5)]) := fun b hb hp => by
  subst hb
  refine Ev.step (f := fun k => (spec_Uniform.f k 2 4).bind fun bt708 => ((spec_Uniform.f k 2 5).bind fun bt715 => ((spec_Uniform.f k 3 5).bind fun bt719 => (spec_ExcludedMinor.j1 k (([(⟨bt715.1, bt715.2⟩ : S45), (⟨bt719.1, bt719.2⟩ : S45)] : List (S45))) n l)))) (fun k => ?_) ?_
  ·simp only [spec_ExcludedMinor.j0]
   rw [if_neg (by decide)]
   simp only [if_pos hp]
  ·refine Ev.bind hu24 (Ev.bind hu25 (Ev.bind hu35 ?_))
   refine Ev.step (f := fun k => spec_ExcludedMinor.l0 k [(⟨((5 : Nat) : Int), ints (ofSize 5 2)⟩ : S45), (⟨((5 : Nat) : Int), ints (ofSize 5 3)⟩ : S45)] ((0 : Nat) : Int) n l) (fun k => ?_) ?_
   ·simp only [spec_ExcludedMinor.j1]
    rfl
   ·refine specRound n l hn _ 0 2 5 (by omega) (by omega) (by show 0 < 2; omega) (by show 2 ≤ 2; omega) rfl mats.2.1 tops.2.1 _ (specRound n l hn _ 1 3 5 (by omega) (by omega) (by show 1 < 2; omega) (by show 2 ≤ 2; omega) rfl mats.2.2 tops.2.2 [] ?_)
    refine Ev.step (f := fun _ => some (0, 0, 0, 0, false)) (fun k => ?_) (Ev.now _)
    simp only [spec_ExcludedMinor.l0]
    rw [if_neg (by show ¬ ((1 + 1 : Nat) : Int) < ((2 : Nat) : Int); omega)]
 have he : exclI n l p = if n > 6 then (0, 0, 0, 0, false) else (if p = 2 then pick n l [(2, 4)] else (if p = 3 then pick n l [(2, 5), (3, 5)] else (0, 0, 0, 0, false))) := by
  unfold exclI
  cases hM : isMat n l with
  | true => rfl
  | false =>
   rw [pick_none hM, pick_none hM]
   simp
 rw [he]
 by_cases h6 : n > 6
 ·simp only [if_pos h6]; exact none_
 ·simp only [if_neg h6]
  by_cases h2 : p = 2
  ·simp only [if_pos h2]
   exact two _ rfl h2
  ·simp only [if_neg h2]
   by_cases h3 : p = 3
   ·simp only [if_pos h3, bne_false h3]
    exact three _ rfl h3
   ·simp only [if_neg h3, bne_true h3]
    exact none_
end
theorem FnExactExcludedMinor (n : Int) (xs : List Int) (p : Int) (_ : (Lit.int .i64 n).wf = true) (hm : xs.length ≤ maxLen ∧ ∀ x ∈ xs, (Lit.int .i64 x).wf = true) (_ : (Lit.int .i64 p).wf = true) : ∃ k, laws_FnExactExcludedMinor.f k n xs p = some true := by
 obtain ⟨z, hz, h⟩ := szMatroid n xs 1048576 hm.1 (by decide) (by decide)
 refine Ev.rounds ?_
 unfold laws_FnExactExcludedMinor.f
 rw [hz]
 simp only [Option.bind_some]
 by_cases hneg : z < 0
 ·simp only [if_pos hneg]
  exact Ev.now _
 ·simp only [if_neg hneg]
  have hl : xs.length ≤ 1048576 := by rcases h with h | h <;> omega
  refine Ev.bind (toMatroid n xs hl) (Ev.bind (specExcl n xs hl p) (Ev.bind (toMatroid n xs hl) (Ev.bind (implExcl n xs hl p) ?_)))
  have hw : ∀ a b c d : Int, laws_eqWitness.f a b c d a b c d = some true := fun a b c d => by
   unfold laws_eqWitness.f
   simp
  simp only [hw, Option.bind_some, if_true]
  refine Ev.step (f := fun k => (laws_toMatroid.f k n xs).bind fun bt815 => ((laws_eqMatroid.f k n xs bt815.1 bt815.2).bind fun t819 => (if t819 = true then (some true) else (some false)))) (fun k => ?_) ?_
  ·simp only [laws_FnExactExcludedMinor.j0]
   rw [if_neg (by simp)]
  ·refine Ev.bind (toMatroid n xs hl) (Ev.bind (eqMatroid n xs hl) ?_)
   simp only [if_true]
   exact Ev.now _
end Go.Proofs.Ytbjnkcfkhonkhaa.Pure
end
section
namespace Go.Proofs.Ytbjnkcfkhonkhaa.Open
open Go.ChangeShapes Go.WideShapes Go.RowKit Go.Proofs.YtbjnkcfkhonkhaaW.PrintWords Go.Deep
set_option linter.unusedVariables false
structure Opens {α : Type} (P : Program) (d : Kd α) (t : TypeId) (Wf : α → Prop) : Prop where
 go : ∀ (H : Type) (enc : TypeId × Value → H) (w : World) (base : Nat) (spare : Nat → Bool) (held : Bool) (fuel : Nat) (cs : List Value) (x : DataW H × List MemPlace),
  DataW.trod enc P w base spare held fuel t cs = some x → ∃ a, d.K w a cs ∧ Wf a
theorem Opens.int {P : Program} {t : TypeId} {k : IntKind} (ht : P.underlying t = some (.int k)) : Opens P (Kd.int k) t (fun n => (Lit.int k n).wf = true) := by
 refine ⟨fun H enc w base spare held fuel cs x h => ?_⟩
 obtain ⟨n, rfl, _, hw⟩ := DataW.trod_int ht h
 exact ⟨n, rfl, hw⟩
theorem Opens.bool {P : Program} {t : TypeId} (ht : P.underlying t = some .bool) : Opens P Kd.bool t (fun _ => True) := by
 refine ⟨fun H enc w base spare held fuel cs x h => ?_⟩
 obtain ⟨n, rfl, _⟩ := DataW.trod_bool ht h
 exact ⟨n, rfl, trivial⟩
theorem list_of {α : Type} {p : Nat → α → Prop} : ∀ {len : Nat}, (∀ i, i < len → ∃ y, p i y) → ∃ xs : List α, xs.length = len ∧ ∀ i y, xs[i]? = some y → p i y := by
 intro len
 induction len with
 | zero => exact fun _ => ⟨[], rfl, fun i y h => by simp at h⟩
 | succ len ih =>
  intro key
  obtain ⟨xs, hxl, hxs⟩ := ih (fun i hi => key i (by omega))
  obtain ⟨y, hy⟩ := key len (by omega)
  refine ⟨xs ++ [y], by simp [hxl], fun i z hz => ?_⟩
  by_cases hi : i < xs.length
  ·rw [List.getElem?_append_left hi] at hz
   exact hxs i z hz
  ·have hlt : i < (xs ++ [y]).length := (List.getElem?_eq_some_iff.1 hz).1
   have e : i = len := by simp [hxl] at hlt hi; omega
   subst e
   rw [List.getElem?_append_right (by omega), hxl] at hz
   simp at hz
   subst hz
   exact hy
theorem Opens.slice {α : Type} {P : Program} {t e : TypeId} {d : Kd α} {Wf : α → Prop} (ht : P.underlying t = some (.slice e)) (hs : P.cellsOf e = d.sz) (h : Opens P d e Wf) :
  Opens P (Kd.slice e d) t (fun xs => xs.length ≤ maxLen ∧ ∀ x ∈ xs, Wf x) := by
 refine ⟨fun H enc w base spare held fuel cs x hx => ?_⟩
 rcases open_slice ht hx with ⟨rfl, _⟩ | ⟨a, len, cap, m, n, D, Pl, rfl, hb, hl, hm, hmm, _, hel⟩
 ·exact ⟨[], ⟨none, 0, rfl, Nat.le_refl _, rfl, by simp, fun h => absurd h (by simp)⟩, by simp, by simp⟩
 ·have hlm : len ≤ m := by rw [hmm]; split <;> omega
  have key : ∀ i, i < len → ∃ y : α, (∃ cs', w.cells? base (a.add (i * P.cellsOf e)) (P.cellsOf e) = some cs' ∧ d.K w y cs') ∧ Wf y := fun i hi => by
   obtain ⟨cs', h1, h2⟩ := hel i (by omega)
   obtain ⟨y, h3, h4⟩ := h.go _ enc w base spare held n cs' _ h2
   exact ⟨y, ⟨cs', h1, h3⟩, h4⟩
  obtain ⟨xs, hxl, hxs⟩ := list_of key
  refine ⟨xs, ⟨some a, cap, by rw [hxl], by omega, rfl, by have := hm; unfold maxLen at this; omega, fun _ => ⟨a, rfl, fun j p hj => ?_⟩⟩, by omega, fun y hy => ?_⟩
  ·obtain ⟨⟨cs', h1, h2⟩, _⟩ := hxs j p hj
   obtain ⟨_, h3, h4⟩ := World.cells?_some h1
   refine ⟨cs', by rw [h3, hs], h2, fun i u hu => ?_⟩
   have hlt : i < cs'.length := (List.getElem?_eq_some_iff.1 hu).1
   have := h4 i (by omega)
   rw [hs, Go.Deep.add_add] at this
   rw [this, hu]
  ·obtain ⟨i, hi⟩ := List.getElem?_of_mem hy
   exact (hxs i y hi).2
structure OpensFs {α : Type} (P : Program) (fs : List Field) (off : Nat) (d : Kd α) (Wf : α → Prop) : Prop where
 go : ∀ (H : Type) (enc : TypeId × Value → H) (w : World) (base : Nat) (spare : Nat → Bool) (held : Bool) (n : Nat) (cs : List Value),
  cs.length = off + d.sz → (∀ f ∈ fs, ∃ x, DataW.trod enc P w base spare held n f.type ((cs.drop f.offset).take (P.cellsOf f.type)) = some x) → ∃ a, d.K w a (cs.drop off) ∧ Wf a
theorem OpensFs.one {α : Type} {P : Program} {f : Field} {off : Nat} {d : Kd α} {Wf : α → Prop} (ho : f.offset = off) (hs : P.cellsOf f.type = d.sz) (h : Opens P d f.type Wf) : OpensFs P [f] off d Wf := by
 refine ⟨fun H enc w base spare held n cs hl hf => ?_⟩
 obtain ⟨x, hx⟩ := hf f (by simp)
 rw [ho, hs, List.take_of_length_le (by rw [List.length_drop]; omega)] at hx
 exact h.go _ enc w base spare held n _ x hx
theorem OpensFs.cons {α β : Type} {P : Program} {f : Field} {fs : List Field} {off : Nat} {d : Kd α} {d' : Kd β} {Wf : α → Prop} {Wf' : β → Prop} (ho : f.offset = off) (hs : P.cellsOf f.type = d.sz) (h : Opens P d f.type Wf)
  (h' : OpensFs P fs (off + d.sz) d' Wf') : OpensFs P (f :: fs) off (Kd.pair d d') (fun x => Wf x.1 ∧ Wf' x.2) := by
 refine ⟨fun H enc w base spare held n cs hl hf => ?_⟩
 have hl' : cs.length = off + (d.sz + d'.sz) := hl
 obtain ⟨x, hx⟩ := hf f (by simp)
 rw [ho, hs] at hx
 obtain ⟨a, ha, wa⟩ := h.go _ enc w base spare held n _ x hx
 obtain ⟨b, hb, wb⟩ := h'.go _ enc w base spare held n cs (by omega) (fun g hg => hf g (by simp [hg]))
 refine ⟨(a, b), ⟨(cs.drop off).take d.sz, cs.drop (off + d.sz), ?_, ha, hb⟩, wa, wb⟩
 rw [← List.drop_drop, List.take_append_drop]
theorem Opens.struct {α : Type} {P : Program} {t : TypeId} {fs : Array Field} {d : Kd α} {Wf : α → Prop} (ht : P.underlying t = some (.struct fs)) (hs : P.cellsOf t = d.sz) (h : OpensFs P fs.toList 0 d Wf) : Opens P d t Wf := by
 refine ⟨fun H enc w base spare held fuel cs x hx => ?_⟩
 obtain ⟨xs, n, _, _, hl, hlen, hg⟩ := DataW.trod_struct ht hx
 obtain ⟨a, ha, wa⟩ := h.go _ enc w base spare held n cs (by omega) (fun f hf => by
  obtain ⟨i, hi⟩ := List.getElem?_of_mem hf
  have h1 := hg i f (by simpa using hi)
  have hlt : i < fs.size := by have := (List.getElem?_eq_some_iff.1 hi).1; simpa using this
  exact ⟨_, h1.trans (List.getElem?_eq_getElem (by omega))⟩)
 exact ⟨a, by simpa using ha, wa⟩
theorem Opens.iso {α β : Type} {P : Program} {t : TypeId} {d : Kd α} {Wf : α → Prop} (h : Opens P d t Wf) (f : β → α) (g : α → β) (hfg : ∀ a, f (g a) = a) : Opens P (Kd.iso d f) t (fun b => Wf (f b)) := by
 refine ⟨fun H enc w base spare held fuel cs x hx => ?_⟩
 obtain ⟨a, ha, wa⟩ := h.go _ enc w base spare held fuel cs x hx
 exact ⟨g a, by show d.K w (f (g a)) cs; rw [hfg]; exact ha, by show Wf (f (g a)); rw [hfg]; exact wa⟩
theorem Opens.argStruct {α : Type} {P : Program} {t : TypeId} {d : Kd α} {Wf : α → Prop} (h : Opens P d t Wf) {H : Type} {enc : TypeId × Value → H} {w : World} {base : Nat} {spare : Nat → Bool} {held : Bool} {v : Value} {x : DataW H} {ps : List MemPlace}
  (hv : ∃ cs, v = .agg cs ∧ cs.size = P.cellsOf t) (ht : DataW.Trod enc P w base spare held t v x ps) : ∃ cs a, v = .agg cs.toArray ∧ d.K w a cs ∧ Wf a := by
 obtain ⟨cs, rfl, _⟩ := hv
 obtain ⟨fuel, hf⟩ := ht
 obtain ⟨a, ha, wf⟩ := h.go _ enc w base spare held fuel _ _ hf
 exact ⟨cs.toList, a, by simp, ha, wf⟩
end Go.Proofs.Ytbjnkcfkhonkhaa.Open
end
section
namespace Go.Proofs.Ytbjnkcfkhonkhaa.fnExactExcludedMinor
open Go.ChangeShapes Go.WideShapes Go.ChangeAt Go.RowKit Go.Proofs.Ytbjnkcfkhonkhaa.Open Go.Proofs.YtbjnkcfkhonkhaaW.PrintWords
open Go.ChangeMaps (open_string shut_string)
set_option linter.unusedVariables false
theorem own : ownKnob Try.prog.godebug = none := by kernel_rfl
theorem laidOut : laidOutB Try.prog = true := by kernel_rfl
set_option maxRecDepth 100000 in
theorem lifted (os : Os) (started : os.Started) (H : Type) (enc : TypeId × Value → H) :
  ReturnsInHanded {} Try.checked os 8 .any (Rows.fnExactExcludedMinorSpec.pre6 enc Try.prog Try.f8 Rows.fnExactExcludedMinorRow.domain false) (Rows.fnExactExcludedMinorSpec.post enc Try.prog Try.f8 false true false false) := by
 refine returnsInHanded_of_change_sized (C := Try.checked) own started (by kernel_rfl) Try.func8
  (ChangeSpec.witness6 (enc := enc) (C := Try.checked) false ⟨#[], #[.agg #[.int .i64 0, .slice none 0 0], .int .i64 0], []⟩ 8 (by kernel_rfl) (by kernel_rfl) (by kernel_rfl) (by kernel_rfl)) ?_
 intro W base args ds gs before hval0 hW hcnd hsz0 _
 have hval : ∀ (j : Nat) t v, Try.f8.params[j]? = some t → args[j]? = some v → Value.okWide Try.prog W .any base t v := hval0
 have hW' := hW
 obtain ⟨p, q, hA0, hV, rfl, hfz, hnd⟩ := hW
 have hA : DataW.TrodAll enc Try.prog W 0 (fun _ => true) true Try.f8.params.toList args.toList ds p := hA0
 rw [Try.params8] at hA hval
 obtain ⟨v0, vs0, d0, ds0, p0, q0, hargs, rfl, rfl, h0, r0⟩ := trodAll_cons hA
 obtain ⟨v1, vs1, d1, ds1, p1, q1, rfl, rfl, rfl, h1, r1⟩ := trodAll_cons r0
 obtain ⟨rfl, rfl, rfl⟩ := trodAll_nil r1
 obtain rfl : args = #[v0, v1] := by cases args; simp_all
 obtain ⟨rfl, rfl⟩ := trodVars_none hV
 have k0 := h0
 have lt0 : ∀ x ∈ p0, x.block < W.heap.size := by obtain ⟨m, hm⟩ := k0; exact DataW.trod_lt m _ _ _ hm
 obtain ⟨cs0, x0, rfl, K0, w0⟩ := Opens.argStruct (Opens.struct Try.underlying42 (by kernel_rfl) (OpensFs.cons rfl (by kernel_rfl) (Opens.int Try.underlying3) (OpensFs.one rfl (by kernel_rfl) (Opens.slice Try.underlying31 (by kernel_rfl) (Opens.int Try.underlying3))))) (okWide_struct Try.underlying42 (hval 0 42 v0 rfl rfl)) h0
 obtain ⟨_, _, rfl, rfl, ⟨A0_1, c0_1, rfl, hl0_1, hr0_1⟩⟩ := K0
 obtain ⟨w0_0, w0_1⟩ := w0
 obtain ⟨a1, rfl, rfl, rfl, w1⟩ := open_int Try.underlying3 (hval 1 3 v1 rfl rfl) h1
 clear hA0 hval0 hsz0
 obtain ⟨k, hk⟩ := Pure.FnExactExcludedMinor x0.1 x0.2 a1 w0_0 w0_1 w1
 refine (Pr.laws_FnExactExcludedMinor.calls k x0.1 _ _ x0.2 a1 true W hr0_1 hl0_1 ⟨rfl⟩ hk).mono fun e W' ⟨he, bel⟩ => ?_
 subst he
 exact ⟨_, rfl, _, _, _, [], _, [], hW', trodAll_mk1 (shut_bool Try.underlying4 _), (trodAll_cons_mk (Below.trod laidOut (by kernel_rfl) (of_decide_eq_true (by kernel_rfl)) k0 bel lt0) (trodAll_cons_mk (shut_int Try.underlying3 w1) trodAll_mk0)), rfl, bel.frame _, fun h => by cases h⟩
theorem over : Rows.fnExactExcludedMinorRow.holds Try.pinned (OpenSpec.ofChange Rows.fnExactExcludedMinorSpec) :=
 OpenClaim.holds_of_wide 8 Try.f8 rfl rfl rfl rfl rfl rfl rfl ⟨rfl, rfl, rfl, rfl, rfl⟩ rfl rfl rfl rfl rfl (by kernel_rfl) Try.func8 (by kernel_rfl)
  (of_decide_eq_true (by kernel_rfl)) (by unfold Func.isWrapper; first | (rw [if_pos (by decide +kernel)]; kernel_rfl) | (rw [if_neg (by decide +kernel)]; exact ⟨rfl, rfl⟩))
  (fun os started H enc _ => lifted os started H enc)
theorem proved : Rows.FnExactExcludedMinorSaid := over
#print axioms proved
end Go.Proofs.Ytbjnkcfkhonkhaa.fnExactExcludedMinor
namespace Go.Proofs.Ytbjnkcfkhonkhaa
theorem fnExactExcludedMinor_holds : Rows.FnExactExcludedMinorSaid := fnExactExcludedMinor.proved
end Go.Proofs.Ytbjnkcfkhonkhaa
end
