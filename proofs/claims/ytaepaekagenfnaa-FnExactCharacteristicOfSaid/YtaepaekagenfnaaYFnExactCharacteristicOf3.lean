/- The claim FnExactCharacteristicOf: every text that its row comes to, laid together by slim.py (the words of the kit's print, the printed walks, the pure law, the row). -/
import Derived.Below
import Derived.ChangeArms
import Derived.ChangeOld
import Derived.DataReads
import Derived.Deep.Slices
import Derived.OpenShut
import Derived.ProofKit
import Derived.ShutString
import Derived.SizedLaws
import Derived.Test.YtaepaekagenfnaaRows
import Derived.WalkKit
import Derived.Test.YtaepaekagenfnaaYFnExactCharacteristicOf2
section
namespace Go.Proofs.Ytaepaekagenfnaa.Pr
open Go.RowKit Go.Proofs.YtaepaekagenfnaaW.PrintWords Go.Proofs.YtaepaekagenfnaaW.PrintLast Go.Proofs.YtaepaekagenfnaaW.PrintMore
attribute [local go_sem] max2_int min2_int max_two min_two max_three min_three max_four min_four
set_option linter.unusedVariables false
set_option linter.unusedSimpArgs false
def impl_CharacteristicOf.l0 : Nat → Int → List Int → List Int → List Int → Int → Int → Int → List Int → Option (List Int)
  | 0, _, _, _, _, _, _, _, _ => none
  | k + 1, x3, x4, x6, x25, x26, x27, x769000, x769001 => if x27 < x26 then (if 0 ≤ x27 then (if x27 < (x25.length : Int) then ((impl_rankIn.f k x769000 x769001 (rd x25 x27)).bind fun t781 => (if 0 ≤ (wrap64 (x3 - t781)) then (if (wrap64 (x3 - t781)) < (x4.length : Int) then (if x27 < (x6.length : Int) then (impl_CharacteristicOf.l0 k x3 (x4.set ((wrap64 (x3 - t781)) : Int).toNat (wrap64 ((rd x4 (wrap64 (x3 - t781))) + (rd x6 x27)))) x6 x25 x26 (wrap64 (x27 + 1)) x769000 x769001) else (none)) else (none)) else (none))) else (none)) else (none)) else (some x4)
def impl_CharacteristicOf.f (k : Nat) (a0_0 : Int) (l0_1 : List Int) : Option (List Int) := (impl_RankOfMatroid.f k a0_0 l0_1).bind fun t769 => (if t769 < 0 then (some ([] : List Int)) else (if 0 ≤ (wrap64 (t769 + 1)) then (if (wrap64 (t769 + 1) : Int).toNat ≤ 35184372088832 then ((some (List.replicate (wrap64 (t769 + 1) : Int).toNat 0 : List Int)).bind fun y770 => ((impl_LoopsOf.f k a0_0 l0_1).bind fun t773 => (if t773 = 0 then ((impl_moebius.f k a0_0 l0_1).bind fun bt774 => (impl_CharacteristicOf.l0 k t769 y770 bt774.2 bt774.1 (bt774.1.length : Int) 0 a0_0 l0_1)) else (some y770)))) else (none)) else (none)))
def impl_CharacteristicOf.T11 : Bool × List (List Nat × List Nat) := (true, [([], []), ([], []), ([], []), ([], []), ([2, 3], [2, 3]), ([1, 4], [1, 4]), ([0, 5], [0, 5]), ([6], [6]), ([], []), ([], []), ([8, 9], [8, 9]), ([10], [10]), ([7, 11], [7, 11]), ([0, 5, 0, 1, 2, 3, 4, 5, 6, 7, 8, 9, 10, 11, 12], [0, 5]), ([13, 12, 4, 0, 1, 2, 3, 4, 5, 6, 7, 8, 9, 10, 11, 12], [12, 13])])
def impl_CharacteristicOf.B11 : List Nat := [0, 0, 0, 0, 12, 30, 63, 127, 0, 0, 768, 1792, 4095, 8191, 16383]
theorem impl_CharacteristicOf.tab11 : rtab .any (opsOf Try.f48 11) = impl_CharacteristicOf.T11 := by kernel_rfl
theorem impl_CharacteristicOf.bits11 : waitsOk impl_CharacteristicOf.T11.2 impl_CharacteristicOf.B11 = true := by kernel_rfl
set_option maxHeartbeats 8000000 in
set_option maxRecDepth 100000 in
theorem impl_CharacteristicOf.calls (k : Nat) (a0_0 : Int) (A0_1 : Option Addr) (c0_1 : Nat) (l0_1 : List Int) (r : List Int) (w : World) (hr0_1 : Kd.C (Kd.int .i64) w A0_1 l0_1.length l0_1) (hc0_1 : l0_1.length ≤ c0_1) (h : impl_CharacteristicOf.f k a0_0 l0_1 = some r) :
    Calls Try.prog 48 #[.agg #[.int .i64 a0_0, .slice A0_1 l0_1.length c0_1]] w fun e w' => ∃ v0_ : Value, e = .returned (v0_) ∧ Kd.R (Kd.int .i64) 3 w' w.heap.size (fun _ => True) v0_ r ∧ Below w.heap.size w w' := by
  have hu27 := Try.underlying27
  have HR0_1 := Aside0.mk hr0_1
  have HC0_1 := Aside0.mk hc0_1
  clear hr0_1 hc0_1
  have HB := Aside0.mk (Below.refl w.heap.size w)
  have H : ((impl_RankOfMatroid.f k a0_0 l0_1).bind fun t769 => (if t769 < 0 then (some ([] : List Int)) else (if 0 ≤ (wrap64 (t769 + 1)) then (if (wrap64 (t769 + 1) : Int).toNat ≤ 35184372088832 then ((some (List.replicate (wrap64 (t769 + 1) : Int).toNat 0 : List Int)).bind fun y770 => ((impl_LoopsOf.f k a0_0 l0_1).bind fun t773 => (if t773 = 0 then ((impl_moebius.f k a0_0 l0_1).bind fun bt774 => (impl_CharacteristicOf.l0 k t769 y770 bt774.2 bt774.1 (bt774.1.length : Int) 0 a0_0 l0_1)) else (some y770)))) else (none)) else (none)))) = some r := h
  clear h
  replace H := Option.bind_eq_some_iff.mp H
  obtain ⟨t769, A20, H⟩ := H
  replace H : (if t769 < 0 then (some ([] : List Int)) else (if 0 ≤ (wrap64 (t769 + 1)) then (if (wrap64 (t769 + 1) : Int).toNat ≤ 35184372088832 then ((some (List.replicate (wrap64 (t769 + 1) : Int).toNat 0 : List Int)).bind fun y770 => ((impl_LoopsOf.f k a0_0 l0_1).bind fun t773 => (if t773 = 0 then ((impl_moebius.f k a0_0 l0_1).bind fun bt774 => (impl_CharacteristicOf.l0 k t769 y770 bt774.2 bt774.1 (bt774.1.length : Int) 0 a0_0 l0_1)) else (some y770)))) else (none)) else (none))) = some r := H
  have A2 := Aside0.mk A20
  clear A20
  by_cases c3 : t769 < 0
  · rw [if_pos c3] at H
    have c3b0 : decide (t769 < 0) = true := decide_eq_true c3
    clear c3
    obtain rfl := Option.some.inj H
    go_enter Try.func48, Try.ntmps48
    go_wp2_with (first | ((with_reducible refine gate_dst (N := 1) rfl ?_); refine box_event ?hg (N := 1) ?hd (cs := #[.int .i64 a0_0, .slice A0_1 l0_1.length c0_1]) (t := 27) ?hr ?_; (case hd => rfl); (case hg => rfl); (case hr => first | (go_simp; done) | (go_simp; rfl)); intro gb768 hg w4 hbox hb; have n0_ := Aside0.mk (below_step (by repeat (first | (with_reducible first | exact HB.out | apply below_alloc | apply pw_below_drewN | apply below_drew1) | exact HB.out)) hb); have n1_ := Aside0.mk (hbox); have n2_ := Aside0.mk ((by rw [hg]; exact (below_size (by repeat (first | (with_reducible first | exact HB.out | apply below_alloc | apply pw_below_drewN | apply below_drew1) | exact HB.out))) : w.heap.size ≤ gb768)); have n3_ := Aside0.mk ((by rw [hg]; exact (below_size (by repeat (first | (with_reducible first | exact HB.out | apply below_alloc | apply pw_below_drewN | apply below_drew1) | exact HB.out))) : w.heap.size ≤ gb768)); clear HB; have HB := n0_; have BK768 := n1_; have GW768 := n2_; have GE768 := n3_; clear n0_ n1_ n2_ n3_; clear hb hbox hg; have hcz5_0 : w4.cell? ⟨gb768, 0, none⟩ = some (.int .i64 a0_0) := (blk_cell BK768.out 0).trans rfl; have hcz5_1 : w4.cell? ⟨gb768, 1, none⟩ = some (.slice A0_1 l0_1.length c0_1) := (blk_cell BK768.out 1).trans rfl; have hfz5_0 := blk_frozen BK768.out 0; have hfz5_1 := blk_frozen BK768.out 1) | ((with_reducible refine gate_callee (f := 88) rfl ?_); refine goesL_ (some 10) rfl rfl Try.func88 (by kernel_rfl) rfl #[.agg #[.int .i64 a0_0, .slice A0_1 l0_1.length c0_1]] rfl (by (try simp only [List.map_toArray, List.map_cons, List.map_nil]); first | done | rfl | (simp only [List.length_drop, List.length_take]; rfl)) ?_; (with_reducible refine (impl_RankOfMatroid.calls k a0_0 _ _ l0_1 t769 _ ?side1 ?side2 A2.out).mono ?_); (case side1 => repeat (first | exact (Kd.C_below HR0_1.out HB.out) | (with_reducible refine Kd.C_alloc ?_ _) | (with_reducible refine Kd.C_drewN ?_ _) | (with_reducible refine Kd.C_drew ?_))); (case side2 => exact HC0_1.out); rintro e w6 ⟨rfl, hb⟩; refine ⟨_, rfl, ?_⟩; have n0_ := Aside0.mk (blk_below (g := gb768) (o := .cells #[.int .i64 a0_0, .slice A0_1 l0_1.length c0_1] 27 (0, 0)) (by (with_reducible repeat (first | refine blk_drewN ?_ _ | refine blk_drew ?_ | refine blk_alloc ?_ _)); exact BK768.out) hb); have n1_ := Aside0.mk (below_step (by repeat (first | (with_reducible first | exact HB.out | apply below_alloc | apply pw_below_drewN | apply below_drew1 | refine below_set ?_ GE768.out) | exact HB.out)) hb); clear BK768; clear HB; have BK768 := n0_; have HB := n1_; clear n0_ n1_; (try clear hb); (try clear hb2); (try clear hk); (try clear hi)))
    go_ret
    exact ⟨_, by first | rfl | (simp [errW_none, errW_some] <;> rfl) | (simp [*, errW_none, errW_some] <;> rfl), by first | exact Kd.R_nil _ _ _ _ _ | exact Kd.N_nil _ _ _ _ _ | exact Kd.V_nil _ _ _ _ _ | exact Kd.Q_nil _ _ _ _ _ | exact Kd.S_nil _ _ _ _ _, by repeat (first | (with_reducible first | exact HB.out | apply below_alloc | apply pw_below_drewN | apply below_drew1 | refine below_set ?_ GE768.out) | exact HB.out)⟩
  · rw [if_neg c3] at H
    have c3b0 : decide (t769 < 0) = false := decide_eq_false c3
    clear c3
    obtain ⟨ji7, hji7⟩ : ∃ j_ : Int, (wrap64 (t769 + 1)) = j_ := ⟨_, rfl⟩
    replace H : (if 0 ≤ (ji7) then (if (ji7 : Int).toNat ≤ 35184372088832 then ((some (List.replicate (ji7 : Int).toNat 0 : List Int)).bind fun y770 => ((impl_LoopsOf.f k a0_0 l0_1).bind fun t773 => (if t773 = 0 then ((impl_moebius.f k a0_0 l0_1).bind fun bt774 => (impl_CharacteristicOf.l0 k t769 y770 bt774.2 bt774.1 (bt774.1.length : Int) 0 a0_0 l0_1)) else (some y770)))) else (none)) else (none)) = some r := by first | (rw [hji7] at H; exact H) | (simp only [hji7] at H ⊢; exact H)
    (try rw [hji7] at A2)
    have hji7w : (IntKind.i64.wrap (t769 + 1)) = ji7 := (i64_w _).trans hji7
    by_cases c8 : 0 ≤ (ji7)
    · rw [if_pos c8] at H
      have c8b0 := eq_true c8
      have c8b1 : decide (0 ≤ (ji7)) = true := decide_eq_true c8
      clear c8
      by_cases c9 : (ji7 : Int).toNat ≤ 35184372088832
      · rw [if_pos c9] at H
        have c9b0 := eq_true c9
        have c9b1 : decide ((ji7 : Int).toNat ≤ 35184372088832) = true := decide_eq_true c9
        clear c9
        obtain ⟨y770, hy770⟩ : ∃ y_ : List Int, y_ = (List.replicate (ji7 : Int).toNat 0) := ⟨_, rfl⟩
        replace H : ((impl_LoopsOf.f k a0_0 l0_1).bind fun t773 => (if t773 = 0 then ((impl_moebius.f k a0_0 l0_1).bind fun bt774 => (impl_CharacteristicOf.l0 k t769 y770 bt774.2 bt774.1 (bt774.1.length : Int) 0 a0_0 l0_1)) else (some y770))) = some r := by first | (rw [hy770]; with_reducible exact H) | (have H2_ := (Option.bind_some _ _).symm.trans H; rw [hy770]; with_reducible exact H2_) | (have H2_ := (Option.bind_some _ _).symm.trans H; with_reducible exact H2_) | with_reducible exact H | (rw [hy770]; exact H) | exact H
        have Ny770 := Aside0.mk hy770
        clear hy770
        replace H := Option.bind_eq_some_iff.mp H
        obtain ⟨t773, A100, H⟩ := H
        replace H : (if t773 = 0 then ((impl_moebius.f k a0_0 l0_1).bind fun bt774 => (impl_CharacteristicOf.l0 k t769 y770 bt774.2 bt774.1 (bt774.1.length : Int) 0 a0_0 l0_1)) else (some y770)) = some r := H
        have A10 := Aside0.mk A100
        clear A100
        by_cases c11 : t773 = 0
        · rw [if_pos c11] at H
          have c11b0 : (t773 == 0) = true := beq_iff_eq.mpr c11
          have c11b1 : (t773 != 0) = false := bne_eq_false_iff_eq.mpr c11
          clear c11
          replace H := Option.bind_eq_some_iff.mp H
          obtain ⟨⟨t774, t777⟩, A120, H⟩ := H
          replace H : (impl_CharacteristicOf.l0 k t769 y770 t777 t774 (t774.length : Int) 0 a0_0 l0_1) = some r := H
          have A12 := Aside0.mk A120
          clear A120
          have H' := Aside0.mk H
          clear H
          go_enter Try.func48, Try.ntmps48
          go_wp2_with (first | ((with_reducible refine gate_dst (N := 1) rfl ?_); refine box_event ?hg (N := 1) ?hd (cs := #[.int .i64 a0_0, .slice A0_1 l0_1.length c0_1]) (t := 27) ?hr ?_; (case hd => rfl); (case hg => rfl); (case hr => first | (go_simp; done) | (go_simp; rfl)); intro gb768 hg w13 hbox hb; have n0_ := Aside0.mk (below_step (by repeat (first | (with_reducible first | exact HB.out | apply below_alloc | apply pw_below_drewN | apply below_drew1) | exact HB.out)) hb); have n1_ := Aside0.mk (hbox); have n2_ := Aside0.mk ((by rw [hg]; exact (below_size (by repeat (first | (with_reducible first | exact HB.out | apply below_alloc | apply pw_below_drewN | apply below_drew1) | exact HB.out))) : w.heap.size ≤ gb768)); have n3_ := Aside0.mk ((by rw [hg]; exact (below_size (by repeat (first | (with_reducible first | exact HB.out | apply below_alloc | apply pw_below_drewN | apply below_drew1) | exact HB.out))) : w.heap.size ≤ gb768)); clear HB; have HB := n0_; have BK768 := n1_; have GW768 := n2_; have GE768 := n3_; clear n0_ n1_ n2_ n3_; clear hb hbox hg; have hcz14_0 : w13.cell? ⟨gb768, 0, none⟩ = some (.int .i64 a0_0) := (blk_cell BK768.out 0).trans rfl; have hcz14_1 : w13.cell? ⟨gb768, 1, none⟩ = some (.slice A0_1 l0_1.length c0_1) := (blk_cell BK768.out 1).trans rfl; have hfz14_0 := blk_frozen BK768.out 0; have hfz14_1 := blk_frozen BK768.out 1) | ((with_reducible refine gate_callee (f := 88) rfl ?_); refine goesL_ (some 10) rfl rfl Try.func88 (by kernel_rfl) rfl #[.agg #[.int .i64 a0_0, .slice A0_1 l0_1.length c0_1]] rfl (by (try simp only [List.map_toArray, List.map_cons, List.map_nil]); first | done | rfl | (simp only [List.length_drop, List.length_take]; rfl)) ?_; (with_reducible refine (impl_RankOfMatroid.calls k a0_0 _ _ l0_1 t769 _ ?side1 ?side2 A2.out).mono ?_); (case side1 => repeat (first | exact (Kd.C_below HR0_1.out HB.out) | (with_reducible refine Kd.C_alloc ?_ _) | (with_reducible refine Kd.C_drewN ?_ _) | (with_reducible refine Kd.C_drew ?_))); (case side2 => exact HC0_1.out); rintro e w15 ⟨rfl, hb⟩; refine ⟨_, rfl, ?_⟩; have n0_ := Aside0.mk (blk_below (g := gb768) (o := .cells #[.int .i64 a0_0, .slice A0_1 l0_1.length c0_1] 27 (0, 0)) (by (with_reducible repeat (first | refine blk_drewN ?_ _ | refine blk_drew ?_ | refine blk_alloc ?_ _)); exact BK768.out) hb); have n1_ := Aside0.mk (below_step (by repeat (first | (with_reducible first | exact HB.out | apply below_alloc | apply pw_below_drewN | apply below_drew1 | refine below_set ?_ GE768.out) | exact HB.out)) hb); clear BK768; clear HB; have BK768 := n0_; have HB := n1_; clear n0_ n1_; (try clear hb); (try clear hb2); (try clear hk); (try clear hi)) | ((with_reducible refine gate_dst (N := 15) rfl ?_); refine Kd.R_make (Kd.int .i64) _ 3 rfl (N := 15) rfl 22 _ _ rfl ji7 rfl rfl Try.underlying22 (.int .i64 0) 8 info3 rfl (by decide) (by omega) 0 (ok := fun _ => True) (okp := fun _ => True) rfl (fun _ hk => hk) trivial (of_decide_eq_true (by first | (with_reducible assumption) | assumption)) (Nat.le_trans (Nat.mul_le_mul_right _ (of_decide_eq_true (by first | (with_reducible assumption) | assumption) : ji7.toNat ≤ 35184372088832)) (by omega)) (Below.refl _ _) (Nat.le_refl _) ?_; intro v771 w16 ho17 hb hg_ hnew_; clear hg_ hnew_; (first | rw [← Ny770.out] at ho17 | (simp only [Int.reduceToNat] at ho17; rw [← Ny770.out] at ho17)); have n0_ := Aside0.mk (Kd.R_lower ho17 (below_size (by repeat (first | (with_reducible first | exact HB.out | apply below_alloc | apply pw_below_drewN | apply below_drew1 | refine below_set ?_ GE768.out) | exact HB.out)))); have n1_ := Aside0.mk (blk_below (g := gb768) (o := .cells #[.int .i64 a0_0, .slice A0_1 l0_1.length c0_1] 27 (0, 0)) (by (with_reducible repeat (first | refine blk_drewN ?_ _ | refine blk_drew ?_ | refine blk_alloc ?_ _)); exact BK768.out) hb); have n2_ := Aside0.mk (below_step (by repeat (first | (with_reducible first | exact HB.out | apply below_alloc | apply pw_below_drewN | apply below_drew1 | refine below_set ?_ GE768.out) | exact HB.out)) hb); clear BK768; clear HB; have HO772 := n0_; have BK768 := n1_; have HB := n2_; clear n0_ n1_ n2_; clear hb ho17; have hcz18_0 : w16.cell? ⟨gb768, 0, none⟩ = some (.int .i64 a0_0) := (blk_cell BK768.out 0).trans rfl; have hcz18_1 : w16.cell? ⟨gb768, 1, none⟩ = some (.slice A0_1 l0_1.length c0_1) := (blk_cell BK768.out 1).trans rfl; have hfz18_0 := blk_frozen BK768.out 0; have hfz18_1 := blk_frozen BK768.out 1) | ((with_reducible refine gate_callee (f := 106) rfl ?_); refine goesL_ (some 17) rfl rfl Try.func106 (by kernel_rfl) rfl #[.agg #[.int .i64 a0_0, .slice A0_1 l0_1.length c0_1]] rfl (by (try simp only [List.map_toArray, List.map_cons, List.map_nil]); first | done | rfl | (simp only [List.length_drop, List.length_take]; rfl)) ?_; (with_reducible refine (impl_LoopsOf.calls k a0_0 _ _ l0_1 t773 _ ?side1 ?side2 A10.out).mono ?_); (case side1 => repeat (first | exact (Kd.C_below HR0_1.out HB.out) | (with_reducible refine Kd.C_alloc ?_ _) | (with_reducible refine Kd.C_drewN ?_ _) | (with_reducible refine Kd.C_drew ?_))); (case side2 => exact HC0_1.out); rintro e w19 ⟨rfl, hb⟩; refine ⟨_, rfl, ?_⟩; have n0_ := Aside0.mk (Kd.R_below (by (with_reducible repeat (first | apply Kd.R_alloc | apply Kd.R_drewN | apply Kd.R_drew)); exact HO772.out) hb); have n1_ := Aside0.mk (blk_below (g := gb768) (o := .cells #[.int .i64 a0_0, .slice A0_1 l0_1.length c0_1] 27 (0, 0)) (by (with_reducible repeat (first | refine blk_drewN ?_ _ | refine blk_drew ?_ | refine blk_alloc ?_ _)); exact BK768.out) hb); have n2_ := Aside0.mk (below_step (by repeat (first | (with_reducible first | exact HB.out | apply below_alloc | apply pw_below_drewN | apply below_drew1 | refine below_set ?_ GE768.out) | exact HB.out)) hb); clear HO772; clear BK768; clear HB; have HO772 := n0_; have BK768 := n1_; have HB := n2_; clear n0_ n1_ n2_; (try clear hb); (try clear hb2); (try clear hk); (try clear hi); have hcz20_0 : w19.cell? ⟨gb768, 0, none⟩ = some (.int .i64 a0_0) := (blk_cell BK768.out 0).trans rfl; have hcz20_1 : w19.cell? ⟨gb768, 1, none⟩ = some (.slice A0_1 l0_1.length c0_1) := (blk_cell BK768.out 1).trans rfl; have hfz20_0 := blk_frozen BK768.out 0; have hfz20_1 := blk_frozen BK768.out 1) | ((with_reducible refine gate_callee (f := 94) rfl ?_); refine goesL_ (some 22) rfl rfl Try.func94 (by kernel_rfl) rfl #[.agg #[.int .i64 a0_0, .slice A0_1 l0_1.length c0_1]] rfl (by (try simp only [List.map_toArray, List.map_cons, List.map_nil]); first | done | rfl | (simp only [List.length_drop, List.length_take]; rfl)) ?_; (with_reducible refine (impl_moebius.calls k a0_0 _ _ l0_1 t774 t777 _ ?side1 ?side2 A12.out).mono ?_); (case side1 => repeat (first | exact (Kd.C_below HR0_1.out HB.out) | (with_reducible refine Kd.C_alloc ?_ _) | (with_reducible refine Kd.C_drewN ?_ _) | (with_reducible refine Kd.C_drew ?_))); (case side2 => exact HC0_1.out); rintro e w21 ⟨v775, v778, rfl, ho0, ho1, hb⟩; refine ⟨_, rfl, ?_⟩; have n0_ := Aside0.mk (Kd.R_mono (Kd.R_told (Kd.R_told (Kd.R_old (by (with_reducible repeat (first | apply Kd.R_alloc | apply Kd.R_drewN | apply Kd.R_drew)); exact HO772.out) hb) (Kd.R_base ho0)) (Kd.R_base ho1)) (fun _ h_ => h_.1)); have n1_ := Aside0.mk (Kd.R_lower (Kd.R_new' ho0 (Kd.R_lt (by (with_reducible repeat (first | apply Kd.R_alloc | apply Kd.R_drewN | apply Kd.R_drew)); exact HO772.out))) (below_size (by repeat (first | (with_reducible first | exact HB.out | apply below_alloc | apply pw_below_drewN | apply below_drew1 | refine below_set ?_ GE768.out) | exact HB.out)))); have n2_ := Aside0.mk (Kd.R_lower (Kd.R_new' ho1 (Kd.R_lt (by (with_reducible repeat (first | apply Kd.R_alloc | apply Kd.R_drewN | apply Kd.R_drew)); exact HO772.out))) (below_size (by repeat (first | (with_reducible first | exact HB.out | apply below_alloc | apply pw_below_drewN | apply below_drew1 | refine below_set ?_ GE768.out) | exact HB.out)))); have n3_ := Aside0.mk (blk_below (g := gb768) (o := .cells #[.int .i64 a0_0, .slice A0_1 l0_1.length c0_1] 27 (0, 0)) (by (with_reducible repeat (first | refine blk_drewN ?_ _ | refine blk_drew ?_ | refine blk_alloc ?_ _)); exact BK768.out) hb); have n4_ := Aside0.mk (below_step (by repeat (first | (with_reducible first | exact HB.out | apply below_alloc | apply pw_below_drewN | apply below_drew1 | refine below_set ?_ GE768.out) | exact HB.out)) hb); clear HO772; clear BK768; clear HB; have HO772 := n0_; have HO776 := n1_; have HO779 := n2_; have BK768 := n3_; have HB := n4_; clear n0_ n1_ n2_ n3_ n4_; (try clear hb); (try clear hb2); (try clear hk); (try clear hi); (try clear ho0); (try clear ho1); obtain ⟨Ao22, co22, eo22⟩ := Kd.R_slice HO776.out; subst eo22))
          go_loopg [27] k (fun kq v27 w' => ∃ (x4_1 : List Int) (x27_1 : Int), v27 = .int .i64 x27_1 ∧ Aside0 (impl_CharacteristicOf.l0 kq t769 x4_1 t777 t774 (t774.length : Int) x27_1 a0_0 l0_1 = some r) ∧ Aside0 (kq ≤ k) ∧ Aside0 (Kd.R (Kd.int .i64) 3 w' w.heap.size (fun k_ => some k_ ≠ (v778 : Value).ownBlock ∧ some k_ ≠ ((.slice Ao22 t774.length co22) : Value).ownBlock) v771 x4_1) ∧ Aside0 (Kd.R (Kd.int .i64) 3 w' w.heap.size (fun k_ => some k_ ≠ (v771 : Value).ownBlock ∧ some k_ ≠ ((.slice Ao22 t774.length co22) : Value).ownBlock) v778 t777) ∧ Aside0 (Kd.R (Kd.int .i64) 3 w' w.heap.size (fun k_ => some k_ ≠ (v771 : Value).ownBlock ∧ some k_ ≠ (v778 : Value).ownBlock) (.slice Ao22 t774.length co22) t774) ∧ Aside0 (w'.heap[gb768]? = some (.cells #[.int .i64 a0_0, (.slice A0_1 l0_1.length c0_1)] 27 (0, 0))) ∧ Aside0 (Below w.heap.size w w'))
          case atStart => exact ⟨(y770), (0), (by first | rfl | (simp; done) | (simp [*]; done)), H', ⟨Nat.le_refl _⟩, ⟨by (with_reducible repeat (first | apply Kd.R_alloc | apply Kd.R_drewN | apply Kd.R_drew)); exact Kd.R_mono HO772.out (fun _ hk => (by first | exact ⟨hk.2, hk.1.2⟩ | (simp_all; done)))⟩, ⟨by (with_reducible repeat (first | apply Kd.R_alloc | apply Kd.R_drewN | apply Kd.R_drew)); exact Kd.R_mono HO779.out (fun _ hk => (by first | exact ⟨hk.2, hk.1⟩ | (simp_all; done)))⟩, ⟨by (with_reducible repeat (first | apply Kd.R_alloc | apply Kd.R_drewN | apply Kd.R_drew)); exact Kd.R_mono HO776.out (fun _ hk => (by first | exact ⟨hk.2, hk.1⟩ | (simp_all; done)))⟩, ⟨by (with_reducible repeat (first | refine blk_drewN ?_ _ | refine blk_drew ?_ | refine blk_alloc ?_ _)); exact BK768.out⟩, ⟨by repeat (first | (with_reducible first | exact HB.out | apply below_alloc | apply pw_below_drewN | apply below_drew1 | refine below_set ?_ GE768.out) | exact HB.out)⟩⟩
          case round =>
            clear H'
            try clear c1
            try clear p2
            try clear c3
            try clear c3b0
            try clear c4
            try clear p6
            try clear c8
            try clear c8b0
            try clear c8b1
            try clear c9
            try clear c9b0
            try clear c9b1
            try clear c10
            try clear c11
            try clear c11b0
            try clear c11b1
            try clear hcz14_0
            try clear hcz14_1
            try clear hcz18_0
            try clear hcz18_1
            try clear hcz20_0
            try clear hcz20_1
            try clear hcz5_0
            try clear hcz5_1
            try clear hfz14_0
            try clear hfz14_1
            try clear hfz18_0
            try clear hfz18_1
            try clear hfz20_0
            try clear hfz20_1
            try clear hfz5_0
            try clear hfz5_1
            obtain ⟨x4_1, x27_1, rfl, HA, HK1, HO_4, HO_6, HO_25, BK768, HB⟩ := hrel
            cases gk with
            | zero => exact absurd HA.out (by simp [impl_CharacteristicOf.l0])
            | succ k1 =>
              have H := HA.out
              clear HA
              simp only [impl_CharacteristicOf.l0] at H
              by_cases c23 : x27_1 < (t774.length : Int)
              · rw [if_pos c23] at H
                have c23b0 : decide (x27_1 < (t774.length : Int)) = true := decide_eq_true c23
                clear c23
                by_cases c24 : 0 ≤ x27_1
                · rw [if_pos c24] at H
                  have c24b0 : decide (0 ≤ x27_1) = true := decide_eq_true c24
                  clear c24
                  by_cases c25 : x27_1 < (t774.length : Int)
                  · rw [if_pos c25] at H
                    have c25b0 : decide (x27_1 < (t774.length : Int)) = true := decide_eq_true c25
                    clear c25
                    replace H := Option.bind_eq_some_iff.mp H
                    obtain ⟨t781, A260, H⟩ := H
                    replace H : (if 0 ≤ (wrap64 (t769 - t781)) then (if (wrap64 (t769 - t781)) < (x4_1.length : Int) then (if x27_1 < (t777.length : Int) then (impl_CharacteristicOf.l0 k1 t769 (x4_1.set ((wrap64 (t769 - t781)) : Int).toNat (wrap64 ((rd x4_1 (wrap64 (t769 - t781))) + (rd t777 x27_1)))) t777 t774 (t774.length : Int) (wrap64 (x27_1 + 1)) a0_0 l0_1) else (none)) else (none)) else (none)) = some r := H
                    have A26 := Aside0.mk A260
                    clear A260
                    obtain ⟨ji27, hji27⟩ : ∃ j_ : Int, (wrap64 (t769 - t781)) = j_ := ⟨_, rfl⟩
                    replace H : (if 0 ≤ (ji27) then (if (ji27) < (x4_1.length : Int) then (if x27_1 < (t777.length : Int) then (impl_CharacteristicOf.l0 k1 t769 (x4_1.set ((ji27) : Int).toNat (wrap64 ((rd x4_1 (ji27)) + (rd t777 x27_1)))) t777 t774 (t774.length : Int) (wrap64 (x27_1 + 1)) a0_0 l0_1) else (none)) else (none)) else (none)) = some r := by first | (rw [hji27] at H; exact H) | (simp only [hji27] at H ⊢; exact H)
                    (try rw [hji27] at A26)
                    have hji27w : (IntKind.i64.wrap (t769 - t781)) = ji27 := (i64_w _).trans hji27
                    by_cases c28 : 0 ≤ (ji27)
                    · rw [if_pos c28] at H
                      have c28b0 : decide (0 ≤ (ji27)) = true := decide_eq_true c28
                      clear c28
                      by_cases c29 : (ji27) < (x4_1.length : Int)
                      · rw [if_pos c29] at H
                        have c29b0 : decide ((ji27) < (x4_1.length : Int)) = true := decide_eq_true c29
                        clear c29
                        by_cases c30 : x27_1 < (t777.length : Int)
                        · rw [if_pos c30] at H
                          have c30b0 : decide (x27_1 < (t777.length : Int)) = true := decide_eq_true c30
                          clear c30
                          obtain ⟨y784, hy784⟩ : ∃ y_ : List Int, y_ = (x4_1.set ((ji27) : Int).toNat (wrap64 ((rd x4_1 (ji27)) + (rd t777 x27_1)))) := ⟨_, rfl⟩
                          replace H : (impl_CharacteristicOf.l0 k1 t769 y784 t777 t774 (t774.length : Int) (wrap64 (x27_1 + 1)) a0_0 l0_1) = some r := by first | (rw [hy784]; with_reducible exact H) | (have H2_ := (Option.bind_some _ _).symm.trans H; rw [hy784]; with_reducible exact H2_) | (have H2_ := (Option.bind_some _ _).symm.trans H; with_reducible exact H2_) | with_reducible exact H | (rw [hy784]; exact H) | exact H
                          have Ny784 := Aside0.mk hy784
                          clear hy784
                          have H' := Aside0.mk H
                          clear H
                          have p780 : 0 ≤ (x27_1 : Int) := of_decide_eq_true (by first | (with_reducible assumption) | assumption)
                          have q780 : x27_1 < (t774.length : Int) := of_decide_eq_true (by first | (with_reducible assumption) | assumption)
                          (try (obtain ⟨Aq780, cq780, eq780⟩ := Kd.R_slice HO_25.out; subst eq780))
                          obtain ⟨ad780, e780, hx780_0⟩ := Kd.at_int (Kd.R_reads' HO_25.out).2.2 x27_1 p780 q780
                          cases e780
                          replace p780 := eq_true p780
                          replace q780 := eq_true q780
                          try go_wp2
                          have n0_ := Aside0.mk (Kd.R_drew HO_4.out)
                          have n1_ := Aside0.mk (Kd.R_drew HO_6.out)
                          have n2_ := Aside0.mk (Kd.R_drew HO_25.out)
                          have n3_ := Aside0.mk (blk_drew BK768.out)
                          have n4_ := Aside0.mk (below_drew1 HB.out)
                          clear HO_4
                          clear HO_6
                          clear HO_25
                          clear BK768
                          clear HB
                          have HO_4 := n0_
                          have HO_6 := n1_
                          have HO_25 := n2_
                          have BK768 := n3_
                          have HB := n4_
                          clear n0_ n1_ n2_ n3_ n4_
                          obtain ⟨Ao33, co33, eo33⟩ := Kd.R_slice HO_6.out
                          (first | subst eo33 | (injection eo33 with f1_ f2_ f3_; have f4_ := f1_.symm; have f5_ := f3_.symm; clear f1_ f2_ f3_; subst f4_; subst f5_))
                          have p783 : 0 ≤ (x27_1 : Int) := of_decide_eq_true (by first | (with_reducible assumption) | assumption)
                          have q783 : x27_1 < (t777.length : Int) := of_decide_eq_true (by first | (with_reducible assumption) | assumption)
                          (try (obtain ⟨Aq783, cq783, eq783⟩ := Kd.R_slice HO_6.out; subst eq783))
                          obtain ⟨ad783, e783, hx783_0⟩ := Kd.at_int (Kd.R_reads' HO_6.out).2.2 x27_1 p783 q783
                          cases e783
                          replace p783 := eq_true p783
                          replace q783 := eq_true q783
                          have p782 : 0 ≤ ((ji27) : Int) := of_decide_eq_true (by first | (with_reducible assumption) | assumption)
                          have q782 : (ji27) < (x4_1.length : Int) := of_decide_eq_true (by first | (with_reducible assumption) | assumption)
                          (try (obtain ⟨Aq782, cq782, eq782⟩ := Kd.R_slice HO_4.out; subst eq782))
                          obtain ⟨ad782, e782, hx782_0⟩ := Kd.at_int (Kd.R_reads' HO_4.out).2.2 (ji27) p782 q782
                          cases e782
                          replace p782 := eq_true p782
                          replace q782 := eq_true q782
                          refine start_ (n := 15) (S := fun w' => w'.cell? ⟨gb768, 0, none⟩ = some (.int .i64 a0_0) ∧ w'.cell? ⟨gb768, 1, none⟩ = some (.slice A0_1 l0_1.length c0_1) ∧ w'.cell? (ad783.add (x27_1).toNat) = some (.int .i64 (rd t777 x27_1)) ∧ w'.cell? (ad782.add ((ji27)).toNat) = some (.int .i64 (rd x4_1 (ji27)))) (ds := [14]) #[false, false, false, false, false, false, false, false, false, false, false, false, false, false, false] (by kernel_rfl) rfl rfl ⟨(blk_cell BK768.out 0).trans rfl, (blk_cell BK768.out 1).trans rfl, hx783_0, hx782_0⟩ (fun hHeld => ?_); refine with_tabW impl_CharacteristicOf.tab11 impl_CharacteristicOf.bits11 (fun HT_ HW_ => ?_)
                          generalize wr.drew = w32 at HO_4 HO_6 HO_25 BK768 HB hx782_0 hx783_0 hHeld ⊢
                          refine pure_ (i := 0) (N := some 32) (v := ?_) (a' := ?_) #[true, false, false, false, false, false, false, false, false, false, false, false, false, false, false] rfl rfl (any_of HT_.out (by kernel_rfl)) (fun _ _ _ h => h) (Or.inl ⟨by rfl, ?_⟩) ?_ ?_
                          rotate_left
                          · intro w'
                            go_simp
                            with_reducible rfl
                          rotate_left
                          · simp only [Act.put, List.setIfInBounds_toArray, List.set_cons_zero, List.set_cons_succ, i64_w, i32_w]
                            rfl
                          refine pure_ (i := 1) (N := some 33) (v := ?_) (a' := ?_) #[true, true, false, false, false, false, false, false, false, false, false, false, false, false, false] rfl rfl (any_of HT_.out (by kernel_rfl)) (fun _ _ _ h => h) (Or.inl ⟨by rfl, ?_⟩) ?_ ?_
                          rotate_left
                          · intro w'
                            go_simp
                            with_reducible rfl
                          rotate_left
                          · simp only [Act.put, List.setIfInBounds_toArray, List.set_cons_zero, List.set_cons_succ, i64_w, i32_w]
                            rfl
                          refine pure_ (i := 3) (N := some 35) (v := ?_) (a' := ?_) #[true, true, false, true, false, false, false, false, false, false, false, false, false, false, false] rfl rfl (any_of HT_.out (by kernel_rfl)) (fun _ _ _ h => h) (Or.inl ⟨by rfl, ?_⟩) ?_ ?_
                          rotate_left
                          · intro w'
                            go_simp
                            with_reducible rfl
                          rotate_left
                          · simp only [Act.put, List.setIfInBounds_toArray, List.set_cons_zero, List.set_cons_succ, i64_w, i32_w]
                            rfl
                          refine pure_ (i := 8) (N := some 40) (v := ?_) (a' := ?_) #[true, true, false, true, false, false, false, false, true, false, false, false, false, false, false] rfl rfl (any_of HT_.out (by kernel_rfl)) (fun _ _ _ h => h) (Or.inl ⟨by rfl, ?_⟩) ?_ ?_
                          rotate_left
                          · intro w'
                            go_simp
                            with_reducible rfl
                          rotate_left
                          · simp only [Act.put, List.setIfInBounds_toArray, List.set_cons_zero, List.set_cons_succ, i64_w, i32_w]
                            rfl
                          refine pure_ (i := 9) (N := some 41) (v := ?_) (a' := ?_) #[true, true, false, true, false, false, false, false, true, true, false, false, false, false, false] rfl rfl (any_of HT_.out (by kernel_rfl)) (fun _ _ _ h => h) (Or.inl ⟨by rfl, ?_⟩) ?_ ?_
                          rotate_left
                          · intro w'
                            go_simp
                            with_reducible rfl
                          rotate_left
                          · simp only [Act.put, List.setIfInBounds_toArray, List.set_cons_zero, List.set_cons_succ, i64_w, i32_w]
                            rfl
                          refine pure_ (i := 10) (N := some 42) (v := ?_) (a' := ?_) #[true, true, false, true, false, false, false, false, true, true, true, false, false, false, false] rfl rfl (any_of HT_.out (by kernel_rfl)) (fun _ _ _ h => h) (Or.inl ⟨by rfl, ?_⟩) ?_ ?_
                          rotate_left
                          · intro w'
                            go_simp
                            with_reducible rfl
                          rotate_left
                          · simp only [Act.put, List.setIfInBounds_toArray, List.set_cons_zero, List.set_cons_succ, i64_w, i32_w]
                            rfl
                          refine take_ (i := 2) (N := some 34) (v := ?_) (a' := ?_) #[true, true, true, true, false, false, false, false, true, true, true, false, false, false, false] rfl rfl (take_ofW HT_.out HW_.out (by kernel_rfl)) (fun _ _ _ h => h) (Or.inl ⟨by rfl, ?_⟩) hHeld ?_ ?_
                          rotate_left
                          · rintro w' ⟨s0, s1, s2, s3⟩
                            (try simp only [add_plain] at s0 s1 s2 s3)
                            go_simp
                            with_reducible rfl
                          rotate_left
                          · simp only [Act.put, List.setIfInBounds_toArray, List.set_cons_zero, List.set_cons_succ, i64_w, i32_w]
                            rfl
                          refine take_ (i := 11) (N := some 43) (v := ?_) (a' := ?_) #[true, true, true, true, false, false, false, false, true, true, true, true, false, false, false] rfl rfl (take_ofW HT_.out HW_.out (by kernel_rfl)) (fun _ _ _ h => h) (Or.inl ⟨by rfl, ?_⟩) hHeld ?_ ?_
                          rotate_left
                          · rintro w' ⟨s0, s1, s2, s3⟩
                            (try simp only [add_plain] at s0 s1 s2 s3)
                            go_simp
                            with_reducible rfl
                          rotate_left
                          · simp only [Act.put, List.setIfInBounds_toArray, List.set_cons_zero, List.set_cons_succ, i64_w, i32_w]
                            rfl
                          refine one_ (i := 4) (N := some 36) #[true, true, true, true, true, false, false, false, true, true, true, true, false, false, false] rfl rfl (one_of HT_.out (by kernel_rfl)) (by decide) (fun K hK => ?_)
                          refine goes_ Try.func90 (by kernel_rfl) rfl #[.agg #[.int .i64 a0_0, .slice A0_1 l0_1.length c0_1], .int .i64 (rd t774 x27_1)] (by rfl) rfl rfl (by (try simp only [List.map_toArray, List.map_cons, List.map_nil]); first | done | rfl | (simp only [List.length_drop, List.length_take]; rfl)) ?_
                          with_reducible refine (impl_rankIn.calls k1 a0_0 _ _ l0_1 (rd t774 x27_1) t781 _ ?side1 ?side2 A26.out).mono ?_
                          (case side1 => repeat (first | exact (Kd.C_below HR0_1.out HB.out) | (with_reducible refine Kd.C_alloc ?_ _) | (with_reducible refine Kd.C_drewN ?_ _) | (with_reducible refine Kd.C_drew ?_)))
                          (case side2 => exact HC0_1.out)
                          rintro e w34 ⟨rfl, hb⟩
                          have HS2_ := (hb.cell (World.block_lt_of_cell? _ _ (hHeld.2.2.1))).trans (hHeld.2.2.1)
                          have HS3_ := (hb.cell (World.block_lt_of_cell? _ _ (hHeld.2.2.2))).trans (hHeld.2.2.2)
                          refine ⟨_, rfl, ?_⟩
                          have n0_ := Aside0.mk (Kd.R_below (by (with_reducible repeat (first | apply Kd.R_alloc | apply Kd.R_drewN | apply Kd.R_drew)); exact HO_4.out) hb)
                          have n1_ := Aside0.mk (Kd.R_below (by (with_reducible repeat (first | apply Kd.R_alloc | apply Kd.R_drewN | apply Kd.R_drew)); exact HO_6.out) hb)
                          have n2_ := Aside0.mk (Kd.R_below (by (with_reducible repeat (first | apply Kd.R_alloc | apply Kd.R_drewN | apply Kd.R_drew)); exact HO_25.out) hb)
                          have n3_ := Aside0.mk (blk_below (g := gb768) (o := .cells #[.int .i64 a0_0, .slice A0_1 l0_1.length c0_1] 27 (0, 0)) (by (with_reducible repeat (first | refine blk_drewN ?_ _ | refine blk_drew ?_ | refine blk_alloc ?_ _)); exact BK768.out) hb)
                          have n4_ := Aside0.mk (below_step (by repeat (first | (with_reducible first | exact HB.out | apply below_alloc | apply pw_below_drewN | apply below_drew1 | refine below_set ?_ GE768.out) | exact HB.out)) hb)
                          clear HO_4
                          clear HO_6
                          clear HO_25
                          clear BK768
                          clear HB
                          have HO_4 := n0_
                          have HO_6 := n1_
                          have HO_25 := n2_
                          have BK768 := n3_
                          have HB := n4_
                          clear n0_ n1_ n2_ n3_ n4_
                          (try clear hb)
                          (try clear hb2)
                          (try clear hk)
                          (try clear hi)
                          obtain ⟨Ao35, co35, eo35⟩ := Kd.R_slice HO_4.out
                          (first | subst eo35 | (injection eo35 with f1_ f2_ f3_; have f4_ := f1_.symm; have f5_ := f3_.symm; clear f1_ f2_ f3_; subst f4_; subst f5_))
                          have p31 : 0 ≤ ((ji27) : Int) := of_decide_eq_true (by first | (with_reducible assumption) | assumption)
                          have q31 : ((ji27) : Int) < ((x4_1.length : Int) : Int) := of_decide_eq_true (by first | (with_reducible assumption) | assumption)
                          obtain ⟨go31, co31, eo31, gb31, gl31, cl31, HG31⟩ := Kd.R_form HO_4.out (by omega)
                          (first | cases eo31 | (injection eo31 with ea_ en_ ec_; (first | subst ea_ | (injection ea_ with ea_; subst ea_)); subst ec_; clear en_))
                          have GB31 := Aside0.mk gb31
                          have GG31 := Aside0.mk HG31
                          clear gb31 gl31 HG31
                          (first | simp only [add_plain] at hx782_0 | skip)
                          obtain ⟨hx31_0, hf31_0⟩ := Kd.R_celln 0 HO_4.out ((ji27) : Int) p31 q31
                          replace p31 := eq_true p31
                          replace q31 := eq_true q31
                          have HP36 := Kd.R_putn HO_4.out ((ji27) : Int) (wrap64 ((rd x4_1 (ji27)) + (rd t777 x27_1)))
                          rw [← Ny784.out] at HP36
                          have HQ36 := Aside0.mk HP36
                          clear HP36
                          refine hK.out _ _ ⟨(blk_cell BK768.out 0).trans rfl, (blk_cell BK768.out 1).trans rfl, HS2_, HS3_⟩ (fun hHeld => ?_)
                          clear hK K
                          refine norm_ (a' := ?_) ?_ ?_
                          rotate_left
                          · show Act.put _ (some 36) _ = _
                            simp only [Act.put, List.setIfInBounds_toArray, List.set_cons_zero, List.set_cons_succ, i64_w, i32_w]
                            rfl
                          refine pure_ (i := 5) (N := some 37) (v := ?_) (a' := ?_) #[true, true, true, true, true, true, false, false, true, true, true, true, false, false, false] rfl rfl (any_of HT_.out (by kernel_rfl)) (fun _ _ _ h => h) (Or.inl ⟨by rfl, ?_⟩) ?_ ?_
                          rotate_left
                          · intro w'
                            go_simp
                            with_reducible rfl
                          rotate_left
                          · simp only [Act.put, List.setIfInBounds_toArray, List.set_cons_zero, List.set_cons_succ, i64_w, i32_w]
                            rfl
                          refine pure_ (i := 6) (N := some 38) (v := ?_) (a' := ?_) #[true, true, true, true, true, true, true, false, true, true, true, true, false, false, false] rfl rfl (any_of HT_.out (by kernel_rfl)) (fun _ _ _ h => h) (Or.inl ⟨by rfl, ?_⟩) ?_ ?_
                          rotate_left
                          · intro w'
                            go_simp
                            with_reducible rfl
                          rotate_left
                          · simp only [Act.put, List.setIfInBounds_toArray, List.set_cons_zero, List.set_cons_succ, i64_w, i32_w]
                            rfl
                          refine take_ (i := 7) (N := some 39) (v := ?_) (a' := ?_) #[true, true, true, true, true, true, true, true, true, true, true, true, false, false, false] rfl rfl (take_ofW HT_.out HW_.out (by kernel_rfl)) (fun _ _ _ h => h) (Or.inl ⟨by rfl, ?_⟩) hHeld ?_ ?_
                          rotate_left
                          · rintro w' ⟨s0, s1, s2, s3⟩
                            (try simp only [add_plain] at s0 s1 s2 s3)
                            go_simp
                            with_reducible rfl
                          rotate_left
                          · simp only [Act.put, List.setIfInBounds_toArray, List.set_cons_zero, List.set_cons_succ, i64_w, i32_w]
                            rfl
                          refine pure_ (i := 12) (N := some 44) (v := ?_) (a' := ?_) #[true, true, true, true, true, true, true, true, true, true, true, true, true, false, false] rfl rfl (any_of HT_.out (by kernel_rfl)) (fun _ _ _ h => h) (Or.inl ⟨by rfl, ?_⟩) ?_ ?_
                          rotate_left
                          · intro w'
                            go_simp
                            with_reducible rfl
                          rotate_left
                          · simp only [Act.put, List.setIfInBounds_toArray, List.set_cons_zero, List.set_cons_succ, i64_w, i32_w]
                            rfl
                          refine pure_ (i := 13) (N := some 45) (v := ?_) (a' := ?_) #[true, true, true, true, true, true, true, true, true, true, true, true, true, true, false] rfl rfl (any_of HT_.out (by kernel_rfl)) (fun _ _ _ h => h) (Or.inl ⟨by rfl, ?_⟩) ?_ ?_
                          rotate_left
                          · intro w'
                            go_simp
                            with_reducible rfl
                          rotate_left
                          · simp only [Act.put, List.setIfInBounds_toArray, List.set_cons_zero, List.set_cons_succ, i64_w, i32_w]
                            rfl
                          refine last_ (i := 14) (N := none) #[true, true, true, true, true, true, true, true, true, true, true, true, true, true, true] rfl rfl (one_of HT_.out (by kernel_rfl)) (by decide) (fun K hK => ?_)
                          refine skip_ (w1 := ?_) (by rfl) rfl ?_ ?_
                          rotate_left
                          · go_simp
                            rfl
                          refine hK.out _ _ ?_
                          clear hK K
                          refine done_ (done_of HT_.out (by kernel_rfl)) ?_
                          try go_wp2
                          go_roundg k1
                          case measure => have := HK1.out; omega
                          case rel => exact ⟨(y784), (wrap64 (x27_1 + 1)), (by first | rfl | (simp; done) | (simp [*]; done)), H', ⟨by have := HK1.out; omega⟩, ⟨by (with_reducible repeat (first | apply Kd.R_alloc | apply Kd.R_drewN | apply Kd.R_drew)); exact HQ36.out⟩, ⟨by (with_reducible repeat (first | apply Kd.R_alloc | apply Kd.R_drewN | apply Kd.R_drew)); exact Kd.R_mono (Kd.R_far (p := ⟨go31, ((ji27) : Int).toNat, none⟩) (Kd.R_mono HO_6.out (fun k_ hk => (⟨hk, fun e_ => hk.1 (by rw [e_]; rfl)⟩ : _ ∧ k_ ≠ go31))) (fun _ hk => hk.2) (.int .i64 (wrap64 ((rd x4_1 (ji27)) + (rd t777 x27_1))))) (fun _ hk => (by first | exact ⟨hk.1.1, hk.1.2⟩ | (simp_all; done)))⟩, ⟨by (with_reducible repeat (first | apply Kd.R_alloc | apply Kd.R_drewN | apply Kd.R_drew)); exact Kd.R_mono (Kd.R_far (p := ⟨go31, ((ji27) : Int).toNat, none⟩) (Kd.R_mono HO_25.out (fun k_ hk => (⟨hk, fun e_ => hk.1 (by rw [e_]; rfl)⟩ : _ ∧ k_ ≠ go31))) (fun _ hk => hk.2) (.int .i64 (wrap64 ((rd x4_1 (ji27)) + (rd t777 x27_1))))) (fun _ hk => (by first | exact ⟨hk.1.1, hk.1.2⟩ | (simp_all; done)))⟩, ⟨by (with_reducible repeat (first | refine blk_drewN ?_ _ | refine blk_drew ?_ | refine blk_alloc ?_ _)); refine blk_far ?_ (by have h_ := Kd.R_ne HO_4.out BK768.out (by decide); intro e_; exact h_ (by rw [e_]; rfl)) _; (with_reducible repeat (first | refine blk_drewN ?_ _ | refine blk_drew ?_ | refine blk_alloc ?_ _)); exact BK768.out⟩, ⟨by repeat (first | (with_reducible first | exact HB.out | apply below_alloc | apply pw_below_drewN | apply below_drew1 | refine below_set ?_ GB31.out | refine below_set ?_ GE768.out) | exact HB.out)⟩⟩
                        · rw [if_neg c30] at H
                          exact absurd H (by simp)
                      · rw [if_neg c29] at H
                        exact absurd H (by simp)
                    · rw [if_neg c28] at H
                      exact absurd H (by simp)
                  · rw [if_neg c25] at H
                    exact absurd H (by simp)
                · rw [if_neg c24] at H
                  exact absurd H (by simp)
              · rw [if_neg c23] at H
                have c23b0 : decide (x27_1 < (t774.length : Int)) = false := decide_eq_false c23
                clear c23
                obtain rfl := Option.some.inj H
                go_wp2
                go_ret
                exact ⟨_, by first | rfl | (simp [errW_none, errW_some] <;> rfl) | (simp only [← hji7]; first | rfl | (simp [errW_none, errW_some] <;> rfl)) | (simp [*, errW_none, errW_some] <;> rfl), by (with_reducible repeat (first | apply Kd.R_alloc | apply Kd.R_drewN | apply Kd.R_drew)); exact Kd.R_mono HO_4.out (fun _ hk => trivial), by repeat (first | (with_reducible first | exact HB.out | apply below_alloc | apply pw_below_drewN | apply below_drew1 | refine below_set ?_ GE768.out) | exact HB.out)⟩
        · rw [if_neg c11] at H
          have c11b0 : (t773 == 0) = false := beq_eq_false_iff_ne.mpr c11
          have c11b1 : (t773 != 0) = true := bne_iff_ne.mpr c11
          obtain rfl := Option.some.inj H
          go_enter Try.func48, Try.ntmps48
          go_wp2_with (first | ((with_reducible refine gate_dst (N := 1) rfl ?_); refine box_event ?hg (N := 1) ?hd (cs := #[.int .i64 a0_0, .slice A0_1 l0_1.length c0_1]) (t := 27) ?hr ?_; (case hd => rfl); (case hg => rfl); (case hr => first | (go_simp; done) | (go_simp; rfl)); intro gb768 hg w37 hbox hb; have n0_ := Aside0.mk (below_step (by repeat (first | (with_reducible first | exact HB.out | apply below_alloc | apply pw_below_drewN | apply below_drew1) | exact HB.out)) hb); have n1_ := Aside0.mk (hbox); have n2_ := Aside0.mk ((by rw [hg]; exact (below_size (by repeat (first | (with_reducible first | exact HB.out | apply below_alloc | apply pw_below_drewN | apply below_drew1) | exact HB.out))) : w.heap.size ≤ gb768)); have n3_ := Aside0.mk ((by rw [hg]; exact (below_size (by repeat (first | (with_reducible first | exact HB.out | apply below_alloc | apply pw_below_drewN | apply below_drew1) | exact HB.out))) : w.heap.size ≤ gb768)); clear HB; have HB := n0_; have BK768 := n1_; have GW768 := n2_; have GE768 := n3_; clear n0_ n1_ n2_ n3_; clear hb hbox hg; have hcz38_0 : w37.cell? ⟨gb768, 0, none⟩ = some (.int .i64 a0_0) := (blk_cell BK768.out 0).trans rfl; have hcz38_1 : w37.cell? ⟨gb768, 1, none⟩ = some (.slice A0_1 l0_1.length c0_1) := (blk_cell BK768.out 1).trans rfl; have hfz38_0 := blk_frozen BK768.out 0; have hfz38_1 := blk_frozen BK768.out 1) | ((with_reducible refine gate_callee (f := 88) rfl ?_); refine goesL_ (some 10) rfl rfl Try.func88 (by kernel_rfl) rfl #[.agg #[.int .i64 a0_0, .slice A0_1 l0_1.length c0_1]] rfl (by (try simp only [List.map_toArray, List.map_cons, List.map_nil]); first | done | rfl | (simp only [List.length_drop, List.length_take]; rfl)) ?_; (with_reducible refine (impl_RankOfMatroid.calls k a0_0 _ _ l0_1 t769 _ ?side1 ?side2 A2.out).mono ?_); (case side1 => repeat (first | exact (Kd.C_below HR0_1.out HB.out) | (with_reducible refine Kd.C_alloc ?_ _) | (with_reducible refine Kd.C_drewN ?_ _) | (with_reducible refine Kd.C_drew ?_))); (case side2 => exact HC0_1.out); rintro e w39 ⟨rfl, hb⟩; refine ⟨_, rfl, ?_⟩; have n0_ := Aside0.mk (blk_below (g := gb768) (o := .cells #[.int .i64 a0_0, .slice A0_1 l0_1.length c0_1] 27 (0, 0)) (by (with_reducible repeat (first | refine blk_drewN ?_ _ | refine blk_drew ?_ | refine blk_alloc ?_ _)); exact BK768.out) hb); have n1_ := Aside0.mk (below_step (by repeat (first | (with_reducible first | exact HB.out | apply below_alloc | apply pw_below_drewN | apply below_drew1 | refine below_set ?_ GE768.out) | exact HB.out)) hb); clear BK768; clear HB; have BK768 := n0_; have HB := n1_; clear n0_ n1_; (try clear hb); (try clear hb2); (try clear hk); (try clear hi)) | ((with_reducible refine gate_dst (N := 15) rfl ?_); refine Kd.R_make (Kd.int .i64) _ 3 rfl (N := 15) rfl 22 _ _ rfl ji7 rfl rfl Try.underlying22 (.int .i64 0) 8 info3 rfl (by decide) (by omega) 0 (ok := fun _ => True) (okp := fun _ => True) rfl (fun _ hk => hk) trivial (of_decide_eq_true (by first | (with_reducible assumption) | assumption)) (Nat.le_trans (Nat.mul_le_mul_right _ (of_decide_eq_true (by first | (with_reducible assumption) | assumption) : ji7.toNat ≤ 35184372088832)) (by omega)) (Below.refl _ _) (Nat.le_refl _) ?_; intro v771 w40 ho41 hb hg_ hnew_; clear hg_ hnew_; (first | rw [← Ny770.out] at ho41 | (simp only [Int.reduceToNat] at ho41; rw [← Ny770.out] at ho41)); have n0_ := Aside0.mk (Kd.R_lower ho41 (below_size (by repeat (first | (with_reducible first | exact HB.out | apply below_alloc | apply pw_below_drewN | apply below_drew1 | refine below_set ?_ GE768.out) | exact HB.out)))); have n1_ := Aside0.mk (blk_below (g := gb768) (o := .cells #[.int .i64 a0_0, .slice A0_1 l0_1.length c0_1] 27 (0, 0)) (by (with_reducible repeat (first | refine blk_drewN ?_ _ | refine blk_drew ?_ | refine blk_alloc ?_ _)); exact BK768.out) hb); have n2_ := Aside0.mk (below_step (by repeat (first | (with_reducible first | exact HB.out | apply below_alloc | apply pw_below_drewN | apply below_drew1 | refine below_set ?_ GE768.out) | exact HB.out)) hb); clear BK768; clear HB; have HO772 := n0_; have BK768 := n1_; have HB := n2_; clear n0_ n1_ n2_; clear hb ho41; have hcz42_0 : w40.cell? ⟨gb768, 0, none⟩ = some (.int .i64 a0_0) := (blk_cell BK768.out 0).trans rfl; have hcz42_1 : w40.cell? ⟨gb768, 1, none⟩ = some (.slice A0_1 l0_1.length c0_1) := (blk_cell BK768.out 1).trans rfl; have hfz42_0 := blk_frozen BK768.out 0; have hfz42_1 := blk_frozen BK768.out 1) | ((with_reducible refine gate_callee (f := 106) rfl ?_); refine goesL_ (some 17) rfl rfl Try.func106 (by kernel_rfl) rfl #[.agg #[.int .i64 a0_0, .slice A0_1 l0_1.length c0_1]] rfl (by (try simp only [List.map_toArray, List.map_cons, List.map_nil]); first | done | rfl | (simp only [List.length_drop, List.length_take]; rfl)) ?_; (with_reducible refine (impl_LoopsOf.calls k a0_0 _ _ l0_1 t773 _ ?side1 ?side2 A10.out).mono ?_); (case side1 => repeat (first | exact (Kd.C_below HR0_1.out HB.out) | (with_reducible refine Kd.C_alloc ?_ _) | (with_reducible refine Kd.C_drewN ?_ _) | (with_reducible refine Kd.C_drew ?_))); (case side2 => exact HC0_1.out); rintro e w43 ⟨rfl, hb⟩; refine ⟨_, rfl, ?_⟩; have n0_ := Aside0.mk (Kd.R_below (by (with_reducible repeat (first | apply Kd.R_alloc | apply Kd.R_drewN | apply Kd.R_drew)); exact HO772.out) hb); have n1_ := Aside0.mk (blk_below (g := gb768) (o := .cells #[.int .i64 a0_0, .slice A0_1 l0_1.length c0_1] 27 (0, 0)) (by (with_reducible repeat (first | refine blk_drewN ?_ _ | refine blk_drew ?_ | refine blk_alloc ?_ _)); exact BK768.out) hb); have n2_ := Aside0.mk (below_step (by repeat (first | (with_reducible first | exact HB.out | apply below_alloc | apply pw_below_drewN | apply below_drew1 | refine below_set ?_ GE768.out) | exact HB.out)) hb); clear HO772; clear BK768; clear HB; have HO772 := n0_; have BK768 := n1_; have HB := n2_; clear n0_ n1_ n2_; (try clear hb); (try clear hb2); (try clear hk); (try clear hi)))
          go_ret
          exact ⟨_, by first | rfl | (simp [errW_none, errW_some] <;> rfl) | (simp only [← hji7]; first | rfl | (simp [errW_none, errW_some] <;> rfl)) | (simp [*, errW_none, errW_some] <;> rfl), by (with_reducible repeat (first | apply Kd.R_alloc | apply Kd.R_drewN | apply Kd.R_drew)); exact HO772.out, by repeat (first | (with_reducible first | exact HB.out | apply below_alloc | apply pw_below_drewN | apply below_drew1 | refine below_set ?_ GE768.out) | exact HB.out)⟩
      · rw [if_neg c9] at H
        exact absurd H (by simp)
    · rw [if_neg c8] at H
      exact absurd H (by simp)
end Go.Proofs.Ytaepaekagenfnaa.Pr
end
section
namespace Go.Proofs.Ytaepaekagenfnaa.Pr
open Go.RowKit Go.Proofs.YtaepaekagenfnaaW.PrintWords Go.Proofs.YtaepaekagenfnaaW.PrintLast Go.Proofs.YtaepaekagenfnaaW.PrintMore
attribute [local go_sem] max2_int min2_int max_two min_two max_three min_three max_four min_four
set_option linter.unusedVariables false
set_option linter.unusedSimpArgs false
def laws_FnExactCharacteristicOf.j0 : Nat → List Int → List Int → Bool → Int → List Int → Option (Bool)
  | 0, _, _, _, _, _ => none
  | k + 1, x4, x6, x42, x786000, x786001 => if x42 = true then (some false) else ((laws_markIntS.f k x6 1).bind fun bt811 => ((laws_heldIntS.f k bt811.2 1).bind fun t813 => (if t813 < 0 then (some false) else (if t813 = bt811.1 then ((laws_toMatroid.f k x786000 x786001).bind fun bt814 => ((impl_CharacteristicOf.f k bt814.1 bt814.2).bind fun t818 => ((laws_eqIntS.f k t818 x4).bind fun t821 => (if t821 = true then ((laws_heldIntS.f k bt811.2 1).bind fun t822 => (if t822 < 0 then (some false) else (if t822 = bt811.1 then (some true) else (some false)))) else (some false))))) else (some false)))))
def laws_FnExactCharacteristicOf.f (k : Nat) (a0_0 : Int) (l0_1 : List Int) : Option (Bool) := (laws_szMatroid.f a0_0 l0_1 1048576).bind fun t786 => (if t786 < 0 then (some true) else ((laws_toMatroid.f k a0_0 l0_1).bind fun bt787 => ((spec_CharacteristicOf.f k bt787.1 bt787.2).bind fun t791 => ((laws_toMatroid.f k a0_0 l0_1).bind fun bt794 => ((impl_CharacteristicOf.f k bt794.1 bt794.2).bind fun t799 => ((laws_eqIntS.f k t799 t791).bind fun t802 => (if t802 = true then ((laws_toMatroid.f k a0_0 l0_1).bind fun bt803 => ((laws_eqMatroid.f k bt794.1 bt794.2 bt803.1 bt803.2).bind fun t807 => (if t807 = true then ((laws_markMatroid.f k bt794.1 bt794.2 1).bind fun bt808 => (if bt808.1 < 0 then (laws_FnExactCharacteristicOf.j0 k t791 t799 true a0_0 l0_1) else ((laws_eqIntS.f k t799 t791).bind fun t810 => (laws_FnExactCharacteristicOf.j0 k t791 t799 (!t810) a0_0 l0_1)))) else (some false)))) else (some false))))))))
set_option maxHeartbeats 8000000 in
set_option maxRecDepth 100000 in
theorem laws_FnExactCharacteristicOf.calls (k : Nat) (a0_0 : Int) (A0_1 : Option Addr) (c0_1 : Nat) (l0_1 : List Int) (r : Bool) (w : World) (hr0_1 : Kd.C (Kd.int .i64) w A0_1 l0_1.length l0_1) (hc0_1 : l0_1.length ≤ c0_1) (hT : Aside0 (r = true)) (h : laws_FnExactCharacteristicOf.f k a0_0 l0_1 = some r) :
    Calls Try.prog 12 #[.agg #[.int .i64 a0_0, .slice A0_1 l0_1.length c0_1]] w fun e w' => e = .returned (.bool r) ∧ Below w.heap.size w w' := by
  have hu24 := Try.underlying24
  have hu27 := Try.underlying27
  have HR0_1 := Aside0.mk hr0_1
  have HC0_1 := Aside0.mk hc0_1
  clear hr0_1 hc0_1
  have HB := Aside0.mk (Below.refl w.heap.size w)
  have H : ((laws_szMatroid.f a0_0 l0_1 1048576).bind fun t786 => (if t786 < 0 then (some true) else ((laws_toMatroid.f k a0_0 l0_1).bind fun bt787 => ((spec_CharacteristicOf.f k bt787.1 bt787.2).bind fun t791 => ((laws_toMatroid.f k a0_0 l0_1).bind fun bt794 => ((impl_CharacteristicOf.f k bt794.1 bt794.2).bind fun t799 => ((laws_eqIntS.f k t799 t791).bind fun t802 => (if t802 = true then ((laws_toMatroid.f k a0_0 l0_1).bind fun bt803 => ((laws_eqMatroid.f k bt794.1 bt794.2 bt803.1 bt803.2).bind fun t807 => (if t807 = true then ((laws_markMatroid.f k bt794.1 bt794.2 1).bind fun bt808 => (if bt808.1 < 0 then (laws_FnExactCharacteristicOf.j0 k t791 t799 true a0_0 l0_1) else ((laws_eqIntS.f k t799 t791).bind fun t810 => (laws_FnExactCharacteristicOf.j0 k t791 t799 (!t810) a0_0 l0_1)))) else (some false)))) else (some false))))))))) = some r := h
  clear h
  replace H := Option.bind_eq_some_iff.mp H
  obtain ⟨t786, A20, H⟩ := H
  replace H : (if t786 < 0 then (some true) else ((laws_toMatroid.f k a0_0 l0_1).bind fun bt787 => ((spec_CharacteristicOf.f k bt787.1 bt787.2).bind fun t791 => ((laws_toMatroid.f k a0_0 l0_1).bind fun bt794 => ((impl_CharacteristicOf.f k bt794.1 bt794.2).bind fun t799 => ((laws_eqIntS.f k t799 t791).bind fun t802 => (if t802 = true then ((laws_toMatroid.f k a0_0 l0_1).bind fun bt803 => ((laws_eqMatroid.f k bt794.1 bt794.2 bt803.1 bt803.2).bind fun t807 => (if t807 = true then ((laws_markMatroid.f k bt794.1 bt794.2 1).bind fun bt808 => (if bt808.1 < 0 then (laws_FnExactCharacteristicOf.j0 k t791 t799 true a0_0 l0_1) else ((laws_eqIntS.f k t799 t791).bind fun t810 => (laws_FnExactCharacteristicOf.j0 k t791 t799 (!t810) a0_0 l0_1)))) else (some false)))) else (some false)))))))) = some r := H
  have A2 := Aside0.mk A20
  clear A20
  by_cases c3 : t786 < 0
  · rw [if_pos c3] at H
    have c3b0 : decide (t786 < 0) = true := decide_eq_true c3
    clear c3
    obtain rfl := Option.some.inj H
    go_enter Try.func12, Try.ntmps12
    go_wp2_with (first | ((with_reducible refine gate_dst (N := 1) rfl ?_); refine box_event ?hg (N := 1) ?hd (cs := #[.int .i64 a0_0, .slice A0_1 l0_1.length c0_1]) (t := 24) ?hr ?_; (case hd => rfl); (case hg => rfl); (case hr => first | (go_simp; done) | (go_simp; rfl)); intro gb785 hg w4 hbox hb; have n0_ := Aside0.mk (below_step (by repeat (first | (with_reducible first | exact HB.out | apply below_alloc | apply pw_below_drewN | apply below_drew1) | exact HB.out)) hb); have n1_ := Aside0.mk (hbox); have n2_ := Aside0.mk ((by rw [hg]; exact (below_size (by repeat (first | (with_reducible first | exact HB.out | apply below_alloc | apply pw_below_drewN | apply below_drew1) | exact HB.out))) : w.heap.size ≤ gb785)); have n3_ := Aside0.mk ((by rw [hg]; exact (below_size (by repeat (first | (with_reducible first | exact HB.out | apply below_alloc | apply pw_below_drewN | apply below_drew1) | exact HB.out))) : w.heap.size ≤ gb785)); clear HB; have HB := n0_; have BK785 := n1_; have GW785 := n2_; have GE785 := n3_; clear n0_ n1_ n2_ n3_; clear hb hbox hg; have hcz5_0 : w4.cell? ⟨gb785, 0, none⟩ = some (.int .i64 a0_0) := (blk_cell BK785.out 0).trans rfl; have hcz5_1 : w4.cell? ⟨gb785, 1, none⟩ = some (.slice A0_1 l0_1.length c0_1) := (blk_cell BK785.out 1).trans rfl; have hfz5_0 := blk_frozen BK785.out 0; have hfz5_1 := blk_frozen BK785.out 1) | ((with_reducible refine gate_callee (f := 15) rfl ?_); refine goesL_ (some 13) rfl rfl Try.func15 (by kernel_rfl) rfl #[.agg #[.int .i64 a0_0, .slice A0_1 l0_1.length c0_1], .int .i64 1048576] rfl (by (try simp only [List.map_toArray, List.map_cons, List.map_nil]); first | done | rfl | (simp only [List.length_drop, List.length_take]; rfl)) ?_; (with_reducible refine (laws_szMatroid.calls a0_0 _ _ l0_1 1048576 t786 _ ?side1 ?side2 A2.out).mono ?_); (case side1 => repeat (first | exact (Kd.C_below HR0_1.out HB.out) | (with_reducible refine Kd.C_alloc ?_ _) | (with_reducible refine Kd.C_drewN ?_ _) | (with_reducible refine Kd.C_drew ?_))); (case side2 => exact HC0_1.out); rintro e w6 ⟨rfl, hb⟩; refine ⟨_, rfl, ?_⟩; have n0_ := Aside0.mk (blk_below (g := gb785) (o := .cells #[.int .i64 a0_0, .slice A0_1 l0_1.length c0_1] 24 (0, 0)) (by (with_reducible repeat (first | refine blk_drewN ?_ _ | refine blk_drew ?_ | refine blk_alloc ?_ _)); exact BK785.out) hb); have n1_ := Aside0.mk (below_step (by repeat (first | (with_reducible first | exact HB.out | apply below_alloc | apply pw_below_drewN | apply below_drew1 | refine below_set ?_ GE785.out) | exact HB.out)) hb); clear BK785; clear HB; have BK785 := n0_; have HB := n1_; clear n0_ n1_; (try clear hb); (try clear hb2); (try clear hk); (try clear hi)))
    go_ret
    exact ⟨by first | rfl | (simp [errW_none, errW_some] <;> rfl) | (simp [*, errW_none, errW_some] <;> rfl), by repeat (first | (with_reducible first | exact HB.out | apply below_alloc | apply pw_below_drewN | apply below_drew1 | refine below_set ?_ GE785.out) | exact HB.out)⟩
  · rw [if_neg c3] at H
    have c3b0 : decide (t786 < 0) = false := decide_eq_false c3
    clear c3
    replace H := Option.bind_eq_some_iff.mp H
    obtain ⟨⟨t787, t788⟩, A70, H⟩ := H
    replace H : ((spec_CharacteristicOf.f k t787 t788).bind fun t791 => ((laws_toMatroid.f k a0_0 l0_1).bind fun bt794 => ((impl_CharacteristicOf.f k bt794.1 bt794.2).bind fun t799 => ((laws_eqIntS.f k t799 t791).bind fun t802 => (if t802 = true then ((laws_toMatroid.f k a0_0 l0_1).bind fun bt803 => ((laws_eqMatroid.f k bt794.1 bt794.2 bt803.1 bt803.2).bind fun t807 => (if t807 = true then ((laws_markMatroid.f k bt794.1 bt794.2 1).bind fun bt808 => (if bt808.1 < 0 then (laws_FnExactCharacteristicOf.j0 k t791 t799 true a0_0 l0_1) else ((laws_eqIntS.f k t799 t791).bind fun t810 => (laws_FnExactCharacteristicOf.j0 k t791 t799 (!t810) a0_0 l0_1)))) else (some false)))) else (some false)))))) = some r := H
    have A7 := Aside0.mk A70
    clear A70
    replace H := Option.bind_eq_some_iff.mp H
    obtain ⟨t791, A80, H⟩ := H
    replace H : ((laws_toMatroid.f k a0_0 l0_1).bind fun bt794 => ((impl_CharacteristicOf.f k bt794.1 bt794.2).bind fun t799 => ((laws_eqIntS.f k t799 t791).bind fun t802 => (if t802 = true then ((laws_toMatroid.f k a0_0 l0_1).bind fun bt803 => ((laws_eqMatroid.f k bt794.1 bt794.2 bt803.1 bt803.2).bind fun t807 => (if t807 = true then ((laws_markMatroid.f k bt794.1 bt794.2 1).bind fun bt808 => (if bt808.1 < 0 then (laws_FnExactCharacteristicOf.j0 k t791 t799 true a0_0 l0_1) else ((laws_eqIntS.f k t799 t791).bind fun t810 => (laws_FnExactCharacteristicOf.j0 k t791 t799 (!t810) a0_0 l0_1)))) else (some false)))) else (some false))))) = some r := H
    have A8 := Aside0.mk A80
    clear A80
    replace H := Option.bind_eq_some_iff.mp H
    obtain ⟨⟨t794, t795⟩, A90, H⟩ := H
    replace H : ((impl_CharacteristicOf.f k t794 t795).bind fun t799 => ((laws_eqIntS.f k t799 t791).bind fun t802 => (if t802 = true then ((laws_toMatroid.f k a0_0 l0_1).bind fun bt803 => ((laws_eqMatroid.f k t794 t795 bt803.1 bt803.2).bind fun t807 => (if t807 = true then ((laws_markMatroid.f k t794 t795 1).bind fun bt808 => (if bt808.1 < 0 then (laws_FnExactCharacteristicOf.j0 k t791 t799 true a0_0 l0_1) else ((laws_eqIntS.f k t799 t791).bind fun t810 => (laws_FnExactCharacteristicOf.j0 k t791 t799 (!t810) a0_0 l0_1)))) else (some false)))) else (some false)))) = some r := H
    have A9 := Aside0.mk A90
    clear A90
    replace H := Option.bind_eq_some_iff.mp H
    obtain ⟨t799, A100, H⟩ := H
    replace H : ((laws_eqIntS.f k t799 t791).bind fun t802 => (if t802 = true then ((laws_toMatroid.f k a0_0 l0_1).bind fun bt803 => ((laws_eqMatroid.f k t794 t795 bt803.1 bt803.2).bind fun t807 => (if t807 = true then ((laws_markMatroid.f k t794 t795 1).bind fun bt808 => (if bt808.1 < 0 then (laws_FnExactCharacteristicOf.j0 k t791 t799 true a0_0 l0_1) else ((laws_eqIntS.f k t799 t791).bind fun t810 => (laws_FnExactCharacteristicOf.j0 k t791 t799 (!t810) a0_0 l0_1)))) else (some false)))) else (some false))) = some r := H
    have A10 := Aside0.mk A100
    clear A100
    replace H := Option.bind_eq_some_iff.mp H
    obtain ⟨t802, A110, H⟩ := H
    replace H : (if t802 = true then ((laws_toMatroid.f k a0_0 l0_1).bind fun bt803 => ((laws_eqMatroid.f k t794 t795 bt803.1 bt803.2).bind fun t807 => (if t807 = true then ((laws_markMatroid.f k t794 t795 1).bind fun bt808 => (if bt808.1 < 0 then (laws_FnExactCharacteristicOf.j0 k t791 t799 true a0_0 l0_1) else ((laws_eqIntS.f k t799 t791).bind fun t810 => (laws_FnExactCharacteristicOf.j0 k t791 t799 (!t810) a0_0 l0_1)))) else (some false)))) else (some false)) = some r := H
    have A11 := Aside0.mk A110
    clear A110
    by_cases c12 : t802 = true
    · subst c12
      have H1 : ((laws_toMatroid.f k a0_0 l0_1).bind fun bt803 => ((laws_eqMatroid.f k t794 t795 bt803.1 bt803.2).bind fun t807 => (if t807 = true then ((laws_markMatroid.f k t794 t795 1).bind fun bt808 => (if bt808.1 < 0 then (laws_FnExactCharacteristicOf.j0 k t791 t799 true a0_0 l0_1) else ((laws_eqIntS.f k t799 t791).bind fun t810 => (laws_FnExactCharacteristicOf.j0 k t791 t799 (!t810) a0_0 l0_1)))) else (some false)))) = some r := by rw [if_pos rfl] at H; exact H
      clear H
      have H := H1
      clear H1
      replace H := Option.bind_eq_some_iff.mp H
      obtain ⟨⟨t803, t804⟩, A130, H⟩ := H
      replace H : ((laws_eqMatroid.f k t794 t795 t803 t804).bind fun t807 => (if t807 = true then ((laws_markMatroid.f k t794 t795 1).bind fun bt808 => (if bt808.1 < 0 then (laws_FnExactCharacteristicOf.j0 k t791 t799 true a0_0 l0_1) else ((laws_eqIntS.f k t799 t791).bind fun t810 => (laws_FnExactCharacteristicOf.j0 k t791 t799 (!t810) a0_0 l0_1)))) else (some false))) = some r := H
      have A13 := Aside0.mk A130
      clear A130
      replace H := Option.bind_eq_some_iff.mp H
      obtain ⟨t807, A140, H⟩ := H
      replace H : (if t807 = true then ((laws_markMatroid.f k t794 t795 1).bind fun bt808 => (if bt808.1 < 0 then (laws_FnExactCharacteristicOf.j0 k t791 t799 true a0_0 l0_1) else ((laws_eqIntS.f k t799 t791).bind fun t810 => (laws_FnExactCharacteristicOf.j0 k t791 t799 (!t810) a0_0 l0_1)))) else (some false)) = some r := H
      have A14 := Aside0.mk A140
      clear A140
      by_cases c15 : t807 = true
      · subst c15
        have H1 : ((laws_markMatroid.f k t794 t795 1).bind fun bt808 => (if bt808.1 < 0 then (laws_FnExactCharacteristicOf.j0 k t791 t799 true a0_0 l0_1) else ((laws_eqIntS.f k t799 t791).bind fun t810 => (laws_FnExactCharacteristicOf.j0 k t791 t799 (!t810) a0_0 l0_1)))) = some r := by rw [if_pos rfl] at H; exact H
        clear H
        have H := H1
        clear H1
        replace H := Option.bind_eq_some_iff.mp H
        obtain ⟨⟨t808, t809⟩, A160, H⟩ := H
        replace H : (if t808 < 0 then (laws_FnExactCharacteristicOf.j0 k t791 t799 true a0_0 l0_1) else ((laws_eqIntS.f k t799 t791).bind fun t810 => (laws_FnExactCharacteristicOf.j0 k t791 t799 (!t810) a0_0 l0_1))) = some r := H
        have A16 := Aside0.mk A160
        clear A160
        have HC17 := Aside0.mk H
        clear H
        go_enter Try.func12, Try.ntmps12
        try go_wp2_with (first | ((with_reducible refine gate_dst (N := 1) rfl ?_); refine box_event ?hg (N := 1) ?hd (cs := #[.int .i64 a0_0, .slice A0_1 l0_1.length c0_1]) (t := 24) ?hr ?_; (case hd => rfl); (case hg => rfl); (case hr => first | (go_simp; done) | (go_simp; rfl)); intro gb785 hg w18 hbox hb; have n0_ := Aside0.mk (below_step (by repeat (first | (with_reducible first | exact HB.out | apply below_alloc | apply pw_below_drewN | apply below_drew1) | exact HB.out)) hb); have n1_ := Aside0.mk (hbox); have n2_ := Aside0.mk ((by rw [hg]; exact (below_size (by repeat (first | (with_reducible first | exact HB.out | apply below_alloc | apply pw_below_drewN | apply below_drew1) | exact HB.out))) : w.heap.size ≤ gb785)); have n3_ := Aside0.mk ((by rw [hg]; exact (below_size (by repeat (first | (with_reducible first | exact HB.out | apply below_alloc | apply pw_below_drewN | apply below_drew1) | exact HB.out))) : w.heap.size ≤ gb785)); clear HB; have HB := n0_; have BK785 := n1_; have GW785 := n2_; have GE785 := n3_; clear n0_ n1_ n2_ n3_; clear hb hbox hg; have hcz19_0 : w18.cell? ⟨gb785, 0, none⟩ = some (.int .i64 a0_0) := (blk_cell BK785.out 0).trans rfl; have hcz19_1 : w18.cell? ⟨gb785, 1, none⟩ = some (.slice A0_1 l0_1.length c0_1) := (blk_cell BK785.out 1).trans rfl; have hfz19_0 := blk_frozen BK785.out 0; have hfz19_1 := blk_frozen BK785.out 1) | ((with_reducible refine gate_callee (f := 15) rfl ?_); refine goesL_ (some 13) rfl rfl Try.func15 (by kernel_rfl) rfl #[.agg #[.int .i64 a0_0, .slice A0_1 l0_1.length c0_1], .int .i64 1048576] rfl (by (try simp only [List.map_toArray, List.map_cons, List.map_nil]); first | done | rfl | (simp only [List.length_drop, List.length_take]; rfl)) ?_; (with_reducible refine (laws_szMatroid.calls a0_0 _ _ l0_1 1048576 t786 _ ?side1 ?side2 A2.out).mono ?_); (case side1 => repeat (first | exact (Kd.C_below HR0_1.out HB.out) | (with_reducible refine Kd.C_alloc ?_ _) | (with_reducible refine Kd.C_drewN ?_ _) | (with_reducible refine Kd.C_drew ?_))); (case side2 => exact HC0_1.out); rintro e w20 ⟨rfl, hb⟩; refine ⟨_, rfl, ?_⟩; have n0_ := Aside0.mk (blk_below (g := gb785) (o := .cells #[.int .i64 a0_0, .slice A0_1 l0_1.length c0_1] 24 (0, 0)) (by (with_reducible repeat (first | refine blk_drewN ?_ _ | refine blk_drew ?_ | refine blk_alloc ?_ _)); exact BK785.out) hb); have n1_ := Aside0.mk (below_step (by repeat (first | (with_reducible first | exact HB.out | apply below_alloc | apply pw_below_drewN | apply below_drew1 | refine below_set ?_ GE785.out) | exact HB.out)) hb); clear BK785; clear HB; have BK785 := n0_; have HB := n1_; clear n0_ n1_; (try clear hb); (try clear hb2); (try clear hk); (try clear hi); have hcz21_0 : w20.cell? ⟨gb785, 0, none⟩ = some (.int .i64 a0_0) := (blk_cell BK785.out 0).trans rfl; have hcz21_1 : w20.cell? ⟨gb785, 1, none⟩ = some (.slice A0_1 l0_1.length c0_1) := (blk_cell BK785.out 1).trans rfl; have hfz21_0 := blk_frozen BK785.out 0; have hfz21_1 := blk_frozen BK785.out 1) | ((with_reducible refine gate_callee (f := 17) rfl ?_); refine goesL_ (some 17) rfl rfl Try.func17 (by kernel_rfl) rfl #[.agg #[.int .i64 a0_0, .slice A0_1 l0_1.length c0_1]] rfl (by (try simp only [List.map_toArray, List.map_cons, List.map_nil]); first | done | rfl | (simp only [List.length_drop, List.length_take]; rfl)) ?_; (with_reducible refine (laws_toMatroid.calls k a0_0 _ _ l0_1 t787 t788 _ ?side1 ?side2 A7.out).mono ?_); (case side1 => repeat (first | exact (Kd.C_below HR0_1.out HB.out) | (with_reducible refine Kd.C_alloc ?_ _) | (with_reducible refine Kd.C_drewN ?_ _) | (with_reducible refine Kd.C_drew ?_))); (case side2 => exact HC0_1.out); rintro e w22 ⟨v789, rfl, ho0, hb⟩; refine ⟨_, rfl, ?_⟩; have n0_ := Aside0.mk (Kd.R_lower ho0 (below_size (by repeat (first | (with_reducible first | exact HB.out | apply below_alloc | apply pw_below_drewN | apply below_drew1 | refine below_set ?_ GE785.out) | exact HB.out)))); have n1_ := Aside0.mk (blk_below (g := gb785) (o := .cells #[.int .i64 a0_0, .slice A0_1 l0_1.length c0_1] 24 (0, 0)) (by (with_reducible repeat (first | refine blk_drewN ?_ _ | refine blk_drew ?_ | refine blk_alloc ?_ _)); exact BK785.out) hb); have n2_ := Aside0.mk (below_step (by repeat (first | (with_reducible first | exact HB.out | apply below_alloc | apply pw_below_drewN | apply below_drew1 | refine below_set ?_ GE785.out) | exact HB.out)) hb); clear BK785; clear HB; have HO790 := n0_; have BK785 := n1_; have HB := n2_; clear n0_ n1_ n2_; (try clear hb); (try clear hb2); (try clear hk); (try clear hi); (try clear ho0); obtain ⟨Ao23, co23, eo23⟩ := Kd.R_slice HO790.out; subst eo23) | ((with_reducible refine gate_callee (f := 47) rfl ?_); refine goesL_ (some 18) rfl rfl Try.func47 (by kernel_rfl) rfl #[.agg #[.int .i64 t787, .slice Ao23 t788.length co23]] rfl (by (try simp only [List.map_toArray, List.map_cons, List.map_nil]); first | done | rfl | (simp only [List.length_drop, List.length_take]; rfl)) ?_; (with_reducible refine (spec_CharacteristicOf.calls k t787 _ _ t788 t791 _ ?side1 ?side2 A8.out).mono ?_); (case side1 => repeat (first | exact (Kd.R_reads' HO790.out).2.2 | (with_reducible refine Kd.C_alloc ?_ _) | (with_reducible refine Kd.C_drewN ?_ _) | (with_reducible refine Kd.C_drew ?_))); (case side2 => exact (Kd.R_reads' HO790.out).2.1); rintro e w24 ⟨v792, rfl, ho0, hb⟩; refine ⟨_, rfl, ?_⟩; have n0_ := Aside0.mk (Kd.R_elder' (by (with_reducible repeat (first | apply Kd.R_alloc | apply Kd.R_drewN | apply Kd.R_drew)); exact HO790.out) (Kd.R_base ho0) hb); have n1_ := Aside0.mk (Kd.R_lower (Kd.R_new' ho0 (Kd.R_lt (by (with_reducible repeat (first | apply Kd.R_alloc | apply Kd.R_drewN | apply Kd.R_drew)); exact HO790.out))) (below_size (by repeat (first | (with_reducible first | exact HB.out | apply below_alloc | apply pw_below_drewN | apply below_drew1 | refine below_set ?_ GE785.out) | exact HB.out)))); have n2_ := Aside0.mk (blk_below (g := gb785) (o := .cells #[.int .i64 a0_0, .slice A0_1 l0_1.length c0_1] 24 (0, 0)) (by (with_reducible repeat (first | refine blk_drewN ?_ _ | refine blk_drew ?_ | refine blk_alloc ?_ _)); exact BK785.out) hb); have n3_ := Aside0.mk (below_step (by repeat (first | (with_reducible first | exact HB.out | apply below_alloc | apply pw_below_drewN | apply below_drew1 | refine below_set ?_ GE785.out) | exact HB.out)) hb); clear HO790; clear BK785; clear HB; have HO790 := n0_; have HO793 := n1_; have BK785 := n2_; have HB := n3_; clear n0_ n1_ n2_ n3_; (try clear hb); (try clear hb2); (try clear hk); (try clear hi); (try clear ho0); have hcz25_0 : w24.cell? ⟨gb785, 0, none⟩ = some (.int .i64 a0_0) := (blk_cell BK785.out 0).trans rfl; have hcz25_1 : w24.cell? ⟨gb785, 1, none⟩ = some (.slice A0_1 l0_1.length c0_1) := (blk_cell BK785.out 1).trans rfl; have hfz25_0 := blk_frozen BK785.out 0; have hfz25_1 := blk_frozen BK785.out 1) | ((with_reducible refine gate_callee (f := 17) rfl ?_); refine goesL_ (some 20) rfl rfl Try.func17 (by kernel_rfl) rfl #[.agg #[.int .i64 a0_0, .slice A0_1 l0_1.length c0_1]] rfl (by (try simp only [List.map_toArray, List.map_cons, List.map_nil]); first | done | rfl | (simp only [List.length_drop, List.length_take]; rfl)) ?_; (with_reducible refine (laws_toMatroid.calls k a0_0 _ _ l0_1 t794 t795 _ ?side1 ?side2 A9.out).mono ?_); (case side1 => repeat (first | exact (Kd.C_below HR0_1.out HB.out) | (with_reducible refine Kd.C_alloc ?_ _) | (with_reducible refine Kd.C_drewN ?_ _) | (with_reducible refine Kd.C_drew ?_))); (case side2 => exact HC0_1.out); rintro e w26 ⟨v796, rfl, ho0, hb⟩; refine ⟨_, rfl, ?_⟩; have n0_ := Aside0.mk (Kd.R_elder' (by (with_reducible repeat (first | apply Kd.R_alloc | apply Kd.R_drewN | apply Kd.R_drew)); exact HO790.out) (Kd.R_base ho0) hb); have n1_ := Aside0.mk (Kd.R_elder' (by (with_reducible repeat (first | apply Kd.R_alloc | apply Kd.R_drewN | apply Kd.R_drew)); exact HO793.out) (Kd.R_base ho0) hb); have n2_ := Aside0.mk (Kd.R_lower (Kd.R_new' (Kd.R_new' ho0 (Kd.R_lt (by (with_reducible repeat (first | apply Kd.R_alloc | apply Kd.R_drewN | apply Kd.R_drew)); exact HO790.out))) (Kd.R_lt (by (with_reducible repeat (first | apply Kd.R_alloc | apply Kd.R_drewN | apply Kd.R_drew)); exact HO793.out))) (below_size (by repeat (first | (with_reducible first | exact HB.out | apply below_alloc | apply pw_below_drewN | apply below_drew1 | refine below_set ?_ GE785.out) | exact HB.out)))); have n3_ := Aside0.mk (blk_below (g := gb785) (o := .cells #[.int .i64 a0_0, .slice A0_1 l0_1.length c0_1] 24 (0, 0)) (by (with_reducible repeat (first | refine blk_drewN ?_ _ | refine blk_drew ?_ | refine blk_alloc ?_ _)); exact BK785.out) hb); have n4_ := Aside0.mk (below_step (by repeat (first | (with_reducible first | exact HB.out | apply below_alloc | apply pw_below_drewN | apply below_drew1 | refine below_set ?_ GE785.out) | exact HB.out)) hb); clear HO790; clear HO793; clear BK785; clear HB; have HO790 := n0_; have HO793 := n1_; have HO797 := n2_; have BK785 := n3_; have HB := n4_; clear n0_ n1_ n2_ n3_ n4_; (try clear hb); (try clear hb2); (try clear hk); (try clear hi); (try clear ho0)) | ((with_reducible refine gate_dst (N := 5) rfl ?_); refine box_event ?hg (N := 5) ?hd (cs := #[.int .i64 0, .slice none 0 0]) (t := 27) ?hr ?_; (case hd => rfl); (case hg => rfl); (case hr => first | (go_simp; done) | (go_simp; rfl)); intro gb798 hg w27 hbox hb; have n0_ := Aside0.mk (Kd.R_below (by (with_reducible repeat (first | apply Kd.R_alloc | apply Kd.R_drewN | apply Kd.R_drew)); exact HO790.out) hb); have n1_ := Aside0.mk (Kd.R_below (by (with_reducible repeat (first | apply Kd.R_alloc | apply Kd.R_drewN | apply Kd.R_drew)); exact HO793.out) hb); have n2_ := Aside0.mk (Kd.R_below (by (with_reducible repeat (first | apply Kd.R_alloc | apply Kd.R_drewN | apply Kd.R_drew)); exact HO797.out) hb); have n3_ := Aside0.mk (blk_below (g := gb785) (o := .cells #[.int .i64 a0_0, .slice A0_1 l0_1.length c0_1] 24 (0, 0)) (by (with_reducible repeat (first | refine blk_drewN ?_ _ | refine blk_drew ?_ | refine blk_alloc ?_ _)); exact BK785.out) hb); have n4_ := Aside0.mk (below_step (by repeat (first | (with_reducible first | exact HB.out | apply below_alloc | apply pw_below_drewN | apply below_drew1 | refine below_set ?_ GE785.out) | exact HB.out)) hb); have n5_ := Aside0.mk (hbox); have n6_ := Aside0.mk ((by rw [hg]; exact (below_size (by repeat (first | (with_reducible first | exact HB.out | apply below_alloc | apply pw_below_drewN | apply below_drew1 | refine below_set ?_ GE785.out) | exact HB.out))) : w.heap.size ≤ gb798)); have n7_ := Aside0.mk ((by rw [hg]; exact (below_size (by repeat (first | (with_reducible first | exact HB.out | apply below_alloc | apply pw_below_drewN | apply below_drew1 | refine below_set ?_ GE785.out) | exact HB.out))) : w.heap.size ≤ gb798)); have n8_ := Aside0.mk ((by rw [hg]; exact Nat.ne_of_lt (blk_lt (g := gb785) (o := .cells #[.int .i64 a0_0, .slice A0_1 l0_1.length c0_1] 24 (0, 0)) (by (with_reducible repeat (first | refine blk_drewN ?_ _ | refine blk_drew ?_ | refine blk_alloc ?_ _)); exact BK785.out)) : gb785 ≠ gb798)); have n9_ := Aside0.mk ((by rw [hg]; exact Nat.ne_of_gt (blk_lt (g := gb785) (o := .cells #[.int .i64 a0_0, .slice A0_1 l0_1.length c0_1] 24 (0, 0)) (by (with_reducible repeat (first | refine blk_drewN ?_ _ | refine blk_drew ?_ | refine blk_alloc ?_ _)); exact BK785.out)) : gb798 ≠ gb785)); clear HO790; clear HO793; clear HO797; clear BK785; clear HB; have HO790 := n0_; have HO793 := n1_; have HO797 := n2_; have BK785 := n3_; have HB := n4_; have BK798 := n5_; have GW798 := n6_; have GE798 := n7_; have NB785_798 := n8_; have NB798_785 := n9_; clear n0_ n1_ n2_ n3_ n4_ n5_ n6_ n7_ n8_ n9_; clear hb hbox hg; have hnb28 := NB798_785.out; have hnc28 := NB785_798.out; have hcz29_0 : w27.cell? ⟨gb798, 0, none⟩ = some (.int .i64 0) := (blk_cell BK798.out 0).trans rfl; have hcz29_1 : w27.cell? ⟨gb798, 1, none⟩ = some (.slice none 0 0) := (blk_cell BK798.out 1).trans rfl; have hfz29_0 := blk_frozen BK798.out 0; have hfz29_1 := blk_frozen BK798.out 1; obtain ⟨Ao30, co30, eo30⟩ := Kd.R_slice HO797.out; subst eo30) | ((with_reducible refine gate_callee (f := 48) rfl ?_); refine goesL_ (some 22) rfl rfl Try.func48 (by kernel_rfl) rfl #[.agg #[.int .i64 t794, .slice Ao30 t795.length co30]] rfl (by (try simp only [List.map_toArray, List.map_cons, List.map_nil]); first | done | rfl | (simp only [List.length_drop, List.length_take]; rfl)) ?_; (with_reducible refine (impl_CharacteristicOf.calls k t794 _ _ t795 t799 _ ?side1 ?side2 A10.out).mono ?_); (case side1 => refine (Kd.R_reads' (e := 3) (base := w.heap.size) (ok := fun k_ => ((True ∧ some k_ ≠ (.slice Ao23 t788.length co23 : Value).ownBlock) ∧ some k_ ≠ (v792 : Value).ownBlock)) (n := t795.length) (c := co30) ?_).2.2; exact (by (with_reducible repeat (first | apply Kd.R_alloc | apply Kd.R_drewN | apply Kd.R_drew)); exact (Kd.R_mono (Kd.R_far (p := ⟨gb798, 1, none⟩) (Kd.R_far (p := ⟨gb798, 0, none⟩) (Kd.R_types HO797.out BK798.out (by decide)) (fun _ hk => hk.2) (.int .i64 t794)) (fun _ hk => hk.2) (.slice Ao30 t795.length co30)) (fun _ h_ => h_.1)))); (case side2 => exact (Kd.R_reads' HO797.out).2.1); rintro e w31 ⟨v800, rfl, ho0, hb⟩; refine ⟨_, rfl, ?_⟩; have n0_ := Aside0.mk (Kd.R_elder' (by (with_reducible repeat (first | apply Kd.R_alloc | apply Kd.R_drewN | apply Kd.R_drew)); exact (Kd.R_mono (Kd.R_far (p := ⟨gb798, 1, none⟩) (Kd.R_far (p := ⟨gb798, 0, none⟩) (Kd.R_types HO790.out BK798.out (by decide)) (fun _ hk => hk.2) (.int .i64 t794)) (fun _ hk => hk.2) (.slice Ao30 t795.length co30)) (fun _ h_ => h_.1))) (Kd.R_base ho0) hb); have n1_ := Aside0.mk (Kd.R_elder' (by (with_reducible repeat (first | apply Kd.R_alloc | apply Kd.R_drewN | apply Kd.R_drew)); exact (Kd.R_mono (Kd.R_far (p := ⟨gb798, 1, none⟩) (Kd.R_far (p := ⟨gb798, 0, none⟩) (Kd.R_types HO793.out BK798.out (by decide)) (fun _ hk => hk.2) (.int .i64 t794)) (fun _ hk => hk.2) (.slice Ao30 t795.length co30)) (fun _ h_ => h_.1))) (Kd.R_base ho0) hb); have n2_ := Aside0.mk (Kd.R_elder' (by (with_reducible repeat (first | apply Kd.R_alloc | apply Kd.R_drewN | apply Kd.R_drew)); exact (Kd.R_mono (Kd.R_far (p := ⟨gb798, 1, none⟩) (Kd.R_far (p := ⟨gb798, 0, none⟩) (Kd.R_types HO797.out BK798.out (by decide)) (fun _ hk => hk.2) (.int .i64 t794)) (fun _ hk => hk.2) (.slice Ao30 t795.length co30)) (fun _ h_ => h_.1))) (Kd.R_base ho0) hb); have n3_ := Aside0.mk (Kd.R_lower (Kd.R_new' (Kd.R_new' (Kd.R_new' ho0 (Kd.R_lt (by (with_reducible repeat (first | apply Kd.R_alloc | apply Kd.R_drewN | apply Kd.R_drew)); exact (Kd.R_mono (Kd.R_far (p := ⟨gb798, 1, none⟩) (Kd.R_far (p := ⟨gb798, 0, none⟩) (Kd.R_types HO790.out BK798.out (by decide)) (fun _ hk => hk.2) (.int .i64 t794)) (fun _ hk => hk.2) (.slice Ao30 t795.length co30)) (fun _ h_ => h_.1))))) (Kd.R_lt (by (with_reducible repeat (first | apply Kd.R_alloc | apply Kd.R_drewN | apply Kd.R_drew)); exact (Kd.R_mono (Kd.R_far (p := ⟨gb798, 1, none⟩) (Kd.R_far (p := ⟨gb798, 0, none⟩) (Kd.R_types HO793.out BK798.out (by decide)) (fun _ hk => hk.2) (.int .i64 t794)) (fun _ hk => hk.2) (.slice Ao30 t795.length co30)) (fun _ h_ => h_.1))))) (Kd.R_lt (by (with_reducible repeat (first | apply Kd.R_alloc | apply Kd.R_drewN | apply Kd.R_drew)); exact (Kd.R_mono (Kd.R_far (p := ⟨gb798, 1, none⟩) (Kd.R_far (p := ⟨gb798, 0, none⟩) (Kd.R_types HO797.out BK798.out (by decide)) (fun _ hk => hk.2) (.int .i64 t794)) (fun _ hk => hk.2) (.slice Ao30 t795.length co30)) (fun _ h_ => h_.1))))) (below_size (by repeat (first | (with_reducible first | exact HB.out | apply below_alloc | apply pw_below_drewN | apply below_drew1 | refine below_set ?_ GE785.out | refine below_set ?_ GE798.out) | exact HB.out)))); have n4_ := Aside0.mk (blk_below (g := gb785) (o := .cells #[.int .i64 a0_0, .slice A0_1 l0_1.length c0_1] 24 (0, 0)) (by (with_reducible repeat (first | refine blk_drewN ?_ _ | refine blk_drew ?_ | refine blk_alloc ?_ _)); refine blk_far ?_ NB785_798.out _; (with_reducible repeat (first | refine blk_drewN ?_ _ | refine blk_drew ?_ | refine blk_alloc ?_ _)); refine blk_far ?_ NB785_798.out _; (with_reducible repeat (first | refine blk_drewN ?_ _ | refine blk_drew ?_ | refine blk_alloc ?_ _)); exact BK785.out) hb); have n5_ := Aside0.mk (blk_below (g := gb798) (o := .cells #[.int .i64 t794, .slice Ao30 t795.length co30] 27 (0, 0)) (by (with_reducible repeat (first | refine blk_drewN ?_ _ | refine blk_drew ?_ | refine blk_alloc ?_ _)); refine blk_put (cs := #[.int .i64 t794, .slice none 0 0]) ?_ 1 _ rfl; (with_reducible repeat (first | refine blk_drewN ?_ _ | refine blk_drew ?_ | refine blk_alloc ?_ _)); refine blk_put (cs := #[.int .i64 0, .slice none 0 0]) ?_ 0 _ rfl; (with_reducible repeat (first | refine blk_drewN ?_ _ | refine blk_drew ?_ | refine blk_alloc ?_ _)); exact BK798.out) hb); have n6_ := Aside0.mk (below_step (by repeat (first | (with_reducible first | exact HB.out | apply below_alloc | apply pw_below_drewN | apply below_drew1 | refine below_set ?_ GE785.out | refine below_set ?_ GE798.out) | exact HB.out)) hb); clear HO790; clear HO793; clear HO797; clear BK785; clear BK798; clear HB; have HO790 := n0_; have HO793 := n1_; have HO797 := n2_; have HO801 := n3_; have BK785 := n4_; have BK798 := n5_; have HB := n6_; clear n0_ n1_ n2_ n3_ n4_ n5_ n6_; (try clear hb); (try clear hb2); (try clear hk); (try clear hi); (try clear ho0); obtain ⟨Ao32, co32, eo32⟩ := Kd.R_slice HO801.out; subst eo32; obtain ⟨Ao33, co33, eo33⟩ := Kd.R_slice HO793.out; subst eo33) | ((with_reducible refine gate_callee (f := 30) rfl ?_); refine goesL_ (some 25) rfl rfl Try.func30 (by kernel_rfl) rfl #[.slice Ao32 t799.length co32, .slice Ao33 t791.length co33] rfl (by (try simp only [List.map_toArray, List.map_cons, List.map_nil]); first | done | rfl | (simp only [List.length_drop, List.length_take]; rfl)) ?_; (with_reducible refine (laws_eqIntS.calls k _ _ t799 _ _ t791 true _ ?side1 ?side2 ?side3 ?side4 A11.out).mono ?_); (case side1 => repeat (first | exact (Kd.R_reads' HO801.out).2.2 | (with_reducible refine Kd.C_alloc ?_ _) | (with_reducible refine Kd.C_drewN ?_ _) | (with_reducible refine Kd.C_drew ?_))); (case side2 => exact (Kd.R_reads' HO801.out).2.1); (case side3 => repeat (first | exact (Kd.R_reads' HO793.out).2.2 | (with_reducible refine Kd.C_alloc ?_ _) | (with_reducible refine Kd.C_drewN ?_ _) | (with_reducible refine Kd.C_drew ?_))); (case side4 => exact (Kd.R_reads' HO793.out).2.1); rintro e w' ⟨rfl, ⟨nd, rfl⟩⟩; refine ⟨_, rfl, ?_⟩))
        (try (rw [drewN_self w31]; generalize hq_ : World.drewN w31 _ = w31; have n0_ : Aside0 (Kd.R (Kd.int .i64) 3 w31 w.heap.size (fun k_ => some k_ ≠ (.slice Ao33 t791.length co33 : Value).ownBlock ∧ some k_ ≠ (.slice Ao30 t795.length co30 : Value).ownBlock ∧ some k_ ≠ (.slice Ao32 t799.length co32 : Value).ownBlock) (.slice Ao23 t788.length co23) t788) := ⟨by rw [← hq_]; exact (by (with_reducible repeat (first | apply Kd.R_alloc | apply Kd.R_drewN | apply Kd.R_drew)); exact Kd.R_mono HO790.out (fun _ hk => ⟨hk.1.1.2, ⟨hk.1.2, hk.2⟩⟩))⟩; have n1_ : Aside0 (Kd.R (Kd.int .i64) 3 w31 w.heap.size (fun k_ => some k_ ≠ (.slice Ao23 t788.length co23 : Value).ownBlock ∧ some k_ ≠ (.slice Ao30 t795.length co30 : Value).ownBlock ∧ some k_ ≠ (.slice Ao32 t799.length co32 : Value).ownBlock) (.slice Ao33 t791.length co33) t791) := ⟨by rw [← hq_]; exact (by (with_reducible repeat (first | apply Kd.R_alloc | apply Kd.R_drewN | apply Kd.R_drew)); exact Kd.R_mono HO793.out (fun _ hk => ⟨hk.1.1.2, ⟨hk.1.2, hk.2⟩⟩))⟩; have n2_ : Aside0 (Kd.R (Kd.int .i64) 3 w31 w.heap.size (fun k_ => some k_ ≠ (.slice Ao23 t788.length co23 : Value).ownBlock ∧ some k_ ≠ (.slice Ao33 t791.length co33 : Value).ownBlock ∧ some k_ ≠ (.slice Ao32 t799.length co32 : Value).ownBlock) (.slice Ao30 t795.length co30) t795) := ⟨by rw [← hq_]; exact (by (with_reducible repeat (first | apply Kd.R_alloc | apply Kd.R_drewN | apply Kd.R_drew)); exact Kd.R_mono HO797.out (fun _ hk => ⟨hk.1.1.2, ⟨hk.1.2, hk.2⟩⟩))⟩; have n3_ : Aside0 (Kd.R (Kd.int .i64) 3 w31 w.heap.size (fun k_ => some k_ ≠ (.slice Ao23 t788.length co23 : Value).ownBlock ∧ some k_ ≠ (.slice Ao33 t791.length co33 : Value).ownBlock ∧ some k_ ≠ (.slice Ao30 t795.length co30 : Value).ownBlock) (.slice Ao32 t799.length co32) t799) := ⟨by rw [← hq_]; exact (by (with_reducible repeat (first | apply Kd.R_alloc | apply Kd.R_drewN | apply Kd.R_drew)); exact Kd.R_mono HO801.out (fun _ hk => ⟨hk.1.1.2, ⟨hk.1.2, hk.2⟩⟩))⟩; have n4_ : Aside0 (w31.heap[gb785]? = some (.cells #[.int .i64 a0_0, .slice A0_1 l0_1.length c0_1] 24 (0, 0))) := ⟨by rw [← hq_]; exact (by (with_reducible repeat (first | refine blk_drewN ?_ _ | refine blk_drew ?_ | refine blk_alloc ?_ _)); exact BK785.out)⟩; have n5_ : Aside0 (w31.heap[gb798]? = some (.cells #[.int .i64 t794, .slice Ao30 t795.length co30] 27 (0, 0))) := ⟨by rw [← hq_]; exact (by (with_reducible repeat (first | refine blk_drewN ?_ _ | refine blk_drew ?_ | refine blk_alloc ?_ _)); exact BK798.out)⟩; have n6_ : Aside0 (Below w.heap.size w w31) := ⟨by rw [← hq_]; exact (by repeat (first | (with_reducible first | exact HB.out | apply below_alloc | apply pw_below_drewN | apply below_drew1 | refine below_set ?_ GE785.out | refine below_set ?_ GE798.out) | exact HB.out))⟩; clear HO790 HO793 HO797 HO801 BK785 BK798 HB hq_; have HO790 := n0_; have HO793 := n1_; have HO797 := n2_; have HO801 := n3_; have BK785 := n4_; have BK798 := n5_; have HB := n6_; clear n0_ n1_ n2_ n3_ n4_ n5_ n6_; have hcy785_0 : w31.cell? ⟨gb785, 0, none⟩ = some (.int .i64 a0_0) := (blk_cell BK785.out 0).trans rfl; have hfy785_0 := blk_frozen BK785.out 0; have hcy785_1 : w31.cell? ⟨gb785, 1, none⟩ = some (.slice A0_1 l0_1.length c0_1) := (blk_cell BK785.out 1).trans rfl; have hfy785_1 := blk_frozen BK785.out 1; have hcy798_0 : w31.cell? ⟨gb798, 0, none⟩ = some (.int .i64 t794) := (blk_cell BK798.out 0).trans rfl; have hfy798_0 := blk_frozen BK798.out 0; have hcy798_1 : w31.cell? ⟨gb798, 1, none⟩ = some (.slice Ao30 t795.length co30) := (blk_cell BK798.out 1).trans rfl; have hfy798_1 := blk_frozen BK798.out 1))
        have n0_ := Aside0.mk (Kd.R_drew HO790.out)
        have n1_ := Aside0.mk (Kd.R_drew HO793.out)
        have n2_ := Aside0.mk (Kd.R_drew HO797.out)
        have n3_ := Aside0.mk (Kd.R_drew HO801.out)
        have n4_ := Aside0.mk (blk_drew BK785.out)
        have n5_ := Aside0.mk (blk_drew BK798.out)
        have n6_ := Aside0.mk (below_drew1 HB.out)
        clear HO790
        clear HO793
        clear HO797
        clear HO801
        clear BK785
        clear BK798
        clear HB
        have HO790 := n0_
        have HO793 := n1_
        have HO797 := n2_
        have HO801 := n3_
        have BK785 := n4_
        have BK798 := n5_
        have HB := n6_
        clear n0_ n1_ n2_ n3_ n4_ n5_ n6_
        refine start_ (n := 5) (S := fun w' => w'.cell? ⟨gb798, 0, none⟩ = some (.int .i64 t794) ∧ w'.cell? ⟨gb798, 1, none⟩ = some (.slice Ao30 t795.length co30) ∧ w'.cell? ⟨gb785, 0, none⟩ = some (.int .i64 a0_0) ∧ w'.cell? ⟨gb785, 1, none⟩ = some (.slice A0_1 l0_1.length c0_1)) (ds := []) #[false, false, false, false, false] (by kernel_rfl) rfl rfl ⟨(blk_cell BK798.out 0).trans rfl, (blk_cell BK798.out 1).trans rfl, (blk_cell BK785.out 0).trans rfl, (blk_cell BK785.out 1).trans rfl⟩ (fun hHeld => ?_)
        generalize w31.drew = w34 at HO790 HO793 HO797 HO801 BK785 BK798 HB hHeld ⊢
        refine take_ (i := 0) (N := some 27) (v := ?_) (a' := ?_) #[true, false, false, false, false] rfl rfl (by kernel_rfl) (fun _ _ _ h => h) (Or.inl ⟨by rfl, ?_⟩) hHeld ?_ ?_
        rotate_left
        · rintro w' ⟨s0, s1, s2, s3⟩
          go_simp
          with_reducible rfl
        rotate_left
        · simp only [Act.put, List.setIfInBounds_toArray, List.set_cons_zero, List.set_cons_succ, i64_w, i32_w]
          rfl
        refine take_ (i := 1) (N := some 28) (v := ?_) (a' := ?_) #[true, true, false, false, false] rfl rfl (by kernel_rfl) (fun _ _ _ h => h) (Or.inl ⟨by rfl, ?_⟩) hHeld ?_ ?_
        rotate_left
        · rintro w' ⟨s0, s1, s2, s3⟩
          go_simp
          with_reducible rfl
        rotate_left
        · simp only [Act.put, List.setIfInBounds_toArray, List.set_cons_zero, List.set_cons_succ, i64_w, i32_w]
          rfl
        refine one_ (i := 2) (N := some 29) #[true, true, true, false, false] rfl rfl (by kernel_rfl) (by decide) (fun K hK => ?_)
        refine goes_ Try.func17 (by kernel_rfl) rfl #[.agg #[.int .i64 a0_0, .slice A0_1 l0_1.length c0_1]] (by rfl) rfl rfl (by (try simp only [List.map_toArray, List.map_cons, List.map_nil]); first | done | rfl | (simp only [List.length_drop, List.length_take]; rfl)) ?_
        with_reducible refine (laws_toMatroid.calls k a0_0 _ _ l0_1 t803 t804 _ ?side1 ?side2 A13.out).mono ?_
        (case side1 => repeat (first | exact (Kd.C_below HR0_1.out HB.out) | (with_reducible refine Kd.C_alloc ?_ _) | (with_reducible refine Kd.C_drewN ?_ _) | (with_reducible refine Kd.C_drew ?_)))
        (case side2 => exact HC0_1.out)
        rintro e w35 ⟨v805, rfl, ho0, hb⟩
        refine ⟨_, rfl, ?_⟩
        have n0_ := Aside0.mk (Kd.R_elder' (by (with_reducible repeat (first | apply Kd.R_alloc | apply Kd.R_drewN | apply Kd.R_drew)); exact HO790.out) (Kd.R_base ho0) hb)
        have n1_ := Aside0.mk (Kd.R_elder' (by (with_reducible repeat (first | apply Kd.R_alloc | apply Kd.R_drewN | apply Kd.R_drew)); exact HO793.out) (Kd.R_base ho0) hb)
        have n2_ := Aside0.mk (Kd.R_elder' (by (with_reducible repeat (first | apply Kd.R_alloc | apply Kd.R_drewN | apply Kd.R_drew)); exact HO797.out) (Kd.R_base ho0) hb)
        have n3_ := Aside0.mk (Kd.R_elder' (by (with_reducible repeat (first | apply Kd.R_alloc | apply Kd.R_drewN | apply Kd.R_drew)); exact HO801.out) (Kd.R_base ho0) hb)
        have n4_ := Aside0.mk (Kd.R_lower (Kd.R_new' (Kd.R_new' (Kd.R_new' (Kd.R_new' ho0 (Kd.R_lt (by (with_reducible repeat (first | apply Kd.R_alloc | apply Kd.R_drewN | apply Kd.R_drew)); exact HO790.out))) (Kd.R_lt (by (with_reducible repeat (first | apply Kd.R_alloc | apply Kd.R_drewN | apply Kd.R_drew)); exact HO793.out))) (Kd.R_lt (by (with_reducible repeat (first | apply Kd.R_alloc | apply Kd.R_drewN | apply Kd.R_drew)); exact HO797.out))) (Kd.R_lt (by (with_reducible repeat (first | apply Kd.R_alloc | apply Kd.R_drewN | apply Kd.R_drew)); exact HO801.out))) (below_size (by repeat (first | (with_reducible first | exact HB.out | apply below_alloc | apply pw_below_drewN | apply below_drew1 | refine below_set ?_ GE785.out | refine below_set ?_ GE798.out) | exact HB.out))))
        have n5_ := Aside0.mk (blk_below (g := gb785) (o := .cells #[.int .i64 a0_0, .slice A0_1 l0_1.length c0_1] 24 (0, 0)) (by (with_reducible repeat (first | refine blk_drewN ?_ _ | refine blk_drew ?_ | refine blk_alloc ?_ _)); exact BK785.out) hb)
        have n6_ := Aside0.mk (blk_below (g := gb798) (o := .cells #[.int .i64 t794, .slice Ao30 t795.length co30] 27 (0, 0)) (by (with_reducible repeat (first | refine blk_drewN ?_ _ | refine blk_drew ?_ | refine blk_alloc ?_ _)); exact BK798.out) hb)
        have n7_ := Aside0.mk (below_step (by repeat (first | (with_reducible first | exact HB.out | apply below_alloc | apply pw_below_drewN | apply below_drew1 | refine below_set ?_ GE785.out | refine below_set ?_ GE798.out) | exact HB.out)) hb)
        clear HO790
        clear HO793
        clear HO797
        clear HO801
        clear BK785
        clear BK798
        clear HB
        have HO790 := n0_
        have HO793 := n1_
        have HO797 := n2_
        have HO801 := n3_
        have HO806 := n4_
        have BK785 := n5_
        have BK798 := n6_
        have HB := n7_
        clear n0_ n1_ n2_ n3_ n4_ n5_ n6_ n7_
        (try clear hb)
        (try clear hb2)
        (try clear hk)
        (try clear hi)
        (try clear ho0)
        obtain ⟨Ao36, co36, eo36⟩ := Kd.R_slice HO806.out
        (first | subst eo36 | (injection eo36 with f1_ f2_ f3_; have f4_ := f1_.symm; have f5_ := f3_.symm; clear f1_ f2_ f3_; subst f4_; subst f5_))
        refine hK.out _ _ ⟨(blk_cell BK798.out 0).trans rfl, (blk_cell BK798.out 1).trans rfl, (blk_cell BK785.out 0).trans rfl, (blk_cell BK785.out 1).trans rfl⟩ (fun hHeld => ?_)
        clear hK K
        refine norm_ (a' := ?_) ?_ ?_
        rotate_left
        · show Act.put _ (some 29) _ = _
          simp only [Act.put, List.setIfInBounds_toArray, List.set_cons_zero, List.set_cons_succ, i64_w, i32_w]
          rfl
        refine one_ (i := 3) (N := some 30) #[true, true, true, true, false] rfl rfl (by kernel_rfl) (by decide) (fun K hK => ?_)
        refine goes_ Try.func19 (by kernel_rfl) rfl #[.agg #[.int .i64 t794, .slice Ao30 t795.length co30], .agg #[.int .i64 t803, .slice Ao36 t804.length co36]] (by rfl) rfl rfl (by (try simp only [List.map_toArray, List.map_cons, List.map_nil]); first | done | rfl | (simp only [List.length_drop, List.length_take]; rfl)) ?_
        with_reducible refine (laws_eqMatroid.calls k t794 _ _ t795 t803 _ _ t804 true _ ?side1 ?side2 ?side3 ?side4 A14.out).mono ?_
        (case side1 => repeat (first | exact (Kd.R_reads' HO797.out).2.2 | (with_reducible refine Kd.C_alloc ?_ _) | (with_reducible refine Kd.C_drewN ?_ _) | (with_reducible refine Kd.C_drew ?_)))
        (case side2 => exact (Kd.R_reads' HO797.out).2.1)
        (case side3 => repeat (first | exact (Kd.R_reads' HO806.out).2.2 | (with_reducible refine Kd.C_alloc ?_ _) | (with_reducible refine Kd.C_drewN ?_ _) | (with_reducible refine Kd.C_drew ?_)))
        (case side4 => exact (Kd.R_reads' HO806.out).2.1)
        rintro e w37 ⟨rfl, hb⟩
        refine ⟨_, rfl, ?_⟩
        have n0_ := Aside0.mk (Kd.R_below (by (with_reducible repeat (first | apply Kd.R_alloc | apply Kd.R_drewN | apply Kd.R_drew)); exact HO790.out) hb)
        have n1_ := Aside0.mk (Kd.R_below (by (with_reducible repeat (first | apply Kd.R_alloc | apply Kd.R_drewN | apply Kd.R_drew)); exact HO793.out) hb)
        have n2_ := Aside0.mk (Kd.R_below (by (with_reducible repeat (first | apply Kd.R_alloc | apply Kd.R_drewN | apply Kd.R_drew)); exact HO797.out) hb)
        have n3_ := Aside0.mk (Kd.R_below (by (with_reducible repeat (first | apply Kd.R_alloc | apply Kd.R_drewN | apply Kd.R_drew)); exact HO801.out) hb)
        have n4_ := Aside0.mk (Kd.R_below (by (with_reducible repeat (first | apply Kd.R_alloc | apply Kd.R_drewN | apply Kd.R_drew)); exact HO806.out) hb)
        have n5_ := Aside0.mk (blk_below (g := gb785) (o := .cells #[.int .i64 a0_0, .slice A0_1 l0_1.length c0_1] 24 (0, 0)) (by (with_reducible repeat (first | refine blk_drewN ?_ _ | refine blk_drew ?_ | refine blk_alloc ?_ _)); exact BK785.out) hb)
        have n6_ := Aside0.mk (blk_below (g := gb798) (o := .cells #[.int .i64 t794, .slice Ao30 t795.length co30] 27 (0, 0)) (by (with_reducible repeat (first | refine blk_drewN ?_ _ | refine blk_drew ?_ | refine blk_alloc ?_ _)); exact BK798.out) hb)
        have n7_ := Aside0.mk (below_step (by repeat (first | (with_reducible first | exact HB.out | apply below_alloc | apply pw_below_drewN | apply below_drew1 | refine below_set ?_ GE785.out | refine below_set ?_ GE798.out) | exact HB.out)) hb)
        clear HO790
        clear HO793
        clear HO797
        clear HO801
        clear HO806
        clear BK785
        clear BK798
        clear HB
        have HO790 := n0_
        have HO793 := n1_
        have HO797 := n2_
        have HO801 := n3_
        have HO806 := n4_
        have BK785 := n5_
        have BK798 := n6_
        have HB := n7_
        clear n0_ n1_ n2_ n3_ n4_ n5_ n6_ n7_
        (try clear hb)
        (try clear hb2)
        (try clear hk)
        (try clear hi)
        refine hK.out _ _ ⟨(blk_cell BK798.out 0).trans rfl, (blk_cell BK798.out 1).trans rfl, (blk_cell BK785.out 0).trans rfl, (blk_cell BK785.out 1).trans rfl⟩ (fun hHeld => ?_)
        clear hK K
        refine norm_ (a' := ?_) ?_ ?_
        rotate_left
        · show Act.put _ (some 30) _ = _
          simp only [Act.put, List.setIfInBounds_toArray, List.set_cons_zero, List.set_cons_succ, i64_w, i32_w]
          rfl
        refine pure_ (i := 4) (N := some 31) (v := ?_) (a' := ?_) #[true, true, true, true, true] rfl rfl (by kernel_rfl) (fun _ _ _ h => h) (Or.inl ⟨by rfl, ?_⟩) ?_ ?_
        rotate_left
        · intro w'
          go_simp
          with_reducible rfl
        rotate_left
        · simp only [Act.put, List.setIfInBounds_toArray, List.set_cons_zero, List.set_cons_succ, i64_w, i32_w]
          rfl
        refine done_ (by kernel_rfl) ?_
        have hcz38_0 : w37.cell? ⟨gb798, 0, none⟩ = some (.int .i64 t794) := (blk_cell BK798.out 0).trans rfl
        have hcz38_1 : w37.cell? ⟨gb798, 1, none⟩ = some (.slice Ao30 t795.length co30) := (blk_cell BK798.out 1).trans rfl
        have hfz38_0 := blk_frozen BK798.out 0
        have hfz38_1 := blk_frozen BK798.out 1
        go_upto_region 14 with (first | ((with_reducible refine gate_callee (f := 37) rfl ?_); refine goesL_ (some 34) rfl rfl Try.func37 (by kernel_rfl) rfl #[.agg #[.int .i64 t794, .slice Ao30 t795.length co30], .int .i64 1] rfl (by (try simp only [List.map_toArray, List.map_cons, List.map_nil]); first | done | rfl | (simp only [List.length_drop, List.length_take]; rfl)) ?_; (with_reducible refine (laws_markMatroid.calls k t794 (fun k_ => some k_ = (.slice Ao30 t795.length co30 : Value).ownBlock) (.slice Ao30 t795.length co30) t795 1 t808 t809 w _ ?side1 ?side2 A16.out).mono ?_); (case side1 => repeat (first | (with_reducible first | exact HB.out | apply below_alloc | apply pw_below_drewN | apply below_drew1 | refine below_set ?_ GE785.out | refine below_set ?_ GE798.out) | exact HB.out)); (case side2 => exact Kd.R_tight rfl HO797.out); rintro e w39 ⟨rfl, hy0, hb, hkp⟩; refine ⟨_, rfl, ?_⟩; have n0_ := Aside0.mk (blk_kept (by (with_reducible repeat (first | refine blk_drewN ?_ _ | refine blk_drew ?_ | refine blk_alloc ?_ _)); exact BK785.out) hkp (fun hs_ => (fun e_ => (Kd.R_ne HO797.out BK785.out (by decide)) e_) hs_)); have n1_ := Aside0.mk (Kd.R_mono (ok' := fun k_ => some k_ ≠ (.slice Ao33 t791.length co33 : Value).ownBlock ∧ some k_ ≠ (.slice Ao30 t795.length co30 : Value).ownBlock ∧ some k_ ≠ (.slice Ao32 t799.length co32 : Value).ownBlock ∧ some k_ ≠ (.slice Ao36 t804.length co36 : Value).ownBlock) (Kd.R_keptB (HO790.out) hkp (fun k_ hk_ hs_ => (by first | exact (hk_.1.1.2) hs_ | (simp_all; done)))) (fun k_ hk_ => (by first | exact ⟨hk_.1.1.1.1.2, hk_.1.1.1.2, hk_.1.1.2, hk_.1.2⟩ | (simp_all; done)))); have n2_ := Aside0.mk (Kd.R_mono (ok' := fun k_ => some k_ ≠ (.slice Ao23 t788.length co23 : Value).ownBlock ∧ some k_ ≠ (.slice Ao30 t795.length co30 : Value).ownBlock ∧ some k_ ≠ (.slice Ao32 t799.length co32 : Value).ownBlock ∧ some k_ ≠ (.slice Ao36 t804.length co36 : Value).ownBlock) (Kd.R_keptB (HO793.out) hkp (fun k_ hk_ hs_ => (by first | exact (hk_.1.1.2) hs_ | (simp_all; done)))) (fun k_ hk_ => (by first | exact ⟨hk_.1.1.1.1.2, hk_.1.1.1.2, hk_.1.1.2, hk_.1.2⟩ | (simp_all; done)))); have n3_ := Aside0.mk (Kd.R_reok rfl hy0 (fun k_ e_ => HO797.out.1 k_ e_)); have n4_ := Aside0.mk (blk_kept (by (with_reducible repeat (first | refine blk_drewN ?_ _ | refine blk_drew ?_ | refine blk_alloc ?_ _)); exact BK798.out) hkp (fun hs_ => (fun e_ => (Kd.R_ne HO797.out BK798.out (by decide)) e_) hs_)); have n5_ := Aside0.mk (Kd.R_mono (ok' := fun k_ => some k_ ≠ (.slice Ao23 t788.length co23 : Value).ownBlock ∧ some k_ ≠ (.slice Ao33 t791.length co33 : Value).ownBlock ∧ some k_ ≠ (.slice Ao30 t795.length co30 : Value).ownBlock ∧ some k_ ≠ (.slice Ao36 t804.length co36 : Value).ownBlock) (Kd.R_keptB (HO801.out) hkp (fun k_ hk_ hs_ => (by first | exact (hk_.1.2) hs_ | (simp_all; done)))) (fun k_ hk_ => (by first | exact ⟨hk_.1.1.1.1.2, hk_.1.1.1.2, hk_.1.1.2, hk_.1.2⟩ | (simp_all; done)))); have n6_ := Aside0.mk (Kd.R_mono (ok' := fun k_ => some k_ ≠ (.slice Ao23 t788.length co23 : Value).ownBlock ∧ some k_ ≠ (.slice Ao33 t791.length co33 : Value).ownBlock ∧ some k_ ≠ (.slice Ao30 t795.length co30 : Value).ownBlock ∧ some k_ ≠ (.slice Ao32 t799.length co32 : Value).ownBlock) (Kd.R_keptB (HO806.out) hkp (fun k_ hk_ hs_ => (by first | exact (hk_.1.2) hs_ | (simp_all; done)))) (fun k_ hk_ => (by first | exact ⟨hk_.1.1.1.1.2, hk_.1.1.1.2, hk_.1.1.2, hk_.1.2⟩ | (simp_all; done)))); have n7_ := Aside0.mk (hb); clear BK785; clear HO790; clear HO793; clear HO797; clear BK798; clear HO801; clear HO806; clear HB; have BK785 := n0_; have HO790 := n1_; have HO793 := n2_; have HO797 := n3_; have BK798 := n4_; have HO801 := n5_; have HO806 := n6_; have HB := n7_; clear n0_ n1_ n2_ n3_ n4_ n5_ n6_ n7_; (try clear hb); (try clear hkp); (try clear hy0)))
        (try simp only [Act.put, List.setIfInBounds_toArray, List.set_cons_zero, List.set_cons_succ])
        go_cut [42] (fun v42 wc => ∃ (kq : Nat) (x42_16 : Bool), v42 = .bool x42_16 ∧ Aside0 (laws_FnExactCharacteristicOf.j0 kq t791 t799 x42_16 a0_0 l0_1 = some r) ∧ Aside0 (kq ≤ k) ∧ Aside0 (Kd.R (Kd.int .i64) 3 wc w.heap.size (fun k_ => some k_ ≠ ((.slice Ao32 t799.length co32) : Value).ownBlock ∧ some k_ ≠ ((.slice Ao30 t795.length co30) : Value).ownBlock) (.slice Ao33 t791.length co33) t791) ∧ Aside0 (Kd.R (Kd.int .i64) 3 wc w.heap.size (fun k_ => some k_ ≠ ((.slice Ao33 t791.length co33) : Value).ownBlock ∧ some k_ ≠ ((.slice Ao30 t795.length co30) : Value).ownBlock) (.slice Ao32 t799.length co32) t799) ∧ Aside0 (Kd.R (Kd.int .i64) 3 wc w.heap.size (fun k_ => some k_ ≠ ((.slice Ao33 t791.length co33) : Value).ownBlock ∧ some k_ ≠ ((.slice Ao32 t799.length co32) : Value).ownBlock) (.slice Ao30 t795.length co30) t809) ∧ Aside0 (wc.heap[gb785]? = some (.cells #[.int .i64 a0_0, (.slice A0_1 l0_1.length c0_1)] 24 (0, 0))) ∧ Aside0 (wc.heap[gb798]? = some (.cells #[.int .i64 t794, (.slice Ao30 t795.length co30)] 27 (0, 0))) ∧ Aside0 (Below w.heap.size w wc))
        case first =>
          have H := HC17.out
          clear HC17
          by_cases c40 : t808 < 0
          · rw [if_pos c40] at H
            have c40b0 : decide (t808 < 0) = true := decide_eq_true c40
            clear c40
            (first | rw [c40b0] | (simp only [i64_w, i32_w]; rw [c40b0]) | skip)
            have H' := Aside0.mk H
            clear H
            go_wp2
            go_meet
            case rel => exact ⟨_, (true), (by first | rfl | (simp; done) | (simp [*]; done)), H', ⟨by first | omega | exact Nat.le_refl _⟩, ⟨by (with_reducible repeat (first | apply Kd.R_alloc | apply Kd.R_drewN | apply Kd.R_drew)); exact Kd.R_mono HO793.out (fun _ hk => (by first | exact ⟨hk.2.2.1, hk.2.1⟩ | (simp_all; done)))⟩, ⟨by (with_reducible repeat (first | apply Kd.R_alloc | apply Kd.R_drewN | apply Kd.R_drew)); exact Kd.R_mono HO801.out (fun _ hk => (by first | exact ⟨hk.2.1, hk.2.2.1⟩ | (simp_all; done)))⟩, ⟨by (with_reducible repeat (first | apply Kd.R_alloc | apply Kd.R_drewN | apply Kd.R_drew)); exact Kd.R_mono HO797.out (fun _ hk => (by first | exact ⟨hk.1.1.2, hk.1.2⟩ | (simp_all; done)))⟩, ⟨by (with_reducible repeat (first | refine blk_drewN ?_ _ | refine blk_drew ?_ | refine blk_alloc ?_ _)); exact BK785.out⟩, ⟨by (with_reducible repeat (first | refine blk_drewN ?_ _ | refine blk_drew ?_ | refine blk_alloc ?_ _)); exact BK798.out⟩, ⟨by repeat (first | (with_reducible first | exact HB.out | apply below_alloc | apply pw_below_drewN | apply below_drew1 | refine below_set ?_ GE785.out | refine below_set ?_ GE798.out) | exact HB.out)⟩⟩
          · rw [if_neg c40] at H
            have c40b0 : decide (t808 < 0) = false := decide_eq_false c40
            clear c40
            (first | rw [c40b0] | (simp only [i64_w, i32_w]; rw [c40b0]) | skip)
            replace H := Option.bind_eq_some_iff.mp H
            obtain ⟨t810, A410, H⟩ := H
            replace H : (laws_FnExactCharacteristicOf.j0 k t791 t799 (!t810) a0_0 l0_1) = some r := H
            have A41 := Aside0.mk A410
            clear A410
            have H' := Aside0.mk H
            clear H
            go_wp2_with (first | (go_at_call 30; (with_reducible refine (laws_eqIntS.calls k _ _ t799 _ _ t791 t810 _ ?side1 ?side2 ?side3 ?side4 A41.out).mono ?_); (case side1 => repeat (first | exact (Kd.R_reads' HO801.out).2.2 | (with_reducible refine Kd.C_alloc ?_ _) | (with_reducible refine Kd.C_drewN ?_ _) | (with_reducible refine Kd.C_drew ?_))); (case side2 => exact (Kd.R_reads' HO801.out).2.1); (case side3 => repeat (first | exact (Kd.R_reads' HO793.out).2.2 | (with_reducible refine Kd.C_alloc ?_ _) | (with_reducible refine Kd.C_drewN ?_ _) | (with_reducible refine Kd.C_drew ?_))); (case side4 => exact (Kd.R_reads' HO793.out).2.1); rintro e w' ⟨rfl, ⟨nd, rfl⟩⟩))
            go_meet
            case rel => exact ⟨_, (!t810), (by first | rfl | (simp; done) | (simp [*]; done)), H', ⟨by first | omega | exact Nat.le_refl _⟩, ⟨by (with_reducible repeat (first | apply Kd.R_alloc | apply Kd.R_drewN | apply Kd.R_drew)); exact Kd.R_mono HO793.out (fun _ hk => (by first | exact ⟨hk.2.2.1, hk.2.1⟩ | (simp_all; done)))⟩, ⟨by (with_reducible repeat (first | apply Kd.R_alloc | apply Kd.R_drewN | apply Kd.R_drew)); exact Kd.R_mono HO801.out (fun _ hk => (by first | exact ⟨hk.2.1, hk.2.2.1⟩ | (simp_all; done)))⟩, ⟨by (with_reducible repeat (first | apply Kd.R_alloc | apply Kd.R_drewN | apply Kd.R_drew)); exact Kd.R_mono HO797.out (fun _ hk => (by first | exact ⟨hk.1.1.2, hk.1.2⟩ | (simp_all; done)))⟩, ⟨by (with_reducible repeat (first | refine blk_drewN ?_ _ | refine blk_drew ?_ | refine blk_alloc ?_ _)); exact BK785.out⟩, ⟨by (with_reducible repeat (first | refine blk_drewN ?_ _ | refine blk_drew ?_ | refine blk_alloc ?_ _)); exact BK798.out⟩, ⟨by repeat (first | (with_reducible first | exact HB.out | apply below_alloc | apply pw_below_drewN | apply below_drew1 | refine below_set ?_ GE785.out | refine below_set ?_ GE798.out) | exact HB.out)⟩⟩
        case rest =>
          clear HC17
          try clear c1
          try clear c2
          try clear p2
          try clear c3
          try clear c3b0
          try clear c4
          try clear c12
          try clear c15
          try clear c17
          try clear c19
          try clear c28
          try clear c30
          try clear c37
          try clear c40
          try clear c40b0
          try clear hcz19_0
          try clear hcz19_1
          try clear hcz21_0
          try clear hcz21_1
          try clear hcz25_0
          try clear hcz25_1
          try clear hcz29_0
          try clear hcz29_1
          try clear hcz38_0
          try clear hcz38_1
          try clear hcz5_0
          try clear hcz5_1
          try clear hfz19_0
          try clear hfz19_1
          try clear hfz21_0
          try clear hfz21_1
          try clear hfz25_0
          try clear hfz25_1
          try clear hfz29_0
          try clear hfz29_1
          try clear hfz38_0
          try clear hfz38_1
          try clear hfz5_0
          try clear hfz5_1
          obtain ⟨kq, x42_16, rfl, HA, HJ16, HO_4, HO_6, HO_799001, BK785, BK798, HB⟩ := hcut
          have hl799001_16 := (Kd.R_reads' HO_799001.out).1
          rw [hl799001_16] at HO_799001
          (try simp only [hl799001_16])
          (try simp only [hl799001_16] at BK785)
          (try simp only [hl799001_16] at BK798)
          (try simp only [hl799001_16] at HO_4)
          (try simp only [hl799001_16] at HO_6)
          cases kq with
          | zero => exact absurd HA.out (by simp [laws_FnExactCharacteristicOf.j0])
          | succ kj16 =>
            have H := HA.out
            clear HA
            simp only [laws_FnExactCharacteristicOf.j0] at H
            by_cases c42 : x42_16 = true
            · subst c42
              have H1 : (some false) = some r := by rw [if_pos rfl] at H; exact H
              clear H
              have H := H1
              clear H1
              obtain rfl := Option.some.inj H
              exact absurd hT.out (by decide)
            · replace c42 := Bool.eq_false_iff.mpr c42
              subst c42
              have H1 : ((laws_markIntS.f kj16 t799 1).bind fun bt811 => ((laws_heldIntS.f kj16 bt811.2 1).bind fun t813 => (if t813 < 0 then (some false) else (if t813 = bt811.1 then ((laws_toMatroid.f kj16 a0_0 l0_1).bind fun bt814 => ((impl_CharacteristicOf.f kj16 bt814.1 bt814.2).bind fun t818 => ((laws_eqIntS.f kj16 t818 t791).bind fun t821 => (if t821 = true then ((laws_heldIntS.f kj16 bt811.2 1).bind fun t822 => (if t822 < 0 then (some false) else (if t822 = bt811.1 then (some true) else (some false)))) else (some false))))) else (some false))))) = some r := by rw [if_neg (show ¬ (false = true) by decide)] at H; exact H
              clear H
              have H := H1
              clear H1
              replace H := Option.bind_eq_some_iff.mp H
              obtain ⟨⟨t811, t812⟩, A430, H⟩ := H
              replace H : ((laws_heldIntS.f kj16 t812 1).bind fun t813 => (if t813 < 0 then (some false) else (if t813 = t811 then ((laws_toMatroid.f kj16 a0_0 l0_1).bind fun bt814 => ((impl_CharacteristicOf.f kj16 bt814.1 bt814.2).bind fun t818 => ((laws_eqIntS.f kj16 t818 t791).bind fun t821 => (if t821 = true then ((laws_heldIntS.f kj16 t812 1).bind fun t822 => (if t822 < 0 then (some false) else (if t822 = t811 then (some true) else (some false)))) else (some false))))) else (some false)))) = some r := H
              have A43 := Aside0.mk A430
              clear A430
              replace H := Option.bind_eq_some_iff.mp H
              obtain ⟨t813, A440, H⟩ := H
              replace H : (if t813 < 0 then (some false) else (if t813 = t811 then ((laws_toMatroid.f kj16 a0_0 l0_1).bind fun bt814 => ((impl_CharacteristicOf.f kj16 bt814.1 bt814.2).bind fun t818 => ((laws_eqIntS.f kj16 t818 t791).bind fun t821 => (if t821 = true then ((laws_heldIntS.f kj16 t812 1).bind fun t822 => (if t822 < 0 then (some false) else (if t822 = t811 then (some true) else (some false)))) else (some false))))) else (some false))) = some r := H
              have A44 := Aside0.mk A440
              clear A440
              by_cases c45 : t813 < 0
              · rw [if_pos c45] at H
                have c45b0 : decide (t813 < 0) = true := decide_eq_true c45
                clear c45
                obtain rfl := Option.some.inj H
                exact absurd hT.out (by decide)
              · rw [if_neg c45] at H
                have c45b0 : decide (t813 < 0) = false := decide_eq_false c45
                clear c45
                by_cases c46 : t813 = t811
                · rw [if_pos c46] at H
                  have c46b0 : (t813 == t811) = true := beq_iff_eq.mpr c46
                  have c46b1 : (t813 != t811) = false := bne_eq_false_iff_eq.mpr c46
                  clear c46
                  replace H := Option.bind_eq_some_iff.mp H
                  obtain ⟨⟨t814, t815⟩, A470, H⟩ := H
                  replace H : ((impl_CharacteristicOf.f kj16 t814 t815).bind fun t818 => ((laws_eqIntS.f kj16 t818 t791).bind fun t821 => (if t821 = true then ((laws_heldIntS.f kj16 t812 1).bind fun t822 => (if t822 < 0 then (some false) else (if t822 = t811 then (some true) else (some false)))) else (some false)))) = some r := H
                  have A47 := Aside0.mk A470
                  clear A470
                  replace H := Option.bind_eq_some_iff.mp H
                  obtain ⟨t818, A480, H⟩ := H
                  replace H : ((laws_eqIntS.f kj16 t818 t791).bind fun t821 => (if t821 = true then ((laws_heldIntS.f kj16 t812 1).bind fun t822 => (if t822 < 0 then (some false) else (if t822 = t811 then (some true) else (some false)))) else (some false))) = some r := H
                  have A48 := Aside0.mk A480
                  clear A480
                  replace H := Option.bind_eq_some_iff.mp H
                  obtain ⟨t821, A490, H⟩ := H
                  replace H : (if t821 = true then ((laws_heldIntS.f kj16 t812 1).bind fun t822 => (if t822 < 0 then (some false) else (if t822 = t811 then (some true) else (some false)))) else (some false)) = some r := H
                  have A49 := Aside0.mk A490
                  clear A490
                  by_cases c50 : t821 = true
                  · subst c50
                    have H1 : ((laws_heldIntS.f kj16 t812 1).bind fun t822 => (if t822 < 0 then (some false) else (if t822 = t811 then (some true) else (some false)))) = some r := by rw [if_pos rfl] at H; exact H
                    clear H
                    have H := H1
                    clear H1
                    replace H := Option.bind_eq_some_iff.mp H
                    obtain ⟨t822, A510, H⟩ := H
                    replace H : (if t822 < 0 then (some false) else (if t822 = t811 then (some true) else (some false))) = some r := H
                    have A51 := Aside0.mk A510
                    clear A510
                    by_cases c52 : t822 < 0
                    · rw [if_pos c52] at H
                      have c52b0 : decide (t822 < 0) = true := decide_eq_true c52
                      clear c52
                      obtain rfl := Option.some.inj H
                      exact absurd hT.out (by decide)
                    · rw [if_neg c52] at H
                      have c52b0 : decide (t822 < 0) = false := decide_eq_false c52
                      clear c52
                      by_cases c53 : t822 = t811
                      · rw [if_pos c53] at H
                        have c53b0 : (t822 == t811) = true := beq_iff_eq.mpr c53
                        have c53b1 : (t822 != t811) = false := bne_eq_false_iff_eq.mpr c53
                        clear c53
                        obtain rfl := Option.some.inj H
                        go_wp2_with (first | ((with_reducible refine gate_callee (f := 33) rfl ?_); refine goesL_ (some 45) rfl rfl Try.func33 (by kernel_rfl) rfl #[.slice Ao32 t799.length co32, .int .i64 1] rfl (by (try simp only [List.map_toArray, List.map_cons, List.map_nil]); first | done | rfl | (simp only [List.length_drop, List.length_take]; rfl)) ?_; (with_reducible refine (laws_markIntS.calls kj16 (fun k_ => some k_ = (.slice Ao32 t799.length co32 : Value).ownBlock) (.slice Ao32 t799.length co32) t799 1 t811 t812 w _ ?side1 ?side2 A43.out).mono ?_); (case side1 => repeat (first | (with_reducible first | exact HB.out | apply below_alloc | apply pw_below_drewN | apply below_drew1 | refine below_set ?_ GE785.out | refine below_set ?_ GE798.out) | exact HB.out)); (case side2 => exact Kd.R_tight rfl HO_6.out); rintro e w54 ⟨rfl, hy0, hb, hkp⟩; refine ⟨_, rfl, ?_⟩; have n0_ := Aside0.mk (Kd.R_mono (ok' := fun k_ => some k_ ≠ (.slice Ao32 t799.length co32 : Value).ownBlock ∧ some k_ ≠ (.slice Ao30 t809.length co30 : Value).ownBlock) (Kd.R_keptB (HO_4.out) hkp (fun k_ hk_ hs_ => (by first | exact (hk_.1) hs_ | (simp_all; done)))) (fun k_ hk_ => (by first | exact ⟨hk_.1.1, hk_.1.2⟩ | (simp_all; done)))); have n1_ := Aside0.mk (Kd.R_reok rfl hy0 (fun k_ e_ => HO_6.out.1 k_ e_)); have n2_ := Aside0.mk (Kd.R_mono (ok' := fun k_ => some k_ ≠ (.slice Ao33 t791.length co33 : Value).ownBlock ∧ some k_ ≠ (.slice Ao32 t799.length co32 : Value).ownBlock) (Kd.R_keptB (HO_799001.out) hkp (fun k_ hk_ hs_ => (by first | exact (hk_.2) hs_ | (simp_all; done)))) (fun k_ hk_ => (by first | exact ⟨hk_.1.1, hk_.1.2⟩ | (simp_all; done)))); have n3_ := Aside0.mk (blk_kept (by (with_reducible repeat (first | refine blk_drewN ?_ _ | refine blk_drew ?_ | refine blk_alloc ?_ _)); exact BK785.out) hkp (fun hs_ => (fun e_ => (Kd.R_ne HO_6.out BK785.out (by decide)) e_) hs_)); have n4_ := Aside0.mk (blk_kept (by (with_reducible repeat (first | refine blk_drewN ?_ _ | refine blk_drew ?_ | refine blk_alloc ?_ _)); exact BK798.out) hkp (fun hs_ => (fun e_ => (Kd.R_ne HO_6.out BK798.out (by decide)) e_) hs_)); have n5_ := Aside0.mk (hb); clear HO_4; clear HO_6; clear HO_799001; clear BK785; clear BK798; clear HB; have HO_4 := n0_; have HO_6 := n1_; have HO_799001 := n2_; have BK785 := n3_; have BK798 := n4_; have HB := n5_; clear n0_ n1_ n2_ n3_ n4_ n5_; (try clear hb); (try clear hkp); (try clear hy0)) | ((with_reducible refine gate_callee (f := 34) rfl ?_); refine goesL_ (some 48) rfl rfl Try.func34 (by kernel_rfl) rfl #[.slice Ao32 t812.length co32, .int .i64 1] rfl (by (try simp only [List.map_toArray, List.map_cons, List.map_nil]); first | done | (rw [show t812.length = t799.length from (Kd.R_reads' HO_6.out).1.symm] <;> rfl) | rfl | (simp only [List.length_drop, List.length_take]; rfl)) ?_; (with_reducible refine (laws_heldIntS.calls kj16 _ _ t812 1 t813 _ ?side1 ?side2 A44.out).mono ?_); (case side1 => repeat (first | exact (Kd.R_reads' HO_6.out).2.2 | (with_reducible refine Kd.C_alloc ?_ _) | (with_reducible refine Kd.C_drewN ?_ _) | (with_reducible refine Kd.C_drew ?_))); (case side2 => rw [show t812.length = t799.length from (Kd.R_reads' HO_6.out).1.symm]; exact (Kd.R_reads' HO_6.out).2.1); rintro e w' ⟨rfl, ⟨nd, rfl⟩⟩; refine ⟨_, rfl, ?_⟩; have hnb55 := NB785_798.out; have hnc55 := NB798_785.out; have hcz56_0 : w54.cell? ⟨gb785, 0, none⟩ = some (.int .i64 a0_0) := (blk_cell BK785.out 0).trans rfl; have hcz56_1 : w54.cell? ⟨gb785, 1, none⟩ = some (.slice A0_1 l0_1.length c0_1) := (blk_cell BK785.out 1).trans rfl; have hfz56_0 := blk_frozen BK785.out 0; have hfz56_1 := blk_frozen BK785.out 1) | ((with_reducible refine gate_callee (f := 17) rfl ?_); refine goesL_ (some 55) rfl rfl Try.func17 (by kernel_rfl) rfl #[.agg #[.int .i64 a0_0, .slice A0_1 l0_1.length c0_1]] rfl (by (try simp only [List.map_toArray, List.map_cons, List.map_nil]); first | done | rfl | (simp only [List.length_drop, List.length_take]; rfl)) ?_; (with_reducible refine (laws_toMatroid.calls kj16 a0_0 _ _ l0_1 t814 t815 _ ?side1 ?side2 A47.out).mono ?_); (case side1 => repeat (first | exact (Kd.C_below HR0_1.out (by repeat (first | (with_reducible first | exact HB.out | apply below_alloc | apply pw_below_drewN | apply below_drew1 | refine below_set ?_ GE785.out | refine below_set ?_ GE798.out) | exact HB.out))) | (with_reducible refine Kd.C_alloc ?_ _) | (with_reducible refine Kd.C_drewN ?_ _) | (with_reducible refine Kd.C_drew ?_))); (case side2 => exact HC0_1.out); rintro e w57 ⟨v816, rfl, ho0, hb⟩; refine ⟨_, rfl, ?_⟩; have n0_ := Aside0.mk (Kd.R_elder' (by (with_reducible repeat (first | apply Kd.R_alloc | apply Kd.R_drewN | apply Kd.R_drew)); exact HO_4.out) (Kd.R_base ho0) hb); have n1_ := Aside0.mk (Kd.R_elder' (by (with_reducible repeat (first | apply Kd.R_alloc | apply Kd.R_drewN | apply Kd.R_drew)); exact HO_6.out) (Kd.R_base ho0) hb); have n2_ := Aside0.mk (Kd.R_elder' (by (with_reducible repeat (first | apply Kd.R_alloc | apply Kd.R_drewN | apply Kd.R_drew)); exact HO_799001.out) (Kd.R_base ho0) hb); have n3_ := Aside0.mk (Kd.R_lower (Kd.R_new' (Kd.R_new' (Kd.R_new' ho0 (Kd.R_lt (by (with_reducible repeat (first | apply Kd.R_alloc | apply Kd.R_drewN | apply Kd.R_drew)); exact HO_4.out))) (Kd.R_lt (by (with_reducible repeat (first | apply Kd.R_alloc | apply Kd.R_drewN | apply Kd.R_drew)); exact HO_6.out))) (Kd.R_lt (by (with_reducible repeat (first | apply Kd.R_alloc | apply Kd.R_drewN | apply Kd.R_drew)); exact HO_799001.out))) (below_size (by repeat (first | (with_reducible first | exact HB.out | apply below_alloc | apply pw_below_drewN | apply below_drew1 | refine below_set ?_ GE785.out | refine below_set ?_ GE798.out) | exact HB.out)))); have n4_ := Aside0.mk (blk_below (g := gb785) (o := .cells #[.int .i64 a0_0, .slice A0_1 l0_1.length c0_1] 24 (0, 0)) (by (with_reducible repeat (first | refine blk_drewN ?_ _ | refine blk_drew ?_ | refine blk_alloc ?_ _)); exact BK785.out) hb); have n5_ := Aside0.mk (blk_below (g := gb798) (o := .cells #[.int .i64 t794, .slice Ao30 t809.length co30] 27 (0, 0)) (by (with_reducible repeat (first | refine blk_drewN ?_ _ | refine blk_drew ?_ | refine blk_alloc ?_ _)); exact BK798.out) hb); have n6_ := Aside0.mk (below_step (by repeat (first | (with_reducible first | exact HB.out | apply below_alloc | apply pw_below_drewN | apply below_drew1 | refine below_set ?_ GE785.out | refine below_set ?_ GE798.out) | exact HB.out)) hb); clear HO_4; clear HO_6; clear HO_799001; clear BK785; clear BK798; clear HB; have HO_4 := n0_; have HO_6 := n1_; have HO_799001 := n2_; have HO817 := n3_; have BK785 := n4_; have BK798 := n5_; have HB := n6_; clear n0_ n1_ n2_ n3_ n4_ n5_ n6_; (try clear hb); (try clear hb2); (try clear hk); (try clear hi); (try clear ho0); obtain ⟨Ao58, co58, eo58⟩ := Kd.R_slice HO817.out; subst eo58) | ((with_reducible refine gate_callee (f := 48) rfl ?_); refine goesL_ (some 56) rfl rfl Try.func48 (by kernel_rfl) rfl #[.agg #[.int .i64 t814, .slice Ao58 t815.length co58]] rfl (by (try simp only [List.map_toArray, List.map_cons, List.map_nil]); first | done | rfl | (simp only [List.length_drop, List.length_take]; rfl)) ?_; (with_reducible refine (impl_CharacteristicOf.calls kj16 t814 _ _ t815 t818 _ ?side1 ?side2 A48.out).mono ?_); (case side1 => repeat (first | exact (Kd.R_reads' HO817.out).2.2 | (with_reducible refine Kd.C_alloc ?_ _) | (with_reducible refine Kd.C_drewN ?_ _) | (with_reducible refine Kd.C_drew ?_))); (case side2 => exact (Kd.R_reads' HO817.out).2.1); rintro e w59 ⟨v819, rfl, ho0, hb⟩; refine ⟨_, rfl, ?_⟩; have n0_ := Aside0.mk (Kd.R_elder' (by (with_reducible repeat (first | apply Kd.R_alloc | apply Kd.R_drewN | apply Kd.R_drew)); exact HO_4.out) (Kd.R_base ho0) hb); have n1_ := Aside0.mk (Kd.R_elder' (by (with_reducible repeat (first | apply Kd.R_alloc | apply Kd.R_drewN | apply Kd.R_drew)); exact HO_6.out) (Kd.R_base ho0) hb); have n2_ := Aside0.mk (Kd.R_elder' (by (with_reducible repeat (first | apply Kd.R_alloc | apply Kd.R_drewN | apply Kd.R_drew)); exact HO_799001.out) (Kd.R_base ho0) hb); have n3_ := Aside0.mk (Kd.R_elder' (by (with_reducible repeat (first | apply Kd.R_alloc | apply Kd.R_drewN | apply Kd.R_drew)); exact HO817.out) (Kd.R_base ho0) hb); have n4_ := Aside0.mk (Kd.R_lower (Kd.R_new' (Kd.R_new' (Kd.R_new' (Kd.R_new' ho0 (Kd.R_lt (by (with_reducible repeat (first | apply Kd.R_alloc | apply Kd.R_drewN | apply Kd.R_drew)); exact HO_4.out))) (Kd.R_lt (by (with_reducible repeat (first | apply Kd.R_alloc | apply Kd.R_drewN | apply Kd.R_drew)); exact HO_6.out))) (Kd.R_lt (by (with_reducible repeat (first | apply Kd.R_alloc | apply Kd.R_drewN | apply Kd.R_drew)); exact HO_799001.out))) (Kd.R_lt (by (with_reducible repeat (first | apply Kd.R_alloc | apply Kd.R_drewN | apply Kd.R_drew)); exact HO817.out))) (below_size (by repeat (first | (with_reducible first | exact HB.out | apply below_alloc | apply pw_below_drewN | apply below_drew1 | refine below_set ?_ GE785.out | refine below_set ?_ GE798.out) | exact HB.out)))); have n5_ := Aside0.mk (blk_below (g := gb785) (o := .cells #[.int .i64 a0_0, .slice A0_1 l0_1.length c0_1] 24 (0, 0)) (by (with_reducible repeat (first | refine blk_drewN ?_ _ | refine blk_drew ?_ | refine blk_alloc ?_ _)); exact BK785.out) hb); have n6_ := Aside0.mk (blk_below (g := gb798) (o := .cells #[.int .i64 t794, .slice Ao30 t809.length co30] 27 (0, 0)) (by (with_reducible repeat (first | refine blk_drewN ?_ _ | refine blk_drew ?_ | refine blk_alloc ?_ _)); exact BK798.out) hb); have n7_ := Aside0.mk (below_step (by repeat (first | (with_reducible first | exact HB.out | apply below_alloc | apply pw_below_drewN | apply below_drew1 | refine below_set ?_ GE785.out | refine below_set ?_ GE798.out) | exact HB.out)) hb); clear HO_4; clear HO_6; clear HO_799001; clear HO817; clear BK785; clear BK798; clear HB; have HO_4 := n0_; have HO_6 := n1_; have HO_799001 := n2_; have HO817 := n3_; have HO820 := n4_; have BK785 := n5_; have BK798 := n6_; have HB := n7_; clear n0_ n1_ n2_ n3_ n4_ n5_ n6_ n7_; (try clear hb); (try clear hb2); (try clear hk); (try clear hi); (try clear ho0); obtain ⟨Ao60, co60, eo60⟩ := Kd.R_slice HO820.out; subst eo60) | ((with_reducible refine gate_callee (f := 30) rfl ?_); refine goesL_ (some 59) rfl rfl Try.func30 (by kernel_rfl) rfl #[.slice Ao60 t818.length co60, .slice Ao33 t791.length co33] rfl (by (try simp only [List.map_toArray, List.map_cons, List.map_nil]); first | done | rfl | (simp only [List.length_drop, List.length_take]; rfl)) ?_; (with_reducible refine (laws_eqIntS.calls kj16 _ _ t818 _ _ t791 true _ ?side1 ?side2 ?side3 ?side4 A49.out).mono ?_); (case side1 => repeat (first | exact (Kd.R_reads' HO820.out).2.2 | (with_reducible refine Kd.C_alloc ?_ _) | (with_reducible refine Kd.C_drewN ?_ _) | (with_reducible refine Kd.C_drew ?_))); (case side2 => exact (Kd.R_reads' HO820.out).2.1); (case side3 => repeat (first | exact (Kd.R_reads' HO_4.out).2.2 | (with_reducible refine Kd.C_alloc ?_ _) | (with_reducible refine Kd.C_drewN ?_ _) | (with_reducible refine Kd.C_drew ?_))); (case side4 => exact (Kd.R_reads' HO_4.out).2.1); rintro e w' ⟨rfl, ⟨nd, rfl⟩⟩; refine ⟨_, rfl, ?_⟩) | ((with_reducible refine gate_callee (f := 34) rfl ?_); refine goesL_ (some 63) rfl rfl Try.func34 (by kernel_rfl) rfl #[.slice Ao32 t812.length co32, .int .i64 1] rfl (by (try simp only [List.map_toArray, List.map_cons, List.map_nil]); first | done | (rw [show t812.length = t799.length from (Kd.R_reads' HO_6.out).1.symm] <;> rfl) | rfl | (simp only [List.length_drop, List.length_take]; rfl)) ?_; (with_reducible refine (laws_heldIntS.calls kj16 _ _ t812 1 t822 _ ?side1 ?side2 A51.out).mono ?_); (case side1 => repeat (first | exact (Kd.R_reads' HO_6.out).2.2 | (with_reducible refine Kd.C_alloc ?_ _) | (with_reducible refine Kd.C_drewN ?_ _) | (with_reducible refine Kd.C_drew ?_))); (case side2 => rw [show t812.length = t799.length from (Kd.R_reads' HO_6.out).1.symm]; exact (Kd.R_reads' HO_6.out).2.1); rintro e w' ⟨rfl, ⟨nd, rfl⟩⟩; refine ⟨_, rfl, ?_⟩))
                        go_ret
                        exact ⟨by first | rfl | (simp [errW_none, errW_some] <;> rfl) | (simp [*, errW_none, errW_some] <;> rfl), by repeat (first | (with_reducible first | exact HB.out | apply below_alloc | apply pw_below_drewN | apply below_drew1 | refine below_set ?_ GE785.out | refine below_set ?_ GE798.out) | exact HB.out)⟩
                      · rw [if_neg c53] at H
                        have c53b0 : (t822 == t811) = false := beq_eq_false_iff_ne.mpr c53
                        have c53b1 : (t822 != t811) = true := bne_iff_ne.mpr c53
                        obtain rfl := Option.some.inj H
                        exact absurd hT.out (by decide)
                  · replace c50 := Bool.eq_false_iff.mpr c50
                    subst c50
                    have H1 : (some false) = some r := by rw [if_neg (show ¬ (false = true) by decide)] at H; exact H
                    clear H
                    have H := H1
                    clear H1
                    obtain rfl := Option.some.inj H
                    exact absurd hT.out (by decide)
                · rw [if_neg c46] at H
                  have c46b0 : (t813 == t811) = false := beq_eq_false_iff_ne.mpr c46
                  have c46b1 : (t813 != t811) = true := bne_iff_ne.mpr c46
                  obtain rfl := Option.some.inj H
                  exact absurd hT.out (by decide)
      · replace c15 := Bool.eq_false_iff.mpr c15
        subst c15
        have H1 : (some false) = some r := by rw [if_neg (show ¬ (false = true) by decide)] at H; exact H
        clear H
        have H := H1
        clear H1
        obtain rfl := Option.some.inj H
        exact absurd hT.out (by decide)
    · replace c12 := Bool.eq_false_iff.mpr c12
      subst c12
      have H1 : (some false) = some r := by rw [if_neg (show ¬ (false = true) by decide)] at H; exact H
      clear H
      have H := H1
      clear H1
      obtain rfl := Option.some.inj H
      exact absurd hT.out (by decide)
end Go.Proofs.Ytaepaekagenfnaa.Pr
end
section
namespace Go.Proofs.Ytaepaekagenfnaa.Gen
open Go.RowKit Go.Proofs.YtaepaekagenfnaaW.PrintWords Go.Proofs.YtaepaekagenfnaaW.PrintMore
theorem w64 {i : Int} (h0 : -9223372036854775808 ≤ i) (h1 : i ≤ 9223372036854775807) : wrap64 i = i := by
  unfold wrap64
  omega
theorem w64s (i : Nat) (h1 : i < 9223372036854775807) : wrap64 ((i : Int) + 1) = ((i + 1 : Nat) : Int) := by
  unfold wrap64
  omega
theorem rd_nat (xs : List Int) (i : Nat) : rd xs (i : Int) = xs.getD i 0 := rfl
theorem count_loop {σ γ : Type} (L : Nat → σ → Int → Option γ) (n : Nat) (step : Nat → σ → σ) (P : Nat → σ → Prop) (K : Nat)
    (hstep : ∀ k i s, K ≤ k → i < n → P i s → L (k + 1) s (i : Int) = L k (step i s) ((i + 1 : Nat) : Int) ∧ P (i + 1) (step i s)) :
    ∀ (d i : Nat) (s : σ) (k : Nat), i + d = n → K + d ≤ k → P i s → ∃ s', L k s (i : Int) = L (k - d) s' (n : Int) ∧ P n s' ∧ s' = (List.range' i d).foldl (fun s j => step j s) s := by
  intro d
  induction d with
  | zero =>
    intro i s k hi hk hP
    obtain rfl : i = n := by omega
    exact ⟨s, by simp, hP, by simp⟩
  | succ d ih =>
    intro i s k hi hk hP
    obtain ⟨k, rfl⟩ : ∃ m, k = m + 1 := ⟨k - 1, by omega⟩
    obtain ⟨h1, h2⟩ := hstep k i s (by omega) (by omega) hP
    obtain ⟨s', h3, h4, h5⟩ := ih (i + 1) (step i s) k (by omega) (by omega) h2
    refine ⟨s', ?_, h4, ?_⟩
    · rw [h1, h3]
      congr 1
      omega
    · rw [h5, List.range'_succ]
      rfl
theorem fill_loop {β γ : Type} (L : Nat → List β → Int → Option γ) (f : Nat → β) (K n : Nat)
    (hstep : ∀ k i ys, K ≤ k → i < n → ys.length = n → L (k + 1) ys (i : Int) = L k (ys.set i (f i)) ((i + 1 : Nat) : Int))
    (ys : List β) (hy : ys.length = n) (k : Nat) (hk : K + n ≤ k) : L k ys 0 = L (k - n) ((List.range n).map f) (n : Int) := by
  obtain ⟨s', h1, h2, _⟩ := count_loop L n (fun i s => s.set i (f i)) (fun i s => s.length = n ∧ ∀ j, j < i → s[j]? = some (f j)) K
    (fun k i s hK hi hP => ⟨hstep k i s hK hi hP.1, by simpa using hP.1, fun j hj => by
      rw [List.getElem?_set]
      by_cases e : i = j
      · subst e
        rw [if_pos rfl, if_pos (by omega)]
      · rw [if_neg e]
        exact hP.2 j (by omega)⟩) n 0 ys k (by omega) hk ⟨hy, fun j hj => by omega⟩
  refine h1.trans ?_
  congr 1
  apply List.ext_getElem?
  intro j
  by_cases hj : j < n
  · rw [h2.2 j hj]
    simp [hj]
  · rw [List.getElem?_eq_none (by omega), List.getElem?_eq_none (by simp; omega)]
theorem map_getD {α β : Type} (xs : List α) (d : α) (g : α → β) : (List.range xs.length).map (fun i => g (xs.getD i d)) = xs.map g := by
  apply List.ext_getElem?
  intro j
  by_cases hj : j < xs.length
  · simp [hj, List.getD]
  · simp [hj]
theorem map_getD' {α : Type} (xs : List α) (d : α) : (List.range xs.length).map (fun i => xs.getD i d) = xs := by
  have := map_getD xs d id
  simpa using this
theorem all_loop (L : Nat → Int → Option Bool) (n : Nat) (p : Nat → Bool) (K : Nat) (last : Bool)
    (hstep : ∀ k i, K ≤ k → i < n → L (k + 1) (i : Int) = if p i = true then L k ((i + 1 : Nat) : Int) else some false)
    (hend : ∀ k, K ≤ k → L (k + 1) (n : Int) = some last) :
    ∀ (d i k : Nat), i + d = n → K + d < k → L k (i : Int) = some ((List.range' i d).all p && last) := by
  intro d
  induction d with
  | zero =>
    intro i k hi hk
    obtain rfl : i = n := by omega
    obtain ⟨k, rfl⟩ : ∃ m, k = m + 1 := ⟨k - 1, by omega⟩
    simp [hend k (by omega)]
  | succ d ih =>
    intro i k hi hk
    obtain ⟨k, rfl⟩ : ∃ m, k = m + 1 := ⟨k - 1, by omega⟩
    rw [hstep k i (by omega) (by omega), List.range'_succ]
    by_cases h : p i = true
    · rw [if_pos h, ih (i + 1) k (by omega) (by omega)]
      simp [h]
    · rw [if_neg h]
      simp [h]
theorem ev_loop {σ γ : Type} (L : Nat → σ → Int → Option γ) (n : Nat) (step : Nat → σ → σ) (P : Nat → σ → Prop) (r : γ)
    (hround : ∀ i s, i < n → P i s → P (i + 1) (step i s) ∧ (Ev (fun k => L k (step i s) ((i + 1 : Nat) : Int)) r → Ev (fun k => L k s (i : Int)) r)) :
    ∀ (d i : Nat) (s : σ), i + d = n → P i s → (P n ((List.range' i d).foldl (fun s j => step j s) s) → Ev (fun k => L k ((List.range' i d).foldl (fun s j => step j s) s) (n : Int)) r) → Ev (fun k => L k s (i : Int)) r := by
  intro d
  induction d with
  | zero =>
    intro i s hi hP h
    obtain rfl : i = n := by omega
    exact h (by simpa using hP)
  | succ d ih =>
    intro i s hi hP h
    obtain ⟨h1, h2⟩ := hround i s (by omega) hP
    refine h2 (ih (i + 1) (step i s) (by omega) h1 ?_)
    rw [List.range'_succ] at h
    exact h
theorem ev_at {γ : Type} {g : Nat → Option γ} {r : γ} (K : Nat) (h : ∀ k, K ≤ k → g k = some r) : Ev g r := ⟨K, h⟩
theorem foldl_append (p : Nat → Bool) (l : List Nat) (acc : List Int) : l.foldl (fun s j => if p j = true then s ++ [(j : Int)] else s) acc = acc ++ (l.filter p).map (fun j : Nat => (j : Int)) := by
  induction l generalizing acc with
  | nil => simp
  | cons a l ih =>
    rw [List.foldl_cons, ih]
    by_cases h : p a = true
    · simp [h]
    · simp [h]
theorem all_yes (l : List Nat) : (l.all fun _ => true) = true := List.all_eq_true.2 (fun _ _ => rfl)
end Go.Proofs.Ytaepaekagenfnaa.Gen
end
section
namespace Go.Proofs.Ytaepaekagenfnaa.Base
open Go.RowKit Go.Proofs.Ytaepaekagenfnaa.Pr Go.Proofs.YtaepaekagenfnaaW.PrintWords Go.Proofs.YtaepaekagenfnaaW.PrintLast Go.Proofs.YtaepaekagenfnaaW.PrintMore
theorem toIntS (xs : List Int) (hn : xs.length ≤ 1048576) (k : Nat) (hk : xs.length < k) : laws_toIntS.f k xs = some xs := by
  unfold laws_toIntS.f
  rw [if_pos (by omega), if_pos (by omega)]
  rw [Gen.fill_loop (fun k ys i => laws_toIntS.l0 k xs ys i) (fun i => xs.getD i 0) 0 xs.length (fun k i ys _ hi hy => by
    simp only [laws_toIntS.l0]
    rw [if_pos (by omega), if_pos (by omega), if_pos (by omega), Gen.w64s i (by omega), Gen.rd_nat]
    simp) _ (by simp) k (by omega), Gen.map_getD']
  obtain ⟨m, hm⟩ : ∃ m, k - xs.length = m + 1 := ⟨k - xs.length - 1, by omega⟩
  rw [hm]
  simp only [laws_toIntS.l0]
  rw [if_neg (by omega)]
theorem eqIntS (xs : List Int) (hn : xs.length ≤ 1048576) (k : Nat) (hk : xs.length < k) : laws_eqIntS.f k xs xs = some true := by
  unfold laws_eqIntS.f
  rw [if_pos rfl]
  have := Gen.all_loop (fun k i => laws_eqIntS.l0 k xs xs i) xs.length (fun _ => true) 0 true (fun k i _ hi => by
    simp only [laws_eqIntS.l0]
    rw [if_pos (by omega), if_pos (by omega), if_pos (by omega), if_pos (by trivial), Gen.w64s i (by omega), if_pos (by trivial)]) (fun k _ => by
    simp only [laws_eqIntS.l0]
    rw [if_neg (by omega)]) xs.length 0 k (by omega) (by omega)
  simpa [Gen.all_yes] using this
end Go.Proofs.Ytaepaekagenfnaa.Base
end
section
namespace Go.Proofs.Ytaepaekagenfnaa.Base
open Go.RowKit Go.Proofs.Ytaepaekagenfnaa.Pr Go.Proofs.YtaepaekagenfnaaW.PrintWords Go.Proofs.YtaepaekagenfnaaW.PrintLast Go.Proofs.YtaepaekagenfnaaW.PrintMore
theorem szIntS (xs : List Int) (left : Int) (hm : xs.length ≤ maxLen) (h1 : left ≤ 1048576) (h0 : 0 ≤ left) : ∃ z, laws_szIntS.f xs left = some z ∧ (z < 0 ∨ (xs.length ≤ 1048576 ∧ 0 ≤ z ∧ z ≤ left)) := by
  unfold maxLen at hm
  unfold laws_szIntS.f
  rw [Gen.w64 (by omega) (by omega)]
  by_cases h : left - (xs.length : Int) < 0
  · exact ⟨-1, by rw [if_pos h], .inl (by omega)⟩
  · exact ⟨_, by rw [if_neg h], .inr ⟨by omega, by omega, by omega⟩⟩
theorem szMatroid (n : Int) (xs : List Int) (left : Int) (hm : xs.length ≤ maxLen) (h1 : left ≤ 1048576) (h0 : 0 ≤ left) : ∃ z, laws_szMatroid.f n xs left = some z ∧ (z < 0 ∨ (xs.length ≤ 1048576 ∧ 0 ≤ z ∧ z ≤ left)) := by
  obtain ⟨z, hz, h⟩ := szIntS xs left hm h1 h0
  unfold laws_szMatroid.f
  rw [hz]
  simp only [Option.bind_some]
  by_cases hn : z < 0
  · exact ⟨-1, by rw [if_pos hn], .inl (by omega)⟩
  · exact ⟨z, by rw [if_neg hn], h⟩
theorem toIntSE (xs : List Int) (hn : xs.length ≤ 1048576) : Ev (fun k => laws_toIntS.f k xs) xs := Gen.ev_at (xs.length + 1) (fun k hk => toIntS xs hn k (by omega))
theorem eqIntSE (xs : List Int) (hn : xs.length ≤ 1048576) : Ev (fun k => laws_eqIntS.f k xs xs) true := Gen.ev_at (xs.length + 1) (fun k hk => eqIntS xs hn k (by omega))
theorem toMatroid (n : Int) (xs : List Int) (hn : xs.length ≤ 1048576) : Ev (fun k => laws_toMatroid.f k n xs) (n, xs) := by
  unfold laws_toMatroid.f
  exact Ev.bind (toIntSE xs hn) (Ev.now _)
theorem eqMatroid (n : Int) (xs : List Int) (hn : xs.length ≤ 1048576) : Ev (fun k => laws_eqMatroid.f k n xs n xs) true := by
  unfold laws_eqMatroid.f
  simp only [if_true]
  exact Ev.bind (eqIntSE xs hn) (Ev.now _)
end Go.Proofs.Ytaepaekagenfnaa.Base
end
section
namespace Go.Proofs.Ytaepaekagenfnaa.Base
open Go.RowKit Go.Proofs.Ytaepaekagenfnaa.Pr Go.Proofs.YtaepaekagenfnaaW.PrintWords Go.Proofs.YtaepaekagenfnaaW.PrintLast Go.Proofs.YtaepaekagenfnaaW.PrintMore
def marks (a : Int) (n : Nat) : List Int := (List.range n).map fun i : Nat => a + (i : Int)
theorem marks_length (a : Int) (n : Nat) : (marks a n).length = n := by simp [marks]
theorem markIntS (xs : List Int) (a : Int) (hn : xs.length ≤ 1048576) (h0 : 0 ≤ a) (h1 : a ≤ 2 ^ 50) : Ev (fun k => laws_markIntS.f k xs a) (a + (xs.length : Int), marks a xs.length) := by
  unfold laws_markIntS.f
  refine Gen.ev_loop (fun k (s : List Int × Int) i => laws_markIntS.l0 k s.1 s.2 i) xs.length (fun i s => (s.1.set i s.2, s.2 + 1)) (fun i s => s.2 = a + (i : Int) ∧ s.1.length = xs.length ∧ ∀ j, j < i → s.1[j]? = some (a + (j : Int))) _ (fun i s hi hP => ⟨?_, fun h => Ev.step (fun k => ?_) h⟩) xs.length 0 (xs, a) (by omega) ⟨by simp, rfl, fun j hj => by omega⟩ (fun hP => Gen.ev_at 1 (fun k hk => ?_))
  · obtain ⟨p1, p2, p3⟩ := hP
    refine ⟨by show s.2 + 1 = _; rw [p1]; push_cast; omega, by simpa using p2, fun j hj => ?_⟩
    show (s.1.set i s.2)[j]? = _
    rw [List.getElem?_set]
    by_cases e : i = j
    · subst e
      rw [if_pos rfl, if_pos (by omega), p1]
    · rw [if_neg e]
      exact p3 j (by omega)
  · obtain ⟨p1, p2, p3⟩ := hP
    simp only [laws_markIntS.l0]
    rw [if_pos (by omega), if_pos (by omega), Gen.w64s i (by omega), Gen.w64 (i := s.2 + 1) (by omega) (by omega)]
    rfl
  · obtain ⟨q, rfl⟩ : ∃ q, k = q + 1 := ⟨k - 1, by omega⟩
    generalize (List.range' 0 xs.length).foldl (fun (s : List Int × Int) j => (s.1.set j s.2, s.2 + 1)) (xs, a) = s at hP ⊢
    obtain ⟨p1, p2, p3⟩ := hP
    simp only [laws_markIntS.l0]
    rw [if_neg (by omega), p1]
    congr 2
    apply List.ext_getElem?
    intro j
    by_cases hj : j < xs.length
    · rw [p3 j hj]
      simp [marks, hj]
    · rw [List.getElem?_eq_none (by omega), List.getElem?_eq_none (by rw [marks_length]; omega)]
theorem heldIntS (a : Int) (n : Nat) (hn : n ≤ 1048576) (h0 : 0 ≤ a) (h1 : a ≤ 2 ^ 50) : Ev (fun k => laws_heldIntS.f k (marks a n) a) (a + (n : Int)) := by
  unfold laws_heldIntS.f
  refine Gen.ev_loop (fun k (s : Int) i => laws_heldIntS.l0 k (marks a n) s i) n (fun i s => s + 1) (fun i s => s = a + (i : Int)) _ (fun i s hi hP => ⟨?_, fun h => Ev.step (fun k => ?_) h⟩) n 0 a (by omega) (by simp) (fun hP => Gen.ev_at 1 (fun k hk => ?_))
  · show s + 1 = _
    rw [hP]; push_cast; omega
  · have hr : rd (marks a n) (i : Int) = s := by
      rw [Gen.rd_nat, hP]
      simp [marks, List.getD, hi]
    simp only [laws_heldIntS.l0]
    rw [if_pos (by rw [marks_length]; omega), if_pos (by omega), if_pos hr, Gen.w64s i (by omega), Gen.w64 (i := s + 1) (by omega) (by omega)]
  · obtain ⟨q, rfl⟩ : ∃ q, k = q + 1 := ⟨k - 1, by omega⟩
    simp only [laws_heldIntS.l0]
    rw [if_neg (by rw [marks_length]; omega), hP]
theorem markMatroid (n : Int) (xs : List Int) (a : Int) (hn : xs.length ≤ 1048576) (h0 : 0 ≤ a) (h1 : a ≤ 2 ^ 50) : Ev (fun k => laws_markMatroid.f k n xs a) (a + (xs.length : Int), marks a xs.length) := by
  unfold laws_markMatroid.f
  exact Ev.bind (markIntS xs a hn h0 h1) (Ev.now _)
end Go.Proofs.Ytaepaekagenfnaa.Base
end
section
namespace Go.Proofs.Ytaepaekagenfnaa.Sets
open Go.RowKit Go.Proofs.YtaepaekagenfnaaW.PrintWords Go.Proofs.YtaepaekagenfnaaW.PrintMore
theorem ev_search {γ : Type} (L : Nat → Int → Option γ) (n : Nat) (p : Nat → Bool) (S : γ → Prop)
    (hyes : ∀ i, i < n → p i = true → ∃ r, S r ∧ Ev (fun k => L k (i : Int)) r)
    (hno : ∀ i, i < n → p i = false → ∀ r, Ev (fun k => L k ((i + 1 : Nat) : Int)) r → Ev (fun k => L k (i : Int)) r) :
    ∀ d i : Nat, i + d = n → ((List.range' i d).any p = true → ∃ r, S r ∧ Ev (fun k => L k (i : Int)) r) ∧ ((List.range' i d).any p = false → ∀ r, Ev (fun k => L k (n : Int)) r → Ev (fun k => L k (i : Int)) r) := by
  intro d
  induction d with
  | zero =>
    intro i hi
    obtain rfl : i = n := by omega
    exact ⟨fun h => by simp at h, fun _ r h => h⟩
  | succ d ih =>
    intro i hi
    obtain ⟨h1, h2⟩ := ih (i + 1) (by omega)
    rw [List.range'_succ, List.any_cons]
    cases hp : p i with
    | true => exact ⟨fun _ => hyes i (by omega) hp, fun h => by simp at h⟩
    | false =>
      refine ⟨fun h => ?_, fun h r hr => hno i (by omega) hp r (h2 (by simpa using h) r hr)⟩
      obtain ⟨r, hr, hE⟩ := h1 (by simpa using h)
      exact ⟨r, hr, hno i (by omega) hp r hE⟩
theorem wraps_i64 (n : Int) (h0 : 0 ≤ n) (h1 : n < 2 ^ 62) : IntKind.i64.wrap n = n := by
  rw [IntKind.wrap_i64]
  omega
theorem and_nat (a b : Nat) (ha : a < 2 ^ 62) (hb : b < 2 ^ 62) : Go.bits .and .i64 (a : Int) (b : Int) = ((a &&& b : Nat) : Int) := (bits_nat .i64 62 (by decide) wraps_i64 a b ha hb).1
theorem or_nat (a b : Nat) (ha : a < 2 ^ 62) (hb : b < 2 ^ 62) : Go.bits .or .i64 (a : Int) (b : Int) = ((a ||| b : Nat) : Int) := (bits_nat .i64 62 (by decide) wraps_i64 a b ha hb).2
def diff (a b : Nat) : Nat := a ^^^ (a &&& b)
theorem diff_bit (a b i : Nat) : (diff a b).testBit i = (a.testBit i && !b.testBit i) := by
  unfold diff
  rw [Nat.testBit_xor, Nat.testBit_and]
  cases a.testBit i <;> cases b.testBit i <;> rfl
theorem diff_lt {a b : Nat} {n : Nat} (ha : a < 2 ^ n) : diff a b < 2 ^ n := by
  apply Nat.lt_pow_two_of_testBit
  intro i hi
  rw [diff_bit, Nat.testBit_lt_two_pow (Nat.lt_of_lt_of_le ha (Nat.pow_le_pow_right (by decide) hi))]
  rfl
theorem andNot_nat (a b : Nat) (ha : a < 2 ^ 62) : Go.bits .andNot .i64 (a : Int) (b : Int) = ((diff a b : Nat) : Int) := by
  have h64 : (2 : Nat) ^ 62 ≤ 2 ^ 64 := by decide
  have key : (BitVec.ofNat 64 a &&& ~~~(BitVec.ofNat 64 b)).toNat = diff a b := by
    apply Nat.eq_of_testBit_eq
    intro i
    rw [diff_bit, BitVec.testBit_toNat, BitVec.getLsbD_and, BitVec.getLsbD_not, BitVec.getLsbD_ofNat, BitVec.getLsbD_ofNat]
    by_cases hi : i < 64
    · simp [hi]
    · have : a.testBit i = false := Nat.testBit_lt_two_pow (Nat.lt_of_lt_of_le ha (Nat.pow_le_pow_right (by decide) (by omega)))
      simp [hi, this]
  show IntKind.i64.wrap ((BitVec.ofInt 64 (a : Int) &&& ~~~(BitVec.ofInt 64 (b : Int))).toNat : Int) = _
  have e1 : BitVec.ofInt 64 (a : Int) = BitVec.ofNat 64 a := by simp
  have e2 : BitVec.ofInt 64 (b : Int) = BitVec.ofNat 64 b := by simp
  rw [e1, e2, key]
  have := diff_lt (b := b) ha
  exact wraps_i64 _ (by omega) (by exact_mod_cast this)
theorem shl_nat (e : Nat) (he : e < 62) : shl .i64 1 (e : Int) = ((2 ^ e : Nat) : Int) := by
  unfold shl
  have h1 : min ((e : Int)).toNat IntKind.i64.bits = e := by
    show min e 64 = e
    omega
  rw [h1, Int.one_mul]
  have h2 : (2 : Nat) ^ e < 2 ^ 62 := Nat.pow_lt_pow_right (by decide) he
  rw [wraps_i64 _ (by exact_mod_cast Nat.zero_le _) (by exact_mod_cast h2)]
  push_cast
  rfl
theorem shr_bit (a e : Nat) (he : e < 62) (ha : a < 2 ^ 62) : ((Go.bits .and .i64 (shr .i64 (a : Int) (e : Int)) 1) == 1) = a.testBit e := by
  unfold shr
  have h1 : min ((e : Int)).toNat IntKind.i64.bits = e := by
    show min e 64 = e
    omega
  rw [h1]
  have h2 : ((a : Int) / 2 ^ e) = ((a / 2 ^ e : Nat) : Int) := by push_cast; rfl
  have h3 : a / 2 ^ e < 2 ^ 62 := Nat.lt_of_le_of_lt (Nat.div_le_self _ _) ha
  rw [h2, show (1 : Int) = ((1 : Nat) : Int) from rfl, and_nat _ 1 h3 (by decide), Nat.testBit_eq_decide_div_mod_eq, Nat.and_one_is_mod]
  by_cases h : a / 2 ^ e % 2 = 1
  · simp [h]
  · have h4 : a / 2 ^ e % 2 = 0 := by omega
    simp [h4]
theorem bit_far {a n e : Nat} (ha : a < 2 ^ n) (he : n ≤ e) : a.testBit e = false := Nat.testBit_lt_two_pow (Nat.lt_of_lt_of_le ha (Nat.pow_le_pow_right (by decide) he))
theorem swap_eq : ∀ a, a < 256 → ∀ e, e < 8 → ∀ f, f < 8 → a.testBit e = true → a.testBit f = false → diff a (2 ^ e) ||| 2 ^ f = a - 2 ^ e + 2 ^ f := by decide +kernel
theorem bit_le : ∀ a, a < 256 → ∀ e, e < 8 → a.testBit e = true → 2 ^ e ≤ a := by decide +kernel
def elems (s : Nat) : List Nat := (List.range' 0 8).filter fun j => s.testBit j
def exch (l : List Nat) (a b e : Nat) : Bool := (List.range' 0 8).any fun f => b.testBit f && !a.testBit f && l.contains (a - 2 ^ e + 2 ^ f)
def fails (l : List Nat) : Bool := l.any fun a => l.any fun b => (List.range' 0 8).any fun e => a.testBit e && !b.testBit e && !exch l a b e
def ints (l : List Nat) : List Int := l.map fun j : Nat => (j : Int)
theorem ints_length (l : List Nat) : (ints l).length = l.length := by simp [ints]
theorem ints_getD (l : List Nat) (i : Nat) : (ints l).getD i 0 = ((l.getD i 0 : Nat) : Int) := by
  by_cases h : i < l.length
  · simp [ints, List.getD, h]
  · simp [ints, List.getD, h]
theorem ints_rd (l : List Nat) (i : Nat) : rd (ints l) (i : Int) = ((l.getD i 0 : Nat) : Int) := by rw [Gen.rd_nat, ints_getD]
theorem any_index {α : Type} (l : List α) (d : α) (p : α → Bool) : ((List.range' 0 l.length).any fun i => p (l.getD i d)) = l.any p := by
  rw [Bool.eq_iff_iff]
  simp only [List.any_eq_true]
  constructor
  · rintro ⟨i, hi, hp⟩
    have hlt : i < l.length := by have := List.mem_range'_1.1 hi; omega
    refine ⟨l[i], List.getElem_mem hlt, ?_⟩
    simpa [List.getD, hlt] using hp
  · rintro ⟨x, hx, hp⟩
    obtain ⟨i, hi, rfl⟩ := List.getElem_of_mem hx
    exact ⟨i, List.mem_range'_1.2 (by omega), by simpa [List.getD, hi] using hp⟩
theorem any_more (p : Nat → Bool) (m d : Nat) (h : ∀ j, m ≤ j → p j = false) : (List.range' 0 (m + d)).any p = (List.range' 0 m).any p := by
  rw [← List.range'_append_1, List.any_append]
  have : (List.range' (0 + m) d).any p = false := by
    rw [List.any_eq_false]
    intro j hj
    have := List.mem_range'_1.1 hj
    rw [h j (by omega)]
    decide
  rw [this, Bool.or_false]
theorem range8 (m : Nat) (hm : m ≤ 8) (p : Nat → Bool) (h : ∀ j, m ≤ j → p j = false) : (List.range' 0 m).any p = (List.range' 0 8).any p := by
  have := any_more p m (8 - m) h
  rw [show m + (8 - m) = 8 by omega] at this
  exact this.symm
theorem elems_any (s : Nat) (q : Nat → Bool) : (elems s).any q = (List.range' 0 8).any fun j => s.testBit j && q j := by
  unfold elems
  rw [List.any_filter]
theorem elems_lt {s j : Nat} (h : j ∈ elems s) : j < 8 ∧ s.testBit j = true := by
  unfold elems at h
  obtain ⟨h1, h2⟩ := List.mem_filter.1 h
  have := List.mem_range'_1.1 h1
  exact ⟨by omega, h2⟩
theorem elems_length (s : Nat) : (elems s).length ≤ 8 := by
  unfold elems
  exact Nat.le_trans (List.length_filter_le _ _) (by simp)
theorem pow_le_256 {m : Nat} (hm : m ≤ 8) : (2 : Nat) ^ m ≤ 256 := Nat.pow_le_pow_right (n := 2) (by decide) hm
theorem swap_le : ∀ a, a < 256 → ∀ e, e < 8 → ∀ f, f < 8 → a.testBit e = true → a.testBit f = false → a - 2 ^ e + 2 ^ f < 256 := by decide +kernel
theorem getD_mem {α : Type} (l : List α) (d : α) (i : Nat) (h : i < l.length) : l.getD i d ∈ l := by
  have : l.getD i d = l[i] := by simp [List.getD, h]
  rw [this]
  exact List.getElem_mem h
end Go.Proofs.Ytaepaekagenfnaa.Sets
end
section
namespace Go.Proofs.Ytaepaekagenfnaa.Mat
open Go.RowKit Go.Proofs.Ytaepaekagenfnaa.Pr Go.Proofs.Ytaepaekagenfnaa.Sets Go.Proofs.YtaepaekagenfnaaW.PrintWords Go.Proofs.YtaepaekagenfnaaW.PrintLast Go.Proofs.YtaepaekagenfnaaW.PrintMore
set_option linter.unusedVariables false
def isSet (n s : Int) : Bool := decide (0 ≤ n ∧ n ≤ 8 ∧ 0 ≤ s ∧ s < 2 ^ n.toNat)
theorem implIsSet (n s : Int) : impl_IsSet.f n s = some (isSet n s) := by
  unfold impl_IsSet.f impl_isSize.f isSet
  by_cases h0 : n ≥ 0
  · rw [if_pos h0]
    simp only [Option.bind_some]
    by_cases h1 : n ≤ 8
    · rw [if_pos (decide_eq_true h1)]
      obtain ⟨m, rfl⟩ : ∃ m : Nat, n = m := ⟨n.toNat, by omega⟩
      by_cases h2 : s ≥ 0
      · rw [if_pos h2, if_pos h0, shl_nat m (by omega)]
        congr 1
        rw [decide_eq_decide]
        simp only [Int.toNat_natCast]
        push_cast
        omega
      · rw [if_neg h2, decide_eq_false (by omega)]
    · rw [if_neg (by rw [decide_eq_true_eq]; exact h1), decide_eq_false (by omega)]
  · rw [if_neg h0]
    simp only [Option.bind_some]
    rw [if_neg (by decide), decide_eq_false (by omega)]
theorem specIsSet (n s : Int) : spec_IsSet.f n s = some (isSet n s) := by
  unfold spec_IsSet.f spec_l1In.f isSet
  by_cases h0 : n ≥ 0
  · rw [if_pos h0]
    simp only [Option.bind_some]
    by_cases h1 : n ≤ 8
    · rw [if_pos (decide_eq_true h1)]
      obtain ⟨m, rfl⟩ : ∃ m : Nat, n = m := ⟨n.toNat, by omega⟩
      have hu : IntKind.u64.wrap (m : Int) = m := by
        have : m = 0 ∨ m = 1 ∨ m = 2 ∨ m = 3 ∨ m = 4 ∨ m = 5 ∨ m = 6 ∨ m = 7 ∨ m = 8 := by omega
        rcases this with rfl | rfl | rfl | rfl | rfl | rfl | rfl | rfl | rfl <;> decide +kernel
      have hp := pow_le_256 (m := m) (by omega)
      have hp1 : 1 ≤ 2 ^ m := Nat.one_le_two_pow
      rw [hu, if_pos h0, shl_nat m (by omega), Gen.w64 (by omega) (by omega)]
      by_cases h2 : s ≥ 0
      · rw [if_pos h2]
        simp only [Option.bind_some]
        congr 1
        rw [decide_eq_decide]
        simp only [Int.toNat_natCast]
        have : ((2 : Int) ^ m) = ((2 ^ m : Nat) : Int) := by push_cast; rfl
        rw [this]
        omega
      · rw [if_neg h2]
        simp only [Option.bind_some]
        rw [decide_eq_false (by omega)]
    · rw [if_neg (by rw [decide_eq_true_eq]; exact h1), decide_eq_false (by omega)]
  · rw [if_neg h0]
    simp only [Option.bind_some]
    rw [if_neg (by decide), decide_eq_false (by omega)]
def fam (n : Int) (l : List Int) : Bool := ((List.range' 0 l.length).all fun i => isSet n (l.getD i 0) && (decide (i = 0) || decide (l.getD (i - 1) 0 < l.getD i 0))) && decide (0 ≤ n ∧ n ≤ 8)
theorem implFamily (n : Int) (l : List Int) (hn : l.length ≤ 1048576) (k : Nat) (hk : l.length < k) : impl_IsFamily.f k n l = some (fam n l) := by
  unfold impl_IsFamily.f fam
  refine Gen.all_loop (fun k i => impl_IsFamily.l0 k n l l (l.length : Int) i) l.length (fun i => isSet n (l.getD i 0) && (decide (i = 0) || decide (l.getD (i - 1) 0 < l.getD i 0))) 0 (decide (0 ≤ n ∧ n ≤ 8)) (fun k i _ hi => ?_) (fun k _ => ?_) l.length 0 k (by omega) (by omega)
  · simp only [impl_IsFamily.l0]
    rw [if_pos (by omega), if_pos (by omega), if_pos (by omega), implIsSet, Gen.rd_nat]
    simp only [Option.bind_some]
    cases isSet n (l.getD i 0) with
    | false => rfl
    | true =>
      rw [if_pos rfl, Gen.w64s i (by omega)]
      by_cases h0 : i = 0
      · subst h0
        rw [if_neg (by decide), if_pos (by rfl)]
      · rw [if_pos (by omega), Gen.w64 (by omega) (by omega), show (i : Int) - 1 = ((i - 1 : Nat) : Int) by omega, if_pos (by omega), if_pos (by omega), Gen.rd_nat]
        by_cases h1 : l.getD i 0 ≤ l.getD (i - 1) 0
        · rw [if_pos h1, decide_eq_false h0, decide_eq_false (by omega)]
          rfl
        · rw [if_neg h1, decide_eq_false h0, decide_eq_true (by omega)]
          rfl
  · simp only [impl_IsFamily.l0]
    rw [if_neg (by omega)]
    unfold impl_isSize.f
    by_cases h0 : n ≥ 0
    · rw [if_pos h0]
      simp only [Option.bind_some]
      congr 1
      rw [decide_eq_decide]
      omega
    · rw [if_neg h0, decide_eq_false (by omega)]
      rfl
theorem specFamily (n : Int) (l : List Int) (hn : l.length ≤ 1048576) (k : Nat) (hk : l.length < k) : spec_IsFamily.f k n l = some (fam n l) := by
  unfold spec_IsFamily.f fam
  refine Gen.all_loop (fun k i => spec_IsFamily.l0 k n l i) l.length (fun i => isSet n (l.getD i 0) && (decide (i = 0) || decide (l.getD (i - 1) 0 < l.getD i 0))) 0 (decide (0 ≤ n ∧ n ≤ 8)) (fun k i _ hi => ?_) (fun k _ => ?_) l.length 0 k (by omega) (by omega)
  · simp only [spec_IsFamily.l0]
    rw [if_pos (by omega), if_pos (by omega), specIsSet, Gen.rd_nat]
    simp only [Option.bind_some]
    cases isSet n (l.getD i 0) with
    | false => rfl
    | true =>
      rw [if_pos rfl, Gen.w64s i (by omega)]
      by_cases h0 : i = 0
      · subst h0
        rw [if_neg (by decide), if_pos (by rfl)]
      · rw [if_pos (by omega), Gen.w64 (by omega) (by omega), show (i : Int) - 1 = ((i - 1 : Nat) : Int) by omega, if_pos (by omega), if_pos (by omega), Gen.rd_nat]
        by_cases h1 : l.getD (i - 1) 0 ≥ l.getD i 0
        · rw [if_pos h1, decide_eq_false h0, decide_eq_false (by omega)]
          rfl
        · rw [if_neg h1, decide_eq_false h0, decide_eq_true (by omega)]
          rfl
  · simp only [spec_IsFamily.l0]
    rw [if_neg (by omega)]
    unfold spec_l1In.f
    by_cases h0 : n ≥ 0
    · rw [if_pos h0]
      simp only [Option.bind_some]
      congr 1
      rw [decide_eq_decide]
      omega
    · rw [if_neg h0, decide_eq_false (by omega)]
      rfl
theorem fam_nat {n : Int} {l : List Int} (h : fam n l = true) : ∃ (m : Nat) (lN : List Nat), n = m ∧ m ≤ 8 ∧ l = ints lN ∧ ∀ s ∈ lN, s < 2 ^ m := by
  unfold fam at h
  rw [Bool.and_eq_true, decide_eq_true_eq] at h
  obtain ⟨hl, h0, h8⟩ := h
  have key : ∀ s ∈ l, 0 ≤ s ∧ s < 2 ^ n.toNat := fun s hs => by
    obtain ⟨i, hi, rfl⟩ := List.getElem_of_mem hs
    have := List.all_eq_true.1 hl i (List.mem_range'_1.2 (by omega))
    rw [Bool.and_eq_true] at this
    have h1 := this.1
    unfold isSet at h1
    rw [decide_eq_true_eq] at h1
    have e : l.getD i 0 = l[i] := by simp [List.getD, hi]
    rw [e] at h1
    exact ⟨h1.2.2.1, h1.2.2.2⟩
  refine ⟨n.toNat, l.map Int.toNat, by omega, by omega, ?_, fun s hs => ?_⟩
  · unfold ints
    rw [List.map_map]
    conv => lhs; rw [← List.map_id l]
    refine List.map_congr_left fun s hs => ?_
    have := (key s hs).1
    show s = ((s.toNat : Nat) : Int)
    omega
  · obtain ⟨x, hx, rfl⟩ := List.mem_map.1 hs
    obtain ⟨h1, h2⟩ := key x hx
    have e : ((2 : Int) ^ n.toNat) = ((2 ^ n.toNat : Nat) : Int) := by push_cast; rfl
    rw [e] at h2
    omega
theorem index (l : List Nat) (x : Nat) (hn : l.length ≤ 1048576) : ∀ (d i k : Nat), i + d = l.length → d < k → ∃ r, slices_Index_int_int.l0 k (ints l) (x : Int) ((ints l).length : Int) (i : Int) = some r ∧ decide (r ≥ 0) = (l.drop i).contains x := by
  intro d
  induction d with
  | zero =>
    intro i k hi hk
    obtain ⟨k, rfl⟩ : ∃ m, k = m + 1 := ⟨k - 1, by omega⟩
    refine ⟨-1, ?_, ?_⟩
    · simp only [slices_Index_int_int.l0]
      rw [if_neg (by rw [ints_length]; omega)]
    · rw [List.drop_of_length_le (by omega)]
      rfl
  | succ d ih =>
    intro i k hi hk
    obtain ⟨k, rfl⟩ : ∃ m, k = m + 1 := ⟨k - 1, by omega⟩
    have hlt : i < l.length := by omega
    simp only [slices_Index_int_int.l0]
    rw [if_pos (by rw [ints_length]; omega), if_pos (by omega), if_pos (by rw [ints_length]; omega), ints_rd, Gen.w64s i (by omega)]
    have hd : l.drop i = l.getD i 0 :: l.drop (i + 1) := by
      rw [List.drop_eq_getElem_cons hlt]
      simp [List.getD, hlt]
    rw [hd]
    by_cases h : x = l.getD i 0
    · refine ⟨i, by rw [if_pos (by omega)], ?_⟩
      rw [← h, List.contains_cons, beq_self_eq_true, Bool.true_or, decide_eq_true (by omega)]
    · obtain ⟨r, h1, h2⟩ := ih (i + 1) k (by omega) (by omega)
      refine ⟨r, by rw [if_neg (by omega)]; exact h1, ?_⟩
      rw [h2, List.contains_cons, beq_eq_false_iff_ne.2 h, Bool.false_or]
theorem implHas (l : List Nat) (x : Nat) (hn : l.length ≤ 1048576) (k : Nat) (hk : l.length < k) : impl_HasSet.f k (ints l) (x : Int) = some (l.contains x) := by
  unfold impl_HasSet.f slices_Contains_int_int.f slices_Index_int_int.f
  obtain ⟨r, h1, h2⟩ := index l x hn l.length 0 k (by omega) hk
  rw [show (0 : Int) = ((0 : Nat) : Int) from rfl, h1]
  simp only [Option.bind_some]
  rw [show ((0 : Nat) : Int) = (0 : Int) from rfl, h2, List.drop_zero]
theorem specHas (l : List Nat) (x : Nat) (hn : l.length ≤ 1048576) (k : Nat) (hk : l.length < k) : spec_HasSet.f k (ints l) (x : Int) = some (l.contains x) := by
  unfold spec_HasSet.f
  have key : ∀ (d i k : Nat), i + d = l.length → d < k → spec_HasSet.l0 k (ints l) (x : Int) (i : Int) = some ((l.drop i).contains x) := by
    intro d
    induction d with
    | zero =>
      intro i k hi hk
      obtain ⟨k, rfl⟩ : ∃ m, k = m + 1 := ⟨k - 1, by omega⟩
      simp only [spec_HasSet.l0]
      rw [if_neg (by rw [ints_length]; omega), List.drop_of_length_le (by omega)]
      rfl
    | succ d ih =>
      intro i k hi hk
      obtain ⟨k, rfl⟩ : ∃ m, k = m + 1 := ⟨k - 1, by omega⟩
      have hlt : i < l.length := by omega
      simp only [spec_HasSet.l0]
      rw [if_pos (by rw [ints_length]; omega), if_pos (by omega), ints_rd, Gen.w64s i (by omega)]
      have hd : l.drop i = l.getD i 0 :: l.drop (i + 1) := by
        rw [List.drop_eq_getElem_cons hlt]
        simp [List.getD, hlt]
      rw [hd, List.contains_cons]
      by_cases h : l.getD i 0 = x
      · rw [if_pos (by omega), ← h, beq_self_eq_true, Bool.true_or]
      · rw [if_neg (by omega), ih (i + 1) k (by omega) (by omega), beq_eq_false_iff_ne.2 (Ne.symm h), Bool.false_or]
  have := key l.length 0 k (by omega) hk
  rw [List.drop_zero] at this
  exact this
theorem implElem (s : Nat) (j : Nat) (hs : s < 256) (hj : j < 8) : impl_HasElement.f (s : Int) (j : Int) = some (s.testBit j) := by
  unfold impl_HasElement.f impl_isAny.f
  rw [if_pos (by omega)]
  simp only [Option.bind_some]
  rw [if_pos (decide_eq_true (by omega)), if_pos (by omega), if_pos (by omega), if_pos (by omega), shr_bit s j (by omega) (by omega)]
theorem foldl_elems (s : Nat) : ((List.range' 0 8).foldl (fun (acc : List Int) (j : Nat) => if s.testBit j = true then acc ++ [(j : Int)] else acc) []) = ints (elems s) := by
  rw [Gen.foldl_append (fun j => s.testBit j)]
  rfl
theorem implElements (s : Nat) (hs : s < 256) : Ev (fun k => impl_ElementsOf.f k (s : Int)) (ints (elems s)) := by
  unfold impl_ElementsOf.f
  refine Gen.ev_loop (fun k s3 i => impl_ElementsOf.l0 k (s : Int) s3 i) 8 (fun j s3 => if s.testBit j = true then s3 ++ [(j : Int)] else s3) (fun i s3 => s3.length ≤ i) _ (fun i s3 hi hP => ⟨?_, fun h => Ev.step (fun k => ?_) h⟩) 8 0 [] rfl (by simp) (fun _ => Gen.ev_at 1 (fun k hk => ?_))
  · by_cases hh : s.testBit i = true
    · rw [if_pos hh]; simp; omega
    · rw [if_neg hh]; omega
  · simp only [impl_ElementsOf.l0]
    rw [if_pos (by omega), implElem s i hs hi]
    simp only [Option.bind_some]
    rw [Gen.w64s i (by omega)]
    by_cases hh : s.testBit i = true
    · rw [if_pos hh, if_pos (by omega), if_pos hh]
    · rw [if_neg hh, if_neg hh]
  · obtain ⟨m, rfl⟩ : ∃ m, k = m + 1 := ⟨k - 1, by omega⟩
    simp only [impl_ElementsOf.l0]
    rw [if_neg (by omega), foldl_elems]
end Go.Proofs.Ytaepaekagenfnaa.Mat
end
section
namespace Go.Proofs.Ytaepaekagenfnaa.Mat
open Go.RowKit Go.Proofs.Ytaepaekagenfnaa.Pr Go.Proofs.Ytaepaekagenfnaa.Sets Go.Proofs.YtaepaekagenfnaaW.PrintWords Go.Proofs.YtaepaekagenfnaaW.PrintLast Go.Proofs.YtaepaekagenfnaaW.PrintMore
set_option linter.unusedVariables false
theorem indexFunc (g : Int → Option Bool) (fs : List Nat) (v : Nat → Bool) (hn : fs.length ≤ 1048576) (hg : ∀ f ∈ fs, g (f : Int) = some (v f)) :
    ∀ (d i k : Nat), i + d = fs.length → d < k → ∃ r, slices_IndexFunc_int_int.l0 g k (ints fs) (i : Int) = some r ∧ decide (r ≥ 0) = (fs.drop i).any v := by
  intro d
  induction d with
  | zero =>
    intro i k hi hk
    obtain ⟨k, rfl⟩ : ∃ m, k = m + 1 := ⟨k - 1, by omega⟩
    refine ⟨-1, ?_, ?_⟩
    · simp only [slices_IndexFunc_int_int.l0]
      rw [if_neg (by rw [ints_length]; omega)]
    · rw [List.drop_of_length_le (by omega)]
      rfl
  | succ d ih =>
    intro i k hi hk
    obtain ⟨k, rfl⟩ : ∃ m, k = m + 1 := ⟨k - 1, by omega⟩
    have hlt : i < fs.length := by omega
    simp only [slices_IndexFunc_int_int.l0]
    rw [if_pos (by rw [ints_length]; omega), if_pos (by omega), ints_rd, hg _ (getD_mem fs 0 i hlt), Gen.w64s i (by omega)]
    simp only [Option.bind_some]
    have hd : fs.drop i = fs.getD i 0 :: fs.drop (i + 1) := by
      rw [List.drop_eq_getElem_cons hlt]
      simp [List.getD, hlt]
    rw [hd, List.any_cons]
    cases hv : v (fs.getD i 0) with
    | true => exact ⟨i, by rw [if_pos rfl], by rw [decide_eq_true (by omega), Bool.true_or]⟩
    | false =>
      obtain ⟨r, h1, h2⟩ := ih (i + 1) k (by omega) (by omega)
      exact ⟨r, by rw [if_neg (by decide)]; exact h1, by rw [h2, Bool.false_or]⟩
theorem containsFunc (g : Int → Option Bool) (fs : List Nat) (v : Nat → Bool) (hn : fs.length ≤ 1048576) (hg : ∀ f ∈ fs, g (f : Int) = some (v f)) (k : Nat) (hk : fs.length < k) :
    slices_ContainsFunc_int_int.f k (ints fs) g = some (fs.any v) := by
  unfold slices_ContainsFunc_int_int.f slices_IndexFunc_int_int.f
  obtain ⟨r, h1, h2⟩ := indexFunc g fs v hn hg fs.length 0 k (by omega) hk
  rw [show (0 : Int) = ((0 : Nat) : Int) from rfl, h1]
  simp only [Option.bind_some]
  rw [show ((0 : Nat) : Int) = (0 : Int) from rfl, h2, List.drop_zero]
theorem swapImpl (l : List Nat) (a e f : Nat) (hn : l.length ≤ 1048576) (ha : a < 256) (he : e < 8) (hf : f < 8) (hae : a.testBit e = true) (haf : a.testBit f = false) (k : Nat) (hk : l.length < k) :
    impl_FirstFailure_1.f k (ints l) (a : Int) (e : Int) (f : Int) = some (l.contains (a - 2 ^ e + 2 ^ f)) := by
  unfold impl_FirstFailure_1.f
  have h1 : (2 : Nat) ^ e < 2 ^ 62 := Nat.pow_lt_pow_right (by decide) (by omega)
  have h2 : (2 : Nat) ^ f < 2 ^ 62 := Nat.pow_lt_pow_right (by decide) (by omega)
  have h3 : diff a (2 ^ e) < 2 ^ 8 := diff_lt (n := 8) (by omega)
  rw [if_pos (by omega), if_pos (by omega), shl_nat e (by omega), shl_nat f (by omega), andNot_nat a _ (by omega), or_nat _ _ (by omega) h2, swap_eq a ha e he f hf hae haf]
  exact implHas l _ hn k hk
theorem exch_elems (l : List Nat) (a b e : Nat) : exch l a b e = (elems (diff b a)).any fun f => l.contains (a - 2 ^ e + 2 ^ f) := by
  rw [elems_any]
  unfold exch
  congr 1
  funext f
  rw [diff_bit]
theorem fails_elems (l : List Nat) : fails l = l.any fun a => l.any fun b => (elems (diff a b)).any fun e => !exch l a b e := by
  unfold fails
  congr 1
  funext a
  congr 1
  funext b
  rw [elems_any]
  congr 1
  funext e
  rw [diff_bit]
theorem implFirst (m : Nat) (hm : m ≤ 8) (l : List Nat) (hl : ∀ s ∈ l, s < 2 ^ m) (hn : l.length ≤ 1048576) (hf : fam (m : Int) (ints l) = true) :
    ∃ x y z, Ev (fun k => impl_FirstFailure.f k (m : Int) (ints l)) (x, y, z, fails l) := by
  have h256 := pow_le_256 hm
  have hlt : ∀ i, i < l.length → l.getD i 0 < 256 := fun i hi => Nat.lt_of_lt_of_le (hl _ (getD_mem l 0 i hi)) h256
  have inner : ∀ x y : Nat, x < l.length → y < l.length → ∀ d i : Nat, i + d = (elems (diff (l.getD x 0) (l.getD y 0))).length → _ := fun x y hx hy =>
    ev_search (fun k z => impl_FirstFailure.l2 k (m : Int) (ints l) (x : Int) ((l.getD x 0 : Nat) : Int) (y : Int) ((l.getD y 0 : Nat) : Int) (ints (elems (diff (l.getD x 0) (l.getD y 0)))) z) (elems (diff (l.getD x 0) (l.getD y 0))).length
      (fun z => !exch l (l.getD x 0) (l.getD y 0) ((elems (diff (l.getD x 0) (l.getD y 0))).getD z 0)) (fun r => r.2.2.2 = true)
      (by
        intro z hz hp
        have ha := hlt x hx
        have hb := hlt y hy
        obtain ⟨he, hbit⟩ := elems_lt (getD_mem _ 0 z hz)
        rw [diff_bit, Bool.and_eq_true] at hbit
        have hl8 := elems_length (diff (l.getD x 0) (l.getD y 0))
        have hd : diff (l.getD y 0) (l.getD x 0) < 2 ^ 8 := diff_lt (n := 8) (by omega)
        refine ⟨(((l.getD x 0 : Nat) : Int), ((l.getD y 0 : Nat) : Int), (((elems (diff (l.getD x 0) (l.getD y 0))).getD z 0 : Nat) : Int), true), rfl, ?_⟩
        refine Ev.step (f := fun k => (impl_ElementsOf.f k (Go.bits .andNot .i64 ((l.getD y 0 : Nat) : Int) ((l.getD x 0 : Nat) : Int))).bind fun fs => ((slices_ContainsFunc_int_int.f k fs (fun f => impl_FirstFailure_1.f k (ints l) ((l.getD x 0 : Nat) : Int) (((elems (diff (l.getD x 0) (l.getD y 0))).getD z 0 : Nat) : Int) f)).bind fun t => (if t = true then (impl_FirstFailure.l2 k (m : Int) (ints l) (x : Int) ((l.getD x 0 : Nat) : Int) (y : Int) ((l.getD y 0 : Nat) : Int) (ints (elems (diff (l.getD x 0) (l.getD y 0)))) ((z + 1 : Nat) : Int)) else (some (((l.getD x 0 : Nat) : Int), ((l.getD y 0 : Nat) : Int), (((elems (diff (l.getD x 0) (l.getD y 0))).getD z 0 : Nat) : Int), true))))) (fun k => ?_) ?_
        · simp only [impl_FirstFailure.l2]
          rw [if_pos (by rw [ints_length]; omega), if_pos (by omega), ints_rd, Gen.w64s z (by omega)]
        · rw [andNot_nat _ _ (by omega)]
          refine Ev.bind (implElements _ (by omega)) ?_
          refine Ev.bind (a := exch l (l.getD x 0) (l.getD y 0) ((elems (diff (l.getD x 0) (l.getD y 0))).getD z 0)) (Gen.ev_at (1048577 + 8) (fun k hk => ?_)) ?_
          · rw [exch_elems]
            refine containsFunc _ _ _ (by have := elems_length (diff (l.getD y 0) (l.getD x 0)); omega) (fun f hf => ?_) k (by have := elems_length (diff (l.getD y 0) (l.getD x 0)); omega)
            obtain ⟨hf8, hfb⟩ := elems_lt hf
            rw [diff_bit, Bool.and_eq_true] at hfb
            exact swapImpl l _ _ _ hn ha he hf8 hbit.1 (by simpa using hfb.2) k (by omega)
          · have hp' : exch l (l.getD x 0) (l.getD y 0) ((elems (diff (l.getD x 0) (l.getD y 0))).getD z 0) = false := by simpa using hp
            rw [hp']
            exact Ev.now _)
      (by
        intro z hz hp r hr
        have ha := hlt x hx
        have hb := hlt y hy
        obtain ⟨he, hbit⟩ := elems_lt (getD_mem _ 0 z hz)
        rw [diff_bit, Bool.and_eq_true] at hbit
        have hl8 := elems_length (diff (l.getD x 0) (l.getD y 0))
        have hd : diff (l.getD y 0) (l.getD x 0) < 2 ^ 8 := diff_lt (n := 8) (by omega)
        refine Ev.step (f := fun k => (impl_ElementsOf.f k (Go.bits .andNot .i64 ((l.getD y 0 : Nat) : Int) ((l.getD x 0 : Nat) : Int))).bind fun fs => ((slices_ContainsFunc_int_int.f k fs (fun f => impl_FirstFailure_1.f k (ints l) ((l.getD x 0 : Nat) : Int) (((elems (diff (l.getD x 0) (l.getD y 0))).getD z 0 : Nat) : Int) f)).bind fun t => (if t = true then (impl_FirstFailure.l2 k (m : Int) (ints l) (x : Int) ((l.getD x 0 : Nat) : Int) (y : Int) ((l.getD y 0 : Nat) : Int) (ints (elems (diff (l.getD x 0) (l.getD y 0)))) ((z + 1 : Nat) : Int)) else (some (((l.getD x 0 : Nat) : Int), ((l.getD y 0 : Nat) : Int), (((elems (diff (l.getD x 0) (l.getD y 0))).getD z 0 : Nat) : Int), true))))) (fun k => ?_) ?_
        · simp only [impl_FirstFailure.l2]
          rw [if_pos (by rw [ints_length]; omega), if_pos (by omega), ints_rd, Gen.w64s z (by omega)]
        · rw [andNot_nat _ _ (by omega)]
          refine Ev.bind (implElements _ (by omega)) ?_
          refine Ev.bind (a := exch l (l.getD x 0) (l.getD y 0) ((elems (diff (l.getD x 0) (l.getD y 0))).getD z 0)) (Gen.ev_at (1048577 + 8) (fun k hk => ?_)) ?_
          · rw [exch_elems]
            refine containsFunc _ _ _ (by have := elems_length (diff (l.getD y 0) (l.getD x 0)); omega) (fun f hf => ?_) k (by have := elems_length (diff (l.getD y 0) (l.getD x 0)); omega)
            obtain ⟨hf8, hfb⟩ := elems_lt hf
            rw [diff_bit, Bool.and_eq_true] at hfb
            exact swapImpl l _ _ _ hn ha he hf8 hbit.1 (by simpa using hfb.2) k (by omega)
          · have hp' : exch l (l.getD x 0) (l.getD y 0) ((elems (diff (l.getD x 0) (l.getD y 0))).getD z 0) = true := by simpa using hp
            rw [hp']
            simp only [if_true]
            exact hr)
  have innerAny : ∀ x y : Nat, ((List.range' 0 (elems (diff (l.getD x 0) (l.getD y 0))).length).any fun z => !exch l (l.getD x 0) (l.getD y 0) ((elems (diff (l.getD x 0) (l.getD y 0))).getD z 0)) = (elems (diff (l.getD x 0) (l.getD y 0))).any fun e => !exch l (l.getD x 0) (l.getD y 0) e := fun x y => any_index (elems (diff (l.getD x 0) (l.getD y 0))) 0 (fun e => !exch l (l.getD x 0) (l.getD y 0) e)
  have middle : ∀ x : Nat, x < l.length → ∀ d i : Nat, i + d = l.length → _ := fun x hx =>
    ev_search (fun k y => impl_FirstFailure.l1 k (m : Int) (ints l) (x : Int) ((l.getD x 0 : Nat) : Int) y) l.length
      (fun y => (elems (diff (l.getD x 0) (l.getD y 0))).any fun e => !exch l (l.getD x 0) (l.getD y 0) e) (fun r => r.2.2.2 = true)
      (by
        intro y hy hp
        have ha := hlt x hx
        obtain ⟨h1, _⟩ := inner x y hx hy (elems (diff (l.getD x 0) (l.getD y 0))).length 0 (by omega)
        rw [innerAny] at h1
        obtain ⟨r, hr, hE⟩ := h1 hp
        refine ⟨r, hr, Ev.step (f := fun k => (impl_ElementsOf.f k (Go.bits .andNot .i64 ((l.getD x 0 : Nat) : Int) ((l.getD y 0 : Nat) : Int))).bind fun es => (impl_FirstFailure.l2 k (m : Int) (ints l) (x : Int) ((l.getD x 0 : Nat) : Int) (y : Int) ((l.getD y 0 : Nat) : Int) es 0)) (fun k => ?_) ?_⟩
        · simp only [impl_FirstFailure.l1]
          rw [if_pos (by rw [ints_length]; omega), if_pos (by omega), ints_rd]
        · rw [andNot_nat _ _ (by omega)]
          have hd : diff (l.getD x 0) (l.getD y 0) < 2 ^ 8 := diff_lt (n := 8) (by omega)
          exact Ev.bind (implElements _ (by omega)) hE)
      (by
        intro y hy hp r hr
        have ha := hlt x hx
        obtain ⟨_, h2⟩ := inner x y hx hy (elems (diff (l.getD x 0) (l.getD y 0))).length 0 (by omega)
        rw [innerAny] at h2
        refine Ev.step (f := fun k => (impl_ElementsOf.f k (Go.bits .andNot .i64 ((l.getD x 0 : Nat) : Int) ((l.getD y 0 : Nat) : Int))).bind fun es => (impl_FirstFailure.l2 k (m : Int) (ints l) (x : Int) ((l.getD x 0 : Nat) : Int) (y : Int) ((l.getD y 0 : Nat) : Int) es 0)) (fun k => ?_) ?_
        · simp only [impl_FirstFailure.l1]
          rw [if_pos (by rw [ints_length]; omega), if_pos (by omega), ints_rd]
        · rw [andNot_nat _ _ (by omega)]
          have hd : diff (l.getD x 0) (l.getD y 0) < 2 ^ 8 := diff_lt (n := 8) (by omega)
          refine Ev.bind (implElements _ (by omega)) (h2 hp r (Ev.step (fun k => ?_) hr))
          simp only [impl_FirstFailure.l2]
          rw [if_neg (by rw [ints_length]; omega), Gen.w64s y (by omega)])
  have middleAny : ∀ x : Nat, ((List.range' 0 l.length).any fun y => (elems (diff (l.getD x 0) (l.getD y 0))).any fun e => !exch l (l.getD x 0) (l.getD y 0) e) = l.any fun b => (elems (diff (l.getD x 0) b)).any fun e => !exch l (l.getD x 0) b e := fun x => any_index l 0 (fun b => (elems (diff (l.getD x 0) b)).any fun e => !exch l (l.getD x 0) b e)
  obtain ⟨o1, o2⟩ := ev_search (fun k x => impl_FirstFailure.l0 k (m : Int) (ints l) x) l.length
      (fun x => l.any fun b => (elems (diff (l.getD x 0) b)).any fun e => !exch l (l.getD x 0) b e) (fun r => r.2.2.2 = true)
      (by
        intro x hx hp
        obtain ⟨h1, _⟩ := middle x hx l.length 0 (by omega)
        rw [middleAny] at h1
        obtain ⟨r, hr, hE⟩ := h1 hp
        refine ⟨r, hr, Ev.step (fun k => ?_) hE⟩
        simp only [impl_FirstFailure.l0]
        rw [if_pos (by rw [ints_length]; omega), if_pos (by omega), ints_rd]
        rfl)
      (by
        intro x hx hp r hr
        obtain ⟨_, h2⟩ := middle x hx l.length 0 (by omega)
        rw [middleAny] at h2
        have h3 := h2 hp r (Ev.step (fun k => by
          simp only [impl_FirstFailure.l1]
          rw [if_neg (by rw [ints_length]; omega), Gen.w64s x (by omega)]) hr)
        refine Ev.step (fun k => ?_) h3
        simp only [impl_FirstFailure.l0]
        rw [if_pos (by rw [ints_length]; omega), if_pos (by omega), ints_rd]
        rfl) l.length 0 (by omega)
  have outerAny : ((List.range' 0 l.length).any fun x => l.any fun b => (elems (diff (l.getD x 0) b)).any fun e => !exch l (l.getD x 0) b e) = fails l := by
    rw [fails_elems]
    exact any_index l 0 (fun a => l.any fun b => (elems (diff a b)).any fun e => !exch l a b e)
  rw [outerAny] at o1 o2
  have start : ∀ r, Ev (fun k => impl_FirstFailure.l0 k (m : Int) (ints l) 0) r → Ev (fun k => impl_FirstFailure.f k (m : Int) (ints l)) r := fun r hr => by
    unfold impl_FirstFailure.f
    refine Ev.bind (Gen.ev_at (l.length + 1) (fun k hk => implFamily (m : Int) (ints l) (by rw [ints_length]; exact hn) k (by rw [ints_length]; omega))) ?_
    rw [hf]
    simp only [if_true]
    exact hr
  cases hfl : fails l with
  | true =>
    obtain ⟨⟨x, y, z, b⟩, hb, hE⟩ := o1 hfl
    simp only at hb
    subst hb
    exact ⟨x, y, z, start _ hE⟩
  | false =>
    refine ⟨0, 0, 0, start _ (o2 hfl _ (Gen.ev_at 1 (fun k hk => ?_)))⟩
    obtain ⟨q, rfl⟩ : ∃ q, k = q + 1 := ⟨k - 1, by omega⟩
    simp only [impl_FirstFailure.l0]
    rw [if_neg (by rw [ints_length]; omega)]
end Go.Proofs.Ytaepaekagenfnaa.Mat
end
section
namespace Go.Proofs.Ytaepaekagenfnaa.Mat
open Go.RowKit Go.Proofs.Ytaepaekagenfnaa.Pr Go.Proofs.Ytaepaekagenfnaa.Sets Go.Proofs.YtaepaekagenfnaaW.PrintWords Go.Proofs.YtaepaekagenfnaaW.PrintLast Go.Proofs.YtaepaekagenfnaaW.PrintMore
set_option linter.unusedVariables false
theorem u64_small (e : Nat) (he : e < 62) : IntKind.u64.wrap (e : Int) = e := by
  unfold IntKind.wrap
  simp only [IntKind.bits, IntKind.signed, Bool.false_and, Bool.false_eq_true, if_false]
  omega
theorem l2Has (s e : Nat) (hs : s < 256) (he : e < 8) : spec_l2Has.f (s : Int) (e : Int) = some (s.testBit e) := by
  unfold spec_l2Has.f
  rw [u64_small e (by omega), if_pos (by omega), shr_bit s e (by omega) (by omega)]
theorem specExchange (m : Nat) (hm : m ≤ 8) (l : List Nat) (hn : l.length ≤ 1048576) (a b e : Nat) (ha : a < 256) (hb : b < 2 ^ m) (he : e < 8) (hae : a.testBit e = true) : Ev (fun k => spec_l4Exchange.f k (m : Int) (ints l) (a : Int) (b : Int) (e : Int)) (exch l a b e) := by
  have h256 := pow_le_256 hm
  unfold spec_l4Exchange.f
  have hle := bit_le a ha e he hae
  have key : ∀ f : Nat, f < m → a.testBit f = false → wrap64 ((wrap64 ((a : Int) - ((2 ^ e : Nat) : Int))) + ((2 ^ f : Nat) : Int)) = ((a - 2 ^ e + 2 ^ f : Nat) : Int) := fun f hf haf => by
    have h1 := swap_le a ha e he f (by omega) hae haf
    have h2 : 2 ^ f ≤ 256 := pow_le_256 (by omega)
    clear hae
    generalize (2 : Nat) ^ e = P at *
    generalize (2 : Nat) ^ f = Q at *
    rw [Gen.w64 (i := (a : Int) - (P : Int)) (by omega) (by omega), Gen.w64 (by omega) (by omega)]
    omega
  obtain ⟨o1, o2⟩ := ev_search (fun k f => spec_l4Exchange.l0 k (a : Int) (b : Int) (e : Int) f (m : Int) (ints l)) m (fun f => b.testBit f && !a.testBit f && l.contains (a - 2 ^ e + 2 ^ f)) (fun r => r = true)
    (by
      intro f hf hp
      rw [Bool.and_eq_true, Bool.and_eq_true] at hp
      obtain ⟨⟨h1, h2⟩, h3⟩ := hp
      have h2' : a.testBit f = false := by simpa using h2
      refine ⟨true, rfl, Gen.ev_at (l.length + 2) (fun k hk => ?_)⟩
      obtain ⟨q, rfl⟩ : ∃ q, k = q + 1 := ⟨k - 1, by omega⟩
      simp only [spec_l4Exchange.l0]
      rw [if_pos (by omega), l2Has b f (by omega) (by omega), h1]
      simp only [Option.bind_some, if_true]
      rw [l2Has a f ha (by omega), h2']
      simp only [Option.bind_some, Bool.false_eq_true, if_false]
      rw [u64_small e (by omega), u64_small f (by omega), if_pos (by omega), if_pos (by omega), shl_nat e (by omega), shl_nat f (by omega), key f hf h2', specHas l _ hn q (by omega), h3]
      rfl)
    (by
      intro f hf hp r hr
      by_cases h1 : b.testBit f = true
      · by_cases h2 : a.testBit f = true
        · refine Ev.step (fun k => ?_) hr
          simp only [spec_l4Exchange.l0]
          rw [if_pos (by omega), l2Has b f (by omega) (by omega), h1]
          simp only [Option.bind_some, if_true]
          rw [l2Has a f ha (by omega), h2]
          simp only [Option.bind_some, if_true]
          rw [Gen.w64s f (by omega)]
        · have h2' : a.testBit f = false := by simpa using h2
          have h3 : l.contains (a - 2 ^ e + 2 ^ f) = false := by
            rw [h1, h2'] at hp
            simpa using hp
          refine Ev.step (f := fun k => (spec_HasSet.f k (ints l) ((a - 2 ^ e + 2 ^ f : Nat) : Int)).bind fun t => (if t = true then (some true) else (spec_l4Exchange.l0 k (a : Int) (b : Int) (e : Int) ((f + 1 : Nat) : Int) (m : Int) (ints l)))) (fun k => ?_) ?_
          · simp only [spec_l4Exchange.l0]
            rw [if_pos (by omega), l2Has b f (by omega) (by omega), h1]
            simp only [Option.bind_some, if_true]
            rw [l2Has a f ha (by omega), h2']
            simp only [Option.bind_some, Bool.false_eq_true, if_false]
            rw [u64_small e (by omega), u64_small f (by omega), if_pos (by omega), if_pos (by omega), shl_nat e (by omega), shl_nat f (by omega), key f hf h2', Gen.w64s f (by omega)]
          · refine Ev.bind (Gen.ev_at (l.length + 1) (fun k hk => specHas l _ hn k (by omega))) ?_
            rw [h3]
            exact hr
      · have h1' : b.testBit f = false := by simpa using h1
        refine Ev.step (fun k => ?_) hr
        simp only [spec_l4Exchange.l0]
        rw [if_pos (by omega), l2Has b f (by omega) (by omega), h1']
        simp only [Option.bind_some, Bool.false_eq_true, if_false]
        rw [Gen.w64s f (by omega)]) m 0 (by omega)
  have e8 : ((List.range' 0 m).any fun f => b.testBit f && !a.testBit f && l.contains (a - 2 ^ e + 2 ^ f)) = exch l a b e := range8 m hm _ (fun j hj => by rw [bit_far hb hj]; rfl)
  rw [e8] at o1 o2
  cases hx : exch l a b e with
  | true =>
    obtain ⟨r, rfl, hE⟩ := o1 hx
    exact hE
  | false =>
    refine o2 hx _ (Gen.ev_at 1 (fun k hk => ?_))
    obtain ⟨q, rfl⟩ : ∃ q, k = q + 1 := ⟨k - 1, by omega⟩
    simp only [spec_l4Exchange.l0]
    rw [if_neg (by omega)]
theorem specFirst (m : Nat) (hm : m ≤ 8) (l : List Nat) (hl : ∀ s ∈ l, s < 2 ^ m) (hn : l.length ≤ 1048576) (hf : fam (m : Int) (ints l) = true) :
    ∃ x y z, Ev (fun k => spec_FirstFailure.f k (m : Int) (ints l)) (x, y, z, fails l) := by
  have h256 := pow_le_256 hm
  have hlt : ∀ i, i < l.length → l.getD i 0 < 256 := fun i hi => Nat.lt_of_lt_of_le (hl _ (getD_mem l 0 i hi)) h256
  have hltm : ∀ i, i < l.length → l.getD i 0 < 2 ^ m := fun i hi => hl _ (getD_mem l 0 i hi)
  have round : ∀ x y z : Nat, x < l.length → y < l.length → z < m → ∀ r, (((l.getD x 0).testBit z && !(l.getD y 0).testBit z && !exch l (l.getD x 0) (l.getD y 0) z) = true → r.2.2.2 = true → r = (((l.getD x 0 : Nat) : Int), ((l.getD y 0 : Nat) : Int), (z : Int), true) → Ev (fun k => spec_FirstFailure.l2 k (x : Int) (y : Int) (z : Int) (m : Int) (ints l)) r) ∧
      (((l.getD x 0).testBit z && !(l.getD y 0).testBit z && !exch l (l.getD x 0) (l.getD y 0) z) = false → Ev (fun k => spec_FirstFailure.l2 k (x : Int) (y : Int) ((z + 1 : Nat) : Int) (m : Int) (ints l)) r → Ev (fun k => spec_FirstFailure.l2 k (x : Int) (y : Int) (z : Int) (m : Int) (ints l)) r) := by
    intro x y z hx hy hz r
    have ha := hlt x hx
    have hb := hlt y hy
    have unf : ∀ k, spec_FirstFailure.l2 (k + 1) (x : Int) (y : Int) (z : Int) (m : Int) (ints l) = (if (l.getD x 0).testBit z = true then (if (l.getD y 0).testBit z = true then spec_FirstFailure.l2 k (x : Int) (y : Int) ((z + 1 : Nat) : Int) (m : Int) (ints l) else ((spec_l4Exchange.f k (m : Int) (ints l) ((l.getD x 0 : Nat) : Int) ((l.getD y 0 : Nat) : Int) (z : Int)).bind fun t => (if t = true then spec_FirstFailure.l2 k (x : Int) (y : Int) ((z + 1 : Nat) : Int) (m : Int) (ints l) else some (((l.getD x 0 : Nat) : Int), ((l.getD y 0 : Nat) : Int), (z : Int), true)))) else spec_FirstFailure.l2 k (x : Int) (y : Int) ((z + 1 : Nat) : Int) (m : Int) (ints l)) := fun k => by
      simp only [spec_FirstFailure.l2]
      rw [if_pos (by omega), if_pos (by omega), if_pos (by rw [ints_length]; omega), if_pos (by omega), if_pos (by rw [ints_length]; omega), ints_rd, ints_rd, l2Has _ z ha (by omega)]
      simp only [Option.bind_some]
      rw [l2Has _ z hb (by omega)]
      simp only [Option.bind_some]
      rw [Gen.w64s z (by omega)]
    cases h1 : (l.getD x 0).testBit z with
    | false =>
      refine ⟨fun h => by simp at h, fun _ hr => Ev.step (fun k => ?_) hr⟩
      rw [unf, h1, if_neg (by decide)]
    | true =>
      cases h2 : (l.getD y 0).testBit z with
      | true =>
        refine ⟨fun h => by simp at h, fun _ hr => Ev.step (fun k => ?_) hr⟩
        rw [unf, h1, h2, if_pos rfl, if_pos rfl]
      | false =>
        have hE := specExchange m hm l hn (l.getD x 0) (l.getD y 0) z ha (hltm y hy) (by omega) h1
        cases h3 : exch l (l.getD x 0) (l.getD y 0) z with
        | true =>
          rw [h3] at hE
          refine ⟨fun h => by simp at h, fun _ hr => Ev.step (fun k => ?_) (Ev.bind hE (f := fun k t => (if t = true then spec_FirstFailure.l2 k (x : Int) (y : Int) ((z + 1 : Nat) : Int) (m : Int) (ints l) else some (((l.getD x 0 : Nat) : Int), ((l.getD y 0 : Nat) : Int), (z : Int), true))) (by simp only [if_true]; exact hr))⟩
          rw [unf, h1, h2, if_pos rfl, if_neg (by decide)]
        | false =>
          rw [h3] at hE
          refine ⟨fun _ _ e => ?_, fun h => by simp at h⟩
          subst e
          refine Ev.step (fun k => ?_) (Ev.bind hE (f := fun k t => (if t = true then spec_FirstFailure.l2 k (x : Int) (y : Int) ((z + 1 : Nat) : Int) (m : Int) (ints l) else some (((l.getD x 0 : Nat) : Int), ((l.getD y 0 : Nat) : Int), (z : Int), true))) (by simp only [Bool.false_eq_true, if_false]; exact Ev.now _))
          rw [unf, h1, h2, if_pos rfl, if_neg (by decide)]
  have inner : ∀ x y : Nat, x < l.length → y < l.length → ∀ d i : Nat, i + d = m → _ := fun x y hx hy =>
    ev_search (fun k z => spec_FirstFailure.l2 k (x : Int) (y : Int) z (m : Int) (ints l)) m
      (fun z => (l.getD x 0).testBit z && !(l.getD y 0).testBit z && !exch l (l.getD x 0) (l.getD y 0) z) (fun r => r.2.2.2 = true)
      (fun z hz hp => ⟨_, rfl, (round x y z hx hy hz (((l.getD x 0 : Nat) : Int), ((l.getD y 0 : Nat) : Int), (z : Int), true)).1 hp rfl rfl⟩)
      (fun z hz hp r hr => (round x y z hx hy hz r).2 hp hr)
  have innerAny : ∀ x y : Nat, x < l.length → ((List.range' 0 m).any fun z => (l.getD x 0).testBit z && !(l.getD y 0).testBit z && !exch l (l.getD x 0) (l.getD y 0) z) = (List.range' 0 8).any fun e => (l.getD x 0).testBit e && !(l.getD y 0).testBit e && !exch l (l.getD x 0) (l.getD y 0) e := fun x y hx => range8 m hm _ (fun j hj => by rw [bit_far (hltm x hx) hj]; rfl)
  have middle : ∀ x : Nat, x < l.length → ∀ d i : Nat, i + d = l.length → _ := fun x hx =>
    ev_search (fun k y => spec_FirstFailure.l1 k (x : Int) y (m : Int) (ints l)) l.length
      (fun y => (List.range' 0 8).any fun e => (l.getD x 0).testBit e && !(l.getD y 0).testBit e && !exch l (l.getD x 0) (l.getD y 0) e) (fun r => r.2.2.2 = true)
      (by
        intro y hy hp
        obtain ⟨h1, _⟩ := inner x y hx hy m 0 (by omega)
        rw [innerAny x y hx] at h1
        obtain ⟨r, hr, hE⟩ := h1 hp
        refine ⟨r, hr, Ev.step (fun k => ?_) hE⟩
        simp only [spec_FirstFailure.l1]
        rw [if_pos (by rw [ints_length]; omega)]
        rfl)
      (by
        intro y hy hp r hr
        obtain ⟨_, h2⟩ := inner x y hx hy m 0 (by omega)
        rw [innerAny x y hx] at h2
        refine Ev.step (fun k => ?_) (h2 hp r (Ev.step (fun k => by
          simp only [spec_FirstFailure.l2]
          rw [if_neg (by omega), Gen.w64s y (by omega)]) hr))
        simp only [spec_FirstFailure.l1]
        rw [if_pos (by rw [ints_length]; omega)]
        rfl)
  have middleAny : ∀ x : Nat, ((List.range' 0 l.length).any fun y => (List.range' 0 8).any fun e => (l.getD x 0).testBit e && !(l.getD y 0).testBit e && !exch l (l.getD x 0) (l.getD y 0) e) = l.any fun b => (List.range' 0 8).any fun e => (l.getD x 0).testBit e && !b.testBit e && !exch l (l.getD x 0) b e := fun x => any_index l 0 (fun b => (List.range' 0 8).any fun e => (l.getD x 0).testBit e && !b.testBit e && !exch l (l.getD x 0) b e)
  obtain ⟨o1, o2⟩ := ev_search (fun k x => spec_FirstFailure.l0 k x (m : Int) (ints l)) l.length
      (fun x => l.any fun b => (List.range' 0 8).any fun e => (l.getD x 0).testBit e && !b.testBit e && !exch l (l.getD x 0) b e) (fun r => r.2.2.2 = true)
      (by
        intro x hx hp
        obtain ⟨h1, _⟩ := middle x hx l.length 0 (by omega)
        rw [middleAny] at h1
        obtain ⟨r, hr, hE⟩ := h1 hp
        refine ⟨r, hr, Ev.step (fun k => ?_) hE⟩
        simp only [spec_FirstFailure.l0]
        rw [if_pos (by rw [ints_length]; omega)]
        rfl)
      (by
        intro x hx hp r hr
        obtain ⟨_, h2⟩ := middle x hx l.length 0 (by omega)
        rw [middleAny] at h2
        refine Ev.step (fun k => ?_) (h2 hp r (Ev.step (fun k => by
          simp only [spec_FirstFailure.l1]
          rw [if_neg (by rw [ints_length]; omega), Gen.w64s x (by omega)]) hr))
        simp only [spec_FirstFailure.l0]
        rw [if_pos (by rw [ints_length]; omega)]
        rfl) l.length 0 (by omega)
  have outerAny : ((List.range' 0 l.length).any fun x => l.any fun b => (List.range' 0 8).any fun e => (l.getD x 0).testBit e && !b.testBit e && !exch l (l.getD x 0) b e) = fails l := by
    unfold fails
    exact any_index l 0 (fun a => l.any fun b => (List.range' 0 8).any fun e => a.testBit e && !b.testBit e && !exch l a b e)
  rw [outerAny] at o1 o2
  have start : ∀ r, Ev (fun k => spec_FirstFailure.l0 k 0 (m : Int) (ints l)) r → Ev (fun k => spec_FirstFailure.f k (m : Int) (ints l)) r := fun r hr => by
    unfold spec_FirstFailure.f
    refine Ev.bind (Gen.ev_at (l.length + 1) (fun k hk => specFamily (m : Int) (ints l) (by rw [ints_length]; exact hn) k (by rw [ints_length]; omega))) ?_
    rw [hf]
    simp only [if_true]
    exact hr
  cases hfl : fails l with
  | true =>
    obtain ⟨⟨x, y, z, b⟩, hb, hE⟩ := o1 hfl
    simp only at hb
    subst hb
    exact ⟨x, y, z, start _ hE⟩
  | false =>
    refine ⟨0, 0, 0, start _ (o2 hfl _ (Gen.ev_at 1 (fun k hk => ?_)))⟩
    obtain ⟨q, rfl⟩ : ∃ q, k = q + 1 := ⟨k - 1, by omega⟩
    simp only [spec_FirstFailure.l0]
    rw [if_neg (by rw [ints_length]; omega)]
def isMat (n : Int) (l : List Int) : Bool := fam n l && decide (0 < l.length) && !fails (l.map Int.toNat)
theorem toNat_ints (l : List Nat) : (ints l).map Int.toNat = l := by
  unfold ints
  rw [List.map_map]
  conv => rhs; rw [← List.map_id l]
  exact List.map_congr_left fun x _ => by simp
theorem implMat (n : Int) (l : List Int) (hn : l.length ≤ 1048576) : Ev (fun k => impl_IsMatroid.f k n l) (isMat n l) := by
  unfold impl_IsMatroid.f isMat
  have hF : Ev (fun k => impl_IsFamily.f k n l) (fam n l) := Gen.ev_at (l.length + 1) (fun k hk => implFamily n l hn k (by omega))
  cases hf : fam n l with
  | false =>
    rw [hf] at hF
    refine Ev.bind (a := (0, 0, 0, false)) ?_ (Ev.bind hF (by simp only [Bool.false_eq_true, if_false]; exact Ev.now _))
    unfold impl_FirstFailure.f
    exact Ev.bind hF (by simp only [Bool.false_eq_true, if_false]; exact Ev.now _)
  | true =>
    rw [hf] at hF
    obtain ⟨m, lN, rfl, hm, rfl, hl⟩ := fam_nat hf
    rw [toNat_ints]
    rw [ints_length] at hn
    obtain ⟨x, y, z, hE⟩ := implFirst m hm lN hl hn hf
    refine Ev.bind hE (Ev.bind hF ?_)
    simp only [if_true, ints_length]
    by_cases h0 : 0 < lN.length
    · simp only [if_pos (show (lN.length : Int) > 0 by omega), decide_eq_true h0, Bool.true_and]
      exact Ev.now _
    · simp only [if_neg (show ¬ (lN.length : Int) > 0 by omega), decide_eq_false h0, Bool.true_and, Bool.false_and]
      exact Ev.now _
theorem specMat (n : Int) (l : List Int) (hn : l.length ≤ 1048576) : Ev (fun k => spec_IsMatroid.f k n l) (isMat n l) := by
  unfold spec_IsMatroid.f isMat
  have hF : Ev (fun k => spec_IsFamily.f k n l) (fam n l) := Gen.ev_at (l.length + 1) (fun k hk => specFamily n l hn k (by omega))
  cases hf : fam n l with
  | false =>
    rw [hf] at hF
    refine Ev.bind (a := (0, 0, 0, false)) ?_ (Ev.bind hF (by simp only [Bool.false_eq_true, if_false]; exact Ev.now _))
    unfold spec_FirstFailure.f
    exact Ev.bind hF (by simp only [Bool.false_eq_true, if_false]; exact Ev.now _)
  | true =>
    rw [hf] at hF
    obtain ⟨m, lN, rfl, hm, rfl, hl⟩ := fam_nat hf
    rw [toNat_ints]
    rw [ints_length] at hn
    obtain ⟨x, y, z, hE⟩ := specFirst m hm lN hl hn hf
    refine Ev.bind hE (Ev.bind hF ?_)
    simp only [if_true, ints_length]
    by_cases h0 : 0 < lN.length
    · simp only [if_pos (show (lN.length : Int) > 0 by omega), decide_eq_true h0, Bool.true_and]
      exact Ev.now _
    · simp only [if_neg (show ¬ (lN.length : Int) > 0 by omega), decide_eq_false h0, Bool.true_and, Bool.false_and]
      exact Ev.now _
end Go.Proofs.Ytaepaekagenfnaa.Mat
end
section
namespace Go.Proofs.Ytaepaekagenfnaa.Rank
open Go.RowKit Go.Proofs.Ytaepaekagenfnaa.Pr Go.Proofs.Ytaepaekagenfnaa.Sets Go.Proofs.Ytaepaekagenfnaa.Mat Go.Proofs.YtaepaekagenfnaaW.PrintWords Go.Proofs.YtaepaekagenfnaaW.PrintLast Go.Proofs.YtaepaekagenfnaaW.PrintMore
set_option linter.unusedVariables false
def cnt (s : Nat) : Nat := (elems s).length
theorem cnt_le (s : Nat) : cnt s ≤ 8 := elems_length s
set_option maxRecDepth 100000 in
theorem implCountB : ∀ s : Nat, s < 256 → impl_CountOf.f (s : Int) = some (cnt s : Int) := by decide +kernel
theorem implCount (s : Nat) (h : s < 256) : impl_CountOf.f (s : Int) = some (cnt s : Int) := implCountB s h
set_option maxRecDepth 100000 in
theorem specCountB : ∀ s : Nat, s < 256 → spec_CountOf.f 10 (s : Int) = some (cnt s : Int) := by decide +kernel
theorem specCount (s : Nat) (h : s < 256) (k : Nat) (hk : 10 ≤ k) : spec_CountOf.f k (s : Int) = some (cnt s : Int) := by
  induction k with
  | zero => omega
  | succ k ih =>
    by_cases e : 10 ≤ k
    · exact spec_CountOf.mono _ _ _ (ih e)
    · obtain rfl : k = 9 := by omega
      exact specCountB s h
theorem specCountE (s : Nat) (h : s < 256) : Ev (fun k => spec_CountOf.f k (s : Int)) (cnt s : Int) := Gen.ev_at 10 (fun k hk => specCount s h k hk)
def rank (l : List Nat) (s : Nat) : Nat := l.foldl (fun m b => max m (cnt (s &&& b))) 0
theorem foldl_index {σ : Type} (l : List Nat) (f : σ → Nat → σ) (s : σ) : (List.range' 0 l.length).foldl (fun s i => f s (l.getD i 0)) s = l.foldl f s := by
  have e : l = (List.range' 0 l.length).map fun i => l.getD i 0 := by
    rw [← List.range_eq_range', Gen.map_getD']
  conv => rhs; rw [e]
  rw [List.foldl_map]
theorem and_lt {a b n : Nat} (ha : a < 2 ^ n) : a &&& b < 2 ^ n := Nat.lt_of_le_of_lt Nat.and_le_left ha
theorem implRank (m : Nat) (l : List Nat) (s : Nat) (hs : s < 256) (hl : ∀ b ∈ l, b < 256) (hn : l.length ≤ 1048576) : Ev (fun k => impl_rankIn.f k (m : Int) (ints l) (s : Int)) (rank l s : Int) := by
  unfold impl_rankIn.f
  have e : rank l s = (List.range' 0 l.length).foldl (fun o i => max o (cnt (s &&& l.getD i 0))) 0 := (foldl_index l (fun o b => max o (cnt (s &&& b))) 0).symm
  rw [e]
  have key := Gen.ev_loop (fun k (o : Nat) i => impl_rankIn.l0 k (s : Int) (o : Int) (ints l) ((ints l).length : Int) i) l.length (fun i o => max o (cnt (s &&& l.getD i 0))) (fun _ _ => True) (((List.range' 0 l.length).foldl (fun o i => max o (cnt (s &&& l.getD i 0))) 0 : Nat) : Int) (fun i o hi _ => ⟨trivial, fun h => Ev.step (fun k => ?_) h⟩) l.length 0 0 (by omega) trivial (fun _ => Gen.ev_at 1 (fun k hk => ?_))
  · exact key
  · simp only [impl_rankIn.l0]
    have hb := hl _ (getD_mem l 0 i hi)
    rw [if_pos (by rw [ints_length]; omega), if_pos (by omega), if_pos (by rw [ints_length]; omega), ints_rd, and_nat s _ (by omega) (by omega), implCount _ (and_lt (n := 8) hs)]
    simp only [Option.bind_some]
    rw [Gen.w64s i (by omega)]
    congr 1
    unfold mx
    split <;> omega
  · obtain ⟨q, rfl⟩ : ∃ q, k = q + 1 := ⟨k - 1, by omega⟩
    simp only [impl_rankIn.l0]
    rw [if_neg (by rw [ints_length]; omega)]
theorem specRank (m : Nat) (l : List Nat) (s : Nat) (hs : s < 256) (hl : ∀ b ∈ l, b < 256) (hn : l.length ≤ 1048576) : Ev (fun k => spec_l5Rank.f k (m : Int) (ints l) (s : Int)) (rank l s : Int) := by
  unfold spec_l5Rank.f
  have e : rank l s = (List.range' 0 l.length).foldl (fun o i => max o (cnt (s &&& l.getD i 0))) 0 := (foldl_index l (fun o b => max o (cnt (s &&& b))) 0).symm
  rw [e]
  have key := Gen.ev_loop (fun k (o : Nat) i => spec_l5Rank.l0 k (s : Int) (o : Int) i (m : Int) (ints l)) l.length (fun i o => max o (cnt (s &&& l.getD i 0))) (fun _ _ => True) (((List.range' 0 l.length).foldl (fun o i => max o (cnt (s &&& l.getD i 0))) 0 : Nat) : Int) (fun i o hi _ => ⟨trivial, fun h => ?_⟩) l.length 0 0 (by omega) trivial (fun _ => Gen.ev_at 1 (fun k hk => ?_))
  · exact key
  · have hb := hl _ (getD_mem l 0 i hi)
    refine Ev.step (f := fun k => (spec_CountOf.f k (Go.bits .and .i64 (rd (ints l) (i : Int)) (s : Int))).bind fun t278 => ((spec_l1Max.f (o : Int) t278).bind fun t279 => (spec_l5Rank.l0 k (s : Int) t279 (wrap64 ((i : Int) + 1)) (m : Int) (ints l)))) (fun k => ?_) ?_
    · simp only [spec_l5Rank.l0]
      rw [if_pos (by rw [ints_length]; omega), if_pos (by omega)]
    · rw [ints_rd, and_nat _ s (by omega) (by omega), Nat.and_comm, Gen.w64s i (by omega)]
      refine Ev.bind (specCountE _ (and_lt (n := 8) hs)) ?_
      have hx : spec_l1Max.f (o : Int) (cnt (s &&& l.getD i 0) : Int) = some ((max o (cnt (s &&& l.getD i 0)) : Nat) : Int) := by
        unfold spec_l1Max.f
        split <;> · congr 1; omega
      rw [hx]
      exact h
  · obtain ⟨q, rfl⟩ : ∃ q, k = q + 1 := ⟨k - 1, by omega⟩
    simp only [spec_l5Rank.l0]
    rw [if_neg (by rw [ints_length]; omega)]
def clos (m : Nat) (l : List Nat) (s o : Nat) : Nat := (List.range' 0 m).foldl (fun o e => if rank l (s ||| 2 ^ e) = rank l s then o ||| 2 ^ e else o) o
theorem foldl_or (p : Nat → Bool) (q : List Nat) (o : Nat) (j : Nat) : (q.foldl (fun o e => if p e = true then o ||| 2 ^ e else o) o).testBit j = (o.testBit j || q.any fun e => p e && decide (e = j)) := by
  induction q generalizing o with
  | nil => simp
  | cons a q ih =>
    rw [List.foldl_cons, ih, List.any_cons]
    cases h : p a with
    | false => simp
    | true =>
      simp only [if_true, Nat.testBit_or, Nat.testBit_two_pow, Bool.true_and]
      rw [Bool.or_assoc]
theorem clos_bit (m : Nat) (l : List Nat) (s o j : Nat) : (clos m l s o).testBit j = (o.testBit j || (decide (j < m) && decide (rank l (s ||| 2 ^ j) = rank l s))) := by
  unfold clos
  have := foldl_or (fun e => decide (rank l (s ||| 2 ^ e) = rank l s)) (List.range' 0 m) o j
  simp only [decide_eq_true_eq] at this
  rw [this]
  congr 1
  rw [Bool.eq_iff_iff]
  simp only [List.any_eq_true, List.mem_range'_1, Bool.and_eq_true, decide_eq_true_eq]
  constructor
  · rintro ⟨x, h1, h2, rfl⟩
    exact ⟨by omega, h2⟩
  · rintro ⟨h1, h2⟩
    exact ⟨j, by omega, h2, rfl⟩
theorem or_bit {s j : Nat} (h : s.testBit j = true) : s ||| 2 ^ j = s := by
  apply Nat.eq_of_testBit_eq
  intro i
  rw [Nat.testBit_or, Nat.testBit_two_pow]
  by_cases e : j = i
  · subst e; rw [h]; rfl
  · rw [decide_eq_false e, Bool.or_false]
theorem clos_same (m : Nat) (l : List Nat) (s : Nat) (hs : s < 2 ^ m) : clos m l s s = clos m l s 0 := by
  apply Nat.eq_of_testBit_eq
  intro j
  rw [clos_bit, clos_bit, Nat.zero_testBit, Bool.false_or]
  cases h : s.testBit j with
  | false => rfl
  | true =>
    have hj : j < m := by
      refine Nat.lt_of_not_le fun hle => ?_
      rw [bit_far hs hle] at h
      exact Bool.noConfusion h
    rw [or_bit h, decide_eq_true hj, decide_eq_true rfl]
    rfl
theorem or_lt {a b n : Nat} (ha : a < 2 ^ n) (hb : b < 2 ^ n) : a ||| b < 2 ^ n := Nat.or_lt_two_pow ha hb
theorem pow_lt {e m : Nat} (h : e < m) : 2 ^ e < 2 ^ m := Nat.pow_lt_pow_right (by decide) h
theorem implClos (m : Nat) (hm : m ≤ 8) (l : List Nat) (s : Nat) (hs : s < 2 ^ m) (hl : ∀ b ∈ l, b < 256) (hn : l.length ≤ 1048576) : Ev (fun k => impl_closure.f k (m : Int) (ints l) (s : Int)) (clos m l s 0 : Int) := by
  have h256 := pow_le_256 hm
  unfold impl_closure.f
  refine Ev.bind (implRank m l s (by omega) hl hn) ?_
  refine Gen.ev_loop (fun k (o : Nat) i => impl_closure.l0 k (s : Int) (rank l s : Int) (o : Int) i (m : Int) (ints l)) m (fun e o => if rank l (s ||| 2 ^ e) = rank l s then o ||| 2 ^ e else o) (fun _ o => o < 2 ^ m) (clos m l s 0 : Int) (fun i o hi ho => ⟨?_, fun h => ?_⟩) m 0 0 (by omega) (by exact Nat.pow_pos (by decide)) (fun _ => Gen.ev_at 1 (fun k hk => ?_))
  · show (if _ then _ else _) < _
    split
    · exact or_lt ho (pow_lt hi)
    · exact ho
  · have hp := pow_lt hi
    refine Ev.step (f := fun k => (impl_rankIn.f k (m : Int) (ints l) ((s ||| 2 ^ i : Nat) : Int)).bind fun t => (if t = (rank l s : Int) then (impl_closure.l0 k (s : Int) (rank l s : Int) ((o ||| 2 ^ i : Nat) : Int) ((i + 1 : Nat) : Int) (m : Int) (ints l)) else (impl_closure.l0 k (s : Int) (rank l s : Int) (o : Int) ((i + 1 : Nat) : Int) (m : Int) (ints l)))) (fun k => ?_) ?_
    · simp only [impl_closure.l0]
      rw [if_pos (by omega), if_pos (by omega), shl_nat i (by omega), or_nat s _ (by omega) (by omega), or_nat o _ (by omega) (by omega), Gen.w64s i (by omega)]
    · refine Ev.bind (implRank m l _ (by have := or_lt hs hp; omega) hl hn) ?_
      by_cases e : rank l (s ||| 2 ^ i) = rank l s
      · rw [if_pos e] at h
        simp only [e, if_true]
        exact h
      · rw [if_neg e] at h
        simp only [if_neg (show ¬ ((rank l (s ||| 2 ^ i) : Nat) : Int) = (rank l s : Int) by omega)]
        exact h
  · obtain ⟨q, rfl⟩ : ∃ q, k = q + 1 := ⟨k - 1, by omega⟩
    simp only [impl_closure.l0]
    rw [if_neg (by omega)]
    rfl
theorem u64_nat (m : Nat) (h : m < 2 ^ 62) : IntKind.u64.wrap (m : Int) = m := by
  rw [IntKind.wrap_u64]
  omega
theorem specClos (m : Nat) (hm : m ≤ 8) (l : List Nat) (s : Nat) (hs : s < 2 ^ m) (hl : ∀ b ∈ l, b < 256) (hn : l.length ≤ 1048576) : Ev (fun k => spec_l5Closure.f k (m : Int) (ints l) (s : Int)) (clos m l s 0 : Int) := by
  have h256 := pow_le_256 hm
  rw [← clos_same m l s hs]
  unfold spec_l5Closure.f
  refine Ev.bind (specRank m l s (by omega) hl hn) ?_
  refine Gen.ev_loop (fun k (o : Nat) i => spec_l5Closure.l0 k (s : Int) (o : Int) (rank l s : Int) i (m : Int) (ints l)) m (fun e o => if rank l (s ||| 2 ^ e) = rank l s then o ||| 2 ^ e else o) (fun _ o => o < 2 ^ m) (clos m l s s : Int) (fun i o hi ho => ⟨?_, fun h => ?_⟩) m 0 s (by omega) hs (fun _ => Gen.ev_at 1 (fun k hk => ?_))
  · show (if _ then _ else _) < _
    split
    · exact or_lt ho (pow_lt hi)
    · exact ho
  · have hp := pow_lt hi
    refine Ev.step (f := fun k => (spec_l5Rank.f k (m : Int) (ints l) ((s ||| 2 ^ i : Nat) : Int)).bind fun t => (if t = (rank l s : Int) then (spec_l5Closure.l0 k (s : Int) ((o ||| 2 ^ i : Nat) : Int) (rank l s : Int) ((i + 1 : Nat) : Int) (m : Int) (ints l)) else (spec_l5Closure.l0 k (s : Int) (o : Int) (rank l s : Int) ((i + 1 : Nat) : Int) (m : Int) (ints l)))) (fun k => ?_) ?_
    · simp only [spec_l5Closure.l0]
      rw [u64_nat i (by omega), if_pos (by omega), if_pos (by omega), shl_nat i (by omega), or_nat s _ (by omega) (by omega), or_nat o _ (by omega) (by omega), Gen.w64s i (by omega)]
    · refine Ev.bind (specRank m l _ (by have := or_lt hs hp; omega) hl hn) ?_
      by_cases e : rank l (s ||| 2 ^ i) = rank l s
      · rw [if_pos e] at h
        simp only [e, if_true]
        exact h
      · rw [if_neg e] at h
        simp only [if_neg (show ¬ ((rank l (s ||| 2 ^ i) : Nat) : Int) = (rank l s : Int) by omega)]
        exact h
  · obtain ⟨q, rfl⟩ : ∃ q, k = q + 1 := ⟨k - 1, by omega⟩
    simp only [spec_l5Closure.l0]
    rw [if_neg (by omega)]
    rfl
end Go.Proofs.Ytaepaekagenfnaa.Rank
end
section
namespace Go.Proofs.Ytaepaekagenfnaa.Flat
open Go.RowKit Go.Proofs.Ytaepaekagenfnaa.Pr Go.Proofs.Ytaepaekagenfnaa.Sets Go.Proofs.Ytaepaekagenfnaa.Mat Go.Proofs.Ytaepaekagenfnaa.Rank Go.Proofs.YtaepaekagenfnaaW.PrintWords Go.Proofs.YtaepaekagenfnaaW.PrintLast Go.Proofs.YtaepaekagenfnaaW.PrintMore
set_option linter.unusedVariables false
theorem mat_nat {n : Int} {l : List Int} (h : isMat n l = true) : ∃ (m : Nat) (lN : List Nat), n = m ∧ m ≤ 8 ∧ l = ints lN ∧ (∀ s ∈ lN, s < 2 ^ m) ∧ 0 < lN.length ∧ fails lN = false := by
  unfold isMat at h
  rw [Bool.and_eq_true, Bool.and_eq_true, decide_eq_true_eq] at h
  obtain ⟨⟨h1, h2⟩, h3⟩ := h
  obtain ⟨m, lN, rfl, hm, rfl, hl⟩ := fam_nat h1
  rw [toNat_ints] at h3
  rw [ints_length] at h2
  exact ⟨m, lN, rfl, hm, rfl, hl, h2, by simpa using h3⟩
def flats (m : Nat) (l : List Nat) : List Nat := (List.range' 0 (2 ^ m)).filter fun s => decide (clos m l s 0 = s)
theorem flats_length (m : Nat) (hm : m ≤ 8) (l : List Nat) : (flats m l).length ≤ 256 := by
  refine Nat.le_trans (List.length_filter_le _ _) ?_
  rw [List.length_range']
  exact pow_le_256 hm
theorem flats_lt {m : Nat} {l : List Nat} {s : Nat} (h : s ∈ flats m l) : s < 2 ^ m ∧ clos m l s 0 = s := by
  unfold flats at h
  obtain ⟨h1, h2⟩ := List.mem_filter.1 h
  have := List.mem_range'_1.1 h1
  exact ⟨by omega, by simpa using h2⟩
theorem full_impl (m : Nat) (hm : m ≤ 8) : impl_FullSet.f (m : Int) = some ((2 ^ m - 1 : Nat) : Int) := by
  have : ∀ m : Nat, m < 9 → impl_FullSet.f (m : Int) = some ((2 ^ m - 1 : Nat) : Int) := by decide +kernel
  exact this m (by omega)
theorem full_spec (m : Nat) (hm : m ≤ 8) : spec_FullSet.f (m : Int) = some ((2 ^ m - 1 : Nat) : Int) := by
  have : ∀ m : Nat, m < 9 → spec_FullSet.f (m : Int) = some ((2 ^ m - 1 : Nat) : Int) := by decide +kernel
  exact this m (by omega)
theorem foldl_filter (p : Nat → Bool) (q : List Nat) : (q.foldl (fun (s : List Int) j => if p j = true then s ++ [(j : Int)] else s) []) = ints (q.filter p) := by
  rw [Gen.foldl_append, List.nil_append]
  rfl
theorem keep_loop (L : Nat → List Int → Int → Option (List Int)) (n : Nat) (p : Nat → Bool)
    (hround : ∀ i s, i < n → s.length ≤ i → ∀ r, Ev (fun k => L k (if p i = true then s ++ [(i : Int)] else s) ((i + 1 : Nat) : Int)) r → Ev (fun k => L k s (i : Int)) r)
    (hend : ∀ k s, L (k + 1) s (n : Int) = some s) : Ev (fun k => L k [] 0) (ints ((List.range' 0 n).filter p)) := by
  rw [← foldl_filter]
  refine Gen.ev_loop L n (fun i s => if p i = true then s ++ [(i : Int)] else s) (fun i s => s.length ≤ i) _ (fun i s hi hP => ⟨?_, hround i s hi hP _⟩) n 0 [] (by omega) (by simp) (fun _ => Gen.ev_at 1 (fun k hk => ?_))
  · show (if _ then _ else _ : List Int).length ≤ _
    split
    · simp; omega
    · omega
  · obtain ⟨q, rfl⟩ : ∃ q, k = q + 1 := ⟨k - 1, by omega⟩
    exact hend _ _
theorem specFlatsN (m : Nat) (hm : m ≤ 8) (l : List Nat) (hl : ∀ b ∈ l, b < 256) (hn : l.length ≤ 1048576) : Ev (fun k => spec_l7Flats.f k (m : Int) (ints l)) (ints (flats m l)) := by
  have h256 := pow_le_256 hm
  have hpos : 0 < 2 ^ m := Nat.pow_pos (by decide)
  unfold spec_l7Flats.f flats
  refine keep_loop (fun k s i => spec_l7Flats.l0 k s i (m : Int) (ints l)) (2 ^ m) (fun s => decide (clos m l s 0 = s)) (fun i s hi hs r h => ?_) (fun k s => ?_)
  · refine Ev.step (f := fun k => (spec_l5Closure.f k (m : Int) (ints l) (i : Int)).bind fun t => (if t = (i : Int) then (spec_l7Flats.l0 k (s ++ [(i : Int)]) ((i + 1 : Nat) : Int) (m : Int) (ints l)) else (spec_l7Flats.l0 k s ((i + 1 : Nat) : Int) (m : Int) (ints l)))) (fun k => ?_) ?_
    · simp only [spec_l7Flats.l0]
      rw [full_spec m hm]
      simp only [Option.bind_some]
      rw [if_pos (by omega), if_pos (by omega), Gen.w64s i (by omega)]
    · refine Ev.bind (specClos m hm l i hi hl hn) ?_
      by_cases e : clos m l i 0 = i
      · rw [decide_eq_true e] at h
        rw [e]
        simp only [if_true] at h ⊢
        exact h
      · rw [decide_eq_false e] at h
        simp only [if_neg (show ¬ ((clos m l i 0 : Nat) : Int) = (i : Int) by omega)]
        simpa using h
  · simp only [spec_l7Flats.l0]
    rw [full_spec m hm]
    simp only [Option.bind_some]
    rw [if_neg (by omega)]
theorem implSetsOf (m : Nat) (hm : m ≤ 8) (g : Nat → Int → Option Bool) (p : Nat → Bool) (hg : ∀ s : Nat, s < 2 ^ m → Ev (fun k => g k (s : Int)) (p s)) (hmono : ∀ k s, LeO (g k s) (g (k + 1) s)) : Ev (fun k => impl_setsOf.f k (m : Int) (g k)) (ints ((List.range' 0 (2 ^ m)).filter p)) := by
  have h256 := pow_le_256 hm
  have hpos : 0 < 2 ^ m := Nat.pow_pos (by decide)
  have hup : ∀ s : Int, ∀ a d r, g a s = some r → g (a + d) s = some r := by
    intro s a d r h
    induction d with
    | zero => exact h
    | succ d ih => exact hmono _ _ _ ih
  have all : ∀ n : Nat, n ≤ 2 ^ m → ∃ K, ∀ k, K ≤ k → ∀ s : Nat, s < n → g k (s : Int) = some (p s) := by
    intro n
    induction n with
    | zero => exact fun _ => ⟨0, fun k _ s hs => by omega⟩
    | succ n ih =>
      intro hn
      obtain ⟨K, hK⟩ := ih (by omega)
      obtain ⟨K', hK'⟩ := hg n (by omega)
      refine ⟨max K K', fun k hk s hs => ?_⟩
      by_cases e : s = n
      · subst e
        exact hK' k (by omega)
      · exact hK k (by omega) s (by omega)
  obtain ⟨K, hK⟩ := all (2 ^ m) (Nat.le_refl _)
  have fixed : ∀ k0, K ≤ k0 → Ev (fun k => impl_setsOf.l0 (g k0) k (m : Int) [] 0) (ints ((List.range' 0 (2 ^ m)).filter p)) := fun k0 hk0 => by
    refine keep_loop (fun k s i => impl_setsOf.l0 (g k0) k (m : Int) s i) (2 ^ m) p (fun i s hi hs r h => Ev.step (fun k => ?_) h) (fun k s => ?_)
    · simp only [impl_setsOf.l0]
      rw [full_impl m hm]
      simp only [Option.bind_some]
      rw [if_pos (by omega), hK k0 hk0 i hi]
      simp only [Option.bind_some]
      rw [Gen.w64s i (by omega)]
      cases p i with
      | false => rfl
      | true => rw [if_pos rfl, if_pos (by omega), if_pos rfl]
    · simp only [impl_setsOf.l0]
      rw [full_impl m hm]
      simp only [Option.bind_some]
      rw [if_neg (by omega)]
  have count : ∀ k0, K ≤ k0 → ∀ (d i : Nat) (s : List Int) (k : Nat), i + d = 2 ^ m → d < k → s.length ≤ i → impl_setsOf.l0 (g k0) k (m : Int) s (i : Int) = impl_setsOf.l0 (g K) k (m : Int) s (i : Int) ∧ ∀ e, impl_setsOf.l0 (g k0) (k + e) (m : Int) s (i : Int) = impl_setsOf.l0 (g k0) k (m : Int) s (i : Int) := by
    intro k0 hk0 d
    induction d with
    | zero =>
      intro i s k hi hk hs
      obtain rfl : i = 2 ^ m := by omega
      obtain ⟨k, rfl⟩ : ∃ q, k = q + 1 := ⟨k - 1, by omega⟩
      refine ⟨?_, fun e => ?_⟩
      · simp only [impl_setsOf.l0]
        rw [full_impl m hm]
        simp only [Option.bind_some]
        rw [if_neg (by omega), if_neg (by omega)]
      · rw [show k + 1 + e = (k + e) + 1 by omega]
        simp only [impl_setsOf.l0]
        rw [full_impl m hm]
        simp only [Option.bind_some]
        rw [if_neg (by omega), if_neg (by omega)]
    | succ d ih =>
      intro i s k hi hk hs
      obtain ⟨k, rfl⟩ : ∃ q, k = q + 1 := ⟨k - 1, by omega⟩
      obtain ⟨a1, a2⟩ := ih (i + 1) (s ++ [(i : Int)]) k (by omega) (by omega) (by simp; omega)
      obtain ⟨b1, b2⟩ := ih (i + 1) s k (by omega) (by omega) (by omega)
      refine ⟨?_, fun e => ?_⟩
      · simp only [impl_setsOf.l0]
        rw [full_impl m hm]
        simp only [Option.bind_some]
        simp only [if_pos (show (i : Int) ≤ ((2 ^ m - 1 : Nat) : Int) by omega), if_pos (show s.length < 17592186044416 by omega), hK k0 hk0 i (by omega), hK K (Nat.le_refl _) i (by omega), Gen.w64s i (by omega), Option.bind_some, a1, b1]
      · rw [show k + 1 + e = (k + e) + 1 by omega]
        simp only [impl_setsOf.l0]
        rw [full_impl m hm]
        simp only [Option.bind_some]
        simp only [if_pos (show (i : Int) ≤ ((2 ^ m - 1 : Nat) : Int) by omega), if_pos (show s.length < 17592186044416 by omega), hK k0 hk0 i (by omega), Gen.w64s i (by omega), Option.bind_some, a2, b2]
  obtain ⟨K2, hK2⟩ := fixed K (Nat.le_refl _)
  refine ⟨max (max K K2) (2 ^ m + 1), fun k hk => ?_⟩
  show impl_setsOf.l0 (g k) k (m : Int) [] ((0 : Nat) : Int) = _
  rw [(count k (by omega) (2 ^ m) 0 [] k (by omega) (by omega) (by simp)).1]
  exact hK2 k (by omega)
theorem implFlatsN (m : Nat) (hm : m ≤ 8) (l : List Nat) (hl : ∀ b ∈ l, b < 256) (hn : l.length ≤ 1048576) : Ev (fun k => impl_flatsIn.f k (m : Int) (ints l)) (ints (flats m l)) := by
  unfold impl_flatsIn.f flats
  refine implSetsOf m hm (fun k s => impl_flatsIn_1.f k (m : Int) (ints l) s) (fun s => decide (clos m l s 0 = s)) (fun s hs => ?_) (fun k s => impl_flatsIn_1.mono _ _ _ k)
  unfold impl_flatsIn_1.f
  refine Ev.bind (implClos m hm l s hs hl hn) ?_
  have : (((clos m l s 0 : Nat) : Int) == (s : Int)) = decide (clos m l s 0 = s) := by
    rw [Bool.eq_iff_iff]
    simp
    omega
  rw [this]
  exact Ev.now _
end Go.Proofs.Ytaepaekagenfnaa.Flat
end
section
namespace Go.Proofs.Ytaepaekagenfnaa.Moeb
open Go.RowKit Go.Proofs.Ytaepaekagenfnaa.Pr Go.Proofs.Ytaepaekagenfnaa.Sets Go.Proofs.Ytaepaekagenfnaa.Mat Go.Proofs.Ytaepaekagenfnaa.Rank Go.Proofs.Ytaepaekagenfnaa.Flat Go.Proofs.YtaepaekagenfnaaW.PrintWords Go.Proofs.YtaepaekagenfnaaW.PrintLast Go.Proofs.YtaepaekagenfnaaW.PrintMore
set_option linter.unusedVariables false
def subs (t s : Nat) : Bool := decide (t &&& s = t)
theorem diff_zero (t s : Nat) : diff t s = 0 ↔ t &&& s = t := by
  constructor
  · intro h
    apply Nat.eq_of_testBit_eq
    intro i
    have := diff_bit t s i
    rw [h, Nat.zero_testBit] at this
    rw [Nat.testBit_and]
    cases h1 : t.testBit i <;> cases h2 : s.testBit i <;> simp_all
  · intro h
    apply Nat.eq_of_testBit_eq
    intro i
    rw [diff_bit, Nat.zero_testBit]
    have := congrArg (fun x => x.testBit i) h
    simp only [Nat.testBit_and] at this
    cases h1 : t.testBit i <;> cases h2 : s.testBit i <;> simp_all
theorem implSub (t s : Nat) (ht : t < 256) (hs : s < 256) : impl_IsSubset.f (t : Int) (s : Int) = some (subs t s) := by
  have ha : ∀ x : Nat, x < 256 → impl_isAny.f (x : Int) = some true := fun x hx => by
    unfold impl_isAny.f
    rw [if_pos (by omega), decide_eq_true (by omega)]
  unfold impl_IsSubset.f subs
  rw [ha t ht, ha s hs]
  simp only [Option.bind_some, if_true]
  rw [andNot_nat t s (by omega)]
  congr 1
  rw [Bool.eq_iff_iff, beq_iff_eq, decide_eq_true_eq, ← diff_zero]
  omega
def msum (q : List Nat) (v : List Int) (i : Nat) : Int := (List.range' 0 i).foldl (fun s k => if subs (q.getD k 0) (q.getD i 0) = true then wrap64 (s + v.getD k 0) else s) 0
def mu (q : List Nat) : Nat → List Int
  | 0 => []
  | i + 1 => mu q i ++ [wrap64 ((if i = 0 then 1 else 0) - msum q (mu q i) i)]
theorem mu_length (q : List Nat) (i : Nat) : (mu q i).length = i := by
  induction i with
  | zero => rfl
  | succ i ih => simp [mu, ih]
theorem specMoeb (n : Int) (l : List Int) (q : List Nat) (hq : q.length ≤ 256) (h256 : ∀ s ∈ q, s < 256) : Ev (fun k => spec_l25Moebius.f k n l (ints q)) (mu q q.length) := by
  unfold spec_l25Moebius.f
  have key : ∀ d i : Nat, i + d = q.length → Ev (fun k => spec_l25Moebius.l0 k (ints q) (mu q i) (i : Int)) (mu q q.length) := by
    intro d
    induction d with
    | zero =>
      intro i hi
      obtain rfl : i = q.length := by omega
      refine Gen.ev_at 1 (fun k hk => ?_)
      obtain ⟨m, rfl⟩ : ∃ m, k = m + 1 := ⟨k - 1, by omega⟩
      simp only [spec_l25Moebius.l0]
      rw [if_neg (by rw [ints_length]; omega)]
    | succ d ih =>
      intro i hi
      have hlen := mu_length q i
      refine Ev.step (f := fun k => spec_l25Moebius.l1 k (ints q) (mu q i) (i : Int) 0 0) (fun k => ?_) ?_
      · simp only [spec_l25Moebius.l0]
        rw [if_pos (by rw [ints_length]; omega)]
      · refine Gen.ev_loop (fun k (s : Int) j => spec_l25Moebius.l1 k (ints q) (mu q i) (i : Int) s j) i (fun j s => if subs (q.getD j 0) (q.getD i 0) = true then wrap64 (s + (mu q i).getD j 0) else s) (fun _ _ => True) _ (fun j s hj _ => ⟨trivial, fun h => Ev.step (fun k => ?_) h⟩) i 0 0 (by omega) trivial (fun _ => ?_)
        · have hb1 := h256 _ (getD_mem q 0 j (by omega))
          have hb2 := h256 _ (getD_mem q 0 i (by omega))
          have hc : (((q.getD j 0 &&& q.getD i 0 : Nat) : Int) = ((q.getD j 0 : Nat) : Int)) = (subs (q.getD j 0) (q.getD i 0) = true) := by
            unfold subs
            rw [decide_eq_true_eq]
            exact propext ⟨fun h => by exact_mod_cast h, fun h => by exact_mod_cast h⟩
          simp only [spec_l25Moebius.l1]
          rw [if_pos (by omega), if_pos (by omega), if_pos (by rw [ints_length]; omega), if_pos (by omega), if_pos (by rw [ints_length]; omega), ints_rd, ints_rd, and_nat _ _ (by omega) (by omega), Gen.rd_nat, Gen.w64s j (by omega)]
          simp only [hc, if_pos (show (j : Int) < ((mu q i).length : Int) by omega)]
          split <;> rfl
        · refine Ev.step (f := fun k => spec_l25Moebius.l0 k (ints q) (mu q (i + 1)) ((i + 1 : Nat) : Int)) (fun k => ?_) (ih (i + 1) (by omega))
          simp only [spec_l25Moebius.l1]
          rw [if_neg (by omega), Gen.w64s i (by omega)]
          have hbit : spec_l1Bit.f ((i : Int) == 0) = some (if i = 0 then 1 else 0) := by
            unfold spec_l1Bit.f
            by_cases h0 : i = 0
            · subst h0; rfl
            · rw [if_neg (by simpa using h0), if_neg h0]
          rw [hbit]
          simp only [Option.bind_some]
          rw [if_pos (by omega)]
          rfl
  exact key q.length 0 (by omega)
def pad (q : List Nat) (i : Nat) : List Int := mu q i ++ List.replicate (q.length - i) 0
theorem pad_length (q : List Nat) (i : Nat) (hi : i ≤ q.length) : (pad q i).length = q.length := by
  simp [pad, mu_length]
  omega
theorem pad_set (q : List Nat) (i : Nat) (hi : i < q.length) (x : Int) : (pad q i).set i x = mu q i ++ (x :: List.replicate (q.length - (i + 1)) 0) := by
  unfold pad
  rw [List.set_append_right i x (by rw [mu_length]; exact Nat.le_refl _), mu_length, Nat.sub_self, show q.length - i = (q.length - (i + 1)) + 1 by omega, List.replicate_succ]
  rfl
theorem implMoeb (m : Nat) (hm : m ≤ 8) (l : List Nat) (hl : ∀ b ∈ l, b < 256) (hn : l.length ≤ 1048576) : Ev (fun k => impl_moebius.f k (m : Int) (ints l)) (ints (flats m l), mu (flats m l) (flats m l).length) := by
  unfold impl_moebius.f
  refine Ev.bind (implFlatsN m hm l hl hn) ?_
  have hq := flats_length m hm l
  have h256 : ∀ s ∈ flats m l, s < 256 := fun s hs => by
    have := (flats_lt hs).1
    have := pow_le_256 hm
    omega
  generalize flats m l = q at *
  simp only [ints_length, Int.toNat_natCast, if_pos (show (0 : Int) ≤ (q.length : Int) by omega), if_pos (show q.length ≤ 35184372088832 by omega)]
  have key : ∀ d i : Nat, i + d = q.length → Ev (fun k => impl_moebius.l0 k (ints q) (pad q i) (ints q) (q.length : Int) (i : Int)) (ints q, mu q q.length) := by
    intro d
    induction d with
    | zero =>
      intro i hi
      obtain rfl : i = q.length := by omega
      refine Gen.ev_at 1 (fun k hk => ?_)
      obtain ⟨m, rfl⟩ : ∃ m, k = m + 1 := ⟨k - 1, by omega⟩
      simp only [impl_moebius.l0]
      rw [if_neg (by omega)]
      simp [pad]
    | succ d ih =>
      intro i hi
      have hlen := pad_length q i (by omega)
      have htake : ((ints q).take (i : Int).toNat).length = i := by
        rw [List.length_take, ints_length, Int.toNat_natCast]
        omega
      have htrd : ∀ j : Nat, j < i → rd ((ints q).take (i : Int).toNat) (j : Int) = ((q.getD j 0 : Nat) : Int) := fun j hj => by
        rw [← ints_rd, Gen.rd_nat, Gen.rd_nat, Int.toNat_natCast]
        simp [List.getD, hj]
      refine Ev.step (f := fun k => impl_moebius.l1 k (ints q) (pad q i) (i : Int) ((q.getD i 0 : Nat) : Int) 0 (ints q) (q.length : Int) (i : Int) ((ints q).take (i : Int).toNat) (i : Int) 0) (fun k => ?_) ?_
      · simp only [impl_moebius.l0]
        rw [if_pos (by omega), if_pos (by omega), if_pos (by rw [ints_length]; omega), if_pos (by rw [ints_length]; omega), ints_rd]
        simp only [Option.bind_some]
        rw [htake]
      · refine Gen.ev_loop (fun k (s : Int) j => impl_moebius.l1 k (ints q) (pad q i) (i : Int) ((q.getD i 0 : Nat) : Int) s (ints q) (q.length : Int) (i : Int) ((ints q).take (i : Int).toNat) (i : Int) j) i (fun j s => if subs (q.getD j 0) (q.getD i 0) = true then wrap64 (s + (mu q i).getD j 0) else s) (fun _ _ => True) _ (fun j s hj _ => ⟨trivial, fun h => Ev.step (fun k => ?_) h⟩) i 0 0 (by omega) trivial (fun _ => ?_)
        · have hb1 := h256 _ (getD_mem q 0 j (by omega))
          have hb2 := h256 _ (getD_mem q 0 i (by omega))
          have hp : rd (pad q i) (j : Int) = (mu q i).getD j 0 := by
            rw [Gen.rd_nat]
            unfold pad
            simp [List.getD, List.getElem?_append, mu_length, hj]
          simp only [impl_moebius.l1]
          rw [if_pos (by omega), if_pos (by omega), if_pos (by rw [htake]; omega), htrd j hj, implSub _ _ hb1 hb2, hp, Gen.w64s j (by omega)]
          simp only [Option.bind_some, if_pos (show (j : Int) < ((pad q i).length : Int) by omega)]
          split <;> rfl
        · refine Ev.step (f := fun k => impl_moebius.l0 k (ints q) (pad q (i + 1)) (ints q) (q.length : Int) ((i + 1 : Nat) : Int)) (fun k => ?_) (ih (i + 1) (by omega))
          have hS : (List.range' 0 i).foldl (fun (s : Int) j => if subs (q.getD j 0) (q.getD i 0) = true then wrap64 (s + (mu q i).getD j 0) else s) 0 = msum q (mu q i) i := rfl
          rw [hS]
          simp only [impl_moebius.l1]
          rw [if_neg (by omega), if_pos (by omega), if_pos (by omega), Gen.w64s i (by omega)]
          simp only [Option.bind_some, Int.toNat_natCast]
          by_cases h0 : i = 0
          · subst h0
            rw [if_pos (by rfl), List.set_set, pad_set q 0 (by omega)]
            have e : pad q (0 + 1) = mu q 0 ++ ((1 : Int) :: List.replicate (q.length - (0 + 1)) 0) := by
              unfold pad
              have e1 : wrap64 ((1 : Int) - msum q (mu q 0) 0) = 1 := by
                show wrap64 ((1 : Int) - 0) = 1
                exact Gen.w64 (by decide) (by decide)
              have e2 : mu q (0 + 1) = mu q 0 ++ [wrap64 ((if 0 = 0 then 1 else 0) - msum q (mu q 0) 0)] := rfl
              rw [e2, if_pos rfl, e1, List.append_assoc]
              rfl
            rw [e]
          · rw [if_neg (by omega), pad_set q i (by omega)]
            have e : pad q (i + 1) = mu q i ++ (wrap64 (-(msum q (mu q i) i)) :: List.replicate (q.length - (i + 1)) 0) := by
              unfold pad
              rw [mu, if_neg h0, Int.zero_sub, List.append_assoc]
              rfl
            rw [e]
  have := key q.length 0 (by omega)
  have e0 : pad q 0 = List.replicate q.length 0 := by simp [pad, mu]
  rw [e0] at this
  exact this
end Go.Proofs.Ytaepaekagenfnaa.Moeb
end
section
namespace Go.Proofs.Ytaepaekagenfnaa.Size
open Go.RowKit Go.Proofs.Ytaepaekagenfnaa.Sets Go.Proofs.Ytaepaekagenfnaa.Rank
set_option linter.unusedVariables false
theorem cnt_count (s : Nat) : cnt s = (List.range' 0 8).countP fun j => s.testBit j := by
  unfold cnt elems
  rw [List.countP_eq_length_filter]
theorem cnt_mono {a b : Nat} (h : ∀ j, j < 8 → a.testBit j = true → b.testBit j = true) : cnt a ≤ cnt b := by
  rw [cnt_count, cnt_count]
  refine List.countP_mono_left fun j hj => h j ?_
  have := List.mem_range'_1.1 hj
  omega
theorem cnt_and_le (s b : Nat) : cnt (s &&& b) ≤ cnt b := cnt_mono fun j _ h => by
  rw [Nat.testBit_and, Bool.and_eq_true] at h
  exact h.2
theorem cnt_swap : ∀ a, a < 256 → ∀ e, e < 8 → ∀ f, f < 8 → a.testBit e = true → a.testBit f = false → cnt (diff a (2 ^ e) ||| 2 ^ f) = cnt a := by decide +kernel
theorem cnt_less : ∀ a, a < 256 → ∀ e, e < 8 → a.testBit e = true → cnt (diff a (2 ^ e)) < cnt a := by decide +kernel
theorem cnt_some : ∀ a, a < 256 → 0 < cnt a → ∃ e, e < 8 ∧ a.testBit e = true := by decide +kernel
theorem cnt_zero_bit : ∀ a, a < 256 → cnt a = 0 → a = 0 := by decide +kernel
theorem exch_some {l : List Nat} {a b e : Nat} (hf : fails l = false) (ha : a ∈ l) (hb : b ∈ l) (he : e < 8) (h1 : a.testBit e = true) (h2 : b.testBit e = false) : ∃ f, f < 8 ∧ b.testBit f = true ∧ a.testBit f = false ∧ (a - 2 ^ e + 2 ^ f) ∈ l := by
  have hx : exch l a b e = true := by
    cases h : exch l a b e with
    | true => rfl
    | false =>
      have : fails l = true := by
        unfold fails
        rw [List.any_eq_true]
        refine ⟨a, ha, List.any_eq_true.2 ⟨b, hb, List.any_eq_true.2 ⟨e, List.mem_range'_1.2 (by omega), ?_⟩⟩⟩
        rw [h1, h2, h]
        rfl
      rw [hf] at this
      exact Bool.noConfusion this
  unfold exch at hx
  obtain ⟨f, hf1, hf2⟩ := List.any_eq_true.1 hx
  have := List.mem_range'_1.1 hf1
  rw [Bool.and_eq_true, Bool.and_eq_true] at hf2
  exact ⟨f, by omega, hf2.1.1, by simpa using hf2.1.2, by simpa using hf2.2⟩
theorem bases_le (l : List Nat) (hl : ∀ s ∈ l, s < 256) (hf : fails l = false) : ∀ n a b : Nat, a ∈ l → b ∈ l → cnt (diff a b) ≤ n → cnt a ≤ cnt b := by
  intro n
  induction n with
  | zero =>
    intro a b ha hb h
    have h256 := hl a ha
    have hz : diff a b = 0 := cnt_zero_bit _ (diff_lt (n := 8) h256) (by omega)
    refine cnt_mono fun j hj hbit => ?_
    have := diff_bit a b j
    rw [hz, Nat.zero_testBit, hbit] at this
    simpa using this.symm
  | succ n ih =>
    intro a b ha hb h
    have h256 := hl a ha
    by_cases hle : cnt (diff a b) ≤ n
    · exact ih a b ha hb hle
    · obtain ⟨e, he, hbit⟩ := cnt_some _ (diff_lt (n := 8) h256) (show 0 < cnt (diff a b) by omega)
      have hbit' := hbit
      rw [diff_bit, Bool.and_eq_true] at hbit'
      obtain ⟨h1, h2⟩ := hbit'
      have h2' : b.testBit e = false := by simpa using h2
      obtain ⟨f, hf8, hbf, haf, hmem⟩ := exch_some hf ha hb he h1 h2'
      rw [← swap_eq a h256 e he f hf8 h1 haf] at hmem
      have hd : diff (diff a (2 ^ e) ||| 2 ^ f) b = diff (diff a b) (2 ^ e) := by
        apply Nat.eq_of_testBit_eq
        intro j
        rw [diff_bit, Nat.testBit_or, diff_bit, diff_bit, diff_bit, Nat.testBit_two_pow, Nat.testBit_two_pow]
        by_cases ej : f = j
        · subst ej
          rw [hbf, haf]
          simp
        · rw [decide_eq_false ej, Bool.or_false]
          cases a.testBit j <;> cases b.testBit j <;> cases decide (e = j) <;> rfl
      have hlt := cnt_less _ (diff_lt (n := 8) h256) e he hbit
      rw [← hd] at hlt
      have := ih _ b hmem hb (by omega)
      rw [cnt_swap a h256 e he f hf8 h1 haf] at this
      exact this
theorem bases_same {l : List Nat} (hl : ∀ s ∈ l, s < 256) (hf : fails l = false) {a b : Nat} (ha : a ∈ l) (hb : b ∈ l) : cnt a = cnt b :=
  Nat.le_antisymm (bases_le l hl hf _ a b ha hb (Nat.le_refl _)) (bases_le l hl hf _ b a hb ha (Nat.le_refl _))
theorem rank_le_of (l : List Nat) (s r : Nat) (h : ∀ b ∈ l, cnt (s &&& b) ≤ r) : rank l s ≤ r := by
  have : ∀ (l : List Nat) (o : Nat), o ≤ r → (∀ b ∈ l, cnt (s &&& b) ≤ r) → l.foldl (fun m b => max m (cnt (s &&& b))) o ≤ r := by
    intro l
    induction l with
    | nil => exact fun o ho _ => ho
    | cons a l ih =>
      intro o ho h
      rw [List.foldl_cons]
      have := h a (by simp)
      exact ih _ (by omega) fun b hb => h b (by simp [hb])
  exact this l 0 (by omega) h
def top (l : List Nat) : Nat := cnt (l.getD 0 0)
theorem rank_le {l : List Nat} (hl : ∀ s ∈ l, s < 256) (hf : fails l = false) (hn : 0 < l.length) (s : Nat) : rank l s ≤ top l :=
  rank_le_of l s _ fun b hb => Nat.le_trans (cnt_and_le s b) (Nat.le_of_eq (bases_same hl hf hb (getD_mem l 0 0 hn)))
end Go.Proofs.Ytaepaekagenfnaa.Size
end
section
namespace Go.Proofs.Ytaepaekagenfnaa.Whit
open Go.RowKit Go.Proofs.Ytaepaekagenfnaa.Pr Go.Proofs.Ytaepaekagenfnaa.Sets Go.Proofs.Ytaepaekagenfnaa.Mat Go.Proofs.Ytaepaekagenfnaa.Rank Go.Proofs.Ytaepaekagenfnaa.Flat Go.Proofs.Ytaepaekagenfnaa.Size Go.Proofs.YtaepaekagenfnaaW.PrintWords Go.Proofs.YtaepaekagenfnaaW.PrintLast Go.Proofs.YtaepaekagenfnaaW.PrintMore
set_option linter.unusedVariables false
theorem mem_256 {m : Nat} {l : List Nat} (hm : m ≤ 8) (hl : ∀ s ∈ l, s < 2 ^ m) : ∀ b ∈ l, b < 256 := fun b hb => Nat.lt_of_lt_of_le (hl b hb) (pow_le_256 hm)
theorem implRankOf (n : Int) (l : List Int) (hn : l.length ≤ 1048576) : Ev (fun k => impl_RankOfMatroid.f k n l) (if isMat n l = true then (top (l.map Int.toNat) : Int) else -1) := by
  unfold impl_RankOfMatroid.f
  refine Ev.bind (implMat n l hn) ?_
  cases h : isMat n l with
  | false => simp only [Bool.false_eq_true, if_false]; exact Ev.now _
  | true =>
    obtain ⟨m, lN, rfl, hm, rfl, hl, h0, _⟩ := mat_nat h
    simp only [if_true, toNat_ints, ints_length, if_pos (show (0 : Int) < (lN.length : Int) by omega)]
    have hr : rd (ints lN) 0 = ((lN.getD 0 0 : Nat) : Int) := ints_rd lN 0
    rw [hr, implCount _ (mem_256 hm hl _ (getD_mem lN 0 0 h0))]
    exact Ev.now _
theorem specRankOf (n : Int) (l : List Int) (hn : l.length ≤ 1048576) : Ev (fun k => spec_RankOfMatroid.f k n l) (if isMat n l = true then (top (l.map Int.toNat) : Int) else -1) := by
  unfold spec_RankOfMatroid.f
  refine Ev.bind (specMat n l hn) ?_
  cases h : isMat n l with
  | false => simp only [Bool.false_eq_true, if_false]; exact Ev.now _
  | true =>
    obtain ⟨m, lN, rfl, hm, rfl, hl, h0, _⟩ := mat_nat h
    simp only [if_true, toNat_ints, ints_length, if_pos (show (0 : Int) < (lN.length : Int) by omega)]
    have hr : rd (ints lN) 0 = ((lN.getD 0 0 : Nat) : Int) := ints_rd lN 0
    rw [hr]
    exact Ev.bind (specCountE _ (mem_256 hm hl _ (getD_mem lN 0 0 h0))) (Ev.now _)
theorem top_le (l : List Nat) : top l ≤ 8 := cnt_le _
end Go.Proofs.Ytaepaekagenfnaa.Whit
end
section
namespace Go.Proofs.Ytaepaekagenfnaa.Char
open Go.RowKit Go.Proofs.Ytaepaekagenfnaa.Pr Go.Proofs.Ytaepaekagenfnaa.Sets Go.Proofs.Ytaepaekagenfnaa.Mat Go.Proofs.Ytaepaekagenfnaa.Rank Go.Proofs.Ytaepaekagenfnaa.Flat Go.Proofs.Ytaepaekagenfnaa.Size Go.Proofs.Ytaepaekagenfnaa.Whit Go.Proofs.Ytaepaekagenfnaa.Moeb Go.Proofs.YtaepaekagenfnaaW.PrintWords Go.Proofs.YtaepaekagenfnaaW.PrintLast Go.Proofs.YtaepaekagenfnaaW.PrintMore
set_option linter.unusedVariables false
set_option maxRecDepth 100000 in
theorem diff_subB : ∀ a, a < 256 → ∀ b, b < 256 → diff a b + (a &&& b) = a := by decide +kernel
def loops (m : Nat) (l : List Nat) : Nat := l.foldl diff (2 ^ m - 1)
def loopsI (n : Int) (l : List Int) : Int := if isMat n l = true then (loops n.toNat (l.map Int.toNat) : Int) else 0
theorem full_lt (m : Nat) : 2 ^ m - 1 < 2 ^ m := by
  have : 0 < 2 ^ m := Nat.pow_pos (by decide)
  omega
theorem implLoops (n : Int) (l : List Int) (hn : l.length ≤ 1048576) : Ev (fun k => impl_LoopsOf.f k n l) (loopsI n l) := by
  unfold impl_LoopsOf.f loopsI
  refine Ev.bind (implMat n l hn) ?_
  cases h : isMat n l with
  | false => simp only [Bool.false_eq_true, if_false]; exact Ev.now _
  | true =>
    obtain ⟨m, lN, rfl, hm, rfl, hl, h0, hf⟩ := mat_nat h
    have h256 := pow_le_256 hm
    have hl8 := mem_256 hm hl
    rw [ints_length] at hn
    simp only [if_true, toNat_ints, Int.toNat_natCast, full_impl m hm, Option.bind_some, ints_length]
    unfold loops
    rw [← foldl_index]
    refine Gen.ev_loop (fun k (s : Nat) i => impl_LoopsOf.l0 k (s : Int) (ints lN) (lN.length : Int) i) lN.length (fun i s => diff s (lN.getD i 0)) (fun _ s => s < 2 ^ m) _ (fun i s hi hs => ⟨diff_lt hs, fun h => Ev.step (fun k => ?_) h⟩) lN.length 0 _ (by omega) (full_lt m) (fun _ => Gen.ev_at 1 (fun k hk => ?_))
    · simp only [impl_LoopsOf.l0]
      rw [if_pos (by omega), if_pos (by omega), if_pos (by rw [ints_length]; omega), ints_rd, andNot_nat s _ (by omega), Gen.w64s i (by omega)]
    · obtain ⟨q, rfl⟩ : ∃ q, k = q + 1 := ⟨k - 1, by omega⟩
      simp only [impl_LoopsOf.l0]
      rw [if_neg (by omega)]
theorem specLoops (n : Int) (l : List Int) (hn : l.length ≤ 1048576) : Ev (fun k => spec_LoopsOf.f k n l) (loopsI n l) := by
  unfold spec_LoopsOf.f loopsI
  refine Ev.bind (specMat n l hn) ?_
  cases h : isMat n l with
  | false => simp only [Bool.false_eq_true, if_false]; exact Ev.now _
  | true =>
    obtain ⟨m, lN, rfl, hm, rfl, hl, h0, hf⟩ := mat_nat h
    have h256 := pow_le_256 hm
    have hl8 := mem_256 hm hl
    rw [ints_length] at hn
    simp only [if_true, toNat_ints, Int.toNat_natCast, full_spec m hm, Option.bind_some]
    unfold loops
    rw [← foldl_index]
    refine Gen.ev_loop (fun k (s : Nat) i => spec_LoopsOf.l0 k (s : Int) i (m : Int) (ints lN)) lN.length (fun i s => diff s (lN.getD i 0)) (fun _ s => s < 2 ^ m) _ (fun i s hi hs => ⟨diff_lt hs, fun h => Ev.step (fun k => ?_) h⟩) lN.length 0 _ (by omega) (full_lt m) (fun _ => Gen.ev_at 1 (fun k hk => ?_))
    · have hb := hl8 _ (getD_mem lN 0 i hi)
      have hd := diff_subB s (by omega) _ hb
      simp only [spec_LoopsOf.l0]
      rw [if_pos (by rw [ints_length]; omega), if_pos (by omega), ints_rd, and_nat s _ (by omega) (by omega), Gen.w64s i (by omega), Gen.w64 (by omega) (by omega), show ((s : Int) - ((s &&& lN.getD i 0 : Nat) : Int)) = ((diff s (lN.getD i 0) : Nat) : Int) by omega]
    · obtain ⟨q, rfl⟩ : ∃ q, k = q + 1 := ⟨k - 1, by omega⟩
      simp only [spec_LoopsOf.l0]
      rw [if_neg (by rw [ints_length]; omega)]
def step (l q : List Nat) (v : List Int) (i : Nat) (s : List Int) : List Int := s.set (top l - rank l (q.getD i 0)) (wrap64 (s.getD (top l - rank l (q.getD i 0)) 0 + v.getD i 0))
def char (m : Nat) (l : List Nat) : List Int := if loops m l = 0 then (List.range' 0 (flats m l).length).foldl (fun s i => step l (flats m l) (mu (flats m l) (flats m l).length) i s) (List.replicate (top l + 1) 0) else List.replicate (top l + 1) 0
def charI (n : Int) (l : List Int) : List Int := if isMat n l = true then char n.toNat (l.map Int.toNat) else []
theorem step_length (l q : List Nat) (v : List Int) (i : Nat) (s : List Int) : (step l q v i s).length = s.length := by
  unfold step
  rw [List.length_set]
theorem char_length (m : Nat) (l : List Nat) : (char m l).length = top l + 1 := by
  unfold char
  split
  · have : ∀ (p : List Nat) (s : List Int), (p.foldl (fun s i => step l (flats m l) (mu (flats m l) (flats m l).length) i s) s).length = s.length := by
      intro p
      induction p with
      | nil => exact fun _ => rfl
      | cons a p ih =>
        intro s
        rw [List.foldl_cons, ih, step_length]
    rw [this, List.length_replicate]
  · rw [List.length_replicate]
theorem implChar (n : Int) (l : List Int) (hn : l.length ≤ 1048576) : Ev (fun k => impl_CharacteristicOf.f k n l) (charI n l) := by
  unfold impl_CharacteristicOf.f charI
  refine Ev.bind (implRankOf n l hn) ?_
  cases h : isMat n l with
  | false =>
    simp only [Bool.false_eq_true, if_false, if_pos (show (-1 : Int) < 0 by decide)]
    exact Ev.now _
  | true =>
    have hL := implLoops n l hn
    unfold loopsI at hL
    rw [if_pos h] at hL
    obtain ⟨m, lN, rfl, hm, rfl, hl, h0, hf⟩ := mat_nat h
    rw [ints_length] at hn
    have h256 := pow_le_256 hm
    have hl8 := mem_256 hm hl
    have ht := top_le lN
    rw [toNat_ints, Int.toNat_natCast] at hL
    simp only [if_true, toNat_ints, Int.toNat_natCast]
    simp only [if_neg (show ¬ (top lN : Int) < 0 by omega), Gen.w64s (top lN) (by omega), if_pos (show (0 : Int) ≤ ((top lN + 1 : Nat) : Int) by omega), Int.toNat_natCast, if_pos (show top lN + 1 ≤ 35184372088832 by omega), Option.bind_some]
    refine Ev.bind hL ?_
    unfold char
    by_cases hz : loops m lN = 0
    · simp only [hz, if_true, if_pos (show ((0 : Nat) : Int) = 0 from rfl)]
      refine Ev.bind (implMoeb m hm lN hl8 hn) ?_
      have hfl := flats_length m hm lN
      have hv := mu_length (flats m lN) (flats m lN).length
      generalize hV : mu (flats m lN) (flats m lN).length = v at *
      refine Gen.ev_loop (fun k (s : List Int) i => impl_CharacteristicOf.l0 k (top lN : Int) s v (ints (flats m lN)) ((ints (flats m lN)).length : Int) i (m : Int) (ints lN)) (flats m lN).length (fun i s => step lN (flats m lN) v i s) (fun i s => s.length = top lN + 1) _ (fun i s hi hP => ⟨?_, fun h => ?_⟩) (flats m lN).length 0 _ (by omega) (by simp) (fun hP => Gen.ev_at 1 (fun k hk => ?_))
      · rw [step_length, hP]
      · have hlt := rank_le hl8 hf h0 ((flats m lN).getD i 0)
        have hs := (flats_lt (getD_mem (flats m lN) 0 i hi)).1
        have hrd := ints_rd (flats m lN) i
        unfold step at h
        generalize hx : (flats m lN).getD i 0 = x at *
        have hsub : wrap64 ((top lN : Int) - (rank lN x : Int)) = ((top lN - rank lN x : Nat) : Int) := by
          rw [Gen.w64 (by omega) (by omega)]
          omega
        refine Ev.step (f := fun k => (impl_rankIn.f k (m : Int) (ints lN) (x : Int)).bind fun t781 => (if 0 ≤ (wrap64 ((top lN : Int) - t781)) then (if (wrap64 ((top lN : Int) - t781)) < (s.length : Int) then (impl_CharacteristicOf.l0 k (top lN : Int) (s.set ((wrap64 ((top lN : Int) - t781)) : Int).toNat (wrap64 ((rd s (wrap64 ((top lN : Int) - t781))) + (v.getD i 0)))) v (ints (flats m lN)) ((ints (flats m lN)).length : Int) ((i + 1 : Nat) : Int) (m : Int) (ints lN)) else (none)) else (none))) (fun k => ?_) ?_
        · simp only [impl_CharacteristicOf.l0]
          rw [if_pos (by rw [ints_length]; omega), if_pos (by omega), if_pos (by rw [ints_length]; omega), hrd, Gen.w64s i (by omega), Gen.rd_nat]
          simp only [if_pos (show (i : Int) < (v.length : Int) by omega)]
        · refine Ev.bind (implRank m lN x (by omega) hl8 hn) ?_
          simp only [hsub, if_pos (show (0 : Int) ≤ ((top lN - rank lN x : Nat) : Int) by omega), if_pos (show ((top lN - rank lN x : Nat) : Int) < (s.length : Int) by omega), Int.toNat_natCast, Gen.rd_nat]
          exact h
      · obtain ⟨q, rfl⟩ : ∃ q, k = q + 1 := ⟨k - 1, by omega⟩
        simp only [impl_CharacteristicOf.l0]
        rw [if_neg (by rw [ints_length]; omega)]
    · rw [if_neg hz]
      simp only [if_neg (show ¬ ((loops m lN : Nat) : Int) = 0 by omega)]
      exact Ev.now _
theorem specChar (n : Int) (l : List Int) (hn : l.length ≤ 1048576) : Ev (fun k => spec_CharacteristicOf.f k n l) (charI n l) := by
  unfold spec_CharacteristicOf.f charI
  refine Ev.bind (specRankOf n l hn) ?_
  cases h : isMat n l with
  | false =>
    simp only [Bool.false_eq_true, if_false, if_pos (show (-1 : Int) < 0 by decide)]
    exact Ev.now _
  | true =>
    have hL := specLoops n l hn
    unfold loopsI at hL
    rw [if_pos h] at hL
    obtain ⟨m, lN, rfl, hm, rfl, hl, h0, hf⟩ := mat_nat h
    rw [ints_length] at hn
    have h256 := pow_le_256 hm
    have hl8 := mem_256 hm hl
    have ht := top_le lN
    rw [toNat_ints, Int.toNat_natCast] at hL
    simp only [if_true, toNat_ints, Int.toNat_natCast]
    simp only [if_neg (show ¬ (top lN : Int) < 0 by omega), Gen.w64s (top lN) (by omega), if_pos (show (0 : Int) ≤ ((top lN + 1 : Nat) : Int) by omega), Int.toNat_natCast, if_pos (show top lN + 1 ≤ 35184372088832 by omega)]
    have hfl := flats_length m hm lN
    refine Ev.bind (specFlatsN m hm lN hl8 hn) (Ev.bind (specMoeb (m : Int) (ints lN) (flats m lN) hfl (fun x hx => by have := (flats_lt hx).1; omega)) ?_)
    have hv := mu_length (flats m lN) (flats m lN).length
    unfold char
    by_cases hz : loops m lN = 0
    · rw [if_pos hz]
      rw [hz] at hL
      generalize hV : mu (flats m lN) (flats m lN).length = v at *
      refine Gen.ev_loop (fun k (s : List Int) i => spec_CharacteristicOf.l0 k (top lN : Int) s (ints (flats m lN)) v i (m : Int) (ints lN)) (flats m lN).length (fun i s => step lN (flats m lN) v i s) (fun i s => s.length = top lN + 1) _ (fun i s hi hP => ⟨?_, fun h => ?_⟩) (flats m lN).length 0 _ (by omega) (by simp) (fun hP => Gen.ev_at 1 (fun k hk => ?_))
      · rw [step_length, hP]
      · have hlt := rank_le hl8 hf h0 ((flats m lN).getD i 0)
        have hs := (flats_lt (getD_mem (flats m lN) 0 i hi)).1
        have hrd := ints_rd (flats m lN) i
        unfold step at h
        generalize hx : (flats m lN).getD i 0 = x at *
        have hsub : wrap64 ((top lN : Int) - (rank lN x : Int)) = ((top lN - rank lN x : Nat) : Int) := by
          rw [Gen.w64 (by omega) (by omega)]
          omega
        refine Ev.step (f := fun k => (spec_LoopsOf.f k (m : Int) (ints lN)).bind fun t758 => (if t758 = 0 then ((spec_l5Rank.f k (m : Int) (ints lN) (x : Int)).bind fun t781 => (if 0 ≤ (wrap64 ((top lN : Int) - t781)) then (if (wrap64 ((top lN : Int) - t781)) < (s.length : Int) then (spec_CharacteristicOf.l0 k (top lN : Int) (s.set ((wrap64 ((top lN : Int) - t781)) : Int).toNat (wrap64 ((rd s (wrap64 ((top lN : Int) - t781))) + (v.getD i 0)))) (ints (flats m lN)) v ((i + 1 : Nat) : Int) (m : Int) (ints lN)) else (none)) else (none))) else (some s))) (fun k => ?_) ?_
        · simp only [spec_CharacteristicOf.l0]
          rw [if_pos (by rw [ints_length]; omega), hrd, Gen.w64s i (by omega), Gen.rd_nat]
          simp only [if_pos (show (i : Int) < (v.length : Int) by omega), if_pos (show (0 : Int) ≤ (i : Int) by omega)]
        · refine Ev.bind hL ?_
          simp only [if_pos (show ((0 : Nat) : Int) = 0 from rfl)]
          refine Ev.bind (specRank m lN x (by omega) hl8 hn) ?_
          simp only [hsub, if_pos (show (0 : Int) ≤ ((top lN - rank lN x : Nat) : Int) by omega), if_pos (show ((top lN - rank lN x : Nat) : Int) < (s.length : Int) by omega), Int.toNat_natCast, Gen.rd_nat]
          exact h
      · obtain ⟨q, rfl⟩ : ∃ q, k = q + 1 := ⟨k - 1, by omega⟩
        simp only [spec_CharacteristicOf.l0]
        rw [if_neg (by rw [ints_length]; omega)]
    · rw [if_neg hz]
      by_cases hlen : 0 < (flats m lN).length
      · refine Ev.step (f := fun k => (spec_LoopsOf.f k (m : Int) (ints lN)).bind fun t758 => (if t758 = 0 then (if (0 : Int) ≤ 0 then ((spec_l5Rank.f k (m : Int) (ints lN) (rd (ints (flats m lN)) 0)).bind fun t760 => (if 0 ≤ (wrap64 ((top lN : Int) - t760)) then (if (wrap64 ((top lN : Int) - t760)) < ((List.replicate (top lN + 1) (0 : Int)).length : Int) then (if 0 < ((mu (flats m lN) (flats m lN).length).length : Int) then (spec_CharacteristicOf.l0 k (top lN : Int) ((List.replicate (top lN + 1) (0 : Int)).set ((wrap64 ((top lN : Int) - t760)) : Int).toNat (wrap64 ((rd (List.replicate (top lN + 1) (0 : Int)) (wrap64 ((top lN : Int) - t760))) + (rd (mu (flats m lN) (flats m lN).length) 0)))) (ints (flats m lN)) (mu (flats m lN) (flats m lN).length) (wrap64 (0 + 1)) (m : Int) (ints lN)) else (none)) else (none)) else (none))) else (none)) else (some (List.replicate (top lN + 1) 0)))) (fun k => ?_) (Ev.bind hL ?_)
        · simp only [spec_CharacteristicOf.l0]
          rw [if_pos (by rw [ints_length]; omega)]
        · simp only [if_neg (show ¬ ((loops m lN : Nat) : Int) = 0 by omega)]
          exact Ev.now _
      · refine Gen.ev_at 1 (fun k hk => ?_)
        obtain ⟨q, rfl⟩ : ∃ q, k = q + 1 := ⟨k - 1, by omega⟩
        simp only [spec_CharacteristicOf.l0]
        rw [if_neg (by rw [ints_length]; omega)]
end Go.Proofs.Ytaepaekagenfnaa.Char
end
section
namespace Go.Proofs.Ytaepaekagenfnaa.Pure
open Go.RowKit Go.Proofs.Ytaepaekagenfnaa.Pr Go.Proofs.Ytaepaekagenfnaa.Base Go.Proofs.Ytaepaekagenfnaa.Sets Go.Proofs.Ytaepaekagenfnaa.Mat Go.Proofs.Ytaepaekagenfnaa.Rank Go.Proofs.Ytaepaekagenfnaa.Flat Go.Proofs.Ytaepaekagenfnaa.Size Go.Proofs.Ytaepaekagenfnaa.Whit Go.Proofs.Ytaepaekagenfnaa.Char Go.Proofs.YtaepaekagenfnaaW.PrintWords Go.Proofs.YtaepaekagenfnaaW.PrintLast Go.Proofs.YtaepaekagenfnaaW.PrintMore
set_option linter.unusedVariables false
theorem charI_length (n : Int) (l : List Int) : (charI n l).length ≤ 9 := by
  unfold charI
  split
  · rw [char_length]
    have := top_le (l.map Int.toNat)
    omega
  · simp
theorem FnExactCharacteristicOf (n : Int) (xs : List Int) (_ : (Lit.int .i64 n).wf = true) (hm : xs.length ≤ maxLen ∧ ∀ x ∈ xs, (Lit.int .i64 x).wf = true) : ∃ k, laws_FnExactCharacteristicOf.f k n xs = some true := by
  obtain ⟨z, hz, h⟩ := szMatroid n xs 1048576 hm.1 (by decide) (by decide)
  refine Ev.rounds ?_
  unfold laws_FnExactCharacteristicOf.f
  rw [hz]
  simp only [Option.bind_some]
  by_cases hneg : z < 0
  · simp only [if_pos hneg]
    exact Ev.now _
  · simp only [if_neg hneg]
    have hl : xs.length ≤ 1048576 := by rcases h with h | h <;> omega
    have hr := charI_length n xs
    have hrl : (charI n xs).length ≤ 1048576 := by omega
    refine Ev.bind (toMatroid n xs hl) (Ev.bind (specChar n xs hl) (Ev.bind (toMatroid n xs hl) (Ev.bind (implChar n xs hl) (Ev.bind (eqIntSE _ hrl) ?_))))
    simp only [if_true]
    refine Ev.bind (toMatroid n xs hl) (Ev.bind (eqMatroid n xs hl) ?_)
    simp only [if_true]
    refine Ev.bind (markMatroid n xs 1 hl (by decide) (by decide)) ?_
    simp only [if_neg (show ¬ ((1 : Int) + (xs.length : Int) < 0) by omega)]
    refine Ev.bind (eqIntSE _ hrl) ?_
    simp only [Bool.not_true]
    refine Ev.step (f := fun k => (laws_markIntS.f k (charI n xs) 1).bind fun bt546 => ((laws_heldIntS.f k bt546.2 1).bind fun t548 => (if t548 < 0 then (some false) else (if t548 = bt546.1 then ((laws_toMatroid.f k n xs).bind fun bt549 => ((impl_CharacteristicOf.f k bt549.1 bt549.2).bind fun t553 => ((laws_eqIntS.f k t553 (charI n xs)).bind fun t556 => (if t556 = true then ((laws_heldIntS.f k bt546.2 1).bind fun t557 => (if t557 < 0 then (some false) else (if t557 = bt546.1 then (some true) else (some false)))) else (some false))))) else (some false))))) (fun k => ?_) ?_
    · simp only [laws_FnExactCharacteristicOf.j0]
      rw [if_neg (by decide)]
    · refine Ev.bind (markIntS _ 1 hrl (by decide) (by decide)) ?_
      have hh := heldIntS 1 (charI n xs).length hrl (by decide) (by decide)
      refine Ev.bind hh ?_
      simp only [if_neg (show ¬ ((1 : Int) + ((charI n xs).length : Int) < 0) by omega), if_true]
      refine Ev.bind (toMatroid n xs hl) (Ev.bind (implChar n xs hl) (Ev.bind (eqIntSE _ hrl) ?_))
      simp only [if_true]
      refine Ev.bind hh ?_
      simp only [if_neg (show ¬ ((1 : Int) + ((charI n xs).length : Int) < 0) by omega), if_true]
      exact Ev.now _
end Go.Proofs.Ytaepaekagenfnaa.Pure
end
section
namespace Go.Proofs.Ytaepaekagenfnaa.Open
open Go.ChangeShapes Go.WideShapes Go.RowKit Go.Proofs.YtaepaekagenfnaaW.PrintWords Go.Deep
set_option linter.unusedVariables false
structure Opens {α : Type} (P : Program) (d : Kd α) (t : TypeId) (Wf : α → Prop) : Prop where
  go : ∀ (H : Type) (enc : TypeId × Value → H) (w : World) (base : Nat) (spare : Nat → Bool) (held : Bool) (fuel : Nat) (cs : List Value) (x : DataW H × List MemPlace),
    DataW.trod enc P w base spare held fuel t cs = some x → ∃ a, d.K w a cs ∧ Wf a
theorem Opens.int {P : Program} {t : TypeId} {k : IntKind} (ht : P.underlying t = some (.int k)) : Opens P (Kd.int k) t (fun n => (Lit.int k n).wf = true) := by
  refine ⟨fun H enc w base spare held fuel cs x h => ?_⟩
  obtain ⟨n, rfl, _, hw⟩ := DataW.trod_int ht h
  exact ⟨n, rfl, hw⟩
theorem Opens.bool {P : Program} {t : TypeId} (ht : P.underlying t = some .bool) : Opens P Kd.bool t (fun _ => True) := by
  refine ⟨fun H enc w base spare held fuel cs x h => ?_⟩
  obtain ⟨n, rfl, _⟩ := DataW.trod_bool ht h
  exact ⟨n, rfl, trivial⟩
theorem list_of {α : Type} {p : Nat → α → Prop} : ∀ {len : Nat}, (∀ i, i < len → ∃ y, p i y) → ∃ xs : List α, xs.length = len ∧ ∀ i y, xs[i]? = some y → p i y := by
  intro len
  induction len with
  | zero => exact fun _ => ⟨[], rfl, fun i y h => by simp at h⟩
  | succ len ih =>
    intro key
    obtain ⟨xs, hxl, hxs⟩ := ih (fun i hi => key i (by omega))
    obtain ⟨y, hy⟩ := key len (by omega)
    refine ⟨xs ++ [y], by simp [hxl], fun i z hz => ?_⟩
    by_cases hi : i < xs.length
    · rw [List.getElem?_append_left hi] at hz
      exact hxs i z hz
    · have hlt : i < (xs ++ [y]).length := (List.getElem?_eq_some_iff.1 hz).1
      have e : i = len := by simp [hxl] at hlt hi; omega
      subst e
      rw [List.getElem?_append_right (by omega), hxl] at hz
      simp at hz
      subst hz
      exact hy
theorem Opens.slice {α : Type} {P : Program} {t e : TypeId} {d : Kd α} {Wf : α → Prop} (ht : P.underlying t = some (.slice e)) (hs : P.cellsOf e = d.sz) (h : Opens P d e Wf) :
    Opens P (Kd.slice e d) t (fun xs => xs.length ≤ maxLen ∧ ∀ x ∈ xs, Wf x) := by
  refine ⟨fun H enc w base spare held fuel cs x hx => ?_⟩
  rcases open_slice ht hx with ⟨rfl, _⟩ | ⟨a, len, cap, m, n, D, Pl, rfl, hb, hl, hm, hmm, _, hel⟩
  · exact ⟨[], ⟨none, 0, rfl, Nat.le_refl _, rfl, by simp, fun h => absurd h (by simp)⟩, by simp, by simp⟩
  · have hlm : len ≤ m := by rw [hmm]; split <;> omega
    have key : ∀ i, i < len → ∃ y : α, (∃ cs', w.cells? base (a.add (i * P.cellsOf e)) (P.cellsOf e) = some cs' ∧ d.K w y cs') ∧ Wf y := fun i hi => by
      obtain ⟨cs', h1, h2⟩ := hel i (by omega)
      obtain ⟨y, h3, h4⟩ := h.go _ enc w base spare held n cs' _ h2
      exact ⟨y, ⟨cs', h1, h3⟩, h4⟩
    obtain ⟨xs, hxl, hxs⟩ := list_of key
    refine ⟨xs, ⟨some a, cap, by rw [hxl], by omega, rfl, by have := hm; unfold maxLen at this; omega, fun _ => ⟨a, rfl, fun j p hj => ?_⟩⟩, by omega, fun y hy => ?_⟩
    · obtain ⟨⟨cs', h1, h2⟩, _⟩ := hxs j p hj
      obtain ⟨_, h3, h4⟩ := World.cells?_some h1
      refine ⟨cs', by rw [h3, hs], h2, fun i u hu => ?_⟩
      have hlt : i < cs'.length := (List.getElem?_eq_some_iff.1 hu).1
      have := h4 i (by omega)
      rw [hs, Go.Deep.add_add] at this
      rw [this, hu]
    · obtain ⟨i, hi⟩ := List.getElem?_of_mem hy
      exact (hxs i y hi).2
structure OpensFs {α : Type} (P : Program) (fs : List Field) (off : Nat) (d : Kd α) (Wf : α → Prop) : Prop where
  go : ∀ (H : Type) (enc : TypeId × Value → H) (w : World) (base : Nat) (spare : Nat → Bool) (held : Bool) (n : Nat) (cs : List Value),
    cs.length = off + d.sz → (∀ f ∈ fs, ∃ x, DataW.trod enc P w base spare held n f.type ((cs.drop f.offset).take (P.cellsOf f.type)) = some x) → ∃ a, d.K w a (cs.drop off) ∧ Wf a
theorem OpensFs.one {α : Type} {P : Program} {f : Field} {off : Nat} {d : Kd α} {Wf : α → Prop} (ho : f.offset = off) (hs : P.cellsOf f.type = d.sz) (h : Opens P d f.type Wf) : OpensFs P [f] off d Wf := by
  refine ⟨fun H enc w base spare held n cs hl hf => ?_⟩
  obtain ⟨x, hx⟩ := hf f (by simp)
  rw [ho, hs, List.take_of_length_le (by rw [List.length_drop]; omega)] at hx
  exact h.go _ enc w base spare held n _ x hx
theorem OpensFs.cons {α β : Type} {P : Program} {f : Field} {fs : List Field} {off : Nat} {d : Kd α} {d' : Kd β} {Wf : α → Prop} {Wf' : β → Prop} (ho : f.offset = off) (hs : P.cellsOf f.type = d.sz) (h : Opens P d f.type Wf)
    (h' : OpensFs P fs (off + d.sz) d' Wf') : OpensFs P (f :: fs) off (Kd.pair d d') (fun x => Wf x.1 ∧ Wf' x.2) := by
  refine ⟨fun H enc w base spare held n cs hl hf => ?_⟩
  have hl' : cs.length = off + (d.sz + d'.sz) := hl
  obtain ⟨x, hx⟩ := hf f (by simp)
  rw [ho, hs] at hx
  obtain ⟨a, ha, wa⟩ := h.go _ enc w base spare held n _ x hx
  obtain ⟨b, hb, wb⟩ := h'.go _ enc w base spare held n cs (by omega) (fun g hg => hf g (by simp [hg]))
  refine ⟨(a, b), ⟨(cs.drop off).take d.sz, cs.drop (off + d.sz), ?_, ha, hb⟩, wa, wb⟩
  rw [← List.drop_drop, List.take_append_drop]
theorem Opens.struct {α : Type} {P : Program} {t : TypeId} {fs : Array Field} {d : Kd α} {Wf : α → Prop} (ht : P.underlying t = some (.struct fs)) (hs : P.cellsOf t = d.sz) (h : OpensFs P fs.toList 0 d Wf) : Opens P d t Wf := by
  refine ⟨fun H enc w base spare held fuel cs x hx => ?_⟩
  obtain ⟨xs, n, _, _, hl, hlen, hg⟩ := DataW.trod_struct ht hx
  obtain ⟨a, ha, wa⟩ := h.go _ enc w base spare held n cs (by omega) (fun f hf => by
    obtain ⟨i, hi⟩ := List.getElem?_of_mem hf
    have h1 := hg i f (by simpa using hi)
    have hlt : i < fs.size := by have := (List.getElem?_eq_some_iff.1 hi).1; simpa using this
    exact ⟨_, h1.trans (List.getElem?_eq_getElem (by omega))⟩)
  exact ⟨a, by simpa using ha, wa⟩
theorem Opens.argStruct {α : Type} {P : Program} {t : TypeId} {d : Kd α} {Wf : α → Prop} (h : Opens P d t Wf) {H : Type} {enc : TypeId × Value → H} {w : World} {base : Nat} {spare : Nat → Bool} {held : Bool} {v : Value} {x : DataW H} {ps : List MemPlace}
    (hv : ∃ cs, v = .agg cs ∧ cs.size = P.cellsOf t) (ht : DataW.Trod enc P w base spare held t v x ps) : ∃ cs a, v = .agg cs.toArray ∧ d.K w a cs ∧ Wf a := by
  obtain ⟨cs, rfl, _⟩ := hv
  obtain ⟨fuel, hf⟩ := ht
  obtain ⟨a, ha, wf⟩ := h.go _ enc w base spare held fuel _ _ hf
  exact ⟨cs.toList, a, by simp, ha, wf⟩
end Go.Proofs.Ytaepaekagenfnaa.Open
end
section
namespace Go.Proofs.Ytaepaekagenfnaa.fnExactCharacteristicOf
open Go.ChangeShapes Go.WideShapes Go.ChangeAt Go.RowKit Go.Proofs.Ytaepaekagenfnaa.Open Go.Proofs.YtaepaekagenfnaaW.PrintWords
open Go.ChangeMaps (open_string shut_string)
set_option linter.unusedVariables false
theorem own : ownKnob Try.prog.godebug = none := by kernel_rfl
theorem laidOut : laidOutB Try.prog = true := by kernel_rfl
set_option maxRecDepth 100000 in
theorem lifted (os : Os) (started : os.Started) (H : Type) (enc : TypeId × Value → H) :
    ReturnsInHanded {} Try.checked os 12 .any (Rows.fnExactCharacteristicOfSpec.pre6 enc Try.prog Try.f12 Rows.fnExactCharacteristicOfRow.domain false) (Rows.fnExactCharacteristicOfSpec.post enc Try.prog Try.f12 false true false false) := by
  refine returnsInHanded_of_change_sized (C := Try.checked) own started (by kernel_rfl) Try.func12
    (ChangeSpec.witness6 (enc := enc) (C := Try.checked) false ⟨#[], #[.agg #[.int .i64 0, .slice none 0 0]], []⟩ 8 (by kernel_rfl) (by kernel_rfl) (by kernel_rfl) (by kernel_rfl)) ?_
  intro W base args ds gs before hval0 hW hcnd hsz0 _
  have hval : ∀ (j : Nat) t v, Try.f12.params[j]? = some t → args[j]? = some v → Value.okWide Try.prog W .any base t v := hval0
  have hW' := hW
  obtain ⟨p, q, hA0, hV, rfl, hfz, hnd⟩ := hW
  have hA : DataW.TrodAll enc Try.prog W 0 (fun _ => true) true Try.f12.params.toList args.toList ds p := hA0
  rw [Try.params12] at hA hval
  obtain ⟨v0, vs0, d0, ds0, p0, q0, hargs, rfl, rfl, h0, r0⟩ := trodAll_cons hA
  obtain ⟨rfl, rfl, rfl⟩ := trodAll_nil r0
  obtain rfl : args = #[v0] := by cases args; simp_all
  obtain ⟨rfl, rfl⟩ := trodVars_none hV
  have k0 := h0
  have lt0 : ∀ x ∈ p0, x.block < W.heap.size := by obtain ⟨m, hm⟩ := k0; exact DataW.trod_lt m _ _ _ hm
  obtain ⟨cs0, x0, rfl, K0, w0⟩ := Opens.argStruct (Opens.struct Try.underlying24 (by kernel_rfl) (OpensFs.cons rfl (by kernel_rfl) (Opens.int Try.underlying3) (OpensFs.one rfl (by kernel_rfl) (Opens.slice Try.underlying22 (by kernel_rfl) (Opens.int Try.underlying3))))) (okWide_struct Try.underlying24 (hval 0 24 v0 rfl rfl)) h0
  obtain ⟨_, _, rfl, rfl, ⟨A0_1, c0_1, rfl, hl0_1, hr0_1⟩⟩ := K0
  obtain ⟨w0_0, w0_1⟩ := w0
  clear hA0 hval0 hsz0
  obtain ⟨k, hk⟩ := Pure.FnExactCharacteristicOf x0.1 x0.2 w0_0 w0_1
  refine (Pr.laws_FnExactCharacteristicOf.calls k x0.1 _ _ x0.2 true W hr0_1 hl0_1 ⟨rfl⟩ hk).mono fun e W' ⟨he, bel⟩ => ?_
  subst he
  exact ⟨_, rfl, _, _, _, [], _, [], hW', trodAll_mk1 (shut_bool Try.underlying4 _), (trodAll_cons_mk (Below.trod laidOut (by kernel_rfl) (of_decide_eq_true (by kernel_rfl)) k0 bel lt0) trodAll_mk0), rfl, bel.frame _, fun h => by cases h⟩
theorem over : Rows.fnExactCharacteristicOfRow.holds Try.pinned (OpenSpec.ofChange Rows.fnExactCharacteristicOfSpec) :=
  OpenClaim.holds_of_wide 12 Try.f12 rfl rfl rfl rfl rfl rfl rfl ⟨rfl, rfl, rfl, rfl, rfl⟩ rfl rfl rfl rfl rfl (by kernel_rfl) Try.func12 (by kernel_rfl)
    (of_decide_eq_true (by kernel_rfl)) (by unfold Func.isWrapper; first | (rw [if_pos (by decide +kernel)]; kernel_rfl) | (rw [if_neg (by decide +kernel)]; exact ⟨rfl, rfl⟩))
    (fun os started H enc _ => lifted os started H enc)
theorem proved : Rows.FnExactCharacteristicOfSaid := over
#print axioms proved
end Go.Proofs.Ytaepaekagenfnaa.fnExactCharacteristicOf
namespace Go.Proofs.Ytaepaekagenfnaa
theorem fnExactCharacteristicOf_holds : Rows.FnExactCharacteristicOfSaid := fnExactCharacteristicOf.proved
end Go.Proofs.Ytaepaekagenfnaa
end
