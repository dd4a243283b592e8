/- The claim FnTasks: every text that its row comes to, laid together by slim.py (the words of the kit's print, the printed walks, the pure law, the row). -/
import Derived.Test.YtmpodackojmojaaGreatYFnTasks3
section
namespace Go.Proofs.YtmpodackojmojaaGreat.Pr
open Go.RowKit Go.Proofs.YtmpodackojmojaaGreatW.PrintWords Go.Proofs.YtmpodackojmojaaGreatW.PrintLast Go.Proofs.YtmpodackojmojaaGreatW.PrintMore
attribute [local go_sem] max2_int min2_int max_two min_two max_three min_three max_four min_four
set_option linter.unusedVariables false
set_option linter.unusedSimpArgs false
mutual
def laws_FnTasks.j0 : Nat → List (S74) → Int → Bool → List Int → Bool → Int → List Int → Option (Bool)
 | 0, _, _, _, _, _, _, _ => none
 | k + 1, x3, x4, x5, x11, x108, x769000, x769001 => if x108 = true then (some false) else (laws_FnTasks.l0 k x3 x4 x5 x11 0 x769000 x769001)
def laws_FnTasks.l0 : Nat → List (S74) → Int → Bool → List Int → Int → Int → List Int → Option (Bool)
 | 0, _, _, _, _, _, _, _ => none
 | k + 1, x3, x4, x5, x11, x17, x769000, x769001 => if x17 < (x11.length : Int) then (laws_FnTasks.l1 k x3 x4 x5 x11 x17 0 x769000 x769001) else (if x5 = true then (laws_FnTasks.l2 k x3 x4 0 x769000 x769001) else ((spec_AreTasks.f k x3).bind fun t799 => (some (!t799))))
def laws_FnTasks.l1 : Nat → List (S74) → Int → Bool → List Int → Int → Int → Int → List Int → Option (Bool)
 | 0, _, _, _, _, _, _, _, _ => none
 | k + 1, x3, x4, x5, x11, x17, x18, x769000, x769001 => if x18 < x17 then (if 0 ≤ x17 then (if x17 < (x11.length : Int) then (if 0 ≤ x18 then (if x18 < (x11.length : Int) then (if (rd x11 x17) = (rd x11 x18) then (some false) else (laws_FnTasks.l1 k x3 x4 x5 x11 x17 (wrap64 (x18 + 1)) x769000 x769001)) else (none)) else (none)) else (none)) else (none)) else (laws_FnTasks.l0 k x3 x4 x5 x11 (wrap64 (x17 + 1)) x769000 x769001)
def laws_FnTasks.l2 : Nat → List (S74) → Int → Int → Int → List Int → Option (Bool)
 | 0, _, _, _, _, _ => none
 | k + 1, x3, x4, x19, x769000, x769001 => (spec_FullSet.f (x3.length : Int)).bind fun t800 => (if x19 ≤ t800 then ((spec_PlanOf.f k x3 x19).bind fun bt802 => (if bt802.2 = true then ((spec_EarningsOf.f k x3 x19).bind fun t806 => ((spec_EarningsOf.f k x3 x4).bind fun t807 => (if t806 > t807 then (some false) else ((spec_CountOf.f k x19).bind fun t808 => ((impl_LateTasks.f k x3).bind fun t809 => (if t808 > (wrap64 ((x3.length : Int) - t809)) then (some false) else (laws_FnTasks.l2 k x3 x4 (wrap64 (x19 + 1)) x769000 x769001))))))) else (laws_FnTasks.l2 k x3 x4 (wrap64 (x19 + 1)) x769000 x769001))) else ((spec_IsMatroid.f k x769000 x769001).bind fun t801 => (some t801)))
end
def laws_FnTasks.f (k : Nat) (l0 : List Int) : Option (Bool) := (laws_big.f l0).bind fun t756 => (if t756 = true then (some true) else ((spec_DrawBestTasks.f k l0).bind fun t757 => ((impl_BestTasks.f k t757).bind fun bt760 => ((spec_BestTasks.f k t757).bind fun bt762 => ((impl_TaskMatroid.f k t757).bind fun bt764 => ((spec_DrawPlanOf.f k l0).bind fun bt769 => ((impl_PlanOf.f k bt769.1 bt769.2).bind fun bt773 => ((spec_PlanOf.f k bt769.1 bt769.2).bind fun bt777 => ((spec_DrawEarningsOf.f k l0).bind fun bt781 => (if (bt760.2 != bt762.2) = true then (laws_FnTasks.j0 k t757 bt760.1 bt760.2 bt773.1 true bt764.1 bt764.2) else (if bt760.1 = bt762.1 then ((spec_TaskMatroid.f k t757).bind fun bt785 => ((spec_EqualMatroid.f k bt764.1 bt764.2 bt785.1 bt785.2).bind fun t789 => (if t789 = true then (if (bt773.2 != bt777.2) = true then (laws_FnTasks.j0 k t757 bt760.1 bt760.2 bt773.1 true bt764.1 bt764.2) else ((laws_sameInts.f k bt773.1 bt777.1).bind fun t790 => (if t790 = true then ((impl_EarningsOf.f k bt781.1 bt781.2).bind fun t791 => ((spec_EarningsOf.f k bt781.1 bt781.2).bind fun t792 => (if t791 = t792 then ((impl_LateTasks.f k t757).bind fun t793 => ((spec_LateTasks.f k t757).bind fun t794 => (if t793 = t794 then ((impl_AreTasks.f k t757).bind fun t795 => ((spec_AreTasks.f k t757).bind fun t796 => (laws_FnTasks.j0 k t757 bt760.1 bt760.2 bt773.1 (t795 != t796) bt764.1 bt764.2))) else (laws_FnTasks.j0 k t757 bt760.1 bt760.2 bt773.1 true bt764.1 bt764.2)))) else (laws_FnTasks.j0 k t757 bt760.1 bt760.2 bt773.1 true bt764.1 bt764.2)))) else (laws_FnTasks.j0 k t757 bt760.1 bt760.2 bt773.1 true bt764.1 bt764.2)))) else (laws_FnTasks.j0 k t757 bt760.1 bt760.2 bt773.1 true bt764.1 bt764.2)))) else (laws_FnTasks.j0 k t757 bt760.1 bt760.2 bt773.1 true bt764.1 bt764.2))))))))))))
def laws_FnTasks.T11 : Bool × List (List Nat × List Nat) := (true, [([], []), ([], []), ([0, 1], [0, 1]), ([2], [2]), ([3], [3]), ([3], [3]), ([4, 5, 3], [3, 4, 5]), ([3, 6], [3, 6]), ([7, 3], [7]), ([8], [8]), ([8], [8]), ([10, 8, 8], [8, 10]), ([9, 11, 11, 8], [8, 9, 11]), ([12, 8], [8, 12]), ([8, 13], [8, 13]), ([14, 12], [14]), ([15], [15]), ([15], [15]), ([16, 17, 15], [15, 16, 17]), ([15, 18], [15, 18]), ([19, 15], [19]), ([20], [20]), ([20], [20]), ([21, 22, 20, 20], [20, 21, 22]), ([23, 20], [20, 23]), ([20, 24], [20, 24]), ([25, 23], [25]), ([26], [26]), ([26], [26]), ([27, 28, 26, 26], [26, 27, 28]), ([26], [26]), ([26], [26]), ([30, 31, 29, 26], [26, 30, 31]), ([29, 32, 26], [26, 29, 32]), ([26, 33], [26, 33]), ([34, 32], [34]), ([35], [35]), ([36, 35, 35], [35, 36]), ([35], [35]), ([38, 37, 35], [35, 38]), ([37, 39, 35], [35, 37, 39]), ([35, 40], [35, 40]), ([41, 39], [41]), ([42], [42]), ([43, 42, 42], [42, 43]), ([42], [42]), ([45, 44, 42], [42, 45]), ([44, 46, 42], [42, 44, 46]), ([42, 47], [42, 47])])
def laws_FnTasks.B11 : List Nat := [0, 0, 3, 7, 15, 15, 63, 127, 255, 511, 511, 1535, 4095, 8191, 16383, 32767, 65535, 65535, 262143, 524287, 1048575, 2097151, 2097151, 8388607, 16777215, 33554431, 67108863, 134217727, 134217727, 536870911, 134217727, 134217727, 4294967295, 8589934591, 17179869183, 34359738367, 68719476735, 137438953471, 68719476735, 549755813887, 1099511627775, 2199023255551, 4398046511103, 8796093022207, 17592186044415, 8796093022207, 70368744177663, 140737488355327, 281474976710655]
theorem laws_FnTasks.tab11 : rtab .any (opsOf Tryz.f3 11) = laws_FnTasks.T11 := by kernel_rfl
theorem laws_FnTasks.bits11 : waitsOk laws_FnTasks.T11.2 laws_FnTasks.B11 = true := by kernel_rfl
def laws_FnTasks.T19 : Bool × List (List Nat × List Nat) := (true, [([], []), ([], []), ([0, 1], [0, 1]), ([2], [2]), ([], []), ([], []), ([4, 5], [4, 5]), ([6], [6]), ([3, 7], [3, 7])])
def laws_FnTasks.B19 : List Nat := [0, 0, 3, 7, 0, 0, 48, 112, 255]
theorem laws_FnTasks.tab19 : rtab .any (opsOf Tryz.f3 19) = laws_FnTasks.T19 := by kernel_rfl
theorem laws_FnTasks.bits19 : waitsOk laws_FnTasks.T19.2 laws_FnTasks.B19 = true := by kernel_rfl
set_option maxHeartbeats 8000000 in
set_option maxRecDepth 100000 in
theorem laws_FnTasks.calls (k : Nat) (A0 : Option Addr) (c0 : Nat) (l0 : List Int) (r : Bool) (w : World) (hr0 : Kd.C (Kd.int .u8) w A0 l0.length l0) (hc0 : l0.length ≤ c0) (hT : Aside0 (r = true)) (h : laws_FnTasks.f k l0 = some r) :
  Calls Tryz.prog 3 #[.slice A0 l0.length c0] w fun e w' => e = .returned (.bool r) ∧ Below w.heap.size w w' := by
 have hu30 := Tryz.underlying30
 have HR0 := Aside0.mk hr0
 have HC0 := Aside0.mk hc0
 clear hr0 hc0
 have HB := Aside0.mk (Below.refl w.heap.size w)
 unfold laws_FnTasks.f at h
 have H := h
 clear h
 obtain ⟨t756, A2, H⟩ := Hof.be H
 (try dsimp only at H)
 by_cases c3 : t756 = true
 ·subst c3
  replace H : (some true) = some r := by rw [if_pos rfl] at H; exact H
  obtain rfl := Option.some.inj H
  go_enter Tryz.func3, Tryz.ntmps3
  go_wp2_with (first | ((with_reducible refine gate_callee (f := 6) rfl ?_); refine Hof.gl (some 23) Tryz.func6 #[.slice A0 l0.length c0] ?_; (with_reducible refine (laws_big.calls _ _ l0 true _ ?side1 ?side2 A2.out).mono ?_); (case side1 => exact Hof.Cw HR0.out); (case side2 => exact HC0.out); rintro e w' ⟨rfl, ⟨nd, rfl⟩⟩; refine ⟨_, rfl, ?_⟩))
  go_ret
  exact ⟨Hof.E, Hof.L⟩
 ·replace c3 := Bool.eq_false_iff.mpr c3
  subst c3
  replace H : ((spec_DrawBestTasks.f k l0).bind fun t757 => ((impl_BestTasks.f k t757).bind fun bt760 => ((spec_BestTasks.f k t757).bind fun bt762 => ((impl_TaskMatroid.f k t757).bind fun bt764 => ((spec_DrawPlanOf.f k l0).bind fun bt769 => ((impl_PlanOf.f k bt769.1 bt769.2).bind fun bt773 => ((spec_PlanOf.f k bt769.1 bt769.2).bind fun bt777 => ((spec_DrawEarningsOf.f k l0).bind fun bt781 => (if (bt760.2 != bt762.2) = true then (laws_FnTasks.j0 k t757 bt760.1 bt760.2 bt773.1 true bt764.1 bt764.2) else (if bt760.1 = bt762.1 then ((spec_TaskMatroid.f k t757).bind fun bt785 => ((spec_EqualMatroid.f k bt764.1 bt764.2 bt785.1 bt785.2).bind fun t789 => (if t789 = true then (if (bt773.2 != bt777.2) = true then (laws_FnTasks.j0 k t757 bt760.1 bt760.2 bt773.1 true bt764.1 bt764.2) else ((laws_sameInts.f k bt773.1 bt777.1).bind fun t790 => (if t790 = true then ((impl_EarningsOf.f k bt781.1 bt781.2).bind fun t791 => ((spec_EarningsOf.f k bt781.1 bt781.2).bind fun t792 => (if t791 = t792 then ((impl_LateTasks.f k t757).bind fun t793 => ((spec_LateTasks.f k t757).bind fun t794 => (if t793 = t794 then ((impl_AreTasks.f k t757).bind fun t795 => ((spec_AreTasks.f k t757).bind fun t796 => (laws_FnTasks.j0 k t757 bt760.1 bt760.2 bt773.1 (t795 != t796) bt764.1 bt764.2))) else (laws_FnTasks.j0 k t757 bt760.1 bt760.2 bt773.1 true bt764.1 bt764.2)))) else (laws_FnTasks.j0 k t757 bt760.1 bt760.2 bt773.1 true bt764.1 bt764.2)))) else (laws_FnTasks.j0 k t757 bt760.1 bt760.2 bt773.1 true bt764.1 bt764.2)))) else (laws_FnTasks.j0 k t757 bt760.1 bt760.2 bt773.1 true bt764.1 bt764.2)))) else (laws_FnTasks.j0 k t757 bt760.1 bt760.2 bt773.1 true bt764.1 bt764.2))))))))))) = some r := by rw [if_neg (show ¬ (false = true) by decide)] at H; exact H
  obtain ⟨t757, A4, H⟩ := Hof.be H
  (try dsimp only at H)
  obtain ⟨⟨t760, t761⟩, A5, H⟩ := Hof.be H
  (try dsimp only at H)
  obtain ⟨⟨t762, t763⟩, A6, H⟩ := Hof.be H
  (try dsimp only at H)
  obtain ⟨⟨t764, t765⟩, A7, H⟩ := Hof.be H
  (try dsimp only at H)
  obtain ⟨⟨t769, t770⟩, A8, H⟩ := Hof.be H
  (try dsimp only at H)
  obtain ⟨⟨t773, t774⟩, A9, H⟩ := Hof.be H
  (try dsimp only at H)
  obtain ⟨⟨t777, t778⟩, A10, H⟩ := Hof.be H
  (try dsimp only at H)
  obtain ⟨⟨t781, t782⟩, A11, H⟩ := Hof.be H
  (try dsimp only at H)
  have HC12 := Aside0.mk H
  clear H
  go_enter Tryz.func3, Tryz.ntmps3
  go_upto_region 11 with (first | ((with_reducible refine gate_callee (f := 6) rfl ?_); refine Hof.gl (some 23) Tryz.func6 #[.slice A0 l0.length c0] ?_; (with_reducible refine (laws_big.calls _ _ l0 false _ ?side1 ?side2 A2.out).mono ?_); (case side1 => exact Hof.Cw HR0.out); (case side2 => exact HC0.out); rintro e w' ⟨rfl, ⟨nd, rfl⟩⟩; refine ⟨_, rfl, ?_⟩) | ((with_reducible refine gate_callee (f := 7) rfl ?_); refine Hof.gl (some 25) Tryz.func7 #[.slice A0 l0.length c0] ?_; (with_reducible refine (spec_DrawBestTasks.calls k _ _ l0 t757 _ ?side1 ?side2 A4.out).mono ?_); (case side1 => exact Hof.Cw HR0.out); (case side2 => exact HC0.out); rintro e w13 ⟨v758, rfl, ho0, hb⟩; refine ⟨_, rfl, ?_⟩; have HO759 := Aside0.mk (Kd.R_lower ho0 (below_size (Hof.Lw HB.out))); replace HB := Hof.lb HB hb; (try clear hb); (try clear hb2); (try clear hk); (try clear hi); (try clear ho0); obtain ⟨Ao14, co14, eo14⟩ := Kd.R_slice HO759.out; subst eo14) | ((with_reducible refine gate_callee (f := 8) rfl ?_); refine Hof.gl (some 28) Tryz.func8 #[.slice Ao14 t757.length co14] ?_; (with_reducible refine (impl_BestTasks.calls k _ _ t757 t760 t761 _ ?side1 ?side2 A5.out).mono ?_); (case side1 => exact Hof.Cw ((Kd.R_reads' HO759.out).2.2)); (case side2 => exact (Kd.R_reads' HO759.out).2.1); rintro e w15 ⟨rfl, hb⟩; refine ⟨_, rfl, ?_⟩; replace HO759 := Hof.rb HO759 hb; replace HB := Hof.lb HB hb; (try clear hb); (try clear hb2); (try clear hk); (try clear hi)) | ((with_reducible refine gate_callee (f := 9) rfl ?_); refine Hof.gl (some 33) Tryz.func9 #[.slice Ao14 t757.length co14] ?_; (with_reducible refine (spec_BestTasks.calls k _ _ t757 t762 t763 _ ?side1 ?side2 A6.out).mono ?_); (case side1 => exact Hof.Cw ((Kd.R_reads' HO759.out).2.2)); (case side2 => exact (Kd.R_reads' HO759.out).2.1); rintro e w16 ⟨rfl, hb⟩; refine ⟨_, rfl, ?_⟩; replace HO759 := Hof.rb HO759 hb; replace HB := Hof.lb HB hb; (try clear hb); (try clear hb2); (try clear hk); (try clear hi)) | ((with_reducible refine gate_callee (f := 10) rfl ?_); refine Hof.gl (some 37) Tryz.func10 #[.slice Ao14 t757.length co14] ?_; (with_reducible refine (impl_TaskMatroid.calls k _ _ t757 t764 t765 _ ?side1 ?side2 A7.out).mono ?_); (case side1 => exact Hof.Cw ((Kd.R_reads' HO759.out).2.2)); (case side2 => exact (Kd.R_reads' HO759.out).2.1); rintro e w17 ⟨v766, rfl, ho0, hb⟩; refine ⟨_, rfl, ?_⟩; replace HO759 := Hof.rb HO759 hb; have HO767 := Aside0.mk (Kd.R_lower ho0 (below_size (Hof.Lw HB.out))); replace HB := Hof.lb HB hb; (try clear hb); (try clear hb2); (try clear hk); (try clear hi); (try clear ho0)) | ((with_reducible refine gate_dst (N := 8) rfl ?_); (try (refine gate_guard (by rfl) ?_; dsimp only)); refine box_event ?hg (N := 8) ?hd (cs := #[.int .i64 0, .slice none 0 0]) (t := 30) ?hr ?_; (case hd => rfl); (case hg => rfl); (case hr => first | (go_simp; done) | (go_simp; rfl)); intro gb768 hg w18 hbox hb; replace HO759 := Hof.rb HO759 hb; replace HO767 := Hof.rb HO767 hb; have BK768 := Aside0.mk hbox; have GW768 := Hof.gw hg HB; have GE768 := Hof.gw hg HB; replace HB := Hof.lb HB hb; clear hb hbox hg; obtain ⟨hcz19_0, hcz19_1, hfz19_0, hfz19_1⟩ := Hof.blk2 BK768.out; obtain ⟨Ao20, co20, eo20⟩ := Kd.R_slice HO767.out; subst eo20) | ((with_reducible refine gate_callee (f := 11) rfl ?_); refine Hof.gl (some 40) Tryz.func11 #[.slice A0 l0.length c0] ?_; (with_reducible refine (spec_DrawPlanOf.calls k _ _ l0 t769 t770 _ ?side1 ?side2 A8.out).mono ?_); (case side1 => exact Kd.C_below HR0.out Hof.L); (case side2 => exact HC0.out); rintro e w21 ⟨v771, rfl, ho0, hb⟩; refine ⟨_, rfl, ?_⟩; replace HO767 := Aside0.mk (Kd.R_below (Hof.Rw ((Kd.R_mono (Kd.R_far (p := ⟨gb768, 1, none⟩) (Kd.R_far (p := ⟨gb768, 0, none⟩) (Kd.R_types HO767.out BK768.out (by decide)) (fun _ hk => hk.2) (.int .i64 t764)) (fun _ hk => hk.2) (.slice Ao20 t765.length co20)) (fun _ h_ => h_.1)))) hb); have HO772 := Aside0.mk (Kd.R_lower (Kd.R_new' ho0 (Kd.R_lt (Hof.Rw ((Kd.R_mono (Kd.R_far (p := ⟨gb768, 1, none⟩) (Kd.R_far (p := ⟨gb768, 0, none⟩) (Kd.R_types HO759.out BK768.out (by decide)) (fun _ hk => hk.2) (.int .i64 t764)) (fun _ hk => hk.2) (.slice Ao20 t765.length co20)) (fun _ h_ => h_.1)))))) (below_size Hof.L)); replace HO759 := Aside0.mk (Kd.R_elder' (Hof.Rw ((Kd.R_mono (Kd.R_far (p := ⟨gb768, 1, none⟩) (Kd.R_far (p := ⟨gb768, 0, none⟩) (Kd.R_types HO759.out BK768.out (by decide)) (fun _ hk => hk.2) (.int .i64 t764)) (fun _ hk => hk.2) (.slice Ao20 t765.length co20)) (fun _ h_ => h_.1)))) (Kd.R_base ho0) hb); replace BK768 := Aside0.mk (blk_below (g := gb768) (o := .cells #[.int .i64 t764, .slice Ao20 t765.length co20] 30 (0, 0)) Hof.B hb); replace HB := Aside0.mk (below_step Hof.L hb); (try clear hb); (try clear hb2); (try clear hk); (try clear hi); (try clear ho0); obtain ⟨Ao22, co22, eo22⟩ := Kd.R_slice HO772.out; subst eo22) | ((with_reducible refine gate_callee (f := 12) rfl ?_); refine Hof.gl (some 46) Tryz.func12 #[.slice Ao22 t769.length co22, .int .i64 t770] ?_; (with_reducible refine (impl_PlanOf.calls k _ _ t769 t770 t773 t774 _ ?side1 ?side2 A9.out).mono ?_); (case side1 => exact Hof.Cw ((Kd.R_reads' HO772.out).2.2)); (case side2 => exact (Kd.R_reads' HO772.out).2.1); rintro e w23 ⟨v775, rfl, ho0, hb⟩; refine ⟨_, rfl, ?_⟩; replace HO759 := Hof.rb HO759 hb; replace HO772 := Hof.rb HO772 hb; have HO776 := Aside0.mk (Kd.R_lower (Kd.R_new' ho0 (Kd.R_lt (Hof.Rw HO767.out))) (below_size Hof.L)); replace HO767 := Aside0.mk (Kd.R_elder' (Hof.Rw HO767.out) (Kd.R_base ho0) hb); replace BK768 := Hof.bb BK768 hb; replace HB := Aside0.mk (below_step Hof.L hb); (try clear hb); (try clear hb2); (try clear hk); (try clear hi); (try clear ho0)) | ((with_reducible refine gate_callee (f := 13) rfl ?_); refine Hof.gl (some 52) Tryz.func13 #[.slice Ao22 t769.length co22, .int .i64 t770] ?_; (with_reducible refine (spec_PlanOf.calls k _ _ t769 t770 t777 t778 _ ?side1 ?side2 A10.out).mono ?_); (case side1 => exact Hof.Cw ((Kd.R_reads' HO772.out).2.2)); (case side2 => exact (Kd.R_reads' HO772.out).2.1); rintro e w24 ⟨v779, rfl, ho0, hb⟩; refine ⟨_, rfl, ?_⟩; replace HO759 := Hof.rb HO759 hb; replace HO772 := Hof.rb HO772 hb; have HO780 := Aside0.mk (Kd.R_lower (Kd.R_new' (Kd.R_new' ho0 (Kd.R_lt (Hof.Rw HO767.out))) (Kd.R_lt (Hof.Rw HO776.out))) (below_size Hof.L)); replace HO767 := Aside0.mk (Kd.R_elder' (Hof.Rw HO767.out) (Kd.R_base ho0) hb); replace HO776 := Aside0.mk (Kd.R_elder' (Hof.Rw HO776.out) (Kd.R_base ho0) hb); replace BK768 := Hof.bb BK768 hb; replace HB := Aside0.mk (below_step Hof.L hb); (try clear hb); (try clear hb2); (try clear hk); (try clear hi); (try clear ho0)) | ((with_reducible refine gate_callee (f := 14) rfl ?_); refine Hof.gl (some 57) Tryz.func14 #[.slice A0 l0.length c0] ?_; (with_reducible refine (spec_DrawEarningsOf.calls k _ _ l0 t781 t782 _ ?side1 ?side2 A11.out).mono ?_); (case side1 => exact Hof.Cw (Kd.C_below HR0.out HB.out)); (case side2 => exact HC0.out); rintro e w25 ⟨v783, rfl, ho0, hb⟩; refine ⟨_, rfl, ?_⟩; replace HO767 := Hof.rb HO767 hb; replace HO776 := Hof.rb HO776 hb; replace HO780 := Hof.rb HO780 hb; have HO784 := Aside0.mk (Kd.R_lower (Kd.R_new' (Kd.R_new' ho0 (Kd.R_lt (Hof.Rw HO759.out))) (Kd.R_lt (Hof.Rw HO772.out))) (below_size Hof.L)); replace HO759 := Aside0.mk (Kd.R_elder' (Hof.Rw HO759.out) (Kd.R_base ho0) hb); replace HO772 := Aside0.mk (Kd.R_elder' (Hof.Rw HO772.out) (Kd.R_base ho0) hb); replace BK768 := Hof.bb BK768 hb; replace HB := Aside0.mk (below_step Hof.L hb); (try clear hb); (try clear hb2); (try clear hk); (try clear hi); (try clear ho0)))
  (try simp only [Act.put, List.setIfInBounds_toArray, List.set_cons_zero, List.set_cons_succ])
  go_cut [108] (fun v108 wc => ∃ (kq : Nat) (x108_11 : Bool), v108 = .bool x108_11 ∧ Aside0 (laws_FnTasks.j0 kq t757 t760 t761 t773 x108_11 t764 t765 = some r) ∧ Aside0 (kq ≤ k) ∧ Aside0 (Kd.R k74 74 wc w.heap.size (fun _ => True) (.slice Ao14 t757.length co14) t757) ∧ Aside0 (Kd.R (Kd.int .i64) 3 wc w.heap.size (fun k_ => some k_ ≠ ((.slice Ao20 t765.length co20) : Value).ownBlock) v775 t773) ∧ Aside0 (Kd.R (Kd.int .i64) 3 wc w.heap.size (fun k_ => some k_ ≠ (v775 : Value).ownBlock) (.slice Ao20 t765.length co20) t765) ∧ Aside0 (wc.heap[gb768]? = some (.cells #[.int .i64 t764, (.slice Ao20 t765.length co20)] 30 (0, 0))) ∧ Aside0 (Below w.heap.size w wc))
  case first =>
   have H := HC12.out
   clear HC12
   by_cases c26 : (t761 != t763) = true
   ·rw [if_pos c26] at H
    have c26b0 : (t761 != t763) = true := c26
    (try (have c26b1 : decide (t761 = t763) = false := by simpa using c26))
    (try (have c26b2 : (t761 == t763) = false := by simpa using c26))
    (try (have c26b3 : ¬ (t761 = t763) := by simpa using c26))
    clear c26
    (first | rw [c26b0] | (simp only [i64_w, i32_w]; rw [c26b0]) | skip)
    have H' := Aside0.mk H
    clear H
    try go_wp2
    have n0_ := Aside0.mk (Kd.R_drew HO759.out)
    have n1_ := Aside0.mk (Kd.R_drew HO767.out)
    have n2_ := Aside0.mk (Kd.R_drew HO772.out)
    have n3_ := Aside0.mk (Kd.R_drew HO776.out)
    have n4_ := Aside0.mk (Kd.R_drew HO780.out)
    have n5_ := Aside0.mk (Kd.R_drew HO784.out)
    have n6_ := Aside0.mk (blk_drew BK768.out)
    have n7_ := Aside0.mk (below_drew1 HB.out)
    clear HO759
    clear HO767
    clear HO772
    clear HO776
    clear HO780
    clear HO784
    clear BK768
    clear HB
    have HO759 := n0_
    have HO767 := n1_
    have HO772 := n2_
    have HO776 := n3_
    have HO780 := n4_
    have HO784 := n5_
    have BK768 := n6_
    have HB := n7_
    clear n0_ n1_ n2_ n3_ n4_ n5_ n6_ n7_
    refine start_ (n := 49) (S := fun w' => True) (ds := []) #[false, false, false, false, false, false, false, false, false, false, false, false, false, false, false, false, false, false, false, false, false, false, false, false, false, false, false, false, false, false, false, false, false, false, false, false, false, false, false, false, false, false, false, false, false, false, false, false, false] (by kernel_rfl) rfl rfl trivial (fun hHeld => ?_); refine with_tabW laws_FnTasks.tab11 laws_FnTasks.bits11 (fun HT_ HW_ => ?_)
    generalize w25.drew = w27 at HO759 HO767 HO772 HO776 HO780 HO784 BK768 HB hHeld ⊢
    refine Hof.pu 0 60 HT_ ?_
    refine Hof.pu 1 61 HT_ ?_
    refine Hof.pu 2 62 HT_ ?_
    refine Hof.pu 3 63 HT_ ?_
    refine pure_ (i := 4) (N := some 64) (v := undef) (a' := ?_) #[true, true, true, true, true, false, false, false, false, false, false, false, false, false, false, false, false, false, false, false, false, false, false, false, false, false, false, false, false, false, false, false, false, false, false, false, false, false, false, false, false, false, false, false, false, false, false, false, false] rfl rfl (any_of HT_.out (by kernel_rfl)) (fun _ _ _ h => h) (Or.inr ⟨by rfl, rfl⟩) ?_ ?_
    rotate_left
    ·simp only [Act.put, List.setIfInBounds_toArray, List.set_cons_zero, List.set_cons_succ, i64_w, i32_w]
     rfl
    refine pure_ (i := 5) (N := some 65) (v := undef) (a' := ?_) #[true, true, true, true, true, true, false, false, false, false, false, false, false, false, false, false, false, false, false, false, false, false, false, false, false, false, false, false, false, false, false, false, false, false, false, false, false, false, false, false, false, false, false, false, false, false, false, false, false] rfl rfl (any_of HT_.out (by kernel_rfl)) (fun _ _ _ h => h) (Or.inr ⟨by rfl, rfl⟩) ?_ ?_
    rotate_left
    ·simp only [Act.put, List.setIfInBounds_toArray, List.set_cons_zero, List.set_cons_succ, i64_w, i32_w]
     rfl
    refine pure_ (i := 6) (N := some 66) (v := undef) (a' := ?_) #[true, true, true, true, true, true, true, false, false, false, false, false, false, false, false, false, false, false, false, false, false, false, false, false, false, false, false, false, false, false, false, false, false, false, false, false, false, false, false, false, false, false, false, false, false, false, false, false, false] rfl rfl (any_of HT_.out (by kernel_rfl)) (fun _ _ _ h => h) (Or.inr ⟨by rfl, rfl⟩) ?_ ?_
    rotate_left
    ·simp only [Act.put, List.setIfInBounds_toArray, List.set_cons_zero, List.set_cons_succ, i64_w, i32_w]
     rfl
    refine Hof.pu 7 67 HT_ ?_
    refine Hof.pu 8 68 HT_ ?_
    refine pure_ (i := 9) (N := some 69) (v := undef) (a' := ?_) #[true, true, true, true, true, true, true, true, true, true, false, false, false, false, false, false, false, false, false, false, false, false, false, false, false, false, false, false, false, false, false, false, false, false, false, false, false, false, false, false, false, false, false, false, false, false, false, false, false] rfl rfl (any_of HT_.out (by kernel_rfl)) (fun _ _ _ h => h) (Or.inr ⟨by rfl, rfl⟩) ?_ ?_
    rotate_left
    ·simp only [Act.put, List.setIfInBounds_toArray, List.set_cons_zero, List.set_cons_succ, i64_w, i32_w]
     rfl
    refine pure_ (i := 10) (N := some 70) (v := undef) (a' := ?_) #[true, true, true, true, true, true, true, true, true, true, true, false, false, false, false, false, false, false, false, false, false, false, false, false, false, false, false, false, false, false, false, false, false, false, false, false, false, false, false, false, false, false, false, false, false, false, false, false, false] rfl rfl (any_of HT_.out (by kernel_rfl)) (fun _ _ _ h => h) (Or.inr ⟨by rfl, rfl⟩) ?_ ?_
    rotate_left
    ·simp only [Act.put, List.setIfInBounds_toArray, List.set_cons_zero, List.set_cons_succ, i64_w, i32_w]
     rfl
    refine pure_ (i := 11) (N := some 71) (v := undef) (a' := ?_) #[true, true, true, true, true, true, true, true, true, true, true, true, false, false, false, false, false, false, false, false, false, false, false, false, false, false, false, false, false, false, false, false, false, false, false, false, false, false, false, false, false, false, false, false, false, false, false, false, false] rfl rfl (any_of HT_.out (by kernel_rfl)) (fun _ _ _ h => h) (Or.inr ⟨by rfl, rfl⟩) ?_ ?_
    rotate_left
    ·simp only [Act.put, List.setIfInBounds_toArray, List.set_cons_zero, List.set_cons_succ, i64_w, i32_w]
     rfl
    refine pure_ (i := 12) (N := some 72) (v := undef) (a' := ?_) #[true, true, true, true, true, true, true, true, true, true, true, true, true, false, false, false, false, false, false, false, false, false, false, false, false, false, false, false, false, false, false, false, false, false, false, false, false, false, false, false, false, false, false, false, false, false, false, false, false] rfl rfl (any_of HT_.out (by kernel_rfl)) (fun _ _ _ h => h) (Or.inr ⟨by rfl, rfl⟩) ?_ ?_
    rotate_left
    ·simp only [Act.put, List.setIfInBounds_toArray, List.set_cons_zero, List.set_cons_succ, i64_w, i32_w]
     rfl
    refine pure_ (i := 13) (N := some 73) (v := undef) (a' := ?_) #[true, true, true, true, true, true, true, true, true, true, true, true, true, true, false, false, false, false, false, false, false, false, false, false, false, false, false, false, false, false, false, false, false, false, false, false, false, false, false, false, false, false, false, false, false, false, false, false, false] rfl rfl (any_of HT_.out (by kernel_rfl)) (fun _ _ _ h => h) (Or.inr ⟨by rfl, rfl⟩) ?_ ?_
    rotate_left
    ·simp only [Act.put, List.setIfInBounds_toArray, List.set_cons_zero, List.set_cons_succ, i64_w, i32_w]
     rfl
    refine Hof.pu 14 74 HT_ ?_
    refine Hof.pu 15 75 HT_ ?_
    refine pure_ (i := 16) (N := some 76) (v := undef) (a' := ?_) #[true, true, true, true, true, true, true, true, true, true, true, true, true, true, true, true, true, false, false, false, false, false, false, false, false, false, false, false, false, false, false, false, false, false, false, false, false, false, false, false, false, false, false, false, false, false, false, false, false] rfl rfl (any_of HT_.out (by kernel_rfl)) (fun _ _ _ h => h) (Or.inr ⟨by rfl, rfl⟩) ?_ ?_
    rotate_left
    ·simp only [Act.put, List.setIfInBounds_toArray, List.set_cons_zero, List.set_cons_succ, i64_w, i32_w]
     rfl
    refine pure_ (i := 17) (N := some 77) (v := undef) (a' := ?_) #[true, true, true, true, true, true, true, true, true, true, true, true, true, true, true, true, true, true, false, false, false, false, false, false, false, false, false, false, false, false, false, false, false, false, false, false, false, false, false, false, false, false, false, false, false, false, false, false, false] rfl rfl (any_of HT_.out (by kernel_rfl)) (fun _ _ _ h => h) (Or.inr ⟨by rfl, rfl⟩) ?_ ?_
    rotate_left
    ·simp only [Act.put, List.setIfInBounds_toArray, List.set_cons_zero, List.set_cons_succ, i64_w, i32_w]
     rfl
    refine pure_ (i := 18) (N := some 78) (v := undef) (a' := ?_) #[true, true, true, true, true, true, true, true, true, true, true, true, true, true, true, true, true, true, true, false, false, false, false, false, false, false, false, false, false, false, false, false, false, false, false, false, false, false, false, false, false, false, false, false, false, false, false, false, false] rfl rfl (any_of HT_.out (by kernel_rfl)) (fun _ _ _ h => h) (Or.inr ⟨by rfl, rfl⟩) ?_ ?_
    rotate_left
    ·simp only [Act.put, List.setIfInBounds_toArray, List.set_cons_zero, List.set_cons_succ, i64_w, i32_w]
     rfl
    refine Hof.pu 19 79 HT_ ?_
    refine Hof.pu 20 80 HT_ ?_
    refine pure_ (i := 21) (N := some 81) (v := undef) (a' := ?_) #[true, true, true, true, true, true, true, true, true, true, true, true, true, true, true, true, true, true, true, true, true, true, false, false, false, false, false, false, false, false, false, false, false, false, false, false, false, false, false, false, false, false, false, false, false, false, false, false, false] rfl rfl (any_of HT_.out (by kernel_rfl)) (fun _ _ _ h => h) (Or.inr ⟨by rfl, rfl⟩) ?_ ?_
    rotate_left
    ·simp only [Act.put, List.setIfInBounds_toArray, List.set_cons_zero, List.set_cons_succ, i64_w, i32_w]
     rfl
    refine pure_ (i := 22) (N := some 82) (v := undef) (a' := ?_) #[true, true, true, true, true, true, true, true, true, true, true, true, true, true, true, true, true, true, true, true, true, true, true, false, false, false, false, false, false, false, false, false, false, false, false, false, false, false, false, false, false, false, false, false, false, false, false, false, false] rfl rfl (any_of HT_.out (by kernel_rfl)) (fun _ _ _ h => h) (Or.inr ⟨by rfl, rfl⟩) ?_ ?_
    rotate_left
    ·simp only [Act.put, List.setIfInBounds_toArray, List.set_cons_zero, List.set_cons_succ, i64_w, i32_w]
     rfl
    refine pure_ (i := 23) (N := some 83) (v := undef) (a' := ?_) #[true, true, true, true, true, true, true, true, true, true, true, true, true, true, true, true, true, true, true, true, true, true, true, true, false, false, false, false, false, false, false, false, false, false, false, false, false, false, false, false, false, false, false, false, false, false, false, false, false] rfl rfl (any_of HT_.out (by kernel_rfl)) (fun _ _ _ h => h) (Or.inr ⟨by rfl, rfl⟩) ?_ ?_
    rotate_left
    ·simp only [Act.put, List.setIfInBounds_toArray, List.set_cons_zero, List.set_cons_succ, i64_w, i32_w]
     rfl
    refine pure_ (i := 24) (N := some 84) (v := undef) (a' := ?_) #[true, true, true, true, true, true, true, true, true, true, true, true, true, true, true, true, true, true, true, true, true, true, true, true, true, false, false, false, false, false, false, false, false, false, false, false, false, false, false, false, false, false, false, false, false, false, false, false, false] rfl rfl (any_of HT_.out (by kernel_rfl)) (fun _ _ _ h => h) (Or.inr ⟨by rfl, rfl⟩) ?_ ?_
    rotate_left
    ·simp only [Act.put, List.setIfInBounds_toArray, List.set_cons_zero, List.set_cons_succ, i64_w, i32_w]
     rfl
    refine Hof.pu 25 85 HT_ ?_
    refine Hof.pu 26 86 HT_ ?_
    refine pure_ (i := 27) (N := some 87) (v := undef) (a' := ?_) #[true, true, true, true, true, true, true, true, true, true, true, true, true, true, true, true, true, true, true, true, true, true, true, true, true, true, true, true, false, false, false, false, false, false, false, false, false, false, false, false, false, false, false, false, false, false, false, false, false] rfl rfl (any_of HT_.out (by kernel_rfl)) (fun _ _ _ h => h) (Or.inr ⟨by rfl, rfl⟩) ?_ ?_
    rotate_left
    ·simp only [Act.put, List.setIfInBounds_toArray, List.set_cons_zero, List.set_cons_succ, i64_w, i32_w]
     rfl
    refine pure_ (i := 28) (N := some 88) (v := undef) (a' := ?_) #[true, true, true, true, true, true, true, true, true, true, true, true, true, true, true, true, true, true, true, true, true, true, true, true, true, true, true, true, true, false, false, false, false, false, false, false, false, false, false, false, false, false, false, false, false, false, false, false, false] rfl rfl (any_of HT_.out (by kernel_rfl)) (fun _ _ _ h => h) (Or.inr ⟨by rfl, rfl⟩) ?_ ?_
    rotate_left
    ·simp only [Act.put, List.setIfInBounds_toArray, List.set_cons_zero, List.set_cons_succ, i64_w, i32_w]
     rfl
    refine pure_ (i := 29) (N := some 89) (v := undef) (a' := ?_) #[true, true, true, true, true, true, true, true, true, true, true, true, true, true, true, true, true, true, true, true, true, true, true, true, true, true, true, true, true, true, false, false, false, false, false, false, false, false, false, false, false, false, false, false, false, false, false, false, false] rfl rfl (any_of HT_.out (by kernel_rfl)) (fun _ _ _ h => h) (Or.inr ⟨by rfl, rfl⟩) ?_ ?_
    rotate_left
    ·simp only [Act.put, List.setIfInBounds_toArray, List.set_cons_zero, List.set_cons_succ, i64_w, i32_w]
     rfl
    refine pure_ (i := 30) (N := some 90) (v := undef) (a' := ?_) #[true, true, true, true, true, true, true, true, true, true, true, true, true, true, true, true, true, true, true, true, true, true, true, true, true, true, true, true, true, true, true, false, false, false, false, false, false, false, false, false, false, false, false, false, false, false, false, false, false] rfl rfl (any_of HT_.out (by kernel_rfl)) (fun _ _ _ h => h) (Or.inr ⟨by rfl, rfl⟩) ?_ ?_
    rotate_left
    ·simp only [Act.put, List.setIfInBounds_toArray, List.set_cons_zero, List.set_cons_succ, i64_w, i32_w]
     rfl
    refine pure_ (i := 31) (N := some 91) (v := undef) (a' := ?_) #[true, true, true, true, true, true, true, true, true, true, true, true, true, true, true, true, true, true, true, true, true, true, true, true, true, true, true, true, true, true, true, true, false, false, false, false, false, false, false, false, false, false, false, false, false, false, false, false, false] rfl rfl (any_of HT_.out (by kernel_rfl)) (fun _ _ _ h => h) (Or.inr ⟨by rfl, rfl⟩) ?_ ?_
    rotate_left
    ·simp only [Act.put, List.setIfInBounds_toArray, List.set_cons_zero, List.set_cons_succ, i64_w, i32_w]
     rfl
    refine pure_ (i := 32) (N := some 92) (v := undef) (a' := ?_) #[true, true, true, true, true, true, true, true, true, true, true, true, true, true, true, true, true, true, true, true, true, true, true, true, true, true, true, true, true, true, true, true, true, false, false, false, false, false, false, false, false, false, false, false, false, false, false, false, false] rfl rfl (any_of HT_.out (by kernel_rfl)) (fun _ _ _ h => h) (Or.inr ⟨by rfl, rfl⟩) ?_ ?_
    rotate_left
    ·simp only [Act.put, List.setIfInBounds_toArray, List.set_cons_zero, List.set_cons_succ, i64_w, i32_w]
     rfl
    refine pure_ (i := 33) (N := some 93) (v := undef) (a' := ?_) #[true, true, true, true, true, true, true, true, true, true, true, true, true, true, true, true, true, true, true, true, true, true, true, true, true, true, true, true, true, true, true, true, true, true, false, false, false, false, false, false, false, false, false, false, false, false, false, false, false] rfl rfl (any_of HT_.out (by kernel_rfl)) (fun _ _ _ h => h) (Or.inr ⟨by rfl, rfl⟩) ?_ ?_
    rotate_left
    ·simp only [Act.put, List.setIfInBounds_toArray, List.set_cons_zero, List.set_cons_succ, i64_w, i32_w]
     rfl
    refine Hof.pu 34 94 HT_ ?_
    refine Hof.pu 35 95 HT_ ?_
    refine pure_ (i := 36) (N := some 96) (v := undef) (a' := ?_) #[true, true, true, true, true, true, true, true, true, true, true, true, true, true, true, true, true, true, true, true, true, true, true, true, true, true, true, true, true, true, true, true, true, true, true, true, true, false, false, false, false, false, false, false, false, false, false, false, false] rfl rfl (any_of HT_.out (by kernel_rfl)) (fun _ _ _ h => h) (Or.inr ⟨by rfl, rfl⟩) ?_ ?_
    rotate_left
    ·simp only [Act.put, List.setIfInBounds_toArray, List.set_cons_zero, List.set_cons_succ, i64_w, i32_w]
     rfl
    refine pure_ (i := 37) (N := some 97) (v := undef) (a' := ?_) #[true, true, true, true, true, true, true, true, true, true, true, true, true, true, true, true, true, true, true, true, true, true, true, true, true, true, true, true, true, true, true, true, true, true, true, true, true, true, false, false, false, false, false, false, false, false, false, false, false] rfl rfl (any_of HT_.out (by kernel_rfl)) (fun _ _ _ h => h) (Or.inr ⟨by rfl, rfl⟩) ?_ ?_
    rotate_left
    ·simp only [Act.put, List.setIfInBounds_toArray, List.set_cons_zero, List.set_cons_succ, i64_w, i32_w]
     rfl
    refine pure_ (i := 38) (N := some 98) (v := undef) (a' := ?_) #[true, true, true, true, true, true, true, true, true, true, true, true, true, true, true, true, true, true, true, true, true, true, true, true, true, true, true, true, true, true, true, true, true, true, true, true, true, true, true, false, false, false, false, false, false, false, false, false, false] rfl rfl (any_of HT_.out (by kernel_rfl)) (fun _ _ _ h => h) (Or.inr ⟨by rfl, rfl⟩) ?_ ?_
    rotate_left
    ·simp only [Act.put, List.setIfInBounds_toArray, List.set_cons_zero, List.set_cons_succ, i64_w, i32_w]
     rfl
    refine pure_ (i := 39) (N := some 99) (v := undef) (a' := ?_) #[true, true, true, true, true, true, true, true, true, true, true, true, true, true, true, true, true, true, true, true, true, true, true, true, true, true, true, true, true, true, true, true, true, true, true, true, true, true, true, true, false, false, false, false, false, false, false, false, false] rfl rfl (any_of HT_.out (by kernel_rfl)) (fun _ _ _ h => h) (Or.inr ⟨by rfl, rfl⟩) ?_ ?_
    rotate_left
    ·simp only [Act.put, List.setIfInBounds_toArray, List.set_cons_zero, List.set_cons_succ, i64_w, i32_w]
     rfl
    refine pure_ (i := 40) (N := some 100) (v := undef) (a' := ?_) #[true, true, true, true, true, true, true, true, true, true, true, true, true, true, true, true, true, true, true, true, true, true, true, true, true, true, true, true, true, true, true, true, true, true, true, true, true, true, true, true, true, false, false, false, false, false, false, false, false] rfl rfl (any_of HT_.out (by kernel_rfl)) (fun _ _ _ h => h) (Or.inr ⟨by rfl, rfl⟩) ?_ ?_
    rotate_left
    ·simp only [Act.put, List.setIfInBounds_toArray, List.set_cons_zero, List.set_cons_succ, i64_w, i32_w]
     rfl
    refine Hof.pu 41 101 HT_ ?_
    refine Hof.pu 42 102 HT_ ?_
    refine pure_ (i := 43) (N := some 103) (v := undef) (a' := ?_) #[true, true, true, true, true, true, true, true, true, true, true, true, true, true, true, true, true, true, true, true, true, true, true, true, true, true, true, true, true, true, true, true, true, true, true, true, true, true, true, true, true, true, true, true, false, false, false, false, false] rfl rfl (any_of HT_.out (by kernel_rfl)) (fun _ _ _ h => h) (Or.inr ⟨by rfl, rfl⟩) ?_ ?_
    rotate_left
    ·simp only [Act.put, List.setIfInBounds_toArray, List.set_cons_zero, List.set_cons_succ, i64_w, i32_w]
     rfl
    refine pure_ (i := 44) (N := some 104) (v := undef) (a' := ?_) #[true, true, true, true, true, true, true, true, true, true, true, true, true, true, true, true, true, true, true, true, true, true, true, true, true, true, true, true, true, true, true, true, true, true, true, true, true, true, true, true, true, true, true, true, true, false, false, false, false] rfl rfl (any_of HT_.out (by kernel_rfl)) (fun _ _ _ h => h) (Or.inr ⟨by rfl, rfl⟩) ?_ ?_
    rotate_left
    ·simp only [Act.put, List.setIfInBounds_toArray, List.set_cons_zero, List.set_cons_succ, i64_w, i32_w]
     rfl
    refine pure_ (i := 45) (N := some 105) (v := undef) (a' := ?_) #[true, true, true, true, true, true, true, true, true, true, true, true, true, true, true, true, true, true, true, true, true, true, true, true, true, true, true, true, true, true, true, true, true, true, true, true, true, true, true, true, true, true, true, true, true, true, false, false, false] rfl rfl (any_of HT_.out (by kernel_rfl)) (fun _ _ _ h => h) (Or.inr ⟨by rfl, rfl⟩) ?_ ?_
    rotate_left
    ·simp only [Act.put, List.setIfInBounds_toArray, List.set_cons_zero, List.set_cons_succ, i64_w, i32_w]
     rfl
    refine pure_ (i := 46) (N := some 106) (v := undef) (a' := ?_) #[true, true, true, true, true, true, true, true, true, true, true, true, true, true, true, true, true, true, true, true, true, true, true, true, true, true, true, true, true, true, true, true, true, true, true, true, true, true, true, true, true, true, true, true, true, true, true, false, false] rfl rfl (any_of HT_.out (by kernel_rfl)) (fun _ _ _ h => h) (Or.inr ⟨by rfl, rfl⟩) ?_ ?_
    rotate_left
    ·simp only [Act.put, List.setIfInBounds_toArray, List.set_cons_zero, List.set_cons_succ, i64_w, i32_w]
     rfl
    refine pure_ (i := 47) (N := some 107) (v := undef) (a' := ?_) #[true, true, true, true, true, true, true, true, true, true, true, true, true, true, true, true, true, true, true, true, true, true, true, true, true, true, true, true, true, true, true, true, true, true, true, true, true, true, true, true, true, true, true, true, true, true, true, true, false] rfl rfl (any_of HT_.out (by kernel_rfl)) (fun _ _ _ h => h) (Or.inr ⟨by rfl, rfl⟩) ?_ ?_
    rotate_left
    ·simp only [Act.put, List.setIfInBounds_toArray, List.set_cons_zero, List.set_cons_succ, i64_w, i32_w]
     rfl
    refine Hof.pu 48 108 HT_ ?_
    refine done_ (done_of HT_.out (by kernel_rfl)) ?_
    try go_wp2
    go_meet
    case rel => exact ⟨_, (true), Hof.F, H', ⟨by first | omega | exact Nat.le_refl _⟩, ⟨Hof.Rw (Kd.R_mono HO759.out (fun _ hk => trivial))⟩, ⟨Hof.Rw (Kd.R_mono HO776.out (fun _ hk => hk.1.2))⟩, ⟨Hof.Rw (Kd.R_mono HO767.out (fun _ hk => hk.1.2))⟩, ⟨Hof.Bw BK768.out⟩, ⟨Hof.L⟩⟩
   ·rw [if_neg c26] at H
    have c26b0 : (t761 != t763) = false := by simpa using c26
    (try (have c26b1 : decide (t761 = t763) = true := by simpa using c26))
    (try (have c26b2 : (t761 == t763) = true := by simpa using c26))
    clear c26
    (first | rw [c26b0] | (simp only [i64_w, i32_w]; rw [c26b0]) | skip)
    by_cases c28 : t760 = t762
    ·rw [if_pos c28] at H
     have c28b0 : (t760 == t762) = true := beq_iff_eq.mpr c28
     have c28b1 : (t760 != t762) = false := bne_eq_false_iff_eq.mpr c28
     clear c28
     obtain ⟨⟨t785, t786⟩, A29, H⟩ := Hof.be H
     (try dsimp only at H)
     obtain ⟨t789, A30, H⟩ := Hof.be H
     (try dsimp only at H)
     by_cases c31 : t789 = true
     ·subst c31
      replace H : (if (t774 != t778) = true then (laws_FnTasks.j0 k t757 t760 t761 t773 true t764 t765) else ((laws_sameInts.f k t773 t777).bind fun t790 => (if t790 = true then ((impl_EarningsOf.f k t781 t782).bind fun t791 => ((spec_EarningsOf.f k t781 t782).bind fun t792 => (if t791 = t792 then ((impl_LateTasks.f k t757).bind fun t793 => ((spec_LateTasks.f k t757).bind fun t794 => (if t793 = t794 then ((impl_AreTasks.f k t757).bind fun t795 => ((spec_AreTasks.f k t757).bind fun t796 => (laws_FnTasks.j0 k t757 t760 t761 t773 (t795 != t796) t764 t765))) else (laws_FnTasks.j0 k t757 t760 t761 t773 true t764 t765)))) else (laws_FnTasks.j0 k t757 t760 t761 t773 true t764 t765)))) else (laws_FnTasks.j0 k t757 t760 t761 t773 true t764 t765)))) = some r := by rw [if_pos rfl] at H; exact H
      by_cases c32 : (t774 != t778) = true
      ·rw [if_pos c32] at H
       have c32b0 : (t774 != t778) = true := c32
       (try (have c32b1 : decide (t774 = t778) = false := by simpa using c32))
       (try (have c32b2 : (t774 == t778) = false := by simpa using c32))
       (try (have c32b3 : ¬ (t774 = t778) := by simpa using c32))
       clear c32
       have H' := Aside0.mk H
       clear H
       try go_wp2
       have n0_ := Aside0.mk (Kd.R_drew HO759.out)
       have n1_ := Aside0.mk (Kd.R_drew HO767.out)
       have n2_ := Aside0.mk (Kd.R_drew HO772.out)
       have n3_ := Aside0.mk (Kd.R_drew HO776.out)
       have n4_ := Aside0.mk (Kd.R_drew HO780.out)
       have n5_ := Aside0.mk (Kd.R_drew HO784.out)
       have n6_ := Aside0.mk (blk_drew BK768.out)
       have n7_ := Aside0.mk (below_drew1 HB.out)
       clear HO759
       clear HO767
       clear HO772
       clear HO776
       clear HO780
       clear HO784
       clear BK768
       clear HB
       have HO759 := n0_
       have HO767 := n1_
       have HO772 := n2_
       have HO776 := n3_
       have HO780 := n4_
       have HO784 := n5_
       have BK768 := n6_
       have HB := n7_
       clear n0_ n1_ n2_ n3_ n4_ n5_ n6_ n7_
       refine start_ (n := 49) (S := fun w' => w'.cell? ⟨gb768, 0, none⟩ = some (.int .i64 t764) ∧ w'.cell? ⟨gb768, 1, none⟩ = some (.slice Ao20 t765.length co20)) (ds := []) #[false, false, false, false, false, false, false, false, false, false, false, false, false, false, false, false, false, false, false, false, false, false, false, false, false, false, false, false, false, false, false, false, false, false, false, false, false, false, false, false, false, false, false, false, false, false, false, false, false] (by kernel_rfl) rfl rfl ⟨(blk_cell BK768.out 0).trans rfl, (blk_cell BK768.out 1).trans rfl⟩ (fun hHeld => ?_); refine with_tabW laws_FnTasks.tab11 laws_FnTasks.bits11 (fun HT_ HW_ => ?_)
       generalize w25.drew = w33 at HO759 HO767 HO772 HO776 HO780 HO784 BK768 HB hHeld ⊢
       refine Hof.pu 0 60 HT_ ?_
       refine Hof.pu 1 61 HT_ ?_
       refine Hof.pu 2 62 HT_ ?_
       refine Hof.pu 3 63 HT_ ?_
       refine Hof.pu 4 64 HT_ ?_
       refine Hof.pu 5 65 HT_ ?_
       refine Hof.pu 6 66 HT_ ?_
       refine Hof.pu 7 67 HT_ ?_
       refine Hof.pu 8 68 HT_ ?_
       refine Hof.pu 10 70 HT_ ?_
       refine Hof.tk 9 69 HT_ HW_ hHeld ?_
       refine one_ (i := 11) (N := some 71) #[true, true, true, true, true, true, true, true, true, true, true, true, false, false, false, false, false, false, false, false, false, false, false, false, false, false, false, false, false, false, false, false, false, false, false, false, false, false, false, false, false, false, false, false, false, false, false, false, false] rfl rfl (one_of HT_.out (by kernel_rfl)) (by decide) (fun K hK => ?_)
       refine goes_ Tryz.func16 (by kernel_rfl) rfl #[.slice Ao14 t757.length co14] (by rfl) rfl rfl (by (try simp only [List.map_toArray, List.map_cons, List.map_nil]); first | done | rfl) ?_
       with_reducible refine (spec_TaskMatroid.calls k _ _ t757 t785 t786 _ ?side1 ?side2 A29.out).mono ?_
       (case side1 => exact Hof.Cw ((Kd.R_reads' HO759.out).2.2))
       (case side2 => exact (Kd.R_reads' HO759.out).2.1)
       rintro e w34 ⟨v787, rfl, ho0, hb⟩
       refine ⟨_, rfl, ?_⟩
       have n0_ := Hof.rb HO759 hb
       have n1_ := Aside0.mk (Kd.R_elder' (Hof.Rw HO767.out) (Kd.R_base ho0) hb)
       have n2_ := Hof.rb HO772 hb
       have n3_ := Aside0.mk (Kd.R_elder' (Hof.Rw HO776.out) (Kd.R_base ho0) hb)
       have n4_ := Aside0.mk (Kd.R_elder' (Hof.Rw HO780.out) (Kd.R_base ho0) hb)
       have n5_ := Hof.rb HO784 hb
       have n6_ := Aside0.mk (Kd.R_lower (Kd.R_new' (Kd.R_new' (Kd.R_new' ho0 (Kd.R_lt (Hof.Rw HO767.out))) (Kd.R_lt (Hof.Rw HO776.out))) (Kd.R_lt (Hof.Rw HO780.out))) (below_size Hof.L))
       have n7_ := Hof.bb BK768 hb
       have n8_ := Aside0.mk (below_step Hof.L hb)
       clear HO759
       clear HO767
       clear HO772
       clear HO776
       clear HO780
       clear HO784
       clear BK768
       clear HB
       have HO759 := n0_
       have HO767 := n1_
       have HO772 := n2_
       have HO776 := n3_
       have HO780 := n4_
       have HO784 := n5_
       have HO788 := n6_
       have BK768 := n7_
       have HB := n8_
       clear n0_ n1_ n2_ n3_ n4_ n5_ n6_ n7_ n8_
       (try clear hb)
       (try clear hb2)
       (try clear hk)
       (try clear hi)
       (try clear ho0)
       obtain ⟨Ao35, co35, eo35⟩ := Kd.R_slice HO788.out
       (first | subst eo35 | (injection eo35 with f1_ f2_ f3_; have f4_ := f1_.symm; have f5_ := f3_.symm; clear f1_ f2_ f3_; subst f4_; subst f5_))
       refine hK.out _ _ ⟨(blk_cell BK768.out 0).trans rfl, (blk_cell BK768.out 1).trans rfl⟩ (fun hHeld => ?_)
       clear hK K
       refine norm_ (a' := ?_) ?_ ?_
       rotate_left
       ·show Act.put _ (some 71) _ = _
        simp only [Act.put, List.setIfInBounds_toArray, List.set_cons_zero, List.set_cons_succ, i64_w, i32_w]
        rfl
       refine one_ (i := 12) (N := some 72) #[true, true, true, true, true, true, true, true, true, true, true, true, true, false, false, false, false, false, false, false, false, false, false, false, false, false, false, false, false, false, false, false, false, false, false, false, false, false, false, false, false, false, false, false, false, false, false, false, false] rfl rfl (one_of HT_.out (by kernel_rfl)) (by decide) (fun K hK => ?_)
       refine goes_ Tryz.func15 (by kernel_rfl) rfl #[.agg #[.int .i64 t764, .slice Ao20 t765.length co20], .agg #[.int .i64 t785, .slice Ao35 t786.length co35]] (by rfl) rfl rfl (by (try simp only [List.map_toArray, List.map_cons, List.map_nil]); first | done | rfl) ?_
       with_reducible refine (spec_EqualMatroid.calls k t764 _ _ t765 t785 _ _ t786 true _ ?side1 ?side2 ?side3 ?side4 A30.out).mono ?_
       (case side1 => exact Hof.Cw ((Kd.R_reads' HO767.out).2.2))
       (case side2 => exact (Kd.R_reads' HO767.out).2.1)
       (case side3 => exact Hof.Cw ((Kd.R_reads' HO788.out).2.2))
       (case side4 => exact (Kd.R_reads' HO788.out).2.1)
       rintro e w36 ⟨rfl, hb⟩
       refine ⟨_, rfl, ?_⟩
       have n0_ := Hof.rb HO759 hb
       have n1_ := Hof.rb HO767 hb
       have n2_ := Hof.rb HO772 hb
       have n3_ := Hof.rb HO776 hb
       have n4_ := Hof.rb HO780 hb
       have n5_ := Hof.rb HO784 hb
       have n6_ := Hof.rb HO788 hb
       have n7_ := Hof.bb BK768 hb
       have n8_ := Aside0.mk (below_step Hof.L hb)
       clear HO759
       clear HO767
       clear HO772
       clear HO776
       clear HO780
       clear HO784
       clear HO788
       clear BK768
       clear HB
       have HO759 := n0_
       have HO767 := n1_
       have HO772 := n2_
       have HO776 := n3_
       have HO780 := n4_
       have HO784 := n5_
       have HO788 := n6_
       have BK768 := n7_
       have HB := n8_
       clear n0_ n1_ n2_ n3_ n4_ n5_ n6_ n7_ n8_
       (try clear hb)
       (try clear hb2)
       (try clear hk)
       (try clear hi)
       refine hK.out _ _ ⟨(blk_cell BK768.out 0).trans rfl, (blk_cell BK768.out 1).trans rfl⟩ (fun hHeld => ?_)
       clear hK K
       refine norm_ (a' := ?_) ?_ ?_
       rotate_left
       ·show Act.put _ (some 72) _ = _
        simp only [Act.put, List.setIfInBounds_toArray, List.set_cons_zero, List.set_cons_succ, i64_w, i32_w]
        rfl
       refine Hof.pu 13 73 HT_ ?_
       refine Hof.pu 14 74 HT_ ?_
       refine Hof.pu 15 75 HT_ ?_
       refine Hof.pu 16 76 HT_ ?_
       refine Hof.pu 17 77 HT_ ?_
       refine Hof.pu 18 78 HT_ ?_
       refine Hof.pu 19 79 HT_ ?_
       refine Hof.pu 20 80 HT_ ?_
       refine pure_ (i := 21) (N := some 81) (v := undef) (a' := ?_) #[true, true, true, true, true, true, true, true, true, true, true, true, true, true, true, true, true, true, true, true, true, true, false, false, false, false, false, false, false, false, false, false, false, false, false, false, false, false, false, false, false, false, false, false, false, false, false, false, false] rfl rfl (any_of HT_.out (by kernel_rfl)) (fun _ _ _ h => h) (Or.inr ⟨by rfl, rfl⟩) ?_ ?_
       rotate_left
       ·simp only [Act.put, List.setIfInBounds_toArray, List.set_cons_zero, List.set_cons_succ, i64_w, i32_w]
        rfl
       refine pure_ (i := 22) (N := some 82) (v := undef) (a' := ?_) #[true, true, true, true, true, true, true, true, true, true, true, true, true, true, true, true, true, true, true, true, true, true, true, false, false, false, false, false, false, false, false, false, false, false, false, false, false, false, false, false, false, false, false, false, false, false, false, false, false] rfl rfl (any_of HT_.out (by kernel_rfl)) (fun _ _ _ h => h) (Or.inr ⟨by rfl, rfl⟩) ?_ ?_
       rotate_left
       ·simp only [Act.put, List.setIfInBounds_toArray, List.set_cons_zero, List.set_cons_succ, i64_w, i32_w]
        rfl
       refine pure_ (i := 23) (N := some 83) (v := undef) (a' := ?_) #[true, true, true, true, true, true, true, true, true, true, true, true, true, true, true, true, true, true, true, true, true, true, true, true, false, false, false, false, false, false, false, false, false, false, false, false, false, false, false, false, false, false, false, false, false, false, false, false, false] rfl rfl (any_of HT_.out (by kernel_rfl)) (fun _ _ _ h => h) (Or.inr ⟨by rfl, rfl⟩) ?_ ?_
       rotate_left
       ·simp only [Act.put, List.setIfInBounds_toArray, List.set_cons_zero, List.set_cons_succ, i64_w, i32_w]
        rfl
       refine pure_ (i := 24) (N := some 84) (v := undef) (a' := ?_) #[true, true, true, true, true, true, true, true, true, true, true, true, true, true, true, true, true, true, true, true, true, true, true, true, true, false, false, false, false, false, false, false, false, false, false, false, false, false, false, false, false, false, false, false, false, false, false, false, false] rfl rfl (any_of HT_.out (by kernel_rfl)) (fun _ _ _ h => h) (Or.inr ⟨by rfl, rfl⟩) ?_ ?_
       rotate_left
       ·simp only [Act.put, List.setIfInBounds_toArray, List.set_cons_zero, List.set_cons_succ, i64_w, i32_w]
        rfl
       refine Hof.pu 25 85 HT_ ?_
       refine Hof.pu 26 86 HT_ ?_
       refine pure_ (i := 27) (N := some 87) (v := undef) (a' := ?_) #[true, true, true, true, true, true, true, true, true, true, true, true, true, true, true, true, true, true, true, true, true, true, true, true, true, true, true, true, false, false, false, false, false, false, false, false, false, false, false, false, false, false, false, false, false, false, false, false, false] rfl rfl (any_of HT_.out (by kernel_rfl)) (fun _ _ _ h => h) (Or.inr ⟨by rfl, rfl⟩) ?_ ?_
       rotate_left
       ·simp only [Act.put, List.setIfInBounds_toArray, List.set_cons_zero, List.set_cons_succ, i64_w, i32_w]
        rfl
       refine pure_ (i := 28) (N := some 88) (v := undef) (a' := ?_) #[true, true, true, true, true, true, true, true, true, true, true, true, true, true, true, true, true, true, true, true, true, true, true, true, true, true, true, true, true, false, false, false, false, false, false, false, false, false, false, false, false, false, false, false, false, false, false, false, false] rfl rfl (any_of HT_.out (by kernel_rfl)) (fun _ _ _ h => h) (Or.inr ⟨by rfl, rfl⟩) ?_ ?_
       rotate_left
       ·simp only [Act.put, List.setIfInBounds_toArray, List.set_cons_zero, List.set_cons_succ, i64_w, i32_w]
        rfl
       refine pure_ (i := 29) (N := some 89) (v := undef) (a' := ?_) #[true, true, true, true, true, true, true, true, true, true, true, true, true, true, true, true, true, true, true, true, true, true, true, true, true, true, true, true, true, true, false, false, false, false, false, false, false, false, false, false, false, false, false, false, false, false, false, false, false] rfl rfl (any_of HT_.out (by kernel_rfl)) (fun _ _ _ h => h) (Or.inr ⟨by rfl, rfl⟩) ?_ ?_
       rotate_left
       ·simp only [Act.put, List.setIfInBounds_toArray, List.set_cons_zero, List.set_cons_succ, i64_w, i32_w]
        rfl
       refine pure_ (i := 30) (N := some 90) (v := undef) (a' := ?_) #[true, true, true, true, true, true, true, true, true, true, true, true, true, true, true, true, true, true, true, true, true, true, true, true, true, true, true, true, true, true, true, false, false, false, false, false, false, false, false, false, false, false, false, false, false, false, false, false, false] rfl rfl (any_of HT_.out (by kernel_rfl)) (fun _ _ _ h => h) (Or.inr ⟨by rfl, rfl⟩) ?_ ?_
       rotate_left
       ·simp only [Act.put, List.setIfInBounds_toArray, List.set_cons_zero, List.set_cons_succ, i64_w, i32_w]
        rfl
       refine pure_ (i := 31) (N := some 91) (v := undef) (a' := ?_) #[true, true, true, true, true, true, true, true, true, true, true, true, true, true, true, true, true, true, true, true, true, true, true, true, true, true, true, true, true, true, true, true, false, false, false, false, false, false, false, false, false, false, false, false, false, false, false, false, false] rfl rfl (any_of HT_.out (by kernel_rfl)) (fun _ _ _ h => h) (Or.inr ⟨by rfl, rfl⟩) ?_ ?_
       rotate_left
       ·simp only [Act.put, List.setIfInBounds_toArray, List.set_cons_zero, List.set_cons_succ, i64_w, i32_w]
        rfl
       refine pure_ (i := 32) (N := some 92) (v := undef) (a' := ?_) #[true, true, true, true, true, true, true, true, true, true, true, true, true, true, true, true, true, true, true, true, true, true, true, true, true, true, true, true, true, true, true, true, true, false, false, false, false, false, false, false, false, false, false, false, false, false, false, false, false] rfl rfl (any_of HT_.out (by kernel_rfl)) (fun _ _ _ h => h) (Or.inr ⟨by rfl, rfl⟩) ?_ ?_
       rotate_left
       ·simp only [Act.put, List.setIfInBounds_toArray, List.set_cons_zero, List.set_cons_succ, i64_w, i32_w]
        rfl
       refine pure_ (i := 33) (N := some 93) (v := undef) (a' := ?_) #[true, true, true, true, true, true, true, true, true, true, true, true, true, true, true, true, true, true, true, true, true, true, true, true, true, true, true, true, true, true, true, true, true, true, false, false, false, false, false, false, false, false, false, false, false, false, false, false, false] rfl rfl (any_of HT_.out (by kernel_rfl)) (fun _ _ _ h => h) (Or.inr ⟨by rfl, rfl⟩) ?_ ?_
       rotate_left
       ·simp only [Act.put, List.setIfInBounds_toArray, List.set_cons_zero, List.set_cons_succ, i64_w, i32_w]
        rfl
       refine Hof.pu 34 94 HT_ ?_
       refine Hof.pu 35 95 HT_ ?_
       refine pure_ (i := 36) (N := some 96) (v := undef) (a' := ?_) #[true, true, true, true, true, true, true, true, true, true, true, true, true, true, true, true, true, true, true, true, true, true, true, true, true, true, true, true, true, true, true, true, true, true, true, true, true, false, false, false, false, false, false, false, false, false, false, false, false] rfl rfl (any_of HT_.out (by kernel_rfl)) (fun _ _ _ h => h) (Or.inr ⟨by rfl, rfl⟩) ?_ ?_
       rotate_left
       ·simp only [Act.put, List.setIfInBounds_toArray, List.set_cons_zero, List.set_cons_succ, i64_w, i32_w]
        rfl
       refine pure_ (i := 37) (N := some 97) (v := undef) (a' := ?_) #[true, true, true, true, true, true, true, true, true, true, true, true, true, true, true, true, true, true, true, true, true, true, true, true, true, true, true, true, true, true, true, true, true, true, true, true, true, true, false, false, false, false, false, false, false, false, false, false, false] rfl rfl (any_of HT_.out (by kernel_rfl)) (fun _ _ _ h => h) (Or.inr ⟨by rfl, rfl⟩) ?_ ?_
       rotate_left
       ·simp only [Act.put, List.setIfInBounds_toArray, List.set_cons_zero, List.set_cons_succ, i64_w, i32_w]
        rfl
       refine pure_ (i := 38) (N := some 98) (v := undef) (a' := ?_) #[true, true, true, true, true, true, true, true, true, true, true, true, true, true, true, true, true, true, true, true, true, true, true, true, true, true, true, true, true, true, true, true, true, true, true, true, true, true, true, false, false, false, false, false, false, false, false, false, false] rfl rfl (any_of HT_.out (by kernel_rfl)) (fun _ _ _ h => h) (Or.inr ⟨by rfl, rfl⟩) ?_ ?_
       rotate_left
       ·simp only [Act.put, List.setIfInBounds_toArray, List.set_cons_zero, List.set_cons_succ, i64_w, i32_w]
        rfl
       refine pure_ (i := 39) (N := some 99) (v := undef) (a' := ?_) #[true, true, true, true, true, true, true, true, true, true, true, true, true, true, true, true, true, true, true, true, true, true, true, true, true, true, true, true, true, true, true, true, true, true, true, true, true, true, true, true, false, false, false, false, false, false, false, false, false] rfl rfl (any_of HT_.out (by kernel_rfl)) (fun _ _ _ h => h) (Or.inr ⟨by rfl, rfl⟩) ?_ ?_
       rotate_left
       ·simp only [Act.put, List.setIfInBounds_toArray, List.set_cons_zero, List.set_cons_succ, i64_w, i32_w]
        rfl
       refine pure_ (i := 40) (N := some 100) (v := undef) (a' := ?_) #[true, true, true, true, true, true, true, true, true, true, true, true, true, true, true, true, true, true, true, true, true, true, true, true, true, true, true, true, true, true, true, true, true, true, true, true, true, true, true, true, true, false, false, false, false, false, false, false, false] rfl rfl (any_of HT_.out (by kernel_rfl)) (fun _ _ _ h => h) (Or.inr ⟨by rfl, rfl⟩) ?_ ?_
       rotate_left
       ·simp only [Act.put, List.setIfInBounds_toArray, List.set_cons_zero, List.set_cons_succ, i64_w, i32_w]
        rfl
       refine Hof.pu 41 101 HT_ ?_
       refine Hof.pu 42 102 HT_ ?_
       refine pure_ (i := 43) (N := some 103) (v := undef) (a' := ?_) #[true, true, true, true, true, true, true, true, true, true, true, true, true, true, true, true, true, true, true, true, true, true, true, true, true, true, true, true, true, true, true, true, true, true, true, true, true, true, true, true, true, true, true, true, false, false, false, false, false] rfl rfl (any_of HT_.out (by kernel_rfl)) (fun _ _ _ h => h) (Or.inr ⟨by rfl, rfl⟩) ?_ ?_
       rotate_left
       ·simp only [Act.put, List.setIfInBounds_toArray, List.set_cons_zero, List.set_cons_succ, i64_w, i32_w]
        rfl
       refine pure_ (i := 44) (N := some 104) (v := undef) (a' := ?_) #[true, true, true, true, true, true, true, true, true, true, true, true, true, true, true, true, true, true, true, true, true, true, true, true, true, true, true, true, true, true, true, true, true, true, true, true, true, true, true, true, true, true, true, true, true, false, false, false, false] rfl rfl (any_of HT_.out (by kernel_rfl)) (fun _ _ _ h => h) (Or.inr ⟨by rfl, rfl⟩) ?_ ?_
       rotate_left
       ·simp only [Act.put, List.setIfInBounds_toArray, List.set_cons_zero, List.set_cons_succ, i64_w, i32_w]
        rfl
       refine pure_ (i := 45) (N := some 105) (v := undef) (a' := ?_) #[true, true, true, true, true, true, true, true, true, true, true, true, true, true, true, true, true, true, true, true, true, true, true, true, true, true, true, true, true, true, true, true, true, true, true, true, true, true, true, true, true, true, true, true, true, true, false, false, false] rfl rfl (any_of HT_.out (by kernel_rfl)) (fun _ _ _ h => h) (Or.inr ⟨by rfl, rfl⟩) ?_ ?_
       rotate_left
       ·simp only [Act.put, List.setIfInBounds_toArray, List.set_cons_zero, List.set_cons_succ, i64_w, i32_w]
        rfl
       refine pure_ (i := 46) (N := some 106) (v := undef) (a' := ?_) #[true, true, true, true, true, true, true, true, true, true, true, true, true, true, true, true, true, true, true, true, true, true, true, true, true, true, true, true, true, true, true, true, true, true, true, true, true, true, true, true, true, true, true, true, true, true, true, false, false] rfl rfl (any_of HT_.out (by kernel_rfl)) (fun _ _ _ h => h) (Or.inr ⟨by rfl, rfl⟩) ?_ ?_
       rotate_left
       ·simp only [Act.put, List.setIfInBounds_toArray, List.set_cons_zero, List.set_cons_succ, i64_w, i32_w]
        rfl
       refine pure_ (i := 47) (N := some 107) (v := undef) (a' := ?_) #[true, true, true, true, true, true, true, true, true, true, true, true, true, true, true, true, true, true, true, true, true, true, true, true, true, true, true, true, true, true, true, true, true, true, true, true, true, true, true, true, true, true, true, true, true, true, true, true, false] rfl rfl (any_of HT_.out (by kernel_rfl)) (fun _ _ _ h => h) (Or.inr ⟨by rfl, rfl⟩) ?_ ?_
       rotate_left
       ·simp only [Act.put, List.setIfInBounds_toArray, List.set_cons_zero, List.set_cons_succ, i64_w, i32_w]
        rfl
       refine Hof.pu 48 108 HT_ ?_
       refine done_ (done_of HT_.out (by kernel_rfl)) ?_
       try go_wp2
       go_meet
       case rel => exact ⟨_, (true), Hof.F, H', ⟨by first | omega | exact Nat.le_refl _⟩, ⟨Hof.Rw (Kd.R_mono HO759.out (fun _ hk => trivial))⟩, ⟨Hof.Rw (Kd.R_mono HO776.out (fun _ hk => hk.1.1.2))⟩, ⟨Hof.Rw (Kd.R_mono HO767.out (fun _ hk => hk.1.1.2))⟩, ⟨Hof.Bw BK768.out⟩, ⟨Hof.L⟩⟩
      ·rw [if_neg c32] at H
       have c32b0 : (t774 != t778) = false := by simpa using c32
       (try (have c32b1 : decide (t774 = t778) = true := by simpa using c32))
       (try (have c32b2 : (t774 == t778) = true := by simpa using c32))
       clear c32
       obtain ⟨t790, A37, H⟩ := Hof.be H
       (try dsimp only at H)
       by_cases c38 : t790 = true
       ·subst c38
        replace H : ((impl_EarningsOf.f k t781 t782).bind fun t791 => ((spec_EarningsOf.f k t781 t782).bind fun t792 => (if t791 = t792 then ((impl_LateTasks.f k t757).bind fun t793 => ((spec_LateTasks.f k t757).bind fun t794 => (if t793 = t794 then ((impl_AreTasks.f k t757).bind fun t795 => ((spec_AreTasks.f k t757).bind fun t796 => (laws_FnTasks.j0 k t757 t760 t761 t773 (t795 != t796) t764 t765))) else (laws_FnTasks.j0 k t757 t760 t761 t773 true t764 t765)))) else (laws_FnTasks.j0 k t757 t760 t761 t773 true t764 t765)))) = some r := by rw [if_pos rfl] at H; exact H
        obtain ⟨t791, A39, H⟩ := Hof.be H
        (try dsimp only at H)
        obtain ⟨t792, A40, H⟩ := Hof.be H
        (try dsimp only at H)
        by_cases c41 : t791 = t792
        ·rw [if_pos c41] at H
         have c41b0 : (t791 == t792) = true := beq_iff_eq.mpr c41
         have c41b1 : (t791 != t792) = false := bne_eq_false_iff_eq.mpr c41
         clear c41
         obtain ⟨t793, A42, H⟩ := Hof.be H
         (try dsimp only at H)
         obtain ⟨t794, A43, H⟩ := Hof.be H
         (try dsimp only at H)
         by_cases c44 : t793 = t794
         ·rw [if_pos c44] at H
          have c44b0 : (t793 == t794) = true := beq_iff_eq.mpr c44
          have c44b1 : (t793 != t794) = false := bne_eq_false_iff_eq.mpr c44
          clear c44
          obtain ⟨t795, A45, H⟩ := Hof.be H
          (try dsimp only at H)
          obtain ⟨t796, A46, H⟩ := Hof.be H
          (try dsimp only at H)
          have H' := Aside0.mk H
          clear H
          try go_wp2
          have n0_ := Aside0.mk (Kd.R_drew HO759.out)
          have n1_ := Aside0.mk (Kd.R_drew HO767.out)
          have n2_ := Aside0.mk (Kd.R_drew HO772.out)
          have n3_ := Aside0.mk (Kd.R_drew HO776.out)
          have n4_ := Aside0.mk (Kd.R_drew HO780.out)
          have n5_ := Aside0.mk (Kd.R_drew HO784.out)
          have n6_ := Aside0.mk (blk_drew BK768.out)
          have n7_ := Aside0.mk (below_drew1 HB.out)
          clear HO759
          clear HO767
          clear HO772
          clear HO776
          clear HO780
          clear HO784
          clear BK768
          clear HB
          have HO759 := n0_
          have HO767 := n1_
          have HO772 := n2_
          have HO776 := n3_
          have HO780 := n4_
          have HO784 := n5_
          have BK768 := n6_
          have HB := n7_
          clear n0_ n1_ n2_ n3_ n4_ n5_ n6_ n7_
          refine start_ (n := 49) (S := fun w' => w'.cell? ⟨gb768, 0, none⟩ = some (.int .i64 t764) ∧ w'.cell? ⟨gb768, 1, none⟩ = some (.slice Ao20 t765.length co20)) (ds := []) #[false, false, false, false, false, false, false, false, false, false, false, false, false, false, false, false, false, false, false, false, false, false, false, false, false, false, false, false, false, false, false, false, false, false, false, false, false, false, false, false, false, false, false, false, false, false, false, false, false] (by kernel_rfl) rfl rfl ⟨(blk_cell BK768.out 0).trans rfl, (blk_cell BK768.out 1).trans rfl⟩ (fun hHeld => ?_); refine with_tabW laws_FnTasks.tab11 laws_FnTasks.bits11 (fun HT_ HW_ => ?_)
          generalize w25.drew = w47 at HO759 HO767 HO772 HO776 HO780 HO784 BK768 HB hHeld ⊢
          refine Hof.pu 0 60 HT_ ?_
          refine Hof.pu 1 61 HT_ ?_
          refine Hof.pu 2 62 HT_ ?_
          refine Hof.pu 3 63 HT_ ?_
          refine Hof.pu 4 64 HT_ ?_
          refine Hof.pu 5 65 HT_ ?_
          refine Hof.pu 6 66 HT_ ?_
          refine Hof.pu 7 67 HT_ ?_
          refine Hof.pu 8 68 HT_ ?_
          refine Hof.pu 10 70 HT_ ?_
          refine Hof.tk 9 69 HT_ HW_ hHeld ?_
          refine one_ (i := 11) (N := some 71) #[true, true, true, true, true, true, true, true, true, true, true, true, false, false, false, false, false, false, false, false, false, false, false, false, false, false, false, false, false, false, false, false, false, false, false, false, false, false, false, false, false, false, false, false, false, false, false, false, false] rfl rfl (one_of HT_.out (by kernel_rfl)) (by decide) (fun K hK => ?_)
          refine goes_ Tryz.func16 (by kernel_rfl) rfl #[.slice Ao14 t757.length co14] (by rfl) rfl rfl (by (try simp only [List.map_toArray, List.map_cons, List.map_nil]); first | done | rfl) ?_
          with_reducible refine (spec_TaskMatroid.calls k _ _ t757 t785 t786 _ ?side1 ?side2 A29.out).mono ?_
          (case side1 => exact Hof.Cw ((Kd.R_reads' HO759.out).2.2))
          (case side2 => exact (Kd.R_reads' HO759.out).2.1)
          rintro e w48 ⟨v787, rfl, ho0, hb⟩
          refine ⟨_, rfl, ?_⟩
          have n0_ := Hof.rb HO759 hb
          have n1_ := Aside0.mk (Kd.R_elder' (Hof.Rw HO767.out) (Kd.R_base ho0) hb)
          have n2_ := Hof.rb HO772 hb
          have n3_ := Aside0.mk (Kd.R_elder' (Hof.Rw HO776.out) (Kd.R_base ho0) hb)
          have n4_ := Aside0.mk (Kd.R_elder' (Hof.Rw HO780.out) (Kd.R_base ho0) hb)
          have n5_ := Hof.rb HO784 hb
          have n6_ := Aside0.mk (Kd.R_lower (Kd.R_new' (Kd.R_new' (Kd.R_new' ho0 (Kd.R_lt (Hof.Rw HO767.out))) (Kd.R_lt (Hof.Rw HO776.out))) (Kd.R_lt (Hof.Rw HO780.out))) (below_size Hof.L))
          have n7_ := Hof.bb BK768 hb
          have n8_ := Aside0.mk (below_step Hof.L hb)
          clear HO759
          clear HO767
          clear HO772
          clear HO776
          clear HO780
          clear HO784
          clear BK768
          clear HB
          have HO759 := n0_
          have HO767 := n1_
          have HO772 := n2_
          have HO776 := n3_
          have HO780 := n4_
          have HO784 := n5_
          have HO788 := n6_
          have BK768 := n7_
          have HB := n8_
          clear n0_ n1_ n2_ n3_ n4_ n5_ n6_ n7_ n8_
          (try clear hb)
          (try clear hb2)
          (try clear hk)
          (try clear hi)
          (try clear ho0)
          obtain ⟨Ao49, co49, eo49⟩ := Kd.R_slice HO788.out
          (first | subst eo49 | (injection eo49 with f1_ f2_ f3_; have f4_ := f1_.symm; have f5_ := f3_.symm; clear f1_ f2_ f3_; subst f4_; subst f5_))
          refine hK.out _ _ ⟨(blk_cell BK768.out 0).trans rfl, (blk_cell BK768.out 1).trans rfl⟩ (fun hHeld => ?_)
          clear hK K
          refine norm_ (a' := ?_) ?_ ?_
          rotate_left
          ·show Act.put _ (some 71) _ = _
           simp only [Act.put, List.setIfInBounds_toArray, List.set_cons_zero, List.set_cons_succ, i64_w, i32_w]
           rfl
          refine one_ (i := 12) (N := some 72) #[true, true, true, true, true, true, true, true, true, true, true, true, true, false, false, false, false, false, false, false, false, false, false, false, false, false, false, false, false, false, false, false, false, false, false, false, false, false, false, false, false, false, false, false, false, false, false, false, false] rfl rfl (one_of HT_.out (by kernel_rfl)) (by decide) (fun K hK => ?_)
          refine goes_ Tryz.func15 (by kernel_rfl) rfl #[.agg #[.int .i64 t764, .slice Ao20 t765.length co20], .agg #[.int .i64 t785, .slice Ao49 t786.length co49]] (by rfl) rfl rfl (by (try simp only [List.map_toArray, List.map_cons, List.map_nil]); first | done | rfl) ?_
          with_reducible refine (spec_EqualMatroid.calls k t764 _ _ t765 t785 _ _ t786 true _ ?side1 ?side2 ?side3 ?side4 A30.out).mono ?_
          (case side1 => exact Hof.Cw ((Kd.R_reads' HO767.out).2.2))
          (case side2 => exact (Kd.R_reads' HO767.out).2.1)
          (case side3 => exact Hof.Cw ((Kd.R_reads' HO788.out).2.2))
          (case side4 => exact (Kd.R_reads' HO788.out).2.1)
          rintro e w50 ⟨rfl, hb⟩
          refine ⟨_, rfl, ?_⟩
          have n0_ := Hof.rb HO759 hb
          have n1_ := Hof.rb HO767 hb
          have n2_ := Hof.rb HO772 hb
          have n3_ := Hof.rb HO776 hb
          have n4_ := Hof.rb HO780 hb
          have n5_ := Hof.rb HO784 hb
          have n6_ := Hof.rb HO788 hb
          have n7_ := Hof.bb BK768 hb
          have n8_ := Aside0.mk (below_step Hof.L hb)
          clear HO759
          clear HO767
          clear HO772
          clear HO776
          clear HO780
          clear HO784
          clear HO788
          clear BK768
          clear HB
          have HO759 := n0_
          have HO767 := n1_
          have HO772 := n2_
          have HO776 := n3_
          have HO780 := n4_
          have HO784 := n5_
          have HO788 := n6_
          have BK768 := n7_
          have HB := n8_
          clear n0_ n1_ n2_ n3_ n4_ n5_ n6_ n7_ n8_
          (try clear hb)
          (try clear hb2)
          (try clear hk)
          (try clear hi)
          obtain ⟨Ao51, co51, eo51⟩ := Kd.R_slice HO776.out
          (first | subst eo51 | (injection eo51 with f1_ f2_ f3_; have f4_ := f1_.symm; have f5_ := f3_.symm; clear f1_ f2_ f3_; subst f4_; subst f5_))
          obtain ⟨Ao52, co52, eo52⟩ := Kd.R_slice HO780.out
          (first | subst eo52 | (injection eo52 with f1_ f2_ f3_; have f4_ := f1_.symm; have f5_ := f3_.symm; clear f1_ f2_ f3_; subst f4_; subst f5_))
          refine hK.out _ _ ⟨(blk_cell BK768.out 0).trans rfl, (blk_cell BK768.out 1).trans rfl⟩ (fun hHeld => ?_)
          clear hK K
          refine norm_ (a' := ?_) ?_ ?_
          rotate_left
          ·show Act.put _ (some 72) _ = _
           simp only [Act.put, List.setIfInBounds_toArray, List.set_cons_zero, List.set_cons_succ, i64_w, i32_w]
           rfl
          refine Hof.pu 13 73 HT_ ?_
          refine Hof.pu 14 74 HT_ ?_
          refine Hof.pu 15 75 HT_ ?_
          refine Hof.pu 16 76 HT_ ?_
          refine Hof.pu 17 77 HT_ ?_
          refine Hof.pu 18 78 HT_ ?_
          refine Hof.pu 19 79 HT_ ?_
          refine Hof.pu 20 80 HT_ ?_
          refine Hof.pu 21 81 HT_ ?_
          refine Hof.pu 22 82 HT_ ?_
          refine one_ (i := 23) (N := some 83) #[true, true, true, true, true, true, true, true, true, true, true, true, true, true, true, true, true, true, true, true, true, true, true, true, false, false, false, false, false, false, false, false, false, false, false, false, false, false, false, false, false, false, false, false, false, false, false, false, false] rfl rfl (one_of HT_.out (by kernel_rfl)) (by decide) (fun K hK => ?_)
          refine goes_ Tryz.func17 (by kernel_rfl) rfl #[.slice Ao51 t773.length co51, .slice Ao52 t777.length co52] (by rfl) rfl rfl (by (try simp only [List.map_toArray, List.map_cons, List.map_nil]); first | done | rfl) ?_
          with_reducible refine (laws_sameInts.calls k _ _ t773 _ _ t777 true _ ?side1 ?side2 ?side3 ?side4 A37.out).mono ?_
          (case side1 => exact Hof.Cw ((Kd.R_reads' HO776.out).2.2))
          (case side2 => exact (Kd.R_reads' HO776.out).2.1)
          (case side3 => exact Hof.Cw ((Kd.R_reads' HO780.out).2.2))
          (case side4 => exact (Kd.R_reads' HO780.out).2.1)
          rintro e w' ⟨rfl, ⟨nd, rfl⟩⟩
          refine ⟨_, rfl, ?_⟩
          obtain ⟨Ao53, co53, eo53⟩ := Kd.R_slice HO784.out
          (first | subst eo53 | (injection eo53 with f1_ f2_ f3_; have f4_ := f1_.symm; have f5_ := f3_.symm; clear f1_ f2_ f3_; subst f4_; subst f5_))
          refine hK.out _ _ ⟨(blk_cell BK768.out 0).trans rfl, (blk_cell BK768.out 1).trans rfl⟩ (fun hHeld => ?_)
          clear hK K
          refine norm_ (a' := ?_) ?_ ?_
          rotate_left
          ·show Act.put _ (some 83) _ = _
           simp only [Act.put, List.setIfInBounds_toArray, List.set_cons_zero, List.set_cons_succ, i64_w, i32_w]
           rfl
          refine Hof.pu 24 84 HT_ ?_
          refine Hof.pu 25 85 HT_ ?_
          refine Hof.pu 26 86 HT_ ?_
          refine Hof.pu 27 87 HT_ ?_
          refine Hof.pu 28 88 HT_ ?_
          refine Hof.pu 30 90 HT_ ?_
          refine Hof.pu 31 91 HT_ ?_
          refine one_ (i := 29) (N := some 89) #[true, true, true, true, true, true, true, true, true, true, true, true, true, true, true, true, true, true, true, true, true, true, true, true, true, true, true, true, true, true, true, true, false, false, false, false, false, false, false, false, false, false, false, false, false, false, false, false, false] rfl rfl (one_of HT_.out (by kernel_rfl)) (by decide) (fun K hK => ?_)
          refine goes_ Tryz.func18 (by kernel_rfl) rfl #[.slice Ao53 t781.length co53, .int .i64 t782] (by rfl) rfl rfl (by (try simp only [List.map_toArray, List.map_cons, List.map_nil]); first | done | rfl) ?_
          with_reducible refine (impl_EarningsOf.calls k _ _ t781 t782 t791 _ ?side1 ?side2 A39.out).mono ?_
          (case side1 => exact Hof.Cw ((Kd.R_reads' HO784.out).2.2))
          (case side2 => exact (Kd.R_reads' HO784.out).2.1)
          rintro e w54 ⟨rfl, hb⟩
          refine ⟨_, rfl, ?_⟩
          have n0_ := Hof.rb HO759 hb
          have n1_ := Hof.rb HO767 hb
          have n2_ := Hof.rb HO772 hb
          have n3_ := Hof.rb HO776 hb
          have n4_ := Hof.rb HO780 hb
          have n5_ := Hof.rb HO784 hb
          have n6_ := Hof.rb HO788 hb
          have n7_ := Hof.bb BK768 hb
          have n8_ := Aside0.mk (below_step Hof.L hb)
          clear HO759
          clear HO767
          clear HO772
          clear HO776
          clear HO780
          clear HO784
          clear HO788
          clear BK768
          clear HB
          have HO759 := n0_
          have HO767 := n1_
          have HO772 := n2_
          have HO776 := n3_
          have HO780 := n4_
          have HO784 := n5_
          have HO788 := n6_
          have BK768 := n7_
          have HB := n8_
          clear n0_ n1_ n2_ n3_ n4_ n5_ n6_ n7_ n8_
          (try clear hb)
          (try clear hb2)
          (try clear hk)
          (try clear hi)
          refine hK.out _ _ ⟨(blk_cell BK768.out 0).trans rfl, (blk_cell BK768.out 1).trans rfl⟩ (fun hHeld => ?_)
          clear hK K
          refine norm_ (a' := ?_) ?_ ?_
          rotate_left
          ·show Act.put _ (some 89) _ = _
           simp only [Act.put, List.setIfInBounds_toArray, List.set_cons_zero, List.set_cons_succ, i64_w, i32_w]
           rfl
          refine one_ (i := 32) (N := some 92) #[true, true, true, true, true, true, true, true, true, true, true, true, true, true, true, true, true, true, true, true, true, true, true, true, true, true, true, true, true, true, true, true, true, false, false, false, false, false, false, false, false, false, false, false, false, false, false, false, false] rfl rfl (one_of HT_.out (by kernel_rfl)) (by decide) (fun K hK => ?_)
          refine goes_ Tryz.func19 (by kernel_rfl) rfl #[.slice Ao53 t781.length co53, .int .i64 t782] (by rfl) rfl rfl (by (try simp only [List.map_toArray, List.map_cons, List.map_nil]); first | done | rfl) ?_
          with_reducible refine (spec_EarningsOf.calls k _ _ t781 t782 t792 _ ?side1 ?side2 A40.out).mono ?_
          (case side1 => exact Hof.Cw ((Kd.R_reads' HO784.out).2.2))
          (case side2 => exact (Kd.R_reads' HO784.out).2.1)
          rintro e w' ⟨rfl, ⟨nd, rfl⟩⟩
          refine ⟨_, rfl, ?_⟩
          refine hK.out _ _ ⟨(blk_cell BK768.out 0).trans rfl, (blk_cell BK768.out 1).trans rfl⟩ (fun hHeld => ?_)
          clear hK K
          refine norm_ (a' := ?_) ?_ ?_
          rotate_left
          ·show Act.put _ (some 92) _ = _
           simp only [Act.put, List.setIfInBounds_toArray, List.set_cons_zero, List.set_cons_succ, i64_w, i32_w]
           rfl
          refine Hof.pu 33 93 HT_ ?_
          refine Hof.pu 34 94 HT_ ?_
          refine Hof.pu 35 95 HT_ ?_
          refine Hof.pu 36 96 HT_ ?_
          refine Hof.pu 38 98 HT_ ?_
          refine one_ (i := 37) (N := some 97) #[true, true, true, true, true, true, true, true, true, true, true, true, true, true, true, true, true, true, true, true, true, true, true, true, true, true, true, true, true, true, true, true, true, true, true, true, true, true, true, false, false, false, false, false, false, false, false, false, false] rfl rfl (one_of HT_.out (by kernel_rfl)) (by decide) (fun K hK => ?_)
          refine goes_ Tryz.func20 (by kernel_rfl) rfl #[.slice Ao14 t757.length co14] (by rfl) rfl rfl (by (try simp only [List.map_toArray, List.map_cons, List.map_nil]); first | done | rfl) ?_
          with_reducible refine (impl_LateTasks.calls k _ _ t757 t793 _ ?side1 ?side2 A42.out).mono ?_
          (case side1 => exact Hof.Cw ((Kd.R_reads' HO759.out).2.2))
          (case side2 => exact (Kd.R_reads' HO759.out).2.1)
          rintro e w55 ⟨rfl, hb⟩
          refine ⟨_, rfl, ?_⟩
          have n0_ := Hof.rb HO759 hb
          have n1_ := Hof.rb HO767 hb
          have n2_ := Hof.rb HO772 hb
          have n3_ := Hof.rb HO776 hb
          have n4_ := Hof.rb HO780 hb
          have n5_ := Hof.rb HO784 hb
          have n6_ := Hof.rb HO788 hb
          have n7_ := Hof.bb BK768 hb
          have n8_ := Aside0.mk (below_step Hof.L hb)
          clear HO759
          clear HO767
          clear HO772
          clear HO776
          clear HO780
          clear HO784
          clear HO788
          clear BK768
          clear HB
          have HO759 := n0_
          have HO767 := n1_
          have HO772 := n2_
          have HO776 := n3_
          have HO780 := n4_
          have HO784 := n5_
          have HO788 := n6_
          have BK768 := n7_
          have HB := n8_
          clear n0_ n1_ n2_ n3_ n4_ n5_ n6_ n7_ n8_
          (try clear hb)
          (try clear hb2)
          (try clear hk)
          (try clear hi)
          refine hK.out _ _ ⟨(blk_cell BK768.out 0).trans rfl, (blk_cell BK768.out 1).trans rfl⟩ (fun hHeld => ?_)
          clear hK K
          refine norm_ (a' := ?_) ?_ ?_
          rotate_left
          ·show Act.put _ (some 97) _ = _
           simp only [Act.put, List.setIfInBounds_toArray, List.set_cons_zero, List.set_cons_succ, i64_w, i32_w]
           rfl
          refine one_ (i := 39) (N := some 99) #[true, true, true, true, true, true, true, true, true, true, true, true, true, true, true, true, true, true, true, true, true, true, true, true, true, true, true, true, true, true, true, true, true, true, true, true, true, true, true, true, false, false, false, false, false, false, false, false, false] rfl rfl (one_of HT_.out (by kernel_rfl)) (by decide) (fun K hK => ?_)
          refine goes_ Tryz.func21 (by kernel_rfl) rfl #[.slice Ao14 t757.length co14] (by rfl) rfl rfl (by (try simp only [List.map_toArray, List.map_cons, List.map_nil]); first | done | rfl) ?_
          with_reducible refine (spec_LateTasks.calls k _ _ t757 t794 _ ?side1 ?side2 A43.out).mono ?_
          (case side1 => exact Hof.Cw ((Kd.R_reads' HO759.out).2.2))
          (case side2 => exact (Kd.R_reads' HO759.out).2.1)
          rintro e w56 ⟨rfl, hb⟩
          refine ⟨_, rfl, ?_⟩
          have n0_ := Hof.rb HO759 hb
          have n1_ := Hof.rb HO767 hb
          have n2_ := Hof.rb HO772 hb
          have n3_ := Hof.rb HO776 hb
          have n4_ := Hof.rb HO780 hb
          have n5_ := Hof.rb HO784 hb
          have n6_ := Hof.rb HO788 hb
          have n7_ := Hof.bb BK768 hb
          have n8_ := Aside0.mk (below_step Hof.L hb)
          clear HO759
          clear HO767
          clear HO772
          clear HO776
          clear HO780
          clear HO784
          clear HO788
          clear BK768
          clear HB
          have HO759 := n0_
          have HO767 := n1_
          have HO772 := n2_
          have HO776 := n3_
          have HO780 := n4_
          have HO784 := n5_
          have HO788 := n6_
          have BK768 := n7_
          have HB := n8_
          clear n0_ n1_ n2_ n3_ n4_ n5_ n6_ n7_ n8_
          (try clear hb)
          (try clear hb2)
          (try clear hk)
          (try clear hi)
          refine hK.out _ _ ⟨(blk_cell BK768.out 0).trans rfl, (blk_cell BK768.out 1).trans rfl⟩ (fun hHeld => ?_)
          clear hK K
          refine norm_ (a' := ?_) ?_ ?_
          rotate_left
          ·show Act.put _ (some 99) _ = _
           simp only [Act.put, List.setIfInBounds_toArray, List.set_cons_zero, List.set_cons_succ, i64_w, i32_w]
           rfl
          refine Hof.pu 40 100 HT_ ?_
          refine Hof.pu 41 101 HT_ ?_
          refine Hof.pu 42 102 HT_ ?_
          refine Hof.pu 43 103 HT_ ?_
          refine Hof.pu 45 105 HT_ ?_
          refine one_ (i := 44) (N := some 104) #[true, true, true, true, true, true, true, true, true, true, true, true, true, true, true, true, true, true, true, true, true, true, true, true, true, true, true, true, true, true, true, true, true, true, true, true, true, true, true, true, true, true, true, true, true, true, false, false, false] rfl rfl (one_of HT_.out (by kernel_rfl)) (by decide) (fun K hK => ?_)
          refine goes_ Tryz.func22 (by kernel_rfl) rfl #[.slice Ao14 t757.length co14] (by rfl) rfl rfl (by (try simp only [List.map_toArray, List.map_cons, List.map_nil]); first | done | rfl) ?_
          with_reducible refine (impl_AreTasks.calls k _ _ t757 t795 _ ?side1 ?side2 A45.out).mono ?_
          (case side1 => exact Hof.Cw ((Kd.R_reads' HO759.out).2.2))
          (case side2 => exact (Kd.R_reads' HO759.out).2.1)
          rintro e w57 ⟨rfl, hb⟩
          refine ⟨_, rfl, ?_⟩
          have n0_ := Hof.rb HO759 hb
          have n1_ := Hof.rb HO767 hb
          have n2_ := Hof.rb HO772 hb
          have n3_ := Hof.rb HO776 hb
          have n4_ := Hof.rb HO780 hb
          have n5_ := Hof.rb HO784 hb
          have n6_ := Hof.rb HO788 hb
          have n7_ := Hof.bb BK768 hb
          have n8_ := Aside0.mk (below_step Hof.L hb)
          clear HO759
          clear HO767
          clear HO772
          clear HO776
          clear HO780
          clear HO784
          clear HO788
          clear BK768
          clear HB
          have HO759 := n0_
          have HO767 := n1_
          have HO772 := n2_
          have HO776 := n3_
          have HO780 := n4_
          have HO784 := n5_
          have HO788 := n6_
          have BK768 := n7_
          have HB := n8_
          clear n0_ n1_ n2_ n3_ n4_ n5_ n6_ n7_ n8_
          (try clear hb)
          (try clear hb2)
          (try clear hk)
          (try clear hi)
          refine hK.out _ _ ⟨(blk_cell BK768.out 0).trans rfl, (blk_cell BK768.out 1).trans rfl⟩ (fun hHeld => ?_)
          clear hK K
          refine norm_ (a' := ?_) ?_ ?_
          rotate_left
          ·show Act.put _ (some 104) _ = _
           simp only [Act.put, List.setIfInBounds_toArray, List.set_cons_zero, List.set_cons_succ, i64_w, i32_w]
           rfl
          refine one_ (i := 46) (N := some 106) #[true, true, true, true, true, true, true, true, true, true, true, true, true, true, true, true, true, true, true, true, true, true, true, true, true, true, true, true, true, true, true, true, true, true, true, true, true, true, true, true, true, true, true, true, true, true, true, false, false] rfl rfl (one_of HT_.out (by kernel_rfl)) (by decide) (fun K hK => ?_)
          refine goes_ Tryz.func23 (by kernel_rfl) rfl #[.slice Ao14 t757.length co14] (by rfl) rfl rfl (by (try simp only [List.map_toArray, List.map_cons, List.map_nil]); first | done | rfl) ?_
          with_reducible refine (spec_AreTasks.calls k _ _ t757 t796 _ ?side1 ?side2 A46.out).mono ?_
          (case side1 => exact Hof.Cw ((Kd.R_reads' HO759.out).2.2))
          (case side2 => exact (Kd.R_reads' HO759.out).2.1)
          rintro e w' ⟨rfl, ⟨nd, rfl⟩⟩
          refine ⟨_, rfl, ?_⟩
          refine hK.out _ _ ⟨(blk_cell BK768.out 0).trans rfl, (blk_cell BK768.out 1).trans rfl⟩ (fun hHeld => ?_)
          clear hK K
          refine norm_ (a' := ?_) ?_ ?_
          rotate_left
          ·show Act.put _ (some 106) _ = _
           simp only [Act.put, List.setIfInBounds_toArray, List.set_cons_zero, List.set_cons_succ, i64_w, i32_w]
           rfl
          refine Hof.pu 47 107 HT_ ?_
          refine Hof.pu 48 108 HT_ ?_
          refine done_ (done_of HT_.out (by kernel_rfl)) ?_
          try go_wp2
          go_meet
          case rel => exact ⟨_, ((t795 != t796)), Hof.F, H', ⟨by first | omega | exact Nat.le_refl _⟩, ⟨Hof.Rw (Kd.R_mono HO759.out (fun _ hk => trivial))⟩, ⟨Hof.Rw (Kd.R_mono HO776.out (fun _ hk => hk.1.1.2))⟩, ⟨Hof.Rw (Kd.R_mono HO767.out (fun _ hk => hk.1.1.2))⟩, ⟨Hof.Bw BK768.out⟩, ⟨Hof.L⟩⟩
         ·rw [if_neg c44] at H
          have c44b0 : (t793 == t794) = false := beq_eq_false_iff_ne.mpr c44
          have c44b1 : (t793 != t794) = true := bne_iff_ne.mpr c44
          have H' := Aside0.mk H
          clear H
          try go_wp2
          have n0_ := Aside0.mk (Kd.R_drew HO759.out)
          have n1_ := Aside0.mk (Kd.R_drew HO767.out)
          have n2_ := Aside0.mk (Kd.R_drew HO772.out)
          have n3_ := Aside0.mk (Kd.R_drew HO776.out)
          have n4_ := Aside0.mk (Kd.R_drew HO780.out)
          have n5_ := Aside0.mk (Kd.R_drew HO784.out)
          have n6_ := Aside0.mk (blk_drew BK768.out)
          have n7_ := Aside0.mk (below_drew1 HB.out)
          clear HO759
          clear HO767
          clear HO772
          clear HO776
          clear HO780
          clear HO784
          clear BK768
          clear HB
          have HO759 := n0_
          have HO767 := n1_
          have HO772 := n2_
          have HO776 := n3_
          have HO780 := n4_
          have HO784 := n5_
          have BK768 := n6_
          have HB := n7_
          clear n0_ n1_ n2_ n3_ n4_ n5_ n6_ n7_
          refine start_ (n := 49) (S := fun w' => w'.cell? ⟨gb768, 0, none⟩ = some (.int .i64 t764) ∧ w'.cell? ⟨gb768, 1, none⟩ = some (.slice Ao20 t765.length co20)) (ds := []) #[false, false, false, false, false, false, false, false, false, false, false, false, false, false, false, false, false, false, false, false, false, false, false, false, false, false, false, false, false, false, false, false, false, false, false, false, false, false, false, false, false, false, false, false, false, false, false, false, false] (by kernel_rfl) rfl rfl ⟨(blk_cell BK768.out 0).trans rfl, (blk_cell BK768.out 1).trans rfl⟩ (fun hHeld => ?_); refine with_tabW laws_FnTasks.tab11 laws_FnTasks.bits11 (fun HT_ HW_ => ?_)
          generalize w25.drew = w58 at HO759 HO767 HO772 HO776 HO780 HO784 BK768 HB hHeld ⊢
          refine Hof.pu 0 60 HT_ ?_
          refine Hof.pu 1 61 HT_ ?_
          refine Hof.pu 2 62 HT_ ?_
          refine Hof.pu 3 63 HT_ ?_
          refine Hof.pu 4 64 HT_ ?_
          refine Hof.pu 5 65 HT_ ?_
          refine Hof.pu 6 66 HT_ ?_
          refine Hof.pu 7 67 HT_ ?_
          refine Hof.pu 8 68 HT_ ?_
          refine Hof.pu 10 70 HT_ ?_
          refine Hof.tk 9 69 HT_ HW_ hHeld ?_
          refine one_ (i := 11) (N := some 71) #[true, true, true, true, true, true, true, true, true, true, true, true, false, false, false, false, false, false, false, false, false, false, false, false, false, false, false, false, false, false, false, false, false, false, false, false, false, false, false, false, false, false, false, false, false, false, false, false, false] rfl rfl (one_of HT_.out (by kernel_rfl)) (by decide) (fun K hK => ?_)
          refine goes_ Tryz.func16 (by kernel_rfl) rfl #[.slice Ao14 t757.length co14] (by rfl) rfl rfl (by (try simp only [List.map_toArray, List.map_cons, List.map_nil]); first | done | rfl) ?_
          with_reducible refine (spec_TaskMatroid.calls k _ _ t757 t785 t786 _ ?side1 ?side2 A29.out).mono ?_
          (case side1 => exact Hof.Cw ((Kd.R_reads' HO759.out).2.2))
          (case side2 => exact (Kd.R_reads' HO759.out).2.1)
          rintro e w59 ⟨v787, rfl, ho0, hb⟩
          refine ⟨_, rfl, ?_⟩
          have n0_ := Hof.rb HO759 hb
          have n1_ := Aside0.mk (Kd.R_elder' (Hof.Rw HO767.out) (Kd.R_base ho0) hb)
          have n2_ := Hof.rb HO772 hb
          have n3_ := Aside0.mk (Kd.R_elder' (Hof.Rw HO776.out) (Kd.R_base ho0) hb)
          have n4_ := Aside0.mk (Kd.R_elder' (Hof.Rw HO780.out) (Kd.R_base ho0) hb)
          have n5_ := Hof.rb HO784 hb
          have n6_ := Aside0.mk (Kd.R_lower (Kd.R_new' (Kd.R_new' (Kd.R_new' ho0 (Kd.R_lt (Hof.Rw HO767.out))) (Kd.R_lt (Hof.Rw HO776.out))) (Kd.R_lt (Hof.Rw HO780.out))) (below_size Hof.L))
          have n7_ := Hof.bb BK768 hb
          have n8_ := Aside0.mk (below_step Hof.L hb)
          clear HO759
          clear HO767
          clear HO772
          clear HO776
          clear HO780
          clear HO784
          clear BK768
          clear HB
          have HO759 := n0_
          have HO767 := n1_
          have HO772 := n2_
          have HO776 := n3_
          have HO780 := n4_
          have HO784 := n5_
          have HO788 := n6_
          have BK768 := n7_
          have HB := n8_
          clear n0_ n1_ n2_ n3_ n4_ n5_ n6_ n7_ n8_
          (try clear hb)
          (try clear hb2)
          (try clear hk)
          (try clear hi)
          (try clear ho0)
          obtain ⟨Ao60, co60, eo60⟩ := Kd.R_slice HO788.out
          (first | subst eo60 | (injection eo60 with f1_ f2_ f3_; have f4_ := f1_.symm; have f5_ := f3_.symm; clear f1_ f2_ f3_; subst f4_; subst f5_))
          refine hK.out _ _ ⟨(blk_cell BK768.out 0).trans rfl, (blk_cell BK768.out 1).trans rfl⟩ (fun hHeld => ?_)
          clear hK K
          refine norm_ (a' := ?_) ?_ ?_
          rotate_left
          ·show Act.put _ (some 71) _ = _
           simp only [Act.put, List.setIfInBounds_toArray, List.set_cons_zero, List.set_cons_succ, i64_w, i32_w]
           rfl
          refine one_ (i := 12) (N := some 72) #[true, true, true, true, true, true, true, true, true, true, true, true, true, false, false, false, false, false, false, false, false, false, false, false, false, false, false, false, false, false, false, false, false, false, false, false, false, false, false, false, false, false, false, false, false, false, false, false, false] rfl rfl (one_of HT_.out (by kernel_rfl)) (by decide) (fun K hK => ?_)
          refine goes_ Tryz.func15 (by kernel_rfl) rfl #[.agg #[.int .i64 t764, .slice Ao20 t765.length co20], .agg #[.int .i64 t785, .slice Ao60 t786.length co60]] (by rfl) rfl rfl (by (try simp only [List.map_toArray, List.map_cons, List.map_nil]); first | done | rfl) ?_
          with_reducible refine (spec_EqualMatroid.calls k t764 _ _ t765 t785 _ _ t786 true _ ?side1 ?side2 ?side3 ?side4 A30.out).mono ?_
          (case side1 => exact Hof.Cw ((Kd.R_reads' HO767.out).2.2))
          (case side2 => exact (Kd.R_reads' HO767.out).2.1)
          (case side3 => exact Hof.Cw ((Kd.R_reads' HO788.out).2.2))
          (case side4 => exact (Kd.R_reads' HO788.out).2.1)
          rintro e w61 ⟨rfl, hb⟩
          refine ⟨_, rfl, ?_⟩
          have n0_ := Hof.rb HO759 hb
          have n1_ := Hof.rb HO767 hb
          have n2_ := Hof.rb HO772 hb
          have n3_ := Hof.rb HO776 hb
          have n4_ := Hof.rb HO780 hb
          have n5_ := Hof.rb HO784 hb
          have n6_ := Hof.rb HO788 hb
          have n7_ := Hof.bb BK768 hb
          have n8_ := Aside0.mk (below_step Hof.L hb)
          clear HO759
          clear HO767
          clear HO772
          clear HO776
          clear HO780
          clear HO784
          clear HO788
          clear BK768
          clear HB
          have HO759 := n0_
          have HO767 := n1_
          have HO772 := n2_
          have HO776 := n3_
          have HO780 := n4_
          have HO784 := n5_
          have HO788 := n6_
          have BK768 := n7_
          have HB := n8_
          clear n0_ n1_ n2_ n3_ n4_ n5_ n6_ n7_ n8_
          (try clear hb)
          (try clear hb2)
          (try clear hk)
          (try clear hi)
          obtain ⟨Ao62, co62, eo62⟩ := Kd.R_slice HO776.out
          (first | subst eo62 | (injection eo62 with f1_ f2_ f3_; have f4_ := f1_.symm; have f5_ := f3_.symm; clear f1_ f2_ f3_; subst f4_; subst f5_))
          obtain ⟨Ao63, co63, eo63⟩ := Kd.R_slice HO780.out
          (first | subst eo63 | (injection eo63 with f1_ f2_ f3_; have f4_ := f1_.symm; have f5_ := f3_.symm; clear f1_ f2_ f3_; subst f4_; subst f5_))
          refine hK.out _ _ ⟨(blk_cell BK768.out 0).trans rfl, (blk_cell BK768.out 1).trans rfl⟩ (fun hHeld => ?_)
          clear hK K
          refine norm_ (a' := ?_) ?_ ?_
          rotate_left
          ·show Act.put _ (some 72) _ = _
           simp only [Act.put, List.setIfInBounds_toArray, List.set_cons_zero, List.set_cons_succ, i64_w, i32_w]
           rfl
          refine Hof.pu 13 73 HT_ ?_
          refine Hof.pu 14 74 HT_ ?_
          refine Hof.pu 15 75 HT_ ?_
          refine Hof.pu 16 76 HT_ ?_
          refine Hof.pu 17 77 HT_ ?_
          refine Hof.pu 18 78 HT_ ?_
          refine Hof.pu 19 79 HT_ ?_
          refine Hof.pu 20 80 HT_ ?_
          refine Hof.pu 21 81 HT_ ?_
          refine Hof.pu 22 82 HT_ ?_
          refine one_ (i := 23) (N := some 83) #[true, true, true, true, true, true, true, true, true, true, true, true, true, true, true, true, true, true, true, true, true, true, true, true, false, false, false, false, false, false, false, false, false, false, false, false, false, false, false, false, false, false, false, false, false, false, false, false, false] rfl rfl (one_of HT_.out (by kernel_rfl)) (by decide) (fun K hK => ?_)
          refine goes_ Tryz.func17 (by kernel_rfl) rfl #[.slice Ao62 t773.length co62, .slice Ao63 t777.length co63] (by rfl) rfl rfl (by (try simp only [List.map_toArray, List.map_cons, List.map_nil]); first | done | rfl) ?_
          with_reducible refine (laws_sameInts.calls k _ _ t773 _ _ t777 true _ ?side1 ?side2 ?side3 ?side4 A37.out).mono ?_
          (case side1 => exact Hof.Cw ((Kd.R_reads' HO776.out).2.2))
          (case side2 => exact (Kd.R_reads' HO776.out).2.1)
          (case side3 => exact Hof.Cw ((Kd.R_reads' HO780.out).2.2))
          (case side4 => exact (Kd.R_reads' HO780.out).2.1)
          rintro e w' ⟨rfl, ⟨nd, rfl⟩⟩
          refine ⟨_, rfl, ?_⟩
          obtain ⟨Ao64, co64, eo64⟩ := Kd.R_slice HO784.out
          (first | subst eo64 | (injection eo64 with f1_ f2_ f3_; have f4_ := f1_.symm; have f5_ := f3_.symm; clear f1_ f2_ f3_; subst f4_; subst f5_))
          refine hK.out _ _ ⟨(blk_cell BK768.out 0).trans rfl, (blk_cell BK768.out 1).trans rfl⟩ (fun hHeld => ?_)
          clear hK K
          refine norm_ (a' := ?_) ?_ ?_
          rotate_left
          ·show Act.put _ (some 83) _ = _
           simp only [Act.put, List.setIfInBounds_toArray, List.set_cons_zero, List.set_cons_succ, i64_w, i32_w]
           rfl
          refine Hof.pu 24 84 HT_ ?_
          refine Hof.pu 25 85 HT_ ?_
          refine Hof.pu 26 86 HT_ ?_
          refine Hof.pu 27 87 HT_ ?_
          refine Hof.pu 28 88 HT_ ?_
          refine Hof.pu 30 90 HT_ ?_
          refine Hof.pu 31 91 HT_ ?_
          refine one_ (i := 29) (N := some 89) #[true, true, true, true, true, true, true, true, true, true, true, true, true, true, true, true, true, true, true, true, true, true, true, true, true, true, true, true, true, true, true, true, false, false, false, false, false, false, false, false, false, false, false, false, false, false, false, false, false] rfl rfl (one_of HT_.out (by kernel_rfl)) (by decide) (fun K hK => ?_)
          refine goes_ Tryz.func18 (by kernel_rfl) rfl #[.slice Ao64 t781.length co64, .int .i64 t782] (by rfl) rfl rfl (by (try simp only [List.map_toArray, List.map_cons, List.map_nil]); first | done | rfl) ?_
          with_reducible refine (impl_EarningsOf.calls k _ _ t781 t782 t791 _ ?side1 ?side2 A39.out).mono ?_
          (case side1 => exact Hof.Cw ((Kd.R_reads' HO784.out).2.2))
          (case side2 => exact (Kd.R_reads' HO784.out).2.1)
          rintro e w65 ⟨rfl, hb⟩
          refine ⟨_, rfl, ?_⟩
          have n0_ := Hof.rb HO759 hb
          have n1_ := Hof.rb HO767 hb
          have n2_ := Hof.rb HO772 hb
          have n3_ := Hof.rb HO776 hb
          have n4_ := Hof.rb HO780 hb
          have n5_ := Hof.rb HO784 hb
          have n6_ := Hof.rb HO788 hb
          have n7_ := Hof.bb BK768 hb
          have n8_ := Aside0.mk (below_step Hof.L hb)
          clear HO759
          clear HO767
          clear HO772
          clear HO776
          clear HO780
          clear HO784
          clear HO788
          clear BK768
          clear HB
          have HO759 := n0_
          have HO767 := n1_
          have HO772 := n2_
          have HO776 := n3_
          have HO780 := n4_
          have HO784 := n5_
          have HO788 := n6_
          have BK768 := n7_
          have HB := n8_
          clear n0_ n1_ n2_ n3_ n4_ n5_ n6_ n7_ n8_
          (try clear hb)
          (try clear hb2)
          (try clear hk)
          (try clear hi)
          refine hK.out _ _ ⟨(blk_cell BK768.out 0).trans rfl, (blk_cell BK768.out 1).trans rfl⟩ (fun hHeld => ?_)
          clear hK K
          refine norm_ (a' := ?_) ?_ ?_
          rotate_left
          ·show Act.put _ (some 89) _ = _
           simp only [Act.put, List.setIfInBounds_toArray, List.set_cons_zero, List.set_cons_succ, i64_w, i32_w]
           rfl
          refine one_ (i := 32) (N := some 92) #[true, true, true, true, true, true, true, true, true, true, true, true, true, true, true, true, true, true, true, true, true, true, true, true, true, true, true, true, true, true, true, true, true, false, false, false, false, false, false, false, false, false, false, false, false, false, false, false, false] rfl rfl (one_of HT_.out (by kernel_rfl)) (by decide) (fun K hK => ?_)
          refine goes_ Tryz.func19 (by kernel_rfl) rfl #[.slice Ao64 t781.length co64, .int .i64 t782] (by rfl) rfl rfl (by (try simp only [List.map_toArray, List.map_cons, List.map_nil]); first | done | rfl) ?_
          with_reducible refine (spec_EarningsOf.calls k _ _ t781 t782 t792 _ ?side1 ?side2 A40.out).mono ?_
          (case side1 => exact Hof.Cw ((Kd.R_reads' HO784.out).2.2))
          (case side2 => exact (Kd.R_reads' HO784.out).2.1)
          rintro e w' ⟨rfl, ⟨nd, rfl⟩⟩
          refine ⟨_, rfl, ?_⟩
          refine hK.out _ _ ⟨(blk_cell BK768.out 0).trans rfl, (blk_cell BK768.out 1).trans rfl⟩ (fun hHeld => ?_)
          clear hK K
          refine norm_ (a' := ?_) ?_ ?_
          rotate_left
          ·show Act.put _ (some 92) _ = _
           simp only [Act.put, List.setIfInBounds_toArray, List.set_cons_zero, List.set_cons_succ, i64_w, i32_w]
           rfl
          refine Hof.pu 33 93 HT_ ?_
          refine Hof.pu 34 94 HT_ ?_
          refine Hof.pu 35 95 HT_ ?_
          refine Hof.pu 36 96 HT_ ?_
          refine Hof.pu 38 98 HT_ ?_
          refine one_ (i := 37) (N := some 97) #[true, true, true, true, true, true, true, true, true, true, true, true, true, true, true, true, true, true, true, true, true, true, true, true, true, true, true, true, true, true, true, true, true, true, true, true, true, true, true, false, false, false, false, false, false, false, false, false, false] rfl rfl (one_of HT_.out (by kernel_rfl)) (by decide) (fun K hK => ?_)
          refine goes_ Tryz.func20 (by kernel_rfl) rfl #[.slice Ao14 t757.length co14] (by rfl) rfl rfl (by (try simp only [List.map_toArray, List.map_cons, List.map_nil]); first | done | rfl) ?_
          with_reducible refine (impl_LateTasks.calls k _ _ t757 t793 _ ?side1 ?side2 A42.out).mono ?_
          (case side1 => exact Hof.Cw ((Kd.R_reads' HO759.out).2.2))
          (case side2 => exact (Kd.R_reads' HO759.out).2.1)
          rintro e w66 ⟨rfl, hb⟩
          refine ⟨_, rfl, ?_⟩
          have n0_ := Hof.rb HO759 hb
          have n1_ := Hof.rb HO767 hb
          have n2_ := Hof.rb HO772 hb
          have n3_ := Hof.rb HO776 hb
          have n4_ := Hof.rb HO780 hb
          have n5_ := Hof.rb HO784 hb
          have n6_ := Hof.rb HO788 hb
          have n7_ := Hof.bb BK768 hb
          have n8_ := Aside0.mk (below_step Hof.L hb)
          clear HO759
          clear HO767
          clear HO772
          clear HO776
          clear HO780
          clear HO784
          clear HO788
          clear BK768
          clear HB
          have HO759 := n0_
          have HO767 := n1_
          have HO772 := n2_
          have HO776 := n3_
          have HO780 := n4_
          have HO784 := n5_
          have HO788 := n6_
          have BK768 := n7_
          have HB := n8_
          clear n0_ n1_ n2_ n3_ n4_ n5_ n6_ n7_ n8_
          (try clear hb)
          (try clear hb2)
          (try clear hk)
          (try clear hi)
          refine hK.out _ _ ⟨(blk_cell BK768.out 0).trans rfl, (blk_cell BK768.out 1).trans rfl⟩ (fun hHeld => ?_)
          clear hK K
          refine norm_ (a' := ?_) ?_ ?_
          rotate_left
          ·show Act.put _ (some 97) _ = _
           simp only [Act.put, List.setIfInBounds_toArray, List.set_cons_zero, List.set_cons_succ, i64_w, i32_w]
           rfl
          refine one_ (i := 39) (N := some 99) #[true, true, true, true, true, true, true, true, true, true, true, true, true, true, true, true, true, true, true, true, true, true, true, true, true, true, true, true, true, true, true, true, true, true, true, true, true, true, true, true, false, false, false, false, false, false, false, false, false] rfl rfl (one_of HT_.out (by kernel_rfl)) (by decide) (fun K hK => ?_)
          refine goes_ Tryz.func21 (by kernel_rfl) rfl #[.slice Ao14 t757.length co14] (by rfl) rfl rfl (by (try simp only [List.map_toArray, List.map_cons, List.map_nil]); first | done | rfl) ?_
          with_reducible refine (spec_LateTasks.calls k _ _ t757 t794 _ ?side1 ?side2 A43.out).mono ?_
          (case side1 => exact Hof.Cw ((Kd.R_reads' HO759.out).2.2))
          (case side2 => exact (Kd.R_reads' HO759.out).2.1)
          rintro e w67 ⟨rfl, hb⟩
          refine ⟨_, rfl, ?_⟩
          have n0_ := Hof.rb HO759 hb
          have n1_ := Hof.rb HO767 hb
          have n2_ := Hof.rb HO772 hb
          have n3_ := Hof.rb HO776 hb
          have n4_ := Hof.rb HO780 hb
          have n5_ := Hof.rb HO784 hb
          have n6_ := Hof.rb HO788 hb
          have n7_ := Hof.bb BK768 hb
          have n8_ := Aside0.mk (below_step Hof.L hb)
          clear HO759
          clear HO767
          clear HO772
          clear HO776
          clear HO780
          clear HO784
          clear HO788
          clear BK768
          clear HB
          have HO759 := n0_
          have HO767 := n1_
          have HO772 := n2_
          have HO776 := n3_
          have HO780 := n4_
          have HO784 := n5_
          have HO788 := n6_
          have BK768 := n7_
          have HB := n8_
          clear n0_ n1_ n2_ n3_ n4_ n5_ n6_ n7_ n8_
          (try clear hb)
          (try clear hb2)
          (try clear hk)
          (try clear hi)
          refine hK.out _ _ ⟨(blk_cell BK768.out 0).trans rfl, (blk_cell BK768.out 1).trans rfl⟩ (fun hHeld => ?_)
          clear hK K
          refine norm_ (a' := ?_) ?_ ?_
          rotate_left
          ·show Act.put _ (some 99) _ = _
           simp only [Act.put, List.setIfInBounds_toArray, List.set_cons_zero, List.set_cons_succ, i64_w, i32_w]
           rfl
          refine Hof.pu 40 100 HT_ ?_
          refine Hof.pu 41 101 HT_ ?_
          refine Hof.pu 42 102 HT_ ?_
          refine pure_ (i := 43) (N := some 103) (v := undef) (a' := ?_) #[true, true, true, true, true, true, true, true, true, true, true, true, true, true, true, true, true, true, true, true, true, true, true, true, true, true, true, true, true, true, true, true, true, true, true, true, true, true, true, true, true, true, true, true, false, false, false, false, false] rfl rfl (any_of HT_.out (by kernel_rfl)) (fun _ _ _ h => h) (Or.inr ⟨by rfl, rfl⟩) ?_ ?_
          rotate_left
          ·simp only [Act.put, List.setIfInBounds_toArray, List.set_cons_zero, List.set_cons_succ, i64_w, i32_w]
           rfl
          refine pure_ (i := 44) (N := some 104) (v := undef) (a' := ?_) #[true, true, true, true, true, true, true, true, true, true, true, true, true, true, true, true, true, true, true, true, true, true, true, true, true, true, true, true, true, true, true, true, true, true, true, true, true, true, true, true, true, true, true, true, true, false, false, false, false] rfl rfl (any_of HT_.out (by kernel_rfl)) (fun _ _ _ h => h) (Or.inr ⟨by rfl, rfl⟩) ?_ ?_
          rotate_left
          ·simp only [Act.put, List.setIfInBounds_toArray, List.set_cons_zero, List.set_cons_succ, i64_w, i32_w]
           rfl
          refine pure_ (i := 45) (N := some 105) (v := undef) (a' := ?_) #[true, true, true, true, true, true, true, true, true, true, true, true, true, true, true, true, true, true, true, true, true, true, true, true, true, true, true, true, true, true, true, true, true, true, true, true, true, true, true, true, true, true, true, true, true, true, false, false, false] rfl rfl (any_of HT_.out (by kernel_rfl)) (fun _ _ _ h => h) (Or.inr ⟨by rfl, rfl⟩) ?_ ?_
          rotate_left
          ·simp only [Act.put, List.setIfInBounds_toArray, List.set_cons_zero, List.set_cons_succ, i64_w, i32_w]
           rfl
          refine pure_ (i := 46) (N := some 106) (v := undef) (a' := ?_) #[true, true, true, true, true, true, true, true, true, true, true, true, true, true, true, true, true, true, true, true, true, true, true, true, true, true, true, true, true, true, true, true, true, true, true, true, true, true, true, true, true, true, true, true, true, true, true, false, false] rfl rfl (any_of HT_.out (by kernel_rfl)) (fun _ _ _ h => h) (Or.inr ⟨by rfl, rfl⟩) ?_ ?_
          rotate_left
          ·simp only [Act.put, List.setIfInBounds_toArray, List.set_cons_zero, List.set_cons_succ, i64_w, i32_w]
           rfl
          refine pure_ (i := 47) (N := some 107) (v := undef) (a' := ?_) #[true, true, true, true, true, true, true, true, true, true, true, true, true, true, true, true, true, true, true, true, true, true, true, true, true, true, true, true, true, true, true, true, true, true, true, true, true, true, true, true, true, true, true, true, true, true, true, true, false] rfl rfl (any_of HT_.out (by kernel_rfl)) (fun _ _ _ h => h) (Or.inr ⟨by rfl, rfl⟩) ?_ ?_
          rotate_left
          ·simp only [Act.put, List.setIfInBounds_toArray, List.set_cons_zero, List.set_cons_succ, i64_w, i32_w]
           rfl
          refine Hof.pu 48 108 HT_ ?_
          refine done_ (done_of HT_.out (by kernel_rfl)) ?_
          try go_wp2
          go_meet
          case rel => exact ⟨_, (true), Hof.F, H', ⟨by first | omega | exact Nat.le_refl _⟩, ⟨Hof.Rw (Kd.R_mono HO759.out (fun _ hk => trivial))⟩, ⟨Hof.Rw (Kd.R_mono HO776.out (fun _ hk => hk.1.1.2))⟩, ⟨Hof.Rw (Kd.R_mono HO767.out (fun _ hk => hk.1.1.2))⟩, ⟨Hof.Bw BK768.out⟩, ⟨Hof.L⟩⟩
        ·rw [if_neg c41] at H
         have c41b0 : (t791 == t792) = false := beq_eq_false_iff_ne.mpr c41
         have c41b1 : (t791 != t792) = true := bne_iff_ne.mpr c41
         have H' := Aside0.mk H
         clear H
         try go_wp2
         have n0_ := Aside0.mk (Kd.R_drew HO759.out)
         have n1_ := Aside0.mk (Kd.R_drew HO767.out)
         have n2_ := Aside0.mk (Kd.R_drew HO772.out)
         have n3_ := Aside0.mk (Kd.R_drew HO776.out)
         have n4_ := Aside0.mk (Kd.R_drew HO780.out)
         have n5_ := Aside0.mk (Kd.R_drew HO784.out)
         have n6_ := Aside0.mk (blk_drew BK768.out)
         have n7_ := Aside0.mk (below_drew1 HB.out)
         clear HO759
         clear HO767
         clear HO772
         clear HO776
         clear HO780
         clear HO784
         clear BK768
         clear HB
         have HO759 := n0_
         have HO767 := n1_
         have HO772 := n2_
         have HO776 := n3_
         have HO780 := n4_
         have HO784 := n5_
         have BK768 := n6_
         have HB := n7_
         clear n0_ n1_ n2_ n3_ n4_ n5_ n6_ n7_
         refine start_ (n := 49) (S := fun w' => w'.cell? ⟨gb768, 0, none⟩ = some (.int .i64 t764) ∧ w'.cell? ⟨gb768, 1, none⟩ = some (.slice Ao20 t765.length co20)) (ds := []) #[false, false, false, false, false, false, false, false, false, false, false, false, false, false, false, false, false, false, false, false, false, false, false, false, false, false, false, false, false, false, false, false, false, false, false, false, false, false, false, false, false, false, false, false, false, false, false, false, false] (by kernel_rfl) rfl rfl ⟨(blk_cell BK768.out 0).trans rfl, (blk_cell BK768.out 1).trans rfl⟩ (fun hHeld => ?_); refine with_tabW laws_FnTasks.tab11 laws_FnTasks.bits11 (fun HT_ HW_ => ?_)
         generalize w25.drew = w68 at HO759 HO767 HO772 HO776 HO780 HO784 BK768 HB hHeld ⊢
         refine Hof.pu 0 60 HT_ ?_
         refine Hof.pu 1 61 HT_ ?_
         refine Hof.pu 2 62 HT_ ?_
         refine Hof.pu 3 63 HT_ ?_
         refine Hof.pu 4 64 HT_ ?_
         refine Hof.pu 5 65 HT_ ?_
         refine Hof.pu 6 66 HT_ ?_
         refine Hof.pu 7 67 HT_ ?_
         refine Hof.pu 8 68 HT_ ?_
         refine Hof.pu 10 70 HT_ ?_
         refine Hof.tk 9 69 HT_ HW_ hHeld ?_
         refine one_ (i := 11) (N := some 71) #[true, true, true, true, true, true, true, true, true, true, true, true, false, false, false, false, false, false, false, false, false, false, false, false, false, false, false, false, false, false, false, false, false, false, false, false, false, false, false, false, false, false, false, false, false, false, false, false, false] rfl rfl (one_of HT_.out (by kernel_rfl)) (by decide) (fun K hK => ?_)
         refine goes_ Tryz.func16 (by kernel_rfl) rfl #[.slice Ao14 t757.length co14] (by rfl) rfl rfl (by (try simp only [List.map_toArray, List.map_cons, List.map_nil]); first | done | rfl) ?_
         with_reducible refine (spec_TaskMatroid.calls k _ _ t757 t785 t786 _ ?side1 ?side2 A29.out).mono ?_
         (case side1 => exact Hof.Cw ((Kd.R_reads' HO759.out).2.2))
         (case side2 => exact (Kd.R_reads' HO759.out).2.1)
         rintro e w69 ⟨v787, rfl, ho0, hb⟩
         refine ⟨_, rfl, ?_⟩
         have n0_ := Hof.rb HO759 hb
         have n1_ := Aside0.mk (Kd.R_elder' (Hof.Rw HO767.out) (Kd.R_base ho0) hb)
         have n2_ := Hof.rb HO772 hb
         have n3_ := Aside0.mk (Kd.R_elder' (Hof.Rw HO776.out) (Kd.R_base ho0) hb)
         have n4_ := Aside0.mk (Kd.R_elder' (Hof.Rw HO780.out) (Kd.R_base ho0) hb)
         have n5_ := Hof.rb HO784 hb
         have n6_ := Aside0.mk (Kd.R_lower (Kd.R_new' (Kd.R_new' (Kd.R_new' ho0 (Kd.R_lt (Hof.Rw HO767.out))) (Kd.R_lt (Hof.Rw HO776.out))) (Kd.R_lt (Hof.Rw HO780.out))) (below_size Hof.L))
         have n7_ := Hof.bb BK768 hb
         have n8_ := Aside0.mk (below_step Hof.L hb)
         clear HO759
         clear HO767
         clear HO772
         clear HO776
         clear HO780
         clear HO784
         clear BK768
         clear HB
         have HO759 := n0_
         have HO767 := n1_
         have HO772 := n2_
         have HO776 := n3_
         have HO780 := n4_
         have HO784 := n5_
         have HO788 := n6_
         have BK768 := n7_
         have HB := n8_
         clear n0_ n1_ n2_ n3_ n4_ n5_ n6_ n7_ n8_
         (try clear hb)
         (try clear hb2)
         (try clear hk)
         (try clear hi)
         (try clear ho0)
         obtain ⟨Ao70, co70, eo70⟩ := Kd.R_slice HO788.out
         (first | subst eo70 | (injection eo70 with f1_ f2_ f3_; have f4_ := f1_.symm; have f5_ := f3_.symm; clear f1_ f2_ f3_; subst f4_; subst f5_))
         refine hK.out _ _ ⟨(blk_cell BK768.out 0).trans rfl, (blk_cell BK768.out 1).trans rfl⟩ (fun hHeld => ?_)
         clear hK K
         refine norm_ (a' := ?_) ?_ ?_
         rotate_left
         ·show Act.put _ (some 71) _ = _
          simp only [Act.put, List.setIfInBounds_toArray, List.set_cons_zero, List.set_cons_succ, i64_w, i32_w]
          rfl
         refine one_ (i := 12) (N := some 72) #[true, true, true, true, true, true, true, true, true, true, true, true, true, false, false, false, false, false, false, false, false, false, false, false, false, false, false, false, false, false, false, false, false, false, false, false, false, false, false, false, false, false, false, false, false, false, false, false, false] rfl rfl (one_of HT_.out (by kernel_rfl)) (by decide) (fun K hK => ?_)
         refine goes_ Tryz.func15 (by kernel_rfl) rfl #[.agg #[.int .i64 t764, .slice Ao20 t765.length co20], .agg #[.int .i64 t785, .slice Ao70 t786.length co70]] (by rfl) rfl rfl (by (try simp only [List.map_toArray, List.map_cons, List.map_nil]); first | done | rfl) ?_
         with_reducible refine (spec_EqualMatroid.calls k t764 _ _ t765 t785 _ _ t786 true _ ?side1 ?side2 ?side3 ?side4 A30.out).mono ?_
         (case side1 => exact Hof.Cw ((Kd.R_reads' HO767.out).2.2))
         (case side2 => exact (Kd.R_reads' HO767.out).2.1)
         (case side3 => exact Hof.Cw ((Kd.R_reads' HO788.out).2.2))
         (case side4 => exact (Kd.R_reads' HO788.out).2.1)
         rintro e w71 ⟨rfl, hb⟩
         refine ⟨_, rfl, ?_⟩
         have n0_ := Hof.rb HO759 hb
         have n1_ := Hof.rb HO767 hb
         have n2_ := Hof.rb HO772 hb
         have n3_ := Hof.rb HO776 hb
         have n4_ := Hof.rb HO780 hb
         have n5_ := Hof.rb HO784 hb
         have n6_ := Hof.rb HO788 hb
         have n7_ := Hof.bb BK768 hb
         have n8_ := Aside0.mk (below_step Hof.L hb)
         clear HO759
         clear HO767
         clear HO772
         clear HO776
         clear HO780
         clear HO784
         clear HO788
         clear BK768
         clear HB
         have HO759 := n0_
         have HO767 := n1_
         have HO772 := n2_
         have HO776 := n3_
         have HO780 := n4_
         have HO784 := n5_
         have HO788 := n6_
         have BK768 := n7_
         have HB := n8_
         clear n0_ n1_ n2_ n3_ n4_ n5_ n6_ n7_ n8_
         (try clear hb)
         (try clear hb2)
         (try clear hk)
         (try clear hi)
         obtain ⟨Ao72, co72, eo72⟩ := Kd.R_slice HO776.out
         (first | subst eo72 | (injection eo72 with f1_ f2_ f3_; have f4_ := f1_.symm; have f5_ := f3_.symm; clear f1_ f2_ f3_; subst f4_; subst f5_))
         obtain ⟨Ao73, co73, eo73⟩ := Kd.R_slice HO780.out
         (first | subst eo73 | (injection eo73 with f1_ f2_ f3_; have f4_ := f1_.symm; have f5_ := f3_.symm; clear f1_ f2_ f3_; subst f4_; subst f5_))
         refine hK.out _ _ ⟨(blk_cell BK768.out 0).trans rfl, (blk_cell BK768.out 1).trans rfl⟩ (fun hHeld => ?_)
         clear hK K
         refine norm_ (a' := ?_) ?_ ?_
         rotate_left
         ·show Act.put _ (some 72) _ = _
          simp only [Act.put, List.setIfInBounds_toArray, List.set_cons_zero, List.set_cons_succ, i64_w, i32_w]
          rfl
         refine Hof.pu 13 73 HT_ ?_
         refine Hof.pu 14 74 HT_ ?_
         refine Hof.pu 15 75 HT_ ?_
         refine Hof.pu 16 76 HT_ ?_
         refine Hof.pu 17 77 HT_ ?_
         refine Hof.pu 18 78 HT_ ?_
         refine Hof.pu 19 79 HT_ ?_
         refine Hof.pu 20 80 HT_ ?_
         refine Hof.pu 21 81 HT_ ?_
         refine Hof.pu 22 82 HT_ ?_
         refine one_ (i := 23) (N := some 83) #[true, true, true, true, true, true, true, true, true, true, true, true, true, true, true, true, true, true, true, true, true, true, true, true, false, false, false, false, false, false, false, false, false, false, false, false, false, false, false, false, false, false, false, false, false, false, false, false, false] rfl rfl (one_of HT_.out (by kernel_rfl)) (by decide) (fun K hK => ?_)
         refine goes_ Tryz.func17 (by kernel_rfl) rfl #[.slice Ao72 t773.length co72, .slice Ao73 t777.length co73] (by rfl) rfl rfl (by (try simp only [List.map_toArray, List.map_cons, List.map_nil]); first | done | rfl) ?_
         with_reducible refine (laws_sameInts.calls k _ _ t773 _ _ t777 true _ ?side1 ?side2 ?side3 ?side4 A37.out).mono ?_
         (case side1 => exact Hof.Cw ((Kd.R_reads' HO776.out).2.2))
         (case side2 => exact (Kd.R_reads' HO776.out).2.1)
         (case side3 => exact Hof.Cw ((Kd.R_reads' HO780.out).2.2))
         (case side4 => exact (Kd.R_reads' HO780.out).2.1)
         rintro e w' ⟨rfl, ⟨nd, rfl⟩⟩
         refine ⟨_, rfl, ?_⟩
         obtain ⟨Ao74, co74, eo74⟩ := Kd.R_slice HO784.out
         (first | subst eo74 | (injection eo74 with f1_ f2_ f3_; have f4_ := f1_.symm; have f5_ := f3_.symm; clear f1_ f2_ f3_; subst f4_; subst f5_))
         refine hK.out _ _ ⟨(blk_cell BK768.out 0).trans rfl, (blk_cell BK768.out 1).trans rfl⟩ (fun hHeld => ?_)
         clear hK K
         refine norm_ (a' := ?_) ?_ ?_
         rotate_left
         ·show Act.put _ (some 83) _ = _
          simp only [Act.put, List.setIfInBounds_toArray, List.set_cons_zero, List.set_cons_succ, i64_w, i32_w]
          rfl
         refine Hof.pu 24 84 HT_ ?_
         refine Hof.pu 25 85 HT_ ?_
         refine Hof.pu 26 86 HT_ ?_
         refine Hof.pu 27 87 HT_ ?_
         refine Hof.pu 28 88 HT_ ?_
         refine Hof.pu 30 90 HT_ ?_
         refine Hof.pu 31 91 HT_ ?_
         refine one_ (i := 29) (N := some 89) #[true, true, true, true, true, true, true, true, true, true, true, true, true, true, true, true, true, true, true, true, true, true, true, true, true, true, true, true, true, true, true, true, false, false, false, false, false, false, false, false, false, false, false, false, false, false, false, false, false] rfl rfl (one_of HT_.out (by kernel_rfl)) (by decide) (fun K hK => ?_)
         refine goes_ Tryz.func18 (by kernel_rfl) rfl #[.slice Ao74 t781.length co74, .int .i64 t782] (by rfl) rfl rfl (by (try simp only [List.map_toArray, List.map_cons, List.map_nil]); first | done | rfl) ?_
         with_reducible refine (impl_EarningsOf.calls k _ _ t781 t782 t791 _ ?side1 ?side2 A39.out).mono ?_
         (case side1 => exact Hof.Cw ((Kd.R_reads' HO784.out).2.2))
         (case side2 => exact (Kd.R_reads' HO784.out).2.1)
         rintro e w75 ⟨rfl, hb⟩
         refine ⟨_, rfl, ?_⟩
         have n0_ := Hof.rb HO759 hb
         have n1_ := Hof.rb HO767 hb
         have n2_ := Hof.rb HO772 hb
         have n3_ := Hof.rb HO776 hb
         have n4_ := Hof.rb HO780 hb
         have n5_ := Hof.rb HO784 hb
         have n6_ := Hof.rb HO788 hb
         have n7_ := Hof.bb BK768 hb
         have n8_ := Aside0.mk (below_step Hof.L hb)
         clear HO759
         clear HO767
         clear HO772
         clear HO776
         clear HO780
         clear HO784
         clear HO788
         clear BK768
         clear HB
         have HO759 := n0_
         have HO767 := n1_
         have HO772 := n2_
         have HO776 := n3_
         have HO780 := n4_
         have HO784 := n5_
         have HO788 := n6_
         have BK768 := n7_
         have HB := n8_
         clear n0_ n1_ n2_ n3_ n4_ n5_ n6_ n7_ n8_
         (try clear hb)
         (try clear hb2)
         (try clear hk)
         (try clear hi)
         refine hK.out _ _ ⟨(blk_cell BK768.out 0).trans rfl, (blk_cell BK768.out 1).trans rfl⟩ (fun hHeld => ?_)
         clear hK K
         refine norm_ (a' := ?_) ?_ ?_
         rotate_left
         ·show Act.put _ (some 89) _ = _
          simp only [Act.put, List.setIfInBounds_toArray, List.set_cons_zero, List.set_cons_succ, i64_w, i32_w]
          rfl
         refine one_ (i := 32) (N := some 92) #[true, true, true, true, true, true, true, true, true, true, true, true, true, true, true, true, true, true, true, true, true, true, true, true, true, true, true, true, true, true, true, true, true, false, false, false, false, false, false, false, false, false, false, false, false, false, false, false, false] rfl rfl (one_of HT_.out (by kernel_rfl)) (by decide) (fun K hK => ?_)
         refine goes_ Tryz.func19 (by kernel_rfl) rfl #[.slice Ao74 t781.length co74, .int .i64 t782] (by rfl) rfl rfl (by (try simp only [List.map_toArray, List.map_cons, List.map_nil]); first | done | rfl) ?_
         with_reducible refine (spec_EarningsOf.calls k _ _ t781 t782 t792 _ ?side1 ?side2 A40.out).mono ?_
         (case side1 => exact Hof.Cw ((Kd.R_reads' HO784.out).2.2))
         (case side2 => exact (Kd.R_reads' HO784.out).2.1)
         rintro e w' ⟨rfl, ⟨nd, rfl⟩⟩
         refine ⟨_, rfl, ?_⟩
         refine hK.out _ _ ⟨(blk_cell BK768.out 0).trans rfl, (blk_cell BK768.out 1).trans rfl⟩ (fun hHeld => ?_)
         clear hK K
         refine norm_ (a' := ?_) ?_ ?_
         rotate_left
         ·show Act.put _ (some 92) _ = _
          simp only [Act.put, List.setIfInBounds_toArray, List.set_cons_zero, List.set_cons_succ, i64_w, i32_w]
          rfl
         refine Hof.pu 33 93 HT_ ?_
         refine Hof.pu 34 94 HT_ ?_
         refine Hof.pu 35 95 HT_ ?_
         refine pure_ (i := 36) (N := some 96) (v := undef) (a' := ?_) #[true, true, true, true, true, true, true, true, true, true, true, true, true, true, true, true, true, true, true, true, true, true, true, true, true, true, true, true, true, true, true, true, true, true, true, true, true, false, false, false, false, false, false, false, false, false, false, false, false] rfl rfl (any_of HT_.out (by kernel_rfl)) (fun _ _ _ h => h) (Or.inr ⟨by rfl, rfl⟩) ?_ ?_
         rotate_left
         ·simp only [Act.put, List.setIfInBounds_toArray, List.set_cons_zero, List.set_cons_succ, i64_w, i32_w]
          rfl
         refine pure_ (i := 37) (N := some 97) (v := undef) (a' := ?_) #[true, true, true, true, true, true, true, true, true, true, true, true, true, true, true, true, true, true, true, true, true, true, true, true, true, true, true, true, true, true, true, true, true, true, true, true, true, true, false, false, false, false, false, false, false, false, false, false, false] rfl rfl (any_of HT_.out (by kernel_rfl)) (fun _ _ _ h => h) (Or.inr ⟨by rfl, rfl⟩) ?_ ?_
         rotate_left
         ·simp only [Act.put, List.setIfInBounds_toArray, List.set_cons_zero, List.set_cons_succ, i64_w, i32_w]
          rfl
         refine pure_ (i := 38) (N := some 98) (v := undef) (a' := ?_) #[true, true, true, true, true, true, true, true, true, true, true, true, true, true, true, true, true, true, true, true, true, true, true, true, true, true, true, true, true, true, true, true, true, true, true, true, true, true, true, false, false, false, false, false, false, false, false, false, false] rfl rfl (any_of HT_.out (by kernel_rfl)) (fun _ _ _ h => h) (Or.inr ⟨by rfl, rfl⟩) ?_ ?_
         rotate_left
         ·simp only [Act.put, List.setIfInBounds_toArray, List.set_cons_zero, List.set_cons_succ, i64_w, i32_w]
          rfl
         refine pure_ (i := 39) (N := some 99) (v := undef) (a' := ?_) #[true, true, true, true, true, true, true, true, true, true, true, true, true, true, true, true, true, true, true, true, true, true, true, true, true, true, true, true, true, true, true, true, true, true, true, true, true, true, true, true, false, false, false, false, false, false, false, false, false] rfl rfl (any_of HT_.out (by kernel_rfl)) (fun _ _ _ h => h) (Or.inr ⟨by rfl, rfl⟩) ?_ ?_
         rotate_left
         ·simp only [Act.put, List.setIfInBounds_toArray, List.set_cons_zero, List.set_cons_succ, i64_w, i32_w]
          rfl
         refine pure_ (i := 40) (N := some 100) (v := undef) (a' := ?_) #[true, true, true, true, true, true, true, true, true, true, true, true, true, true, true, true, true, true, true, true, true, true, true, true, true, true, true, true, true, true, true, true, true, true, true, true, true, true, true, true, true, false, false, false, false, false, false, false, false] rfl rfl (any_of HT_.out (by kernel_rfl)) (fun _ _ _ h => h) (Or.inr ⟨by rfl, rfl⟩) ?_ ?_
         rotate_left
         ·simp only [Act.put, List.setIfInBounds_toArray, List.set_cons_zero, List.set_cons_succ, i64_w, i32_w]
          rfl
         refine Hof.pu 41 101 HT_ ?_
         refine Hof.pu 42 102 HT_ ?_
         refine pure_ (i := 43) (N := some 103) (v := undef) (a' := ?_) #[true, true, true, true, true, true, true, true, true, true, true, true, true, true, true, true, true, true, true, true, true, true, true, true, true, true, true, true, true, true, true, true, true, true, true, true, true, true, true, true, true, true, true, true, false, false, false, false, false] rfl rfl (any_of HT_.out (by kernel_rfl)) (fun _ _ _ h => h) (Or.inr ⟨by rfl, rfl⟩) ?_ ?_
         rotate_left
         ·simp only [Act.put, List.setIfInBounds_toArray, List.set_cons_zero, List.set_cons_succ, i64_w, i32_w]
          rfl
         refine pure_ (i := 44) (N := some 104) (v := undef) (a' := ?_) #[true, true, true, true, true, true, true, true, true, true, true, true, true, true, true, true, true, true, true, true, true, true, true, true, true, true, true, true, true, true, true, true, true, true, true, true, true, true, true, true, true, true, true, true, true, false, false, false, false] rfl rfl (any_of HT_.out (by kernel_rfl)) (fun _ _ _ h => h) (Or.inr ⟨by rfl, rfl⟩) ?_ ?_
         rotate_left
         ·simp only [Act.put, List.setIfInBounds_toArray, List.set_cons_zero, List.set_cons_succ, i64_w, i32_w]
          rfl
         refine pure_ (i := 45) (N := some 105) (v := undef) (a' := ?_) #[true, true, true, true, true, true, true, true, true, true, true, true, true, true, true, true, true, true, true, true, true, true, true, true, true, true, true, true, true, true, true, true, true, true, true, true, true, true, true, true, true, true, true, true, true, true, false, false, false] rfl rfl (any_of HT_.out (by kernel_rfl)) (fun _ _ _ h => h) (Or.inr ⟨by rfl, rfl⟩) ?_ ?_
         rotate_left
         ·simp only [Act.put, List.setIfInBounds_toArray, List.set_cons_zero, List.set_cons_succ, i64_w, i32_w]
          rfl
         refine pure_ (i := 46) (N := some 106) (v := undef) (a' := ?_) #[true, true, true, true, true, true, true, true, true, true, true, true, true, true, true, true, true, true, true, true, true, true, true, true, true, true, true, true, true, true, true, true, true, true, true, true, true, true, true, true, true, true, true, true, true, true, true, false, false] rfl rfl (any_of HT_.out (by kernel_rfl)) (fun _ _ _ h => h) (Or.inr ⟨by rfl, rfl⟩) ?_ ?_
         rotate_left
         ·simp only [Act.put, List.setIfInBounds_toArray, List.set_cons_zero, List.set_cons_succ, i64_w, i32_w]
          rfl
         refine pure_ (i := 47) (N := some 107) (v := undef) (a' := ?_) #[true, true, true, true, true, true, true, true, true, true, true, true, true, true, true, true, true, true, true, true, true, true, true, true, true, true, true, true, true, true, true, true, true, true, true, true, true, true, true, true, true, true, true, true, true, true, true, true, false] rfl rfl (any_of HT_.out (by kernel_rfl)) (fun _ _ _ h => h) (Or.inr ⟨by rfl, rfl⟩) ?_ ?_
         rotate_left
         ·simp only [Act.put, List.setIfInBounds_toArray, List.set_cons_zero, List.set_cons_succ, i64_w, i32_w]
          rfl
         refine Hof.pu 48 108 HT_ ?_
         refine done_ (done_of HT_.out (by kernel_rfl)) ?_
         try go_wp2
         go_meet
         case rel => exact ⟨_, (true), Hof.F, H', ⟨by first | omega | exact Nat.le_refl _⟩, ⟨Hof.Rw (Kd.R_mono HO759.out (fun _ hk => trivial))⟩, ⟨Hof.Rw (Kd.R_mono HO776.out (fun _ hk => hk.1.1.2))⟩, ⟨Hof.Rw (Kd.R_mono HO767.out (fun _ hk => hk.1.1.2))⟩, ⟨Hof.Bw BK768.out⟩, ⟨Hof.L⟩⟩
       ·replace c38 := Bool.eq_false_iff.mpr c38
        subst c38
        replace H : (laws_FnTasks.j0 k t757 t760 t761 t773 true t764 t765) = some r := by rw [if_neg (show ¬ (false = true) by decide)] at H; exact H
        have H' := Aside0.mk H
        clear H
        try go_wp2
        have n0_ := Aside0.mk (Kd.R_drew HO759.out)
        have n1_ := Aside0.mk (Kd.R_drew HO767.out)
        have n2_ := Aside0.mk (Kd.R_drew HO772.out)
        have n3_ := Aside0.mk (Kd.R_drew HO776.out)
        have n4_ := Aside0.mk (Kd.R_drew HO780.out)
        have n5_ := Aside0.mk (Kd.R_drew HO784.out)
        have n6_ := Aside0.mk (blk_drew BK768.out)
        have n7_ := Aside0.mk (below_drew1 HB.out)
        clear HO759
        clear HO767
        clear HO772
        clear HO776
        clear HO780
        clear HO784
        clear BK768
        clear HB
        have HO759 := n0_
        have HO767 := n1_
        have HO772 := n2_
        have HO776 := n3_
        have HO780 := n4_
        have HO784 := n5_
        have BK768 := n6_
        have HB := n7_
        clear n0_ n1_ n2_ n3_ n4_ n5_ n6_ n7_
        refine start_ (n := 49) (S := fun w' => w'.cell? ⟨gb768, 0, none⟩ = some (.int .i64 t764) ∧ w'.cell? ⟨gb768, 1, none⟩ = some (.slice Ao20 t765.length co20)) (ds := []) #[false, false, false, false, false, false, false, false, false, false, false, false, false, false, false, false, false, false, false, false, false, false, false, false, false, false, false, false, false, false, false, false, false, false, false, false, false, false, false, false, false, false, false, false, false, false, false, false, false] (by kernel_rfl) rfl rfl ⟨(blk_cell BK768.out 0).trans rfl, (blk_cell BK768.out 1).trans rfl⟩ (fun hHeld => ?_); refine with_tabW laws_FnTasks.tab11 laws_FnTasks.bits11 (fun HT_ HW_ => ?_)
        generalize w25.drew = w76 at HO759 HO767 HO772 HO776 HO780 HO784 BK768 HB hHeld ⊢
        refine Hof.pu 0 60 HT_ ?_
        refine Hof.pu 1 61 HT_ ?_
        refine Hof.pu 2 62 HT_ ?_
        refine Hof.pu 3 63 HT_ ?_
        refine Hof.pu 4 64 HT_ ?_
        refine Hof.pu 5 65 HT_ ?_
        refine Hof.pu 6 66 HT_ ?_
        refine Hof.pu 7 67 HT_ ?_
        refine Hof.pu 8 68 HT_ ?_
        refine Hof.pu 10 70 HT_ ?_
        refine Hof.tk 9 69 HT_ HW_ hHeld ?_
        refine one_ (i := 11) (N := some 71) #[true, true, true, true, true, true, true, true, true, true, true, true, false, false, false, false, false, false, false, false, false, false, false, false, false, false, false, false, false, false, false, false, false, false, false, false, false, false, false, false, false, false, false, false, false, false, false, false, false] rfl rfl (one_of HT_.out (by kernel_rfl)) (by decide) (fun K hK => ?_)
        refine goes_ Tryz.func16 (by kernel_rfl) rfl #[.slice Ao14 t757.length co14] (by rfl) rfl rfl (by (try simp only [List.map_toArray, List.map_cons, List.map_nil]); first | done | rfl) ?_
        with_reducible refine (spec_TaskMatroid.calls k _ _ t757 t785 t786 _ ?side1 ?side2 A29.out).mono ?_
        (case side1 => exact Hof.Cw ((Kd.R_reads' HO759.out).2.2))
        (case side2 => exact (Kd.R_reads' HO759.out).2.1)
        rintro e w77 ⟨v787, rfl, ho0, hb⟩
        refine ⟨_, rfl, ?_⟩
        have n0_ := Hof.rb HO759 hb
        have n1_ := Aside0.mk (Kd.R_elder' (Hof.Rw HO767.out) (Kd.R_base ho0) hb)
        have n2_ := Hof.rb HO772 hb
        have n3_ := Aside0.mk (Kd.R_elder' (Hof.Rw HO776.out) (Kd.R_base ho0) hb)
        have n4_ := Aside0.mk (Kd.R_elder' (Hof.Rw HO780.out) (Kd.R_base ho0) hb)
        have n5_ := Hof.rb HO784 hb
        have n6_ := Aside0.mk (Kd.R_lower (Kd.R_new' (Kd.R_new' (Kd.R_new' ho0 (Kd.R_lt (Hof.Rw HO767.out))) (Kd.R_lt (Hof.Rw HO776.out))) (Kd.R_lt (Hof.Rw HO780.out))) (below_size Hof.L))
        have n7_ := Hof.bb BK768 hb
        have n8_ := Aside0.mk (below_step Hof.L hb)
        clear HO759
        clear HO767
        clear HO772
        clear HO776
        clear HO780
        clear HO784
        clear BK768
        clear HB
        have HO759 := n0_
        have HO767 := n1_
        have HO772 := n2_
        have HO776 := n3_
        have HO780 := n4_
        have HO784 := n5_
        have HO788 := n6_
        have BK768 := n7_
        have HB := n8_
        clear n0_ n1_ n2_ n3_ n4_ n5_ n6_ n7_ n8_
        (try clear hb)
        (try clear hb2)
        (try clear hk)
        (try clear hi)
        (try clear ho0)
        obtain ⟨Ao78, co78, eo78⟩ := Kd.R_slice HO788.out
        (first | subst eo78 | (injection eo78 with f1_ f2_ f3_; have f4_ := f1_.symm; have f5_ := f3_.symm; clear f1_ f2_ f3_; subst f4_; subst f5_))
        refine hK.out _ _ ⟨(blk_cell BK768.out 0).trans rfl, (blk_cell BK768.out 1).trans rfl⟩ (fun hHeld => ?_)
        clear hK K
        refine norm_ (a' := ?_) ?_ ?_
        rotate_left
        ·show Act.put _ (some 71) _ = _
         simp only [Act.put, List.setIfInBounds_toArray, List.set_cons_zero, List.set_cons_succ, i64_w, i32_w]
         rfl
        refine one_ (i := 12) (N := some 72) #[true, true, true, true, true, true, true, true, true, true, true, true, true, false, false, false, false, false, false, false, false, false, false, false, false, false, false, false, false, false, false, false, false, false, false, false, false, false, false, false, false, false, false, false, false, false, false, false, false] rfl rfl (one_of HT_.out (by kernel_rfl)) (by decide) (fun K hK => ?_)
        refine goes_ Tryz.func15 (by kernel_rfl) rfl #[.agg #[.int .i64 t764, .slice Ao20 t765.length co20], .agg #[.int .i64 t785, .slice Ao78 t786.length co78]] (by rfl) rfl rfl (by (try simp only [List.map_toArray, List.map_cons, List.map_nil]); first | done | rfl) ?_
        with_reducible refine (spec_EqualMatroid.calls k t764 _ _ t765 t785 _ _ t786 true _ ?side1 ?side2 ?side3 ?side4 A30.out).mono ?_
        (case side1 => exact Hof.Cw ((Kd.R_reads' HO767.out).2.2))
        (case side2 => exact (Kd.R_reads' HO767.out).2.1)
        (case side3 => exact Hof.Cw ((Kd.R_reads' HO788.out).2.2))
        (case side4 => exact (Kd.R_reads' HO788.out).2.1)
        rintro e w79 ⟨rfl, hb⟩
        refine ⟨_, rfl, ?_⟩
        have n0_ := Hof.rb HO759 hb
        have n1_ := Hof.rb HO767 hb
        have n2_ := Hof.rb HO772 hb
        have n3_ := Hof.rb HO776 hb
        have n4_ := Hof.rb HO780 hb
        have n5_ := Hof.rb HO784 hb
        have n6_ := Hof.rb HO788 hb
        have n7_ := Hof.bb BK768 hb
        have n8_ := Aside0.mk (below_step Hof.L hb)
        clear HO759
        clear HO767
        clear HO772
        clear HO776
        clear HO780
        clear HO784
        clear HO788
        clear BK768
        clear HB
        have HO759 := n0_
        have HO767 := n1_
        have HO772 := n2_
        have HO776 := n3_
        have HO780 := n4_
        have HO784 := n5_
        have HO788 := n6_
        have BK768 := n7_
        have HB := n8_
        clear n0_ n1_ n2_ n3_ n4_ n5_ n6_ n7_ n8_
        (try clear hb)
        (try clear hb2)
        (try clear hk)
        (try clear hi)
        obtain ⟨Ao80, co80, eo80⟩ := Kd.R_slice HO776.out
        (first | subst eo80 | (injection eo80 with f1_ f2_ f3_; have f4_ := f1_.symm; have f5_ := f3_.symm; clear f1_ f2_ f3_; subst f4_; subst f5_))
        obtain ⟨Ao81, co81, eo81⟩ := Kd.R_slice HO780.out
        (first | subst eo81 | (injection eo81 with f1_ f2_ f3_; have f4_ := f1_.symm; have f5_ := f3_.symm; clear f1_ f2_ f3_; subst f4_; subst f5_))
        refine hK.out _ _ ⟨(blk_cell BK768.out 0).trans rfl, (blk_cell BK768.out 1).trans rfl⟩ (fun hHeld => ?_)
        clear hK K
        refine norm_ (a' := ?_) ?_ ?_
        rotate_left
        ·show Act.put _ (some 72) _ = _
         simp only [Act.put, List.setIfInBounds_toArray, List.set_cons_zero, List.set_cons_succ, i64_w, i32_w]
         rfl
        refine Hof.pu 13 73 HT_ ?_
        refine Hof.pu 14 74 HT_ ?_
        refine Hof.pu 15 75 HT_ ?_
        refine Hof.pu 16 76 HT_ ?_
        refine Hof.pu 17 77 HT_ ?_
        refine Hof.pu 18 78 HT_ ?_
        refine Hof.pu 19 79 HT_ ?_
        refine Hof.pu 20 80 HT_ ?_
        refine Hof.pu 21 81 HT_ ?_
        refine Hof.pu 22 82 HT_ ?_
        refine one_ (i := 23) (N := some 83) #[true, true, true, true, true, true, true, true, true, true, true, true, true, true, true, true, true, true, true, true, true, true, true, true, false, false, false, false, false, false, false, false, false, false, false, false, false, false, false, false, false, false, false, false, false, false, false, false, false] rfl rfl (one_of HT_.out (by kernel_rfl)) (by decide) (fun K hK => ?_)
        refine goes_ Tryz.func17 (by kernel_rfl) rfl #[.slice Ao80 t773.length co80, .slice Ao81 t777.length co81] (by rfl) rfl rfl (by (try simp only [List.map_toArray, List.map_cons, List.map_nil]); first | done | rfl) ?_
        with_reducible refine (laws_sameInts.calls k _ _ t773 _ _ t777 false _ ?side1 ?side2 ?side3 ?side4 A37.out).mono ?_
        (case side1 => exact Hof.Cw ((Kd.R_reads' HO776.out).2.2))
        (case side2 => exact (Kd.R_reads' HO776.out).2.1)
        (case side3 => exact Hof.Cw ((Kd.R_reads' HO780.out).2.2))
        (case side4 => exact (Kd.R_reads' HO780.out).2.1)
        rintro e w' ⟨rfl, ⟨nd, rfl⟩⟩
        refine ⟨_, rfl, ?_⟩
        refine hK.out _ _ ⟨(blk_cell BK768.out 0).trans rfl, (blk_cell BK768.out 1).trans rfl⟩ (fun hHeld => ?_)
        clear hK K
        refine norm_ (a' := ?_) ?_ ?_
        rotate_left
        ·show Act.put _ (some 83) _ = _
         simp only [Act.put, List.setIfInBounds_toArray, List.set_cons_zero, List.set_cons_succ, i64_w, i32_w]
         rfl
        refine Hof.pu 24 84 HT_ ?_
        refine Hof.pu 25 85 HT_ ?_
        refine Hof.pu 26 86 HT_ ?_
        refine pure_ (i := 27) (N := some 87) (v := undef) (a' := ?_) #[true, true, true, true, true, true, true, true, true, true, true, true, true, true, true, true, true, true, true, true, true, true, true, true, true, true, true, true, false, false, false, false, false, false, false, false, false, false, false, false, false, false, false, false, false, false, false, false, false] rfl rfl (any_of HT_.out (by kernel_rfl)) (fun _ _ _ h => h) (Or.inr ⟨by rfl, rfl⟩) ?_ ?_
        rotate_left
        ·simp only [Act.put, List.setIfInBounds_toArray, List.set_cons_zero, List.set_cons_succ, i64_w, i32_w]
         rfl
        refine pure_ (i := 28) (N := some 88) (v := undef) (a' := ?_) #[true, true, true, true, true, true, true, true, true, true, true, true, true, true, true, true, true, true, true, true, true, true, true, true, true, true, true, true, true, false, false, false, false, false, false, false, false, false, false, false, false, false, false, false, false, false, false, false, false] rfl rfl (any_of HT_.out (by kernel_rfl)) (fun _ _ _ h => h) (Or.inr ⟨by rfl, rfl⟩) ?_ ?_
        rotate_left
        ·simp only [Act.put, List.setIfInBounds_toArray, List.set_cons_zero, List.set_cons_succ, i64_w, i32_w]
         rfl
        refine pure_ (i := 29) (N := some 89) (v := undef) (a' := ?_) #[true, true, true, true, true, true, true, true, true, true, true, true, true, true, true, true, true, true, true, true, true, true, true, true, true, true, true, true, true, true, false, false, false, false, false, false, false, false, false, false, false, false, false, false, false, false, false, false, false] rfl rfl (any_of HT_.out (by kernel_rfl)) (fun _ _ _ h => h) (Or.inr ⟨by rfl, rfl⟩) ?_ ?_
        rotate_left
        ·simp only [Act.put, List.setIfInBounds_toArray, List.set_cons_zero, List.set_cons_succ, i64_w, i32_w]
         rfl
        refine pure_ (i := 30) (N := some 90) (v := undef) (a' := ?_) #[true, true, true, true, true, true, true, true, true, true, true, true, true, true, true, true, true, true, true, true, true, true, true, true, true, true, true, true, true, true, true, false, false, false, false, false, false, false, false, false, false, false, false, false, false, false, false, false, false] rfl rfl (any_of HT_.out (by kernel_rfl)) (fun _ _ _ h => h) (Or.inr ⟨by rfl, rfl⟩) ?_ ?_
        rotate_left
        ·simp only [Act.put, List.setIfInBounds_toArray, List.set_cons_zero, List.set_cons_succ, i64_w, i32_w]
         rfl
        refine pure_ (i := 31) (N := some 91) (v := undef) (a' := ?_) #[true, true, true, true, true, true, true, true, true, true, true, true, true, true, true, true, true, true, true, true, true, true, true, true, true, true, true, true, true, true, true, true, false, false, false, false, false, false, false, false, false, false, false, false, false, false, false, false, false] rfl rfl (any_of HT_.out (by kernel_rfl)) (fun _ _ _ h => h) (Or.inr ⟨by rfl, rfl⟩) ?_ ?_
        rotate_left
        ·simp only [Act.put, List.setIfInBounds_toArray, List.set_cons_zero, List.set_cons_succ, i64_w, i32_w]
         rfl
        refine pure_ (i := 32) (N := some 92) (v := undef) (a' := ?_) #[true, true, true, true, true, true, true, true, true, true, true, true, true, true, true, true, true, true, true, true, true, true, true, true, true, true, true, true, true, true, true, true, true, false, false, false, false, false, false, false, false, false, false, false, false, false, false, false, false] rfl rfl (any_of HT_.out (by kernel_rfl)) (fun _ _ _ h => h) (Or.inr ⟨by rfl, rfl⟩) ?_ ?_
        rotate_left
        ·simp only [Act.put, List.setIfInBounds_toArray, List.set_cons_zero, List.set_cons_succ, i64_w, i32_w]
         rfl
        refine pure_ (i := 33) (N := some 93) (v := undef) (a' := ?_) #[true, true, true, true, true, true, true, true, true, true, true, true, true, true, true, true, true, true, true, true, true, true, true, true, true, true, true, true, true, true, true, true, true, true, false, false, false, false, false, false, false, false, false, false, false, false, false, false, false] rfl rfl (any_of HT_.out (by kernel_rfl)) (fun _ _ _ h => h) (Or.inr ⟨by rfl, rfl⟩) ?_ ?_
        rotate_left
        ·simp only [Act.put, List.setIfInBounds_toArray, List.set_cons_zero, List.set_cons_succ, i64_w, i32_w]
         rfl
        refine Hof.pu 34 94 HT_ ?_
        refine Hof.pu 35 95 HT_ ?_
        refine pure_ (i := 36) (N := some 96) (v := undef) (a' := ?_) #[true, true, true, true, true, true, true, true, true, true, true, true, true, true, true, true, true, true, true, true, true, true, true, true, true, true, true, true, true, true, true, true, true, true, true, true, true, false, false, false, false, false, false, false, false, false, false, false, false] rfl rfl (any_of HT_.out (by kernel_rfl)) (fun _ _ _ h => h) (Or.inr ⟨by rfl, rfl⟩) ?_ ?_
        rotate_left
        ·simp only [Act.put, List.setIfInBounds_toArray, List.set_cons_zero, List.set_cons_succ, i64_w, i32_w]
         rfl
        refine pure_ (i := 37) (N := some 97) (v := undef) (a' := ?_) #[true, true, true, true, true, true, true, true, true, true, true, true, true, true, true, true, true, true, true, true, true, true, true, true, true, true, true, true, true, true, true, true, true, true, true, true, true, true, false, false, false, false, false, false, false, false, false, false, false] rfl rfl (any_of HT_.out (by kernel_rfl)) (fun _ _ _ h => h) (Or.inr ⟨by rfl, rfl⟩) ?_ ?_
        rotate_left
        ·simp only [Act.put, List.setIfInBounds_toArray, List.set_cons_zero, List.set_cons_succ, i64_w, i32_w]
         rfl
        refine pure_ (i := 38) (N := some 98) (v := undef) (a' := ?_) #[true, true, true, true, true, true, true, true, true, true, true, true, true, true, true, true, true, true, true, true, true, true, true, true, true, true, true, true, true, true, true, true, true, true, true, true, true, true, true, false, false, false, false, false, false, false, false, false, false] rfl rfl (any_of HT_.out (by kernel_rfl)) (fun _ _ _ h => h) (Or.inr ⟨by rfl, rfl⟩) ?_ ?_
        rotate_left
        ·simp only [Act.put, List.setIfInBounds_toArray, List.set_cons_zero, List.set_cons_succ, i64_w, i32_w]
         rfl
        refine pure_ (i := 39) (N := some 99) (v := undef) (a' := ?_) #[true, true, true, true, true, true, true, true, true, true, true, true, true, true, true, true, true, true, true, true, true, true, true, true, true, true, true, true, true, true, true, true, true, true, true, true, true, true, true, true, false, false, false, false, false, false, false, false, false] rfl rfl (any_of HT_.out (by kernel_rfl)) (fun _ _ _ h => h) (Or.inr ⟨by rfl, rfl⟩) ?_ ?_
        rotate_left
        ·simp only [Act.put, List.setIfInBounds_toArray, List.set_cons_zero, List.set_cons_succ, i64_w, i32_w]
         rfl
        refine pure_ (i := 40) (N := some 100) (v := undef) (a' := ?_) #[true, true, true, true, true, true, true, true, true, true, true, true, true, true, true, true, true, true, true, true, true, true, true, true, true, true, true, true, true, true, true, true, true, true, true, true, true, true, true, true, true, false, false, false, false, false, false, false, false] rfl rfl (any_of HT_.out (by kernel_rfl)) (fun _ _ _ h => h) (Or.inr ⟨by rfl, rfl⟩) ?_ ?_
        rotate_left
        ·simp only [Act.put, List.setIfInBounds_toArray, List.set_cons_zero, List.set_cons_succ, i64_w, i32_w]
         rfl
        refine Hof.pu 41 101 HT_ ?_
        refine Hof.pu 42 102 HT_ ?_
        refine pure_ (i := 43) (N := some 103) (v := undef) (a' := ?_) #[true, true, true, true, true, true, true, true, true, true, true, true, true, true, true, true, true, true, true, true, true, true, true, true, true, true, true, true, true, true, true, true, true, true, true, true, true, true, true, true, true, true, true, true, false, false, false, false, false] rfl rfl (any_of HT_.out (by kernel_rfl)) (fun _ _ _ h => h) (Or.inr ⟨by rfl, rfl⟩) ?_ ?_
        rotate_left
        ·simp only [Act.put, List.setIfInBounds_toArray, List.set_cons_zero, List.set_cons_succ, i64_w, i32_w]
         rfl
        refine pure_ (i := 44) (N := some 104) (v := undef) (a' := ?_) #[true, true, true, true, true, true, true, true, true, true, true, true, true, true, true, true, true, true, true, true, true, true, true, true, true, true, true, true, true, true, true, true, true, true, true, true, true, true, true, true, true, true, true, true, true, false, false, false, false] rfl rfl (any_of HT_.out (by kernel_rfl)) (fun _ _ _ h => h) (Or.inr ⟨by rfl, rfl⟩) ?_ ?_
        rotate_left
        ·simp only [Act.put, List.setIfInBounds_toArray, List.set_cons_zero, List.set_cons_succ, i64_w, i32_w]
         rfl
        refine pure_ (i := 45) (N := some 105) (v := undef) (a' := ?_) #[true, true, true, true, true, true, true, true, true, true, true, true, true, true, true, true, true, true, true, true, true, true, true, true, true, true, true, true, true, true, true, true, true, true, true, true, true, true, true, true, true, true, true, true, true, true, false, false, false] rfl rfl (any_of HT_.out (by kernel_rfl)) (fun _ _ _ h => h) (Or.inr ⟨by rfl, rfl⟩) ?_ ?_
        rotate_left
        ·simp only [Act.put, List.setIfInBounds_toArray, List.set_cons_zero, List.set_cons_succ, i64_w, i32_w]
         rfl
        refine pure_ (i := 46) (N := some 106) (v := undef) (a' := ?_) #[true, true, true, true, true, true, true, true, true, true, true, true, true, true, true, true, true, true, true, true, true, true, true, true, true, true, true, true, true, true, true, true, true, true, true, true, true, true, true, true, true, true, true, true, true, true, true, false, false] rfl rfl (any_of HT_.out (by kernel_rfl)) (fun _ _ _ h => h) (Or.inr ⟨by rfl, rfl⟩) ?_ ?_
        rotate_left
        ·simp only [Act.put, List.setIfInBounds_toArray, List.set_cons_zero, List.set_cons_succ, i64_w, i32_w]
         rfl
        refine pure_ (i := 47) (N := some 107) (v := undef) (a' := ?_) #[true, true, true, true, true, true, true, true, true, true, true, true, true, true, true, true, true, true, true, true, true, true, true, true, true, true, true, true, true, true, true, true, true, true, true, true, true, true, true, true, true, true, true, true, true, true, true, true, false] rfl rfl (any_of HT_.out (by kernel_rfl)) (fun _ _ _ h => h) (Or.inr ⟨by rfl, rfl⟩) ?_ ?_
        rotate_left
        ·simp only [Act.put, List.setIfInBounds_toArray, List.set_cons_zero, List.set_cons_succ, i64_w, i32_w]
         rfl
        refine Hof.pu 48 108 HT_ ?_
        refine done_ (done_of HT_.out (by kernel_rfl)) ?_
        try go_wp2
        go_meet
        case rel => exact ⟨_, (true), Hof.F, H', ⟨by first | omega | exact Nat.le_refl _⟩, ⟨Hof.Rw (Kd.R_mono HO759.out (fun _ hk => trivial))⟩, ⟨Hof.Rw (Kd.R_mono HO776.out (fun _ hk => hk.1.1.2))⟩, ⟨Hof.Rw (Kd.R_mono HO767.out (fun _ hk => hk.1.1.2))⟩, ⟨Hof.Bw BK768.out⟩, ⟨Hof.L⟩⟩
     ·replace c31 := Bool.eq_false_iff.mpr c31
      subst c31
      replace H : (laws_FnTasks.j0 k t757 t760 t761 t773 true t764 t765) = some r := by rw [if_neg (show ¬ (false = true) by decide)] at H; exact H
      have H' := Aside0.mk H
      clear H
      try go_wp2
      have n0_ := Aside0.mk (Kd.R_drew HO759.out)
      have n1_ := Aside0.mk (Kd.R_drew HO767.out)
      have n2_ := Aside0.mk (Kd.R_drew HO772.out)
      have n3_ := Aside0.mk (Kd.R_drew HO776.out)
      have n4_ := Aside0.mk (Kd.R_drew HO780.out)
      have n5_ := Aside0.mk (Kd.R_drew HO784.out)
      have n6_ := Aside0.mk (blk_drew BK768.out)
      have n7_ := Aside0.mk (below_drew1 HB.out)
      clear HO759
      clear HO767
      clear HO772
      clear HO776
      clear HO780
      clear HO784
      clear BK768
      clear HB
      have HO759 := n0_
      have HO767 := n1_
      have HO772 := n2_
      have HO776 := n3_
      have HO780 := n4_
      have HO784 := n5_
      have BK768 := n6_
      have HB := n7_
      clear n0_ n1_ n2_ n3_ n4_ n5_ n6_ n7_
      refine start_ (n := 49) (S := fun w' => w'.cell? ⟨gb768, 0, none⟩ = some (.int .i64 t764) ∧ w'.cell? ⟨gb768, 1, none⟩ = some (.slice Ao20 t765.length co20)) (ds := []) #[false, false, false, false, false, false, false, false, false, false, false, false, false, false, false, false, false, false, false, false, false, false, false, false, false, false, false, false, false, false, false, false, false, false, false, false, false, false, false, false, false, false, false, false, false, false, false, false, false] (by kernel_rfl) rfl rfl ⟨(blk_cell BK768.out 0).trans rfl, (blk_cell BK768.out 1).trans rfl⟩ (fun hHeld => ?_); refine with_tabW laws_FnTasks.tab11 laws_FnTasks.bits11 (fun HT_ HW_ => ?_)
      generalize w25.drew = w82 at HO759 HO767 HO772 HO776 HO780 HO784 BK768 HB hHeld ⊢
      refine Hof.pu 0 60 HT_ ?_
      refine Hof.pu 1 61 HT_ ?_
      refine Hof.pu 2 62 HT_ ?_
      refine Hof.pu 3 63 HT_ ?_
      refine Hof.pu 4 64 HT_ ?_
      refine Hof.pu 5 65 HT_ ?_
      refine Hof.pu 6 66 HT_ ?_
      refine Hof.pu 7 67 HT_ ?_
      refine Hof.pu 8 68 HT_ ?_
      refine Hof.pu 10 70 HT_ ?_
      refine Hof.tk 9 69 HT_ HW_ hHeld ?_
      refine one_ (i := 11) (N := some 71) #[true, true, true, true, true, true, true, true, true, true, true, true, false, false, false, false, false, false, false, false, false, false, false, false, false, false, false, false, false, false, false, false, false, false, false, false, false, false, false, false, false, false, false, false, false, false, false, false, false] rfl rfl (one_of HT_.out (by kernel_rfl)) (by decide) (fun K hK => ?_)
      refine goes_ Tryz.func16 (by kernel_rfl) rfl #[.slice Ao14 t757.length co14] (by rfl) rfl rfl (by (try simp only [List.map_toArray, List.map_cons, List.map_nil]); first | done | rfl) ?_
      with_reducible refine (spec_TaskMatroid.calls k _ _ t757 t785 t786 _ ?side1 ?side2 A29.out).mono ?_
      (case side1 => exact Hof.Cw ((Kd.R_reads' HO759.out).2.2))
      (case side2 => exact (Kd.R_reads' HO759.out).2.1)
      rintro e w83 ⟨v787, rfl, ho0, hb⟩
      refine ⟨_, rfl, ?_⟩
      have n0_ := Hof.rb HO759 hb
      have n1_ := Aside0.mk (Kd.R_elder' (Hof.Rw HO767.out) (Kd.R_base ho0) hb)
      have n2_ := Hof.rb HO772 hb
      have n3_ := Aside0.mk (Kd.R_elder' (Hof.Rw HO776.out) (Kd.R_base ho0) hb)
      have n4_ := Aside0.mk (Kd.R_elder' (Hof.Rw HO780.out) (Kd.R_base ho0) hb)
      have n5_ := Hof.rb HO784 hb
      have n6_ := Aside0.mk (Kd.R_lower (Kd.R_new' (Kd.R_new' (Kd.R_new' ho0 (Kd.R_lt (Hof.Rw HO767.out))) (Kd.R_lt (Hof.Rw HO776.out))) (Kd.R_lt (Hof.Rw HO780.out))) (below_size Hof.L))
      have n7_ := Hof.bb BK768 hb
      have n8_ := Aside0.mk (below_step Hof.L hb)
      clear HO759
      clear HO767
      clear HO772
      clear HO776
      clear HO780
      clear HO784
      clear BK768
      clear HB
      have HO759 := n0_
      have HO767 := n1_
      have HO772 := n2_
      have HO776 := n3_
      have HO780 := n4_
      have HO784 := n5_
      have HO788 := n6_
      have BK768 := n7_
      have HB := n8_
      clear n0_ n1_ n2_ n3_ n4_ n5_ n6_ n7_ n8_
      (try clear hb)
      (try clear hb2)
      (try clear hk)
      (try clear hi)
      (try clear ho0)
      obtain ⟨Ao84, co84, eo84⟩ := Kd.R_slice HO788.out
      (first | subst eo84 | (injection eo84 with f1_ f2_ f3_; have f4_ := f1_.symm; have f5_ := f3_.symm; clear f1_ f2_ f3_; subst f4_; subst f5_))
      refine hK.out _ _ ⟨(blk_cell BK768.out 0).trans rfl, (blk_cell BK768.out 1).trans rfl⟩ (fun hHeld => ?_)
      clear hK K
      refine norm_ (a' := ?_) ?_ ?_
      rotate_left
      ·show Act.put _ (some 71) _ = _
       simp only [Act.put, List.setIfInBounds_toArray, List.set_cons_zero, List.set_cons_succ, i64_w, i32_w]
       rfl
      refine one_ (i := 12) (N := some 72) #[true, true, true, true, true, true, true, true, true, true, true, true, true, false, false, false, false, false, false, false, false, false, false, false, false, false, false, false, false, false, false, false, false, false, false, false, false, false, false, false, false, false, false, false, false, false, false, false, false] rfl rfl (one_of HT_.out (by kernel_rfl)) (by decide) (fun K hK => ?_)
      refine goes_ Tryz.func15 (by kernel_rfl) rfl #[.agg #[.int .i64 t764, .slice Ao20 t765.length co20], .agg #[.int .i64 t785, .slice Ao84 t786.length co84]] (by rfl) rfl rfl (by (try simp only [List.map_toArray, List.map_cons, List.map_nil]); first | done | rfl) ?_
      with_reducible refine (spec_EqualMatroid.calls k t764 _ _ t765 t785 _ _ t786 false _ ?side1 ?side2 ?side3 ?side4 A30.out).mono ?_
      (case side1 => exact Hof.Cw ((Kd.R_reads' HO767.out).2.2))
      (case side2 => exact (Kd.R_reads' HO767.out).2.1)
      (case side3 => exact Hof.Cw ((Kd.R_reads' HO788.out).2.2))
      (case side4 => exact (Kd.R_reads' HO788.out).2.1)
      rintro e w85 ⟨rfl, hb⟩
      refine ⟨_, rfl, ?_⟩
      have n0_ := Hof.rb HO759 hb
      have n1_ := Hof.rb HO767 hb
      have n2_ := Hof.rb HO772 hb
      have n3_ := Hof.rb HO776 hb
      have n4_ := Hof.rb HO780 hb
      have n5_ := Hof.rb HO784 hb
      have n6_ := Hof.rb HO788 hb
      have n7_ := Hof.bb BK768 hb
      have n8_ := Aside0.mk (below_step Hof.L hb)
      clear HO759
      clear HO767
      clear HO772
      clear HO776
      clear HO780
      clear HO784
      clear HO788
      clear BK768
      clear HB
      have HO759 := n0_
      have HO767 := n1_
      have HO772 := n2_
      have HO776 := n3_
      have HO780 := n4_
      have HO784 := n5_
      have HO788 := n6_
      have BK768 := n7_
      have HB := n8_
      clear n0_ n1_ n2_ n3_ n4_ n5_ n6_ n7_ n8_
      (try clear hb)
      (try clear hb2)
      (try clear hk)
      (try clear hi)
      refine hK.out _ _ ⟨(blk_cell BK768.out 0).trans rfl, (blk_cell BK768.out 1).trans rfl⟩ (fun hHeld => ?_)
      clear hK K
      refine norm_ (a' := ?_) ?_ ?_
      rotate_left
      ·show Act.put _ (some 72) _ = _
       simp only [Act.put, List.setIfInBounds_toArray, List.set_cons_zero, List.set_cons_succ, i64_w, i32_w]
       rfl
      refine Hof.pu 13 73 HT_ ?_
      refine Hof.pu 14 74 HT_ ?_
      refine Hof.pu 15 75 HT_ ?_
      refine pure_ (i := 16) (N := some 76) (v := undef) (a' := ?_) #[true, true, true, true, true, true, true, true, true, true, true, true, true, true, true, true, true, false, false, false, false, false, false, false, false, false, false, false, false, false, false, false, false, false, false, false, false, false, false, false, false, false, false, false, false, false, false, false, false] rfl rfl (any_of HT_.out (by kernel_rfl)) (fun _ _ _ h => h) (Or.inr ⟨by rfl, rfl⟩) ?_ ?_
      rotate_left
      ·simp only [Act.put, List.setIfInBounds_toArray, List.set_cons_zero, List.set_cons_succ, i64_w, i32_w]
       rfl
      refine pure_ (i := 17) (N := some 77) (v := undef) (a' := ?_) #[true, true, true, true, true, true, true, true, true, true, true, true, true, true, true, true, true, true, false, false, false, false, false, false, false, false, false, false, false, false, false, false, false, false, false, false, false, false, false, false, false, false, false, false, false, false, false, false, false] rfl rfl (any_of HT_.out (by kernel_rfl)) (fun _ _ _ h => h) (Or.inr ⟨by rfl, rfl⟩) ?_ ?_
      rotate_left
      ·simp only [Act.put, List.setIfInBounds_toArray, List.set_cons_zero, List.set_cons_succ, i64_w, i32_w]
       rfl
      refine pure_ (i := 18) (N := some 78) (v := undef) (a' := ?_) #[true, true, true, true, true, true, true, true, true, true, true, true, true, true, true, true, true, true, true, false, false, false, false, false, false, false, false, false, false, false, false, false, false, false, false, false, false, false, false, false, false, false, false, false, false, false, false, false, false] rfl rfl (any_of HT_.out (by kernel_rfl)) (fun _ _ _ h => h) (Or.inr ⟨by rfl, rfl⟩) ?_ ?_
      rotate_left
      ·simp only [Act.put, List.setIfInBounds_toArray, List.set_cons_zero, List.set_cons_succ, i64_w, i32_w]
       rfl
      refine Hof.pu 19 79 HT_ ?_
      refine Hof.pu 20 80 HT_ ?_
      refine pure_ (i := 21) (N := some 81) (v := undef) (a' := ?_) #[true, true, true, true, true, true, true, true, true, true, true, true, true, true, true, true, true, true, true, true, true, true, false, false, false, false, false, false, false, false, false, false, false, false, false, false, false, false, false, false, false, false, false, false, false, false, false, false, false] rfl rfl (any_of HT_.out (by kernel_rfl)) (fun _ _ _ h => h) (Or.inr ⟨by rfl, rfl⟩) ?_ ?_
      rotate_left
      ·simp only [Act.put, List.setIfInBounds_toArray, List.set_cons_zero, List.set_cons_succ, i64_w, i32_w]
       rfl
      refine pure_ (i := 22) (N := some 82) (v := undef) (a' := ?_) #[true, true, true, true, true, true, true, true, true, true, true, true, true, true, true, true, true, true, true, true, true, true, true, false, false, false, false, false, false, false, false, false, false, false, false, false, false, false, false, false, false, false, false, false, false, false, false, false, false] rfl rfl (any_of HT_.out (by kernel_rfl)) (fun _ _ _ h => h) (Or.inr ⟨by rfl, rfl⟩) ?_ ?_
      rotate_left
      ·simp only [Act.put, List.setIfInBounds_toArray, List.set_cons_zero, List.set_cons_succ, i64_w, i32_w]
       rfl
      refine pure_ (i := 23) (N := some 83) (v := undef) (a' := ?_) #[true, true, true, true, true, true, true, true, true, true, true, true, true, true, true, true, true, true, true, true, true, true, true, true, false, false, false, false, false, false, false, false, false, false, false, false, false, false, false, false, false, false, false, false, false, false, false, false, false] rfl rfl (any_of HT_.out (by kernel_rfl)) (fun _ _ _ h => h) (Or.inr ⟨by rfl, rfl⟩) ?_ ?_
      rotate_left
      ·simp only [Act.put, List.setIfInBounds_toArray, List.set_cons_zero, List.set_cons_succ, i64_w, i32_w]
       rfl
      refine pure_ (i := 24) (N := some 84) (v := undef) (a' := ?_) #[true, true, true, true, true, true, true, true, true, true, true, true, true, true, true, true, true, true, true, true, true, true, true, true, true, false, false, false, false, false, false, false, false, false, false, false, false, false, false, false, false, false, false, false, false, false, false, false, false] rfl rfl (any_of HT_.out (by kernel_rfl)) (fun _ _ _ h => h) (Or.inr ⟨by rfl, rfl⟩) ?_ ?_
      rotate_left
      ·simp only [Act.put, List.setIfInBounds_toArray, List.set_cons_zero, List.set_cons_succ, i64_w, i32_w]
       rfl
      refine Hof.pu 25 85 HT_ ?_
      refine Hof.pu 26 86 HT_ ?_
      refine pure_ (i := 27) (N := some 87) (v := undef) (a' := ?_) #[true, true, true, true, true, true, true, true, true, true, true, true, true, true, true, true, true, true, true, true, true, true, true, true, true, true, true, true, false, false, false, false, false, false, false, false, false, false, false, false, false, false, false, false, false, false, false, false, false] rfl rfl (any_of HT_.out (by kernel_rfl)) (fun _ _ _ h => h) (Or.inr ⟨by rfl, rfl⟩) ?_ ?_
      rotate_left
      ·simp only [Act.put, List.setIfInBounds_toArray, List.set_cons_zero, List.set_cons_succ, i64_w, i32_w]
       rfl
      refine pure_ (i := 28) (N := some 88) (v := undef) (a' := ?_) #[true, true, true, true, true, true, true, true, true, true, true, true, true, true, true, true, true, true, true, true, true, true, true, true, true, true, true, true, true, false, false, false, false, false, false, false, false, false, false, false, false, false, false, false, false, false, false, false, false] rfl rfl (any_of HT_.out (by kernel_rfl)) (fun _ _ _ h => h) (Or.inr ⟨by rfl, rfl⟩) ?_ ?_
      rotate_left
      ·simp only [Act.put, List.setIfInBounds_toArray, List.set_cons_zero, List.set_cons_succ, i64_w, i32_w]
       rfl
      refine pure_ (i := 29) (N := some 89) (v := undef) (a' := ?_) #[true, true, true, true, true, true, true, true, true, true, true, true, true, true, true, true, true, true, true, true, true, true, true, true, true, true, true, true, true, true, false, false, false, false, false, false, false, false, false, false, false, false, false, false, false, false, false, false, false] rfl rfl (any_of HT_.out (by kernel_rfl)) (fun _ _ _ h => h) (Or.inr ⟨by rfl, rfl⟩) ?_ ?_
      rotate_left
      ·simp only [Act.put, List.setIfInBounds_toArray, List.set_cons_zero, List.set_cons_succ, i64_w, i32_w]
       rfl
      refine pure_ (i := 30) (N := some 90) (v := undef) (a' := ?_) #[true, true, true, true, true, true, true, true, true, true, true, true, true, true, true, true, true, true, true, true, true, true, true, true, true, true, true, true, true, true, true, false, false, false, false, false, false, false, false, false, false, false, false, false, false, false, false, false, false] rfl rfl (any_of HT_.out (by kernel_rfl)) (fun _ _ _ h => h) (Or.inr ⟨by rfl, rfl⟩) ?_ ?_
      rotate_left
      ·simp only [Act.put, List.setIfInBounds_toArray, List.set_cons_zero, List.set_cons_succ, i64_w, i32_w]
       rfl
      refine pure_ (i := 31) (N := some 91) (v := undef) (a' := ?_) #[true, true, true, true, true, true, true, true, true, true, true, true, true, true, true, true, true, true, true, true, true, true, true, true, true, true, true, true, true, true, true, true, false, false, false, false, false, false, false, false, false, false, false, false, false, false, false, false, false] rfl rfl (any_of HT_.out (by kernel_rfl)) (fun _ _ _ h => h) (Or.inr ⟨by rfl, rfl⟩) ?_ ?_
      rotate_left
      ·simp only [Act.put, List.setIfInBounds_toArray, List.set_cons_zero, List.set_cons_succ, i64_w, i32_w]
       rfl
      refine pure_ (i := 32) (N := some 92) (v := undef) (a' := ?_) #[true, true, true, true, true, true, true, true, true, true, true, true, true, true, true, true, true, true, true, true, true, true, true, true, true, true, true, true, true, true, true, true, true, false, false, false, false, false, false, false, false, false, false, false, false, false, false, false, false] rfl rfl (any_of HT_.out (by kernel_rfl)) (fun _ _ _ h => h) (Or.inr ⟨by rfl, rfl⟩) ?_ ?_
      rotate_left
      ·simp only [Act.put, List.setIfInBounds_toArray, List.set_cons_zero, List.set_cons_succ, i64_w, i32_w]
       rfl
      refine pure_ (i := 33) (N := some 93) (v := undef) (a' := ?_) #[true, true, true, true, true, true, true, true, true, true, true, true, true, true, true, true, true, true, true, true, true, true, true, true, true, true, true, true, true, true, true, true, true, true, false, false, false, false, false, false, false, false, false, false, false, false, false, false, false] rfl rfl (any_of HT_.out (by kernel_rfl)) (fun _ _ _ h => h) (Or.inr ⟨by rfl, rfl⟩) ?_ ?_
      rotate_left
      ·simp only [Act.put, List.setIfInBounds_toArray, List.set_cons_zero, List.set_cons_succ, i64_w, i32_w]
       rfl
      refine Hof.pu 34 94 HT_ ?_
      refine Hof.pu 35 95 HT_ ?_
      refine pure_ (i := 36) (N := some 96) (v := undef) (a' := ?_) #[true, true, true, true, true, true, true, true, true, true, true, true, true, true, true, true, true, true, true, true, true, true, true, true, true, true, true, true, true, true, true, true, true, true, true, true, true, false, false, false, false, false, false, false, false, false, false, false, false] rfl rfl (any_of HT_.out (by kernel_rfl)) (fun _ _ _ h => h) (Or.inr ⟨by rfl, rfl⟩) ?_ ?_
      rotate_left
      ·simp only [Act.put, List.setIfInBounds_toArray, List.set_cons_zero, List.set_cons_succ, i64_w, i32_w]
       rfl
      refine pure_ (i := 37) (N := some 97) (v := undef) (a' := ?_) #[true, true, true, true, true, true, true, true, true, true, true, true, true, true, true, true, true, true, true, true, true, true, true, true, true, true, true, true, true, true, true, true, true, true, true, true, true, true, false, false, false, false, false, false, false, false, false, false, false] rfl rfl (any_of HT_.out (by kernel_rfl)) (fun _ _ _ h => h) (Or.inr ⟨by rfl, rfl⟩) ?_ ?_
      rotate_left
      ·simp only [Act.put, List.setIfInBounds_toArray, List.set_cons_zero, List.set_cons_succ, i64_w, i32_w]
       rfl
      refine pure_ (i := 38) (N := some 98) (v := undef) (a' := ?_) #[true, true, true, true, true, true, true, true, true, true, true, true, true, true, true, true, true, true, true, true, true, true, true, true, true, true, true, true, true, true, true, true, true, true, true, true, true, true, true, false, false, false, false, false, false, false, false, false, false] rfl rfl (any_of HT_.out (by kernel_rfl)) (fun _ _ _ h => h) (Or.inr ⟨by rfl, rfl⟩) ?_ ?_
      rotate_left
      ·simp only [Act.put, List.setIfInBounds_toArray, List.set_cons_zero, List.set_cons_succ, i64_w, i32_w]
       rfl
      refine pure_ (i := 39) (N := some 99) (v := undef) (a' := ?_) #[true, true, true, true, true, true, true, true, true, true, true, true, true, true, true, true, true, true, true, true, true, true, true, true, true, true, true, true, true, true, true, true, true, true, true, true, true, true, true, true, false, false, false, false, false, false, false, false, false] rfl rfl (any_of HT_.out (by kernel_rfl)) (fun _ _ _ h => h) (Or.inr ⟨by rfl, rfl⟩) ?_ ?_
      rotate_left
      ·simp only [Act.put, List.setIfInBounds_toArray, List.set_cons_zero, List.set_cons_succ, i64_w, i32_w]
       rfl
      refine pure_ (i := 40) (N := some 100) (v := undef) (a' := ?_) #[true, true, true, true, true, true, true, true, true, true, true, true, true, true, true, true, true, true, true, true, true, true, true, true, true, true, true, true, true, true, true, true, true, true, true, true, true, true, true, true, true, false, false, false, false, false, false, false, false] rfl rfl (any_of HT_.out (by kernel_rfl)) (fun _ _ _ h => h) (Or.inr ⟨by rfl, rfl⟩) ?_ ?_
      rotate_left
      ·simp only [Act.put, List.setIfInBounds_toArray, List.set_cons_zero, List.set_cons_succ, i64_w, i32_w]
       rfl
      refine Hof.pu 41 101 HT_ ?_
      refine Hof.pu 42 102 HT_ ?_
      refine pure_ (i := 43) (N := some 103) (v := undef) (a' := ?_) #[true, true, true, true, true, true, true, true, true, true, true, true, true, true, true, true, true, true, true, true, true, true, true, true, true, true, true, true, true, true, true, true, true, true, true, true, true, true, true, true, true, true, true, true, false, false, false, false, false] rfl rfl (any_of HT_.out (by kernel_rfl)) (fun _ _ _ h => h) (Or.inr ⟨by rfl, rfl⟩) ?_ ?_
      rotate_left
      ·simp only [Act.put, List.setIfInBounds_toArray, List.set_cons_zero, List.set_cons_succ, i64_w, i32_w]
       rfl
      refine pure_ (i := 44) (N := some 104) (v := undef) (a' := ?_) #[true, true, true, true, true, true, true, true, true, true, true, true, true, true, true, true, true, true, true, true, true, true, true, true, true, true, true, true, true, true, true, true, true, true, true, true, true, true, true, true, true, true, true, true, true, false, false, false, false] rfl rfl (any_of HT_.out (by kernel_rfl)) (fun _ _ _ h => h) (Or.inr ⟨by rfl, rfl⟩) ?_ ?_
      rotate_left
      ·simp only [Act.put, List.setIfInBounds_toArray, List.set_cons_zero, List.set_cons_succ, i64_w, i32_w]
       rfl
      refine pure_ (i := 45) (N := some 105) (v := undef) (a' := ?_) #[true, true, true, true, true, true, true, true, true, true, true, true, true, true, true, true, true, true, true, true, true, true, true, true, true, true, true, true, true, true, true, true, true, true, true, true, true, true, true, true, true, true, true, true, true, true, false, false, false] rfl rfl (any_of HT_.out (by kernel_rfl)) (fun _ _ _ h => h) (Or.inr ⟨by rfl, rfl⟩) ?_ ?_
      rotate_left
      ·simp only [Act.put, List.setIfInBounds_toArray, List.set_cons_zero, List.set_cons_succ, i64_w, i32_w]
       rfl
      refine pure_ (i := 46) (N := some 106) (v := undef) (a' := ?_) #[true, true, true, true, true, true, true, true, true, true, true, true, true, true, true, true, true, true, true, true, true, true, true, true, true, true, true, true, true, true, true, true, true, true, true, true, true, true, true, true, true, true, true, true, true, true, true, false, false] rfl rfl (any_of HT_.out (by kernel_rfl)) (fun _ _ _ h => h) (Or.inr ⟨by rfl, rfl⟩) ?_ ?_
      rotate_left
      ·simp only [Act.put, List.setIfInBounds_toArray, List.set_cons_zero, List.set_cons_succ, i64_w, i32_w]
       rfl
      refine pure_ (i := 47) (N := some 107) (v := undef) (a' := ?_) #[true, true, true, true, true, true, true, true, true, true, true, true, true, true, true, true, true, true, true, true, true, true, true, true, true, true, true, true, true, true, true, true, true, true, true, true, true, true, true, true, true, true, true, true, true, true, true, true, false] rfl rfl (any_of HT_.out (by kernel_rfl)) (fun _ _ _ h => h) (Or.inr ⟨by rfl, rfl⟩) ?_ ?_
      rotate_left
      ·simp only [Act.put, List.setIfInBounds_toArray, List.set_cons_zero, List.set_cons_succ, i64_w, i32_w]
       rfl
      refine Hof.pu 48 108 HT_ ?_
      refine done_ (done_of HT_.out (by kernel_rfl)) ?_
      try go_wp2
      go_meet
      case rel => exact ⟨_, (true), Hof.F, H', ⟨by first | omega | exact Nat.le_refl _⟩, ⟨Hof.Rw (Kd.R_mono HO759.out (fun _ hk => trivial))⟩, ⟨Hof.Rw (Kd.R_mono HO776.out (fun _ hk => hk.1.1.2))⟩, ⟨Hof.Rw (Kd.R_mono HO767.out (fun _ hk => hk.1.1.2))⟩, ⟨Hof.Bw BK768.out⟩, ⟨Hof.L⟩⟩
    ·rw [if_neg c28] at H
     have c28b0 : (t760 == t762) = false := beq_eq_false_iff_ne.mpr c28
     have c28b1 : (t760 != t762) = true := bne_iff_ne.mpr c28
     have H' := Aside0.mk H
     clear H
     try go_wp2
     have n0_ := Aside0.mk (Kd.R_drew HO759.out)
     have n1_ := Aside0.mk (Kd.R_drew HO767.out)
     have n2_ := Aside0.mk (Kd.R_drew HO772.out)
     have n3_ := Aside0.mk (Kd.R_drew HO776.out)
     have n4_ := Aside0.mk (Kd.R_drew HO780.out)
     have n5_ := Aside0.mk (Kd.R_drew HO784.out)
     have n6_ := Aside0.mk (blk_drew BK768.out)
     have n7_ := Aside0.mk (below_drew1 HB.out)
     clear HO759
     clear HO767
     clear HO772
     clear HO776
     clear HO780
     clear HO784
     clear BK768
     clear HB
     have HO759 := n0_
     have HO767 := n1_
     have HO772 := n2_
     have HO776 := n3_
     have HO780 := n4_
     have HO784 := n5_
     have BK768 := n6_
     have HB := n7_
     clear n0_ n1_ n2_ n3_ n4_ n5_ n6_ n7_
     refine start_ (n := 49) (S := fun w' => True) (ds := []) #[false, false, false, false, false, false, false, false, false, false, false, false, false, false, false, false, false, false, false, false, false, false, false, false, false, false, false, false, false, false, false, false, false, false, false, false, false, false, false, false, false, false, false, false, false, false, false, false, false] (by kernel_rfl) rfl rfl trivial (fun hHeld => ?_); refine with_tabW laws_FnTasks.tab11 laws_FnTasks.bits11 (fun HT_ HW_ => ?_)
     generalize w25.drew = w86 at HO759 HO767 HO772 HO776 HO780 HO784 BK768 HB hHeld ⊢
     refine Hof.pu 0 60 HT_ ?_
     refine Hof.pu 1 61 HT_ ?_
     refine Hof.pu 2 62 HT_ ?_
     refine Hof.pu 3 63 HT_ ?_
     refine Hof.pu 4 64 HT_ ?_
     refine Hof.pu 5 65 HT_ ?_
     refine Hof.pu 6 66 HT_ ?_
     refine Hof.pu 7 67 HT_ ?_
     refine Hof.pu 8 68 HT_ ?_
     refine pure_ (i := 9) (N := some 69) (v := undef) (a' := ?_) #[true, true, true, true, true, true, true, true, true, true, false, false, false, false, false, false, false, false, false, false, false, false, false, false, false, false, false, false, false, false, false, false, false, false, false, false, false, false, false, false, false, false, false, false, false, false, false, false, false] rfl rfl (any_of HT_.out (by kernel_rfl)) (fun _ _ _ h => h) (Or.inr ⟨by rfl, rfl⟩) ?_ ?_
     rotate_left
     ·simp only [Act.put, List.setIfInBounds_toArray, List.set_cons_zero, List.set_cons_succ, i64_w, i32_w]
      rfl
     refine pure_ (i := 10) (N := some 70) (v := undef) (a' := ?_) #[true, true, true, true, true, true, true, true, true, true, true, false, false, false, false, false, false, false, false, false, false, false, false, false, false, false, false, false, false, false, false, false, false, false, false, false, false, false, false, false, false, false, false, false, false, false, false, false, false] rfl rfl (any_of HT_.out (by kernel_rfl)) (fun _ _ _ h => h) (Or.inr ⟨by rfl, rfl⟩) ?_ ?_
     rotate_left
     ·simp only [Act.put, List.setIfInBounds_toArray, List.set_cons_zero, List.set_cons_succ, i64_w, i32_w]
      rfl
     refine pure_ (i := 11) (N := some 71) (v := undef) (a' := ?_) #[true, true, true, true, true, true, true, true, true, true, true, true, false, false, false, false, false, false, false, false, false, false, false, false, false, false, false, false, false, false, false, false, false, false, false, false, false, false, false, false, false, false, false, false, false, false, false, false, false] rfl rfl (any_of HT_.out (by kernel_rfl)) (fun _ _ _ h => h) (Or.inr ⟨by rfl, rfl⟩) ?_ ?_
     rotate_left
     ·simp only [Act.put, List.setIfInBounds_toArray, List.set_cons_zero, List.set_cons_succ, i64_w, i32_w]
      rfl
     refine pure_ (i := 12) (N := some 72) (v := undef) (a' := ?_) #[true, true, true, true, true, true, true, true, true, true, true, true, true, false, false, false, false, false, false, false, false, false, false, false, false, false, false, false, false, false, false, false, false, false, false, false, false, false, false, false, false, false, false, false, false, false, false, false, false] rfl rfl (any_of HT_.out (by kernel_rfl)) (fun _ _ _ h => h) (Or.inr ⟨by rfl, rfl⟩) ?_ ?_
     rotate_left
     ·simp only [Act.put, List.setIfInBounds_toArray, List.set_cons_zero, List.set_cons_succ, i64_w, i32_w]
      rfl
     refine pure_ (i := 13) (N := some 73) (v := undef) (a' := ?_) #[true, true, true, true, true, true, true, true, true, true, true, true, true, true, false, false, false, false, false, false, false, false, false, false, false, false, false, false, false, false, false, false, false, false, false, false, false, false, false, false, false, false, false, false, false, false, false, false, false] rfl rfl (any_of HT_.out (by kernel_rfl)) (fun _ _ _ h => h) (Or.inr ⟨by rfl, rfl⟩) ?_ ?_
     rotate_left
     ·simp only [Act.put, List.setIfInBounds_toArray, List.set_cons_zero, List.set_cons_succ, i64_w, i32_w]
      rfl
     refine Hof.pu 14 74 HT_ ?_
     refine Hof.pu 15 75 HT_ ?_
     refine pure_ (i := 16) (N := some 76) (v := undef) (a' := ?_) #[true, true, true, true, true, true, true, true, true, true, true, true, true, true, true, true, true, false, false, false, false, false, false, false, false, false, false, false, false, false, false, false, false, false, false, false, false, false, false, false, false, false, false, false, false, false, false, false, false] rfl rfl (any_of HT_.out (by kernel_rfl)) (fun _ _ _ h => h) (Or.inr ⟨by rfl, rfl⟩) ?_ ?_
     rotate_left
     ·simp only [Act.put, List.setIfInBounds_toArray, List.set_cons_zero, List.set_cons_succ, i64_w, i32_w]
      rfl
     refine pure_ (i := 17) (N := some 77) (v := undef) (a' := ?_) #[true, true, true, true, true, true, true, true, true, true, true, true, true, true, true, true, true, true, false, false, false, false, false, false, false, false, false, false, false, false, false, false, false, false, false, false, false, false, false, false, false, false, false, false, false, false, false, false, false] rfl rfl (any_of HT_.out (by kernel_rfl)) (fun _ _ _ h => h) (Or.inr ⟨by rfl, rfl⟩) ?_ ?_
     rotate_left
     ·simp only [Act.put, List.setIfInBounds_toArray, List.set_cons_zero, List.set_cons_succ, i64_w, i32_w]
      rfl
     refine pure_ (i := 18) (N := some 78) (v := undef) (a' := ?_) #[true, true, true, true, true, true, true, true, true, true, true, true, true, true, true, true, true, true, true, false, false, false, false, false, false, false, false, false, false, false, false, false, false, false, false, false, false, false, false, false, false, false, false, false, false, false, false, false, false] rfl rfl (any_of HT_.out (by kernel_rfl)) (fun _ _ _ h => h) (Or.inr ⟨by rfl, rfl⟩) ?_ ?_
     rotate_left
     ·simp only [Act.put, List.setIfInBounds_toArray, List.set_cons_zero, List.set_cons_succ, i64_w, i32_w]
      rfl
     refine Hof.pu 19 79 HT_ ?_
     refine Hof.pu 20 80 HT_ ?_
     refine pure_ (i := 21) (N := some 81) (v := undef) (a' := ?_) #[true, true, true, true, true, true, true, true, true, true, true, true, true, true, true, true, true, true, true, true, true, true, false, false, false, false, false, false, false, false, false, false, false, false, false, false, false, false, false, false, false, false, false, false, false, false, false, false, false] rfl rfl (any_of HT_.out (by kernel_rfl)) (fun _ _ _ h => h) (Or.inr ⟨by rfl, rfl⟩) ?_ ?_
     rotate_left
     ·simp only [Act.put, List.setIfInBounds_toArray, List.set_cons_zero, List.set_cons_succ, i64_w, i32_w]
      rfl
     refine pure_ (i := 22) (N := some 82) (v := undef) (a' := ?_) #[true, true, true, true, true, true, true, true, true, true, true, true, true, true, true, true, true, true, true, true, true, true, true, false, false, false, false, false, false, false, false, false, false, false, false, false, false, false, false, false, false, false, false, false, false, false, false, false, false] rfl rfl (any_of HT_.out (by kernel_rfl)) (fun _ _ _ h => h) (Or.inr ⟨by rfl, rfl⟩) ?_ ?_
     rotate_left
     ·simp only [Act.put, List.setIfInBounds_toArray, List.set_cons_zero, List.set_cons_succ, i64_w, i32_w]
      rfl
     refine pure_ (i := 23) (N := some 83) (v := undef) (a' := ?_) #[true, true, true, true, true, true, true, true, true, true, true, true, true, true, true, true, true, true, true, true, true, true, true, true, false, false, false, false, false, false, false, false, false, false, false, false, false, false, false, false, false, false, false, false, false, false, false, false, false] rfl rfl (any_of HT_.out (by kernel_rfl)) (fun _ _ _ h => h) (Or.inr ⟨by rfl, rfl⟩) ?_ ?_
     rotate_left
     ·simp only [Act.put, List.setIfInBounds_toArray, List.set_cons_zero, List.set_cons_succ, i64_w, i32_w]
      rfl
     refine pure_ (i := 24) (N := some 84) (v := undef) (a' := ?_) #[true, true, true, true, true, true, true, true, true, true, true, true, true, true, true, true, true, true, true, true, true, true, true, true, true, false, false, false, false, false, false, false, false, false, false, false, false, false, false, false, false, false, false, false, false, false, false, false, false] rfl rfl (any_of HT_.out (by kernel_rfl)) (fun _ _ _ h => h) (Or.inr ⟨by rfl, rfl⟩) ?_ ?_
     rotate_left
     ·simp only [Act.put, List.setIfInBounds_toArray, List.set_cons_zero, List.set_cons_succ, i64_w, i32_w]
      rfl
     refine Hof.pu 25 85 HT_ ?_
     refine Hof.pu 26 86 HT_ ?_
     refine pure_ (i := 27) (N := some 87) (v := undef) (a' := ?_) #[true, true, true, true, true, true, true, true, true, true, true, true, true, true, true, true, true, true, true, true, true, true, true, true, true, true, true, true, false, false, false, false, false, false, false, false, false, false, false, false, false, false, false, false, false, false, false, false, false] rfl rfl (any_of HT_.out (by kernel_rfl)) (fun _ _ _ h => h) (Or.inr ⟨by rfl, rfl⟩) ?_ ?_
     rotate_left
     ·simp only [Act.put, List.setIfInBounds_toArray, List.set_cons_zero, List.set_cons_succ, i64_w, i32_w]
      rfl
     refine pure_ (i := 28) (N := some 88) (v := undef) (a' := ?_) #[true, true, true, true, true, true, true, true, true, true, true, true, true, true, true, true, true, true, true, true, true, true, true, true, true, true, true, true, true, false, false, false, false, false, false, false, false, false, false, false, false, false, false, false, false, false, false, false, false] rfl rfl (any_of HT_.out (by kernel_rfl)) (fun _ _ _ h => h) (Or.inr ⟨by rfl, rfl⟩) ?_ ?_
     rotate_left
     ·simp only [Act.put, List.setIfInBounds_toArray, List.set_cons_zero, List.set_cons_succ, i64_w, i32_w]
      rfl
     refine pure_ (i := 29) (N := some 89) (v := undef) (a' := ?_) #[true, true, true, true, true, true, true, true, true, true, true, true, true, true, true, true, true, true, true, true, true, true, true, true, true, true, true, true, true, true, false, false, false, false, false, false, false, false, false, false, false, false, false, false, false, false, false, false, false] rfl rfl (any_of HT_.out (by kernel_rfl)) (fun _ _ _ h => h) (Or.inr ⟨by rfl, rfl⟩) ?_ ?_
     rotate_left
     ·simp only [Act.put, List.setIfInBounds_toArray, List.set_cons_zero, List.set_cons_succ, i64_w, i32_w]
      rfl
     refine pure_ (i := 30) (N := some 90) (v := undef) (a' := ?_) #[true, true, true, true, true, true, true, true, true, true, true, true, true, true, true, true, true, true, true, true, true, true, true, true, true, true, true, true, true, true, true, false, false, false, false, false, false, false, false, false, false, false, false, false, false, false, false, false, false] rfl rfl (any_of HT_.out (by kernel_rfl)) (fun _ _ _ h => h) (Or.inr ⟨by rfl, rfl⟩) ?_ ?_
     rotate_left
     ·simp only [Act.put, List.setIfInBounds_toArray, List.set_cons_zero, List.set_cons_succ, i64_w, i32_w]
      rfl
     refine pure_ (i := 31) (N := some 91) (v := undef) (a' := ?_) #[true, true, true, true, true, true, true, true, true, true, true, true, true, true, true, true, true, true, true, true, true, true, true, true, true, true, true, true, true, true, true, true, false, false, false, false, false, false, false, false, false, false, false, false, false, false, false, false, false] rfl rfl (any_of HT_.out (by kernel_rfl)) (fun _ _ _ h => h) (Or.inr ⟨by rfl, rfl⟩) ?_ ?_
     rotate_left
     ·simp only [Act.put, List.setIfInBounds_toArray, List.set_cons_zero, List.set_cons_succ, i64_w, i32_w]
      rfl
     refine pure_ (i := 32) (N := some 92) (v := undef) (a' := ?_) #[true, true, true, true, true, true, true, true, true, true, true, true, true, true, true, true, true, true, true, true, true, true, true, true, true, true, true, true, true, true, true, true, true, false, false, false, false, false, false, false, false, false, false, false, false, false, false, false, false] rfl rfl (any_of HT_.out (by kernel_rfl)) (fun _ _ _ h => h) (Or.inr ⟨by rfl, rfl⟩) ?_ ?_
     rotate_left
     ·simp only [Act.put, List.setIfInBounds_toArray, List.set_cons_zero, List.set_cons_succ, i64_w, i32_w]
      rfl
     refine pure_ (i := 33) (N := some 93) (v := undef) (a' := ?_) #[true, true, true, true, true, true, true, true, true, true, true, true, true, true, true, true, true, true, true, true, true, true, true, true, true, true, true, true, true, true, true, true, true, true, false, false, false, false, false, false, false, false, false, false, false, false, false, false, false] rfl rfl (any_of HT_.out (by kernel_rfl)) (fun _ _ _ h => h) (Or.inr ⟨by rfl, rfl⟩) ?_ ?_
     rotate_left
     ·simp only [Act.put, List.setIfInBounds_toArray, List.set_cons_zero, List.set_cons_succ, i64_w, i32_w]
      rfl
     refine Hof.pu 34 94 HT_ ?_
     refine Hof.pu 35 95 HT_ ?_
     refine pure_ (i := 36) (N := some 96) (v := undef) (a' := ?_) #[true, true, true, true, true, true, true, true, true, true, true, true, true, true, true, true, true, true, true, true, true, true, true, true, true, true, true, true, true, true, true, true, true, true, true, true, true, false, false, false, false, false, false, false, false, false, false, false, false] rfl rfl (any_of HT_.out (by kernel_rfl)) (fun _ _ _ h => h) (Or.inr ⟨by rfl, rfl⟩) ?_ ?_
     rotate_left
     ·simp only [Act.put, List.setIfInBounds_toArray, List.set_cons_zero, List.set_cons_succ, i64_w, i32_w]
      rfl
     refine pure_ (i := 37) (N := some 97) (v := undef) (a' := ?_) #[true, true, true, true, true, true, true, true, true, true, true, true, true, true, true, true, true, true, true, true, true, true, true, true, true, true, true, true, true, true, true, true, true, true, true, true, true, true, false, false, false, false, false, false, false, false, false, false, false] rfl rfl (any_of HT_.out (by kernel_rfl)) (fun _ _ _ h => h) (Or.inr ⟨by rfl, rfl⟩) ?_ ?_
     rotate_left
     ·simp only [Act.put, List.setIfInBounds_toArray, List.set_cons_zero, List.set_cons_succ, i64_w, i32_w]
      rfl
     refine pure_ (i := 38) (N := some 98) (v := undef) (a' := ?_) #[true, true, true, true, true, true, true, true, true, true, true, true, true, true, true, true, true, true, true, true, true, true, true, true, true, true, true, true, true, true, true, true, true, true, true, true, true, true, true, false, false, false, false, false, false, false, false, false, false] rfl rfl (any_of HT_.out (by kernel_rfl)) (fun _ _ _ h => h) (Or.inr ⟨by rfl, rfl⟩) ?_ ?_
     rotate_left
     ·simp only [Act.put, List.setIfInBounds_toArray, List.set_cons_zero, List.set_cons_succ, i64_w, i32_w]
      rfl
     refine pure_ (i := 39) (N := some 99) (v := undef) (a' := ?_) #[true, true, true, true, true, true, true, true, true, true, true, true, true, true, true, true, true, true, true, true, true, true, true, true, true, true, true, true, true, true, true, true, true, true, true, true, true, true, true, true, false, false, false, false, false, false, false, false, false] rfl rfl (any_of HT_.out (by kernel_rfl)) (fun _ _ _ h => h) (Or.inr ⟨by rfl, rfl⟩) ?_ ?_
     rotate_left
     ·simp only [Act.put, List.setIfInBounds_toArray, List.set_cons_zero, List.set_cons_succ, i64_w, i32_w]
      rfl
     refine pure_ (i := 40) (N := some 100) (v := undef) (a' := ?_) #[true, true, true, true, true, true, true, true, true, true, true, true, true, true, true, true, true, true, true, true, true, true, true, true, true, true, true, true, true, true, true, true, true, true, true, true, true, true, true, true, true, false, false, false, false, false, false, false, false] rfl rfl (any_of HT_.out (by kernel_rfl)) (fun _ _ _ h => h) (Or.inr ⟨by rfl, rfl⟩) ?_ ?_
     rotate_left
     ·simp only [Act.put, List.setIfInBounds_toArray, List.set_cons_zero, List.set_cons_succ, i64_w, i32_w]
      rfl
     refine Hof.pu 41 101 HT_ ?_
     refine Hof.pu 42 102 HT_ ?_
     refine pure_ (i := 43) (N := some 103) (v := undef) (a' := ?_) #[true, true, true, true, true, true, true, true, true, true, true, true, true, true, true, true, true, true, true, true, true, true, true, true, true, true, true, true, true, true, true, true, true, true, true, true, true, true, true, true, true, true, true, true, false, false, false, false, false] rfl rfl (any_of HT_.out (by kernel_rfl)) (fun _ _ _ h => h) (Or.inr ⟨by rfl, rfl⟩) ?_ ?_
     rotate_left
     ·simp only [Act.put, List.setIfInBounds_toArray, List.set_cons_zero, List.set_cons_succ, i64_w, i32_w]
      rfl
     refine pure_ (i := 44) (N := some 104) (v := undef) (a' := ?_) #[true, true, true, true, true, true, true, true, true, true, true, true, true, true, true, true, true, true, true, true, true, true, true, true, true, true, true, true, true, true, true, true, true, true, true, true, true, true, true, true, true, true, true, true, true, false, false, false, false] rfl rfl (any_of HT_.out (by kernel_rfl)) (fun _ _ _ h => h) (Or.inr ⟨by rfl, rfl⟩) ?_ ?_
     rotate_left
     ·simp only [Act.put, List.setIfInBounds_toArray, List.set_cons_zero, List.set_cons_succ, i64_w, i32_w]
      rfl
     refine pure_ (i := 45) (N := some 105) (v := undef) (a' := ?_) #[true, true, true, true, true, true, true, true, true, true, true, true, true, true, true, true, true, true, true, true, true, true, true, true, true, true, true, true, true, true, true, true, true, true, true, true, true, true, true, true, true, true, true, true, true, true, false, false, false] rfl rfl (any_of HT_.out (by kernel_rfl)) (fun _ _ _ h => h) (Or.inr ⟨by rfl, rfl⟩) ?_ ?_
     rotate_left
     ·simp only [Act.put, List.setIfInBounds_toArray, List.set_cons_zero, List.set_cons_succ, i64_w, i32_w]
      rfl
     refine pure_ (i := 46) (N := some 106) (v := undef) (a' := ?_) #[true, true, true, true, true, true, true, true, true, true, true, true, true, true, true, true, true, true, true, true, true, true, true, true, true, true, true, true, true, true, true, true, true, true, true, true, true, true, true, true, true, true, true, true, true, true, true, false, false] rfl rfl (any_of HT_.out (by kernel_rfl)) (fun _ _ _ h => h) (Or.inr ⟨by rfl, rfl⟩) ?_ ?_
     rotate_left
     ·simp only [Act.put, List.setIfInBounds_toArray, List.set_cons_zero, List.set_cons_succ, i64_w, i32_w]
      rfl
     refine pure_ (i := 47) (N := some 107) (v := undef) (a' := ?_) #[true, true, true, true, true, true, true, true, true, true, true, true, true, true, true, true, true, true, true, true, true, true, true, true, true, true, true, true, true, true, true, true, true, true, true, true, true, true, true, true, true, true, true, true, true, true, true, true, false] rfl rfl (any_of HT_.out (by kernel_rfl)) (fun _ _ _ h => h) (Or.inr ⟨by rfl, rfl⟩) ?_ ?_
     rotate_left
     ·simp only [Act.put, List.setIfInBounds_toArray, List.set_cons_zero, List.set_cons_succ, i64_w, i32_w]
      rfl
     refine Hof.pu 48 108 HT_ ?_
     refine done_ (done_of HT_.out (by kernel_rfl)) ?_
     try go_wp2
     go_meet
     case rel => exact ⟨_, (true), Hof.F, H', ⟨by first | omega | exact Nat.le_refl _⟩, ⟨Hof.Rw (Kd.R_mono HO759.out (fun _ hk => trivial))⟩, ⟨Hof.Rw (Kd.R_mono HO776.out (fun _ hk => hk.1.2))⟩, ⟨Hof.Rw (Kd.R_mono HO767.out (fun _ hk => hk.1.2))⟩, ⟨Hof.Bw BK768.out⟩, ⟨Hof.L⟩⟩
  case rest =>
   clear HC12
   obtain ⟨kq, x108_11, rfl, HA, HJ11, HO_3, HO_11, HO_769001, BK768, HB⟩ := hcut
   cases kq with
   | zero => exact absurd HA.out (by simp [laws_FnTasks.j0])
   | succ kj11 =>
    have H := HA.out
    clear HA
    simp only [laws_FnTasks.j0] at H
    by_cases c87 : x108_11 = true
    ·subst c87
     replace H : (some false) = some r := by rw [if_pos rfl] at H; exact H
     obtain rfl := Option.some.inj H
     exact absurd hT.out (by decide)
    ·replace c87 := Bool.eq_false_iff.mpr c87
     subst c87
     replace H : (laws_FnTasks.l0 kj11 t757 t760 t761 t773 0 t764 t765) = some r := by rw [if_neg (show ¬ (false = true) by decide)] at H; exact H
     have H' := Aside0.mk H
     clear H
     go_wp2
     go_loopg [17] kj11 (fun kq v17 w' => ∃ (x17_2 : Int), v17 = .int .i64 x17_2 ∧ Aside0 (laws_FnTasks.l0 kq t757 t760 t761 t773 x17_2 t764 t765 = some r) ∧ Aside0 (kq ≤ kj11) ∧ Aside0 (Kd.R k74 74 w' w.heap.size (fun _ => True) (.slice Ao14 t757.length co14) t757) ∧ Aside0 (Kd.R (Kd.int .i64) 3 w' w.heap.size (fun k_ => some k_ ≠ ((.slice Ao20 t765.length co20) : Value).ownBlock) v775 t773) ∧ Aside0 (Kd.R (Kd.int .i64) 3 w' w.heap.size (fun k_ => some k_ ≠ (v775 : Value).ownBlock) (.slice Ao20 t765.length co20) t765) ∧ Aside0 (w'.heap[gb768]? = some (.cells #[.int .i64 t764, (.slice Ao20 t765.length co20)] 30 (0, 0))) ∧ Aside0 (Below w.heap.size w w'))
     case atStart => exact ⟨(0), Hof.F, H', ⟨Nat.le_refl _⟩, ⟨Hof.Rw HO_3.out⟩, ⟨Hof.Rw HO_11.out⟩, ⟨Hof.Rw HO_769001.out⟩, ⟨Hof.Bw BK768.out⟩, ⟨Hof.L⟩⟩
     case round =>
      clear H'
      obtain ⟨x17_2, rfl, HA, HK2, HO_3, HO_11, HO_769001, BK768, HB⟩ := hrel
      cases gk with
      | zero => exact absurd HA.out (by simp [laws_FnTasks.l0])
      | succ k2 =>
       have H := HA.out
       clear HA
       simp only [laws_FnTasks.l0] at H
       by_cases c88 : x17_2 < (t773.length : Int)
       ·rw [if_pos c88] at H
        have c88b0 := decide_eq_true c88
        clear c88
        have H' := Aside0.mk H
        clear H
        obtain ⟨Ao89, co89, eo89⟩ := Kd.R_slice HO_11.out
        subst eo89
        go_wp2
        go_loopg [18] k2 (fun kq v18 w' => ∃ (x18_3 : Int), v18 = .int .i64 x18_3 ∧ Aside0 (laws_FnTasks.l1 kq t757 t760 t761 t773 x17_2 x18_3 t764 t765 = some r) ∧ Aside0 (kq ≤ k2) ∧ Aside0 (Kd.R k74 74 w' w.heap.size (fun _ => True) (.slice Ao14 t757.length co14) t757) ∧ Aside0 (Kd.R (Kd.int .i64) 3 w' w.heap.size (fun k_ => some k_ ≠ ((.slice Ao20 t765.length co20) : Value).ownBlock) (.slice Ao89 t773.length co89) t773) ∧ Aside0 (Kd.R (Kd.int .i64) 3 w' w.heap.size (fun k_ => some k_ ≠ ((.slice Ao89 t773.length co89) : Value).ownBlock) (.slice Ao20 t765.length co20) t765) ∧ Aside0 (w'.heap[gb768]? = some (.cells #[.int .i64 t764, (.slice Ao20 t765.length co20)] 30 (0, 0))) ∧ Aside0 (Below w.heap.size w w'))
        case atStart => exact ⟨(0), Hof.F, H', ⟨Nat.le_refl _⟩, ⟨Hof.Rw HO_3.out⟩, ⟨Hof.Rw HO_11.out⟩, ⟨Hof.Rw HO_769001.out⟩, ⟨Hof.Bw BK768.out⟩, ⟨Hof.L⟩⟩
        case round =>
         clear H'
         obtain ⟨x18_3, rfl, HA, HK3, HO_3, HO_11, HO_769001, BK768, HB⟩ := hrel
         cases gk with
         | zero => exact absurd HA.out (by simp [laws_FnTasks.l1])
         | succ k3 =>
          have H := HA.out
          clear HA
          simp only [laws_FnTasks.l1] at H
          by_cases c90 : x18_3 < x17_2
          ·rw [if_pos c90] at H
           have c90b0 := decide_eq_true c90
           clear c90
           by_cases c91 : 0 ≤ x17_2
           ·rw [if_pos c91] at H
            have c91b0 := decide_eq_true c91
            clear c91
            by_cases c92 : x17_2 < (t773.length : Int)
            ·rw [if_pos c92] at H
             have c92b0 := decide_eq_true c92
             clear c92
             by_cases c93 : 0 ≤ x18_3
             ·rw [if_pos c93] at H
              have c93b0 := decide_eq_true c93
              clear c93
              by_cases c94 : x18_3 < (t773.length : Int)
              ·rw [if_pos c94] at H
               have c94b0 := decide_eq_true c94
               clear c94
               by_cases c95 : (rd t773 x17_2) = (rd t773 x18_3)
               ·rw [if_pos c95] at H
                have c95b0 : ((rd t773 x17_2) == (rd t773 x18_3)) = true := beq_iff_eq.mpr c95
                have c95b1 : ((rd t773 x17_2) != (rd t773 x18_3)) = false := bne_eq_false_iff_eq.mpr c95
                clear c95
                obtain rfl := Option.some.inj H
                exact absurd hT.out (by decide)
               ·rw [if_neg c95] at H
                have c95b0 : ((rd t773 x17_2) == (rd t773 x18_3)) = false := beq_eq_false_iff_ne.mpr c95
                have c95b1 : ((rd t773 x17_2) != (rd t773 x18_3)) = true := bne_iff_ne.mpr c95
                have H' := Aside0.mk H
                clear H
                try go_wp2
                have n0_ := Aside0.mk (Kd.R_drew HO_3.out)
                have n1_ := Aside0.mk (Kd.R_drew HO_11.out)
                have n2_ := Aside0.mk (Kd.R_drew HO_769001.out)
                have n3_ := Aside0.mk (blk_drew BK768.out)
                have n4_ := Aside0.mk (below_drew1 HB.out)
                clear HO_3
                clear HO_11
                clear HO_769001
                clear BK768
                clear HB
                have HO_3 := n0_
                have HO_11 := n1_
                have HO_769001 := n2_
                have BK768 := n3_
                have HB := n4_
                clear n0_ n1_ n2_ n3_ n4_
                have p797 : 0 ≤ (x17_2 : Int) := Hof.D
                have q797 : x17_2 < (t773.length : Int) := Hof.D
                obtain ⟨ad797, e797, hx797_0⟩ := Kd.at_int (Kd.R_reads' HO_11.out).2.2 x17_2 p797 q797
                cases e797
                replace p797 := eq_true p797
                replace q797 := eq_true q797
                have p798 : 0 ≤ (x18_3 : Int) := Hof.D
                have q798 : x18_3 < (t773.length : Int) := Hof.D
                obtain ⟨ad798, e798, hx798_0⟩ := Kd.at_int (Kd.R_reads' HO_11.out).2.2 x18_3 p798 q798
                obtain rfl : ad797 = ad798 := (by injection e798)
                replace p798 := eq_true p798
                replace q798 := eq_true q798
                refine start_ (n := 9) (S := fun w' => w'.cell? (ad797.add (x17_2).toNat) = some (.int .i64 (rd t773 x17_2)) ∧ w'.cell? (ad797.add (x18_3).toNat) = some (.int .i64 (rd t773 x18_3))) (ds := []) #[false, false, false, false, false, false, false, false, false] (by kernel_rfl) rfl rfl ⟨hx797_0, hx798_0⟩ (fun hHeld => ?_); refine with_tabW laws_FnTasks.tab19 laws_FnTasks.bits19 (fun HT_ HW_ => ?_)
                generalize wr.drew = w96 at HO_3 HO_11 HO_769001 BK768 HB hx797_0 hx798_0 hHeld ⊢
                refine Hof.pu 0 120 HT_ ?_
                refine Hof.pu 1 121 HT_ ?_
                refine Hof.pu 2 122 HT_ ?_
                refine Hof.pu 4 124 HT_ ?_
                refine Hof.pu 5 125 HT_ ?_
                refine Hof.pu 6 126 HT_ ?_
                refine Hof.tk 3 123 HT_ HW_ hHeld ?_
                refine Hof.tk 7 127 HT_ HW_ hHeld ?_
                refine Hof.pu 8 128 HT_ ?_
                refine done_ (done_of HT_.out (by kernel_rfl)) ?_
                try go_wp2
                go_roundg k3
                case measure => have := HJ11.out; have := HK2.out; have := HK3.out; omega
                case rel => exact ⟨(wrap64 (x18_3 + 1)), Hof.F, H', ⟨by have := HJ11.out; have := HK2.out; have := HK3.out; omega⟩, ⟨Hof.Rw HO_3.out⟩, ⟨Hof.Rw HO_11.out⟩, ⟨Hof.Rw HO_769001.out⟩, ⟨Hof.Bw BK768.out⟩, ⟨Hof.L⟩⟩
              ·rw [if_neg c94] at H
               exact absurd H (by simp)
             ·rw [if_neg c93] at H
              exact absurd H (by simp)
            ·rw [if_neg c92] at H
             exact absurd H (by simp)
           ·rw [if_neg c91] at H
            exact absurd H (by simp)
          ·rw [if_neg c90] at H
           have c90b0 : decide (x18_3 < x17_2) = false := decide_eq_false c90
           clear c90
           have H' := Aside0.mk H
           clear H
           go_wp2
           go_roundg k3
           case measure => have := HJ11.out; have := HK2.out; have := HK3.out; omega
           case rel => exact ⟨(wrap64 (x17_2 + 1)), Hof.F, H', ⟨by have := HJ11.out; have := HK2.out; have := HK3.out; omega⟩, ⟨Hof.Rw HO_3.out⟩, ⟨Hof.Rw HO_11.out⟩, ⟨Hof.Rw HO_769001.out⟩, ⟨Hof.Bw BK768.out⟩, ⟨Hof.L⟩⟩
       ·rw [if_neg c88] at H
        have c88b0 : decide (x17_2 < (t773.length : Int)) = false := decide_eq_false c88
        clear c88
        by_cases c97 : t761 = true
        ·subst c97
         replace H : (laws_FnTasks.l2 k2 t757 t760 0 t764 t765) = some r := by rw [if_pos rfl] at H; exact H
         have H' := Aside0.mk H
         clear H
         obtain ⟨Ao98, co98, eo98⟩ := Kd.R_slice HO_11.out
         subst eo98
         go_wp2
         go_loopg [19] k2 (fun kq v19 w' => ∃ (x19_3 : Int), v19 = .int .i64 x19_3 ∧ Aside0 (laws_FnTasks.l2 kq t757 t760 x19_3 t764 t765 = some r) ∧ Aside0 (kq ≤ k2) ∧ Aside0 (Kd.R k74 74 w' w.heap.size (fun _ => True) (.slice Ao14 t757.length co14) t757) ∧ Aside0 (Kd.R (Kd.int .i64) 3 w' w.heap.size (fun _ => True) (.slice Ao20 t765.length co20) t765) ∧ Aside0 (w'.heap[gb768]? = some (.cells #[.int .i64 t764, (.slice Ao20 t765.length co20)] 30 (0, 0))) ∧ Aside0 (Below w.heap.size w w'))
         case atStart => exact ⟨(0), Hof.F, H', ⟨Nat.le_refl _⟩, ⟨Hof.Rw HO_3.out⟩, ⟨Hof.Rw (Kd.R_mono HO_769001.out (fun _ hk => trivial))⟩, ⟨Hof.Bw BK768.out⟩, ⟨Hof.L⟩⟩
         case round =>
          clear H'
          try clear q7
          try clear hx7
          try clear q79
          try clear hx79
          try clear hx797_0
          try clear hx798_0
          try clear q797
          try clear q798
          obtain ⟨x19_3, rfl, HA, HK3, HO_3, HO_769001, BK768, HB⟩ := hrel
          cases gk with
          | zero => exact absurd HA.out (by simp [laws_FnTasks.l2])
          | succ k3 =>
           have H := HA.out
           clear HA
           simp only [laws_FnTasks.l2] at H
           obtain ⟨t800, A99, H⟩ := Hof.be H
           (try dsimp only at H)
           by_cases c100 : x19_3 ≤ t800
           ·rw [if_pos c100] at H
            have c100b0 := decide_eq_true c100
            clear c100
            obtain ⟨⟨t802, t803⟩, A101, H⟩ := Hof.be H
            (try dsimp only at H)
            by_cases c102 : t803 = true
            ·subst c102
             replace H : ((spec_EarningsOf.f k3 t757 x19_3).bind fun t806 => ((spec_EarningsOf.f k3 t757 t760).bind fun t807 => (if t806 > t807 then (some false) else ((spec_CountOf.f k3 x19_3).bind fun t808 => ((impl_LateTasks.f k3 t757).bind fun t809 => (if t808 > (wrap64 ((t757.length : Int) - t809)) then (some false) else (laws_FnTasks.l2 k3 t757 t760 (wrap64 (x19_3 + 1)) t764 t765))))))) = some r := by rw [if_pos rfl] at H; exact H
             obtain ⟨t806, A103, H⟩ := Hof.be H
             (try dsimp only at H)
             obtain ⟨t807, A104, H⟩ := Hof.be H
             (try dsimp only at H)
             by_cases c105 : t806 > t807
             ·rw [if_pos c105] at H
              have c105b0 := decide_eq_true c105
              clear c105
              obtain rfl := Option.some.inj H
              exact absurd hT.out (by decide)
             ·rw [if_neg c105] at H
              have c105b0 : decide (t807 < t806) = false := decide_eq_false c105
              clear c105
              obtain ⟨t808, A106, H⟩ := Hof.be H
              (try dsimp only at H)
              obtain ⟨t809, A107, H⟩ := Hof.be H
              (try dsimp only at H)
              by_cases c108 : t808 > (wrap64 ((t757.length : Int) - t809))
              ·rw [if_pos c108] at H
               have c108b0 := decide_eq_true c108
               clear c108
               obtain rfl := Option.some.inj H
               exact absurd hT.out (by decide)
              ·rw [if_neg c108] at H
               have c108b0 : decide ((wrap64 ((t757.length : Int) - t809)) < t808) = false := decide_eq_false c108
               clear c108
               have H' := Aside0.mk H
               clear H
               go_wp2_with (first | ((with_reducible refine gate_callee (f := 24) rfl ?_); refine Hof.gl (some 137) Tryz.func24 #[.int .i64 (t757.length : Int)] ?_; (with_reducible refine (spec_FullSet.calls (t757.length : Int) t800 _ A99.out).mono ?_); rintro e w' ⟨rfl, ⟨nd, rfl⟩⟩; refine ⟨_, rfl, ?_⟩) | ((with_reducible refine gate_callee (f := 13) rfl ?_); refine Hof.gl (some 144) Tryz.func13 #[.slice Ao14 t757.length co14, .int .i64 x19_3] ?_; (with_reducible refine (spec_PlanOf.calls k3 _ _ t757 x19_3 t802 true _ ?side1 ?side2 A101.out).mono ?_); (case side1 => exact Hof.Cw ((Kd.R_reads' HO_3.out).2.2)); (case side2 => exact (Kd.R_reads' HO_3.out).2.1); rintro e w109 ⟨v804, rfl, ho0, hb⟩; refine ⟨_, rfl, ?_⟩; replace HO_3 := Hof.rb HO_3 hb; have HO805 := Aside0.mk (Kd.R_lower (Kd.R_new' ho0 (Kd.R_lt (Hof.Rw HO_769001.out))) (below_size Hof.L)); replace HO_769001 := Aside0.mk (Kd.R_elder' (Hof.Rw HO_769001.out) (Kd.R_base ho0) hb); replace BK768 := Hof.bb BK768 hb; replace HB := Aside0.mk (below_step Hof.L hb); (try clear hb); (try clear hb2); (try clear hk); (try clear hi); (try clear ho0)) | (go_at_call 19; (with_reducible refine (spec_EarningsOf.calls k3 _ _ t757 x19_3 t806 _ ?side1 ?side2 A103.out).mono ?_); (case side1 => exact Hof.Cw ((Kd.R_reads' HO_3.out).2.2)); (case side2 => exact (Kd.R_reads' HO_3.out).2.1); rintro e w' ⟨rfl, ⟨nd, rfl⟩⟩) | (go_at_call 19; (with_reducible refine (spec_EarningsOf.calls k3 _ _ t757 t760 t807 _ ?side1 ?side2 A104.out).mono ?_); (case side1 => exact Hof.Cw ((Kd.R_reads' HO_3.out).2.2)); (case side2 => exact (Kd.R_reads' HO_3.out).2.1); rintro e w' ⟨rfl, ⟨nd, rfl⟩⟩) | (go_at_call 25; (with_reducible refine (spec_CountOf.calls k3 x19_3 t808 _ A106.out).mono ?_); rintro e w' ⟨rfl, ⟨nd, rfl⟩⟩) | (go_at_call 20; (with_reducible refine (impl_LateTasks.calls k3 _ _ t757 t809 _ ?side1 ?side2 A107.out).mono ?_); (case side1 => exact Hof.Cw ((Kd.R_reads' HO_3.out).2.2)); (case side2 => exact (Kd.R_reads' HO_3.out).2.1); rintro e w110 ⟨rfl, hb⟩; replace HO_3 := Hof.rb HO_3 hb; replace HO_769001 := Hof.rb HO_769001 hb; replace HO805 := Hof.rb HO805 hb; replace BK768 := Hof.bb BK768 hb; replace HB := Aside0.mk (below_step Hof.L hb); (try clear hb); (try clear hb2); (try clear hk); (try clear hi)))
               go_roundg k3
               case measure => have := HJ11.out; have := HK2.out; have := HK3.out; omega
               case rel => exact ⟨(wrap64 (x19_3 + 1)), Hof.F, H', ⟨by have := HJ11.out; have := HK2.out; have := HK3.out; omega⟩, ⟨Hof.Rw HO_3.out⟩, ⟨Hof.Rw (Kd.R_mono HO_769001.out (fun _ hk => trivial))⟩, ⟨Hof.Bw BK768.out⟩, ⟨Hof.L⟩⟩
            ·replace c102 := Bool.eq_false_iff.mpr c102
             subst c102
             replace H : (laws_FnTasks.l2 k3 t757 t760 (wrap64 (x19_3 + 1)) t764 t765) = some r := by rw [if_neg (show ¬ (false = true) by decide)] at H; exact H
             have H' := Aside0.mk H
             clear H
             go_wp2_with (first | ((with_reducible refine gate_callee (f := 24) rfl ?_); refine Hof.gl (some 137) Tryz.func24 #[.int .i64 (t757.length : Int)] ?_; (with_reducible refine (spec_FullSet.calls (t757.length : Int) t800 _ A99.out).mono ?_); rintro e w' ⟨rfl, ⟨nd, rfl⟩⟩; refine ⟨_, rfl, ?_⟩) | ((with_reducible refine gate_callee (f := 13) rfl ?_); refine Hof.gl (some 144) Tryz.func13 #[.slice Ao14 t757.length co14, .int .i64 x19_3] ?_; (with_reducible refine (spec_PlanOf.calls k3 _ _ t757 x19_3 t802 false _ ?side1 ?side2 A101.out).mono ?_); (case side1 => exact Hof.Cw ((Kd.R_reads' HO_3.out).2.2)); (case side2 => exact (Kd.R_reads' HO_3.out).2.1); rintro e w111 ⟨v804, rfl, ho0, hb⟩; refine ⟨_, rfl, ?_⟩; replace HO_3 := Hof.rb HO_3 hb; have HO805 := Aside0.mk (Kd.R_lower (Kd.R_new' ho0 (Kd.R_lt (Hof.Rw HO_769001.out))) (below_size Hof.L)); replace HO_769001 := Aside0.mk (Kd.R_elder' (Hof.Rw HO_769001.out) (Kd.R_base ho0) hb); replace BK768 := Hof.bb BK768 hb; replace HB := Aside0.mk (below_step Hof.L hb); (try clear hb); (try clear hb2); (try clear hk); (try clear hi); (try clear ho0)))
             go_roundg k3
             case measure => have := HJ11.out; have := HK2.out; have := HK3.out; omega
             case rel => exact ⟨(wrap64 (x19_3 + 1)), Hof.F, H', ⟨by have := HJ11.out; have := HK2.out; have := HK3.out; omega⟩, ⟨Hof.Rw HO_3.out⟩, ⟨Hof.Rw (Kd.R_mono HO_769001.out (fun _ hk => trivial))⟩, ⟨Hof.Bw BK768.out⟩, ⟨Hof.L⟩⟩
           ·rw [if_neg c100] at H
            have c100b0 : decide (x19_3 ≤ t800) = false := decide_eq_false c100
            clear c100
            obtain ⟨t801, A112, H⟩ := Hof.be H
            (try dsimp only at H)
            obtain rfl := Option.some.inj H
            go_wp2_with (first | ((with_reducible refine gate_callee (f := 24) rfl ?_); refine Hof.gl (some 137) Tryz.func24 #[.int .i64 (t757.length : Int)] ?_; (with_reducible refine (spec_FullSet.calls (t757.length : Int) t800 _ A99.out).mono ?_); rintro e w' ⟨rfl, ⟨nd, rfl⟩⟩; refine ⟨_, rfl, ?_⟩; obtain ⟨hcz113_0, hcz113_1, hfz113_0, hfz113_1⟩ := Hof.blk2 BK768.out) | ((with_reducible refine gate_callee (f := 26) rfl ?_); refine Hof.gl (some 168) Tryz.func26 #[.agg #[.int .i64 t764, .slice Ao20 t765.length co20]] ?_; (with_reducible refine (spec_IsMatroid.calls k3 t764 _ _ t765 t801 _ ?side1 ?side2 A112.out).mono ?_); (case side1 => exact Hof.Cw ((Kd.R_reads' HO_769001.out).2.2)); (case side2 => exact (Kd.R_reads' HO_769001.out).2.1); rintro e w114 ⟨rfl, hb⟩; refine ⟨_, rfl, ?_⟩; replace HO_3 := Hof.rb HO_3 hb; replace HO_769001 := Hof.rb HO_769001 hb; replace BK768 := Hof.bb BK768 hb; replace HB := Aside0.mk (below_step Hof.L hb); (try clear hb); (try clear hb2); (try clear hk); (try clear hi)))
            go_ret
            exact ⟨Hof.E, Hof.L⟩
        ·replace c97 := Bool.eq_false_iff.mpr c97
         subst c97
         replace H : ((spec_AreTasks.f k2 t757).bind fun t799 => (some (!t799))) = some r := by rw [if_neg (show ¬ (false = true) by decide)] at H; exact H
         obtain ⟨t799, A115, H⟩ := Hof.be H
         (try dsimp only at H)
         obtain rfl := Option.some.inj H
         obtain ⟨Ao116, co116, eo116⟩ := Kd.R_slice HO_11.out
         subst eo116
         go_wp2_with (first | ((with_reducible refine gate_callee (f := 23) rfl ?_); refine Hof.gl (some 132) Tryz.func23 #[.slice Ao14 t757.length co14] ?_; (with_reducible refine (spec_AreTasks.calls k2 _ _ t757 t799 _ ?side1 ?side2 A115.out).mono ?_); (case side1 => exact Hof.Cw ((Kd.R_reads' HO_3.out).2.2)); (case side2 => exact (Kd.R_reads' HO_3.out).2.1); rintro e w' ⟨rfl, ⟨nd, rfl⟩⟩; refine ⟨_, rfl, ?_⟩))
         go_ret
         exact ⟨Hof.E, Hof.L⟩
end Go.Proofs.YtmpodackojmojaaGreat.Pr
end
section
namespace Go.Proofs.YtmpodackojmojaaGreat.Gen
open Go.RowKit Go.Proofs.YtmpodackojmojaaGreatW.PrintWords Go.Proofs.YtmpodackojmojaaGreatW.PrintMore
theorem w64 {i : Int} (h0 : -9223372036854775808 ≤ i) (h1 : i ≤ 9223372036854775807) : wrap64 i = i := by
 unfold wrap64
 omega
theorem w64s (i : Nat) (h1 : i < 9223372036854775807) : wrap64 ((i : Int) + 1) = ((i + 1 : Nat) : Int) := by
 unfold wrap64
 omega
theorem rd_nat (xs : List Int) (i : Nat) : rd xs (i : Int) = xs.getD i 0 := rfl
theorem map_getD {α β : Type} (xs : List α) (d : α) (g : α → β) : (List.range xs.length).map (fun i => g (xs.getD i d)) = xs.map g := by
 apply List.ext_getElem?
 intro j
 by_cases hj : j < xs.length
 ·simp [hj, List.getD]
 ·simp [hj]
theorem map_getD' {α : Type} (xs : List α) (d : α) : (List.range xs.length).map (fun i => xs.getD i d) = xs := by
 have := map_getD xs d id
 simpa using this
theorem all_loop (L : Nat → Int → Option Bool) (n : Nat) (p : Nat → Bool) (K : Nat) (last : Bool)
  (hstep : ∀ k i, K ≤ k → i < n → L (k + 1) (i : Int) = if p i = true then L k ((i + 1 : Nat) : Int) else some false)
  (hend : ∀ k, K ≤ k → L (k + 1) (n : Int) = some last) :
  ∀ (d i k : Nat), i + d = n → K + d < k → L k (i : Int) = some ((List.range' i d).all p && last) := by
 intro d
 induction d with
 | zero =>
  intro i k hi hk
  obtain rfl : i = n := by omega
  obtain ⟨k, rfl⟩ : ∃ m, k = m + 1 := ⟨k - 1, by omega⟩
  simp [hend k (by omega)]
 | succ d ih =>
  intro i k hi hk
  obtain ⟨k, rfl⟩ : ∃ m, k = m + 1 := ⟨k - 1, by omega⟩
  rw [hstep k i (by omega) (by omega), List.range'_succ]
  by_cases h : p i = true
  ·rw [if_pos h, ih (i + 1) k (by omega) (by omega)]
   simp [h]
  ·rw [if_neg h]
   simp [h]
theorem ev_loop {σ γ : Type} (L : Nat → σ → Int → Option γ) (n : Nat) (step : Nat → σ → σ) (P : Nat → σ → Prop) (r : γ)
  (hround : ∀ i s, i < n → P i s → P (i + 1) (step i s) ∧ (Ev (fun k => L k (step i s) ((i + 1 : Nat) : Int)) r → Ev (fun k => L k s (i : Int)) r)) :
  ∀ (d i : Nat) (s : σ), i + d = n → P i s → (P n ((List.range' i d).foldl (fun s j => step j s) s) → Ev (fun k => L k ((List.range' i d).foldl (fun s j => step j s) s) (n : Int)) r) → Ev (fun k => L k s (i : Int)) r := by
 intro d
 induction d with
 | zero =>
  intro i s hi hP h
  obtain rfl : i = n := by omega
  exact h (by simpa using hP)
 | succ d ih =>
  intro i s hi hP h
  obtain ⟨h1, h2⟩ := hround i s (by omega) hP
  refine h2 (ih (i + 1) (step i s) (by omega) h1 ?_)
  rw [List.range'_succ] at h
  exact h
theorem ev_at {γ : Type} {g : Nat → Option γ} {r : γ} (K : Nat) (h : ∀ k, K ≤ k → g k = some r) : Ev g r := ⟨K, h⟩
theorem foldl_append (p : Nat → Bool) (l : List Nat) (acc : List Int) : l.foldl (fun s j => if p j = true then s ++ [(j : Int)] else s) acc = acc ++ (l.filter p).map (fun j : Nat => (j : Int)) := by
 induction l generalizing acc with
 | nil => simp
 | cons a l ih =>
  rw [List.foldl_cons, ih]
  by_cases h : p a = true
  ·simp [h]
  ·simp [h]
theorem foldl_id {σ : Type} (f : σ → Nat → σ) (l : List Nat) (s : σ) (h : ∀ j ∈ l, ∀ s, f s j = s) : l.foldl f s = s := by
 induction l generalizing s with
 | nil => rfl
 | cons a l ih =>
  rw [List.foldl_cons, h a (by simp), ih _ (fun j hj => h j (by simp [hj]))]
theorem foldl_more {σ : Type} (f : σ → Nat → σ) (m d : Nat) (s : σ) (h : ∀ j, m ≤ j → ∀ s, f s j = s) : (List.range' 0 (m + d)).foldl f s = (List.range' 0 m).foldl f s := by
 rw [← List.range'_append_1, List.foldl_append]
 refine foldl_id _ _ _ fun j hj => h j ?_
 have := List.mem_range'_1.1 hj
 omega
theorem all_yes (l : List Nat) : (l.all fun _ => true) = true := List.all_eq_true.2 (fun _ _ => rfl)
end Go.Proofs.YtmpodackojmojaaGreat.Gen
end
section
namespace Go.Proofs.YtmpodackojmojaaGreat.Base
open Go.RowKit Go.Proofs.YtmpodackojmojaaGreat.Pr Go.Proofs.YtmpodackojmojaaGreatW.PrintWords Go.Proofs.YtmpodackojmojaaGreatW.PrintLast Go.Proofs.YtmpodackojmojaaGreatW.PrintMore
abbrev TB := S74
end Go.Proofs.YtmpodackojmojaaGreat.Base
end
section
namespace Go.Proofs.YtmpodackojmojaaGreat.Sets
open Go.RowKit Go.Proofs.YtmpodackojmojaaGreatW.PrintWords Go.Proofs.YtmpodackojmojaaGreatW.PrintMore
theorem ev_search {γ : Type} (L : Nat → Int → Option γ) (n : Nat) (p : Nat → Bool) (S : γ → Prop)
  (hyes : ∀ i, i < n → p i = true → ∃ r, S r ∧ Ev (fun k => L k (i : Int)) r)
  (hno : ∀ i, i < n → p i = false → ∀ r, Ev (fun k => L k ((i + 1 : Nat) : Int)) r → Ev (fun k => L k (i : Int)) r) :
  ∀ d i : Nat, i + d = n → ((List.range' i d).any p = true → ∃ r, S r ∧ Ev (fun k => L k (i : Int)) r) ∧ ((List.range' i d).any p = false → ∀ r, Ev (fun k => L k (n : Int)) r → Ev (fun k => L k (i : Int)) r) := by
 intro d
 induction d with
 | zero =>
  intro i hi
  obtain rfl : i = n := by omega
  exact ⟨fun h => by simp at h, fun _ r h => h⟩
 | succ d ih =>
  intro i hi
  obtain ⟨h1, h2⟩ := ih (i + 1) (by omega)
  rw [List.range'_succ, List.any_cons]
  cases hp : p i with
  | true => exact ⟨fun _ => hyes i (by omega) hp, fun h => by simp at h⟩
  | false =>
   refine ⟨fun h => ?_, fun h r hr => hno i (by omega) hp r (h2 (by simpa using h) r hr)⟩
   obtain ⟨r, hr, hE⟩ := h1 (by simpa using h)
   exact ⟨r, hr, hno i (by omega) hp r hE⟩
theorem wraps_i64 (n : Int) (h0 : 0 ≤ n) (h1 : n < 2 ^ 62) : IntKind.i64.wrap n = n := by
 rw [IntKind.wrap_i64]
 omega
theorem and_nat (a b : Nat) (ha : a < 2 ^ 62) (hb : b < 2 ^ 62) : Go.bits .and .i64 (a : Int) (b : Int) = ((a &&& b : Nat) : Int) := (bits_nat .i64 62 (by decide) wraps_i64 a b ha hb).1
theorem or_nat (a b : Nat) (ha : a < 2 ^ 62) (hb : b < 2 ^ 62) : Go.bits .or .i64 (a : Int) (b : Int) = ((a ||| b : Nat) : Int) := (bits_nat .i64 62 (by decide) wraps_i64 a b ha hb).2
def diff (a b : Nat) : Nat := a ^^^ (a &&& b)
theorem diff_bit (a b i : Nat) : (diff a b).testBit i = (a.testBit i && !b.testBit i) := by
 unfold diff
 rw [Nat.testBit_xor, Nat.testBit_and]
 cases a.testBit i <;> cases b.testBit i <;> rfl
theorem diff_lt {a b : Nat} {n : Nat} (ha : a < 2 ^ n) : diff a b < 2 ^ n := by
 apply Nat.lt_pow_two_of_testBit
 intro i hi
 rw [diff_bit, Nat.testBit_lt_two_pow (Nat.lt_of_lt_of_le ha (Nat.pow_le_pow_right (by decide) hi))]
 rfl
theorem andNot_nat (a b : Nat) (ha : a < 2 ^ 62) : Go.bits .andNot .i64 (a : Int) (b : Int) = ((diff a b : Nat) : Int) := by
 have h64 : (2 : Nat) ^ 62 ≤ 2 ^ 64 := by decide
 have key : (BitVec.ofNat 64 a &&& ~~~(BitVec.ofNat 64 b)).toNat = diff a b := by
  apply Nat.eq_of_testBit_eq
  intro i
  rw [diff_bit, BitVec.testBit_toNat, BitVec.getLsbD_and, BitVec.getLsbD_not, BitVec.getLsbD_ofNat, BitVec.getLsbD_ofNat]
  by_cases hi : i < 64
  ·simp [hi]
  ·have : a.testBit i = false := Nat.testBit_lt_two_pow (Nat.lt_of_lt_of_le ha (Nat.pow_le_pow_right (by decide) (by omega)))
   simp [hi, this]
 show IntKind.i64.wrap ((BitVec.ofInt 64 (a : Int) &&& ~~~(BitVec.ofInt 64 (b : Int))).toNat : Int) = _
 have e1 : BitVec.ofInt 64 (a : Int) = BitVec.ofNat 64 a := by simp
 have e2 : BitVec.ofInt 64 (b : Int) = BitVec.ofNat 64 b := by simp
 rw [e1, e2, key]
 have := diff_lt (b := b) ha
 exact wraps_i64 _ (by omega) (by exact_mod_cast this)
theorem shl_nat (e : Nat) (he : e < 62) : shl .i64 1 (e : Int) = ((2 ^ e : Nat) : Int) := by
 unfold shl
 have h1 : min ((e : Int)).toNat IntKind.i64.bits = e := by
  show min e 64 = e
  omega
 rw [h1, Int.one_mul]
 have h2 : (2 : Nat) ^ e < 2 ^ 62 := Nat.pow_lt_pow_right (by decide) he
 rw [wraps_i64 _ (by exact_mod_cast Nat.zero_le _) (by exact_mod_cast h2)]
 push_cast
 rfl
theorem shr_bit (a e : Nat) (he : e < 62) (ha : a < 2 ^ 62) : ((Go.bits .and .i64 (shr .i64 (a : Int) (e : Int)) 1) == 1) = a.testBit e := by
 unfold shr
 have h1 : min ((e : Int)).toNat IntKind.i64.bits = e := by
  show min e 64 = e
  omega
 rw [h1]
 have h2 : ((a : Int) / 2 ^ e) = ((a / 2 ^ e : Nat) : Int) := by push_cast; rfl
 have h3 : a / 2 ^ e < 2 ^ 62 := Nat.lt_of_le_of_lt (Nat.div_le_self _ _) ha
 rw [h2, show (1 : Int) = ((1 : Nat) : Int) from rfl, and_nat _ 1 h3 (by decide), Nat.testBit_eq_decide_div_mod_eq, Nat.and_one_is_mod]
 by_cases h : a / 2 ^ e % 2 = 1
 ·simp [h]
 ·have h4 : a / 2 ^ e % 2 = 0 := by omega
  simp [h4]
theorem bit_far {a n e : Nat} (ha : a < 2 ^ n) (he : n ≤ e) : a.testBit e = false := Nat.testBit_lt_two_pow (Nat.lt_of_lt_of_le ha (Nat.pow_le_pow_right (by decide) he))
theorem swap_eq : ∀ a, a < 256 → ∀ e, e < 8 → ∀ f, f < 8 → a.testBit e = true → a.testBit f = false → diff a (2 ^ e) ||| 2 ^ f = a - 2 ^ e + 2 ^ f := by decide +kernel
theorem bit_le : ∀ a, a < 256 → ∀ e, e < 8 → a.testBit e = true → 2 ^ e ≤ a := by decide +kernel
def elems (s : Nat) : List Nat := (List.range' 0 8).filter fun j => s.testBit j
def exch (l : List Nat) (a b e : Nat) : Bool := (List.range' 0 8).any fun f => b.testBit f && !a.testBit f && l.contains (a - 2 ^ e + 2 ^ f)
def fails (l : List Nat) : Bool := l.any fun a => l.any fun b => (List.range' 0 8).any fun e => a.testBit e && !b.testBit e && !exch l a b e
def ints (l : List Nat) : List Int := l.map fun j : Nat => (j : Int)
theorem ints_length (l : List Nat) : (ints l).length = l.length := by simp [ints]
theorem ints_getD (l : List Nat) (i : Nat) : (ints l).getD i 0 = ((l.getD i 0 : Nat) : Int) := by
 by_cases h : i < l.length
 ·simp [ints, List.getD, h]
 ·simp [ints, List.getD, h]
theorem ints_rd (l : List Nat) (i : Nat) : rd (ints l) (i : Int) = ((l.getD i 0 : Nat) : Int) := by rw [Gen.rd_nat, ints_getD]
theorem any_index {α : Type} (l : List α) (d : α) (p : α → Bool) : ((List.range' 0 l.length).any fun i => p (l.getD i d)) = l.any p := by
 rw [Bool.eq_iff_iff]
 simp only [List.any_eq_true]
 constructor
 ·rintro ⟨i, hi, hp⟩
  have hlt : i < l.length := by have := List.mem_range'_1.1 hi; omega
  refine ⟨l[i], List.getElem_mem hlt, ?_⟩
  simpa [List.getD, hlt] using hp
 ·rintro ⟨x, hx, hp⟩
  obtain ⟨i, hi, rfl⟩ := List.getElem_of_mem hx
  exact ⟨i, List.mem_range'_1.2 (by omega), by simpa [List.getD, hi] using hp⟩
theorem any_more (p : Nat → Bool) (m d : Nat) (h : ∀ j, m ≤ j → p j = false) : (List.range' 0 (m + d)).any p = (List.range' 0 m).any p := by
 rw [← List.range'_append_1, List.any_append]
 have : (List.range' (0 + m) d).any p = false := by
  rw [List.any_eq_false]
  intro j hj
  have := List.mem_range'_1.1 hj
  rw [h j (by omega)]
  decide
 rw [this, Bool.or_false]
theorem range8 (m : Nat) (hm : m ≤ 8) (p : Nat → Bool) (h : ∀ j, m ≤ j → p j = false) : (List.range' 0 m).any p = (List.range' 0 8).any p := by
 have := any_more p m (8 - m) h
 rw [show m + (8 - m) = 8 by omega] at this
 exact this.symm
theorem elems_any (s : Nat) (q : Nat → Bool) : (elems s).any q = (List.range' 0 8).any fun j => s.testBit j && q j := by
 unfold elems
 rw [List.any_filter]
theorem elems_lt {s j : Nat} (h : j ∈ elems s) : j < 8 ∧ s.testBit j = true := by
 unfold elems at h
 obtain ⟨h1, h2⟩ := List.mem_filter.1 h
 have := List.mem_range'_1.1 h1
 exact ⟨by omega, h2⟩
theorem elems_length (s : Nat) : (elems s).length ≤ 8 := by
 unfold elems
 exact Nat.le_trans (List.length_filter_le _ _) (by simp)
theorem pow_le_256 {m : Nat} (hm : m ≤ 8) : (2 : Nat) ^ m ≤ 256 := Nat.pow_le_pow_right (n := 2) (by decide) hm
theorem swap_le : ∀ a, a < 256 → ∀ e, e < 8 → ∀ f, f < 8 → a.testBit e = true → a.testBit f = false → a - 2 ^ e + 2 ^ f < 256 := by decide +kernel
theorem getD_mem {α : Type} (l : List α) (d : α) (i : Nat) (h : i < l.length) : l.getD i d ∈ l := by
 have : l.getD i d = l[i] := by simp [List.getD, h]
 rw [this]
 exact List.getElem_mem h
end Go.Proofs.YtmpodackojmojaaGreat.Sets
end
section
namespace Go.Proofs.YtmpodackojmojaaGreat.Draw
open Go.RowKit Go.Proofs.YtmpodackojmojaaGreat.Pr Go.Proofs.YtmpodackojmojaaGreat.Base Go.Proofs.YtmpodackojmojaaGreat.Sets Go.Proofs.YtmpodackojmojaaGreatW.PrintWords Go.Proofs.YtmpodackojmojaaGreatW.PrintLast Go.Proofs.YtmpodackojmojaaGreatW.PrintMore
set_option linter.unusedVariables false
theorem and255 (x : Int) : 0 ≤ Go.bits .and .i64 x 255 ∧ Go.bits .and .i64 x 255 ≤ 255 := by
 have h : (BitVec.ofInt 64 x &&& BitVec.ofInt 64 255).toNat ≤ 255 := by
  rw [BitVec.toNat_and]
  exact Nat.and_le_right
 have e : Go.bits .and .i64 x 255 = IntKind.i64.wrap ((BitVec.ofInt 64 x &&& BitVec.ofInt 64 255).toNat : Int) := rfl
 rw [e, IntKind.wrap_i64]
 omega
theorem byte (b : List Int) (hb : b.length ≤ 1048576) (i : Nat) (hi : i ≤ b.length) (h : Int) : ∃ (x : Int) (i' : Nat) (h' : Int), spec_l1Byte.f b (i : Int) h = some (x, (i' : Int), h') ∧ 0 ≤ x ∧ x ≤ 255 ∧ i' ≤ b.length := by
 unfold spec_l1Byte.f
 by_cases e : (i : Int) < (b.length : Int)
 ·rw [if_pos e, if_pos (by omega), Gen.w64s i (by omega)]
  refine ⟨_, i + 1, _, rfl, (and255 _).1, (and255 _).2, by omega⟩
 ·rw [if_neg e]
  exact ⟨_, i, _, rfl, (and255 _).1, (and255 _).2, hi⟩
theorem tmod_lt {x n : Int} (hx : 0 ≤ x) (hn : 0 < n) : 0 ≤ Int.tmod x n ∧ Int.tmod x n < n := by
 rw [Int.tmod_eq_emod_of_nonneg hx]
 exact ⟨Int.emod_nonneg _ (by omega), Int.emod_lt_of_pos _ hn⟩
theorem below (b : List Int) (hb : b.length ≤ 1048576) (i : Nat) (hi : i ≤ b.length) (h n : Int) (hn : 0 < n) : ∃ (x : Int) (i' : Nat) (h' : Int), spec_l1Below.f b (i : Int) h n = some (x, (i' : Int), h') ∧ (n ≤ 256 → 0 ≤ x ∧ x < n) ∧ i' ≤ b.length := by
 unfold spec_l1Below.f
 rw [if_neg (by omega)]
 by_cases e : n ≤ 256
 ·obtain ⟨x, i1, h1, e1, hx, _, hi1⟩ := byte b hb i hi h
  rw [if_pos e, e1, Option.bind_some, if_neg (by omega)]
  exact ⟨_, i1, h1, rfl, fun _ => tmod_lt hx hn, hi1⟩
 ·obtain ⟨x1, i1, h1, e1, _, _, hi1⟩ := byte b hb i hi h
  obtain ⟨x2, i2, h2, e2, _, _, hi2⟩ := byte b hb i1 hi1 h1
  obtain ⟨x3, i3, h3, e3, _, _, hi3⟩ := byte b hb i2 hi2 h2
  obtain ⟨x4, i4, h4, e4, _, _, hi4⟩ := byte b hb i3 hi3 h3
  rw [if_neg e, e1, Option.bind_some, e2, Option.bind_some, e3, Option.bind_some, e4, Option.bind_some, if_neg (by omega)]
  exact ⟨_, i4, h4, rfl, fun h => absurd h e, hi4⟩
theorem pick (b : List Int) (hb : b.length ≤ 1048576) (i : Nat) (hi : i ≤ b.length) (h : Int) (l : List Int) (hl : 0 < l.length) (hl2 : l.length ≤ 256) : ∃ (x : Int) (i' : Nat) (h' : Int), spec_l1PickInt.f b (i : Int) h l = some (x, (i' : Int), h') ∧ i' ≤ b.length := by
 obtain ⟨x, i1, h1, e1, hx, hi1⟩ := below b hb i hi h (l.length : Int) (by omega)
 have hx := hx (by omega)
 unfold spec_l1PickInt.f
 rw [e1, Option.bind_some, if_pos hx.1, if_pos hx.2]
 exact ⟨_, i1, h1, rfl, hi1⟩
theorem new (b : List Int) (hb : b.length ≤ 1048576) : ∃ h, Ev (fun k => spec_l1New.f k b) (b, 0, h) := by
 unfold spec_l1New.f
 have key : ∀ (d i : Nat) (h : Int), i + d = b.length → ∃ h', Ev (fun k => spec_l1New.l0 k b h (i : Int)) (b, 0, h') := by
  intro d
  induction d with
  | zero =>
   intro i h hi
   refine ⟨h, Ev.step (f := fun _ => some (b, 0, h)) (fun k => ?_) (Ev.now _)⟩
   rw [spec_l1New.l0, if_neg (by omega)]
  | succ d ih =>
   intro i h hi
   by_cases e : (i : Int) < 4000
   ·obtain ⟨h', hh⟩ := ih (i + 1) (Go.bits .and .i64 (wrap64 ((wrap64 ((wrap64 (h * 131)) + (wrap64 (rd b (i : Int))))) + 7)) 1073741823) (by omega)
    refine ⟨h', Ev.step (fun k => ?_) hh⟩
    rw [spec_l1New.l0, if_pos (by omega), if_pos e, if_pos (by omega), Gen.w64s i (by omega)]
   ·refine ⟨h, Ev.step (f := fun _ => some (b, 0, h)) (fun k => ?_) (Ev.now _)⟩
    rw [spec_l1New.l0, if_pos (by omega), if_neg e]
 exact key b.length 0 _ (by omega)
theorem tasks (b : List Int) (hb : b.length ≤ 1048576) (i : Nat) (hi : i ≤ b.length) (h : Int) : ∃ (xs : List TB) (i' : Nat) (h' : Int), Ev (fun k => spec_l28Draw.f k b (i : Int) h) (xs, (i' : Int), h') ∧ xs.length ≤ 9 ∧ i' ≤ b.length := by
 obtain ⟨n, i1, h1, e1, hn, hi1⟩ := below b hb i hi h 7 (by omega)
 have hn := hn (by omega)
 have fill : ∀ (d : Nat) (xs : List TB) (i : Int) (h : Int), xs.length + d = 9 → ∃ ys : List TB, ys.length ≤ 9 ∧ Ev (fun k => spec_l28Draw.l1 k xs b i h) (ys, i, h) := by
  intro d
  induction d with
  | zero =>
   intro xs i h hx
   refine ⟨xs, by omega, Ev.step (f := fun _ => some (xs, i, h)) (fun k => ?_) (Ev.now _)⟩
   rw [spec_l28Draw.l1, if_neg (by omega)]
  | succ d ih =>
   intro xs i h hx
   obtain ⟨ys, hy, he⟩ := ih (xs ++ [⟨1, 0⟩]) i h (by rw [List.length_append, List.length_singleton]; omega)
   refine ⟨ys, hy, Ev.step (fun k => ?_) he⟩
   rw [spec_l28Draw.l1, if_pos (by omega), if_pos (by omega)]
 have last : ∀ (xs : List TB) (j : Nat) (g : Int) (m : Int), xs.length ≤ 6 → j ≤ b.length → ∃ (ys : List TB) (i' : Nat) (h' : Int), (∀ t : Int, ¬ t < m → Ev (fun k => spec_l28Draw.l0 k xs m t b (j : Int) g) (ys, (i' : Int), h')) ∧ ys.length ≤ 9 ∧ i' ≤ b.length := by
  intro xs j g m hx hj
  obtain ⟨x, i2, h2, e2, hx2, hi2⟩ := below b hb j hj g 12 (by omega)
  by_cases c0 : x = 0
  ·obtain ⟨y, i3, h3, e3, hi3⟩ := pick b hb i2 hi2 h2 [(-1), 7, 6] (by decide) (by decide)
   refine ⟨xs ++ [⟨y, 1⟩], i3, h3, fun t ht => Ev.step (f := fun _ => some (xs ++ [⟨y, 1⟩], (i3 : Int), h3)) (fun k => ?_) (Ev.now _), by rw [List.length_append, List.length_singleton]; omega, hi3⟩
   rw [spec_l28Draw.l0, if_neg ht, e2, Option.bind_some, if_pos c0, e3, Option.bind_some, if_pos (by omega)]
  ·by_cases c1 : x = 1
   ·obtain ⟨ys, hy, he⟩ := fill (9 - xs.length) xs (i2 : Int) h2 (by omega)
    refine ⟨ys, i2, h2, fun t ht => Ev.step (fun k => ?_) he, hy, hi2⟩
    rw [spec_l28Draw.l0, if_neg ht, e2, Option.bind_some, if_neg c0, if_pos c1]
   ·refine ⟨xs, i2, h2, fun t ht => Ev.step (f := fun _ => some (xs, (i2 : Int), h2)) (fun k => ?_) (Ev.now _), by omega, hi2⟩
    rw [spec_l28Draw.l0, if_neg ht, e2, Option.bind_some, if_neg c0, if_neg c1]
 have key : ∀ (d t : Nat) (xs : List TB) (j : Nat) (g : Int), ((t + d : Nat) : Int) = n → xs.length = t → j ≤ b.length → ∃ (ys : List TB) (i' : Nat) (h' : Int), Ev (fun k => spec_l28Draw.l0 k xs n (t : Int) b (j : Int) g) (ys, (i' : Int), h') ∧ ys.length ≤ 9 ∧ i' ≤ b.length := by
  intro d
  induction d with
  | zero =>
   intro t xs j g ht hx hj
   obtain ⟨ys, i', h', he, hy, hi'⟩ := last xs j g n (by omega) hj
   exact ⟨ys, i', h', he _ (by omega), hy, hi'⟩
  | succ d ih =>
   intro t xs j g ht hx hj
   obtain ⟨x, i2, h2, e2, _, hi2⟩ := below b hb j hj g 5 (by omega)
   obtain ⟨y, i3, h3, e3, _, hi3⟩ := below b hb i2 hi2 h2 6 (by omega)
   obtain ⟨ys, i', h', he, hy, hi'⟩ := ih (t + 1) (xs ++ [⟨x, y⟩]) i3 h3 (by omega) (by rw [List.length_append, List.length_singleton, hx]) hi3
   refine ⟨ys, i', h', Ev.step (fun k => ?_) he, hy, hi'⟩
   rw [spec_l28Draw.l0, if_pos (by omega), e2, Option.bind_some, e3, Option.bind_some, if_pos (by omega), Gen.w64s t (by omega)]
 obtain ⟨ys, i', h', he, hy, hi'⟩ := key n.toNat 0 [] i1 h1 (by omega) rfl hi1
 refine ⟨ys, i', h', ?_, hy, hi'⟩
 unfold spec_l28Draw.f
 simp only [e1, Option.bind_some]
 exact he
theorem bestTasks (b : List Int) (hb : b.length ≤ 1048576) : ∃ xs : List TB, Ev (fun k => spec_DrawBestTasks.f k b) xs ∧ xs.length ≤ 9 := by
 obtain ⟨h, h1⟩ := new b hb
 obtain ⟨xs, i', h', h2, hx, _⟩ := tasks b hb 0 (Nat.zero_le _) h
 exact ⟨xs, by unfold spec_DrawBestTasks.f; exact Ev.bind h1 (Ev.bind h2 (Ev.now _)), hx⟩
theorem u64_le8 : ∀ e : Nat, e ≤ 8 → IntKind.u64.wrap (e : Int) = (e : Int) ∧ 0 < wrap64 (shl .i64 1 (e : Int) + 2) := by decide +kernel
theorem planOf (b : List Int) (hb : b.length ≤ 1048576) : ∃ (xs : List TB) (s : Int), Ev (fun k => spec_DrawPlanOf.f k b) (xs, s) ∧ xs.length ≤ 9 := by
 obtain ⟨h, h1⟩ := new b hb
 obtain ⟨xs, i', h', h2, hx, hi'⟩ := tasks b hb 0 (Nat.zero_le _) h
 obtain ⟨e, he, h3⟩ : ∃ e : Nat, e ≤ 8 ∧ spec_l1Min.f (xs.length : Int) 8 = some (e : Int) := by
  unfold spec_l1Min.f
  by_cases c : (xs.length : Int) < 8
  ·rw [if_pos c]; exact ⟨xs.length, by omega, rfl⟩
  ·rw [if_neg c]; exact ⟨8, by omega, rfl⟩
 obtain ⟨hu, hp⟩ := u64_le8 e he
 obtain ⟨x, i2, g2, e2, _, _⟩ := below b hb i' hi' h' (wrap64 (shl .i64 1 (e : Int) + 2)) hp
 refine ⟨xs, x, ?_, hx⟩
 unfold spec_DrawPlanOf.f
 refine Ev.bind h1 (Ev.bind h2 ?_)
 simp only [h3, Option.bind_some, hu, e2]
 rw [if_pos (by omega)]
 exact Ev.now _
theorem earningsOf (b : List Int) (hb : b.length ≤ 1048576) : ∃ (xs : List TB) (s : Int), Ev (fun k => spec_DrawEarningsOf.f k b) (xs, s) ∧ xs.length ≤ 9 := by
 obtain ⟨h, h1⟩ := new b hb
 obtain ⟨xs, i', h', h2, hx, hi'⟩ := tasks b hb 0 (Nat.zero_le _) h
 obtain ⟨x, i2, g2, e2, _, hi2⟩ := below b hb i' hi' h' 8 (by omega)
 obtain ⟨y, i3, g3, e3, _⟩ := pick b hb i2 hi2 g2 [(-1), 256, 1000, (-9223372036854775808)] (by decide) (by decide)
 obtain ⟨z, i4, g4, e4, _, _⟩ := below b hb i2 hi2 g2 256 (by omega)
 refine ⟨xs, if x = 0 then y else z, ?_, hx⟩
 unfold spec_DrawEarningsOf.f
 refine Ev.bind h1 (Ev.bind h2 ?_)
 unfold spec_l2Bent.f spec_l1Once.f spec_l2Draw.f
 simp only [e2, Option.bind_some]
 by_cases c : x = 0
 ·rw [if_pos c]
  simp only [show (x == 0) = true from beq_iff_eq.2 c, if_true, e3, Option.bind_some]
  exact Ev.now _
 ·rw [if_neg c]
  simp only [show (x == 0) = false from beq_eq_false_iff_ne.2 c, Bool.false_eq_true, if_false, e4, Option.bind_some]
  exact Ev.now _
end Go.Proofs.YtmpodackojmojaaGreat.Draw
end
section
namespace Go.Proofs.YtmpodackojmojaaGreat.Mat
open Go.RowKit Go.Proofs.YtmpodackojmojaaGreat.Pr Go.Proofs.YtmpodackojmojaaGreat.Sets Go.Proofs.YtmpodackojmojaaGreatW.PrintWords Go.Proofs.YtmpodackojmojaaGreatW.PrintLast Go.Proofs.YtmpodackojmojaaGreatW.PrintMore
set_option linter.unusedVariables false
def isSet (n s : Int) : Bool := decide (0 ≤ n ∧ n ≤ 8 ∧ 0 ≤ s ∧ s < 2 ^ n.toNat)
theorem implIsSet (n s : Int) : impl_IsSet.f n s = some (isSet n s) := by
 unfold impl_IsSet.f impl_isSize.f isSet
 by_cases h0 : n ≥ 0
 ·rw [if_pos h0]
  simp only [Option.bind_some]
  by_cases h1 : n ≤ 8
  ·rw [if_pos (decide_eq_true h1)]
   obtain ⟨m, rfl⟩ : ∃ m : Nat, n = m := ⟨n.toNat, by omega⟩
   by_cases h2 : s ≥ 0
   ·rw [if_pos h2, if_pos h0, shl_nat m (by omega)]
    congr 1
    rw [decide_eq_decide]
    simp only [Int.toNat_natCast]
    push_cast
    omega
   ·rw [if_neg h2, decide_eq_false (by omega)]
  ·rw [if_neg (by rw [decide_eq_true_eq]; exact h1), decide_eq_false (by omega)]
 ·rw [if_neg h0]
  simp only [Option.bind_some]
  rw [if_neg (by decide), decide_eq_false (by omega)]
theorem specIsSet (n s : Int) : spec_IsSet.f n s = some (isSet n s) := by
 unfold spec_IsSet.f spec_l1In.f isSet
 by_cases h0 : n ≥ 0
 ·rw [if_pos h0]
  simp only [Option.bind_some]
  by_cases h1 : n ≤ 8
  ·rw [if_pos (decide_eq_true h1)]
   obtain ⟨m, rfl⟩ : ∃ m : Nat, n = m := ⟨n.toNat, by omega⟩
   have hu : IntKind.u64.wrap (m : Int) = m := by
    have : m = 0 ∨ m = 1 ∨ m = 2 ∨ m = 3 ∨ m = 4 ∨ m = 5 ∨ m = 6 ∨ m = 7 ∨ m = 8 := by omega
    rcases this with rfl | rfl | rfl | rfl | rfl | rfl | rfl | rfl | rfl <;> decide +kernel
   have hp := pow_le_256 (m := m) (by omega)
   have hp1 : 1 ≤ 2 ^ m := Nat.one_le_two_pow
   rw [hu, if_pos h0, shl_nat m (by omega), Gen.w64 (by omega) (by omega)]
   by_cases h2 : s ≥ 0
   ·rw [if_pos h2]
    simp only [Option.bind_some]
    congr 1
    rw [decide_eq_decide]
    simp only [Int.toNat_natCast]
    have : ((2 : Int) ^ m) = ((2 ^ m : Nat) : Int) := by push_cast; rfl
    rw [this]
    omega
   ·rw [if_neg h2]
    simp only [Option.bind_some]
    rw [decide_eq_false (by omega)]
  ·rw [if_neg (by rw [decide_eq_true_eq]; exact h1), decide_eq_false (by omega)]
 ·rw [if_neg h0]
  simp only [Option.bind_some]
  rw [if_neg (by decide), decide_eq_false (by omega)]
def fam (n : Int) (l : List Int) : Bool := ((List.range' 0 l.length).all fun i => isSet n (l.getD i 0) && (decide (i = 0) || decide (l.getD (i - 1) 0 < l.getD i 0))) && decide (0 ≤ n ∧ n ≤ 8)
theorem implFamily (n : Int) (l : List Int) (hn : l.length ≤ 1048576) (k : Nat) (hk : l.length < k) : impl_IsFamily.f k n l = some (fam n l) := by
 unfold impl_IsFamily.f fam
 refine Gen.all_loop (fun k i => impl_IsFamily.l0 k n l l (l.length : Int) i) l.length (fun i => isSet n (l.getD i 0) && (decide (i = 0) || decide (l.getD (i - 1) 0 < l.getD i 0))) 0 (decide (0 ≤ n ∧ n ≤ 8)) (fun k i _ hi => ?_) (fun k _ => ?_) l.length 0 k (by omega) (by omega)
 ·simp only [impl_IsFamily.l0]
  rw [if_pos (by omega), if_pos (by omega), if_pos (by omega), implIsSet, Gen.rd_nat]
  simp only [Option.bind_some]
  cases isSet n (l.getD i 0) with
  | false => rfl
  | true =>
   rw [if_pos rfl, Gen.w64s i (by omega)]
   by_cases h0 : i = 0
   ·subst h0
    rw [if_neg (by decide), if_pos (by rfl)]
   ·rw [if_pos (by omega), Gen.w64 (by omega) (by omega), show (i : Int) - 1 = ((i - 1 : Nat) : Int) by omega, if_pos (by omega), if_pos (by omega), Gen.rd_nat]
    by_cases h1 : l.getD i 0 ≤ l.getD (i - 1) 0
    ·rw [if_pos h1, decide_eq_false h0, decide_eq_false (by omega)]
     rfl
    ·rw [if_neg h1, decide_eq_false h0, decide_eq_true (by omega)]
     rfl
 ·simp only [impl_IsFamily.l0]
  rw [if_neg (by omega)]
  unfold impl_isSize.f
  by_cases h0 : n ≥ 0
  ·rw [if_pos h0]
   simp only [Option.bind_some]
   congr 1
   rw [decide_eq_decide]
   omega
  ·rw [if_neg h0, decide_eq_false (by omega)]
   rfl
theorem specFamily (n : Int) (l : List Int) (hn : l.length ≤ 1048576) (k : Nat) (hk : l.length < k) : spec_IsFamily.f k n l = some (fam n l) := by
 unfold spec_IsFamily.f fam
 refine Gen.all_loop (fun k i => spec_IsFamily.l0 k n l i) l.length (fun i => isSet n (l.getD i 0) && (decide (i = 0) || decide (l.getD (i - 1) 0 < l.getD i 0))) 0 (decide (0 ≤ n ∧ n ≤ 8)) (fun k i _ hi => ?_) (fun k _ => ?_) l.length 0 k (by omega) (by omega)
 ·simp only [spec_IsFamily.l0]
  rw [if_pos (by omega), if_pos (by omega), specIsSet, Gen.rd_nat]
  simp only [Option.bind_some]
  cases isSet n (l.getD i 0) with
  | false => rfl
  | true =>
   rw [if_pos rfl, Gen.w64s i (by omega)]
   by_cases h0 : i = 0
   ·subst h0
    rw [if_neg (by decide), if_pos (by rfl)]
   ·rw [if_pos (by omega), Gen.w64 (by omega) (by omega), show (i : Int) - 1 = ((i - 1 : Nat) : Int) by omega, if_pos (by omega), if_pos (by omega), Gen.rd_nat]
    by_cases h1 : l.getD (i - 1) 0 ≥ l.getD i 0
    ·rw [if_pos h1, decide_eq_false h0, decide_eq_false (by omega)]
     rfl
    ·rw [if_neg h1, decide_eq_false h0, decide_eq_true (by omega)]
     rfl
 ·simp only [spec_IsFamily.l0]
  rw [if_neg (by omega)]
  unfold spec_l1In.f
  by_cases h0 : n ≥ 0
  ·rw [if_pos h0]
   simp only [Option.bind_some]
   congr 1
   rw [decide_eq_decide]
   omega
  ·rw [if_neg h0, decide_eq_false (by omega)]
   rfl
theorem fam_nat {n : Int} {l : List Int} (h : fam n l = true) : ∃ (m : Nat) (lN : List Nat), n = m ∧ m ≤ 8 ∧ l = ints lN ∧ ∀ s ∈ lN, s < 2 ^ m := by
 unfold fam at h
 rw [Bool.and_eq_true, decide_eq_true_eq] at h
 obtain ⟨hl, h0, h8⟩ := h
 have key : ∀ s ∈ l, 0 ≤ s ∧ s < 2 ^ n.toNat := fun s hs => by
  obtain ⟨i, hi, rfl⟩ := List.getElem_of_mem hs
  have := List.all_eq_true.1 hl i (List.mem_range'_1.2 (by omega))
  rw [Bool.and_eq_true] at this
  have h1 := this.1
  unfold isSet at h1
  rw [decide_eq_true_eq] at h1
  have e : l.getD i 0 = l[i] := by simp [List.getD, hi]
  rw [e] at h1
  exact ⟨h1.2.2.1, h1.2.2.2⟩
 refine ⟨n.toNat, l.map Int.toNat, by omega, by omega, ?_, fun s hs => ?_⟩
 ·unfold ints
  rw [List.map_map]
  conv => lhs; rw [← List.map_id l]
  refine List.map_congr_left fun s hs => ?_
  have := (key s hs).1
  show s = ((s.toNat : Nat) : Int)
  omega
 ·obtain ⟨x, hx, rfl⟩ := List.mem_map.1 hs
  obtain ⟨h1, h2⟩ := key x hx
  have e : ((2 : Int) ^ n.toNat) = ((2 ^ n.toNat : Nat) : Int) := by push_cast; rfl
  rw [e] at h2
  omega
theorem index (l : List Nat) (x : Nat) (hn : l.length ≤ 1048576) : ∀ (d i k : Nat), i + d = l.length → d < k → ∃ r, slices_Index_int_int.l0 k (ints l) (x : Int) ((ints l).length : Int) (i : Int) = some r ∧ decide (r ≥ 0) = (l.drop i).contains x := by
 intro d
 induction d with
 | zero =>
  intro i k hi hk
  obtain ⟨k, rfl⟩ : ∃ m, k = m + 1 := ⟨k - 1, by omega⟩
  refine ⟨-1, ?_, ?_⟩
  ·simp only [slices_Index_int_int.l0]
   rw [if_neg (by rw [ints_length]; omega)]
  ·rw [List.drop_of_length_le (by omega)]
   rfl
 | succ d ih =>
  intro i k hi hk
  obtain ⟨k, rfl⟩ : ∃ m, k = m + 1 := ⟨k - 1, by omega⟩
  have hlt : i < l.length := by omega
  simp only [slices_Index_int_int.l0]
  rw [if_pos (by rw [ints_length]; omega), if_pos (by omega), if_pos (by rw [ints_length]; omega), ints_rd, Gen.w64s i (by omega)]
  have hd : l.drop i = l.getD i 0 :: l.drop (i + 1) := by
   rw [List.drop_eq_getElem_cons hlt]
   simp [List.getD, hlt]
  rw [hd]
  by_cases h : x = l.getD i 0
  ·refine ⟨i, by rw [if_pos (by omega)], ?_⟩
   rw [← h, List.contains_cons, beq_self_eq_true, Bool.true_or, decide_eq_true (by omega)]
  ·obtain ⟨r, h1, h2⟩ := ih (i + 1) k (by omega) (by omega)
   refine ⟨r, by rw [if_neg (by omega)]; exact h1, ?_⟩
   rw [h2, List.contains_cons, beq_eq_false_iff_ne.2 h, Bool.false_or]
theorem implHas (l : List Nat) (x : Nat) (hn : l.length ≤ 1048576) (k : Nat) (hk : l.length < k) : impl_HasSet.f k (ints l) (x : Int) = some (l.contains x) := by
 unfold impl_HasSet.f slices_Contains_int_int.f slices_Index_int_int.f
 obtain ⟨r, h1, h2⟩ := index l x hn l.length 0 k (by omega) hk
 rw [show (0 : Int) = ((0 : Nat) : Int) from rfl, h1]
 simp only [Option.bind_some]
 rw [show ((0 : Nat) : Int) = (0 : Int) from rfl, h2, List.drop_zero]
theorem specHas (l : List Nat) (x : Nat) (hn : l.length ≤ 1048576) (k : Nat) (hk : l.length < k) : spec_HasSet.f k (ints l) (x : Int) = some (l.contains x) := by
 unfold spec_HasSet.f
 have key : ∀ (d i k : Nat), i + d = l.length → d < k → spec_HasSet.l0 k (ints l) (x : Int) (i : Int) = some ((l.drop i).contains x) := by
  intro d
  induction d with
  | zero =>
   intro i k hi hk
   obtain ⟨k, rfl⟩ : ∃ m, k = m + 1 := ⟨k - 1, by omega⟩
   simp only [spec_HasSet.l0]
   rw [if_neg (by rw [ints_length]; omega), List.drop_of_length_le (by omega)]
   rfl
  | succ d ih =>
   intro i k hi hk
   obtain ⟨k, rfl⟩ : ∃ m, k = m + 1 := ⟨k - 1, by omega⟩
   have hlt : i < l.length := by omega
   simp only [spec_HasSet.l0]
   rw [if_pos (by rw [ints_length]; omega), if_pos (by omega), ints_rd, Gen.w64s i (by omega)]
   have hd : l.drop i = l.getD i 0 :: l.drop (i + 1) := by
    rw [List.drop_eq_getElem_cons hlt]
    simp [List.getD, hlt]
   rw [hd, List.contains_cons]
   by_cases h : l.getD i 0 = x
   ·rw [if_pos (by omega), ← h, beq_self_eq_true, Bool.true_or]
   ·rw [if_neg (by omega), ih (i + 1) k (by omega) (by omega), beq_eq_false_iff_ne.2 (Ne.symm h), Bool.false_or]
 have := key l.length 0 k (by omega) hk
 rw [List.drop_zero] at this
 exact this
theorem implElem (s : Nat) (j : Nat) (hs : s < 256) (hj : j < 8) : impl_HasElement.f (s : Int) (j : Int) = some (s.testBit j) := by
 unfold impl_HasElement.f impl_isAny.f
 rw [if_pos (by omega)]
 simp only [Option.bind_some]
 rw [if_pos (decide_eq_true (by omega)), if_pos (by omega), if_pos (by omega), if_pos (by omega), shr_bit s j (by omega) (by omega)]
theorem foldl_elems (s : Nat) : ((List.range' 0 8).foldl (fun (acc : List Int) (j : Nat) => if s.testBit j = true then acc ++ [(j : Int)] else acc) []) = ints (elems s) := by
 rw [Gen.foldl_append (fun j => s.testBit j)]
 rfl
theorem implElements (s : Nat) (hs : s < 256) : Ev (fun k => impl_ElementsOf.f k (s : Int)) (ints (elems s)) := by
 unfold impl_ElementsOf.f
 refine Gen.ev_loop (fun k s3 i => impl_ElementsOf.l0 k (s : Int) s3 i) 8 (fun j s3 => if s.testBit j = true then s3 ++ [(j : Int)] else s3) (fun i s3 => s3.length ≤ i) _ (fun i s3 hi hP => ⟨?_, fun h => Ev.step (fun k => ?_) h⟩) 8 0 [] rfl (by simp) (fun _ => Gen.ev_at 1 (fun k hk => ?_))
 ·by_cases hh : s.testBit i = true
  ·rw [if_pos hh]; simp; omega
  ·rw [if_neg hh]; omega
 ·simp only [impl_ElementsOf.l0]
  rw [if_pos (by omega), implElem s i hs hi]
  simp only [Option.bind_some]
  rw [Gen.w64s i (by omega)]
  by_cases hh : s.testBit i = true
  ·rw [if_pos hh, if_pos (by omega), if_pos hh]
  ·rw [if_neg hh, if_neg hh]
 ·obtain ⟨m, rfl⟩ : ∃ m, k = m + 1 := ⟨k - 1, by omega⟩
  simp only [impl_ElementsOf.l0]
  rw [if_neg (by omega), foldl_elems]
theorem indexFunc (g : Int → Option Bool) (fs : List Nat) (v : Nat → Bool) (hn : fs.length ≤ 1048576) (hg : ∀ f ∈ fs, g (f : Int) = some (v f)) :
  ∀ (d i k : Nat), i + d = fs.length → d < k → ∃ r, slices_IndexFunc_int_int.l0 g k (ints fs) (i : Int) = some r ∧ decide (r ≥ 0) = (fs.drop i).any v := by
 intro d
 induction d with
 | zero =>
  intro i k hi hk
  obtain ⟨k, rfl⟩ : ∃ m, k = m + 1 := ⟨k - 1, by omega⟩
  refine ⟨-1, ?_, ?_⟩
  ·simp only [slices_IndexFunc_int_int.l0]
   rw [if_neg (by rw [ints_length]; omega)]
  ·rw [List.drop_of_length_le (by omega)]
   rfl
 | succ d ih =>
  intro i k hi hk
  obtain ⟨k, rfl⟩ : ∃ m, k = m + 1 := ⟨k - 1, by omega⟩
  have hlt : i < fs.length := by omega
  simp only [slices_IndexFunc_int_int.l0]
  rw [if_pos (by rw [ints_length]; omega), if_pos (by omega), ints_rd, hg _ (getD_mem fs 0 i hlt), Gen.w64s i (by omega)]
  simp only [Option.bind_some]
  have hd : fs.drop i = fs.getD i 0 :: fs.drop (i + 1) := by
   rw [List.drop_eq_getElem_cons hlt]
   simp [List.getD, hlt]
  rw [hd, List.any_cons]
  cases hv : v (fs.getD i 0) with
  | true => exact ⟨i, by rw [if_pos rfl], by rw [decide_eq_true (by omega), Bool.true_or]⟩
  | false =>
   obtain ⟨r, h1, h2⟩ := ih (i + 1) k (by omega) (by omega)
   exact ⟨r, by rw [if_neg (by decide)]; exact h1, by rw [h2, Bool.false_or]⟩
theorem containsFunc (g : Int → Option Bool) (fs : List Nat) (v : Nat → Bool) (hn : fs.length ≤ 1048576) (hg : ∀ f ∈ fs, g (f : Int) = some (v f)) (k : Nat) (hk : fs.length < k) :
  slices_ContainsFunc_int_int.f k (ints fs) g = some (fs.any v) := by
 unfold slices_ContainsFunc_int_int.f slices_IndexFunc_int_int.f
 obtain ⟨r, h1, h2⟩ := indexFunc g fs v hn hg fs.length 0 k (by omega) hk
 rw [show (0 : Int) = ((0 : Nat) : Int) from rfl, h1]
 simp only [Option.bind_some]
 rw [show ((0 : Nat) : Int) = (0 : Int) from rfl, h2, List.drop_zero]
theorem swapImpl (l : List Nat) (a e f : Nat) (hn : l.length ≤ 1048576) (ha : a < 256) (he : e < 8) (hf : f < 8) (hae : a.testBit e = true) (haf : a.testBit f = false) (k : Nat) (hk : l.length < k) :
  impl_FirstFailure_1.f k (ints l) (a : Int) (e : Int) (f : Int) = some (l.contains (a - 2 ^ e + 2 ^ f)) := by
 unfold impl_FirstFailure_1.f
 have h1 : (2 : Nat) ^ e < 2 ^ 62 := Nat.pow_lt_pow_right (by decide) (by omega)
 have h2 : (2 : Nat) ^ f < 2 ^ 62 := Nat.pow_lt_pow_right (by decide) (by omega)
 have h3 : diff a (2 ^ e) < 2 ^ 8 := diff_lt (n := 8) (by omega)
 rw [if_pos (by omega), if_pos (by omega), shl_nat e (by omega), shl_nat f (by omega), andNot_nat a _ (by omega), or_nat _ _ (by omega) h2, swap_eq a ha e he f hf hae haf]
 exact implHas l _ hn k hk
theorem exch_elems (l : List Nat) (a b e : Nat) : exch l a b e = (elems (diff b a)).any fun f => l.contains (a - 2 ^ e + 2 ^ f) := by
 rw [elems_any]
 unfold exch
 congr 1
 funext f
 rw [diff_bit]
theorem fails_elems (l : List Nat) : fails l = l.any fun a => l.any fun b => (elems (diff a b)).any fun e => !exch l a b e := by
 unfold fails
 congr 1
 funext a
 congr 1
 funext b
 rw [elems_any]
 congr 1
 funext e
 rw [diff_bit]
theorem implFirst (m : Nat) (hm : m ≤ 8) (l : List Nat) (hl : ∀ s ∈ l, s < 2 ^ m) (hn : l.length ≤ 1048576) (hf : fam (m : Int) (ints l) = true) :
  ∃ x y z, Ev (fun k => impl_FirstFailure.f k (m : Int) (ints l)) (x, y, z, fails l) := by
 have h256 := pow_le_256 hm
 have hlt : ∀ i, i < l.length → l.getD i 0 < 256 := fun i hi => Nat.lt_of_lt_of_le (hl _ (getD_mem l 0 i hi)) h256
 have inner : ∀ x y : Nat, x < l.length → y < l.length → ∀ d i : Nat, i + d = (elems (diff (l.getD x 0) (l.getD y 0))).length → _ := fun x y hx hy =>
  ev_search (fun k z => impl_FirstFailure.l2 k (m : Int) (ints l) (x : Int) ((l.getD x 0 : Nat) : Int) (y : Int) ((l.getD y 0 : Nat) : Int) (ints (elems (diff (l.getD x 0) (l.getD y 0)))) z) (elems (diff (l.getD x 0) (l.getD y 0))).length
   (fun z => !exch l (l.getD x 0) (l.getD y 0) ((elems (diff (l.getD x 0) (l.getD y 0))).getD z 0)) (fun r => r.2.2.2 = true)
   (by
    intro z hz hp
    have ha := hlt x hx
    have hb := hlt y hy
    obtain ⟨he, hbit⟩ := elems_lt (getD_mem _ 0 z hz)
    rw [diff_bit, Bool.and_eq_true] at hbit
    have hl8 := elems_length (diff (l.getD x 0) (l.getD y 0))
    have hd : diff (l.getD y 0) (l.getD x 0) < 2 ^ 8 := diff_lt (n := 8) (by omega)
    refine ⟨(((l.getD x 0 : Nat) : Int), ((l.getD y 0 : Nat) : Int), (((elems (diff (l.getD x 0) (l.getD y 0))).getD z 0 : Nat) : Int), true), rfl, ?_⟩
    refine Ev.step (f := fun k => (impl_ElementsOf.f k (Go.bits .andNot .i64 ((l.getD y 0 : Nat) : Int) ((l.getD x 0 : Nat) : Int))).bind fun fs => ((slices_ContainsFunc_int_int.f k fs (fun f => impl_FirstFailure_1.f k (ints l) ((l.getD x 0 : Nat) : Int) (((elems (diff (l.getD x 0) (l.getD y 0))).getD z 0 : Nat) : Int) f)).bind fun t => (if t = true then (impl_FirstFailure.l2 k (m : Int) (ints l) (x : Int) ((l.getD x 0 : Nat) : Int) (y : Int) ((l.getD y 0 : Nat) : Int) (ints (elems (diff (l.getD x 0) (l.getD y 0)))) ((z + 1 : Nat) : Int)) else (some (((l.getD x 0 : Nat) : Int), ((l.getD y 0 : Nat) : Int), (((elems (diff (l.getD x 0) (l.getD y 0))).getD z 0 : Nat) : Int), true))))) (fun k => ?_) ?_
    ·simp only [impl_FirstFailure.l2]
     rw [if_pos (by rw [ints_length]; omega), if_pos (by omega), ints_rd, Gen.w64s z (by omega)]
    ·rw [andNot_nat _ _ (by omega)]
     refine Ev.bind (implElements _ (by omega)) ?_
     refine Ev.bind (a := exch l (l.getD x 0) (l.getD y 0) ((elems (diff (l.getD x 0) (l.getD y 0))).getD z 0)) (Gen.ev_at (1048577 + 8) (fun k hk => ?_)) ?_
     ·rw [exch_elems]
      refine containsFunc _ _ _ (by have := elems_length (diff (l.getD y 0) (l.getD x 0)); omega) (fun f hf => ?_) k (by have := elems_length (diff (l.getD y 0) (l.getD x 0)); omega)
      obtain ⟨hf8, hfb⟩ := elems_lt hf
      rw [diff_bit, Bool.and_eq_true] at hfb
      exact swapImpl l _ _ _ hn ha he hf8 hbit.1 (by simpa using hfb.2) k (by omega)
     ·have hp' : exch l (l.getD x 0) (l.getD y 0) ((elems (diff (l.getD x 0) (l.getD y 0))).getD z 0) = false := by simpa using hp
      rw [hp']
      exact Ev.now _)
   (by
    intro z hz hp r hr
    have ha := hlt x hx
    have hb := hlt y hy
    obtain ⟨he, hbit⟩ := elems_lt (getD_mem _ 0 z hz)
    rw [diff_bit, Bool.and_eq_true] at hbit
    have hl8 := elems_length (diff (l.getD x 0) (l.getD y 0))
    have hd : diff (l.getD y 0) (l.getD x 0) < 2 ^ 8 := diff_lt (n := 8) (by omega)
    refine Ev.step (f := fun k => (impl_ElementsOf.f k (Go.bits .andNot .i64 ((l.getD y 0 : Nat) : Int) ((l.getD x 0 : Nat) : Int))).bind fun fs => ((slices_ContainsFunc_int_int.f k fs (fun f => impl_FirstFailure_1.f k (ints l) ((l.getD x 0 : Nat) : Int) (((elems (diff (l.getD x 0) (l.getD y 0))).getD z 0 : Nat) : Int) f)).bind fun t => (if t = true then (impl_FirstFailure.l2 k (m : Int) (ints l) (x : Int) ((l.getD x 0 : Nat) : Int) (y : Int) ((l.getD y 0 : Nat) : Int) (ints (elems (diff (l.getD x 0) (l.getD y 0)))) ((z + 1 : Nat) : Int)) else (some (((l.getD x 0 : Nat) : Int), ((l.getD y 0 : Nat) : Int), (((elems (diff (l.getD x 0) (l.getD y 0))).getD z 0 : Nat) : Int), true))))) (fun k => ?_) ?_
    ·simp only [impl_FirstFailure.l2]
     rw [if_pos (by rw [ints_length]; omega), if_pos (by omega), ints_rd, Gen.w64s z (by omega)]
    ·rw [andNot_nat _ _ (by omega)]
     refine Ev.bind (implElements _ (by omega)) ?_
     refine Ev.bind (a := exch l (l.getD x 0) (l.getD y 0) ((elems (diff (l.getD x 0) (l.getD y 0))).getD z 0)) (Gen.ev_at (1048577 + 8) (fun k hk => ?_)) ?_
     ·rw [exch_elems]
      refine containsFunc _ _ _ (by have := elems_length (diff (l.getD y 0) (l.getD x 0)); omega) (fun f hf => ?_) k (by have := elems_length (diff (l.getD y 0) (l.getD x 0)); omega)
      obtain ⟨hf8, hfb⟩ := elems_lt hf
      rw [diff_bit, Bool.and_eq_true] at hfb
      exact swapImpl l _ _ _ hn ha he hf8 hbit.1 (by simpa using hfb.2) k (by omega)
     ·have hp' : exch l (l.getD x 0) (l.getD y 0) ((elems (diff (l.getD x 0) (l.getD y 0))).getD z 0) = true := by simpa using hp
      rw [hp']
      simp only [if_true]
      exact hr)
 have innerAny : ∀ x y : Nat, ((List.range' 0 (elems (diff (l.getD x 0) (l.getD y 0))).length).any fun z => !exch l (l.getD x 0) (l.getD y 0) ((elems (diff (l.getD x 0) (l.getD y 0))).getD z 0)) = (elems (diff (l.getD x 0) (l.getD y 0))).any fun e => !exch l (l.getD x 0) (l.getD y 0) e := fun x y => any_index (elems (diff (l.getD x 0) (l.getD y 0))) 0 (fun e => !exch l (l.getD x 0) (l.getD y 0) e)
 have middle : ∀ x : Nat, x < l.length → ∀ d i : Nat, i + d = l.length → _ := fun x hx =>
  ev_search (fun k y => impl_FirstFailure.l1 k (m : Int) (ints l) (x : Int) ((l.getD x 0 : Nat) : Int) y) l.length
   (fun y => (elems (diff (l.getD x 0) (l.getD y 0))).any fun e => !exch l (l.getD x 0) (l.getD y 0) e) (fun r => r.2.2.2 = true)
   (by
    intro y hy hp
    have ha := hlt x hx
    obtain ⟨h1, _⟩ := inner x y hx hy (elems (diff (l.getD x 0) (l.getD y 0))).length 0 (by omega)
    rw [innerAny] at h1
    obtain ⟨r, hr, hE⟩ := h1 hp
    refine ⟨r, hr, Ev.step (f := fun k => (impl_ElementsOf.f k (Go.bits .andNot .i64 ((l.getD x 0 : Nat) : Int) ((l.getD y 0 : Nat) : Int))).bind fun es => (impl_FirstFailure.l2 k (m : Int) (ints l) (x : Int) ((l.getD x 0 : Nat) : Int) (y : Int) ((l.getD y 0 : Nat) : Int) es 0)) (fun k => ?_) ?_⟩
    ·simp only [impl_FirstFailure.l1]
     rw [if_pos (by rw [ints_length]; omega), if_pos (by omega), ints_rd]
    ·rw [andNot_nat _ _ (by omega)]
     have hd : diff (l.getD x 0) (l.getD y 0) < 2 ^ 8 := diff_lt (n := 8) (by omega)
     exact Ev.bind (implElements _ (by omega)) hE)
   (by
    intro y hy hp r hr
    have ha := hlt x hx
    obtain ⟨_, h2⟩ := inner x y hx hy (elems (diff (l.getD x 0) (l.getD y 0))).length 0 (by omega)
    rw [innerAny] at h2
    refine Ev.step (f := fun k => (impl_ElementsOf.f k (Go.bits .andNot .i64 ((l.getD x 0 : Nat) : Int) ((l.getD y 0 : Nat) : Int))).bind fun es => (impl_FirstFailure.l2 k (m : Int) (ints l) (x : Int) ((l.getD x 0 : Nat) : Int) (y : Int) ((l.getD y 0 : Nat) : Int) es 0)) (fun k => ?_) ?_
    ·simp only [impl_FirstFailure.l1]
     rw [if_pos (by rw [ints_length]; omega), if_pos (by omega), ints_rd]
    ·rw [andNot_nat _ _ (by omega)]
     have hd : diff (l.getD x 0) (l.getD y 0) < 2 ^ 8 := diff_lt (n := 8) (by omega)
     refine Ev.bind (implElements _ (by omega)) (h2 hp r (Ev.step (fun k => ?_) hr))
     simp only [impl_FirstFailure.l2]
     rw [if_neg (by rw [ints_length]; omega), Gen.w64s y (by omega)])
 have middleAny : ∀ x : Nat, ((List.range' 0 l.length).any fun y => (elems (diff (l.getD x 0) (l.getD y 0))).any fun e => !exch l (l.getD x 0) (l.getD y 0) e) = l.any fun b => (elems (diff (l.getD x 0) b)).any fun e => !exch l (l.getD x 0) b e := fun x => any_index l 0 (fun b => (elems (diff (l.getD x 0) b)).any fun e => !exch l (l.getD x 0) b e)
 obtain ⟨o1, o2⟩ := ev_search (fun k x => impl_FirstFailure.l0 k (m : Int) (ints l) x) l.length
   (fun x => l.any fun b => (elems (diff (l.getD x 0) b)).any fun e => !exch l (l.getD x 0) b e) (fun r => r.2.2.2 = true)
   (by
    intro x hx hp
    obtain ⟨h1, _⟩ := middle x hx l.length 0 (by omega)
    rw [middleAny] at h1
    obtain ⟨r, hr, hE⟩ := h1 hp
    refine ⟨r, hr, Ev.step (fun k => ?_) hE⟩
    simp only [impl_FirstFailure.l0]
    rw [if_pos (by rw [ints_length]; omega), if_pos (by omega), ints_rd]
    rfl)
   (by
    intro x hx hp r hr
    obtain ⟨_, h2⟩ := middle x hx l.length 0 (by omega)
    rw [middleAny] at h2
    have h3 := h2 hp r (Ev.step (fun k => by
     simp only [impl_FirstFailure.l1]
     rw [if_neg (by rw [ints_length]; omega), Gen.w64s x (by omega)]) hr)
    refine Ev.step (fun k => ?_) h3
    simp only [impl_FirstFailure.l0]
    rw [if_pos (by rw [ints_length]; omega), if_pos (by omega), ints_rd]
    rfl) l.length 0 (by omega)
 have outerAny : ((List.range' 0 l.length).any fun x => l.any fun b => (elems (diff (l.getD x 0) b)).any fun e => !exch l (l.getD x 0) b e) = fails l := by
  rw [fails_elems]
  exact any_index l 0 (fun a => l.any fun b => (elems (diff a b)).any fun e => !exch l a b e)
 rw [outerAny] at o1 o2
 have start : ∀ r, Ev (fun k => impl_FirstFailure.l0 k (m : Int) (ints l) 0) r → Ev (fun k => impl_FirstFailure.f k (m : Int) (ints l)) r := fun r hr => by
  unfold impl_FirstFailure.f
  refine Ev.bind (Gen.ev_at (l.length + 1) (fun k hk => implFamily (m : Int) (ints l) (by rw [ints_length]; exact hn) k (by rw [ints_length]; omega))) ?_
  rw [hf]
  simp only [if_true]
  exact hr
 cases hfl : fails l with
 | true =>
  obtain ⟨⟨x, y, z, b⟩, hb, hE⟩ := o1 hfl
  simp only at hb
  subst hb
  exact ⟨x, y, z, start _ hE⟩
 | false =>
  refine ⟨0, 0, 0, start _ (o2 hfl _ (Gen.ev_at 1 (fun k hk => ?_)))⟩
  obtain ⟨q, rfl⟩ : ∃ q, k = q + 1 := ⟨k - 1, by omega⟩
  simp only [impl_FirstFailure.l0]
  rw [if_neg (by rw [ints_length]; omega)]
end Go.Proofs.YtmpodackojmojaaGreat.Mat
end
