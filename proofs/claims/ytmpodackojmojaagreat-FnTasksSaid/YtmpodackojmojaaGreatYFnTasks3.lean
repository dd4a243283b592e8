/- The claim FnTasks: every text that its row comes to, laid together by slim.py (the words of the kit's print, the printed walks, the pure law, the row). -/
import Derived.Test.YtmpodackojmojaaGreatYFnTasks2
section
namespace Go.Proofs.YtmpodackojmojaaGreat.Pr
open Go.RowKit Go.Proofs.YtmpodackojmojaaGreatW.PrintWords Go.Proofs.YtmpodackojmojaaGreatW.PrintLast Go.Proofs.YtmpodackojmojaaGreatW.PrintMore
attribute [local go_sem] max2_int min2_int max_two min_two max_three min_three max_four min_four
set_option linter.unusedVariables false
set_option linter.unusedSimpArgs false
def spec_IsMatroid.f (k : Nat) (a0_0 : Int) (l0_1 : List Int) : Option (Bool) := (spec_FirstFailure.f k a0_0 l0_1).bind fun bt578 => ((spec_IsFamily.f k a0_0 l0_1).bind fun t583 => (if t583 = true then (if (l0_1.length : Int) > 0 then (some (!bt578.2.2.2)) else (some false)) else (some false)))
set_option maxHeartbeats 8000000 in
set_option maxRecDepth 100000 in
theorem spec_IsMatroid.calls (k : Nat) (a0_0 : Int) (A0_1 : Option Addr) (c0_1 : Nat) (l0_1 : List Int) (r : Bool) (w : World) (hr0_1 : Kd.C (Kd.int .i64) w A0_1 l0_1.length l0_1) (hc0_1 : l0_1.length ≤ c0_1) (h : spec_IsMatroid.f k a0_0 l0_1 = some r) :
  Calls Tryz.prog 26 #[.agg #[.int .i64 a0_0, .slice A0_1 l0_1.length c0_1]] w fun e w' => e = .returned (.bool r) ∧ Below w.heap.size w w' := by
 have hu30 := Tryz.underlying30
 have hu89 := Tryz.underlying89
 have HR0_1 := Aside0.mk hr0_1
 have HC0_1 := Aside0.mk hc0_1
 clear hr0_1 hc0_1
 have HB := Aside0.mk (Below.refl w.heap.size w)
 unfold spec_IsMatroid.f at h
 have H := h
 clear h
 obtain ⟨⟨t578, t579, t580, t581⟩, A2, H⟩ := Hof.be H
 (try dsimp only at H)
 obtain ⟨t583, A3, H⟩ := Hof.be H
 (try dsimp only at H)
 by_cases c4 : t583 = true
 ·subst c4
  replace H : (if (l0_1.length : Int) > 0 then (some (!t581)) else (some false)) = some r := by rw [if_pos rfl] at H; exact H
  by_cases c5 : (l0_1.length : Int) > 0
  ·rw [if_pos c5] at H
   have c5b0 := decide_eq_true c5
   have c5b1 : decide (0 < l0_1.length) = true := decide_eq_true (by omega)
   clear c5
   obtain rfl := Option.some.inj H
   go_enter Tryz.func26, Tryz.ntmps26
   go_wp2_with (first | ((with_reducible refine gate_dst (N := 1) rfl ?_); (try (refine gate_guard (by rfl) ?_; dsimp only)); refine box_event ?hg (N := 1) ?hd (cs := #[.int .i64 a0_0, .slice A0_1 l0_1.length c0_1]) (t := 30) ?hr ?_; (case hd => rfl); (case hg => rfl); (case hr => first | (go_simp; done) | (go_simp; rfl)); intro gb577 hg w6 hbox hb; have BK577 := Aside0.mk hbox; have GW577 := Hof.gw hg HB; have GE577 := Hof.gw hg HB; replace HB := Hof.lb HB hb; clear hb hbox hg; obtain ⟨hcz7_0, hcz7_1, hfz7_0, hfz7_1⟩ := Hof.blk2 BK577.out) | (refine Hof.gl (some 7) Tryz.func95 #[.agg #[.int .i64 a0_0, .slice A0_1 l0_1.length c0_1]] ?_; (with_reducible refine (spec_FirstFailure.calls k a0_0 _ _ l0_1 t578 t579 t580 t581 _ ?side1 ?side2 A2.out).mono ?_); (case side1 => exact Hof.Cw (Kd.C_below HR0_1.out HB.out)); (case side2 => exact HC0_1.out); rintro e w8 ⟨rfl, hb⟩; refine ⟨_, rfl, ?_⟩; replace BK577 := Hof.bb BK577 hb; replace HB := Aside0.mk (below_step Hof.L hb); (try clear hb); (try clear hb2); (try clear hk); (try clear hi)) | ((with_reducible refine gate_dst (N := 3) rfl ?_); (try (refine gate_guard (by rfl) ?_; dsimp only)); refine box_event ?hg (N := 3) ?hd (cs := #[.int .i64 0, .int .i64 0, .int .i64 0]) (t := 89) ?hr ?_; (case hd => rfl); (case hg => rfl); (case hr => first | (go_simp; done) | (go_simp; rfl)); intro gb582 hg w9 hbox hb; have BK582 := Aside0.mk hbox; have GW582 := Hof.gL (w := w) hg Hof.L; have GE582 := Hof.gL (w := w) hg Hof.L; replace HB := Aside0.mk (below_step Hof.L hb); have NB577_582 := Hof.nl hg BK577; have NB582_577 := Hof.ng hg BK577; replace BK577 := Hof.bb BK577 hb; clear hb hbox hg; have hnb10 := NB582_577.out; have hnc10 := NB577_582.out; obtain ⟨hcz11_0, hcz11_1, hcz11_2, hfz11_0, hfz11_1, hfz11_2⟩ := Hof.blk3 BK582.out; obtain ⟨hcz12_0, hcz12_1, hfz12_0, hfz12_1⟩ := Hof.blk2 BK577.out) | (refine Hof.gl (some 14) Tryz.func96 #[.int .i64 a0_0, .slice A0_1 l0_1.length c0_1] ?_; (with_reducible refine (spec_IsFamily.calls k a0_0 _ _ l0_1 true _ ?side1 ?side2 A3.out).mono ?_); (case side1 => exact Kd.C_below HR0_1.out Hof.L); (case side2 => exact HC0_1.out); rintro e w' ⟨rfl, ⟨nd, rfl⟩⟩; refine ⟨_, rfl, ?_⟩))
   go_ret
   exact ⟨Hof.E, Hof.L⟩
  ·rw [if_neg c5] at H
   have c5b0 : decide (0 < (l0_1.length : Int)) = false := decide_eq_false c5
   have c5b1 : decide (0 < l0_1.length) = false := decide_eq_false (by omega)
   clear c5
   obtain rfl := Option.some.inj H
   go_enter Tryz.func26, Tryz.ntmps26
   go_wp2_with (first | ((with_reducible refine gate_dst (N := 1) rfl ?_); (try (refine gate_guard (by rfl) ?_; dsimp only)); refine box_event ?hg (N := 1) ?hd (cs := #[.int .i64 a0_0, .slice A0_1 l0_1.length c0_1]) (t := 30) ?hr ?_; (case hd => rfl); (case hg => rfl); (case hr => first | (go_simp; done) | (go_simp; rfl)); intro gb577 hg w13 hbox hb; have BK577 := Aside0.mk hbox; have GW577 := Hof.gw hg HB; have GE577 := Hof.gw hg HB; replace HB := Hof.lb HB hb; clear hb hbox hg; obtain ⟨hcz14_0, hcz14_1, hfz14_0, hfz14_1⟩ := Hof.blk2 BK577.out) | (refine Hof.gl (some 7) Tryz.func95 #[.agg #[.int .i64 a0_0, .slice A0_1 l0_1.length c0_1]] ?_; (with_reducible refine (spec_FirstFailure.calls k a0_0 _ _ l0_1 t578 t579 t580 t581 _ ?side1 ?side2 A2.out).mono ?_); (case side1 => exact Hof.Cw (Kd.C_below HR0_1.out HB.out)); (case side2 => exact HC0_1.out); rintro e w15 ⟨rfl, hb⟩; refine ⟨_, rfl, ?_⟩; replace BK577 := Hof.bb BK577 hb; replace HB := Aside0.mk (below_step Hof.L hb); (try clear hb); (try clear hb2); (try clear hk); (try clear hi)) | ((with_reducible refine gate_dst (N := 3) rfl ?_); (try (refine gate_guard (by rfl) ?_; dsimp only)); refine box_event ?hg (N := 3) ?hd (cs := #[.int .i64 0, .int .i64 0, .int .i64 0]) (t := 89) ?hr ?_; (case hd => rfl); (case hg => rfl); (case hr => first | (go_simp; done) | (go_simp; rfl)); intro gb582 hg w16 hbox hb; have BK582 := Aside0.mk hbox; have GW582 := Hof.gL (w := w) hg Hof.L; have GE582 := Hof.gL (w := w) hg Hof.L; replace HB := Aside0.mk (below_step Hof.L hb); have NB577_582 := Hof.nl hg BK577; have NB582_577 := Hof.ng hg BK577; replace BK577 := Hof.bb BK577 hb; clear hb hbox hg; have hnb17 := NB582_577.out; have hnc17 := NB577_582.out; obtain ⟨hcz18_0, hcz18_1, hcz18_2, hfz18_0, hfz18_1, hfz18_2⟩ := Hof.blk3 BK582.out; obtain ⟨hcz19_0, hcz19_1, hfz19_0, hfz19_1⟩ := Hof.blk2 BK577.out) | (refine Hof.gl (some 14) Tryz.func96 #[.int .i64 a0_0, .slice A0_1 l0_1.length c0_1] ?_; (with_reducible refine (spec_IsFamily.calls k a0_0 _ _ l0_1 true _ ?side1 ?side2 A3.out).mono ?_); (case side1 => exact Kd.C_below HR0_1.out Hof.L); (case side2 => exact HC0_1.out); rintro e w' ⟨rfl, ⟨nd, rfl⟩⟩; refine ⟨_, rfl, ?_⟩))
   go_ret
   exact ⟨Hof.E, Hof.L⟩
 ·replace c4 := Bool.eq_false_iff.mpr c4
  subst c4
  replace H : (some false) = some r := by rw [if_neg (show ¬ (false = true) by decide)] at H; exact H
  obtain rfl := Option.some.inj H
  go_enter Tryz.func26, Tryz.ntmps26
  go_wp2_with (first | ((with_reducible refine gate_dst (N := 1) rfl ?_); (try (refine gate_guard (by rfl) ?_; dsimp only)); refine box_event ?hg (N := 1) ?hd (cs := #[.int .i64 a0_0, .slice A0_1 l0_1.length c0_1]) (t := 30) ?hr ?_; (case hd => rfl); (case hg => rfl); (case hr => first | (go_simp; done) | (go_simp; rfl)); intro gb577 hg w20 hbox hb; have BK577 := Aside0.mk hbox; have GW577 := Hof.gw hg HB; have GE577 := Hof.gw hg HB; replace HB := Hof.lb HB hb; clear hb hbox hg; obtain ⟨hcz21_0, hcz21_1, hfz21_0, hfz21_1⟩ := Hof.blk2 BK577.out) | (refine Hof.gl (some 7) Tryz.func95 #[.agg #[.int .i64 a0_0, .slice A0_1 l0_1.length c0_1]] ?_; (with_reducible refine (spec_FirstFailure.calls k a0_0 _ _ l0_1 t578 t579 t580 t581 _ ?side1 ?side2 A2.out).mono ?_); (case side1 => exact Hof.Cw (Kd.C_below HR0_1.out HB.out)); (case side2 => exact HC0_1.out); rintro e w22 ⟨rfl, hb⟩; refine ⟨_, rfl, ?_⟩; replace BK577 := Hof.bb BK577 hb; replace HB := Aside0.mk (below_step Hof.L hb); (try clear hb); (try clear hb2); (try clear hk); (try clear hi)) | ((with_reducible refine gate_dst (N := 3) rfl ?_); (try (refine gate_guard (by rfl) ?_; dsimp only)); refine box_event ?hg (N := 3) ?hd (cs := #[.int .i64 0, .int .i64 0, .int .i64 0]) (t := 89) ?hr ?_; (case hd => rfl); (case hg => rfl); (case hr => first | (go_simp; done) | (go_simp; rfl)); intro gb582 hg w23 hbox hb; have BK582 := Aside0.mk hbox; have GW582 := Hof.gL (w := w) hg Hof.L; have GE582 := Hof.gL (w := w) hg Hof.L; replace HB := Aside0.mk (below_step Hof.L hb); have NB577_582 := Hof.nl hg BK577; have NB582_577 := Hof.ng hg BK577; replace BK577 := Hof.bb BK577 hb; clear hb hbox hg; have hnb24 := NB582_577.out; have hnc24 := NB577_582.out; obtain ⟨hcz25_0, hcz25_1, hcz25_2, hfz25_0, hfz25_1, hfz25_2⟩ := Hof.blk3 BK582.out; obtain ⟨hcz26_0, hcz26_1, hfz26_0, hfz26_1⟩ := Hof.blk2 BK577.out) | (refine Hof.gl (some 14) Tryz.func96 #[.int .i64 a0_0, .slice A0_1 l0_1.length c0_1] ?_; (with_reducible refine (spec_IsFamily.calls k a0_0 _ _ l0_1 false _ ?side1 ?side2 A3.out).mono ?_); (case side1 => exact Kd.C_below HR0_1.out Hof.L); (case side2 => exact HC0_1.out); rintro e w' ⟨rfl, ⟨nd, rfl⟩⟩; refine ⟨_, rfl, ?_⟩))
  go_ret
  exact ⟨Hof.E, Hof.L⟩
def spec_RankOfMatroid.f (k : Nat) (a0_0 : Int) (l0_1 : List Int) : Option (Int) := (spec_IsMatroid.f k a0_0 l0_1).bind fun t585 => (if t585 = true then (if 0 < (l0_1.length : Int) then ((spec_CountOf.f k (rd l0_1 0)).bind fun t587 => (some t587)) else (none)) else (some (-1)))
set_option maxHeartbeats 8000000 in
set_option maxRecDepth 100000 in
theorem spec_RankOfMatroid.calls (k : Nat) (a0_0 : Int) (A0_1 : Option Addr) (c0_1 : Nat) (l0_1 : List Int) (r : Int) (w : World) (hr0_1 : Kd.C (Kd.int .i64) w A0_1 l0_1.length l0_1) (hc0_1 : l0_1.length ≤ c0_1) (h : spec_RankOfMatroid.f k a0_0 l0_1 = some r) :
  Calls Tryz.prog 47 #[.agg #[.int .i64 a0_0, .slice A0_1 l0_1.length c0_1]] w fun e w' => e = .returned (.int .i64 r) ∧ Below w.heap.size w w' := by
 have hu30 := Tryz.underlying30
 have HR0_1 := Aside0.mk hr0_1
 have HC0_1 := Aside0.mk hc0_1
 clear hr0_1 hc0_1
 have HB := Aside0.mk (Below.refl w.heap.size w)
 unfold spec_RankOfMatroid.f at h
 have H := h
 clear h
 obtain ⟨t585, A2, H⟩ := Hof.be H
 (try dsimp only at H)
 by_cases c3 : t585 = true
 ·subst c3
  replace H : (if 0 < (l0_1.length : Int) then ((spec_CountOf.f k (rd l0_1 0)).bind fun t587 => (some t587)) else (none)) = some r := by rw [if_pos rfl] at H; exact H
  by_cases c4 : 0 < (l0_1.length : Int)
  ·rw [if_pos c4] at H
   have c4b0 := decide_eq_true c4
   have c4b1 : decide (0 < l0_1.length) = true := decide_eq_true (by omega)
   clear c4
   obtain ⟨t587, A5, H⟩ := Hof.be H
   (try dsimp only at H)
   obtain rfl := Option.some.inj H
   go_enter Tryz.func47, Tryz.ntmps47
   go_wp2_with (first | (refine Hof.bx 1 #[.int .i64 a0_0, .slice A0_1 l0_1.length c0_1] 30 ?_; intro gb584 hg w6 hbox hb; have BK584 := Aside0.mk hbox; have GW584 := Hof.gw hg HB; have GE584 := Hof.gw hg HB; replace HB := Hof.lb HB hb; clear hb hbox hg; obtain ⟨hcz7_0, hcz7_1, hfz7_0, hfz7_1⟩ := Hof.blk2 BK584.out) | (refine Hof.gl (some 4) Tryz.func26 #[.agg #[.int .i64 a0_0, .slice A0_1 l0_1.length c0_1]] ?_; (with_reducible refine (spec_IsMatroid.calls k a0_0 _ _ l0_1 true _ ?side1 ?side2 A2.out).mono ?_); (case side1 => exact Hof.Cw (Kd.C_below HR0_1.out HB.out)); (case side2 => exact HC0_1.out); rintro e w8 ⟨rfl, hb⟩; refine ⟨_, rfl, ?_⟩; replace BK584 := Hof.bb BK584 hb; replace HB := Hof.lb HB hb; (try clear hb); (try clear hb2); (try clear hk); (try clear hi); obtain ⟨hcz9_0, hcz9_1, hfz9_0, hfz9_1⟩ := Hof.blk2 BK584.out; have p586 : 0 ≤ (0 : Int) := (by omega); have q586 : 0 < (l0_1.length : Int) := Hof.D; obtain ⟨ad586, e586, hx586_0⟩ := Kd.at_int HR0_1.out 0 p586 q586; cases e586; have qi586 : (0 < l0_1.length) = True := eq_true (by omega); (try rw [show ((0 : Int)).toNat = 0 from rfl] at hx586_0); (try rw [Addr.add_zero'] at hx586_0); replace hx586_0 := (HB.out.cell (World.block_lt_of_cell? w _ hx586_0)).trans hx586_0; replace p586 := eq_true p586; replace q586 := eq_true q586) | (refine Hof.gl (some 10) Tryz.func25 #[.int .i64 (rd l0_1 0)] ?_; (with_reducible refine (spec_CountOf.calls k (rd l0_1 0) t587 _ A5.out).mono ?_); rintro e w' ⟨rfl, ⟨nd, rfl⟩⟩; refine ⟨_, rfl, ?_⟩))
   go_ret
   exact ⟨Hof.E, Hof.L⟩
  ·rw [if_neg c4] at H
   exact absurd H (by simp)
 ·replace c3 := Bool.eq_false_iff.mpr c3
  subst c3
  replace H : (some (-1)) = some r := by rw [if_neg (show ¬ (false = true) by decide)] at H; exact H
  obtain rfl := Option.some.inj H
  go_enter Tryz.func47, Tryz.ntmps47
  go_wp2_with (first | (refine Hof.bx 1 #[.int .i64 a0_0, .slice A0_1 l0_1.length c0_1] 30 ?_; intro gb584 hg w10 hbox hb; have BK584 := Aside0.mk hbox; have GW584 := Hof.gw hg HB; have GE584 := Hof.gw hg HB; replace HB := Hof.lb HB hb; clear hb hbox hg; obtain ⟨hcz11_0, hcz11_1, hfz11_0, hfz11_1⟩ := Hof.blk2 BK584.out) | (refine Hof.gl (some 4) Tryz.func26 #[.agg #[.int .i64 a0_0, .slice A0_1 l0_1.length c0_1]] ?_; (with_reducible refine (spec_IsMatroid.calls k a0_0 _ _ l0_1 false _ ?side1 ?side2 A2.out).mono ?_); (case side1 => exact Hof.Cw (Kd.C_below HR0_1.out HB.out)); (case side2 => exact HC0_1.out); rintro e w12 ⟨rfl, hb⟩; refine ⟨_, rfl, ?_⟩; replace BK584 := Hof.bb BK584 hb; replace HB := Hof.lb HB hb; (try clear hb); (try clear hb2); (try clear hk); (try clear hi)))
  go_ret
  exact ⟨Hof.E, Hof.L⟩
def spec_AreWeights.l0 : Nat → Int → List Int → Int → Option (Bool)
 | 0, _, _, _ => none
 | k + 1, x0, x1, x5 => if x5 < (x1.length : Int) then (if 0 ≤ x5 then ((spec_l1In.f (rd x1 x5) (-1000) 1000).bind fun t589 => (if t589 = true then (spec_AreWeights.l0 k x0 x1 (wrap64 (x5 + 1))) else (some false))) else (none)) else ((spec_l1In.f x0 0 8).bind fun t590 => (if t590 = true then (some ((x1.length : Int) == x0)) else (some false)))
def spec_AreWeights.f (k : Nat) (a0 : Int) (l1 : List Int) : Option (Bool) := spec_AreWeights.l0 k a0 l1 0
set_option maxHeartbeats 8000000 in
set_option maxRecDepth 100000 in
theorem spec_AreWeights.calls (k : Nat) (a0 : Int) (A1 : Option Addr) (c1 : Nat) (l1 : List Int) (r : Bool) (w : World) (hr1 : Kd.C (Kd.int .i64) w A1 l1.length l1) (hc1 : l1.length ≤ c1) (h : spec_AreWeights.f k a0 l1 = some r) :
  Calls Tryz.prog 155 #[.int .i64 a0, .slice A1 l1.length c1] w fun e w' => e = .returned (.bool r) ∧ Drawn0 w w' := by
 have HR1 := Aside0.mk hr1
 have HC1 := Aside0.mk hc1
 clear hr1 hc1
 unfold spec_AreWeights.f at h
 have H := h
 clear h
 have H' := Aside0.mk H
 clear H
 go_enter Tryz.func155, Tryz.ntmps155
 go_wp2
 go_loopg [5] k (fun kq v5 w' => ∃ (x5_1 : Int), v5 = .int .i64 x5_1 ∧ Aside0 (spec_AreWeights.l0 kq a0 l1 x5_1 = some r) ∧ Aside0 (kq ≤ k) ∧ Drawn0 w w')
 case atStart => exact ⟨(0), Hof.F, H', ⟨Nat.le_refl _⟩, Hof.G⟩
 case round =>
  clear H'
  obtain ⟨x5_1, rfl, HA, HK1, ⟨m1, rfl⟩⟩ := hrel
  cases gk with
  | zero => exact absurd HA.out (by simp [spec_AreWeights.l0])
  | succ k1 =>
   have H := HA.out
   clear HA
   simp only [spec_AreWeights.l0] at H
   by_cases c3 : x5_1 < (l1.length : Int)
   ·rw [if_pos c3] at H
    have c3b0 := decide_eq_true c3
    clear c3
    by_cases c4 : 0 ≤ x5_1
    ·rw [if_pos c4] at H
     have c4b0 := decide_eq_true c4
     clear c4
     obtain ⟨t589, A5, H⟩ := Hof.be H
     (try dsimp only at H)
     by_cases c6 : t589 = true
     ·subst c6
      replace H : (spec_AreWeights.l0 k1 a0 l1 (wrap64 (x5_1 + 1))) = some r := by rw [if_pos rfl] at H; exact H
      have H' := Aside0.mk H
      clear H
      have p588 : 0 ≤ (x5_1 : Int) := Hof.D
      have q588 : x5_1 < (l1.length : Int) := Hof.D
      obtain ⟨ad588, e588, hx588_0⟩ := Kd.at_int HR1.out x5_1 p588 q588
      cases e588
      replace p588 := eq_true p588
      replace q588 := eq_true q588
      go_wp2_with (first | (refine Hof.gl (some 16) Tryz.func94 #[.int .i64 (rd l1 x5_1), .int .i64 (-1000), .int .i64 1000] ?_; (with_reducible refine (spec_l1In.calls (rd l1 x5_1) (-1000) 1000 true _ A5.out).mono ?_); rintro e w' ⟨rfl, ⟨nd, rfl⟩⟩; refine ⟨_, rfl, ?_⟩))
      go_roundg k1
      case measure => have := HK1.out; omega
      case rel => exact ⟨(wrap64 (x5_1 + 1)), Hof.F, H', ⟨by have := HK1.out; omega⟩, Hof.G⟩
     ·replace c6 := Bool.eq_false_iff.mpr c6
      subst c6
      replace H : (some false) = some r := by rw [if_neg (show ¬ (false = true) by decide)] at H; exact H
      obtain rfl := Option.some.inj H
      have p588 : 0 ≤ (x5_1 : Int) := Hof.D
      have q588 : x5_1 < (l1.length : Int) := Hof.D
      obtain ⟨ad588, e588, hx588_0⟩ := Kd.at_int HR1.out x5_1 p588 q588
      cases e588
      replace p588 := eq_true p588
      replace q588 := eq_true q588
      go_wp2_with (first | (refine Hof.gl (some 16) Tryz.func94 #[.int .i64 (rd l1 x5_1), .int .i64 (-1000), .int .i64 1000] ?_; (with_reducible refine (spec_l1In.calls (rd l1 x5_1) (-1000) 1000 false _ A5.out).mono ?_); rintro e w' ⟨rfl, ⟨nd, rfl⟩⟩; refine ⟨_, rfl, ?_⟩))
      go_ret
      exact ⟨Hof.F, Hof.G⟩
    ·rw [if_neg c4] at H
     exact absurd H (by simp)
   ·rw [if_neg c3] at H
    have c3b0 : decide (x5_1 < (l1.length : Int)) = false := decide_eq_false c3
    clear c3
    obtain ⟨t590, A7, H⟩ := Hof.be H
    (try dsimp only at H)
    by_cases c8 : t590 = true
    ·subst c8
     replace H : (some ((l1.length : Int) == a0)) = some r := by rw [if_pos rfl] at H; exact H
     obtain rfl := Option.some.inj H
     go_wp2_with (first | (refine Hof.gl (some 19) Tryz.func94 #[.int .i64 a0, .int .i64 0, .int .i64 8] ?_; (with_reducible refine (spec_l1In.calls a0 0 8 true _ A7.out).mono ?_); rintro e w' ⟨rfl, ⟨nd, rfl⟩⟩; refine ⟨_, rfl, ?_⟩))
     go_ret
     exact ⟨Hof.F, Hof.G⟩
    ·replace c8 := Bool.eq_false_iff.mpr c8
     subst c8
     replace H : (some false) = some r := by rw [if_neg (show ¬ (false = true) by decide)] at H; exact H
     obtain rfl := Option.some.inj H
     go_wp2_with (first | (refine Hof.gl (some 19) Tryz.func94 #[.int .i64 a0, .int .i64 0, .int .i64 8] ?_; (with_reducible refine (spec_l1In.calls a0 0 8 false _ A7.out).mono ?_); rintro e w' ⟨rfl, ⟨nd, rfl⟩⟩; refine ⟨_, rfl, ?_⟩))
     go_ret
     exact ⟨Hof.F, Hof.G⟩
def spec_l1Max.f (a0 : Int) (a1 : Int) : Option (Int) := if a0 > a1 then (some a0) else (some a1)
set_option maxHeartbeats 8000000 in
set_option maxRecDepth 100000 in
theorem spec_l1Max.calls (a0 : Int) (a1 : Int) (r : Int) (w : World) (h : spec_l1Max.f a0 a1 = some r) :
  Calls Tryz.prog 121 #[.int .i64 a0, .int .i64 a1] w fun e w' => e = .returned (.int .i64 r) ∧ Drawn0 w w' := by
 unfold spec_l1Max.f at h
 have H := h
 clear h
 by_cases c3 : a0 > a1
 ·rw [if_pos c3] at H
  have c3b0 := decide_eq_true c3
  clear c3
  obtain rfl := Option.some.inj H
  go_enter Tryz.func121, Tryz.ntmps121
  go_wp2
  go_ret
  exact ⟨Hof.F, Hof.G⟩
 ·rw [if_neg c3] at H
  have c3b0 : decide (a1 < a0) = false := decide_eq_false c3
  clear c3
  obtain rfl := Option.some.inj H
  go_enter Tryz.func121, Tryz.ntmps121
  go_wp2
  go_ret
  exact ⟨Hof.F, Hof.G⟩
def spec_l5Rank.l0 : Nat → Int → Int → Int → Int → List Int → Option (Int)
 | 0, _, _, _, _, _ => none
 | k + 1, x1, x5, x6, x592000, x592001 => if x6 < (x592001.length : Int) then (if 0 ≤ x6 then ((spec_CountOf.f k (Go.bits .and .i64 (rd x592001 x6) x1)).bind fun t593 => ((spec_l1Max.f x5 t593).bind fun t594 => (spec_l5Rank.l0 k x1 t594 (wrap64 (x6 + 1)) x592000 x592001))) else (none)) else (some x5)
def spec_l5Rank.f (k : Nat) (a0_0 : Int) (l0_1 : List Int) (a1 : Int) : Option (Int) := spec_l5Rank.l0 k a1 0 0 a0_0 l0_1
set_option maxHeartbeats 8000000 in
set_option maxRecDepth 100000 in
theorem spec_l5Rank.calls (k : Nat) (a0_0 : Int) (A0_1 : Option Addr) (c0_1 : Nat) (l0_1 : List Int) (a1 : Int) (r : Int) (w : World) (hr0_1 : Kd.C (Kd.int .i64) w A0_1 l0_1.length l0_1) (hc0_1 : l0_1.length ≤ c0_1) (h : spec_l5Rank.f k a0_0 l0_1 a1 = some r) :
  Calls Tryz.prog 109 #[.agg #[.int .i64 a0_0, .slice A0_1 l0_1.length c0_1], .int .i64 a1] w fun e w' => e = .returned (.int .i64 r) ∧ Below w.heap.size w w' := by
 have hu30 := Tryz.underlying30
 have HR0_1 := Aside0.mk hr0_1
 have HC0_1 := Aside0.mk hc0_1
 clear hr0_1 hc0_1
 have HB := Aside0.mk (Below.refl w.heap.size w)
 unfold spec_l5Rank.f at h
 have H := h
 clear h
 have H' := Aside0.mk H
 clear H
 go_enter Tryz.func109, Tryz.ntmps109
 go_wp2_with (first | (refine Hof.bx 2 #[.int .i64 a0_0, .slice A0_1 l0_1.length c0_1] 30 ?_; intro gb591 hg w3 hbox hb; have BK591 := Aside0.mk hbox; have GW591 := Hof.gw hg HB; have GE591 := Hof.gw hg HB; replace HB := Hof.lb HB hb; clear hb hbox hg))
 go_loopg [5, 6] k (fun kq v5 v6 w' => ∃ (x5_1 : Int) (x6_1 : Int), v5 = .int .i64 x5_1 ∧ v6 = .int .i64 x6_1 ∧ Aside0 (spec_l5Rank.l0 kq a1 x5_1 x6_1 a0_0 l0_1 = some r) ∧ Aside0 (kq ≤ k) ∧ Aside0 (w'.heap[gb591]? = some (.cells #[.int .i64 a0_0, (.slice A0_1 l0_1.length c0_1)] 30 (0, 0))) ∧ Aside0 (Below w.heap.size w w'))
 case atStart => exact ⟨(0), (0), Hof.F, Hof.F, H', ⟨Nat.le_refl _⟩, ⟨Hof.Bw BK591.out⟩, ⟨Hof.Lw HB.out⟩⟩
 case round =>
  clear H'
  obtain ⟨x5_1, x6_1, rfl, rfl, HA, HK1, BK591, HB⟩ := hrel
  cases gk with
  | zero => exact absurd HA.out (by simp [spec_l5Rank.l0])
  | succ k1 =>
   have H := HA.out
   clear HA
   simp only [spec_l5Rank.l0] at H
   by_cases c4 : x6_1 < (l0_1.length : Int)
   ·rw [if_pos c4] at H
    have c4b0 := decide_eq_true c4
    clear c4
    by_cases c5 : 0 ≤ x6_1
    ·rw [if_pos c5] at H
     have c5b0 := decide_eq_true c5
     clear c5
     obtain ⟨t593, A6, H⟩ := Hof.be H
     (try dsimp only at H)
     obtain ⟨t594, A7, H⟩ := Hof.be H
     (try dsimp only at H)
     have H' := Aside0.mk H
     clear H
     obtain ⟨hcz8_0, hcz8_1, hfz8_0, hfz8_1⟩ := Hof.blk2 BK591.out
     have p592 : 0 ≤ (x6_1 : Int) := Hof.D
     have q592 : x6_1 < (l0_1.length : Int) := Hof.D
     obtain ⟨ad592, e592, hx592_0⟩ := Kd.at_int HR0_1.out x6_1 p592 q592
     cases e592
     try replace hx592_0 := (HB.out.cell (World.block_lt_of_cell? w _ hx592_0)).trans hx592_0
     replace p592 := eq_true p592
     replace q592 := eq_true q592
     go_wp2_with (first | (refine Hof.gl (some 22) Tryz.func25 #[.int .i64 (Go.bits .and .i64 (rd l0_1 x6_1) a1)] ?_; (with_reducible refine (spec_CountOf.calls k1 (Go.bits .and .i64 (rd l0_1 x6_1) a1) t593 _ A6.out).mono ?_); rintro e w' ⟨rfl, ⟨nd, rfl⟩⟩; refine ⟨_, rfl, ?_⟩) | (refine Hof.gl (some 23) Tryz.func121 #[.int .i64 x5_1, .int .i64 t593] ?_; (with_reducible refine (spec_l1Max.calls x5_1 t593 t594 _ A7.out).mono ?_); rintro e w' ⟨rfl, ⟨nd, rfl⟩⟩; refine ⟨_, rfl, ?_⟩))
     go_roundg k1
     case measure => have := HK1.out; omega
     case rel => exact ⟨(t594), (wrap64 (x6_1 + 1)), Hof.F, Hof.F, H', ⟨by have := HK1.out; omega⟩, ⟨Hof.Bw BK591.out⟩, ⟨Hof.Lw HB.out⟩⟩
    ·rw [if_neg c5] at H
     exact absurd H (by simp)
   ·rw [if_neg c4] at H
    have c4b0 : decide (x6_1 < (l0_1.length : Int)) = false := decide_eq_false c4
    clear c4
    obtain rfl := Option.some.inj H
    obtain ⟨hcz9_0, hcz9_1, hfz9_0, hfz9_1⟩ := Hof.blk2 BK591.out
    go_wp2
    go_ret
    exact ⟨Hof.E, Hof.L⟩
mutual
def spec_l19Order.l0 : Nat → List Int → List Int → Int → Option (List Int)
 | 0, _, _, _ => none
 | k + 1, x0, x3, x4 => if x4 < (x0.length : Int) then (spec_l19Order.l1 k x0 x3 x4 (x3.length : Int)) else (some x3)
def spec_l19Order.l1 : Nat → List Int → List Int → Int → Int → Option (List Int)
 | 0, _, _, _, _ => none
 | k + 1, x0, x3, x4, x5 => if x5 > 0 then (if 0 ≤ (wrap64 (x5 - 1)) then (if (wrap64 (x5 - 1)) < (x3.length : Int) then (if 0 ≤ (rd x3 (wrap64 (x5 - 1))) then (if (rd x3 (wrap64 (x5 - 1))) < (x0.length : Int) then (if 0 ≤ x4 then (if x4 < (x0.length : Int) then (if (rd x0 (rd x3 (wrap64 (x5 - 1)))) < (rd x0 x4) then (spec_l19Order.l1 k x0 x3 x4 (wrap64 (x5 - 1))) else ((some (([] : List Int) : List Int)).bind fun y601 => (if 0 ≤ x5 then (if x5 ≤ (x3.length : Int) then ((some (x3.drop (x5 : Int).toNat : List Int)).bind fun y604 => (if y601.length + y604.length < 17592186044416 then ((some (y601 ++ y604 : List Int)).bind fun y608 => ((some (x3.take (x5 : Int).toNat : List Int)).bind fun y611 => (if y611.length < 17592186044416 then ((some (y611 ++ [x4] : List Int)).bind fun y614 => (if y614.length + y608.length < 17592186044416 then (spec_l19Order.l0 k x0 (y614 ++ y608) (wrap64 (x4 + 1))) else (none))) else (none)))) else (none))) else (none)) else (none)))) else (none)) else (none)) else (none)) else (none)) else (none)) else (none)) else ((some (([] : List Int) : List Int)).bind fun y620 => (if 0 ≤ x5 then (if x5 ≤ (x3.length : Int) then ((some (x3.drop (x5 : Int).toNat : List Int)).bind fun y623 => (if y620.length + y623.length < 17592186044416 then ((some (y620 ++ y623 : List Int)).bind fun y627 => ((some (x3.take (x5 : Int).toNat : List Int)).bind fun y630 => (if y630.length < 17592186044416 then ((some (y630 ++ [x4] : List Int)).bind fun y633 => (if y633.length + y627.length < 17592186044416 then (spec_l19Order.l0 k x0 (y633 ++ y627) (wrap64 (x4 + 1))) else (none))) else (none)))) else (none))) else (none)) else (none)))
end
def spec_l19Order.f (k : Nat) (l0 : List Int) : Option (List Int) := spec_l19Order.l0 k l0 (([] : List Int)) 0
set_option maxHeartbeats 8000000 in
set_option maxRecDepth 100000 in
theorem spec_l19Order.calls (k : Nat) (A0 : Option Addr) (c0 : Nat) (l0 : List Int) (r : List Int) (w : World) (hr0 : Kd.C (Kd.int .i64) w A0 l0.length l0) (hc0 : l0.length ≤ c0) (h : spec_l19Order.f k l0 = some r) :
  Calls Tryz.prog 171 #[.slice A0 l0.length c0] w fun e w' => ∃ v0_ : Value, e = .returned (v0_) ∧ Kd.R (Kd.int .i64) 3 w' w.heap.size (fun _ => True) v0_ r ∧ Below w.heap.size w w' := by
 have HR0 := Aside0.mk hr0
 have HC0 := Aside0.mk hc0
 clear hr0 hc0
 have HB := Aside0.mk (Below.refl w.heap.size w)
 unfold spec_l19Order.f at h
 have H := h
 clear h
 obtain ⟨y595, hy595⟩ : ∃ y_ : List Int, y_ = (([] : List Int)) := ⟨_, rfl⟩
 replace H : (spec_l19Order.l0 k l0 y595 0) = some r := by (try rw [hy595]); exact Hof.Z
 have Ny595 := Aside0.mk hy595
 clear hy595
 have H' := Aside0.mk H
 clear H
 go_enter Tryz.func171, Tryz.ntmps171
 go_wp2_with (first | (refine Hof.lt (Kd.int .i64) 3 7 ?_; intro v596 w2 ho3 hb hg_ hnew_; clear hg_ hnew_; (first | rw [← Ny595.out] at ho3 | (simp only [Int.reduceToNat] at ho3; rw [← Ny595.out] at ho3)); have HO597 := Aside0.mk (Kd.R_lower ho3 (below_size (Hof.Lw HB.out))); replace HB := Hof.lb HB hb; clear hb ho3))
 repeat (go_quiet (first | (refine Hof.lt (Kd.int .i64) 3 7 ?_; intro v596 w2 ho3 hb hg_ hnew_; clear hg_ hnew_; (first | rw [← Ny595.out] at ho3 | (simp only [Int.reduceToNat] at ho3; rw [← Ny595.out] at ho3)); have HO597 := Aside0.mk (Kd.R_lower ho3 (below_size (Hof.Lw HB.out))); replace HB := Hof.lb HB hb; clear hb ho3)); try go_wp2_with (first | (refine Hof.lt (Kd.int .i64) 3 7 ?_; intro v596 w2 ho3 hb hg_ hnew_; clear hg_ hnew_; (first | rw [← Ny595.out] at ho3 | (simp only [Int.reduceToNat] at ho3; rw [← Ny595.out] at ho3)); have HO597 := Aside0.mk (Kd.R_lower ho3 (below_size (Hof.Lw HB.out))); replace HB := Hof.lb HB hb; clear hb ho3)))
 go_loopg [3, 4] k (fun kq v3 v4 w' => ∃ (x3_1 : List Int) (x4_1 : Int), v4 = .int .i64 x4_1 ∧ Aside0 (spec_l19Order.l0 kq l0 x3_1 x4_1 = some r) ∧ Aside0 (kq ≤ k) ∧ Aside0 (Kd.R (Kd.int .i64) 3 w' w.heap.size (fun _ => True) v3 x3_1) ∧ Aside0 (Below w.heap.size w w'))
 case atStart => exact ⟨(y595), (0), Hof.F, H', ⟨Nat.le_refl _⟩, ⟨Hof.Rw HO597.out⟩, ⟨Hof.Lw HB.out⟩⟩
 case round =>
  clear H'
  obtain ⟨x3_1, x4_1, rfl, HA, HK1, HO_3, HB⟩ := hrel
  cases gk with
  | zero => exact absurd HA.out (by simp [spec_l19Order.l0])
  | succ k1 =>
   have H := HA.out
   clear HA
   simp only [spec_l19Order.l0] at H
   by_cases c4 : x4_1 < (l0.length : Int)
   ·rw [if_pos c4] at H
    have c4b0 := decide_eq_true c4
    clear c4
    have H' := Aside0.mk H
    clear H
    obtain ⟨Ao5, co5, eo5⟩ := Kd.R_slice HO_3.out
    subst eo5
    go_wp2
    repeat (go_quiet (fail); try go_wp2)
    go_loopg [5] k1 (fun kq v5 w' => ∃ (x5_2 : Int), v5 = .int .i64 x5_2 ∧ Aside0 (spec_l19Order.l1 kq l0 x3_1 x4_1 x5_2 = some r) ∧ Aside0 (kq ≤ k1) ∧ Aside0 (Kd.R (Kd.int .i64) 3 w' w.heap.size (fun _ => True) (.slice Ao5 x3_1.length co5) x3_1) ∧ Aside0 (Below w.heap.size w w'))
    case atStart => exact ⟨((x3_1.length : Int)), Hof.F, H', ⟨Nat.le_refl _⟩, ⟨Hof.Rw HO_3.out⟩, ⟨Hof.Lw HB.out⟩⟩
    case round =>
     clear H'
     obtain ⟨x5_2, rfl, HA, HK2, HO_3, HB⟩ := hrel
     cases gk with
     | zero => exact absurd HA.out (by simp [spec_l19Order.l1])
     | succ k2 =>
      have H := HA.out
      clear HA
      simp only [spec_l19Order.l1] at H
      by_cases c6 : x5_2 > 0
      ·rw [if_pos c6] at H
       have c6b0 := decide_eq_true c6
       clear c6
       obtain ⟨ji7, hji7⟩ : ∃ j_ : Int, (wrap64 (x5_2 - 1)) = j_ := ⟨_, rfl⟩
       replace H : (if 0 ≤ (ji7) then (if (ji7) < (x3_1.length : Int) then (if 0 ≤ (rd x3_1 (ji7)) then (if (rd x3_1 (ji7)) < (l0.length : Int) then (if 0 ≤ x4_1 then (if x4_1 < (l0.length : Int) then (if (rd l0 (rd x3_1 (ji7))) < (rd l0 x4_1) then (spec_l19Order.l1 k2 l0 x3_1 x4_1 ji7) else ((some (([] : List Int) : List Int)).bind fun y601 => (if 0 ≤ x5_2 then (if x5_2 ≤ (x3_1.length : Int) then ((some (x3_1.drop (x5_2 : Int).toNat : List Int)).bind fun y604 => (if y601.length + y604.length < 17592186044416 then ((some (y601 ++ y604 : List Int)).bind fun y608 => ((some (x3_1.take (x5_2 : Int).toNat : List Int)).bind fun y611 => (if y611.length < 17592186044416 then ((some (y611 ++ [x4_1] : List Int)).bind fun y614 => (if y614.length + y608.length < 17592186044416 then (spec_l19Order.l0 k2 l0 (y614 ++ y608) (wrap64 (x4_1 + 1))) else (none))) else (none)))) else (none))) else (none)) else (none)))) else (none)) else (none)) else (none)) else (none)) else (none)) else (none)) = some r := by first | (rw [hji7] at H; exact H) | (simp only [hji7] at H ⊢; exact H)
       have hji7w : (IntKind.i64.wrap (x5_2 - 1)) = ji7 := (i64_w _).trans hji7
       by_cases c8 : 0 ≤ (ji7)
       ·rw [if_pos c8] at H
        have c8b0 := decide_eq_true c8
        clear c8
        by_cases c9 : (ji7) < (x3_1.length : Int)
        ·rw [if_pos c9] at H
         have c9b0 := decide_eq_true c9
         clear c9
         by_cases c10 : 0 ≤ (rd x3_1 (ji7))
         ·rw [if_pos c10] at H
          have c10b0 := decide_eq_true c10
          clear c10
          by_cases c11 : (rd x3_1 (ji7)) < (l0.length : Int)
          ·rw [if_pos c11] at H
           have c11b0 := decide_eq_true c11
           clear c11
           by_cases c12 : 0 ≤ x4_1
           ·rw [if_pos c12] at H
            have c12b0 := decide_eq_true c12
            clear c12
            by_cases c13 : x4_1 < (l0.length : Int)
            ·rw [if_pos c13] at H
             have c13b0 := decide_eq_true c13
             clear c13
             by_cases c14 : (rd l0 (rd x3_1 (ji7))) < (rd l0 x4_1)
             ·rw [if_pos c14] at H
              have c14b0 := decide_eq_true c14
              clear c14
              have H' := Aside0.mk H
              clear H
              have p598 : 0 ≤ ((ji7) : Int) := Hof.D
              have q598 : (ji7) < (x3_1.length : Int) := Hof.D
              obtain ⟨ad598, e598, hx598_0⟩ := Kd.at_int (Kd.R_reads' HO_3.out).2.2 (ji7) p598 q598
              cases e598
              replace p598 := eq_true p598
              replace q598 := eq_true q598
              have p599 : 0 ≤ ((rd x3_1 (ji7)) : Int) := Hof.D
              have q599 : (rd x3_1 (ji7)) < (l0.length : Int) := Hof.D
              obtain ⟨ad599, e599, hx599_0⟩ := Kd.at_int HR0.out (rd x3_1 (ji7)) p599 q599
              cases e599
              try replace hx599_0 := (HB.out.cell (World.block_lt_of_cell? w _ hx599_0)).trans hx599_0
              replace p599 := eq_true p599
              replace q599 := eq_true q599
              have p600 : 0 ≤ (x4_1 : Int) := Hof.D
              have q600 : x4_1 < (l0.length : Int) := Hof.D
              obtain ⟨ad600, e600, hx600_0⟩ := Kd.at_int HR0.out x4_1 p600 q600
              obtain rfl : ad599 = ad600 := (by injection e600)
              try replace hx600_0 := (HB.out.cell (World.block_lt_of_cell? w _ hx600_0)).trans hx600_0
              replace p600 := eq_true p600
              replace q600 := eq_true q600
              go_wp2
              repeat (go_quiet (fail); try go_wp2)
              go_roundg k2
              case measure => have := HK1.out; have := HK2.out; omega
              case rel => exact ⟨(ji7), (by first | rfl | (simp; done) | (simp only [← hji7] <;> (first | rfl | simp)) | (simp [*]; done)), H', ⟨by have := HK1.out; have := HK2.out; omega⟩, ⟨Hof.Rw HO_3.out⟩, ⟨Hof.Lw HB.out⟩⟩
             ·rw [if_neg c14] at H
              have c14b0 : decide ((rd l0 (rd x3_1 (ji7))) < (rd l0 x4_1)) = false := decide_eq_false c14
              clear c14
              obtain ⟨y601, hy601⟩ : ∃ y_ : List Int, y_ = (([] : List Int)) := ⟨_, rfl⟩
              replace H : (if 0 ≤ x5_2 then (if x5_2 ≤ (x3_1.length : Int) then ((some (x3_1.drop (x5_2 : Int).toNat : List Int)).bind fun y604 => (if y601.length + y604.length < 17592186044416 then ((some (y601 ++ y604 : List Int)).bind fun y608 => ((some (x3_1.take (x5_2 : Int).toNat : List Int)).bind fun y611 => (if y611.length < 17592186044416 then ((some (y611 ++ [x4_1] : List Int)).bind fun y614 => (if y614.length + y608.length < 17592186044416 then (spec_l19Order.l0 k2 l0 (y614 ++ y608) (wrap64 (x4_1 + 1))) else (none))) else (none)))) else (none))) else (none)) else (none)) = some r := by (try rw [hy601]); exact Hof.Z
              have Ny601 := Aside0.mk hy601
              clear hy601
              by_cases c15 : 0 ≤ x5_2
              ·rw [if_pos c15] at H
               have c15b0 := eq_true c15
               have c15b1 : decide (0 ≤ x5_2) = true := decide_eq_true c15
               clear c15
               by_cases c16 : x5_2 ≤ (x3_1.length : Int)
               ·rw [if_pos c16] at H
                have c16b0 := eq_true c16
                have c16b1 : decide (x5_2 ≤ (x3_1.length : Int)) = true := decide_eq_true c16
                clear c16
                obtain ⟨y604, hy604⟩ : ∃ y_ : List Int, y_ = (x3_1.drop (x5_2 : Int).toNat) := ⟨_, rfl⟩
                replace H : (if y601.length + y604.length < 17592186044416 then ((some (y601 ++ y604 : List Int)).bind fun y608 => ((some (x3_1.take (x5_2 : Int).toNat : List Int)).bind fun y611 => (if y611.length < 17592186044416 then ((some (y611 ++ [x4_1] : List Int)).bind fun y614 => (if y614.length + y608.length < 17592186044416 then (spec_l19Order.l0 k2 l0 (y614 ++ y608) (wrap64 (x4_1 + 1))) else (none))) else (none)))) else (none)) = some r := by (try rw [hy604]); exact Hof.Z
                have Ny604 := Aside0.mk hy604
                clear hy604
                by_cases c17 : y601.length + y604.length < 17592186044416
                ·rw [if_pos c17] at H
                 have LMc17 := Aside0.mk c17
                 clear c17
                 obtain ⟨y608, hy608⟩ : ∃ y_ : List Int, y_ = (y601 ++ y604) := ⟨_, rfl⟩
                 replace H : ((some (x3_1.take (x5_2 : Int).toNat : List Int)).bind fun y611 => (if y611.length < 17592186044416 then ((some (y611 ++ [x4_1] : List Int)).bind fun y614 => (if y614.length + y608.length < 17592186044416 then (spec_l19Order.l0 k2 l0 (y614 ++ y608) (wrap64 (x4_1 + 1))) else (none))) else (none))) = some r := by (try rw [hy608]); exact Hof.Z
                 have Ny608 := Aside0.mk hy608
                 clear hy608
                 have c18b0 := eq_true (Hof.D : x5_2 ≤ (x3_1.length : Int))
                 obtain ⟨y611, hy611⟩ : ∃ y_ : List Int, y_ = (x3_1.take (x5_2 : Int).toNat) := ⟨_, rfl⟩
                 replace H : (if y611.length < 17592186044416 then ((some (y611 ++ [x4_1] : List Int)).bind fun y614 => (if y614.length + y608.length < 17592186044416 then (spec_l19Order.l0 k2 l0 (y614 ++ y608) (wrap64 (x4_1 + 1))) else (none))) else (none)) = some r := by (try rw [hy611]); exact Hof.Z
                 have Ny611 := Aside0.mk hy611
                 clear hy611
                 by_cases c19 : y611.length < 17592186044416
                 ·rw [if_pos c19] at H
                  have LMc19 := Aside0.mk c19
                  clear c19
                  obtain ⟨y614, hy614⟩ : ∃ y_ : List Int, y_ = (y611 ++ [x4_1]) := ⟨_, rfl⟩
                  replace H : (if y614.length + y608.length < 17592186044416 then (spec_l19Order.l0 k2 l0 (y614 ++ y608) (wrap64 (x4_1 + 1))) else (none)) = some r := by (try rw [hy614]); exact Hof.Z
                  have Ny614 := Aside0.mk hy614
                  clear hy614
                  by_cases c20 : y614.length + y608.length < 17592186044416
                  ·rw [if_pos c20] at H
                   have LMc20 := Aside0.mk c20
                   clear c20
                   obtain ⟨y617, hy617⟩ : ∃ y_ : List Int, y_ = (y614 ++ y608) := ⟨_, rfl⟩
                   replace H : (spec_l19Order.l0 k2 l0 y617 (wrap64 (x4_1 + 1))) = some r := by (try rw [hy617]); exact Hof.Z
                   have Ny617 := Aside0.mk hy617
                   clear hy617
                   have H' := Aside0.mk H
                   clear H
                   have p598 : 0 ≤ ((ji7) : Int) := Hof.D
                   have q598 : (ji7) < (x3_1.length : Int) := Hof.D
                   obtain ⟨ad598, e598, hx598_0⟩ := Kd.at_int (Kd.R_reads' HO_3.out).2.2 (ji7) p598 q598
                   cases e598
                   replace p598 := eq_true p598
                   replace q598 := eq_true q598
                   have p599 : 0 ≤ ((rd x3_1 (ji7)) : Int) := Hof.D
                   have q599 : (rd x3_1 (ji7)) < (l0.length : Int) := Hof.D
                   obtain ⟨ad599, e599, hx599_0⟩ := Kd.at_int HR0.out (rd x3_1 (ji7)) p599 q599
                   cases e599
                   try replace hx599_0 := (HB.out.cell (World.block_lt_of_cell? w _ hx599_0)).trans hx599_0
                   replace p599 := eq_true p599
                   replace q599 := eq_true q599
                   have p600 : 0 ≤ (x4_1 : Int) := Hof.D
                   have q600 : x4_1 < (l0.length : Int) := Hof.D
                   obtain ⟨ad600, e600, hx600_0⟩ := Kd.at_int HR0.out x4_1 p600 q600
                   obtain rfl : ad599 = ad600 := (by injection e600)
                   try replace hx600_0 := (HB.out.cell (World.block_lt_of_cell? w _ hx600_0)).trans hx600_0
                   replace p600 := eq_true p600
                   replace q600 := eq_true q600
                   go_wp2_with (first | (refine Hof.lt (Kd.int .i64) 3 35 ?_; intro v602 w21 ho22 hb hg_ hnew_; clear hg_ hnew_; (first | rw [← Ny601.out] at ho22 | (simp only [Int.reduceToNat] at ho22; rw [← Ny601.out] at ho22)); have HO603 := Aside0.mk (Kd.R_lower (Kd.R_new' ho22 (Kd.R_lt (Hof.Rw HO_3.out))) (below_size (Hof.Lw HB.out))); replace HO_3 := Aside0.mk (Kd.R_elder' (Hof.Rw HO_3.out) (Kd.R_base ho22) hb); replace HB := Hof.lb HB hb; clear hb ho22; have q23 : (x5_2 : Int) ≤ ((x3_1.length : Int) : Int) := Hof.D; obtain ⟨i023, hi023, _, hsz23, _⟩ := info_parts info3; have hroom23 : x3_1.length ≤ co5 := (Kd.R_reads' HO_3.out).2.1; have hC23 : Kd.C (Kd.int .i64) _ (some ad598) x3_1.length x3_1 := (Kd.R_reads' HO_3.out).2.2; have q023 : (0 : Int) ≤ (x5_2 : Int) := Hof.D; have hcut23 := cut_from (P := Tryz.prog) 28 3 .i64 Tryz.underlying28 hi023 1 hsz23 (some ad598) x3_1.length co5 x5_2 q023 q23; have hr23 := Kd.C_drop (m := (x5_2 : Int).toNat) (c := co5) hC23 (by omega) hroom23; obtain ⟨A23, hA23⟩ : ∃ A1, A1 = (if co5 = (x5_2 : Int).toNat then (some ad598) else ((some ad598) : Option Addr).map (·.add ((x5_2 : Int).toNat * 1))) := ⟨_, rfl⟩; obtain ⟨c23, hc23⟩ : ∃ c1, c1 = co5 - (x5_2 : Int).toNat := ⟨_, rfl⟩; have hy23 : y604.length = x3_1.length - (x5_2 : Int).toNat := (by rw [Ny604.out, List.length_drop] <;> omega); rw [show (x3_1).drop (x5_2 : Int).toNat = y604 from Ny604.out.symm] at hr23; replace hr23 : Kd.C (Kd.int .i64) _ A23 y604.length y604 := (by rw [hA23]; exact hr23); rw [← hy23, ← hA23, ← hc23] at hcut23; have HR607 := Aside0.mk hr23; have HC607 := Aside0.mk (show y604.length ≤ c23 from by rw [hy23, hc23]; exact Nat.sub_le_sub_right hroom23 _); clear hr23 hC23 hroom23 hi023 hsz23 hc23; have KY23 := Aside0.mk hy23; have KA23 := Aside0.mk hA23; clear hy23 hA23; have KL23 := Aside0.mk (show (x5_2 : Int).toNat ≤ x3_1.length from by omega); replace q23 := eq_true q23) | ((with_reducible refine gate_builtin (b := .append) (xs := #[.tmp 35, .tmp 38]) rfl ?_); at_builtin; refine Kd.R_append_rows (Kd.int .i64) (w0 := w) w.heap.size rfl (.tmp 35) (.tmp 38) 28 3 (.int .i64 0) 8 rfl Tryz.underlying28 info3 rfl (by decide) (by omega) v602 y601 y604 _ _ _ (fun k_ => some k_ ≠ (.slice (some ad598) x3_1.length co5 : Value).ownBlock) (fun _ => False) rfl rfl (by exact Hof.Rw (Kd.R_mono HO603.out (fun _ hk => hk.2))) (by repeat (first | exact (by repeat (first | (with_reducible exact HR607.out) | (with_reducible refine Kd.C_alloc ?_ _) | (with_reducible refine Kd.C_drewN ?_ _) | (with_reducible refine Kd.C_drew ?_) | exact HR607.out)) | (with_reducible refine Kd.C_alloc ?_ _) | (with_reducible refine Kd.C_drewN ?_ _) | (with_reducible refine Kd.C_drew ?_))) (fun _ _ h => h) (fun _ h => h.elim) (by exact fun k_ hk => Kd.fresh' (Kd.R_lt (Hof.Rw HO_3.out)) k_ hk) (by exact Hof.Lw HB.out) (by exact below_size (Hof.Lw HB.out)) (by have := LMc17.out; omega) ?_; intro v609 w24 ho hb hg hat; rw [← Ny608.out] at ho; have n0_ := Aside0.mk (Kd.R_after (ok := (fun _ => True)) (Hof.Rw HO_3.out) hg hat); have n1_ := Aside0.mk hb; have n2_ := Aside0.mk ((show Kd.C (Kd.int .i64) w24 A23 y604.length y604 from by rw [Ny604.out, KA23.out]; exact Kd.C_drop (m := (x5_2 : Int).toNat) (c := co5) ((Kd.R_reads' (Kd.R_after (ok := (fun _ => True)) (Hof.Rw HO_3.out) hg hat)).2.2) KL23.out ((Kd.R_reads' (Kd.R_after (ok := (fun _ => True)) (Hof.Rw HO_3.out) hg hat)).2.1))); have n3_ := Aside0.mk ho; clear HO_3; clear HB; clear HR607; clear HO603; have HO_3 := n0_; have HB := n1_; have HR607 := n2_; have HO610 := n3_; clear n0_ n1_ n2_ n3_; clear ho hb hg hat; have q25 : (x5_2 : Int) ≤ ((x3_1.length : Int) : Int) := Hof.D; obtain ⟨i025, hi025, _, hsz25, _⟩ := info_parts info3; have hcut25 := cut_to (P := Tryz.prog) 28 3 .i64 Tryz.underlying28 hi025 (some ad598) x3_1.length co5 x5_2 (Hof.D) q25 (Kd.R_reads' HO_3.out).2.1; have hr25 := Kd.R_take (m := (x5_2 : Int).toNat) HO_3.out (by omega); have hy25 : y611.length = (x5_2 : Int).toNat := (by rw [Ny611.out, List.length_take]; omega); rw [← Ny611.out] at hr25; rw [← hy25] at hr25 hcut25; clear hy25 hi025 hsz25 HO_3; have HO613 := Aside0.mk hr25; clear hr25; replace q25 := eq_true q25) | ((with_reducible refine gate_builtin (b := .append) (xs := #[.tmp 42, .tmp 44]) rfl ?_); at_builtin; refine Kd.R_append (Kd.int .i64) (w0 := w) w.heap.size rfl (.tmp 42) (.tmp 44) 28 3 (.int .i64 0) 8 rfl Tryz.underlying28 info3 rfl (by decide) (by omega) (.slice (some ad598) y611.length co5) y611 x4_1 [.int .i64 x4_1] (fun k_ => some k_ ≠ (v609 : Value).ownBlock) (fun _ => False) rfl rfl (by exact rfl) (fun _ hk => hk.elim) (by exact fun k_ hk => Kd.fresh' (Kd.R_lt (Hof.Rw HO610.out)) k_ hk) (by exact Hof.Rw (Kd.R_mono HO613.out (fun _ hk => hk.2))) (by exact Hof.Lw HB.out) (by exact below_size (Hof.Lw HB.out)) (by have := LMc19.out; omega) ?_; intro v615 w26 ho hb hg hat; rw [← Ny614.out] at ho; have n0_ := Aside0.mk (Kd.R_after (ok := (fun _ => True)) (Hof.Rw (Kd.R_mono HO610.out (fun _ hk => ⟨trivial, (by first | exact hk | (cases Ao28 <;> exact hk) | (cases Ao42 <;> exact hk) | (cases Ao5 <;> exact hk))⟩))) hg hat); have n1_ := Aside0.mk hb; have n2_ := Aside0.mk ho; clear HO610; clear HB; clear HO613; have HO610 := n0_; have HB := n1_; have HO616 := n2_; clear n0_ n1_ n2_; clear ho hb hg hat; obtain ⟨Ao28, co28, eo28⟩ := Kd.R_slice HO610.out; subst eo28) | ((with_reducible refine gate_builtin (b := .append) (xs := #[.tmp 45, .tmp 46]) rfl ?_); at_builtin; refine Kd.R_append_rows (Kd.int .i64) (w0 := w) w.heap.size rfl (.tmp 45) (.tmp 46) 28 3 (.int .i64 0) 8 rfl Tryz.underlying28 info3 rfl (by decide) (by omega) v615 y614 y608 _ _ _ (fun k_ => some k_ ≠ (.slice Ao28 y608.length co28 : Value).ownBlock) (fun _ => False) rfl rfl (by exact Hof.Rw HO616.out) (by repeat (first | exact (Kd.R_reads' HO610.out).2.2 | (with_reducible refine Kd.C_alloc ?_ _) | (with_reducible refine Kd.C_drewN ?_ _) | (with_reducible refine Kd.C_drew ?_))) (fun _ _ h => h) (fun _ h => h.elim) (by exact fun k_ hk => Kd.fresh' (Kd.R_lt (Hof.Rw HO610.out)) k_ hk) (by exact Hof.Lw HB.out) (by exact below_size (Hof.Lw HB.out)) (by have := LMc20.out; omega) ?_; intro v618 w27 ho hb hg hat; rw [← Ny617.out] at ho; have n0_ := Aside0.mk (Kd.R_after (ok := (fun _ => True)) (Hof.Rw HO610.out) hg hat); have n1_ := Aside0.mk hb; have n2_ := Aside0.mk ho; clear HO610; clear HB; clear HO616; have HO610 := n0_; have HB := n1_; have HO619 := n2_; clear n0_ n1_ n2_; clear ho hb hg hat))
                   repeat (go_quiet (first | (refine Hof.lt (Kd.int .i64) 3 35 ?_; intro v602 w21 ho22 hb hg_ hnew_; clear hg_ hnew_; (first | rw [← Ny601.out] at ho22 | (simp only [Int.reduceToNat] at ho22; rw [← Ny601.out] at ho22)); have HO603 := Aside0.mk (Kd.R_lower (Kd.R_new' ho22 (Kd.R_lt (Hof.Rw HO_3.out))) (below_size (Hof.Lw HB.out))); replace HO_3 := Aside0.mk (Kd.R_elder' (Hof.Rw HO_3.out) (Kd.R_base ho22) hb); replace HB := Hof.lb HB hb; clear hb ho22; have q23 : (x5_2 : Int) ≤ ((x3_1.length : Int) : Int) := Hof.D; obtain ⟨i023, hi023, _, hsz23, _⟩ := info_parts info3; have hroom23 : x3_1.length ≤ co5 := (Kd.R_reads' HO_3.out).2.1; have hC23 : Kd.C (Kd.int .i64) _ (some ad598) x3_1.length x3_1 := (Kd.R_reads' HO_3.out).2.2; have q023 : (0 : Int) ≤ (x5_2 : Int) := Hof.D; have hcut23 := cut_from (P := Tryz.prog) 28 3 .i64 Tryz.underlying28 hi023 1 hsz23 (some ad598) x3_1.length co5 x5_2 q023 q23; have hr23 := Kd.C_drop (m := (x5_2 : Int).toNat) (c := co5) hC23 (by omega) hroom23; obtain ⟨A23, hA23⟩ : ∃ A1, A1 = (if co5 = (x5_2 : Int).toNat then (some ad598) else ((some ad598) : Option Addr).map (·.add ((x5_2 : Int).toNat * 1))) := ⟨_, rfl⟩; obtain ⟨c23, hc23⟩ : ∃ c1, c1 = co5 - (x5_2 : Int).toNat := ⟨_, rfl⟩; have hy23 : y604.length = x3_1.length - (x5_2 : Int).toNat := (by rw [Ny604.out, List.length_drop] <;> omega); rw [show (x3_1).drop (x5_2 : Int).toNat = y604 from Ny604.out.symm] at hr23; replace hr23 : Kd.C (Kd.int .i64) _ A23 y604.length y604 := (by rw [hA23]; exact hr23); rw [← hy23, ← hA23, ← hc23] at hcut23; have HR607 := Aside0.mk hr23; have HC607 := Aside0.mk (show y604.length ≤ c23 from by rw [hy23, hc23]; exact Nat.sub_le_sub_right hroom23 _); clear hr23 hC23 hroom23 hi023 hsz23 hc23; have KY23 := Aside0.mk hy23; have KA23 := Aside0.mk hA23; clear hy23 hA23; have KL23 := Aside0.mk (show (x5_2 : Int).toNat ≤ x3_1.length from by omega); replace q23 := eq_true q23) | ((with_reducible refine gate_builtin (b := .append) (xs := #[.tmp 35, .tmp 38]) rfl ?_); at_builtin; refine Kd.R_append_rows (Kd.int .i64) (w0 := w) w.heap.size rfl (.tmp 35) (.tmp 38) 28 3 (.int .i64 0) 8 rfl Tryz.underlying28 info3 rfl (by decide) (by omega) v602 y601 y604 _ _ _ (fun k_ => some k_ ≠ (.slice (some ad598) x3_1.length co5 : Value).ownBlock) (fun _ => False) rfl rfl (by exact Hof.Rw (Kd.R_mono HO603.out (fun _ hk => hk.2))) (by repeat (first | exact (by repeat (first | (with_reducible exact HR607.out) | (with_reducible refine Kd.C_alloc ?_ _) | (with_reducible refine Kd.C_drewN ?_ _) | (with_reducible refine Kd.C_drew ?_) | exact HR607.out)) | (with_reducible refine Kd.C_alloc ?_ _) | (with_reducible refine Kd.C_drewN ?_ _) | (with_reducible refine Kd.C_drew ?_))) (fun _ _ h => h) (fun _ h => h.elim) (by exact fun k_ hk => Kd.fresh' (Kd.R_lt (Hof.Rw HO_3.out)) k_ hk) (by exact Hof.Lw HB.out) (by exact below_size (Hof.Lw HB.out)) (by have := LMc17.out; omega) ?_; intro v609 w24 ho hb hg hat; rw [← Ny608.out] at ho; have n0_ := Aside0.mk (Kd.R_after (ok := (fun _ => True)) (Hof.Rw HO_3.out) hg hat); have n1_ := Aside0.mk hb; have n2_ := Aside0.mk ((show Kd.C (Kd.int .i64) w24 A23 y604.length y604 from by rw [Ny604.out, KA23.out]; exact Kd.C_drop (m := (x5_2 : Int).toNat) (c := co5) ((Kd.R_reads' (Kd.R_after (ok := (fun _ => True)) (Hof.Rw HO_3.out) hg hat)).2.2) KL23.out ((Kd.R_reads' (Kd.R_after (ok := (fun _ => True)) (Hof.Rw HO_3.out) hg hat)).2.1))); have n3_ := Aside0.mk ho; clear HO_3; clear HB; clear HR607; clear HO603; have HO_3 := n0_; have HB := n1_; have HR607 := n2_; have HO610 := n3_; clear n0_ n1_ n2_ n3_; clear ho hb hg hat; have q25 : (x5_2 : Int) ≤ ((x3_1.length : Int) : Int) := Hof.D; obtain ⟨i025, hi025, _, hsz25, _⟩ := info_parts info3; have hcut25 := cut_to (P := Tryz.prog) 28 3 .i64 Tryz.underlying28 hi025 (some ad598) x3_1.length co5 x5_2 (Hof.D) q25 (Kd.R_reads' HO_3.out).2.1; have hr25 := Kd.R_take (m := (x5_2 : Int).toNat) HO_3.out (by omega); have hy25 : y611.length = (x5_2 : Int).toNat := (by rw [Ny611.out, List.length_take]; omega); rw [← Ny611.out] at hr25; rw [← hy25] at hr25 hcut25; clear hy25 hi025 hsz25 HO_3; have HO613 := Aside0.mk hr25; clear hr25; replace q25 := eq_true q25) | ((with_reducible refine gate_builtin (b := .append) (xs := #[.tmp 42, .tmp 44]) rfl ?_); at_builtin; refine Kd.R_append (Kd.int .i64) (w0 := w) w.heap.size rfl (.tmp 42) (.tmp 44) 28 3 (.int .i64 0) 8 rfl Tryz.underlying28 info3 rfl (by decide) (by omega) (.slice (some ad598) y611.length co5) y611 x4_1 [.int .i64 x4_1] (fun k_ => some k_ ≠ (v609 : Value).ownBlock) (fun _ => False) rfl rfl (by exact rfl) (fun _ hk => hk.elim) (by exact fun k_ hk => Kd.fresh' (Kd.R_lt (Hof.Rw HO610.out)) k_ hk) (by exact Hof.Rw (Kd.R_mono HO613.out (fun _ hk => hk.2))) (by exact Hof.Lw HB.out) (by exact below_size (Hof.Lw HB.out)) (by have := LMc19.out; omega) ?_; intro v615 w26 ho hb hg hat; rw [← Ny614.out] at ho; have n0_ := Aside0.mk (Kd.R_after (ok := (fun _ => True)) (Hof.Rw (Kd.R_mono HO610.out (fun _ hk => ⟨trivial, (by first | exact hk | (cases Ao28 <;> exact hk) | (cases Ao42 <;> exact hk) | (cases Ao5 <;> exact hk))⟩))) hg hat); have n1_ := Aside0.mk hb; have n2_ := Aside0.mk ho; clear HO610; clear HB; clear HO613; have HO610 := n0_; have HB := n1_; have HO616 := n2_; clear n0_ n1_ n2_; clear ho hb hg hat; obtain ⟨Ao28, co28, eo28⟩ := Kd.R_slice HO610.out; subst eo28) | ((with_reducible refine gate_builtin (b := .append) (xs := #[.tmp 45, .tmp 46]) rfl ?_); at_builtin; refine Kd.R_append_rows (Kd.int .i64) (w0 := w) w.heap.size rfl (.tmp 45) (.tmp 46) 28 3 (.int .i64 0) 8 rfl Tryz.underlying28 info3 rfl (by decide) (by omega) v615 y614 y608 _ _ _ (fun k_ => some k_ ≠ (.slice Ao28 y608.length co28 : Value).ownBlock) (fun _ => False) rfl rfl (by exact Hof.Rw HO616.out) (by repeat (first | exact (Kd.R_reads' HO610.out).2.2 | (with_reducible refine Kd.C_alloc ?_ _) | (with_reducible refine Kd.C_drewN ?_ _) | (with_reducible refine Kd.C_drew ?_))) (fun _ _ h => h) (fun _ h => h.elim) (by exact fun k_ hk => Kd.fresh' (Kd.R_lt (Hof.Rw HO610.out)) k_ hk) (by exact Hof.Lw HB.out) (by exact below_size (Hof.Lw HB.out)) (by have := LMc20.out; omega) ?_; intro v618 w27 ho hb hg hat; rw [← Ny617.out] at ho; have n0_ := Aside0.mk (Kd.R_after (ok := (fun _ => True)) (Hof.Rw HO610.out) hg hat); have n1_ := Aside0.mk hb; have n2_ := Aside0.mk ho; clear HO610; clear HB; clear HO616; have HO610 := n0_; have HB := n1_; have HO619 := n2_; clear n0_ n1_ n2_; clear ho hb hg hat)); try go_wp2_with (first | (refine Hof.lt (Kd.int .i64) 3 35 ?_; intro v602 w21 ho22 hb hg_ hnew_; clear hg_ hnew_; (first | rw [← Ny601.out] at ho22 | (simp only [Int.reduceToNat] at ho22; rw [← Ny601.out] at ho22)); have HO603 := Aside0.mk (Kd.R_lower (Kd.R_new' ho22 (Kd.R_lt (Hof.Rw HO_3.out))) (below_size (Hof.Lw HB.out))); replace HO_3 := Aside0.mk (Kd.R_elder' (Hof.Rw HO_3.out) (Kd.R_base ho22) hb); replace HB := Hof.lb HB hb; clear hb ho22; have q23 : (x5_2 : Int) ≤ ((x3_1.length : Int) : Int) := Hof.D; obtain ⟨i023, hi023, _, hsz23, _⟩ := info_parts info3; have hroom23 : x3_1.length ≤ co5 := (Kd.R_reads' HO_3.out).2.1; have hC23 : Kd.C (Kd.int .i64) _ (some ad598) x3_1.length x3_1 := (Kd.R_reads' HO_3.out).2.2; have q023 : (0 : Int) ≤ (x5_2 : Int) := Hof.D; have hcut23 := cut_from (P := Tryz.prog) 28 3 .i64 Tryz.underlying28 hi023 1 hsz23 (some ad598) x3_1.length co5 x5_2 q023 q23; have hr23 := Kd.C_drop (m := (x5_2 : Int).toNat) (c := co5) hC23 (by omega) hroom23; obtain ⟨A23, hA23⟩ : ∃ A1, A1 = (if co5 = (x5_2 : Int).toNat then (some ad598) else ((some ad598) : Option Addr).map (·.add ((x5_2 : Int).toNat * 1))) := ⟨_, rfl⟩; obtain ⟨c23, hc23⟩ : ∃ c1, c1 = co5 - (x5_2 : Int).toNat := ⟨_, rfl⟩; have hy23 : y604.length = x3_1.length - (x5_2 : Int).toNat := (by rw [Ny604.out, List.length_drop] <;> omega); rw [show (x3_1).drop (x5_2 : Int).toNat = y604 from Ny604.out.symm] at hr23; replace hr23 : Kd.C (Kd.int .i64) _ A23 y604.length y604 := (by rw [hA23]; exact hr23); rw [← hy23, ← hA23, ← hc23] at hcut23; have HR607 := Aside0.mk hr23; have HC607 := Aside0.mk (show y604.length ≤ c23 from by rw [hy23, hc23]; exact Nat.sub_le_sub_right hroom23 _); clear hr23 hC23 hroom23 hi023 hsz23 hc23; have KY23 := Aside0.mk hy23; have KA23 := Aside0.mk hA23; clear hy23 hA23; have KL23 := Aside0.mk (show (x5_2 : Int).toNat ≤ x3_1.length from by omega); replace q23 := eq_true q23) | ((with_reducible refine gate_builtin (b := .append) (xs := #[.tmp 35, .tmp 38]) rfl ?_); at_builtin; refine Kd.R_append_rows (Kd.int .i64) (w0 := w) w.heap.size rfl (.tmp 35) (.tmp 38) 28 3 (.int .i64 0) 8 rfl Tryz.underlying28 info3 rfl (by decide) (by omega) v602 y601 y604 _ _ _ (fun k_ => some k_ ≠ (.slice (some ad598) x3_1.length co5 : Value).ownBlock) (fun _ => False) rfl rfl (by exact Hof.Rw (Kd.R_mono HO603.out (fun _ hk => hk.2))) (by repeat (first | exact (by repeat (first | (with_reducible exact HR607.out) | (with_reducible refine Kd.C_alloc ?_ _) | (with_reducible refine Kd.C_drewN ?_ _) | (with_reducible refine Kd.C_drew ?_) | exact HR607.out)) | (with_reducible refine Kd.C_alloc ?_ _) | (with_reducible refine Kd.C_drewN ?_ _) | (with_reducible refine Kd.C_drew ?_))) (fun _ _ h => h) (fun _ h => h.elim) (by exact fun k_ hk => Kd.fresh' (Kd.R_lt (Hof.Rw HO_3.out)) k_ hk) (by exact Hof.Lw HB.out) (by exact below_size (Hof.Lw HB.out)) (by have := LMc17.out; omega) ?_; intro v609 w24 ho hb hg hat; rw [← Ny608.out] at ho; have n0_ := Aside0.mk (Kd.R_after (ok := (fun _ => True)) (Hof.Rw HO_3.out) hg hat); have n1_ := Aside0.mk hb; have n2_ := Aside0.mk ((show Kd.C (Kd.int .i64) w24 A23 y604.length y604 from by rw [Ny604.out, KA23.out]; exact Kd.C_drop (m := (x5_2 : Int).toNat) (c := co5) ((Kd.R_reads' (Kd.R_after (ok := (fun _ => True)) (Hof.Rw HO_3.out) hg hat)).2.2) KL23.out ((Kd.R_reads' (Kd.R_after (ok := (fun _ => True)) (Hof.Rw HO_3.out) hg hat)).2.1))); have n3_ := Aside0.mk ho; clear HO_3; clear HB; clear HR607; clear HO603; have HO_3 := n0_; have HB := n1_; have HR607 := n2_; have HO610 := n3_; clear n0_ n1_ n2_ n3_; clear ho hb hg hat; have q25 : (x5_2 : Int) ≤ ((x3_1.length : Int) : Int) := Hof.D; obtain ⟨i025, hi025, _, hsz25, _⟩ := info_parts info3; have hcut25 := cut_to (P := Tryz.prog) 28 3 .i64 Tryz.underlying28 hi025 (some ad598) x3_1.length co5 x5_2 (Hof.D) q25 (Kd.R_reads' HO_3.out).2.1; have hr25 := Kd.R_take (m := (x5_2 : Int).toNat) HO_3.out (by omega); have hy25 : y611.length = (x5_2 : Int).toNat := (by rw [Ny611.out, List.length_take]; omega); rw [← Ny611.out] at hr25; rw [← hy25] at hr25 hcut25; clear hy25 hi025 hsz25 HO_3; have HO613 := Aside0.mk hr25; clear hr25; replace q25 := eq_true q25) | ((with_reducible refine gate_builtin (b := .append) (xs := #[.tmp 42, .tmp 44]) rfl ?_); at_builtin; refine Kd.R_append (Kd.int .i64) (w0 := w) w.heap.size rfl (.tmp 42) (.tmp 44) 28 3 (.int .i64 0) 8 rfl Tryz.underlying28 info3 rfl (by decide) (by omega) (.slice (some ad598) y611.length co5) y611 x4_1 [.int .i64 x4_1] (fun k_ => some k_ ≠ (v609 : Value).ownBlock) (fun _ => False) rfl rfl (by exact rfl) (fun _ hk => hk.elim) (by exact fun k_ hk => Kd.fresh' (Kd.R_lt (Hof.Rw HO610.out)) k_ hk) (by exact Hof.Rw (Kd.R_mono HO613.out (fun _ hk => hk.2))) (by exact Hof.Lw HB.out) (by exact below_size (Hof.Lw HB.out)) (by have := LMc19.out; omega) ?_; intro v615 w26 ho hb hg hat; rw [← Ny614.out] at ho; have n0_ := Aside0.mk (Kd.R_after (ok := (fun _ => True)) (Hof.Rw (Kd.R_mono HO610.out (fun _ hk => ⟨trivial, (by first | exact hk | (cases Ao28 <;> exact hk) | (cases Ao42 <;> exact hk) | (cases Ao5 <;> exact hk))⟩))) hg hat); have n1_ := Aside0.mk hb; have n2_ := Aside0.mk ho; clear HO610; clear HB; clear HO613; have HO610 := n0_; have HB := n1_; have HO616 := n2_; clear n0_ n1_ n2_; clear ho hb hg hat; obtain ⟨Ao28, co28, eo28⟩ := Kd.R_slice HO610.out; subst eo28) | ((with_reducible refine gate_builtin (b := .append) (xs := #[.tmp 45, .tmp 46]) rfl ?_); at_builtin; refine Kd.R_append_rows (Kd.int .i64) (w0 := w) w.heap.size rfl (.tmp 45) (.tmp 46) 28 3 (.int .i64 0) 8 rfl Tryz.underlying28 info3 rfl (by decide) (by omega) v615 y614 y608 _ _ _ (fun k_ => some k_ ≠ (.slice Ao28 y608.length co28 : Value).ownBlock) (fun _ => False) rfl rfl (by exact Hof.Rw HO616.out) (by repeat (first | exact (Kd.R_reads' HO610.out).2.2 | (with_reducible refine Kd.C_alloc ?_ _) | (with_reducible refine Kd.C_drewN ?_ _) | (with_reducible refine Kd.C_drew ?_))) (fun _ _ h => h) (fun _ h => h.elim) (by exact fun k_ hk => Kd.fresh' (Kd.R_lt (Hof.Rw HO610.out)) k_ hk) (by exact Hof.Lw HB.out) (by exact below_size (Hof.Lw HB.out)) (by have := LMc20.out; omega) ?_; intro v618 w27 ho hb hg hat; rw [← Ny617.out] at ho; have n0_ := Aside0.mk (Kd.R_after (ok := (fun _ => True)) (Hof.Rw HO610.out) hg hat); have n1_ := Aside0.mk hb; have n2_ := Aside0.mk ho; clear HO610; clear HB; clear HO616; have HO610 := n0_; have HB := n1_; have HO619 := n2_; clear n0_ n1_ n2_; clear ho hb hg hat)))
                   go_roundg k2
                   case measure => have := HK1.out; have := HK2.out; omega
                   case rel => exact ⟨(y617), (wrap64 (x4_1 + 1)), Hof.F, H', ⟨by have := HK1.out; have := HK2.out; omega⟩, ⟨Hof.Rw (Kd.R_mono HO619.out (fun _ hk => trivial))⟩, ⟨Hof.Lw HB.out⟩⟩
                  ·rw [if_neg c20] at H
                   exact absurd H (by simp)
                 ·rw [if_neg c19] at H
                  exact absurd H (by simp)
                ·rw [if_neg c17] at H
                 exact absurd H (by simp)
               ·rw [if_neg c16] at H
                exact absurd H (by simp)
              ·rw [if_neg c15] at H
               exact absurd H (by simp)
            ·rw [if_neg c13] at H
             exact absurd H (by simp)
           ·rw [if_neg c12] at H
            exact absurd H (by simp)
          ·rw [if_neg c11] at H
           exact absurd H (by simp)
         ·rw [if_neg c10] at H
          exact absurd H (by simp)
        ·rw [if_neg c9] at H
         exact absurd H (by simp)
       ·rw [if_neg c8] at H
        exact absurd H (by simp)
      ·rw [if_neg c6] at H
       have c6b0 : decide (0 < x5_2) = false := decide_eq_false c6
       clear c6
       obtain ⟨y620, hy620⟩ : ∃ y_ : List Int, y_ = (([] : List Int)) := ⟨_, rfl⟩
       replace H : (if 0 ≤ x5_2 then (if x5_2 ≤ (x3_1.length : Int) then ((some (x3_1.drop (x5_2 : Int).toNat : List Int)).bind fun y623 => (if y620.length + y623.length < 17592186044416 then ((some (y620 ++ y623 : List Int)).bind fun y627 => ((some (x3_1.take (x5_2 : Int).toNat : List Int)).bind fun y630 => (if y630.length < 17592186044416 then ((some (y630 ++ [x4_1] : List Int)).bind fun y633 => (if y633.length + y627.length < 17592186044416 then (spec_l19Order.l0 k2 l0 (y633 ++ y627) (wrap64 (x4_1 + 1))) else (none))) else (none)))) else (none))) else (none)) else (none)) = some r := by (try rw [hy620]); exact Hof.Z
       have Ny620 := Aside0.mk hy620
       clear hy620
       by_cases c29 : 0 ≤ x5_2
       ·rw [if_pos c29] at H
        have c29b0 := eq_true c29
        have c29b1 : decide (0 ≤ x5_2) = true := decide_eq_true c29
        clear c29
        by_cases c30 : x5_2 ≤ (x3_1.length : Int)
        ·rw [if_pos c30] at H
         have c30b0 := eq_true c30
         have c30b1 : decide (x5_2 ≤ (x3_1.length : Int)) = true := decide_eq_true c30
         clear c30
         obtain ⟨y623, hy623⟩ : ∃ y_ : List Int, y_ = (x3_1.drop (x5_2 : Int).toNat) := ⟨_, rfl⟩
         replace H : (if y620.length + y623.length < 17592186044416 then ((some (y620 ++ y623 : List Int)).bind fun y627 => ((some (x3_1.take (x5_2 : Int).toNat : List Int)).bind fun y630 => (if y630.length < 17592186044416 then ((some (y630 ++ [x4_1] : List Int)).bind fun y633 => (if y633.length + y627.length < 17592186044416 then (spec_l19Order.l0 k2 l0 (y633 ++ y627) (wrap64 (x4_1 + 1))) else (none))) else (none)))) else (none)) = some r := by (try rw [hy623]); exact Hof.Z
         have Ny623 := Aside0.mk hy623
         clear hy623
         by_cases c31 : y620.length + y623.length < 17592186044416
         ·rw [if_pos c31] at H
          have LMc31 := Aside0.mk c31
          clear c31
          obtain ⟨y627, hy627⟩ : ∃ y_ : List Int, y_ = (y620 ++ y623) := ⟨_, rfl⟩
          replace H : ((some (x3_1.take (x5_2 : Int).toNat : List Int)).bind fun y630 => (if y630.length < 17592186044416 then ((some (y630 ++ [x4_1] : List Int)).bind fun y633 => (if y633.length + y627.length < 17592186044416 then (spec_l19Order.l0 k2 l0 (y633 ++ y627) (wrap64 (x4_1 + 1))) else (none))) else (none))) = some r := by (try rw [hy627]); exact Hof.Z
          have Ny627 := Aside0.mk hy627
          clear hy627
          have c32b0 := eq_true (Hof.D : x5_2 ≤ (x3_1.length : Int))
          obtain ⟨y630, hy630⟩ : ∃ y_ : List Int, y_ = (x3_1.take (x5_2 : Int).toNat) := ⟨_, rfl⟩
          replace H : (if y630.length < 17592186044416 then ((some (y630 ++ [x4_1] : List Int)).bind fun y633 => (if y633.length + y627.length < 17592186044416 then (spec_l19Order.l0 k2 l0 (y633 ++ y627) (wrap64 (x4_1 + 1))) else (none))) else (none)) = some r := by (try rw [hy630]); exact Hof.Z
          have Ny630 := Aside0.mk hy630
          clear hy630
          by_cases c33 : y630.length < 17592186044416
          ·rw [if_pos c33] at H
           have LMc33 := Aside0.mk c33
           clear c33
           obtain ⟨y633, hy633⟩ : ∃ y_ : List Int, y_ = (y630 ++ [x4_1]) := ⟨_, rfl⟩
           replace H : (if y633.length + y627.length < 17592186044416 then (spec_l19Order.l0 k2 l0 (y633 ++ y627) (wrap64 (x4_1 + 1))) else (none)) = some r := by (try rw [hy633]); exact Hof.Z
           have Ny633 := Aside0.mk hy633
           clear hy633
           by_cases c34 : y633.length + y627.length < 17592186044416
           ·rw [if_pos c34] at H
            have LMc34 := Aside0.mk c34
            clear c34
            obtain ⟨y636, hy636⟩ : ∃ y_ : List Int, y_ = (y633 ++ y627) := ⟨_, rfl⟩
            replace H : (spec_l19Order.l0 k2 l0 y636 (wrap64 (x4_1 + 1))) = some r := by (try rw [hy636]); exact Hof.Z
            have Ny636 := Aside0.mk hy636
            clear hy636
            have H' := Aside0.mk H
            clear H
            go_wp2_with (first | (refine Hof.lt (Kd.int .i64) 3 35 ?_; intro v621 w35 ho36 hb hg_ hnew_; clear hg_ hnew_; (first | rw [← Ny620.out] at ho36 | (simp only [Int.reduceToNat] at ho36; rw [← Ny620.out] at ho36)); have HO622 := Aside0.mk (Kd.R_lower (Kd.R_new' ho36 (Kd.R_lt (Hof.Rw HO_3.out))) (below_size (Hof.Lw HB.out))); replace HO_3 := Aside0.mk (Kd.R_elder' (Hof.Rw HO_3.out) (Kd.R_base ho36) hb); replace HB := Hof.lb HB hb; clear hb ho36; have q37 : (x5_2 : Int) ≤ ((x3_1.length : Int) : Int) := Hof.D; obtain ⟨i037, hi037, _, hsz37, _⟩ := info_parts info3; have hroom37 : x3_1.length ≤ co5 := (Kd.R_reads' HO_3.out).2.1; have hC37 : Kd.C (Kd.int .i64) _ Ao5 x3_1.length x3_1 := (Kd.R_reads' HO_3.out).2.2; have q037 : (0 : Int) ≤ (x5_2 : Int) := Hof.D; have hcut37 := cut_from (P := Tryz.prog) 28 3 .i64 Tryz.underlying28 hi037 1 hsz37 Ao5 x3_1.length co5 x5_2 q037 q37; have hr37 := Kd.C_drop (m := (x5_2 : Int).toNat) (c := co5) hC37 (by omega) hroom37; obtain ⟨A37, hA37⟩ : ∃ A1, A1 = (if co5 = (x5_2 : Int).toNat then Ao5 else (Ao5 : Option Addr).map (·.add ((x5_2 : Int).toNat * 1))) := ⟨_, rfl⟩; obtain ⟨c37, hc37⟩ : ∃ c1, c1 = co5 - (x5_2 : Int).toNat := ⟨_, rfl⟩; have hy37 : y623.length = x3_1.length - (x5_2 : Int).toNat := (by rw [Ny623.out, List.length_drop] <;> omega); rw [show (x3_1).drop (x5_2 : Int).toNat = y623 from Ny623.out.symm] at hr37; replace hr37 : Kd.C (Kd.int .i64) _ A37 y623.length y623 := (by rw [hA37]; exact hr37); rw [← hy37, ← hA37, ← hc37] at hcut37; have HR626 := Aside0.mk hr37; have HC626 := Aside0.mk (show y623.length ≤ c37 from by rw [hy37, hc37]; exact Nat.sub_le_sub_right hroom37 _); clear hr37 hC37 hroom37 hi037 hsz37 hc37; have KY37 := Aside0.mk hy37; have KA37 := Aside0.mk hA37; clear hy37 hA37; have KL37 := Aside0.mk (show (x5_2 : Int).toNat ≤ x3_1.length from by omega); replace q37 := eq_true q37) | ((with_reducible refine gate_builtin (b := .append) (xs := #[.tmp 35, .tmp 38]) rfl ?_); at_builtin; refine Kd.R_append_rows (Kd.int .i64) (w0 := w) w.heap.size rfl (.tmp 35) (.tmp 38) 28 3 (.int .i64 0) 8 rfl Tryz.underlying28 info3 rfl (by decide) (by omega) v621 y620 y623 _ _ _ (fun k_ => some k_ ≠ (.slice Ao5 x3_1.length co5 : Value).ownBlock) (fun _ => False) rfl rfl (by exact Hof.Rw (Kd.R_mono HO622.out (fun _ hk => hk.2))) (by repeat (first | exact (by repeat (first | (with_reducible exact HR626.out) | (with_reducible refine Kd.C_alloc ?_ _) | (with_reducible refine Kd.C_drewN ?_ _) | (with_reducible refine Kd.C_drew ?_) | exact HR626.out)) | (with_reducible refine Kd.C_alloc ?_ _) | (with_reducible refine Kd.C_drewN ?_ _) | (with_reducible refine Kd.C_drew ?_))) (fun _ _ h => h) (fun _ h => h.elim) (by exact fun k_ hk => Kd.fresh' (Kd.R_lt (Hof.Rw HO_3.out)) k_ hk) (by exact Hof.Lw HB.out) (by exact below_size (Hof.Lw HB.out)) (by have := LMc31.out; omega) ?_; intro v628 w38 ho hb hg hat; rw [← Ny627.out] at ho; have n0_ := Aside0.mk (Kd.R_after (ok := (fun _ => True)) (Hof.Rw HO_3.out) hg hat); have n1_ := Aside0.mk hb; have n2_ := Aside0.mk ((show Kd.C (Kd.int .i64) w38 A37 y623.length y623 from by rw [Ny623.out, KA37.out]; exact Kd.C_drop (m := (x5_2 : Int).toNat) (c := co5) ((Kd.R_reads' (Kd.R_after (ok := (fun _ => True)) (Hof.Rw HO_3.out) hg hat)).2.2) KL37.out ((Kd.R_reads' (Kd.R_after (ok := (fun _ => True)) (Hof.Rw HO_3.out) hg hat)).2.1))); have n3_ := Aside0.mk ho; clear HO_3; clear HB; clear HR626; clear HO622; have HO_3 := n0_; have HB := n1_; have HR626 := n2_; have HO629 := n3_; clear n0_ n1_ n2_ n3_; clear ho hb hg hat; have q39 : (x5_2 : Int) ≤ ((x3_1.length : Int) : Int) := Hof.D; obtain ⟨i039, hi039, _, hsz39, _⟩ := info_parts info3; have hcut39 := cut_to (P := Tryz.prog) 28 3 .i64 Tryz.underlying28 hi039 Ao5 x3_1.length co5 x5_2 (Hof.D) q39 (Kd.R_reads' HO_3.out).2.1; have hr39 := Kd.R_take (m := (x5_2 : Int).toNat) HO_3.out (by omega); have hy39 : y630.length = (x5_2 : Int).toNat := (by rw [Ny630.out, List.length_take]; omega); rw [← Ny630.out] at hr39; rw [← hy39] at hr39 hcut39; clear hy39 hi039 hsz39 HO_3; have HO632 := Aside0.mk hr39; clear hr39; replace q39 := eq_true q39) | ((with_reducible refine gate_builtin (b := .append) (xs := #[.tmp 42, .tmp 44]) rfl ?_); at_builtin; refine Kd.R_append (Kd.int .i64) (w0 := w) w.heap.size rfl (.tmp 42) (.tmp 44) 28 3 (.int .i64 0) 8 rfl Tryz.underlying28 info3 rfl (by decide) (by omega) (.slice Ao5 y630.length co5) y630 x4_1 [.int .i64 x4_1] (fun k_ => some k_ ≠ (v628 : Value).ownBlock) (fun _ => False) rfl rfl (by exact rfl) (fun _ hk => hk.elim) (by exact fun k_ hk => Kd.fresh' (Kd.R_lt (Hof.Rw HO629.out)) k_ hk) (by exact Hof.Rw (Kd.R_mono HO632.out (fun _ hk => hk.2))) (by exact Hof.Lw HB.out) (by exact below_size (Hof.Lw HB.out)) (by have := LMc33.out; omega) ?_; intro v634 w40 ho hb hg hat; rw [← Ny633.out] at ho; have n0_ := Aside0.mk (Kd.R_after (ok := (fun _ => True)) (Hof.Rw (Kd.R_mono HO629.out (fun _ hk => ⟨trivial, (by first | exact hk | (cases Ao28 <;> exact hk) | (cases Ao42 <;> exact hk) | (cases Ao5 <;> exact hk))⟩))) hg hat); have n1_ := Aside0.mk hb; have n2_ := Aside0.mk ho; clear HO629; clear HB; clear HO632; have HO629 := n0_; have HB := n1_; have HO635 := n2_; clear n0_ n1_ n2_; clear ho hb hg hat; obtain ⟨Ao42, co42, eo42⟩ := Kd.R_slice HO629.out; subst eo42) | ((with_reducible refine gate_builtin (b := .append) (xs := #[.tmp 45, .tmp 46]) rfl ?_); at_builtin; refine Kd.R_append_rows (Kd.int .i64) (w0 := w) w.heap.size rfl (.tmp 45) (.tmp 46) 28 3 (.int .i64 0) 8 rfl Tryz.underlying28 info3 rfl (by decide) (by omega) v634 y633 y627 _ _ _ (fun k_ => some k_ ≠ (.slice Ao42 y627.length co42 : Value).ownBlock) (fun _ => False) rfl rfl (by exact Hof.Rw HO635.out) (by repeat (first | exact (Kd.R_reads' HO629.out).2.2 | (with_reducible refine Kd.C_alloc ?_ _) | (with_reducible refine Kd.C_drewN ?_ _) | (with_reducible refine Kd.C_drew ?_))) (fun _ _ h => h) (fun _ h => h.elim) (by exact fun k_ hk => Kd.fresh' (Kd.R_lt (Hof.Rw HO629.out)) k_ hk) (by exact Hof.Lw HB.out) (by exact below_size (Hof.Lw HB.out)) (by have := LMc34.out; omega) ?_; intro v637 w41 ho hb hg hat; rw [← Ny636.out] at ho; have n0_ := Aside0.mk (Kd.R_after (ok := (fun _ => True)) (Hof.Rw HO629.out) hg hat); have n1_ := Aside0.mk hb; have n2_ := Aside0.mk ho; clear HO629; clear HB; clear HO635; have HO629 := n0_; have HB := n1_; have HO638 := n2_; clear n0_ n1_ n2_; clear ho hb hg hat))
            repeat (go_quiet (first | (refine Hof.lt (Kd.int .i64) 3 35 ?_; intro v621 w35 ho36 hb hg_ hnew_; clear hg_ hnew_; (first | rw [← Ny620.out] at ho36 | (simp only [Int.reduceToNat] at ho36; rw [← Ny620.out] at ho36)); have HO622 := Aside0.mk (Kd.R_lower (Kd.R_new' ho36 (Kd.R_lt (Hof.Rw HO_3.out))) (below_size (Hof.Lw HB.out))); replace HO_3 := Aside0.mk (Kd.R_elder' (Hof.Rw HO_3.out) (Kd.R_base ho36) hb); replace HB := Hof.lb HB hb; clear hb ho36; have q37 : (x5_2 : Int) ≤ ((x3_1.length : Int) : Int) := Hof.D; obtain ⟨i037, hi037, _, hsz37, _⟩ := info_parts info3; have hroom37 : x3_1.length ≤ co5 := (Kd.R_reads' HO_3.out).2.1; have hC37 : Kd.C (Kd.int .i64) _ Ao5 x3_1.length x3_1 := (Kd.R_reads' HO_3.out).2.2; have q037 : (0 : Int) ≤ (x5_2 : Int) := Hof.D; have hcut37 := cut_from (P := Tryz.prog) 28 3 .i64 Tryz.underlying28 hi037 1 hsz37 Ao5 x3_1.length co5 x5_2 q037 q37; have hr37 := Kd.C_drop (m := (x5_2 : Int).toNat) (c := co5) hC37 (by omega) hroom37; obtain ⟨A37, hA37⟩ : ∃ A1, A1 = (if co5 = (x5_2 : Int).toNat then Ao5 else (Ao5 : Option Addr).map (·.add ((x5_2 : Int).toNat * 1))) := ⟨_, rfl⟩; obtain ⟨c37, hc37⟩ : ∃ c1, c1 = co5 - (x5_2 : Int).toNat := ⟨_, rfl⟩; have hy37 : y623.length = x3_1.length - (x5_2 : Int).toNat := (by rw [Ny623.out, List.length_drop] <;> omega); rw [show (x3_1).drop (x5_2 : Int).toNat = y623 from Ny623.out.symm] at hr37; replace hr37 : Kd.C (Kd.int .i64) _ A37 y623.length y623 := (by rw [hA37]; exact hr37); rw [← hy37, ← hA37, ← hc37] at hcut37; have HR626 := Aside0.mk hr37; have HC626 := Aside0.mk (show y623.length ≤ c37 from by rw [hy37, hc37]; exact Nat.sub_le_sub_right hroom37 _); clear hr37 hC37 hroom37 hi037 hsz37 hc37; have KY37 := Aside0.mk hy37; have KA37 := Aside0.mk hA37; clear hy37 hA37; have KL37 := Aside0.mk (show (x5_2 : Int).toNat ≤ x3_1.length from by omega); replace q37 := eq_true q37) | ((with_reducible refine gate_builtin (b := .append) (xs := #[.tmp 35, .tmp 38]) rfl ?_); at_builtin; refine Kd.R_append_rows (Kd.int .i64) (w0 := w) w.heap.size rfl (.tmp 35) (.tmp 38) 28 3 (.int .i64 0) 8 rfl Tryz.underlying28 info3 rfl (by decide) (by omega) v621 y620 y623 _ _ _ (fun k_ => some k_ ≠ (.slice Ao5 x3_1.length co5 : Value).ownBlock) (fun _ => False) rfl rfl (by exact Hof.Rw (Kd.R_mono HO622.out (fun _ hk => hk.2))) (by repeat (first | exact (by repeat (first | (with_reducible exact HR626.out) | (with_reducible refine Kd.C_alloc ?_ _) | (with_reducible refine Kd.C_drewN ?_ _) | (with_reducible refine Kd.C_drew ?_) | exact HR626.out)) | (with_reducible refine Kd.C_alloc ?_ _) | (with_reducible refine Kd.C_drewN ?_ _) | (with_reducible refine Kd.C_drew ?_))) (fun _ _ h => h) (fun _ h => h.elim) (by exact fun k_ hk => Kd.fresh' (Kd.R_lt (Hof.Rw HO_3.out)) k_ hk) (by exact Hof.Lw HB.out) (by exact below_size (Hof.Lw HB.out)) (by have := LMc31.out; omega) ?_; intro v628 w38 ho hb hg hat; rw [← Ny627.out] at ho; have n0_ := Aside0.mk (Kd.R_after (ok := (fun _ => True)) (Hof.Rw HO_3.out) hg hat); have n1_ := Aside0.mk hb; have n2_ := Aside0.mk ((show Kd.C (Kd.int .i64) w38 A37 y623.length y623 from by rw [Ny623.out, KA37.out]; exact Kd.C_drop (m := (x5_2 : Int).toNat) (c := co5) ((Kd.R_reads' (Kd.R_after (ok := (fun _ => True)) (Hof.Rw HO_3.out) hg hat)).2.2) KL37.out ((Kd.R_reads' (Kd.R_after (ok := (fun _ => True)) (Hof.Rw HO_3.out) hg hat)).2.1))); have n3_ := Aside0.mk ho; clear HO_3; clear HB; clear HR626; clear HO622; have HO_3 := n0_; have HB := n1_; have HR626 := n2_; have HO629 := n3_; clear n0_ n1_ n2_ n3_; clear ho hb hg hat; have q39 : (x5_2 : Int) ≤ ((x3_1.length : Int) : Int) := Hof.D; obtain ⟨i039, hi039, _, hsz39, _⟩ := info_parts info3; have hcut39 := cut_to (P := Tryz.prog) 28 3 .i64 Tryz.underlying28 hi039 Ao5 x3_1.length co5 x5_2 (Hof.D) q39 (Kd.R_reads' HO_3.out).2.1; have hr39 := Kd.R_take (m := (x5_2 : Int).toNat) HO_3.out (by omega); have hy39 : y630.length = (x5_2 : Int).toNat := (by rw [Ny630.out, List.length_take]; omega); rw [← Ny630.out] at hr39; rw [← hy39] at hr39 hcut39; clear hy39 hi039 hsz39 HO_3; have HO632 := Aside0.mk hr39; clear hr39; replace q39 := eq_true q39) | ((with_reducible refine gate_builtin (b := .append) (xs := #[.tmp 42, .tmp 44]) rfl ?_); at_builtin; refine Kd.R_append (Kd.int .i64) (w0 := w) w.heap.size rfl (.tmp 42) (.tmp 44) 28 3 (.int .i64 0) 8 rfl Tryz.underlying28 info3 rfl (by decide) (by omega) (.slice Ao5 y630.length co5) y630 x4_1 [.int .i64 x4_1] (fun k_ => some k_ ≠ (v628 : Value).ownBlock) (fun _ => False) rfl rfl (by exact rfl) (fun _ hk => hk.elim) (by exact fun k_ hk => Kd.fresh' (Kd.R_lt (Hof.Rw HO629.out)) k_ hk) (by exact Hof.Rw (Kd.R_mono HO632.out (fun _ hk => hk.2))) (by exact Hof.Lw HB.out) (by exact below_size (Hof.Lw HB.out)) (by have := LMc33.out; omega) ?_; intro v634 w40 ho hb hg hat; rw [← Ny633.out] at ho; have n0_ := Aside0.mk (Kd.R_after (ok := (fun _ => True)) (Hof.Rw (Kd.R_mono HO629.out (fun _ hk => ⟨trivial, (by first | exact hk | (cases Ao28 <;> exact hk) | (cases Ao42 <;> exact hk) | (cases Ao5 <;> exact hk))⟩))) hg hat); have n1_ := Aside0.mk hb; have n2_ := Aside0.mk ho; clear HO629; clear HB; clear HO632; have HO629 := n0_; have HB := n1_; have HO635 := n2_; clear n0_ n1_ n2_; clear ho hb hg hat; obtain ⟨Ao42, co42, eo42⟩ := Kd.R_slice HO629.out; subst eo42) | ((with_reducible refine gate_builtin (b := .append) (xs := #[.tmp 45, .tmp 46]) rfl ?_); at_builtin; refine Kd.R_append_rows (Kd.int .i64) (w0 := w) w.heap.size rfl (.tmp 45) (.tmp 46) 28 3 (.int .i64 0) 8 rfl Tryz.underlying28 info3 rfl (by decide) (by omega) v634 y633 y627 _ _ _ (fun k_ => some k_ ≠ (.slice Ao42 y627.length co42 : Value).ownBlock) (fun _ => False) rfl rfl (by exact Hof.Rw HO635.out) (by repeat (first | exact (Kd.R_reads' HO629.out).2.2 | (with_reducible refine Kd.C_alloc ?_ _) | (with_reducible refine Kd.C_drewN ?_ _) | (with_reducible refine Kd.C_drew ?_))) (fun _ _ h => h) (fun _ h => h.elim) (by exact fun k_ hk => Kd.fresh' (Kd.R_lt (Hof.Rw HO629.out)) k_ hk) (by exact Hof.Lw HB.out) (by exact below_size (Hof.Lw HB.out)) (by have := LMc34.out; omega) ?_; intro v637 w41 ho hb hg hat; rw [← Ny636.out] at ho; have n0_ := Aside0.mk (Kd.R_after (ok := (fun _ => True)) (Hof.Rw HO629.out) hg hat); have n1_ := Aside0.mk hb; have n2_ := Aside0.mk ho; clear HO629; clear HB; clear HO635; have HO629 := n0_; have HB := n1_; have HO638 := n2_; clear n0_ n1_ n2_; clear ho hb hg hat)); try go_wp2_with (first | (refine Hof.lt (Kd.int .i64) 3 35 ?_; intro v621 w35 ho36 hb hg_ hnew_; clear hg_ hnew_; (first | rw [← Ny620.out] at ho36 | (simp only [Int.reduceToNat] at ho36; rw [← Ny620.out] at ho36)); have HO622 := Aside0.mk (Kd.R_lower (Kd.R_new' ho36 (Kd.R_lt (Hof.Rw HO_3.out))) (below_size (Hof.Lw HB.out))); replace HO_3 := Aside0.mk (Kd.R_elder' (Hof.Rw HO_3.out) (Kd.R_base ho36) hb); replace HB := Hof.lb HB hb; clear hb ho36; have q37 : (x5_2 : Int) ≤ ((x3_1.length : Int) : Int) := Hof.D; obtain ⟨i037, hi037, _, hsz37, _⟩ := info_parts info3; have hroom37 : x3_1.length ≤ co5 := (Kd.R_reads' HO_3.out).2.1; have hC37 : Kd.C (Kd.int .i64) _ Ao5 x3_1.length x3_1 := (Kd.R_reads' HO_3.out).2.2; have q037 : (0 : Int) ≤ (x5_2 : Int) := Hof.D; have hcut37 := cut_from (P := Tryz.prog) 28 3 .i64 Tryz.underlying28 hi037 1 hsz37 Ao5 x3_1.length co5 x5_2 q037 q37; have hr37 := Kd.C_drop (m := (x5_2 : Int).toNat) (c := co5) hC37 (by omega) hroom37; obtain ⟨A37, hA37⟩ : ∃ A1, A1 = (if co5 = (x5_2 : Int).toNat then Ao5 else (Ao5 : Option Addr).map (·.add ((x5_2 : Int).toNat * 1))) := ⟨_, rfl⟩; obtain ⟨c37, hc37⟩ : ∃ c1, c1 = co5 - (x5_2 : Int).toNat := ⟨_, rfl⟩; have hy37 : y623.length = x3_1.length - (x5_2 : Int).toNat := (by rw [Ny623.out, List.length_drop] <;> omega); rw [show (x3_1).drop (x5_2 : Int).toNat = y623 from Ny623.out.symm] at hr37; replace hr37 : Kd.C (Kd.int .i64) _ A37 y623.length y623 := (by rw [hA37]; exact hr37); rw [← hy37, ← hA37, ← hc37] at hcut37; have HR626 := Aside0.mk hr37; have HC626 := Aside0.mk (show y623.length ≤ c37 from by rw [hy37, hc37]; exact Nat.sub_le_sub_right hroom37 _); clear hr37 hC37 hroom37 hi037 hsz37 hc37; have KY37 := Aside0.mk hy37; have KA37 := Aside0.mk hA37; clear hy37 hA37; have KL37 := Aside0.mk (show (x5_2 : Int).toNat ≤ x3_1.length from by omega); replace q37 := eq_true q37) | ((with_reducible refine gate_builtin (b := .append) (xs := #[.tmp 35, .tmp 38]) rfl ?_); at_builtin; refine Kd.R_append_rows (Kd.int .i64) (w0 := w) w.heap.size rfl (.tmp 35) (.tmp 38) 28 3 (.int .i64 0) 8 rfl Tryz.underlying28 info3 rfl (by decide) (by omega) v621 y620 y623 _ _ _ (fun k_ => some k_ ≠ (.slice Ao5 x3_1.length co5 : Value).ownBlock) (fun _ => False) rfl rfl (by exact Hof.Rw (Kd.R_mono HO622.out (fun _ hk => hk.2))) (by repeat (first | exact (by repeat (first | (with_reducible exact HR626.out) | (with_reducible refine Kd.C_alloc ?_ _) | (with_reducible refine Kd.C_drewN ?_ _) | (with_reducible refine Kd.C_drew ?_) | exact HR626.out)) | (with_reducible refine Kd.C_alloc ?_ _) | (with_reducible refine Kd.C_drewN ?_ _) | (with_reducible refine Kd.C_drew ?_))) (fun _ _ h => h) (fun _ h => h.elim) (by exact fun k_ hk => Kd.fresh' (Kd.R_lt (Hof.Rw HO_3.out)) k_ hk) (by exact Hof.Lw HB.out) (by exact below_size (Hof.Lw HB.out)) (by have := LMc31.out; omega) ?_; intro v628 w38 ho hb hg hat; rw [← Ny627.out] at ho; have n0_ := Aside0.mk (Kd.R_after (ok := (fun _ => True)) (Hof.Rw HO_3.out) hg hat); have n1_ := Aside0.mk hb; have n2_ := Aside0.mk ((show Kd.C (Kd.int .i64) w38 A37 y623.length y623 from by rw [Ny623.out, KA37.out]; exact Kd.C_drop (m := (x5_2 : Int).toNat) (c := co5) ((Kd.R_reads' (Kd.R_after (ok := (fun _ => True)) (Hof.Rw HO_3.out) hg hat)).2.2) KL37.out ((Kd.R_reads' (Kd.R_after (ok := (fun _ => True)) (Hof.Rw HO_3.out) hg hat)).2.1))); have n3_ := Aside0.mk ho; clear HO_3; clear HB; clear HR626; clear HO622; have HO_3 := n0_; have HB := n1_; have HR626 := n2_; have HO629 := n3_; clear n0_ n1_ n2_ n3_; clear ho hb hg hat; have q39 : (x5_2 : Int) ≤ ((x3_1.length : Int) : Int) := Hof.D; obtain ⟨i039, hi039, _, hsz39, _⟩ := info_parts info3; have hcut39 := cut_to (P := Tryz.prog) 28 3 .i64 Tryz.underlying28 hi039 Ao5 x3_1.length co5 x5_2 (Hof.D) q39 (Kd.R_reads' HO_3.out).2.1; have hr39 := Kd.R_take (m := (x5_2 : Int).toNat) HO_3.out (by omega); have hy39 : y630.length = (x5_2 : Int).toNat := (by rw [Ny630.out, List.length_take]; omega); rw [← Ny630.out] at hr39; rw [← hy39] at hr39 hcut39; clear hy39 hi039 hsz39 HO_3; have HO632 := Aside0.mk hr39; clear hr39; replace q39 := eq_true q39) | ((with_reducible refine gate_builtin (b := .append) (xs := #[.tmp 42, .tmp 44]) rfl ?_); at_builtin; refine Kd.R_append (Kd.int .i64) (w0 := w) w.heap.size rfl (.tmp 42) (.tmp 44) 28 3 (.int .i64 0) 8 rfl Tryz.underlying28 info3 rfl (by decide) (by omega) (.slice Ao5 y630.length co5) y630 x4_1 [.int .i64 x4_1] (fun k_ => some k_ ≠ (v628 : Value).ownBlock) (fun _ => False) rfl rfl (by exact rfl) (fun _ hk => hk.elim) (by exact fun k_ hk => Kd.fresh' (Kd.R_lt (Hof.Rw HO629.out)) k_ hk) (by exact Hof.Rw (Kd.R_mono HO632.out (fun _ hk => hk.2))) (by exact Hof.Lw HB.out) (by exact below_size (Hof.Lw HB.out)) (by have := LMc33.out; omega) ?_; intro v634 w40 ho hb hg hat; rw [← Ny633.out] at ho; have n0_ := Aside0.mk (Kd.R_after (ok := (fun _ => True)) (Hof.Rw (Kd.R_mono HO629.out (fun _ hk => ⟨trivial, (by first | exact hk | (cases Ao28 <;> exact hk) | (cases Ao42 <;> exact hk) | (cases Ao5 <;> exact hk))⟩))) hg hat); have n1_ := Aside0.mk hb; have n2_ := Aside0.mk ho; clear HO629; clear HB; clear HO632; have HO629 := n0_; have HB := n1_; have HO635 := n2_; clear n0_ n1_ n2_; clear ho hb hg hat; obtain ⟨Ao42, co42, eo42⟩ := Kd.R_slice HO629.out; subst eo42) | ((with_reducible refine gate_builtin (b := .append) (xs := #[.tmp 45, .tmp 46]) rfl ?_); at_builtin; refine Kd.R_append_rows (Kd.int .i64) (w0 := w) w.heap.size rfl (.tmp 45) (.tmp 46) 28 3 (.int .i64 0) 8 rfl Tryz.underlying28 info3 rfl (by decide) (by omega) v634 y633 y627 _ _ _ (fun k_ => some k_ ≠ (.slice Ao42 y627.length co42 : Value).ownBlock) (fun _ => False) rfl rfl (by exact Hof.Rw HO635.out) (by repeat (first | exact (Kd.R_reads' HO629.out).2.2 | (with_reducible refine Kd.C_alloc ?_ _) | (with_reducible refine Kd.C_drewN ?_ _) | (with_reducible refine Kd.C_drew ?_))) (fun _ _ h => h) (fun _ h => h.elim) (by exact fun k_ hk => Kd.fresh' (Kd.R_lt (Hof.Rw HO629.out)) k_ hk) (by exact Hof.Lw HB.out) (by exact below_size (Hof.Lw HB.out)) (by have := LMc34.out; omega) ?_; intro v637 w41 ho hb hg hat; rw [← Ny636.out] at ho; have n0_ := Aside0.mk (Kd.R_after (ok := (fun _ => True)) (Hof.Rw HO629.out) hg hat); have n1_ := Aside0.mk hb; have n2_ := Aside0.mk ho; clear HO629; clear HB; clear HO635; have HO629 := n0_; have HB := n1_; have HO638 := n2_; clear n0_ n1_ n2_; clear ho hb hg hat)))
            go_roundg k2
            case measure => have := HK1.out; have := HK2.out; omega
            case rel => exact ⟨(y636), (wrap64 (x4_1 + 1)), Hof.F, H', ⟨by have := HK1.out; have := HK2.out; omega⟩, ⟨Hof.Rw (Kd.R_mono HO638.out (fun _ hk => trivial))⟩, ⟨Hof.Lw HB.out⟩⟩
           ·rw [if_neg c34] at H
            exact absurd H (by simp)
          ·rw [if_neg c33] at H
           exact absurd H (by simp)
         ·rw [if_neg c31] at H
          exact absurd H (by simp)
        ·rw [if_neg c30] at H
         exact absurd H (by simp)
       ·rw [if_neg c29] at H
        exact absurd H (by simp)
   ·rw [if_neg c4] at H
    have c4b0 : decide (x4_1 < (l0.length : Int)) = false := decide_eq_false c4
    clear c4
    obtain rfl := Option.some.inj H
    go_wp2
    repeat (go_quiet (fail); try go_wp2)
    go_ret
    exact ⟨_, Hof.E, by (with_reducible repeat (first | apply Kd.R_alloc | apply Kd.R_drewN | apply Kd.R_drew)); exact HO_3.out, Hof.L⟩
def spec_l19Taken.l0 : Nat → List Int → Int → List Int → Int → Int → List Int → Option (List Int)
 | 0, _, _, _, _, _, _ => none
 | k + 1, x5, x6, x7, x8, x640000, x640001 => if x8 < (x7.length : Int) then (if 0 ≤ x8 then (if 0 ≤ (IntKind.u64.wrap (rd x7 x8)) then ((spec_l5Rank.f k x640000 x640001 (Go.bits .or .i64 x6 (shl .i64 1 (IntKind.u64.wrap (rd x7 x8))))).bind fun t647 => ((spec_CountOf.f k (Go.bits .or .i64 x6 (shl .i64 1 (IntKind.u64.wrap (rd x7 x8))))).bind fun t648 => (if t647 = t648 then (if x5.length < 17592186044416 then (spec_l19Taken.l0 k (x5 ++ [rd x7 x8]) (Go.bits .or .i64 x6 (shl .i64 1 (IntKind.u64.wrap (rd x7 x8)))) x7 (wrap64 (x8 + 1)) x640000 x640001) else (none)) else (spec_l19Taken.l0 k x5 x6 x7 (wrap64 (x8 + 1)) x640000 x640001)))) else (none)) else (none)) else (some x5)
def spec_l19Taken.f (k : Nat) (a0_0 : Int) (l0_1 : List Int) (l1 : List Int) : Option (List Int) := (spec_l19Order.f k l1).bind fun t643 => (spec_l19Taken.l0 k (([] : List Int)) 0 t643 0 a0_0 l0_1)
set_option maxHeartbeats 8000000 in
set_option maxRecDepth 100000 in
theorem spec_l19Taken.calls (k : Nat) (a0_0 : Int) (A0_1 : Option Addr) (c0_1 : Nat) (l0_1 : List Int) (A1 : Option Addr) (c1 : Nat) (l1 : List Int) (r : List Int) (w : World) (hr0_1 : Kd.C (Kd.int .i64) w A0_1 l0_1.length l0_1) (hc0_1 : l0_1.length ≤ c0_1) (hr1 : Kd.C (Kd.int .i64) w A1 l1.length l1) (hc1 : l1.length ≤ c1) (h : spec_l19Taken.f k a0_0 l0_1 l1 = some r) :
  Calls Tryz.prog 156 #[.agg #[.int .i64 a0_0, .slice A0_1 l0_1.length c0_1], .slice A1 l1.length c1] w fun e w' => ∃ v0_ : Value, e = .returned (v0_) ∧ Kd.R (Kd.int .i64) 3 w' w.heap.size (fun _ => True) v0_ r ∧ Below w.heap.size w w' := by
 have hu30 := Tryz.underlying30
 have HR0_1 := Aside0.mk hr0_1
 have HC0_1 := Aside0.mk hc0_1
 clear hr0_1 hc0_1
 have HR1 := Aside0.mk hr1
 have HC1 := Aside0.mk hc1
 clear hr1 hc1
 have HB := Aside0.mk (Below.refl w.heap.size w)
 unfold spec_l19Taken.f at h
 have H := h
 clear h
 obtain ⟨y640, hy640⟩ : ∃ y_ : List Int, y_ = (([] : List Int)) := ⟨_, rfl⟩
 replace H : ((spec_l19Order.f k l1).bind fun t643 => (spec_l19Taken.l0 k y640 0 t643 0 a0_0 l0_1)) = some r := by (try rw [hy640]); exact Hof.Z
 have Ny640 := Aside0.mk hy640
 clear hy640
 obtain ⟨t643, A3, H⟩ := Hof.be H
 (try dsimp only at H)
 have H' := Aside0.mk H
 clear H
 go_enter Tryz.func156, Tryz.ntmps156
 go_wp2_with (first | (refine Hof.bx 2 #[.int .i64 a0_0, .slice A0_1 l0_1.length c0_1] 30 ?_; intro gb639 hg w4 hbox hb; have BK639 := Aside0.mk hbox; have GW639 := Hof.gw hg HB; have GE639 := Hof.gw hg HB; replace HB := Hof.lb HB hb; clear hb hbox hg) | (refine Hof.lt (Kd.int .i64) 3 10 ?_; intro v641 w5 ho6 hb hg_ hnew_; clear hg_ hnew_; (first | rw [← Ny640.out] at ho6 | (simp only [Int.reduceToNat] at ho6; rw [← Ny640.out] at ho6)); have HO642 := Aside0.mk (Kd.R_lower ho6 (below_size (Hof.Lw HB.out))); replace BK639 := Hof.bb BK639 hb; replace HB := Hof.lb HB hb; clear hb ho6) | (refine Hof.gl (some 12) Tryz.func171 #[.slice A1 l1.length c1] ?_; (with_reducible refine (spec_l19Order.calls k _ _ l1 t643 _ ?side1 ?side2 A3.out).mono ?_); (case side1 => exact Hof.Cw (Kd.C_below HR1.out HB.out)); (case side2 => exact HC1.out); rintro e w7 ⟨v644, rfl, ho0, hb⟩; refine ⟨_, rfl, ?_⟩; have HO645 := Aside0.mk (Kd.R_lower (Kd.R_new' ho0 (Kd.R_lt (Hof.Rw HO642.out))) (below_size (Hof.Lw HB.out))); replace HO642 := Aside0.mk (Kd.R_elder' (Hof.Rw HO642.out) (Kd.R_base ho0) hb); replace BK639 := Hof.bb BK639 hb; replace HB := Hof.lb HB hb; (try clear hb); (try clear hb2); (try clear hk); (try clear hi); (try clear ho0)))
 go_loopg [5, 6, 8] k (fun kq v5 v6 v8 w' => ∃ (x5_1 : List Int) (x6_1 : Int) (x8_1 : Int), v6 = .int .i64 x6_1 ∧ v8 = .int .i64 x8_1 ∧ Aside0 (spec_l19Taken.l0 kq x5_1 x6_1 t643 x8_1 a0_0 l0_1 = some r) ∧ Aside0 (kq ≤ k) ∧ Aside0 (Kd.R (Kd.int .i64) 3 w' w.heap.size (fun k_ => some k_ ≠ (v644 : Value).ownBlock) v5 x5_1) ∧ Aside0 (Kd.R (Kd.int .i64) 3 w' w.heap.size (fun k_ => some k_ ≠ (v5 : Value).ownBlock) v644 t643) ∧ Aside0 (w'.heap[gb639]? = some (.cells #[.int .i64 a0_0, (.slice A0_1 l0_1.length c0_1)] 30 (0, 0))) ∧ Aside0 (Below w.heap.size w w'))
 case atStart => exact ⟨(y640), (0), (0), Hof.F, Hof.F, H', ⟨Nat.le_refl _⟩, ⟨Hof.Rw (Kd.R_mono HO642.out (fun _ hk => hk.2))⟩, ⟨Hof.Rw (Kd.R_mono HO645.out (fun _ hk => hk.2))⟩, ⟨Hof.Bw BK639.out⟩, ⟨Hof.Lw HB.out⟩⟩
 case round =>
  clear H'
  obtain ⟨x5_1, x6_1, x8_1, rfl, rfl, HA, HK1, HO_5, HO_7, BK639, HB⟩ := hrel
  cases gk with
  | zero => exact absurd HA.out (by simp [spec_l19Taken.l0])
  | succ k1 =>
   have H := HA.out
   clear HA
   simp only [spec_l19Taken.l0] at H
   by_cases c8 : x8_1 < (t643.length : Int)
   ·rw [if_pos c8] at H
    have c8b0 := decide_eq_true c8
    clear c8
    by_cases c9 : 0 ≤ x8_1
    ·rw [if_pos c9] at H
     have c9b0 := decide_eq_true c9
     clear c9
     obtain ⟨ji10, hji10⟩ : ∃ j_ : Int, (IntKind.u64.wrap (rd t643 x8_1)) = j_ := ⟨_, rfl⟩
     replace H : (if 0 ≤ (ji10) then ((spec_l5Rank.f k1 a0_0 l0_1 (Go.bits .or .i64 x6_1 (shl .i64 1 (ji10)))).bind fun t647 => ((spec_CountOf.f k1 (Go.bits .or .i64 x6_1 (shl .i64 1 (ji10)))).bind fun t648 => (if t647 = t648 then (if x5_1.length < 17592186044416 then (spec_l19Taken.l0 k1 (x5_1 ++ [rd t643 x8_1]) (Go.bits .or .i64 x6_1 (shl .i64 1 (ji10))) t643 (wrap64 (x8_1 + 1)) a0_0 l0_1) else (none)) else (spec_l19Taken.l0 k1 x5_1 x6_1 t643 (wrap64 (x8_1 + 1)) a0_0 l0_1)))) else (none)) = some r := by first | (rw [hji10] at H; exact H) | (simp only [hji10] at H ⊢; exact H)
     by_cases c11 : 0 ≤ (ji10)
     ·rw [if_pos c11] at H
      have c11b0 := eq_true c11
      have c11b1 : decide (0 ≤ (ji10)) = true := decide_eq_true c11
      clear c11
      obtain ⟨ji12, hji12⟩ : ∃ j_ : Int, (shl .i64 1 (ji10)) = j_ := ⟨_, rfl⟩
      replace H : ((spec_l5Rank.f k1 a0_0 l0_1 (Go.bits .or .i64 x6_1 (ji12))).bind fun t647 => ((spec_CountOf.f k1 (Go.bits .or .i64 x6_1 (ji12))).bind fun t648 => (if t647 = t648 then (if x5_1.length < 17592186044416 then (spec_l19Taken.l0 k1 (x5_1 ++ [rd t643 x8_1]) (Go.bits .or .i64 x6_1 (ji12)) t643 (wrap64 (x8_1 + 1)) a0_0 l0_1) else (none)) else (spec_l19Taken.l0 k1 x5_1 x6_1 t643 (wrap64 (x8_1 + 1)) a0_0 l0_1)))) = some r := by first | (rw [hji12] at H; exact H) | (simp only [hji12] at H ⊢; exact H)
      have hji12_ : (IntKind.i64.wrap (1 * 2 ^ min (ji10).toNat 64)) = ji12 := hji12
      have hji12z : (ji10) ≤ 64 → (IntKind.i64.wrap (1 * 2 ^ (ji10).toNat)) = ji12 := shl_small hji12
      have hji12u : (IntKind.i64.wrap (2 ^ min (ji10).toNat 64)) = ji12 := by have h_ := hji12_; rw [Int.one_mul] at h_; exact h_
      have hji12v : (ji10) ≤ 64 → (IntKind.i64.wrap (2 ^ (ji10).toNat)) = ji12 := fun hle_ => by have h_ := hji12z hle_; rw [Int.one_mul] at h_; exact h_
      have hji12y : (wrap64 (1 * 2 ^ min (ji10).toNat 64)) = ji12 := (i64_w _).symm.trans hji12_
      have hji12x : (ji10) ≤ 64 → (wrap64 (1 * 2 ^ (ji10).toNat)) = ji12 := fun h_ => (i64_w _).symm.trans (hji12z h_)
      obtain ⟨t647, A13, H⟩ := Hof.be H
      (try dsimp only at H)
      obtain ⟨t648, A14, H⟩ := Hof.be H
      (try dsimp only at H)
      by_cases c15 : t647 = t648
      ·rw [if_pos c15] at H
       have c15b0 : (t647 == t648) = true := beq_iff_eq.mpr c15
       have c15b1 : (t647 != t648) = false := bne_eq_false_iff_eq.mpr c15
       clear c15
       by_cases c16 : x5_1.length < 17592186044416
       ·rw [if_pos c16] at H
        have LMc16 := Aside0.mk c16
        clear c16
        obtain ⟨y650, hy650⟩ : ∃ y_ : List Int, y_ = (x5_1 ++ [rd t643 x8_1]) := ⟨_, rfl⟩
        replace H : (spec_l19Taken.l0 k1 y650 (Go.bits .or .i64 x6_1 (ji12)) t643 (wrap64 (x8_1 + 1)) a0_0 l0_1) = some r := by (try rw [hy650]); exact Hof.Z
        have Ny650 := Aside0.mk hy650
        clear hy650
        have H' := Aside0.mk H
        clear H
        obtain ⟨Ao17, co17, eo17⟩ := Kd.R_slice HO_7.out
        subst eo17
        have p646 : 0 ≤ (x8_1 : Int) := Hof.D
        have q646 : x8_1 < (t643.length : Int) := Hof.D
        obtain ⟨ad646, e646, hx646_0⟩ := Kd.at_int (Kd.R_reads' HO_7.out).2.2 x8_1 p646 q646
        cases e646
        replace p646 := eq_true p646
        replace q646 := eq_true q646
        obtain ⟨hcz18_0, hcz18_1, hfz18_0, hfz18_1⟩ := Hof.blk2 BK639.out
        go_wp2_with (first | ((with_reducible refine gate_callee (f := 109) rfl ?_); refine goesL_ (some 29) rfl rfl Tryz.func109 (by kernel_rfl) rfl #[.agg #[.int .i64 a0_0, .slice A0_1 l0_1.length c0_1], .int .i64 (Go.bits .or .i64 x6_1 (ji12))] rfl (by (try simp only [List.map_toArray, List.map_cons, List.map_nil]); first | done | (simp only [hji12]; rfl) | rfl | (simp only [List.length_drop, List.length_take]; rfl)) ?_; (with_reducible refine (spec_l5Rank.calls k1 a0_0 _ _ l0_1 (Go.bits .or .i64 x6_1 (ji12)) t647 _ ?side1 ?side2 A13.out).mono ?_); (case side1 => exact Hof.Cw (Kd.C_below HR0_1.out HB.out)); (case side2 => exact HC0_1.out); rintro e w19 ⟨rfl, hb⟩; refine ⟨_, rfl, ?_⟩; replace HO_5 := Hof.rb HO_5 hb; replace HO_7 := Hof.rb HO_7 hb; replace BK639 := Hof.bb BK639 hb; replace HB := Hof.lb HB hb; (try clear hb); (try clear hb2); (try clear hk); (try clear hi)) | ((with_reducible refine gate_callee (f := 25) rfl ?_); refine goesL_ (some 31) rfl rfl Tryz.func25 (by kernel_rfl) rfl #[.int .i64 (Go.bits .or .i64 x6_1 (ji12))] rfl (by (try simp only [List.map_toArray, List.map_cons, List.map_nil]); first | done | (simp only [hji12]; rfl) | rfl | (simp only [List.length_drop, List.length_take]; rfl)) ?_; (with_reducible refine (spec_CountOf.calls k1 (Go.bits .or .i64 x6_1 (ji12)) t648 _ A14.out).mono ?_); rintro e w' ⟨rfl, ⟨nd, rfl⟩⟩; refine ⟨_, rfl, ?_⟩; have p649 : 0 ≤ (x8_1 : Int) := Hof.D; have q649 : x8_1 < (t643.length : Int) := Hof.D; obtain ⟨ad649, e649, hx649_0⟩ := Kd.at_int (Kd.R_reads' HO_7.out).2.2 x8_1 p649 q649; obtain rfl : ad646 = ad649 := (by injection e649); replace p649 := eq_true p649; replace q649 := eq_true q649) | ((with_reducible refine gate_builtin (b := .append) (xs := #[.tmp 34, .tmp 39]) rfl ?_); at_builtin; refine Kd.R_append (Kd.int .i64) (w0 := w) w.heap.size rfl (.tmp 34) (.tmp 39) 28 3 (.int .i64 0) 8 rfl Tryz.underlying28 info3 rfl (by decide) (by omega) u5 x5_1 (rd t643 x8_1) [.int .i64 (rd t643 x8_1)] (fun k_ => some k_ ≠ (.slice (some ad646) t643.length co17 : Value).ownBlock) (fun _ => False) rfl rfl (by exact rfl) (fun _ hk => hk.elim) (by exact fun k_ hk => Kd.fresh' (Kd.R_lt (Hof.Rw HO_7.out)) k_ hk) (by exact Hof.Rw HO_5.out) (by exact Hof.Lw HB.out) (by exact below_size (Hof.Lw HB.out)) (by have := LMc16.out; omega) ?_; intro v651 w20 ho hb hg hat; rw [← Ny650.out] at ho; have n0_ := Aside0.mk (Kd.R_after (ok := (fun _ => True)) (Hof.Rw (Kd.R_mono HO_7.out (fun _ hk => ⟨trivial, hk⟩))) hg hat); have n1_ := Aside0.mk (blk_grown (g := gb639) (o := .cells #[.int .i64 a0_0, .slice A0_1 l0_1.length c0_1] 30 (0, 0)) (Hof.Bw BK639.out) hg (Kd.R_ne HO_5.out BK639.out (by decide))); have n2_ := Aside0.mk hb; have n3_ := Aside0.mk ho; clear HO_7; clear BK639; clear HB; clear HO_5; have HO_7 := n0_; have BK639 := n1_; have HB := n2_; have HO652 := n3_; clear n0_ n1_ n2_ n3_; clear ho hb hg hat))
        go_roundg k1
        case measure => have := HK1.out; omega
        case rel => exact ⟨(y650), (Go.bits .or .i64 x6_1 (ji12)), (wrap64 (x8_1 + 1)), (by first | rfl | (simp; done) | (simp only [← hji12] <;> (first | rfl | simp)) | (simp [*]; done)), Hof.F, H', ⟨by have := HK1.out; omega⟩, ⟨Hof.Rw HO652.out⟩, ⟨Hof.Rw (Kd.R_mono HO_7.out (fun _ hk => hk.2))⟩, ⟨Hof.Bw BK639.out⟩, ⟨Hof.Lw HB.out⟩⟩
       ·rw [if_neg c16] at H
        exact absurd H (by simp)
      ·rw [if_neg c15] at H
       have c15b0 : (t647 == t648) = false := beq_eq_false_iff_ne.mpr c15
       have c15b1 : (t647 != t648) = true := bne_iff_ne.mpr c15
       have H' := Aside0.mk H
       clear H
       obtain ⟨Ao21, co21, eo21⟩ := Kd.R_slice HO_7.out
       subst eo21
       have p646 : 0 ≤ (x8_1 : Int) := Hof.D
       have q646 : x8_1 < (t643.length : Int) := Hof.D
       obtain ⟨ad646, e646, hx646_0⟩ := Kd.at_int (Kd.R_reads' HO_7.out).2.2 x8_1 p646 q646
       cases e646
       replace p646 := eq_true p646
       replace q646 := eq_true q646
       obtain ⟨hcz22_0, hcz22_1, hfz22_0, hfz22_1⟩ := Hof.blk2 BK639.out
       go_wp2_with (first | ((with_reducible refine gate_callee (f := 109) rfl ?_); refine goesL_ (some 29) rfl rfl Tryz.func109 (by kernel_rfl) rfl #[.agg #[.int .i64 a0_0, .slice A0_1 l0_1.length c0_1], .int .i64 (Go.bits .or .i64 x6_1 (ji12))] rfl (by (try simp only [List.map_toArray, List.map_cons, List.map_nil]); first | done | (simp only [hji12]; rfl) | rfl | (simp only [List.length_drop, List.length_take]; rfl)) ?_; (with_reducible refine (spec_l5Rank.calls k1 a0_0 _ _ l0_1 (Go.bits .or .i64 x6_1 (ji12)) t647 _ ?side1 ?side2 A13.out).mono ?_); (case side1 => exact Hof.Cw (Kd.C_below HR0_1.out HB.out)); (case side2 => exact HC0_1.out); rintro e w23 ⟨rfl, hb⟩; refine ⟨_, rfl, ?_⟩; replace HO_5 := Hof.rb HO_5 hb; replace HO_7 := Hof.rb HO_7 hb; replace BK639 := Hof.bb BK639 hb; replace HB := Hof.lb HB hb; (try clear hb); (try clear hb2); (try clear hk); (try clear hi)) | ((with_reducible refine gate_callee (f := 25) rfl ?_); refine goesL_ (some 31) rfl rfl Tryz.func25 (by kernel_rfl) rfl #[.int .i64 (Go.bits .or .i64 x6_1 (ji12))] rfl (by (try simp only [List.map_toArray, List.map_cons, List.map_nil]); first | done | (simp only [hji12]; rfl) | rfl | (simp only [List.length_drop, List.length_take]; rfl)) ?_; (with_reducible refine (spec_CountOf.calls k1 (Go.bits .or .i64 x6_1 (ji12)) t648 _ A14.out).mono ?_); rintro e w' ⟨rfl, ⟨nd, rfl⟩⟩; refine ⟨_, rfl, ?_⟩))
       go_roundg k1
       case measure => have := HK1.out; omega
       case rel => exact ⟨(x5_1), (x6_1), (wrap64 (x8_1 + 1)), Hof.F, Hof.F, H', ⟨by have := HK1.out; omega⟩, ⟨Hof.Rw HO_5.out⟩, ⟨Hof.Rw HO_7.out⟩, ⟨Hof.Bw BK639.out⟩, ⟨Hof.Lw HB.out⟩⟩
     ·rw [if_neg c11] at H
      exact absurd H (by simp)
    ·rw [if_neg c9] at H
     exact absurd H (by simp)
   ·rw [if_neg c8] at H
    have c8b0 : decide (x8_1 < (t643.length : Int)) = false := decide_eq_false c8
    clear c8
    obtain rfl := Option.some.inj H
    obtain ⟨Ao24, co24, eo24⟩ := Kd.R_slice HO_7.out
    subst eo24
    go_wp2
    go_ret
    exact ⟨_, Hof.E, by (with_reducible repeat (first | apply Kd.R_alloc | apply Kd.R_drewN | apply Kd.R_drew)); exact Kd.R_mono HO_5.out (fun _ hk => trivial), Hof.L⟩
mutual
def spec_BestOfSize.j0 : Nat → List Int → Int → Bool → Int → List Int → Option (Int × Bool)
 | 0, _, _, _, _, _ => none
 | k + 1, x1, x2, x22, x654000, x654001 => if x22 = true then (some (0, false)) else ((spec_l19Taken.f k x654000 x654001 x1).bind fun t657 => (spec_BestOfSize.l0 k x2 t657 0 0))
def spec_BestOfSize.l0 : Nat → Int → List Int → Int → Int → Option (Int × Bool)
 | 0, _, _, _, _ => none
 | k + 1, x2, x8, x9, x10 => if x10 < x2 then (if 0 ≤ x10 then (if x10 < (x8.length : Int) then (if 0 ≤ (IntKind.u64.wrap (rd x8 x10)) then (spec_BestOfSize.l0 k x2 x8 (Go.bits .or .i64 x9 (shl .i64 1 (IntKind.u64.wrap (rd x8 x10)))) (wrap64 (x10 + 1))) else (none)) else (none)) else (none)) else (some (x9, true))
end
def spec_BestOfSize.f (k : Nat) (a0_0 : Int) (l0_1 : List Int) (l1 : List Int) (a2 : Int) : Option (Int × Bool) := (spec_AreWeights.f k a0_0 l1).bind fun t654 => (if t654 = true then ((spec_RankOfMatroid.f k a0_0 l0_1).bind fun t655 => ((spec_l1In.f a2 0 t655).bind fun t656 => (spec_BestOfSize.j0 k l1 a2 (!t656) a0_0 l0_1))) else (spec_BestOfSize.j0 k l1 a2 true a0_0 l0_1))
set_option maxHeartbeats 8000000 in
set_option maxRecDepth 100000 in
theorem spec_BestOfSize.calls (k : Nat) (a0_0 : Int) (A0_1 : Option Addr) (c0_1 : Nat) (l0_1 : List Int) (A1 : Option Addr) (c1 : Nat) (l1 : List Int) (a2 : Int) (r1 : Int) (r2 : Bool) (w : World) (hr0_1 : Kd.C (Kd.int .i64) w A0_1 l0_1.length l0_1) (hc0_1 : l0_1.length ≤ c0_1) (hr1 : Kd.C (Kd.int .i64) w A1 l1.length l1) (hc1 : l1.length ≤ c1) (h : spec_BestOfSize.f k a0_0 l0_1 l1 a2 = some (r1, r2)) :
  Calls Tryz.prog 129 #[.agg #[.int .i64 a0_0, .slice A0_1 l0_1.length c0_1], .slice A1 l1.length c1, .int .i64 a2] w fun e w' => e = .returned (.tuple #[.int .i64 r1, .bool r2]) ∧ Below w.heap.size w w' := by
 have hu30 := Tryz.underlying30
 have HR0_1 := Aside0.mk hr0_1
 have HC0_1 := Aside0.mk hc0_1
 clear hr0_1 hc0_1
 have HR1 := Aside0.mk hr1
 have HC1 := Aside0.mk hc1
 clear hr1 hc1
 have HB := Aside0.mk (Below.refl w.heap.size w)
 unfold spec_BestOfSize.f at h
 have H := h
 clear h
 have HC4 := Aside0.mk H
 clear H
 go_enter Tryz.func129, Tryz.ntmps129
 go_upto_region 1 with (first | ((with_reducible refine gate_dst (N := 3) rfl ?_); refine Hof.bx 3 #[.int .i64 a0_0, .slice A0_1 l0_1.length c0_1] 30 ?_; intro gb653 hg w5 hbox hb; have BK653 := Aside0.mk hbox; have GW653 := Hof.gw hg HB; have GE653 := Hof.gw hg HB; replace HB := Hof.lb HB hb; clear hb hbox hg))
 (try simp only [Act.put, List.setIfInBounds_toArray, List.set_cons_zero, List.set_cons_succ])
 go_cut [22] (fun v22 wc => ∃ (kq : Nat) (x22_3 : Bool), v22 = .bool x22_3 ∧ Aside0 (spec_BestOfSize.j0 kq l1 a2 x22_3 a0_0 l0_1 = some (r1, r2)) ∧ Aside0 (kq ≤ k) ∧ Aside0 (wc.heap[gb653]? = some (.cells #[.int .i64 a0_0, (.slice A0_1 l0_1.length c0_1)] 30 (0, 0))) ∧ Aside0 (Below w.heap.size w wc))
 case first =>
  have H := HC4.out
  clear HC4
  obtain ⟨t654, A6, H⟩ := Hof.be H
  (try dsimp only at H)
  by_cases c7 : t654 = true
  ·subst c7
   replace H : ((spec_RankOfMatroid.f k a0_0 l0_1).bind fun t655 => ((spec_l1In.f a2 0 t655).bind fun t656 => (spec_BestOfSize.j0 k l1 a2 (!t656) a0_0 l0_1))) = some (r1, r2) := by rw [if_pos rfl] at H; exact H
   obtain ⟨t655, A8, H⟩ := Hof.be H
   (try dsimp only at H)
   obtain ⟨t656, A9, H⟩ := Hof.be H
   (try dsimp only at H)
   have H' := Aside0.mk H
   clear H
   obtain ⟨hcz10_0, hcz10_1, hfz10_0, hfz10_1⟩ := Hof.blk2 BK653.out
   go_wp2_with (first | ((with_reducible refine gate_callee (f := 155) rfl ?_); refine Hof.gl (some 14) Tryz.func155 #[.int .i64 a0_0, .slice A1 l1.length c1] ?_; (with_reducible refine (spec_AreWeights.calls k a0_0 _ _ l1 true _ ?side1 ?side2 A6.out).mono ?_); (case side1 => exact Hof.Cw (Kd.C_below HR1.out HB.out)); (case side2 => exact HC1.out); rintro e w' ⟨rfl, ⟨nd, rfl⟩⟩; refine ⟨_, rfl, ?_⟩) | (go_at_call 47; (with_reducible refine (spec_RankOfMatroid.calls k a0_0 _ _ l0_1 t655 _ ?side1 ?side2 A8.out).mono ?_); (case side1 => exact Hof.Cw (Kd.C_below HR0_1.out HB.out)); (case side2 => exact HC0_1.out); rintro e w11 ⟨rfl, hb⟩; replace BK653 := Hof.bb BK653 hb; replace HB := Hof.lb HB hb; (try clear hb); (try clear hb2); (try clear hk); (try clear hi)) | (go_at_call 94; (with_reducible refine (spec_l1In.calls a2 0 t655 t656 _ A9.out).mono ?_); rintro e w' ⟨rfl, ⟨nd, rfl⟩⟩))
   go_meet
   case rel => exact ⟨_, (!t656), Hof.F, H', ⟨by first | omega | exact Nat.le_refl _⟩, ⟨Hof.Bw BK653.out⟩, ⟨Hof.Lw HB.out⟩⟩
  ·replace c7 := Bool.eq_false_iff.mpr c7
   subst c7
   replace H : (spec_BestOfSize.j0 k l1 a2 true a0_0 l0_1) = some (r1, r2) := by rw [if_neg (show ¬ (false = true) by decide)] at H; exact H
   have H' := Aside0.mk H
   clear H
   obtain ⟨hcz12_0, hcz12_1, hfz12_0, hfz12_1⟩ := Hof.blk2 BK653.out
   go_wp2_with (first | ((with_reducible refine gate_callee (f := 155) rfl ?_); refine Hof.gl (some 14) Tryz.func155 #[.int .i64 a0_0, .slice A1 l1.length c1] ?_; (with_reducible refine (spec_AreWeights.calls k a0_0 _ _ l1 false _ ?side1 ?side2 A6.out).mono ?_); (case side1 => exact Hof.Cw (Kd.C_below HR1.out HB.out)); (case side2 => exact HC1.out); rintro e w' ⟨rfl, ⟨nd, rfl⟩⟩; refine ⟨_, rfl, ?_⟩))
   go_meet
   case rel => exact ⟨_, (true), Hof.F, H', ⟨by first | omega | exact Nat.le_refl _⟩, ⟨Hof.Bw BK653.out⟩, ⟨Hof.Lw HB.out⟩⟩
 case rest =>
  clear HC4
  obtain ⟨kq, x22_3, rfl, HA, HJ3, BK653, HB⟩ := hcut
  cases kq with
  | zero => exact absurd HA.out (by simp [spec_BestOfSize.j0])
  | succ kj3 =>
   have H := HA.out
   clear HA
   simp only [spec_BestOfSize.j0] at H
   by_cases c13 : x22_3 = true
   ·subst c13
    replace H : (some (0, false)) = some (r1, r2) := by rw [if_pos rfl] at H; exact H
    simp only [Option.some.injEq, Prod.mk.injEq] at H
    obtain ⟨rfl, rfl⟩ := H
    go_wp2
    go_ret2
    exact ⟨Hof.E, Hof.L⟩
   ·replace c13 := Bool.eq_false_iff.mpr c13
    subst c13
    replace H : ((spec_l19Taken.f kj3 a0_0 l0_1 l1).bind fun t657 => (spec_BestOfSize.l0 kj3 a2 t657 0 0)) = some (r1, r2) := by rw [if_neg (show ¬ (false = true) by decide)] at H; exact H
    obtain ⟨t657, A14, H⟩ := Hof.be H
    (try dsimp only at H)
    have H' := Aside0.mk H
    clear H
    obtain ⟨hcz15_0, hcz15_1, hfz15_0, hfz15_1⟩ := Hof.blk2 BK653.out
    go_wp2_with (first | ((with_reducible refine gate_callee (f := 156) rfl ?_); refine Hof.gl (some 25) Tryz.func156 #[.agg #[.int .i64 a0_0, .slice A0_1 l0_1.length c0_1], .slice A1 l1.length c1] ?_; (with_reducible refine (spec_l19Taken.calls kj3 a0_0 _ _ l0_1 _ _ l1 t657 _ ?side1 ?side2 ?side3 ?side4 A14.out).mono ?_); (case side1 => exact Hof.Cw (Kd.C_below HR0_1.out HB.out)); (case side2 => exact HC0_1.out); (case side3 => exact Hof.Cw (Kd.C_below HR1.out HB.out)); (case side4 => exact HC1.out); rintro e w16 ⟨v658, rfl, ho0, hb⟩; refine ⟨_, rfl, ?_⟩; have HO659 := Aside0.mk (Kd.R_lower ho0 (below_size (Hof.Lw HB.out))); replace BK653 := Hof.bb BK653 hb; replace HB := Hof.lb HB hb; (try clear hb); (try clear hb2); (try clear hk); (try clear hi); (try clear ho0)))
    go_loopg [9, 10] kj3 (fun kq v9 v10 w' => ∃ (x9_2 : Int) (x10_2 : Int), v9 = .int .i64 x9_2 ∧ v10 = .int .i64 x10_2 ∧ Aside0 (spec_BestOfSize.l0 kq a2 t657 x9_2 x10_2 = some (r1, r2)) ∧ Aside0 (kq ≤ kj3) ∧ Aside0 (Kd.R (Kd.int .i64) 3 w' w.heap.size (fun _ => True) v658 t657) ∧ Aside0 (w'.heap[gb653]? = some (.cells #[.int .i64 a0_0, (.slice A0_1 l0_1.length c0_1)] 30 (0, 0))) ∧ Aside0 (Below w.heap.size w w'))
    case atStart => exact ⟨(0), (0), Hof.F, Hof.F, H', ⟨Nat.le_refl _⟩, ⟨Hof.Rw HO659.out⟩, ⟨Hof.Bw BK653.out⟩, ⟨Hof.Lw HB.out⟩⟩
    case round =>
     clear H'
     obtain ⟨x9_2, x10_2, rfl, rfl, HA, HK2, HO_8, BK653, HB⟩ := hrel
     cases gk with
     | zero => exact absurd HA.out (by simp [spec_BestOfSize.l0])
     | succ k2 =>
      have H := HA.out
      clear HA
      simp only [spec_BestOfSize.l0] at H
      by_cases c17 : x10_2 < a2
      ·rw [if_pos c17] at H
       have c17b0 := decide_eq_true c17
       clear c17
       by_cases c18 : 0 ≤ x10_2
       ·rw [if_pos c18] at H
        have c18b0 := decide_eq_true c18
        clear c18
        by_cases c19 : x10_2 < (t657.length : Int)
        ·rw [if_pos c19] at H
         have c19b0 := decide_eq_true c19
         clear c19
         obtain ⟨ji20, hji20⟩ : ∃ j_ : Int, (IntKind.u64.wrap (rd t657 x10_2)) = j_ := ⟨_, rfl⟩
         replace H : (if 0 ≤ (ji20) then (spec_BestOfSize.l0 k2 a2 t657 (Go.bits .or .i64 x9_2 (shl .i64 1 (ji20))) (wrap64 (x10_2 + 1))) else (none)) = some (r1, r2) := by first | (rw [hji20] at H; exact H) | (simp only [hji20] at H ⊢; exact H)
         by_cases c21 : 0 ≤ (ji20)
         ·rw [if_pos c21] at H
          have c21b0 := eq_true c21
          have c21b1 : decide (0 ≤ (ji20)) = true := decide_eq_true c21
          clear c21
          obtain ⟨ji22, hji22⟩ : ∃ j_ : Int, (shl .i64 1 (ji20)) = j_ := ⟨_, rfl⟩
          replace H : (spec_BestOfSize.l0 k2 a2 t657 (Go.bits .or .i64 x9_2 (ji22)) (wrap64 (x10_2 + 1))) = some (r1, r2) := by first | (rw [hji22] at H; exact H) | (simp only [hji22] at H ⊢; exact H)
          have hji22_ : (IntKind.i64.wrap (1 * 2 ^ min (ji20).toNat 64)) = ji22 := hji22
          have hji22z : (ji20) ≤ 64 → (IntKind.i64.wrap (1 * 2 ^ (ji20).toNat)) = ji22 := shl_small hji22
          have hji22u : (IntKind.i64.wrap (2 ^ min (ji20).toNat 64)) = ji22 := by have h_ := hji22_; rw [Int.one_mul] at h_; exact h_
          have hji22v : (ji20) ≤ 64 → (IntKind.i64.wrap (2 ^ (ji20).toNat)) = ji22 := fun hle_ => by have h_ := hji22z hle_; rw [Int.one_mul] at h_; exact h_
          have hji22y : (wrap64 (1 * 2 ^ min (ji20).toNat 64)) = ji22 := (i64_w _).symm.trans hji22_
          have hji22x : (ji20) ≤ 64 → (wrap64 (1 * 2 ^ (ji20).toNat)) = ji22 := fun h_ => (i64_w _).symm.trans (hji22z h_)
          have H' := Aside0.mk H
          clear H
          obtain ⟨Ao23, co23, eo23⟩ := Kd.R_slice HO_8.out
          subst eo23
          have p660 : 0 ≤ (x10_2 : Int) := Hof.D
          have q660 : x10_2 < (t657.length : Int) := Hof.D
          obtain ⟨ad660, e660, hx660_0⟩ := Kd.at_int (Kd.R_reads' HO_8.out).2.2 x10_2 p660 q660
          cases e660
          replace p660 := eq_true p660
          replace q660 := eq_true q660
          go_wp2
          go_roundg k2
          case measure => have := HJ3.out; have := HK2.out; omega
          case rel => exact ⟨(Go.bits .or .i64 x9_2 (ji22)), (wrap64 (x10_2 + 1)), (by first | rfl | (simp; done) | (simp only [← hji22] <;> (first | rfl | simp)) | (simp [*]; done)), Hof.F, H', ⟨by have := HJ3.out; have := HK2.out; omega⟩, ⟨Hof.Rw HO_8.out⟩, ⟨Hof.Bw BK653.out⟩, ⟨Hof.Lw HB.out⟩⟩
         ·rw [if_neg c21] at H
          exact absurd H (by simp)
        ·rw [if_neg c19] at H
         exact absurd H (by simp)
       ·rw [if_neg c18] at H
        exact absurd H (by simp)
      ·rw [if_neg c17] at H
       have c17b0 : decide (x10_2 < a2) = false := decide_eq_false c17
       clear c17
       simp only [Option.some.injEq, Prod.mk.injEq] at H
       obtain ⟨rfl, rfl⟩ := H
       go_wp2
       go_ret2
       exact ⟨Hof.E, Hof.L⟩
def spec_GreedyBase.f (k : Nat) (a0_0 : Int) (l0_1 : List Int) (l1 : List Int) : Option (Int × Bool) := (spec_RankOfMatroid.f k a0_0 l0_1).bind fun t662 => ((spec_BestOfSize.f k a0_0 l0_1 l1 t662).bind fun bt663 => (some (bt663.1, bt663.2)))
def spec_GreedyBase.T1 : Bool × List (List Nat × List Nat) := (true, [([], []), ([], []), ([], []), ([2], [2]), ([0, 1, 3, 3], [0, 1, 3]), ([4], [4]), ([5], [5]), ([5], [5]), ([6, 4, 0, 1, 2, 3, 4, 5, 6], [6]), ([7, 8, 0, 1, 2, 3, 4, 5, 6, 7, 8], [7])])
def spec_GreedyBase.B1 : List Nat := [0, 0, 0, 4, 15, 31, 63, 63, 127, 511]
theorem spec_GreedyBase.tab1 : rtab .any (opsOf Tryz.f76 1) = spec_GreedyBase.T1 := by kernel_rfl
theorem spec_GreedyBase.bits1 : waitsOk spec_GreedyBase.T1.2 spec_GreedyBase.B1 = true := by kernel_rfl
set_option maxHeartbeats 8000000 in
set_option maxRecDepth 100000 in
theorem spec_GreedyBase.calls (k : Nat) (a0_0 : Int) (A0_1 : Option Addr) (c0_1 : Nat) (l0_1 : List Int) (A1 : Option Addr) (c1 : Nat) (l1 : List Int) (r1 : Int) (r2 : Bool) (w : World) (hr0_1 : Kd.C (Kd.int .i64) w A0_1 l0_1.length l0_1) (hc0_1 : l0_1.length ≤ c0_1) (hr1 : Kd.C (Kd.int .i64) w A1 l1.length l1) (hc1 : l1.length ≤ c1) (h : spec_GreedyBase.f k a0_0 l0_1 l1 = some (r1, r2)) :
  Calls Tryz.prog 76 #[.agg #[.int .i64 a0_0, .slice A0_1 l0_1.length c0_1], .slice A1 l1.length c1] w fun e w' => e = .returned (.tuple #[.int .i64 r1, .bool r2]) ∧ Below w.heap.size w w' := by
 have hu30 := Tryz.underlying30
 have HR0_1 := Aside0.mk hr0_1
 have HC0_1 := Aside0.mk hc0_1
 clear hr0_1 hc0_1
 have HR1 := Aside0.mk hr1
 have HC1 := Aside0.mk hc1
 clear hr1 hc1
 have HB := Aside0.mk (Below.refl w.heap.size w)
 unfold spec_GreedyBase.f at h
 have H := h
 clear h
 obtain ⟨t662, A3, H⟩ := Hof.be H
 (try dsimp only at H)
 obtain ⟨⟨t663, t664⟩, A4, H⟩ := Hof.be H
 (try dsimp only at H)
 simp only [Option.some.injEq, Prod.mk.injEq] at H
 obtain ⟨rfl, rfl⟩ := H
 go_enter Tryz.func76, Tryz.ntmps76
 try go_wp2_with (first | (refine Hof.bx 2 #[.int .i64 a0_0, .slice A0_1 l0_1.length c0_1] 30 ?_; intro gb661 hg w5 hbox hb; have BK661 := Aside0.mk hbox; have GW661 := Hof.gw hg HB; have GE661 := Hof.gw hg HB; replace HB := Hof.lb HB hb; clear hb hbox hg))
 have n0_ := Aside0.mk (blk_drew BK661.out)
 have n1_ := Aside0.mk (below_drew1 HB.out)
 clear BK661
 clear HB
 have BK661 := n0_
 have HB := n1_
 clear n0_ n1_
 refine start_ (n := 10) (S := fun w' => w'.cell? ⟨gb661, 0, none⟩ = some (.int .i64 a0_0) ∧ w'.cell? ⟨gb661, 1, none⟩ = some (.slice A0_1 l0_1.length c0_1)) (ds := []) #[false, false, false, false, false, false, false, false, false, false] (by kernel_rfl) rfl rfl ⟨(blk_cell BK661.out 0).trans rfl, (blk_cell BK661.out 1).trans rfl⟩ (fun hHeld => ?_); refine with_tabW spec_GreedyBase.tab1 spec_GreedyBase.bits1 (fun HT_ HW_ => ?_)
 generalize w5.drew = w6 at BK661 HB hHeld ⊢
 refine Hof.pu 1 10 HT_ ?_
 refine Hof.tk 0 9 HT_ HW_ hHeld ?_
 refine Hof.tk 2 11 HT_ HW_ hHeld ?_
 refine one_ (i := 3) (N := some 12) #[true, true, true, true, false, false, false, false, false, false] rfl rfl (one_of HT_.out (by kernel_rfl)) (by decide) (fun K hK => ?_)
 refine goes_ Tryz.func47 (by kernel_rfl) rfl #[.agg #[.int .i64 a0_0, .slice A0_1 l0_1.length c0_1]] (by rfl) rfl rfl (by (try simp only [List.map_toArray, List.map_cons, List.map_nil]); first | done | rfl) ?_
 with_reducible refine (spec_RankOfMatroid.calls k a0_0 _ _ l0_1 t662 _ ?side1 ?side2 A3.out).mono ?_
 (case side1 => exact Hof.Cw (Kd.C_below HR0_1.out HB.out))
 (case side2 => exact HC0_1.out)
 rintro e w7 ⟨rfl, hb⟩
 refine ⟨_, rfl, ?_⟩
 have n0_ := Hof.bb BK661 hb
 have n1_ := Hof.lb HB hb
 clear BK661
 clear HB
 have BK661 := n0_
 have HB := n1_
 clear n0_ n1_
 (try clear hb)
 (try clear hb2)
 (try clear hk)
 (try clear hi)
 refine hK.out _ _ ⟨(blk_cell BK661.out 0).trans rfl, (blk_cell BK661.out 1).trans rfl⟩ (fun hHeld => ?_)
 clear hK K
 refine norm_ (a' := ?_) ?_ ?_
 rotate_left
 ·show Act.put _ (some 12) _ = _
  simp only [Act.put, List.setIfInBounds_toArray, List.set_cons_zero, List.set_cons_succ, i64_w, i32_w]
  rfl
 refine one_ (i := 4) (N := some 13) #[true, true, true, true, true, false, false, false, false, false] rfl rfl (one_of HT_.out (by kernel_rfl)) (by decide) (fun K hK => ?_)
 refine goes_ Tryz.func129 (by kernel_rfl) rfl #[.agg #[.int .i64 a0_0, .slice A0_1 l0_1.length c0_1], .slice A1 l1.length c1, .int .i64 t662] (by rfl) rfl rfl (by (try simp only [List.map_toArray, List.map_cons, List.map_nil]); first | done | rfl) ?_
 with_reducible refine (spec_BestOfSize.calls k a0_0 _ _ l0_1 _ _ l1 t662 t663 t664 _ ?side1 ?side2 ?side3 ?side4 A4.out).mono ?_
 (case side1 => exact Hof.Cw (Kd.C_below HR0_1.out HB.out))
 (case side2 => exact HC0_1.out)
 (case side3 => exact Hof.Cw (Kd.C_below HR1.out HB.out))
 (case side4 => exact HC1.out)
 rintro e w8 ⟨rfl, hb⟩
 refine ⟨_, rfl, ?_⟩
 have n0_ := Hof.bb BK661 hb
 have n1_ := Hof.lb HB hb
 clear BK661
 clear HB
 have BK661 := n0_
 have HB := n1_
 clear n0_ n1_
 (try clear hb)
 (try clear hb2)
 (try clear hk)
 (try clear hi)
 refine hK.out _ _ ⟨(blk_cell BK661.out 0).trans rfl, (blk_cell BK661.out 1).trans rfl⟩ (fun hHeld => ?_)
 clear hK K
 refine norm_ (a' := ?_) ?_ ?_
 rotate_left
 ·show Act.put _ (some 13) _ = _
  simp only [Act.put, List.setIfInBounds_toArray, List.set_cons_zero, List.set_cons_succ, i64_w, i32_w]
  rfl
 refine Hof.pu 5 8 HT_ ?_
 refine Hof.pu 6 14 HT_ ?_
 refine Hof.pu 7 15 HT_ ?_
 refine Hof.pu 8 6 HT_ ?_
 refine Hof.pu 9 7 HT_ ?_
 refine done_ (done_of HT_.out (by kernel_rfl)) ?_
 try go_wp2
 go_ret2
 exact ⟨Hof.E, Hof.L⟩
def spec_BestTasks.l0 : Nat → List (S74) → List Int → Int → Option (Int × Bool)
 | 0, _, _, _ => none
 | k + 1, x0, x4, x5 => if x5 < (x0.length : Int) then (if 0 ≤ x5 then (if x4.length < 17592186044416 then (spec_BestTasks.l0 k x0 (x4 ++ [(rd_T74 x0 x5).f1]) (wrap64 (x5 + 1))) else (none)) else (none)) else ((spec_TaskMatroid.f k x0).bind fun bt672 => ((spec_GreedyBase.f k bt672.1 bt672.2 x4).bind fun bt676 => (some (bt676.1, bt676.2))))
def spec_BestTasks.f (k : Nat) (l0 : List (S74)) : Option (Int × Bool) := spec_BestTasks.l0 k l0 (([] : List Int)) 0
set_option maxHeartbeats 8000000 in
set_option maxRecDepth 100000 in
theorem spec_BestTasks.calls (k : Nat) (A0 : Option Addr) (c0 : Nat) (l0 : List (S74)) (r1 : Int) (r2 : Bool) (w : World) (hr0 : Kd.C k74 w A0 l0.length l0) (hc0 : l0.length ≤ c0) (h : spec_BestTasks.f k l0 = some (r1, r2)) :
  Calls Tryz.prog 9 #[.slice A0 l0.length c0] w fun e w' => e = .returned (.tuple #[.int .i64 r1, .bool r2]) ∧ Below w.heap.size w w' := by
 have HR0 := Aside0.mk hr0
 have HC0 := Aside0.mk hc0
 clear hr0 hc0
 have HB := Aside0.mk (Below.refl w.heap.size w)
 unfold spec_BestTasks.f at h
 have H := h
 clear h
 obtain ⟨y665, hy665⟩ : ∃ y_ : List Int, y_ = (([] : List Int)) := ⟨_, rfl⟩
 replace H : (spec_BestTasks.l0 k l0 y665 0) = some (r1, r2) := by (try rw [hy665]); exact Hof.Z
 have Ny665 := Aside0.mk hy665
 clear hy665
 have H' := Aside0.mk H
 clear H
 go_enter Tryz.func9, Tryz.ntmps9
 go_wp2_with (first | (refine Hof.lt (Kd.int .i64) 3 8 ?_; intro v666 w2 ho3 hb hg_ hnew_; clear hg_ hnew_; (first | rw [← Ny665.out] at ho3 | (simp only [Int.reduceToNat] at ho3; rw [← Ny665.out] at ho3)); have HO667 := Aside0.mk (Kd.R_lower ho3 (below_size (Hof.Lw HB.out))); replace HB := Hof.lb HB hb; clear hb ho3))
 go_loopg [4, 5] k (fun kq v4 v5 w' => ∃ (x4_1 : List Int) (x5_1 : Int), v5 = .int .i64 x5_1 ∧ Aside0 (spec_BestTasks.l0 kq l0 x4_1 x5_1 = some (r1, r2)) ∧ Aside0 (kq ≤ k) ∧ Aside0 (Kd.R (Kd.int .i64) 3 w' w.heap.size (fun _ => True) v4 x4_1) ∧ Aside0 (Below w.heap.size w w'))
 case atStart => exact ⟨(y665), (0), Hof.F, H', ⟨Nat.le_refl _⟩, ⟨Hof.Rw HO667.out⟩, ⟨Hof.Lw HB.out⟩⟩
 case round =>
  clear H'
  obtain ⟨x4_1, x5_1, rfl, HA, HK1, HO_4, HB⟩ := hrel
  cases gk with
  | zero => exact absurd HA.out (by simp [spec_BestTasks.l0])
  | succ k1 =>
   have H := HA.out
   clear HA
   simp only [spec_BestTasks.l0] at H
   by_cases c4 : x5_1 < (l0.length : Int)
   ·rw [if_pos c4] at H
    have c4b0 := decide_eq_true c4
    clear c4
    by_cases c5 : 0 ≤ x5_1
    ·rw [if_pos c5] at H
     have c5b0 := decide_eq_true c5
     clear c5
     by_cases c6 : x4_1.length < 17592186044416
     ·rw [if_pos c6] at H
      have LMc6 := Aside0.mk c6
      clear c6
      obtain ⟨y669, hy669⟩ : ∃ y_ : List Int, y_ = (x4_1 ++ [(rd_T74 l0 x5_1).f1]) := ⟨_, rfl⟩
      replace H : (spec_BestTasks.l0 k1 l0 y669 (wrap64 (x5_1 + 1))) = some (r1, r2) := by (try rw [hy669]); exact Hof.Z
      have Ny669 := Aside0.mk hy669
      clear hy669
      have H' := Aside0.mk H
      clear H
      have p668 : 0 ≤ (x5_1 : Int) := Hof.D
      have q668 : x5_1 < (l0.length : Int) := Hof.D
      obtain ⟨ad668, e668, hx668_0, hx668_1⟩ := at_T74 HR0.out x5_1 p668 q668
      cases e668
      try replace hx668_0 := (HB.out.cell (World.block_lt_of_cell? w _ hx668_0)).trans hx668_0
      try replace hx668_1 := (HB.out.cell (World.block_lt_of_cell? w _ hx668_1)).trans hx668_1
      replace p668 := eq_true p668
      replace q668 := eq_true q668
      go_wp2_with (first | ((with_reducible refine gate_builtin (b := .append) (xs := #[.tmp 15, .tmp 21]) rfl ?_); at_builtin; refine Kd.R_append (Kd.int .i64) (w0 := w) w.heap.size rfl (.tmp 15) (.tmp 21) 28 3 (.int .i64 0) 8 rfl Tryz.underlying28 info3 rfl (by decide) (by omega) u4 x4_1 ((rd_T74 l0 x5_1).f1) [.int .i64 ((rd_T74 l0 x5_1).f1)] (fun _ => True) (fun _ => False) rfl rfl (by exact rfl) (fun _ hk => hk.elim) (by exact fun _ _ => trivial) (by exact Hof.Rw HO_4.out) (by exact Hof.Lw HB.out) (by exact below_size (Hof.Lw HB.out)) (by have := LMc6.out; omega) ?_; intro v670 w7 ho hb hg hat; rw [← Ny669.out] at ho; have n0_ := Aside0.mk hb; have n1_ := Aside0.mk ho; clear HB; clear HO_4; have HB := n0_; have HO671 := n1_; clear n0_ n1_; clear ho hb hg hat))
      go_roundg k1
      case measure => have := HK1.out; omega
      case rel => exact ⟨(y669), (wrap64 (x5_1 + 1)), Hof.F, H', ⟨by have := HK1.out; omega⟩, ⟨Hof.Rw HO671.out⟩, ⟨Hof.Lw HB.out⟩⟩
     ·rw [if_neg c6] at H
      exact absurd H (by simp)
    ·rw [if_neg c5] at H
     exact absurd H (by simp)
   ·rw [if_neg c4] at H
    have c4b0 : decide (x5_1 < (l0.length : Int)) = false := decide_eq_false c4
    clear c4
    obtain ⟨⟨t672, t673⟩, A8, H⟩ := Hof.be H
    (try dsimp only at H)
    obtain ⟨⟨t676, t677⟩, A9, H⟩ := Hof.be H
    (try dsimp only at H)
    simp only [Option.some.injEq, Prod.mk.injEq] at H
    obtain ⟨rfl, rfl⟩ := H
    go_wp2_with (first | (refine Hof.gl (some 25) Tryz.func16 #[.slice A0 l0.length c0] ?_; (with_reducible refine (spec_TaskMatroid.calls k1 _ _ l0 t672 t673 _ ?side1 ?side2 A8.out).mono ?_); (case side1 => exact Hof.Cw (Kd.C_below HR0.out HB.out)); (case side2 => exact HC0.out); rintro e w10 ⟨v674, rfl, ho0, hb⟩; refine ⟨_, rfl, ?_⟩; have HO675 := Aside0.mk (Kd.R_lower (Kd.R_new' ho0 (Kd.R_lt (Hof.Rw HO_4.out))) (below_size (Hof.Lw HB.out))); replace HO_4 := Aside0.mk (Kd.R_elder' (Hof.Rw HO_4.out) (Kd.R_base ho0) hb); replace HB := Hof.lb HB hb; (try clear hb); (try clear hb2); (try clear hk); (try clear hi); (try clear ho0); obtain ⟨Ao11, co11, eo11⟩ := Kd.R_slice HO675.out; subst eo11; obtain ⟨Ao12, co12, eo12⟩ := Kd.R_slice HO_4.out; subst eo12) | (refine Hof.gl (some 27) Tryz.func76 #[.agg #[.int .i64 t672, .slice Ao11 t673.length co11], .slice Ao12 x4_1.length co12] ?_; (with_reducible refine (spec_GreedyBase.calls k1 t672 _ _ t673 _ _ x4_1 t676 t677 _ ?side1 ?side2 ?side3 ?side4 A9.out).mono ?_); (case side1 => exact Hof.Cw ((Kd.R_reads' HO675.out).2.2)); (case side2 => exact (Kd.R_reads' HO675.out).2.1); (case side3 => exact Hof.Cw ((Kd.R_reads' HO_4.out).2.2)); (case side4 => exact (Kd.R_reads' HO_4.out).2.1); rintro e w13 ⟨rfl, hb⟩; refine ⟨_, rfl, ?_⟩; replace HO_4 := Hof.rb HO_4 hb; replace HO675 := Hof.rb HO675 hb; replace HB := Hof.lb HB hb; (try clear hb); (try clear hb2); (try clear hk); (try clear hi)))
    go_ret2
    exact ⟨Hof.E, Hof.L⟩
def spec_l1Min.f (a0 : Int) (a1 : Int) : Option (Int) := if a0 < a1 then (some a0) else (some a1)
set_option maxHeartbeats 8000000 in
set_option maxRecDepth 100000 in
theorem spec_l1Min.calls (a0 : Int) (a1 : Int) (r : Int) (w : World) (h : spec_l1Min.f a0 a1 = some r) :
  Calls Tryz.prog 81 #[.int .i64 a0, .int .i64 a1] w fun e w' => e = .returned (.int .i64 r) ∧ Drawn0 w w' := by
 unfold spec_l1Min.f at h
 have H := h
 clear h
 by_cases c3 : a0 < a1
 ·rw [if_pos c3] at H
  have c3b0 := decide_eq_true c3
  clear c3
  obtain rfl := Option.some.inj H
  go_enter Tryz.func81, Tryz.ntmps81
  go_wp2
  go_ret
  exact ⟨Hof.F, Hof.G⟩
 ·rw [if_neg c3] at H
  have c3b0 : decide (a0 < a1) = false := decide_eq_false c3
  clear c3
  obtain rfl := Option.some.inj H
  go_enter Tryz.func81, Tryz.ntmps81
  go_wp2
  go_ret
  exact ⟨Hof.F, Hof.G⟩
def spec_DrawPlanOf.f (k : Nat) (l0 : List Int) : Option ((List (S74)) × Int) := (spec_l1New.f k l0).bind fun bt678 => ((spec_l28Draw.f k bt678.1 bt678.2.1 bt678.2.2).bind fun bt682 => ((spec_l1Min.f (bt682.1.length : Int) 8).bind fun t687 => (if 0 ≤ (IntKind.u64.wrap (t687)) then ((spec_l1Below.f bt678.1 bt682.2.1 bt682.2.2 (wrap64 ((shl .i64 1 (IntKind.u64.wrap (t687))) + 2))).bind fun bt688 => (some (bt682.1, bt688.1))) else (none))))
set_option maxHeartbeats 8000000 in
set_option maxRecDepth 100000 in
theorem spec_DrawPlanOf.calls (k : Nat) (A0 : Option Addr) (c0 : Nat) (l0 : List Int) (r1 : List (S74)) (r2 : Int) (w : World) (hr0 : Kd.C (Kd.int .u8) w A0 l0.length l0) (hc0 : l0.length ≤ c0) (h : spec_DrawPlanOf.f k l0 = some (r1, r2)) :
  Calls Tryz.prog 11 #[.slice A0 l0.length c0] w fun e w' => ∃ v0_ : Value, e = .returned (.tuple #[v0_, .int .i64 r2]) ∧ Kd.R k74 74 w' w.heap.size (fun _ => True) v0_ r1 ∧ Below w.heap.size w w' := by
 have HR0 := Aside0.mk hr0
 have HC0 := Aside0.mk hc0
 clear hr0 hc0
 have HB := Aside0.mk (Below.refl w.heap.size w)
 unfold spec_DrawPlanOf.f at h
 have H := h
 clear h
 obtain ⟨⟨t678, t679, t680⟩, A2, H⟩ := Hof.be H
 (try dsimp only at H)
 obtain ⟨⟨t682, t685, t686⟩, A3, H⟩ := Hof.be H
 (try dsimp only at H)
 obtain ⟨t687, A4, H⟩ := Hof.be H
 (try dsimp only at H)
 obtain ⟨ji5, hji5⟩ : ∃ j_ : Int, (IntKind.u64.wrap (t687)) = j_ := ⟨_, rfl⟩
 replace H : (if 0 ≤ (ji5) then ((spec_l1Below.f t678 t685 t686 (wrap64 ((shl .i64 1 (ji5)) + 2))).bind fun bt688 => (some (t682, bt688.1))) else (none)) = some (r1, r2) := by first | (rw [hji5] at H; exact H) | (simp only [hji5] at H ⊢; exact H)
 (try rw [hji5] at A2)
 (try rw [hji5] at A3)
 (try rw [hji5] at A4)
 by_cases c6 : 0 ≤ (ji5)
 ·rw [if_pos c6] at H
  have c6b0 := eq_true c6
  have c6b1 : decide (0 ≤ (ji5)) = true := decide_eq_true c6
  clear c6
  obtain ⟨ji7, hji7⟩ : ∃ j_ : Int, (shl .i64 1 (ji5)) = j_ := ⟨_, rfl⟩
  replace H : ((spec_l1Below.f t678 t685 t686 (wrap64 ((ji7) + 2))).bind fun bt688 => (some (t682, bt688.1))) = some (r1, r2) := by first | (rw [hji7] at H; exact H) | (simp only [hji7] at H ⊢; exact H)
  (try rw [hji7] at A2)
  (try rw [hji7] at A3)
  (try rw [hji7] at A4)
  have hji7_ : (IntKind.i64.wrap (1 * 2 ^ min (ji5).toNat 64)) = ji7 := hji7
  have hji7z : (ji5) ≤ 64 → (IntKind.i64.wrap (1 * 2 ^ (ji5).toNat)) = ji7 := shl_small hji7
  have hji7u : (IntKind.i64.wrap (2 ^ min (ji5).toNat 64)) = ji7 := by have h_ := hji7_; rw [Int.one_mul] at h_; exact h_
  have hji7v : (ji5) ≤ 64 → (IntKind.i64.wrap (2 ^ (ji5).toNat)) = ji7 := fun hle_ => by have h_ := hji7z hle_; rw [Int.one_mul] at h_; exact h_
  have hji7y : (wrap64 (1 * 2 ^ min (ji5).toNat 64)) = ji7 := (i64_w _).symm.trans hji7_
  have hji7x : (ji5) ≤ 64 → (wrap64 (1 * 2 ^ (ji5).toNat)) = ji7 := fun h_ => (i64_w _).symm.trans (hji7z h_)
  obtain ⟨⟨t688, t689, t690⟩, A8, H⟩ := Hof.be H
  (try dsimp only at H)
  simp only [Option.some.injEq, Prod.mk.injEq] at H
  obtain ⟨rfl, rfl⟩ := H
  go_enter Tryz.func11, Tryz.ntmps11
  go_wp2_with (first | (refine Hof.gl (some 7) Tryz.func74 #[.slice A0 l0.length c0] ?_; (with_reducible refine (spec_l1New.calls k _ _ l0 t678 t679 t680 w _ ?side1 ?side2 ?side3 A2.out).mono ?_); (case side1 => repeat (first | (with_reducible first | exact HB.out | apply below_alloc | apply pw_below_drewN | apply below_drew1) | exact HB.out)); (case side2 => exact HR0.out); (case side3 => exact HC0.out); rintro e w9 ⟨g681, rfl, hi, hb, hb2⟩; refine ⟨_, rfl, ?_⟩; replace HB := Aside0.mk hb; have HI681 := Aside0.mk hi; (try clear hb); (try clear hb2); (try clear hk); (try clear hi)) | (refine Hof.gl (some 9) Tryz.func73 #[.pointer (some ⟨g681, 0, none⟩)] ?_; (with_reducible refine (spec_l28Draw.calls k g681 t678 t679 t680 t682 t685 t686 w _ ?side1 ?side2 A3.out).mono ?_); (case side1 => repeat (first | (with_reducible first | exact HI681.out | apply IsS109.alloc | apply IsS109.drewN | apply IsS109.drew | apply IsS109.set_1 | apply IsS109.set_2) | exact HI681.out)); (case side2 => repeat (first | (with_reducible first | exact HB.out | apply below_alloc | apply pw_below_drewN | apply below_drew1 | refine below_set ?_ (IsS109.ge HI681.out)) | exact HB.out)); rintro e w10 ⟨v683, rfl, ho0, hi, hb, hk⟩; refine ⟨_, rfl, ?_⟩; have HO684 := Aside0.mk (Kd.R_lower ho0 (below_size (by repeat (first | (with_reducible first | exact HB.out | apply below_alloc | apply pw_below_drewN | apply below_drew1 | refine below_set ?_ (IsS109.ge HI681.out)) | exact HB.out)))); replace HB := Aside0.mk hb; replace HI681 := Aside0.mk hi; (try clear hb); (try clear hb2); (try clear hk); (try clear hi); (try clear ho0); obtain ⟨Ao11, co11, eo11⟩ := Kd.R_slice HO684.out; subst eo11) | (refine Hof.gl (some 14) Tryz.func81 #[.int .i64 (t682.length : Int), .int .i64 8] ?_; (with_reducible refine (spec_l1Min.calls (t682.length : Int) 8 t687 _ A4.out).mono ?_); rintro e w' ⟨rfl, ⟨nd, rfl⟩⟩; refine ⟨_, rfl, ?_⟩) | ((with_reducible refine gate_callee (f := 80) rfl ?_); refine goesL_ (some 18) rfl rfl Tryz.func80 (by kernel_rfl) rfl #[.pointer (some ⟨g681, 0, none⟩), .int .i64 (wrap64 ((ji7) + 2))] rfl (by (try simp only [List.map_toArray, List.map_cons, List.map_nil]); first | done | (simp only [hji7]; rfl) | rfl | (simp only [List.length_drop, List.length_take]; rfl)) ?_; (with_reducible refine (spec_l1Below.calls g681 t678 t685 t686 (wrap64 ((ji7) + 2)) t688 t689 t690 w _ ?side1 ?side2 A8.out).mono ?_); (case side1 => repeat (first | (with_reducible first | exact HI681.out | apply IsS109.alloc | apply IsS109.drewN | apply IsS109.drew | apply IsS109.set_1 | apply IsS109.set_2) | exact HI681.out)); (case side2 => repeat (first | (with_reducible first | exact HB.out | apply below_alloc | apply pw_below_drewN | apply below_drew1 | refine below_set ?_ (IsS109.ge HI681.out)) | exact HB.out)); rintro e w12 ⟨rfl, hi, hb, hk⟩; refine ⟨_, rfl, ?_⟩; replace HO684 := Aside0.mk (Kd.R_mono (Kd.R_keep (IsS109.apart (show IsS109 w _ g681 t678 t685 t686 from by repeat (first | (with_reducible first | exact HI681.out | apply IsS109.alloc | apply IsS109.drewN | apply IsS109.drew | apply IsS109.set_1 | apply IsS109.set_2) | exact HI681.out)) (Hof.Rw HO684.out) (by decide)) hk (fun _ h => h.2)) (fun _ h => h.1)); replace HB := Aside0.mk hb; replace HI681 := Aside0.mk hi; (try clear hb); (try clear hb2); (try clear hk); (try clear hi)))
  go_ret2
  exact ⟨_, by first | rfl | (simp [errW_none, errW_some] <;> rfl) | (simp only [← hji5, ← hji7]; first | rfl | (simp [errW_none, errW_some] <;> rfl)) | (simp [*, errW_none, errW_some] <;> rfl), by (with_reducible repeat (first | apply Kd.R_alloc | apply Kd.R_drewN | apply Kd.R_drew)); exact HO684.out, by repeat (first | (with_reducible first | exact HB.out | apply below_alloc | apply pw_below_drewN | apply below_drew1 | refine below_set ?_ (IsS109.ge HI681.out)) | exact HB.out)⟩
 ·rw [if_neg c6] at H
  exact absurd H (by simp)
def spec_l1Once.f (s0_0 : List Int) (s0_1 : Int) (s0_2 : Int) (a1 : Int) : Option (Bool × Int × Int) := (spec_l1Below.f s0_0 s0_1 s0_2 a1).bind fun bt691 => (some ((bt691.1 == 0), bt691.2.1, bt691.2.2))
set_option maxHeartbeats 8000000 in
set_option maxRecDepth 100000 in
theorem spec_l1Once.calls (g : Nat) (s0_0 : List Int) (s0_1 : Int) (s0_2 : Int) (a1 : Int) (r1 : Bool) (r2 : Int) (r3 : Int) (w0 w : World) (hI : IsS109 w0 w g s0_0 s0_1 s0_2) (hB : Below w0.heap.size w0 w) (h : spec_l1Once.f s0_0 s0_1 s0_2 a1 = some (r1, r2, r3)) :
  Calls Tryz.prog 134 #[.pointer (some ⟨g, 0, none⟩), .int .i64 a1] w fun e w' => e = .returned (.bool r1) ∧ IsS109 w0 w' g s0_0 r2 r3 ∧ Below w0.heap.size w0 w' ∧ KeepBut w w' g none := by
 have HI0 := Aside0.mk hI
 have HK := Aside0.mk (KeepBut.refl w g none)
 have HL := Aside0.mk hB.size
 clear hI
 have HW0 := Aside0.mk hB.size
 have HB := Aside0.mk hB
 clear hB
 unfold spec_l1Once.f at h
 have H := h
 clear h
 obtain ⟨⟨t691, t692, t693⟩, A3, H⟩ := Hof.be H
 (try dsimp only at H)
 simp only [Option.some.injEq, Prod.mk.injEq] at H
 obtain ⟨rfl, rfl, rfl⟩ := H
 go_enter Tryz.func134, Tryz.ntmps134
 go_wp2_with (first | (refine Hof.gl (some 7) Tryz.func80 #[.pointer (some ⟨g, 0, none⟩), .int .i64 a1] ?_; (with_reducible refine (spec_l1Below.calls g s0_0 s0_1 s0_2 a1 t691 t692 t693 w0 _ ?side1 ?side2 A3.out).mono ?_); (case side1 => repeat (first | (with_reducible first | exact HI0.out | apply IsS109.alloc | apply IsS109.drewN | apply IsS109.drew | apply IsS109.set_1 | apply IsS109.set_2) | exact HI0.out)); (case side2 => repeat (first | (with_reducible first | exact HB.out | apply below_alloc | apply pw_below_drewN | apply below_drew1 | refine below_set ?_ (IsS109.ge HI0.out)) | exact HB.out)); rintro e w4 ⟨rfl, hi, hb, hk⟩; refine ⟨_, rfl, ?_⟩; replace HK := Aside0.mk (KeepBut.trans (by repeat (first | (with_reducible first | exact HK.out | apply KeepBut.set_ | apply keep_drewN | apply keep_drew | apply keep_alloc) | exact HK.out)) hk (.inl rfl)); replace HB := Aside0.mk hb; replace HI0 := Aside0.mk hi; (try clear hb); (try clear hb2); (try clear hk); (try clear hi)))
 go_ret
 exact ⟨Hof.E, by repeat (first | (with_reducible first | exact HI0.out | apply IsS109.alloc | apply IsS109.drewN | apply IsS109.drew | apply IsS109.set_1 | apply IsS109.set_2) | exact HI0.out), by repeat (first | (with_reducible first | exact HB.out | apply below_alloc | apply pw_below_drewN | apply below_drew1 | refine below_set ?_ (IsS109.ge HI0.out)) | exact HB.out), by repeat (first | (with_reducible first | exact HK.out | apply KeepBut.set_ | apply keep_drewN | apply keep_drew | apply keep_alloc) | exact HK.out)⟩
def spec_l2Draw.f (s0_0 : List Int) (s0_1 : Int) (s0_2 : Int) : Option (Int × Int × Int) := (spec_l1Below.f s0_0 s0_1 s0_2 256).bind fun bt694 => (some (bt694.1, bt694.2.1, bt694.2.2))
set_option maxHeartbeats 8000000 in
set_option maxRecDepth 100000 in
theorem spec_l2Draw.calls (g : Nat) (s0_0 : List Int) (s0_1 : Int) (s0_2 : Int) (r1 : Int) (r2 : Int) (r3 : Int) (w0 w : World) (hI : IsS109 w0 w g s0_0 s0_1 s0_2) (hB : Below w0.heap.size w0 w) (h : spec_l2Draw.f s0_0 s0_1 s0_2 = some (r1, r2, r3)) :
  Calls Tryz.prog 135 #[.pointer (some ⟨g, 0, none⟩)] w fun e w' => e = .returned (.int .i64 r1) ∧ IsS109 w0 w' g s0_0 r2 r3 ∧ Below w0.heap.size w0 w' ∧ KeepBut w w' g none := by
 have HI0 := Aside0.mk hI
 have HK := Aside0.mk (KeepBut.refl w g none)
 have HL := Aside0.mk hB.size
 clear hI
 have HW0 := Aside0.mk hB.size
 have HB := Aside0.mk hB
 clear hB
 unfold spec_l2Draw.f at h
 have H := h
 clear h
 obtain ⟨⟨t694, t695, t696⟩, A2, H⟩ := Hof.be H
 (try dsimp only at H)
 simp only [Option.some.injEq, Prod.mk.injEq] at H
 obtain ⟨rfl, rfl, rfl⟩ := H
 go_enter Tryz.func135, Tryz.ntmps135
 go_wp2_with (first | (refine Hof.gl (some 4) Tryz.func80 #[.pointer (some ⟨g, 0, none⟩), .int .i64 256] ?_; (with_reducible refine (spec_l1Below.calls g s0_0 s0_1 s0_2 256 t694 t695 t696 w0 _ ?side1 ?side2 A2.out).mono ?_); (case side1 => repeat (first | (with_reducible first | exact HI0.out | apply IsS109.alloc | apply IsS109.drewN | apply IsS109.drew | apply IsS109.set_1 | apply IsS109.set_2) | exact HI0.out)); (case side2 => repeat (first | (with_reducible first | exact HB.out | apply below_alloc | apply pw_below_drewN | apply below_drew1 | refine below_set ?_ (IsS109.ge HI0.out)) | exact HB.out)); rintro e w3 ⟨rfl, hi, hb, hk⟩; refine ⟨_, rfl, ?_⟩; replace HK := Aside0.mk (KeepBut.trans (by repeat (first | (with_reducible first | exact HK.out | apply KeepBut.set_ | apply keep_drewN | apply keep_drew | apply keep_alloc) | exact HK.out)) hk (.inl rfl)); replace HB := Aside0.mk hb; replace HI0 := Aside0.mk hi; (try clear hb); (try clear hb2); (try clear hk); (try clear hi)))
 go_ret
 exact ⟨Hof.E, by repeat (first | (with_reducible first | exact HI0.out | apply IsS109.alloc | apply IsS109.drewN | apply IsS109.drew | apply IsS109.set_1 | apply IsS109.set_2) | exact HI0.out), by repeat (first | (with_reducible first | exact HB.out | apply below_alloc | apply pw_below_drewN | apply below_drew1 | refine below_set ?_ (IsS109.ge HI0.out)) | exact HB.out), by repeat (first | (with_reducible first | exact HK.out | apply KeepBut.set_ | apply keep_drewN | apply keep_drew | apply keep_alloc) | exact HK.out)⟩
def spec_l2Bent.f (s0_0 : List Int) (s0_1 : Int) (s0_2 : Int) : Option (Int × Int × Int) := (spec_l1Once.f s0_0 s0_1 s0_2 8).bind fun bt697 => (if bt697.1 = true then ((spec_l1PickInt.f s0_0 bt697.2.1 bt697.2.2 (([(-1), 256, 1000, (-9223372036854775808)] : List Int))).bind fun bt703 => (some (bt703.1, bt703.2.1, bt703.2.2))) else ((spec_l2Draw.f s0_0 bt697.2.1 bt697.2.2).bind fun bt706 => (some (bt706.1, bt706.2.1, bt706.2.2))))
set_option maxHeartbeats 8000000 in
set_option maxRecDepth 100000 in
theorem spec_l2Bent.calls (g : Nat) (s0_0 : List Int) (s0_1 : Int) (s0_2 : Int) (r1 : Int) (r2 : Int) (r3 : Int) (w0 w : World) (hI : IsS109 w0 w g s0_0 s0_1 s0_2) (hB : Below w0.heap.size w0 w) (h : spec_l2Bent.f s0_0 s0_1 s0_2 = some (r1, r2, r3)) :
  Calls Tryz.prog 90 #[.pointer (some ⟨g, 0, none⟩)] w fun e w' => e = .returned (.int .i64 r1) ∧ IsS109 w0 w' g s0_0 r2 r3 ∧ Below w0.heap.size w0 w' ∧ KeepBut w w' g none := by
 have HI0 := Aside0.mk hI
 have HK := Aside0.mk (KeepBut.refl w g none)
 have HL := Aside0.mk hB.size
 clear hI
 have HW0 := Aside0.mk hB.size
 have HB := Aside0.mk hB
 clear hB
 unfold spec_l2Bent.f at h
 have H := h
 clear h
 obtain ⟨⟨t697, t698, t699⟩, A2, H⟩ := Hof.be H
 (try dsimp only at H)
 by_cases c3 : t697 = true
 ·subst c3
  replace H : ((spec_l1PickInt.f s0_0 t698 t699 (([(-1), 256, 1000, (-9223372036854775808)] : List Int))).bind fun bt703 => (some (bt703.1, bt703.2.1, bt703.2.2))) = some (r1, r2, r3) := by rw [if_pos rfl] at H; exact H
  obtain ⟨y700, hy700⟩ : ∃ y_ : List Int, y_ = (([(-1), 256, 1000, (-9223372036854775808)] : List Int)) := ⟨_, rfl⟩
  replace H : ((spec_l1PickInt.f s0_0 t698 t699 y700).bind fun bt703 => (some (bt703.1, bt703.2.1, bt703.2.2))) = some (r1, r2, r3) := by (try rw [hy700]); exact Hof.Z
  have Ny700 := Aside0.mk hy700
  clear hy700
  obtain ⟨⟨t703, t704, t705⟩, A4, H⟩ := Hof.be H
  (try dsimp only at H)
  simp only [Option.some.injEq, Prod.mk.injEq] at H
  obtain ⟨rfl, rfl, rfl⟩ := H
  go_enter Tryz.func90, Tryz.ntmps90
  go_wp2_with (first | (refine Hof.gl (some 4) Tryz.func134 #[.pointer (some ⟨g, 0, none⟩), .int .i64 8] ?_; (with_reducible refine (spec_l1Once.calls g s0_0 s0_1 s0_2 8 true t698 t699 w0 _ ?side1 ?side2 A2.out).mono ?_); (case side1 => repeat (first | (with_reducible first | exact HI0.out | apply IsS109.alloc | apply IsS109.drewN | apply IsS109.drew | apply IsS109.set_1 | apply IsS109.set_2) | exact HI0.out)); (case side2 => repeat (first | (with_reducible first | exact HB.out | apply below_alloc | apply pw_below_drewN | apply below_drew1 | refine below_set ?_ (IsS109.ge HI0.out)) | exact HB.out)); rintro e w5 ⟨rfl, hi, hb, hk⟩; refine ⟨_, rfl, ?_⟩; replace HK := Aside0.mk (KeepBut.trans (by repeat (first | (with_reducible first | exact HK.out | apply KeepBut.set_ | apply keep_drewN | apply keep_drew | apply keep_alloc) | exact HK.out)) hk (.inl rfl)); replace HB := Aside0.mk hb; replace HI0 := Aside0.mk hi; (try clear hb); (try clear hb2); (try clear hk); (try clear hi)) | ((with_reducible refine gate_dst (N := 6) rfl ?_); refine Kd.R_lit (Kd.int .i64) _ 3 ?hg (N := 6) ?hd (xs := ([(-1), 256, 1000, (-9223372036854775808)] : List Int)) (inner := [.int .i64 (-1), .int .i64 256, .int .i64 1000, .int .i64 (-9223372036854775808)]) (ok := fun _ => True) (okp := fun _ => True) ?hr ?hp (fun _ hk => hk) trivial (Below.refl _ _) (Nat.le_refl _) (by simp) ?_; (case hd => rfl); (case hg => rfl); (case hr => first | (go_simp; done) | (go_simp; rfl)); (case hp => exact (Reps.one (show Kd.M (Kd.int .i64) _ _ _ (-1) [.int .i64 (-1)] from rfl) (Reps.one (show Kd.M (Kd.int .i64) _ _ _ 256 [.int .i64 256] from rfl) (Reps.one (show Kd.M (Kd.int .i64) _ _ _ 1000 [.int .i64 1000] from rfl) (Reps.one (show Kd.M (Kd.int .i64) _ _ _ (-9223372036854775808) [.int .i64 (-9223372036854775808)] from rfl) (Reps.none _ _)))))); intro v701 w6 ho7 hb hg_ hnew_; clear hg_ hnew_; (first | rw [← Ny700.out] at ho7 | (simp only [Int.reduceToNat] at ho7; rw [← Ny700.out] at ho7)); have HO702 := Aside0.mk (Kd.R_lower ho7 (keep_size (w := w) (g := g) (row := none) (by repeat (first | (with_reducible first | exact HK.out | apply KeepBut.set_ | apply keep_drewN | apply keep_drew | apply keep_alloc) | exact HK.out)))); replace HK := Aside0.mk (KeepBut.trans (by repeat (first | (with_reducible first | exact HK.out | apply KeepBut.set_ | apply keep_drewN | apply keep_drew | apply keep_alloc) | exact HK.out)) (KeepBut.of_below hb g none) (.inl rfl)); replace HB := Aside0.mk (below_step (by repeat (first | (with_reducible first | exact HB.out | apply below_alloc | apply pw_below_drewN | apply below_drew1 | refine below_set ?_ (IsS109.ge HI0.out)) | exact HB.out)) hb); replace HI0 := Aside0.mk (IsS109.below (by repeat (first | (with_reducible first | exact HI0.out | apply IsS109.alloc | apply IsS109.drewN | apply IsS109.drew | apply IsS109.set_1 | apply IsS109.set_2) | exact HI0.out)) hb); clear hb ho7; obtain ⟨Ao8, co8, eo8⟩ := Kd.R_slice HO702.out; subst eo8) | (refine Hof.gl (some 7) Tryz.func119 #[.pointer (some ⟨g, 0, none⟩), .slice Ao8 y700.length co8] ?_; (with_reducible refine (spec_l1PickInt.calls g s0_0 t698 t699 _ _ y700 t703 t704 t705 w0 _ ?side1 ?side2 ?side3 ?side4 ?side5 A4.out).mono ?_); (case side1 => repeat (first | (with_reducible first | exact HI0.out | apply IsS109.alloc | apply IsS109.drewN | apply IsS109.drew | apply IsS109.set_1 | apply IsS109.set_2) | exact HI0.out)); (case side2 => repeat (first | (with_reducible first | exact HB.out | apply below_alloc | apply pw_below_drewN | apply below_drew1 | refine below_set ?_ (IsS109.ge HI0.out)) | exact HB.out)); (case side3 => exact Hof.Cw ((Kd.R_reads' HO702.out).2.2)); (case side4 => exact (Kd.R_reads' HO702.out).2.1); (case side5 => exact far_slice (IsS109.own_ne HI0.out HO702.out (by decide))); rintro e w9 ⟨rfl, hi, hb, hk⟩; refine ⟨_, rfl, ?_⟩; replace HO702 := Aside0.mk (Kd.R_mono (Kd.R_keep (IsS109.apart (show IsS109 w0 _ g s0_0 t698 t699 from by repeat (first | (with_reducible first | exact HI0.out | apply IsS109.alloc | apply IsS109.drewN | apply IsS109.drew | apply IsS109.set_1 | apply IsS109.set_2) | exact HI0.out)) (Hof.Rw HO702.out) (by decide)) hk (fun _ h => h.2)) (fun _ h => h.1)); replace HK := Aside0.mk (KeepBut.trans (by repeat (first | (with_reducible first | exact HK.out | apply KeepBut.set_ | apply keep_drewN | apply keep_drew | apply keep_alloc) | exact HK.out)) hk (.inl rfl)); replace HB := Aside0.mk hb; replace HI0 := Aside0.mk hi; (try clear hb); (try clear hb2); (try clear hk); (try clear hi)))
  go_ret
  exact ⟨Hof.E, by repeat (first | (with_reducible first | exact HI0.out | apply IsS109.alloc | apply IsS109.drewN | apply IsS109.drew | apply IsS109.set_1 | apply IsS109.set_2) | exact HI0.out), by repeat (first | (with_reducible first | exact HB.out | apply below_alloc | apply pw_below_drewN | apply below_drew1 | refine below_set ?_ (IsS109.ge HI0.out)) | exact HB.out), by repeat (first | (with_reducible first | exact HK.out | apply KeepBut.set_ | apply keep_drewN | apply keep_drew | apply keep_alloc) | exact HK.out)⟩
 ·replace c3 := Bool.eq_false_iff.mpr c3
  subst c3
  replace H : ((spec_l2Draw.f s0_0 t698 t699).bind fun bt706 => (some (bt706.1, bt706.2.1, bt706.2.2))) = some (r1, r2, r3) := by rw [if_neg (show ¬ (false = true) by decide)] at H; exact H
  obtain ⟨⟨t706, t707, t708⟩, A10, H⟩ := Hof.be H
  (try dsimp only at H)
  simp only [Option.some.injEq, Prod.mk.injEq] at H
  obtain ⟨rfl, rfl, rfl⟩ := H
  go_enter Tryz.func90, Tryz.ntmps90
  go_wp2_with (first | (refine Hof.gl (some 4) Tryz.func134 #[.pointer (some ⟨g, 0, none⟩), .int .i64 8] ?_; (with_reducible refine (spec_l1Once.calls g s0_0 s0_1 s0_2 8 false t698 t699 w0 _ ?side1 ?side2 A2.out).mono ?_); (case side1 => repeat (first | (with_reducible first | exact HI0.out | apply IsS109.alloc | apply IsS109.drewN | apply IsS109.drew | apply IsS109.set_1 | apply IsS109.set_2) | exact HI0.out)); (case side2 => repeat (first | (with_reducible first | exact HB.out | apply below_alloc | apply pw_below_drewN | apply below_drew1 | refine below_set ?_ (IsS109.ge HI0.out)) | exact HB.out)); rintro e w11 ⟨rfl, hi, hb, hk⟩; refine ⟨_, rfl, ?_⟩; replace HK := Aside0.mk (KeepBut.trans (by repeat (first | (with_reducible first | exact HK.out | apply KeepBut.set_ | apply keep_drewN | apply keep_drew | apply keep_alloc) | exact HK.out)) hk (.inl rfl)); replace HB := Aside0.mk hb; replace HI0 := Aside0.mk hi; (try clear hb); (try clear hb2); (try clear hk); (try clear hi)) | (refine Hof.gl (some 9) Tryz.func135 #[.pointer (some ⟨g, 0, none⟩)] ?_; (with_reducible refine (spec_l2Draw.calls g s0_0 t698 t699 t706 t707 t708 w0 _ ?side1 ?side2 A10.out).mono ?_); (case side1 => repeat (first | (with_reducible first | exact HI0.out | apply IsS109.alloc | apply IsS109.drewN | apply IsS109.drew | apply IsS109.set_1 | apply IsS109.set_2) | exact HI0.out)); (case side2 => repeat (first | (with_reducible first | exact HB.out | apply below_alloc | apply pw_below_drewN | apply below_drew1 | refine below_set ?_ (IsS109.ge HI0.out)) | exact HB.out)); rintro e w12 ⟨rfl, hi, hb, hk⟩; refine ⟨_, rfl, ?_⟩; replace HK := Aside0.mk (KeepBut.trans (by repeat (first | (with_reducible first | exact HK.out | apply KeepBut.set_ | apply keep_drewN | apply keep_drew | apply keep_alloc) | exact HK.out)) hk (.inl rfl)); replace HB := Aside0.mk hb; replace HI0 := Aside0.mk hi; (try clear hb); (try clear hb2); (try clear hk); (try clear hi)))
  go_ret
  exact ⟨Hof.E, by repeat (first | (with_reducible first | exact HI0.out | apply IsS109.alloc | apply IsS109.drewN | apply IsS109.drew | apply IsS109.set_1 | apply IsS109.set_2) | exact HI0.out), by repeat (first | (with_reducible first | exact HB.out | apply below_alloc | apply pw_below_drewN | apply below_drew1 | refine below_set ?_ (IsS109.ge HI0.out)) | exact HB.out), by repeat (first | (with_reducible first | exact HK.out | apply KeepBut.set_ | apply keep_drewN | apply keep_drew | apply keep_alloc) | exact HK.out)⟩
def spec_DrawEarningsOf.f (k : Nat) (l0 : List Int) : Option ((List (S74)) × Int) := (spec_l1New.f k l0).bind fun bt709 => ((spec_l28Draw.f k bt709.1 bt709.2.1 bt709.2.2).bind fun bt713 => ((spec_l2Bent.f bt709.1 bt713.2.1 bt713.2.2).bind fun bt718 => (some (bt713.1, bt718.1))))
set_option maxHeartbeats 8000000 in
set_option maxRecDepth 100000 in
theorem spec_DrawEarningsOf.calls (k : Nat) (A0 : Option Addr) (c0 : Nat) (l0 : List Int) (r1 : List (S74)) (r2 : Int) (w : World) (hr0 : Kd.C (Kd.int .u8) w A0 l0.length l0) (hc0 : l0.length ≤ c0) (h : spec_DrawEarningsOf.f k l0 = some (r1, r2)) :
  Calls Tryz.prog 14 #[.slice A0 l0.length c0] w fun e w' => ∃ v0_ : Value, e = .returned (.tuple #[v0_, .int .i64 r2]) ∧ Kd.R k74 74 w' w.heap.size (fun _ => True) v0_ r1 ∧ Below w.heap.size w w' := by
 have HR0 := Aside0.mk hr0
 have HC0 := Aside0.mk hc0
 clear hr0 hc0
 have HB := Aside0.mk (Below.refl w.heap.size w)
 unfold spec_DrawEarningsOf.f at h
 have H := h
 clear h
 obtain ⟨⟨t709, t710, t711⟩, A2, H⟩ := Hof.be H
 (try dsimp only at H)
 obtain ⟨⟨t713, t716, t717⟩, A3, H⟩ := Hof.be H
 (try dsimp only at H)
 obtain ⟨⟨t718, t719, t720⟩, A4, H⟩ := Hof.be H
 (try dsimp only at H)
 simp only [Option.some.injEq, Prod.mk.injEq] at H
 obtain ⟨rfl, rfl⟩ := H
 go_enter Tryz.func14, Tryz.ntmps14
 go_wp2_with (first | (refine Hof.gl (some 7) Tryz.func74 #[.slice A0 l0.length c0] ?_; (with_reducible refine (spec_l1New.calls k _ _ l0 t709 t710 t711 w _ ?side1 ?side2 ?side3 A2.out).mono ?_); (case side1 => repeat (first | (with_reducible first | exact HB.out | apply below_alloc | apply pw_below_drewN | apply below_drew1) | exact HB.out)); (case side2 => exact HR0.out); (case side3 => exact HC0.out); rintro e w5 ⟨g712, rfl, hi, hb, hb2⟩; refine ⟨_, rfl, ?_⟩; replace HB := Aside0.mk hb; have HI712 := Aside0.mk hi; (try clear hb); (try clear hb2); (try clear hk); (try clear hi)) | (refine Hof.gl (some 9) Tryz.func73 #[.pointer (some ⟨g712, 0, none⟩)] ?_; (with_reducible refine (spec_l28Draw.calls k g712 t709 t710 t711 t713 t716 t717 w _ ?side1 ?side2 A3.out).mono ?_); (case side1 => repeat (first | (with_reducible first | exact HI712.out | apply IsS109.alloc | apply IsS109.drewN | apply IsS109.drew | apply IsS109.set_1 | apply IsS109.set_2) | exact HI712.out)); (case side2 => repeat (first | (with_reducible first | exact HB.out | apply below_alloc | apply pw_below_drewN | apply below_drew1 | refine below_set ?_ (IsS109.ge HI712.out)) | exact HB.out)); rintro e w6 ⟨v714, rfl, ho0, hi, hb, hk⟩; refine ⟨_, rfl, ?_⟩; have HO715 := Aside0.mk (Kd.R_lower ho0 (below_size (by repeat (first | (with_reducible first | exact HB.out | apply below_alloc | apply pw_below_drewN | apply below_drew1 | refine below_set ?_ (IsS109.ge HI712.out)) | exact HB.out)))); replace HB := Aside0.mk hb; replace HI712 := Aside0.mk hi; (try clear hb); (try clear hb2); (try clear hk); (try clear hi); (try clear ho0)) | (refine Hof.gl (some 12) Tryz.func90 #[.pointer (some ⟨g712, 0, none⟩)] ?_; (with_reducible refine (spec_l2Bent.calls g712 t709 t716 t717 t718 t719 t720 w _ ?side1 ?side2 A4.out).mono ?_); (case side1 => repeat (first | (with_reducible first | exact HI712.out | apply IsS109.alloc | apply IsS109.drewN | apply IsS109.drew | apply IsS109.set_1 | apply IsS109.set_2) | exact HI712.out)); (case side2 => repeat (first | (with_reducible first | exact HB.out | apply below_alloc | apply pw_below_drewN | apply below_drew1 | refine below_set ?_ (IsS109.ge HI712.out)) | exact HB.out)); rintro e w7 ⟨rfl, hi, hb, hk⟩; refine ⟨_, rfl, ?_⟩; replace HO715 := Aside0.mk (Kd.R_mono (Kd.R_keep (IsS109.apart (show IsS109 w _ g712 t709 t716 t717 from by repeat (first | (with_reducible first | exact HI712.out | apply IsS109.alloc | apply IsS109.drewN | apply IsS109.drew | apply IsS109.set_1 | apply IsS109.set_2) | exact HI712.out)) (Hof.Rw HO715.out) (by decide)) hk (fun _ h => h.2)) (fun _ h => h.1)); replace HB := Aside0.mk hb; replace HI712 := Aside0.mk hi; (try clear hb); (try clear hb2); (try clear hk); (try clear hi)))
 go_ret2
 exact ⟨_, Hof.E, by (with_reducible repeat (first | apply Kd.R_alloc | apply Kd.R_drewN | apply Kd.R_drew)); exact HO715.out, by repeat (first | (with_reducible first | exact HB.out | apply below_alloc | apply pw_below_drewN | apply below_drew1 | refine below_set ?_ (IsS109.ge HI712.out)) | exact HB.out)⟩
mutual
def spec_EqualMatroid.j0 : Nat → Bool → Int → List Int → Int → List Int → Option (Bool)
 | 0, _, _, _, _, _ => none
 | k + 1, x19, x722000, x722001, x723000, x723001 => if x19 = true then (some false) else (spec_EqualMatroid.l0 k 0 x722000 x722001 x723000 x723001)
def spec_EqualMatroid.l0 : Nat → Int → Int → List Int → Int → List Int → Option (Bool)
 | 0, _, _, _, _, _ => none
 | k + 1, x5, x722000, x722001, x723000, x723001 => if x5 < (x722001.length : Int) then (if 0 ≤ x5 then (if x5 < (x723001.length : Int) then (if (rd x722001 x5) = (rd x723001 x5) then (spec_EqualMatroid.l0 k (wrap64 (x5 + 1)) x722000 x722001 x723000 x723001) else (some false)) else (none)) else (none)) else (some true)
end
def spec_EqualMatroid.f (k : Nat) (a0_0 : Int) (l0_1 : List Int) (a1_0 : Int) (l1_1 : List Int) : Option (Bool) := if a0_0 = a1_0 then (spec_EqualMatroid.j0 k ((l0_1.length : Int) != (l1_1.length : Int)) a0_0 l0_1 a1_0 l1_1) else (spec_EqualMatroid.j0 k true a0_0 l0_1 a1_0 l1_1)
set_option maxHeartbeats 8000000 in
set_option maxRecDepth 100000 in
theorem spec_EqualMatroid.calls (k : Nat) (a0_0 : Int) (A0_1 : Option Addr) (c0_1 : Nat) (l0_1 : List Int) (a1_0 : Int) (A1_1 : Option Addr) (c1_1 : Nat) (l1_1 : List Int) (r : Bool) (w : World) (hr0_1 : Kd.C (Kd.int .i64) w A0_1 l0_1.length l0_1) (hc0_1 : l0_1.length ≤ c0_1) (hr1_1 : Kd.C (Kd.int .i64) w A1_1 l1_1.length l1_1) (hc1_1 : l1_1.length ≤ c1_1) (h : spec_EqualMatroid.f k a0_0 l0_1 a1_0 l1_1 = some r) :
  Calls Tryz.prog 15 #[.agg #[.int .i64 a0_0, .slice A0_1 l0_1.length c0_1], .agg #[.int .i64 a1_0, .slice A1_1 l1_1.length c1_1]] w fun e w' => e = .returned (.bool r) ∧ Below w.heap.size w w' := by
 have hu30 := Tryz.underlying30
 have HR0_1 := Aside0.mk hr0_1
 have HC0_1 := Aside0.mk hc0_1
 clear hr0_1 hc0_1
 have HR1_1 := Aside0.mk hr1_1
 have HC1_1 := Aside0.mk hc1_1
 clear hr1_1 hc1_1
 have HB := Aside0.mk (Below.refl w.heap.size w)
 unfold spec_EqualMatroid.f at h
 have H := h
 clear h
 have HC3 := Aside0.mk H
 clear H
 go_enter Tryz.func15, Tryz.ntmps15
 go_upto_region 1 with (first | ((with_reducible refine gate_dst (N := 2) rfl ?_); (try (refine gate_guard (by rfl) ?_; dsimp only)); refine box_event ?hg (N := 2) ?hd (cs := #[.int .i64 a0_0, .slice A0_1 l0_1.length c0_1]) (t := 30) ?hr ?_; (case hd => rfl); (case hg => rfl); (case hr => first | (go_simp; done) | (go_simp; rfl)); intro gb721 hg w4 hbox hb; have BK721 := Aside0.mk hbox; have GW721 := Hof.gw hg HB; have GE721 := Hof.gw hg HB; replace HB := Hof.lb HB hb; clear hb hbox hg) | ((with_reducible refine gate_dst (N := 3) rfl ?_); (try (refine gate_guard (by rfl) ?_; dsimp only)); refine box_event ?hg (N := 3) ?hd (cs := #[.int .i64 a1_0, .slice A1_1 l1_1.length c1_1]) (t := 30) ?hr ?_; (case hd => rfl); (case hg => rfl); (case hr => first | (go_simp; done) | (go_simp; rfl)); intro gb722 hg w5 hbox hb; have BK722 := Aside0.mk hbox; have GW722 := Hof.gw hg HB; have GE722 := Hof.gw hg HB; replace HB := Hof.lb HB hb; have NB721_722 := Hof.nl hg BK721; have NB722_721 := Hof.ng hg BK721; replace BK721 := Hof.bb BK721 hb; clear hb hbox hg))
 repeat (go_quiet (first | ((with_reducible refine gate_dst (N := 2) rfl ?_); (try (refine gate_guard (by rfl) ?_; dsimp only)); refine box_event ?hg (N := 2) ?hd (cs := #[.int .i64 a0_0, .slice A0_1 l0_1.length c0_1]) (t := 30) ?hr ?_; (case hd => rfl); (case hg => rfl); (case hr => first | (go_simp; done) | (go_simp; rfl)); intro gb721 hg w4 hbox hb; have BK721 := Aside0.mk hbox; have GW721 := Hof.gw hg HB; have GE721 := Hof.gw hg HB; replace HB := Hof.lb HB hb; clear hb hbox hg) | ((with_reducible refine gate_dst (N := 3) rfl ?_); (try (refine gate_guard (by rfl) ?_; dsimp only)); refine box_event ?hg (N := 3) ?hd (cs := #[.int .i64 a1_0, .slice A1_1 l1_1.length c1_1]) (t := 30) ?hr ?_; (case hd => rfl); (case hg => rfl); (case hr => first | (go_simp; done) | (go_simp; rfl)); intro gb722 hg w5 hbox hb; have BK722 := Aside0.mk hbox; have GW722 := Hof.gw hg HB; have GE722 := Hof.gw hg HB; replace HB := Hof.lb HB hb; have NB721_722 := Hof.nl hg BK721; have NB722_721 := Hof.ng hg BK721; replace BK721 := Hof.bb BK721 hb; clear hb hbox hg)); go_upto_region 1 with (first | ((with_reducible refine gate_dst (N := 2) rfl ?_); (try (refine gate_guard (by rfl) ?_; dsimp only)); refine box_event ?hg (N := 2) ?hd (cs := #[.int .i64 a0_0, .slice A0_1 l0_1.length c0_1]) (t := 30) ?hr ?_; (case hd => rfl); (case hg => rfl); (case hr => first | (go_simp; done) | (go_simp; rfl)); intro gb721 hg w4 hbox hb; have BK721 := Aside0.mk hbox; have GW721 := Hof.gw hg HB; have GE721 := Hof.gw hg HB; replace HB := Hof.lb HB hb; clear hb hbox hg) | ((with_reducible refine gate_dst (N := 3) rfl ?_); (try (refine gate_guard (by rfl) ?_; dsimp only)); refine box_event ?hg (N := 3) ?hd (cs := #[.int .i64 a1_0, .slice A1_1 l1_1.length c1_1]) (t := 30) ?hr ?_; (case hd => rfl); (case hg => rfl); (case hr => first | (go_simp; done) | (go_simp; rfl)); intro gb722 hg w5 hbox hb; have BK722 := Aside0.mk hbox; have GW722 := Hof.gw hg HB; have GE722 := Hof.gw hg HB; replace HB := Hof.lb HB hb; have NB721_722 := Hof.nl hg BK721; have NB722_721 := Hof.ng hg BK721; replace BK721 := Hof.bb BK721 hb; clear hb hbox hg)))
 (try simp only [Act.put, List.setIfInBounds_toArray, List.set_cons_zero, List.set_cons_succ])
 go_cut [19] (fun v19 wc => ∃ (kq : Nat) (x19_2 : Bool), v19 = .bool x19_2 ∧ Aside0 (spec_EqualMatroid.j0 kq x19_2 a0_0 l0_1 a1_0 l1_1 = some r) ∧ Aside0 (kq ≤ k) ∧ Aside0 (wc.heap[gb721]? = some (.cells #[.int .i64 a0_0, (.slice A0_1 l0_1.length c0_1)] 30 (0, 0))) ∧ Aside0 (wc.heap[gb722]? = some (.cells #[.int .i64 a1_0, (.slice A1_1 l1_1.length c1_1)] 30 (0, 0))) ∧ Aside0 (Below w.heap.size w wc))
 case first =>
  have H := HC3.out
  clear HC3
  by_cases c6 : a0_0 = a1_0
  ·rw [if_pos c6] at H
   have c6b0 : (a0_0 == a1_0) = true := beq_iff_eq.mpr c6
   have c6b1 : (a0_0 != a1_0) = false := bne_eq_false_iff_eq.mpr c6
   clear c6
   (first | rw [c6b0] | (simp only [i64_w, i32_w]; rw [c6b0]) | skip)
   have H' := Aside0.mk H
   clear H
   have hnb7 := NB721_722.out
   have hnc7 := NB722_721.out
   obtain ⟨hcz8_0, hcz8_1, hfz8_0, hfz8_1⟩ := Hof.blk2 BK721.out
   obtain ⟨hcz9_0, hcz9_1, hfz9_0, hfz9_1⟩ := Hof.blk2 BK722.out
   go_wp2
   repeat (go_quiet (fail); try go_wp2)
   go_meet
   case rel => exact ⟨_, (((l0_1.length : Int) != (l1_1.length : Int))), Hof.F, H', ⟨by first | omega | exact Nat.le_refl _⟩, ⟨Hof.Bw BK721.out⟩, ⟨Hof.Bw BK722.out⟩, ⟨Hof.Lw HB.out⟩⟩
  ·rw [if_neg c6] at H
   have c6b0 : (a0_0 == a1_0) = false := beq_eq_false_iff_ne.mpr c6
   have c6b1 : (a0_0 != a1_0) = true := bne_iff_ne.mpr c6
   (first | rw [c6b0] | (simp only [i64_w, i32_w]; rw [c6b0]) | skip)
   have H' := Aside0.mk H
   clear H
   have hnb10 := NB721_722.out
   have hnc10 := NB722_721.out
   obtain ⟨hcz11_0, hcz11_1, hfz11_0, hfz11_1⟩ := Hof.blk2 BK721.out
   obtain ⟨hcz12_0, hcz12_1, hfz12_0, hfz12_1⟩ := Hof.blk2 BK722.out
   go_wp2
   repeat (go_quiet (fail); try go_wp2)
   go_meet
   case rel => exact ⟨_, (true), Hof.F, H', ⟨by first | omega | exact Nat.le_refl _⟩, ⟨Hof.Bw BK721.out⟩, ⟨Hof.Bw BK722.out⟩, ⟨Hof.Lw HB.out⟩⟩
 case rest =>
  clear HC3
  obtain ⟨kq, x19_2, rfl, HA, HJ2, BK721, BK722, HB⟩ := hcut
  cases kq with
  | zero => exact absurd HA.out (by simp [spec_EqualMatroid.j0])
  | succ kj2 =>
   have H := HA.out
   clear HA
   simp only [spec_EqualMatroid.j0] at H
   by_cases c13 : x19_2 = true
   ·subst c13
    replace H : (some false) = some r := by rw [if_pos rfl] at H; exact H
    obtain rfl := Option.some.inj H
    go_wp2
    repeat (go_quiet (fail); try go_wp2)
    go_ret
    exact ⟨Hof.E, Hof.L⟩
   ·replace c13 := Bool.eq_false_iff.mpr c13
    subst c13
    replace H : (spec_EqualMatroid.l0 kj2 0 a0_0 l0_1 a1_0 l1_1) = some r := by rw [if_neg (show ¬ (false = true) by decide)] at H; exact H
    have H' := Aside0.mk H
    clear H
    go_wp2
    repeat (go_quiet (fail); try go_wp2)
    go_loopg [5] kj2 (fun kq v5 w' => ∃ (x5_2 : Int), v5 = .int .i64 x5_2 ∧ Aside0 (spec_EqualMatroid.l0 kq x5_2 a0_0 l0_1 a1_0 l1_1 = some r) ∧ Aside0 (kq ≤ kj2) ∧ Aside0 (w'.heap[gb721]? = some (.cells #[.int .i64 a0_0, (.slice A0_1 l0_1.length c0_1)] 30 (0, 0))) ∧ Aside0 (w'.heap[gb722]? = some (.cells #[.int .i64 a1_0, (.slice A1_1 l1_1.length c1_1)] 30 (0, 0))) ∧ Aside0 (Below w.heap.size w w'))
    case atStart => exact ⟨(0), Hof.F, H', ⟨Nat.le_refl _⟩, ⟨Hof.Bw BK721.out⟩, ⟨Hof.Bw BK722.out⟩, ⟨Hof.Lw HB.out⟩⟩
    case round =>
     clear H'
     obtain ⟨x5_2, rfl, HA, HK2, BK721, BK722, HB⟩ := hrel
     cases gk with
     | zero => exact absurd HA.out (by simp [spec_EqualMatroid.l0])
     | succ k2 =>
      have H := HA.out
      clear HA
      simp only [spec_EqualMatroid.l0] at H
      by_cases c14 : x5_2 < (l0_1.length : Int)
      ·rw [if_pos c14] at H
       have c14b0 := decide_eq_true c14
       clear c14
       by_cases c15 : 0 ≤ x5_2
       ·rw [if_pos c15] at H
        have c15b0 := decide_eq_true c15
        clear c15
        by_cases c16 : x5_2 < (l1_1.length : Int)
        ·rw [if_pos c16] at H
         have c16b0 := decide_eq_true c16
         clear c16
         by_cases c17 : (rd l0_1 x5_2) = (rd l1_1 x5_2)
         ·rw [if_pos c17] at H
          have c17b0 : ((rd l0_1 x5_2) == (rd l1_1 x5_2)) = true := beq_iff_eq.mpr c17
          have c17b1 : ((rd l0_1 x5_2) != (rd l1_1 x5_2)) = false := bne_eq_false_iff_eq.mpr c17
          clear c17
          have H' := Aside0.mk H
          clear H
          have hnb18 := NB721_722.out
          have hnc18 := NB722_721.out
          obtain ⟨hcz19_0, hcz19_1, hfz19_0, hfz19_1⟩ := Hof.blk2 BK721.out
          have p723 : 0 ≤ (x5_2 : Int) := Hof.D
          have q723 : x5_2 < (l0_1.length : Int) := Hof.D
          obtain ⟨ad723, e723, hx723_0⟩ := Kd.at_int HR0_1.out x5_2 p723 q723
          cases e723
          try replace hx723_0 := (HB.out.cell (World.block_lt_of_cell? w _ hx723_0)).trans hx723_0
          replace p723 := eq_true p723
          replace q723 := eq_true q723
          obtain ⟨hcz20_0, hcz20_1, hfz20_0, hfz20_1⟩ := Hof.blk2 BK722.out
          have p724 : 0 ≤ (x5_2 : Int) := Hof.D
          have q724 : x5_2 < (l1_1.length : Int) := Hof.D
          obtain ⟨ad724, e724, hx724_0⟩ := Kd.at_int HR1_1.out x5_2 p724 q724
          cases e724
          try replace hx724_0 := (HB.out.cell (World.block_lt_of_cell? w _ hx724_0)).trans hx724_0
          replace p724 := eq_true p724
          replace q724 := eq_true q724
          go_wp2
          repeat (go_quiet (fail); try go_wp2)
          go_roundg k2
          case measure => have := HJ2.out; have := HK2.out; omega
          case rel => exact ⟨(wrap64 (x5_2 + 1)), Hof.F, H', ⟨by have := HJ2.out; have := HK2.out; omega⟩, ⟨Hof.Bw BK721.out⟩, ⟨Hof.Bw BK722.out⟩, ⟨Hof.Lw HB.out⟩⟩
         ·rw [if_neg c17] at H
          have c17b0 : ((rd l0_1 x5_2) == (rd l1_1 x5_2)) = false := beq_eq_false_iff_ne.mpr c17
          have c17b1 : ((rd l0_1 x5_2) != (rd l1_1 x5_2)) = true := bne_iff_ne.mpr c17
          obtain rfl := Option.some.inj H
          have hnb21 := NB721_722.out
          have hnc21 := NB722_721.out
          obtain ⟨hcz22_0, hcz22_1, hfz22_0, hfz22_1⟩ := Hof.blk2 BK721.out
          have p723 : 0 ≤ (x5_2 : Int) := Hof.D
          have q723 : x5_2 < (l0_1.length : Int) := Hof.D
          obtain ⟨ad723, e723, hx723_0⟩ := Kd.at_int HR0_1.out x5_2 p723 q723
          cases e723
          try replace hx723_0 := (HB.out.cell (World.block_lt_of_cell? w _ hx723_0)).trans hx723_0
          replace p723 := eq_true p723
          replace q723 := eq_true q723
          obtain ⟨hcz23_0, hcz23_1, hfz23_0, hfz23_1⟩ := Hof.blk2 BK722.out
          have p724 : 0 ≤ (x5_2 : Int) := Hof.D
          have q724 : x5_2 < (l1_1.length : Int) := Hof.D
          obtain ⟨ad724, e724, hx724_0⟩ := Kd.at_int HR1_1.out x5_2 p724 q724
          cases e724
          try replace hx724_0 := (HB.out.cell (World.block_lt_of_cell? w _ hx724_0)).trans hx724_0
          replace p724 := eq_true p724
          replace q724 := eq_true q724
          go_wp2
          repeat (go_quiet (fail); try go_wp2)
          go_ret
          exact ⟨Hof.E, Hof.L⟩
        ·rw [if_neg c16] at H
         exact absurd H (by simp)
       ·rw [if_neg c15] at H
        exact absurd H (by simp)
      ·rw [if_neg c14] at H
       have c14b0 : decide (x5_2 < (l0_1.length : Int)) = false := decide_eq_false c14
       clear c14
       obtain rfl := Option.some.inj H
       have hnb24 := NB721_722.out
       have hnc24 := NB722_721.out
       obtain ⟨hcz25_0, hcz25_1, hfz25_0, hfz25_1⟩ := Hof.blk2 BK721.out
       go_wp2
       repeat (go_quiet (fail); try go_wp2)
       go_ret
       exact ⟨Hof.E, Hof.L⟩
def laws_sameInts.l0 : Nat → List Int → List Int → Int → Option (Bool)
 | 0, _, _, _ => none
 | k + 1, x0, x1, x5 => if x5 < (x0.length : Int) then (if 0 ≤ x5 then (if x5 < (x1.length : Int) then (if (rd x0 x5) = (rd x1 x5) then (laws_sameInts.l0 k x0 x1 (wrap64 (x5 + 1))) else (some false)) else (none)) else (none)) else (some true)
def laws_sameInts.f (k : Nat) (l0 : List Int) (l1 : List Int) : Option (Bool) := if (l0.length : Int) = (l1.length : Int) then (laws_sameInts.l0 k l0 l1 0) else (some false)
set_option maxHeartbeats 8000000 in
set_option maxRecDepth 100000 in
theorem laws_sameInts.calls (k : Nat) (A0 : Option Addr) (c0 : Nat) (l0 : List Int) (A1 : Option Addr) (c1 : Nat) (l1 : List Int) (r : Bool) (w : World) (hr0 : Kd.C (Kd.int .i64) w A0 l0.length l0) (hc0 : l0.length ≤ c0) (hr1 : Kd.C (Kd.int .i64) w A1 l1.length l1) (hc1 : l1.length ≤ c1) (h : laws_sameInts.f k l0 l1 = some r) :
  Calls Tryz.prog 17 #[.slice A0 l0.length c0, .slice A1 l1.length c1] w fun e w' => e = .returned (.bool r) ∧ Drawn0 w w' := by
 have HR0 := Aside0.mk hr0
 have HC0 := Aside0.mk hc0
 clear hr0 hc0
 have HR1 := Aside0.mk hr1
 have HC1 := Aside0.mk hc1
 clear hr1 hc1
 unfold laws_sameInts.f at h
 have H := h
 clear h
 by_cases c3 : (l0.length : Int) = (l1.length : Int)
 ·rw [if_pos c3] at H
  have c3b0 : ((l0.length : Int) == (l1.length : Int)) = true := beq_iff_eq.mpr c3
  have c3b1 : ((l0.length : Int) != (l1.length : Int)) = false := bne_eq_false_iff_eq.mpr c3
  have c3b2 : (l0.length == l1.length) = true := by first | simpa using c3 | (simp at c3 ⊢; omega)
  clear c3
  have H' := Aside0.mk H
  clear H
  go_enter Tryz.func17, Tryz.ntmps17
  go_wp2
  repeat (go_quiet (fail); try go_wp2)
  go_loopg [5] k (fun kq v5 w' => ∃ (x5_1 : Int), v5 = .int .i64 x5_1 ∧ Aside0 (laws_sameInts.l0 kq l0 l1 x5_1 = some r) ∧ Aside0 (kq ≤ k) ∧ Drawn0 w w')
  case atStart => exact ⟨(0), Hof.F, H', ⟨Nat.le_refl _⟩, Hof.G⟩
  case round =>
   clear H'
   obtain ⟨x5_1, rfl, HA, HK1, ⟨m1, rfl⟩⟩ := hrel
   cases gk with
   | zero => exact absurd HA.out (by simp [laws_sameInts.l0])
   | succ k1 =>
    have H := HA.out
    clear HA
    simp only [laws_sameInts.l0] at H
    by_cases c4 : x5_1 < (l0.length : Int)
    ·rw [if_pos c4] at H
     have c4b0 := decide_eq_true c4
     clear c4
     by_cases c5 : 0 ≤ x5_1
     ·rw [if_pos c5] at H
      have c5b0 := decide_eq_true c5
      clear c5
      by_cases c6 : x5_1 < (l1.length : Int)
      ·rw [if_pos c6] at H
       have c6b0 := decide_eq_true c6
       clear c6
       by_cases c7 : (rd l0 x5_1) = (rd l1 x5_1)
       ·rw [if_pos c7] at H
        have c7b0 : ((rd l0 x5_1) == (rd l1 x5_1)) = true := beq_iff_eq.mpr c7
        have c7b1 : ((rd l0 x5_1) != (rd l1 x5_1)) = false := bne_eq_false_iff_eq.mpr c7
        clear c7
        have H' := Aside0.mk H
        clear H
        have p725 : 0 ≤ (x5_1 : Int) := Hof.D
        have q725 : x5_1 < (l0.length : Int) := Hof.D
        obtain ⟨ad725, e725, hx725_0⟩ := Kd.at_int HR0.out x5_1 p725 q725
        cases e725
        replace p725 := eq_true p725
        replace q725 := eq_true q725
        have p726 : 0 ≤ (x5_1 : Int) := Hof.D
        have q726 : x5_1 < (l1.length : Int) := Hof.D
        obtain ⟨ad726, e726, hx726_0⟩ := Kd.at_int HR1.out x5_1 p726 q726
        cases e726
        replace p726 := eq_true p726
        replace q726 := eq_true q726
        go_wp2
        repeat (go_quiet (fail); try go_wp2)
        go_roundg k1
        case measure => have := HK1.out; omega
        case rel => exact ⟨(wrap64 (x5_1 + 1)), Hof.F, H', ⟨by have := HK1.out; omega⟩, Hof.G⟩
       ·rw [if_neg c7] at H
        have c7b0 : ((rd l0 x5_1) == (rd l1 x5_1)) = false := beq_eq_false_iff_ne.mpr c7
        have c7b1 : ((rd l0 x5_1) != (rd l1 x5_1)) = true := bne_iff_ne.mpr c7
        obtain rfl := Option.some.inj H
        have p725 : 0 ≤ (x5_1 : Int) := Hof.D
        have q725 : x5_1 < (l0.length : Int) := Hof.D
        obtain ⟨ad725, e725, hx725_0⟩ := Kd.at_int HR0.out x5_1 p725 q725
        cases e725
        replace p725 := eq_true p725
        replace q725 := eq_true q725
        have p726 : 0 ≤ (x5_1 : Int) := Hof.D
        have q726 : x5_1 < (l1.length : Int) := Hof.D
        obtain ⟨ad726, e726, hx726_0⟩ := Kd.at_int HR1.out x5_1 p726 q726
        cases e726
        replace p726 := eq_true p726
        replace q726 := eq_true q726
        go_wp2
        repeat (go_quiet (fail); try go_wp2)
        go_ret
        exact ⟨Hof.F, Hof.G⟩
      ·rw [if_neg c6] at H
       exact absurd H (by simp)
     ·rw [if_neg c5] at H
      exact absurd H (by simp)
    ·rw [if_neg c4] at H
     have c4b0 : decide (x5_1 < (l0.length : Int)) = false := decide_eq_false c4
     clear c4
     obtain rfl := Option.some.inj H
     go_wp2
     repeat (go_quiet (fail); try go_wp2)
     go_ret
     exact ⟨Hof.F, Hof.G⟩
 ·rw [if_neg c3] at H
  have c3b0 : ((l0.length : Int) == (l1.length : Int)) = false := beq_eq_false_iff_ne.mpr c3
  have c3b1 : ((l0.length : Int) != (l1.length : Int)) = true := bne_iff_ne.mpr c3
  have c3b2 : (l0.length == l1.length) = false := by first | simpa using c3 | (simp at c3 ⊢; omega)
  obtain rfl := Option.some.inj H
  go_enter Tryz.func17, Tryz.ntmps17
  go_wp2
  repeat (go_quiet (fail); try go_wp2)
  go_ret
  exact ⟨Hof.F, Hof.G⟩
def impl_EarningsOf.l0 : Nat → List (S74) → Int → List Int → Int → Int → Option (Int)
 | 0, _, _, _, _, _ => none
 | k + 1, x0, x5, x9, x10, x11 => if x11 < x10 then (if 0 ≤ x11 then (if x11 < (x9.length : Int) then (if (rd x9 x11) < (x0.length : Int) then (if 0 ≤ (rd x9 x11) then (impl_EarningsOf.l0 k x0 (wrap64 (x5 + ((rd_T74 x0 (rd x9 x11)).f1))) x9 x10 (wrap64 (x11 + 1))) else (none)) else (impl_EarningsOf.l0 k x0 x5 x9 x10 (wrap64 (x11 + 1)))) else (none)) else (none)) else (some x5)
def impl_EarningsOf.f (k : Nat) (l0 : List (S74)) (a1 : Int) : Option (Int) := (impl_ElementsOf.f k a1).bind fun t727 => (impl_EarningsOf.l0 k l0 0 t727 (t727.length : Int) 0)
set_option maxHeartbeats 8000000 in
set_option maxRecDepth 100000 in
theorem impl_EarningsOf.calls (k : Nat) (A0 : Option Addr) (c0 : Nat) (l0 : List (S74)) (a1 : Int) (r : Int) (w : World) (hr0 : Kd.C k74 w A0 l0.length l0) (hc0 : l0.length ≤ c0) (h : impl_EarningsOf.f k l0 a1 = some r) :
  Calls Tryz.prog 18 #[.slice A0 l0.length c0, .int .i64 a1] w fun e w' => e = .returned (.int .i64 r) ∧ Below w.heap.size w w' := by
 have HR0 := Aside0.mk hr0
 have HC0 := Aside0.mk hc0
 clear hr0 hc0
 have HB := Aside0.mk (Below.refl w.heap.size w)
 unfold impl_EarningsOf.f at h
 have H := h
 clear h
 obtain ⟨t727, A3, H⟩ := Hof.be H
 (try dsimp only at H)
 have H' := Aside0.mk H
 clear H
 go_enter Tryz.func18, Tryz.ntmps18
 go_wp2_with (first | (refine Hof.gl (some 9) Tryz.func83 #[.int .i64 a1] ?_; (with_reducible refine (impl_ElementsOf.calls k a1 t727 _ A3.out).mono ?_); rintro e w4 ⟨v728, rfl, ho0, hb⟩; refine ⟨_, rfl, ?_⟩; have HO729 := Aside0.mk (Kd.R_lower ho0 (below_size (Hof.Lw HB.out))); replace HB := Hof.lb HB hb; (try clear hb); (try clear hb2); (try clear hk); (try clear hi); (try clear ho0); obtain ⟨Ao5, co5, eo5⟩ := Kd.R_slice HO729.out; subst eo5))
 go_loopg [5, 11] k (fun kq v5 v11 w' => ∃ (x5_1 : Int) (x11_1 : Int), v5 = .int .i64 x5_1 ∧ v11 = .int .i64 x11_1 ∧ Aside0 (impl_EarningsOf.l0 kq l0 x5_1 t727 (t727.length : Int) x11_1 = some r) ∧ Aside0 (kq ≤ k) ∧ Aside0 (Kd.R (Kd.int .i64) 3 w' w.heap.size (fun _ => True) (.slice Ao5 t727.length co5) t727) ∧ Aside0 (Below w.heap.size w w'))
 case atStart => exact ⟨(0), (0), Hof.F, Hof.F, H', ⟨Nat.le_refl _⟩, ⟨Hof.Rw HO729.out⟩, ⟨Hof.Lw HB.out⟩⟩
 case round =>
  clear H'
  obtain ⟨x5_1, x11_1, rfl, rfl, HA, HK1, HO_9, HB⟩ := hrel
  cases gk with
  | zero => exact absurd HA.out (by simp [impl_EarningsOf.l0])
  | succ k1 =>
   have H := HA.out
   clear HA
   simp only [impl_EarningsOf.l0] at H
   by_cases c6 : x11_1 < (t727.length : Int)
   ·rw [if_pos c6] at H
    have c6b0 := decide_eq_true c6
    clear c6
    by_cases c7 : 0 ≤ x11_1
    ·rw [if_pos c7] at H
     have c7b0 := decide_eq_true c7
     clear c7
     by_cases c8 : x11_1 < (t727.length : Int)
     ·rw [if_pos c8] at H
      have c8b0 := decide_eq_true c8
      clear c8
      by_cases c9 : (rd t727 x11_1) < (l0.length : Int)
      ·rw [if_pos c9] at H
       have c9b0 := decide_eq_true c9
       clear c9
       by_cases c10 : 0 ≤ (rd t727 x11_1)
       ·rw [if_pos c10] at H
        have c10b0 := decide_eq_true c10
        clear c10
        have H' := Aside0.mk H
        clear H
        have p730 : 0 ≤ (x11_1 : Int) := Hof.D
        have q730 : x11_1 < (t727.length : Int) := Hof.D
        obtain ⟨ad730, e730, hx730_0⟩ := Kd.at_int (Kd.R_reads' HO_9.out).2.2 x11_1 p730 q730
        cases e730
        replace p730 := eq_true p730
        replace q730 := eq_true q730
        have p731 : 0 ≤ ((rd t727 x11_1) : Int) := Hof.D
        have q731 : (rd t727 x11_1) < (l0.length : Int) := Hof.D
        obtain ⟨ad731, e731, hx731_0, hx731_1⟩ := at_T74 HR0.out (rd t727 x11_1) p731 q731
        cases e731
        try replace hx731_0 := (HB.out.cell (World.block_lt_of_cell? w _ hx731_0)).trans hx731_0
        try replace hx731_1 := (HB.out.cell (World.block_lt_of_cell? w _ hx731_1)).trans hx731_1
        replace p731 := eq_true p731
        replace q731 := eq_true q731
        go_wp2
        go_roundg k1
        case measure => have := HK1.out; omega
        case rel => exact ⟨(wrap64 (x5_1 + ((rd_T74 l0 (rd t727 x11_1)).f1))), (wrap64 (x11_1 + 1)), Hof.F, Hof.F, H', ⟨by have := HK1.out; omega⟩, ⟨Hof.Rw HO_9.out⟩, ⟨Hof.Lw HB.out⟩⟩
       ·rw [if_neg c10] at H
        exact absurd H (by simp)
      ·rw [if_neg c9] at H
       have c9b0 : decide ((rd t727 x11_1) < (l0.length : Int)) = false := decide_eq_false c9
       clear c9
       have H' := Aside0.mk H
       clear H
       have p730 : 0 ≤ (x11_1 : Int) := Hof.D
       have q730 : x11_1 < (t727.length : Int) := Hof.D
       obtain ⟨ad730, e730, hx730_0⟩ := Kd.at_int (Kd.R_reads' HO_9.out).2.2 x11_1 p730 q730
       cases e730
       replace p730 := eq_true p730
       replace q730 := eq_true q730
       go_wp2
       go_roundg k1
       case measure => have := HK1.out; omega
       case rel => exact ⟨(x5_1), (wrap64 (x11_1 + 1)), Hof.F, Hof.F, H', ⟨by have := HK1.out; omega⟩, ⟨Hof.Rw HO_9.out⟩, ⟨Hof.Lw HB.out⟩⟩
     ·rw [if_neg c8] at H
      exact absurd H (by simp)
    ·rw [if_neg c7] at H
     exact absurd H (by simp)
   ·rw [if_neg c6] at H
    have c6b0 : decide (x11_1 < (t727.length : Int)) = false := decide_eq_false c6
    clear c6
    obtain rfl := Option.some.inj H
    go_wp2
    go_ret
    exact ⟨Hof.E, Hof.L⟩
def spec_HasElement.f (a0 : Int) (a1 : Int) : Option (Bool) := (spec_IsSet.f 8 a0).bind fun t732 => (if t732 = true then ((spec_l1In.f a1 0 7).bind fun t733 => (if t733 = true then ((spec_l2Has.f a0 a1).bind fun t734 => (some t734)) else (some false))) else (some false))
set_option maxHeartbeats 8000000 in
set_option maxRecDepth 100000 in
theorem spec_HasElement.calls (a0 : Int) (a1 : Int) (r : Bool) (w : World) (h : spec_HasElement.f a0 a1 = some r) :
  Calls Tryz.prog 92 #[.int .i64 a0, .int .i64 a1] w fun e w' => e = .returned (.bool r) ∧ Drawn0 w w' := by
 unfold spec_HasElement.f at h
 have H := h
 clear h
 obtain ⟨t732, A3, H⟩ := Hof.be H
 (try dsimp only at H)
 by_cases c4 : t732 = true
 ·subst c4
  replace H : ((spec_l1In.f a1 0 7).bind fun t733 => (if t733 = true then ((spec_l2Has.f a0 a1).bind fun t734 => (some t734)) else (some false))) = some r := by rw [if_pos rfl] at H; exact H
  obtain ⟨t733, A5, H⟩ := Hof.be H
  (try dsimp only at H)
  by_cases c6 : t733 = true
  ·subst c6
   replace H : ((spec_l2Has.f a0 a1).bind fun t734 => (some t734)) = some r := by rw [if_pos rfl] at H; exact H
   obtain ⟨t734, A7, H⟩ := Hof.be H
   (try dsimp only at H)
   obtain rfl := Option.some.inj H
   go_enter Tryz.func92, Tryz.ntmps92
   go_wp2_with (first | ((with_reducible refine gate_callee (f := 87) rfl ?_); refine Hof.gl (some 6) Tryz.func87 #[.int .i64 8, .int .i64 a0] ?_; (with_reducible refine (spec_IsSet.calls 8 a0 true _ A3.out).mono ?_); rintro e w' ⟨rfl, ⟨nd, rfl⟩⟩; refine ⟨_, rfl, ?_⟩) | (go_at_call 94; (with_reducible refine (spec_l1In.calls a1 0 7 true _ A5.out).mono ?_); rintro e w' ⟨rfl, ⟨nd, rfl⟩⟩) | (go_at_call 89; (with_reducible refine (spec_l2Has.calls a0 a1 t734 _ A7.out).mono ?_); rintro e w' ⟨rfl, ⟨nd, rfl⟩⟩))
   go_ret
   exact ⟨Hof.F, Hof.G⟩
  ·replace c6 := Bool.eq_false_iff.mpr c6
   subst c6
   replace H : (some false) = some r := by rw [if_neg (show ¬ (false = true) by decide)] at H; exact H
   obtain rfl := Option.some.inj H
   go_enter Tryz.func92, Tryz.ntmps92
   go_wp2_with (first | ((with_reducible refine gate_callee (f := 87) rfl ?_); refine Hof.gl (some 6) Tryz.func87 #[.int .i64 8, .int .i64 a0] ?_; (with_reducible refine (spec_IsSet.calls 8 a0 true _ A3.out).mono ?_); rintro e w' ⟨rfl, ⟨nd, rfl⟩⟩; refine ⟨_, rfl, ?_⟩) | (go_at_call 94; (with_reducible refine (spec_l1In.calls a1 0 7 false _ A5.out).mono ?_); rintro e w' ⟨rfl, ⟨nd, rfl⟩⟩))
   go_ret
   exact ⟨Hof.F, Hof.G⟩
 ·replace c4 := Bool.eq_false_iff.mpr c4
  subst c4
  replace H : (some false) = some r := by rw [if_neg (show ¬ (false = true) by decide)] at H; exact H
  obtain rfl := Option.some.inj H
  go_enter Tryz.func92, Tryz.ntmps92
  go_wp2_with (first | ((with_reducible refine gate_callee (f := 87) rfl ?_); refine Hof.gl (some 6) Tryz.func87 #[.int .i64 8, .int .i64 a0] ?_; (with_reducible refine (spec_IsSet.calls 8 a0 false _ A3.out).mono ?_); rintro e w' ⟨rfl, ⟨nd, rfl⟩⟩; refine ⟨_, rfl, ?_⟩))
  go_ret
  exact ⟨Hof.F, Hof.G⟩
def spec_EarningsOf.l0 : Nat → List (S74) → Int → Int → Int → Option (Int)
 | 0, _, _, _, _ => none
 | k + 1, x0, x1, x5, x6 => if x6 < (x0.length : Int) then ((spec_HasElement.f x1 x6).bind fun t735 => (if t735 = true then (if 0 ≤ x6 then (spec_EarningsOf.l0 k x0 x1 (wrap64 (x5 + ((rd_T74 x0 x6).f1))) (wrap64 (x6 + 1))) else (none)) else (spec_EarningsOf.l0 k x0 x1 x5 (wrap64 (x6 + 1))))) else (some x5)
def spec_EarningsOf.f (k : Nat) (l0 : List (S74)) (a1 : Int) : Option (Int) := spec_EarningsOf.l0 k l0 a1 0 0
set_option maxHeartbeats 8000000 in
set_option maxRecDepth 100000 in
theorem spec_EarningsOf.calls (k : Nat) (A0 : Option Addr) (c0 : Nat) (l0 : List (S74)) (a1 : Int) (r : Int) (w : World) (hr0 : Kd.C k74 w A0 l0.length l0) (hc0 : l0.length ≤ c0) (h : spec_EarningsOf.f k l0 a1 = some r) :
  Calls Tryz.prog 19 #[.slice A0 l0.length c0, .int .i64 a1] w fun e w' => e = .returned (.int .i64 r) ∧ Drawn0 w w' := by
 have HR0 := Aside0.mk hr0
 have HC0 := Aside0.mk hc0
 clear hr0 hc0
 unfold spec_EarningsOf.f at h
 have H := h
 clear h
 have H' := Aside0.mk H
 clear H
 go_enter Tryz.func19, Tryz.ntmps19
 go_wp2
 go_loopg [5, 6] k (fun kq v5 v6 w' => ∃ (x5_1 : Int) (x6_1 : Int), v5 = .int .i64 x5_1 ∧ v6 = .int .i64 x6_1 ∧ Aside0 (spec_EarningsOf.l0 kq l0 a1 x5_1 x6_1 = some r) ∧ Aside0 (kq ≤ k) ∧ Drawn0 w w')
 case atStart => exact ⟨(0), (0), Hof.F, Hof.F, H', ⟨Nat.le_refl _⟩, Hof.G⟩
 case round =>
  clear H'
  obtain ⟨x5_1, x6_1, rfl, rfl, HA, HK1, ⟨m1, rfl⟩⟩ := hrel
  cases gk with
  | zero => exact absurd HA.out (by simp [spec_EarningsOf.l0])
  | succ k1 =>
   have H := HA.out
   clear HA
   simp only [spec_EarningsOf.l0] at H
   by_cases c3 : x6_1 < (l0.length : Int)
   ·rw [if_pos c3] at H
    have c3b0 := decide_eq_true c3
    clear c3
    obtain ⟨t735, A4, H⟩ := Hof.be H
    (try dsimp only at H)
    by_cases c5 : t735 = true
    ·subst c5
     replace H : (if 0 ≤ x6_1 then (spec_EarningsOf.l0 k1 l0 a1 (wrap64 (x5_1 + ((rd_T74 l0 x6_1).f1))) (wrap64 (x6_1 + 1))) else (none)) = some r := by rw [if_pos rfl] at H; exact H
     by_cases c6 : 0 ≤ x6_1
     ·rw [if_pos c6] at H
      have c6b0 := decide_eq_true c6
      clear c6
      have H' := Aside0.mk H
      clear H
      go_wp2_with (first | (refine Hof.gl (some 15) Tryz.func92 #[.int .i64 a1, .int .i64 x6_1] ?_; (with_reducible refine (spec_HasElement.calls a1 x6_1 true _ A4.out).mono ?_); rintro e w' ⟨rfl, ⟨nd, rfl⟩⟩; refine ⟨_, rfl, ?_⟩; have p736 : 0 ≤ (x6_1 : Int) := Hof.D; have q736 : x6_1 < (l0.length : Int) := Hof.D; obtain ⟨ad736, e736, hx736_0, hx736_1⟩ := at_T74 HR0.out x6_1 p736 q736; cases e736; replace p736 := eq_true p736; replace q736 := eq_true q736))
      go_roundg k1
      case measure => have := HK1.out; omega
      case rel => exact ⟨(wrap64 (x5_1 + ((rd_T74 l0 x6_1).f1))), (wrap64 (x6_1 + 1)), Hof.F, Hof.F, H', ⟨by have := HK1.out; omega⟩, Hof.G⟩
     ·rw [if_neg c6] at H
      exact absurd H (by simp)
    ·replace c5 := Bool.eq_false_iff.mpr c5
     subst c5
     replace H : (spec_EarningsOf.l0 k1 l0 a1 x5_1 (wrap64 (x6_1 + 1))) = some r := by rw [if_neg (show ¬ (false = true) by decide)] at H; exact H
     have H' := Aside0.mk H
     clear H
     go_wp2_with (first | (refine Hof.gl (some 15) Tryz.func92 #[.int .i64 a1, .int .i64 x6_1] ?_; (with_reducible refine (spec_HasElement.calls a1 x6_1 false _ A4.out).mono ?_); rintro e w' ⟨rfl, ⟨nd, rfl⟩⟩; refine ⟨_, rfl, ?_⟩))
     go_roundg k1
     case measure => have := HK1.out; omega
     case rel => exact ⟨(x5_1), (wrap64 (x6_1 + 1)), Hof.F, Hof.F, H', ⟨by have := HK1.out; omega⟩, Hof.G⟩
   ·rw [if_neg c3] at H
    have c3b0 : decide (x6_1 < (l0.length : Int)) = false := decide_eq_false c3
    clear c3
    obtain rfl := Option.some.inj H
    go_wp2
    go_ret
    exact ⟨Hof.F, Hof.G⟩
def bits_OnesCount64.f (a0 : Int) : Option (Int) := some (Go.bits .and .i64 (wrap64 (IntKind.u64.wrap ((IntKind.u64.wrap ((IntKind.u64.wrap ((Go.bits .and .u64 (IntKind.u64.wrap (((IntKind.u64.wrap ((Go.bits .and .u64 ((IntKind.u64.wrap ((Go.bits .and .u64 (a0 / 2) 6148914691236517205) + (Go.bits .and .u64 a0 6148914691236517205))) / 4) 3689348814741910323) + (Go.bits .and .u64 (IntKind.u64.wrap ((Go.bits .and .u64 (a0 / 2) 6148914691236517205) + (Go.bits .and .u64 a0 6148914691236517205))) 3689348814741910323))) / 16) + (IntKind.u64.wrap ((Go.bits .and .u64 ((IntKind.u64.wrap ((Go.bits .and .u64 (a0 / 2) 6148914691236517205) + (Go.bits .and .u64 a0 6148914691236517205))) / 4) 3689348814741910323) + (Go.bits .and .u64 (IntKind.u64.wrap ((Go.bits .and .u64 (a0 / 2) 6148914691236517205) + (Go.bits .and .u64 a0 6148914691236517205))) 3689348814741910323))))) 1085102592571150095) + ((Go.bits .and .u64 (IntKind.u64.wrap (((IntKind.u64.wrap ((Go.bits .and .u64 ((IntKind.u64.wrap ((Go.bits .and .u64 (a0 / 2) 6148914691236517205) + (Go.bits .and .u64 a0 6148914691236517205))) / 4) 3689348814741910323) + (Go.bits .and .u64 (IntKind.u64.wrap ((Go.bits .and .u64 (a0 / 2) 6148914691236517205) + (Go.bits .and .u64 a0 6148914691236517205))) 3689348814741910323))) / 16) + (IntKind.u64.wrap ((Go.bits .and .u64 ((IntKind.u64.wrap ((Go.bits .and .u64 (a0 / 2) 6148914691236517205) + (Go.bits .and .u64 a0 6148914691236517205))) / 4) 3689348814741910323) + (Go.bits .and .u64 (IntKind.u64.wrap ((Go.bits .and .u64 (a0 / 2) 6148914691236517205) + (Go.bits .and .u64 a0 6148914691236517205))) 3689348814741910323))))) 1085102592571150095) / 256))) + ((IntKind.u64.wrap ((Go.bits .and .u64 (IntKind.u64.wrap (((IntKind.u64.wrap ((Go.bits .and .u64 ((IntKind.u64.wrap ((Go.bits .and .u64 (a0 / 2) 6148914691236517205) + (Go.bits .and .u64 a0 6148914691236517205))) / 4) 3689348814741910323) + (Go.bits .and .u64 (IntKind.u64.wrap ((Go.bits .and .u64 (a0 / 2) 6148914691236517205) + (Go.bits .and .u64 a0 6148914691236517205))) 3689348814741910323))) / 16) + (IntKind.u64.wrap ((Go.bits .and .u64 ((IntKind.u64.wrap ((Go.bits .and .u64 (a0 / 2) 6148914691236517205) + (Go.bits .and .u64 a0 6148914691236517205))) / 4) 3689348814741910323) + (Go.bits .and .u64 (IntKind.u64.wrap ((Go.bits .and .u64 (a0 / 2) 6148914691236517205) + (Go.bits .and .u64 a0 6148914691236517205))) 3689348814741910323))))) 1085102592571150095) + ((Go.bits .and .u64 (IntKind.u64.wrap (((IntKind.u64.wrap ((Go.bits .and .u64 ((IntKind.u64.wrap ((Go.bits .and .u64 (a0 / 2) 6148914691236517205) + (Go.bits .and .u64 a0 6148914691236517205))) / 4) 3689348814741910323) + (Go.bits .and .u64 (IntKind.u64.wrap ((Go.bits .and .u64 (a0 / 2) 6148914691236517205) + (Go.bits .and .u64 a0 6148914691236517205))) 3689348814741910323))) / 16) + (IntKind.u64.wrap ((Go.bits .and .u64 ((IntKind.u64.wrap ((Go.bits .and .u64 (a0 / 2) 6148914691236517205) + (Go.bits .and .u64 a0 6148914691236517205))) / 4) 3689348814741910323) + (Go.bits .and .u64 (IntKind.u64.wrap ((Go.bits .and .u64 (a0 / 2) 6148914691236517205) + (Go.bits .and .u64 a0 6148914691236517205))) 3689348814741910323))))) 1085102592571150095) / 256))) / 65536))) + ((IntKind.u64.wrap ((IntKind.u64.wrap ((Go.bits .and .u64 (IntKind.u64.wrap (((IntKind.u64.wrap ((Go.bits .and .u64 ((IntKind.u64.wrap ((Go.bits .and .u64 (a0 / 2) 6148914691236517205) + (Go.bits .and .u64 a0 6148914691236517205))) / 4) 3689348814741910323) + (Go.bits .and .u64 (IntKind.u64.wrap ((Go.bits .and .u64 (a0 / 2) 6148914691236517205) + (Go.bits .and .u64 a0 6148914691236517205))) 3689348814741910323))) / 16) + (IntKind.u64.wrap ((Go.bits .and .u64 ((IntKind.u64.wrap ((Go.bits .and .u64 (a0 / 2) 6148914691236517205) + (Go.bits .and .u64 a0 6148914691236517205))) / 4) 3689348814741910323) + (Go.bits .and .u64 (IntKind.u64.wrap ((Go.bits .and .u64 (a0 / 2) 6148914691236517205) + (Go.bits .and .u64 a0 6148914691236517205))) 3689348814741910323))))) 1085102592571150095) + ((Go.bits .and .u64 (IntKind.u64.wrap (((IntKind.u64.wrap ((Go.bits .and .u64 ((IntKind.u64.wrap ((Go.bits .and .u64 (a0 / 2) 6148914691236517205) + (Go.bits .and .u64 a0 6148914691236517205))) / 4) 3689348814741910323) + (Go.bits .and .u64 (IntKind.u64.wrap ((Go.bits .and .u64 (a0 / 2) 6148914691236517205) + (Go.bits .and .u64 a0 6148914691236517205))) 3689348814741910323))) / 16) + (IntKind.u64.wrap ((Go.bits .and .u64 ((IntKind.u64.wrap ((Go.bits .and .u64 (a0 / 2) 6148914691236517205) + (Go.bits .and .u64 a0 6148914691236517205))) / 4) 3689348814741910323) + (Go.bits .and .u64 (IntKind.u64.wrap ((Go.bits .and .u64 (a0 / 2) 6148914691236517205) + (Go.bits .and .u64 a0 6148914691236517205))) 3689348814741910323))))) 1085102592571150095) / 256))) + ((IntKind.u64.wrap ((Go.bits .and .u64 (IntKind.u64.wrap (((IntKind.u64.wrap ((Go.bits .and .u64 ((IntKind.u64.wrap ((Go.bits .and .u64 (a0 / 2) 6148914691236517205) + (Go.bits .and .u64 a0 6148914691236517205))) / 4) 3689348814741910323) + (Go.bits .and .u64 (IntKind.u64.wrap ((Go.bits .and .u64 (a0 / 2) 6148914691236517205) + (Go.bits .and .u64 a0 6148914691236517205))) 3689348814741910323))) / 16) + (IntKind.u64.wrap ((Go.bits .and .u64 ((IntKind.u64.wrap ((Go.bits .and .u64 (a0 / 2) 6148914691236517205) + (Go.bits .and .u64 a0 6148914691236517205))) / 4) 3689348814741910323) + (Go.bits .and .u64 (IntKind.u64.wrap ((Go.bits .and .u64 (a0 / 2) 6148914691236517205) + (Go.bits .and .u64 a0 6148914691236517205))) 3689348814741910323))))) 1085102592571150095) + ((Go.bits .and .u64 (IntKind.u64.wrap (((IntKind.u64.wrap ((Go.bits .and .u64 ((IntKind.u64.wrap ((Go.bits .and .u64 (a0 / 2) 6148914691236517205) + (Go.bits .and .u64 a0 6148914691236517205))) / 4) 3689348814741910323) + (Go.bits .and .u64 (IntKind.u64.wrap ((Go.bits .and .u64 (a0 / 2) 6148914691236517205) + (Go.bits .and .u64 a0 6148914691236517205))) 3689348814741910323))) / 16) + (IntKind.u64.wrap ((Go.bits .and .u64 ((IntKind.u64.wrap ((Go.bits .and .u64 (a0 / 2) 6148914691236517205) + (Go.bits .and .u64 a0 6148914691236517205))) / 4) 3689348814741910323) + (Go.bits .and .u64 (IntKind.u64.wrap ((Go.bits .and .u64 (a0 / 2) 6148914691236517205) + (Go.bits .and .u64 a0 6148914691236517205))) 3689348814741910323))))) 1085102592571150095) / 256))) / 65536))) / 4294967296)))) 127)
set_option maxHeartbeats 8000000 in
set_option maxRecDepth 100000 in
theorem bits_OnesCount64.calls (a0 : Int) (r : Int) (w : World) (h : bits_OnesCount64.f a0 = some r) :
  Calls Tryz.prog 167 #[.int .u64 a0] w fun e w' => e = .returned (.int .i64 r) ∧ Drawn0 w w' := by
 unfold bits_OnesCount64.f at h
 have H := h
 clear h
 obtain rfl := Option.some.inj H
 go_enter Tryz.func167, Tryz.ntmps167
 go_wp2
 go_ret
 exact ⟨Hof.F, Hof.G⟩
def bits_OnesCount.f (a0 : Int) : Option (Int) := (bits_OnesCount64.f a0).bind fun t737 => (some t737)
set_option maxHeartbeats 8000000 in
set_option maxRecDepth 100000 in
theorem bits_OnesCount.calls (a0 : Int) (r : Int) (w : World) (h : bits_OnesCount.f a0 = some r) :
  Calls Tryz.prog 148 #[.int .u64 a0] w fun e w' => e = .returned (.int .i64 r) ∧ Drawn0 w w' := by
 unfold bits_OnesCount.f at h
 have H := h
 clear h
 obtain ⟨t737, A2, H⟩ := Hof.be H
 (try dsimp only at H)
 obtain rfl := Option.some.inj H
 go_enter Tryz.func148, Tryz.ntmps148
 go_wp2_with (first | (refine Hof.gl (some 7) Tryz.func167 #[.int .u64 a0] ?_; (with_reducible refine (bits_OnesCount64.calls a0 t737 _ A2.out).mono ?_); rintro e w' ⟨rfl, ⟨nd, rfl⟩⟩; refine ⟨_, rfl, ?_⟩))
 go_ret
 exact ⟨Hof.F, Hof.G⟩
def impl_CountOf.f (a0 : Int) : Option (Int) := (impl_isAny.f a0).bind fun t738 => (if t738 = true then ((bits_OnesCount.f (IntKind.u64.wrap (a0))).bind fun t739 => (some t739)) else (some 0))
set_option maxHeartbeats 8000000 in
set_option maxRecDepth 100000 in
theorem impl_CountOf.calls (a0 : Int) (r : Int) (w : World) (h : impl_CountOf.f a0 = some r) :
  Calls Tryz.prog 117 #[.int .i64 a0] w fun e w' => e = .returned (.int .i64 r) ∧ Drawn0 w w' := by
 unfold impl_CountOf.f at h
 have H := h
 clear h
 obtain ⟨t738, A2, H⟩ := Hof.be H
 (try dsimp only at H)
 by_cases c3 : t738 = true
 ·subst c3
  replace H : ((bits_OnesCount.f (IntKind.u64.wrap (a0))).bind fun t739 => (some t739)) = some r := by rw [if_pos rfl] at H; exact H
  obtain ⟨t739, A4, H⟩ := Hof.be H
  (try dsimp only at H)
  obtain rfl := Option.some.inj H
  go_enter Tryz.func117, Tryz.ntmps117
  go_wp2_with (first | (refine Hof.gl (some 4) Tryz.func147 #[.int .i64 a0] ?_; (with_reducible refine (impl_isAny.calls a0 true _ A2.out).mono ?_); rintro e w' ⟨rfl, ⟨nd, rfl⟩⟩; refine ⟨_, rfl, ?_⟩) | (refine Hof.gl (some 8) Tryz.func148 #[.int .u64 (IntKind.u64.wrap (a0))] ?_; (with_reducible refine (bits_OnesCount.calls (IntKind.u64.wrap (a0)) t739 _ A4.out).mono ?_); rintro e w' ⟨rfl, ⟨nd, rfl⟩⟩; refine ⟨_, rfl, ?_⟩))
  go_ret
  exact ⟨Hof.F, Hof.G⟩
 ·replace c3 := Bool.eq_false_iff.mpr c3
  subst c3
  replace H : (some 0) = some r := by rw [if_neg (show ¬ (false = true) by decide)] at H; exact H
  obtain rfl := Option.some.inj H
  go_enter Tryz.func117, Tryz.ntmps117
  go_wp2_with (first | (refine Hof.gl (some 4) Tryz.func147 #[.int .i64 a0] ?_; (with_reducible refine (impl_isAny.calls a0 false _ A2.out).mono ?_); rintro e w' ⟨rfl, ⟨nd, rfl⟩⟩; refine ⟨_, rfl, ?_⟩))
  go_ret
  exact ⟨Hof.F, Hof.G⟩
def impl_RankOfMatroid.f (k : Nat) (a0_0 : Int) (l0_1 : List Int) : Option (Int) := (impl_IsMatroid.f k a0_0 l0_1).bind fun t741 => (if t741 = true then (if 0 < (l0_1.length : Int) then ((impl_CountOf.f (rd l0_1 0)).bind fun t743 => (some t743)) else (none)) else (some (-1)))
set_option maxHeartbeats 8000000 in
set_option maxRecDepth 100000 in
theorem impl_RankOfMatroid.calls (k : Nat) (a0_0 : Int) (A0_1 : Option Addr) (c0_1 : Nat) (l0_1 : List Int) (r : Int) (w : World) (hr0_1 : Kd.C (Kd.int .i64) w A0_1 l0_1.length l0_1) (hc0_1 : l0_1.length ≤ c0_1) (h : impl_RankOfMatroid.f k a0_0 l0_1 = some r) :
  Calls Tryz.prog 93 #[.agg #[.int .i64 a0_0, .slice A0_1 l0_1.length c0_1]] w fun e w' => e = .returned (.int .i64 r) ∧ Below w.heap.size w w' := by
 have hu30 := Tryz.underlying30
 have HR0_1 := Aside0.mk hr0_1
 have HC0_1 := Aside0.mk hc0_1
 clear hr0_1 hc0_1
 have HB := Aside0.mk (Below.refl w.heap.size w)
 unfold impl_RankOfMatroid.f at h
 have H := h
 clear h
 obtain ⟨t741, A2, H⟩ := Hof.be H
 (try dsimp only at H)
 by_cases c3 : t741 = true
 ·subst c3
  replace H : (if 0 < (l0_1.length : Int) then ((impl_CountOf.f (rd l0_1 0)).bind fun t743 => (some t743)) else (none)) = some r := by rw [if_pos rfl] at H; exact H
  by_cases c4 : 0 < (l0_1.length : Int)
  ·rw [if_pos c4] at H
   have c4b0 := decide_eq_true c4
   have c4b1 : decide (0 < l0_1.length) = true := decide_eq_true (by omega)
   clear c4
   obtain ⟨t743, A5, H⟩ := Hof.be H
   (try dsimp only at H)
   obtain rfl := Option.some.inj H
   go_enter Tryz.func93, Tryz.ntmps93
   go_wp2_with (first | (refine Hof.bx 1 #[.int .i64 a0_0, .slice A0_1 l0_1.length c0_1] 30 ?_; intro gb740 hg w6 hbox hb; have BK740 := Aside0.mk hbox; have GW740 := Hof.gw hg HB; have GE740 := Hof.gw hg HB; replace HB := Hof.lb HB hb; clear hb hbox hg; obtain ⟨hcz7_0, hcz7_1, hfz7_0, hfz7_1⟩ := Hof.blk2 BK740.out) | (refine Hof.gl (some 4) Tryz.func120 #[.agg #[.int .i64 a0_0, .slice A0_1 l0_1.length c0_1]] ?_; (with_reducible refine (impl_IsMatroid.calls k a0_0 _ _ l0_1 true _ ?side1 ?side2 A2.out).mono ?_); (case side1 => exact Hof.Cw (Kd.C_below HR0_1.out HB.out)); (case side2 => exact HC0_1.out); rintro e w8 ⟨rfl, hb⟩; refine ⟨_, rfl, ?_⟩; replace BK740 := Hof.bb BK740 hb; replace HB := Hof.lb HB hb; (try clear hb); (try clear hb2); (try clear hk); (try clear hi); obtain ⟨hcz9_0, hcz9_1, hfz9_0, hfz9_1⟩ := Hof.blk2 BK740.out; have p742 : 0 ≤ (0 : Int) := (by omega); have q742 : 0 < (l0_1.length : Int) := Hof.D; obtain ⟨ad742, e742, hx742_0⟩ := Kd.at_int HR0_1.out 0 p742 q742; cases e742; have qi742 : (0 < l0_1.length) = True := eq_true (by omega); (try rw [show ((0 : Int)).toNat = 0 from rfl] at hx742_0); (try rw [Addr.add_zero'] at hx742_0); replace hx742_0 := (HB.out.cell (World.block_lt_of_cell? w _ hx742_0)).trans hx742_0; replace p742 := eq_true p742; replace q742 := eq_true q742) | (refine Hof.gl (some 10) Tryz.func117 #[.int .i64 (rd l0_1 0)] ?_; (with_reducible refine (impl_CountOf.calls (rd l0_1 0) t743 _ A5.out).mono ?_); rintro e w' ⟨rfl, ⟨nd, rfl⟩⟩; refine ⟨_, rfl, ?_⟩))
   go_ret
   exact ⟨Hof.E, Hof.L⟩
  ·rw [if_neg c4] at H
   exact absurd H (by simp)
 ·replace c3 := Bool.eq_false_iff.mpr c3
  subst c3
  replace H : (some (-1)) = some r := by rw [if_neg (show ¬ (false = true) by decide)] at H; exact H
  obtain rfl := Option.some.inj H
  go_enter Tryz.func93, Tryz.ntmps93
  go_wp2_with (first | (refine Hof.bx 1 #[.int .i64 a0_0, .slice A0_1 l0_1.length c0_1] 30 ?_; intro gb740 hg w10 hbox hb; have BK740 := Aside0.mk hbox; have GW740 := Hof.gw hg HB; have GE740 := Hof.gw hg HB; replace HB := Hof.lb HB hb; clear hb hbox hg; obtain ⟨hcz11_0, hcz11_1, hfz11_0, hfz11_1⟩ := Hof.blk2 BK740.out) | (refine Hof.gl (some 4) Tryz.func120 #[.agg #[.int .i64 a0_0, .slice A0_1 l0_1.length c0_1]] ?_; (with_reducible refine (impl_IsMatroid.calls k a0_0 _ _ l0_1 false _ ?side1 ?side2 A2.out).mono ?_); (case side1 => exact Hof.Cw (Kd.C_below HR0_1.out HB.out)); (case side2 => exact HC0_1.out); rintro e w12 ⟨rfl, hb⟩; refine ⟨_, rfl, ?_⟩; replace BK740 := Hof.bb BK740 hb; replace HB := Hof.lb HB hb; (try clear hb); (try clear hb2); (try clear hk); (try clear hi)))
  go_ret
  exact ⟨Hof.E, Hof.L⟩
def impl_LateTasks.f (k : Nat) (l0 : List (S74)) : Option (Int) := (impl_AreTasks.f k l0).bind fun t744 => (if t744 = true then ((impl_TaskMatroid.f k l0).bind fun bt745 => ((impl_RankOfMatroid.f k bt745.1 bt745.2).bind fun t749 => (some (wrap64 ((l0.length : Int) - t749))))) else (some (-1)))
set_option maxHeartbeats 8000000 in
set_option maxRecDepth 100000 in
theorem impl_LateTasks.calls (k : Nat) (A0 : Option Addr) (c0 : Nat) (l0 : List (S74)) (r : Int) (w : World) (hr0 : Kd.C k74 w A0 l0.length l0) (hc0 : l0.length ≤ c0) (h : impl_LateTasks.f k l0 = some r) :
  Calls Tryz.prog 20 #[.slice A0 l0.length c0] w fun e w' => e = .returned (.int .i64 r) ∧ Below w.heap.size w w' := by
 have HR0 := Aside0.mk hr0
 have HC0 := Aside0.mk hc0
 clear hr0 hc0
 have HB := Aside0.mk (Below.refl w.heap.size w)
 unfold impl_LateTasks.f at h
 have H := h
 clear h
 obtain ⟨t744, A2, H⟩ := Hof.be H
 (try dsimp only at H)
 by_cases c3 : t744 = true
 ·subst c3
  replace H : ((impl_TaskMatroid.f k l0).bind fun bt745 => ((impl_RankOfMatroid.f k bt745.1 bt745.2).bind fun t749 => (some (wrap64 ((l0.length : Int) - t749))))) = some r := by rw [if_pos rfl] at H; exact H
  obtain ⟨⟨t745, t746⟩, A4, H⟩ := Hof.be H
  (try dsimp only at H)
  obtain ⟨t749, A5, H⟩ := Hof.be H
  (try dsimp only at H)
  obtain rfl := Option.some.inj H
  go_enter Tryz.func20, Tryz.ntmps20
  go_wp2_with (first | (refine Hof.gl (some 4) Tryz.func22 #[.slice A0 l0.length c0] ?_; (with_reducible refine (impl_AreTasks.calls k _ _ l0 true _ ?side1 ?side2 A2.out).mono ?_); (case side1 => exact Hof.Cw HR0.out); (case side2 => exact HC0.out); rintro e w6 ⟨rfl, hb⟩; refine ⟨_, rfl, ?_⟩; replace HB := Hof.lb HB hb; (try clear hb); (try clear hb2); (try clear hk); (try clear hi)) | (refine Hof.gl (some 9) Tryz.func10 #[.slice A0 l0.length c0] ?_; (with_reducible refine (impl_TaskMatroid.calls k _ _ l0 t745 t746 _ ?side1 ?side2 A4.out).mono ?_); (case side1 => exact Hof.Cw (Kd.C_below HR0.out HB.out)); (case side2 => exact HC0.out); rintro e w7 ⟨v747, rfl, ho0, hb⟩; refine ⟨_, rfl, ?_⟩; have HO748 := Aside0.mk (Kd.R_lower ho0 (below_size (Hof.Lw HB.out))); replace HB := Hof.lb HB hb; (try clear hb); (try clear hb2); (try clear hk); (try clear hi); (try clear ho0); obtain ⟨Ao8, co8, eo8⟩ := Kd.R_slice HO748.out; subst eo8) | (refine Hof.gl (some 10) Tryz.func93 #[.agg #[.int .i64 t745, .slice Ao8 t746.length co8]] ?_; (with_reducible refine (impl_RankOfMatroid.calls k t745 _ _ t746 t749 _ ?side1 ?side2 A5.out).mono ?_); (case side1 => exact Hof.Cw ((Kd.R_reads' HO748.out).2.2)); (case side2 => exact (Kd.R_reads' HO748.out).2.1); rintro e w9 ⟨rfl, hb⟩; refine ⟨_, rfl, ?_⟩; replace HO748 := Hof.rb HO748 hb; replace HB := Hof.lb HB hb; (try clear hb); (try clear hb2); (try clear hk); (try clear hi)))
  go_ret
  exact ⟨Hof.E, Hof.L⟩
 ·replace c3 := Bool.eq_false_iff.mpr c3
  subst c3
  replace H : (some (-1)) = some r := by rw [if_neg (show ¬ (false = true) by decide)] at H; exact H
  obtain rfl := Option.some.inj H
  go_enter Tryz.func20, Tryz.ntmps20
  go_wp2_with (first | (refine Hof.gl (some 4) Tryz.func22 #[.slice A0 l0.length c0] ?_; (with_reducible refine (impl_AreTasks.calls k _ _ l0 false _ ?side1 ?side2 A2.out).mono ?_); (case side1 => exact Hof.Cw HR0.out); (case side2 => exact HC0.out); rintro e w10 ⟨rfl, hb⟩; refine ⟨_, rfl, ?_⟩; replace HB := Hof.lb HB hb; (try clear hb); (try clear hb2); (try clear hk); (try clear hi)))
  go_ret
  exact ⟨Hof.E, Hof.L⟩
def spec_LateTasks.f (k : Nat) (l0 : List (S74)) : Option (Int) := (spec_AreTasks.f k l0).bind fun t750 => (if t750 = true then ((spec_TaskMatroid.f k l0).bind fun bt751 => ((spec_RankOfMatroid.f k bt751.1 bt751.2).bind fun t755 => (some (wrap64 ((l0.length : Int) - t755))))) else (some (-1)))
set_option maxHeartbeats 8000000 in
set_option maxRecDepth 100000 in
theorem spec_LateTasks.calls (k : Nat) (A0 : Option Addr) (c0 : Nat) (l0 : List (S74)) (r : Int) (w : World) (hr0 : Kd.C k74 w A0 l0.length l0) (hc0 : l0.length ≤ c0) (h : spec_LateTasks.f k l0 = some r) :
  Calls Tryz.prog 21 #[.slice A0 l0.length c0] w fun e w' => e = .returned (.int .i64 r) ∧ Below w.heap.size w w' := by
 have HR0 := Aside0.mk hr0
 have HC0 := Aside0.mk hc0
 clear hr0 hc0
 have HB := Aside0.mk (Below.refl w.heap.size w)
 unfold spec_LateTasks.f at h
 have H := h
 clear h
 obtain ⟨t750, A2, H⟩ := Hof.be H
 (try dsimp only at H)
 by_cases c3 : t750 = true
 ·subst c3
  replace H : ((spec_TaskMatroid.f k l0).bind fun bt751 => ((spec_RankOfMatroid.f k bt751.1 bt751.2).bind fun t755 => (some (wrap64 ((l0.length : Int) - t755))))) = some r := by rw [if_pos rfl] at H; exact H
  obtain ⟨⟨t751, t752⟩, A4, H⟩ := Hof.be H
  (try dsimp only at H)
  obtain ⟨t755, A5, H⟩ := Hof.be H
  (try dsimp only at H)
  obtain rfl := Option.some.inj H
  go_enter Tryz.func21, Tryz.ntmps21
  go_wp2_with (first | (refine Hof.gl (some 4) Tryz.func23 #[.slice A0 l0.length c0] ?_; (with_reducible refine (spec_AreTasks.calls k _ _ l0 true _ ?side1 ?side2 A2.out).mono ?_); (case side1 => exact Hof.Cw HR0.out); (case side2 => exact HC0.out); rintro e w' ⟨rfl, ⟨nd, rfl⟩⟩; refine ⟨_, rfl, ?_⟩) | (refine Hof.gl (some 9) Tryz.func16 #[.slice A0 l0.length c0] ?_; (with_reducible refine (spec_TaskMatroid.calls k _ _ l0 t751 t752 _ ?side1 ?side2 A4.out).mono ?_); (case side1 => exact Hof.Cw HR0.out); (case side2 => exact HC0.out); rintro e w6 ⟨v753, rfl, ho0, hb⟩; refine ⟨_, rfl, ?_⟩; have HO754 := Aside0.mk (Kd.R_lower ho0 (below_size (Hof.Lw HB.out))); replace HB := Hof.lb HB hb; (try clear hb); (try clear hb2); (try clear hk); (try clear hi); (try clear ho0); obtain ⟨Ao7, co7, eo7⟩ := Kd.R_slice HO754.out; subst eo7) | (refine Hof.gl (some 10) Tryz.func47 #[.agg #[.int .i64 t751, .slice Ao7 t752.length co7]] ?_; (with_reducible refine (spec_RankOfMatroid.calls k t751 _ _ t752 t755 _ ?side1 ?side2 A5.out).mono ?_); (case side1 => exact Hof.Cw ((Kd.R_reads' HO754.out).2.2)); (case side2 => exact (Kd.R_reads' HO754.out).2.1); rintro e w8 ⟨rfl, hb⟩; refine ⟨_, rfl, ?_⟩; replace HO754 := Hof.rb HO754 hb; replace HB := Hof.lb HB hb; (try clear hb); (try clear hb2); (try clear hk); (try clear hi)))
  go_ret
  exact ⟨Hof.E, Hof.L⟩
 ·replace c3 := Bool.eq_false_iff.mpr c3
  subst c3
  replace H : (some (-1)) = some r := by rw [if_neg (show ¬ (false = true) by decide)] at H; exact H
  obtain rfl := Option.some.inj H
  go_enter Tryz.func21, Tryz.ntmps21
  go_wp2_with (first | (refine Hof.gl (some 4) Tryz.func23 #[.slice A0 l0.length c0] ?_; (with_reducible refine (spec_AreTasks.calls k _ _ l0 false _ ?side1 ?side2 A2.out).mono ?_); (case side1 => exact Hof.Cw HR0.out); (case side2 => exact HC0.out); rintro e w' ⟨rfl, ⟨nd, rfl⟩⟩; refine ⟨_, rfl, ?_⟩))
  go_ret
  exact ⟨Hof.E, Hof.L⟩
end Go.Proofs.YtmpodackojmojaaGreat.Pr
end
