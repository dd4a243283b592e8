/- The claim FnExactBestTasks: every text that its row comes to, laid together by slim.py (the words of the kit's print, the printed walks, the pure law, the row). -/
import Derived.Test.YtmpodackojmojaaYFnExactBestTasks1
section
namespace Go.Proofs.Ytmpodackojmojaa.Pr
open Go.RowKit Go.Proofs.YtmpodackojmojaaW.PrintWords Go.Proofs.YtmpodackojmojaaW.PrintLast Go.Proofs.YtmpodackojmojaaW.PrintMore
attribute [local go_sem] max2_int min2_int max_two min_two max_three min_three max_four min_four
set_option linter.unusedVariables false
set_option linter.unusedSimpArgs false
mutual
def spec_MaximalSets.l0 : Nat → List Int → List Int → Int → Option (List Int)
 | 0, _, _, _ => none
 | k + 1, x0, x3, x4 => if x4 < (x0.length : Int) then (spec_MaximalSets.l1 k x0 x3 x4 true 0) else ((spec_SortSets.f k x3).bind fun t455 => (some t455))
def spec_MaximalSets.l1 : Nat → List Int → List Int → Int → Bool → Int → Option (List Int)
 | 0, _, _, _, _, _ => none
 | k + 1, x0, x3, x4, x5, x6 => if x6 < (x0.length : Int) then (if x5 = true then (if 0 ≤ x6 then (if 0 ≤ x4 then (if x4 < (x0.length : Int) then (if (rd x0 x6) = (rd x0 x4) then (spec_MaximalSets.l1 k x0 x3 x4 true (wrap64 (x6 + 1))) else (spec_MaximalSets.l1 k x0 x3 x4 ((Go.bits .and .i64 (rd x0 x6) (rd x0 x4)) != (rd x0 x4)) (wrap64 (x6 + 1)))) else (none)) else (none)) else (none)) else (spec_MaximalSets.l1 k x0 x3 x4 false (wrap64 (x6 + 1)))) else (if x5 = true then (if 0 ≤ x4 then (if x4 < (x0.length : Int) then (if x3.length < 17592186044416 then (spec_MaximalSets.l0 k x0 (x3 ++ [rd x0 x4]) (wrap64 (x4 + 1))) else (none)) else (none)) else (none)) else (spec_MaximalSets.l0 k x0 x3 (wrap64 (x4 + 1))))
end
def spec_MaximalSets.f (k : Nat) (l0 : List Int) : Option (List Int) := (some (([] : List Int) : List Int)).bind fun y451 => ((spec_l3Sets.f k 8 l0).bind fun t454 => (if t454 = true then (spec_MaximalSets.l0 k l0 y451 0) else (some y451)))
set_option maxHeartbeats 8000000 in
set_option maxRecDepth 100000 in
theorem spec_MaximalSets.calls (k : Nat) (A0 : Option Addr) (c0 : Nat) (l0 : List Int) (r : List Int) (w : World) (hr0 : Kd.C (Kd.int .i64) w A0 l0.length l0) (hc0 : l0.length ≤ c0) (h : spec_MaximalSets.f k l0 = some r) :
  Calls Try.prog 67 #[.slice A0 l0.length c0] w fun e w' => ∃ v0_ : Value, e = .returned (v0_) ∧ Kd.R (Kd.int .i64) 3 w' w.heap.size (fun _ => True) v0_ r ∧ Below w.heap.size w w' := by
 have HR0 := Aside0.mk hr0
 have HC0 := Aside0.mk hc0
 clear hr0 hc0
 have HB := Aside0.mk (Below.refl w.heap.size w)
 have H : ((some (([] : List Int) : List Int)).bind fun y451 => ((spec_l3Sets.f k 8 l0).bind fun t454 => (if t454 = true then (spec_MaximalSets.l0 k l0 y451 0) else (some y451)))) = some r := h
 clear h
 obtain ⟨y451, hy451⟩ : ∃ y_ : List Int, y_ = (([] : List Int)) := ⟨_, rfl⟩
 replace H : ((spec_l3Sets.f k 8 l0).bind fun t454 => (if t454 = true then (spec_MaximalSets.l0 k l0 y451 0) else (some y451))) = some r := by first | (rw [hy451]; with_reducible exact H) | (have H2_ := (Option.bind_some _ _).symm.trans H; rw [hy451]; with_reducible exact H2_) | (have H2_ := (Option.bind_some _ _).symm.trans H; with_reducible exact H2_) | with_reducible exact H | (rw [hy451]; exact H) | exact H
 have Ny451 := Aside0.mk hy451
 clear hy451
 replace H := Option.bind_eq_some_iff.mp H
 obtain ⟨t454, A20, H⟩ := H
 (try dsimp only at H)
 have A2 := Aside0.mk A20
 clear A20
 by_cases c3 : t454 = true
 ·subst c3
  have H1 : (spec_MaximalSets.l0 k l0 y451 0) = some r := by rw [if_pos rfl] at H; exact H
  clear H
  have H := H1
  clear H1
  have H' := Aside0.mk H
  clear H
  go_enter Try.func67, Try.ntmps67
  go_wp2_with (first | ((with_reducible refine gate_dst (N := 7) rfl ?_); refine Kd.R_lit (Kd.int .i64) _ 3 ?hg (N := 7) ?hd (xs := ([] : List Int)) (inner := []) (ok := fun _ => True) (okp := fun _ => True) ?hr ?hp (fun _ hk => hk) trivial (Below.refl _ _) (Nat.le_refl _) (by simp) ?_; (case hd => rfl); (case hg => rfl); (case hr => first | (go_simp; done) | (go_simp; rfl)); (case hp => exact (Reps.none _ _)); intro v452 w4 ho5 hb hg_ hnew_; clear hg_ hnew_; (first | rw [← Ny451.out] at ho5 | (simp only [Int.reduceToNat] at ho5; rw [← Ny451.out] at ho5)); have HO453 := Aside0.mk (Kd.R_lower ho5 (below_size (Hof.Lw HB.out))); replace HB := Aside0.mk (below_step (Hof.Lw HB.out) hb); clear hb ho5) | (go_at_call 107; (with_reducible refine (spec_l3Sets.calls k 8 _ _ l0 true _ ?side1 ?side2 A2.out).mono ?_); (case side1 => exact Hof.Cw (Kd.C_below HR0.out HB.out)); (case side2 => exact HC0.out); rintro e w' ⟨rfl, ⟨nd, rfl⟩⟩; (try first | exact ⟨rfl, _, World.drewN_drewN _ _ _⟩ | exact ⟨rfl, _, Eq.trans (World.drewN_drewN _ _ _) (congrArg (World.drewN _) (Nat.add_assoc _ _ _))⟩)))
  repeat (go_quiet (first | ((with_reducible refine gate_dst (N := 7) rfl ?_); refine Kd.R_lit (Kd.int .i64) _ 3 ?hg (N := 7) ?hd (xs := ([] : List Int)) (inner := []) (ok := fun _ => True) (okp := fun _ => True) ?hr ?hp (fun _ hk => hk) trivial (Below.refl _ _) (Nat.le_refl _) (by simp) ?_; (case hd => rfl); (case hg => rfl); (case hr => first | (go_simp; done) | (go_simp; rfl)); (case hp => exact (Reps.none _ _)); intro v452 w4 ho5 hb hg_ hnew_; clear hg_ hnew_; (first | rw [← Ny451.out] at ho5 | (simp only [Int.reduceToNat] at ho5; rw [← Ny451.out] at ho5)); have HO453 := Aside0.mk (Kd.R_lower ho5 (below_size (Hof.Lw HB.out))); replace HB := Aside0.mk (below_step (Hof.Lw HB.out) hb); clear hb ho5) | (go_at_call 107; (with_reducible refine (spec_l3Sets.calls k 8 _ _ l0 true _ ?side1 ?side2 A2.out).mono ?_); (case side1 => exact Hof.Cw (Kd.C_below HR0.out HB.out)); (case side2 => exact HC0.out); rintro e w' ⟨rfl, ⟨nd, rfl⟩⟩; (try first | exact ⟨rfl, _, World.drewN_drewN _ _ _⟩ | exact ⟨rfl, _, Eq.trans (World.drewN_drewN _ _ _) (congrArg (World.drewN _) (Nat.add_assoc _ _ _))⟩))); try go_wp2_with (first | ((with_reducible refine gate_dst (N := 7) rfl ?_); refine Kd.R_lit (Kd.int .i64) _ 3 ?hg (N := 7) ?hd (xs := ([] : List Int)) (inner := []) (ok := fun _ => True) (okp := fun _ => True) ?hr ?hp (fun _ hk => hk) trivial (Below.refl _ _) (Nat.le_refl _) (by simp) ?_; (case hd => rfl); (case hg => rfl); (case hr => first | (go_simp; done) | (go_simp; rfl)); (case hp => exact (Reps.none _ _)); intro v452 w4 ho5 hb hg_ hnew_; clear hg_ hnew_; (first | rw [← Ny451.out] at ho5 | (simp only [Int.reduceToNat] at ho5; rw [← Ny451.out] at ho5)); have HO453 := Aside0.mk (Kd.R_lower ho5 (below_size (Hof.Lw HB.out))); replace HB := Aside0.mk (below_step (Hof.Lw HB.out) hb); clear hb ho5) | (go_at_call 107; (with_reducible refine (spec_l3Sets.calls k 8 _ _ l0 true _ ?side1 ?side2 A2.out).mono ?_); (case side1 => exact Hof.Cw (Kd.C_below HR0.out HB.out)); (case side2 => exact HC0.out); rintro e w' ⟨rfl, ⟨nd, rfl⟩⟩; (try first | exact ⟨rfl, _, World.drewN_drewN _ _ _⟩ | exact ⟨rfl, _, Eq.trans (World.drewN_drewN _ _ _) (congrArg (World.drewN _) (Nat.add_assoc _ _ _))⟩))))
  go_loopg [3, 4] k (fun kq v3 v4 w' => ∃ (x3_1 : List Int) (x4_1 : Int), v4 = .int .i64 x4_1 ∧ Aside0 (spec_MaximalSets.l0 kq l0 x3_1 x4_1 = some r) ∧ Aside0 (kq ≤ k) ∧ Aside0 (Kd.R (Kd.int .i64) 3 w' w.heap.size (fun _ => True) v3 x3_1) ∧ Aside0 (Below w.heap.size w w'))
  case atStart => exact ⟨(y451), (0), (by first | rfl | (simp; done) | (simp [*]; done)), H', ⟨Nat.le_refl _⟩, ⟨Hof.Rw HO453.out⟩, ⟨Hof.Lw HB.out⟩⟩
  case round =>
   clear H'
   try clear p2
   try clear c3
   obtain ⟨x3_1, x4_1, rfl, HA, HK1, HO_3, HB⟩ := hrel
   cases gk with
   | zero => exact absurd HA.out (by simp [spec_MaximalSets.l0])
   | succ k1 =>
    have H := HA.out
    clear HA
    simp only [spec_MaximalSets.l0] at H
    by_cases c6 : x4_1 < (l0.length : Int)
    ·rw [if_pos c6] at H
     have c6b0 : decide (x4_1 < (l0.length : Int)) = true := decide_eq_true c6
     clear c6
     have H' := Aside0.mk H
     clear H
     go_wp2
     repeat (go_quiet (fail); try go_wp2)
     go_loopg [5, 6] k1 (fun kq v5 v6 w' => ∃ (x5_2 : Bool) (x6_2 : Int), v5 = .bool x5_2 ∧ v6 = .int .i64 x6_2 ∧ Aside0 (spec_MaximalSets.l1 kq l0 x3_1 x4_1 x5_2 x6_2 = some r) ∧ Aside0 (kq ≤ k1) ∧ Aside0 (Kd.R (Kd.int .i64) 3 w' w.heap.size (fun _ => True) u3 x3_1) ∧ Aside0 (Below w.heap.size w w'))
     case atStart => exact ⟨(true), (0), (by first | rfl | (simp; done) | (simp [*]; done)), (by first | rfl | (simp; done) | (simp [*]; done)), H', ⟨Nat.le_refl _⟩, ⟨Hof.Rw HO_3.out⟩, ⟨Hof.Lw HB.out⟩⟩
     case round =>
      clear H'
      try clear p2
      try clear c3
      try clear c6
      try clear c6b0
      try clear p2
      obtain ⟨x5_2, x6_2, rfl, rfl, HA, HK2, HO_3, HB⟩ := hrel
      cases gk with
      | zero => exact absurd HA.out (by simp [spec_MaximalSets.l1])
      | succ k2 =>
       have H := HA.out
       clear HA
       simp only [spec_MaximalSets.l1] at H
       by_cases c7 : x6_2 < (l0.length : Int)
       ·rw [if_pos c7] at H
        have c7b0 : decide (x6_2 < (l0.length : Int)) = true := decide_eq_true c7
        clear c7
        by_cases c8 : x5_2 = true
        ·subst c8
         have H1 : (if 0 ≤ x6_2 then (if 0 ≤ x4_1 then (if x4_1 < (l0.length : Int) then (if (rd l0 x6_2) = (rd l0 x4_1) then (spec_MaximalSets.l1 k2 l0 x3_1 x4_1 true (wrap64 (x6_2 + 1))) else (spec_MaximalSets.l1 k2 l0 x3_1 x4_1 ((Go.bits .and .i64 (rd l0 x6_2) (rd l0 x4_1)) != (rd l0 x4_1)) (wrap64 (x6_2 + 1)))) else (none)) else (none)) else (none)) = some r := by rw [if_pos rfl] at H; exact H
         clear H
         have H := H1
         clear H1
         by_cases c9 : 0 ≤ x6_2
         ·rw [if_pos c9] at H
          have c9b0 : decide (0 ≤ x6_2) = true := decide_eq_true c9
          clear c9
          by_cases c10 : 0 ≤ x4_1
          ·rw [if_pos c10] at H
           have c10b0 : decide (0 ≤ x4_1) = true := decide_eq_true c10
           clear c10
           by_cases c11 : x4_1 < (l0.length : Int)
           ·rw [if_pos c11] at H
            have c11b0 : decide (x4_1 < (l0.length : Int)) = true := decide_eq_true c11
            clear c11
            by_cases c12 : (rd l0 x6_2) = (rd l0 x4_1)
            ·rw [if_pos c12] at H
             have c12b0 : ((rd l0 x6_2) == (rd l0 x4_1)) = true := beq_iff_eq.mpr c12
             have c12b1 : ((rd l0 x6_2) != (rd l0 x4_1)) = false := bne_eq_false_iff_eq.mpr c12
             clear c12
             have H' := Aside0.mk H
             clear H
             have p458 : 0 ≤ (x6_2 : Int) := of_decide_eq_true (by first | (with_reducible assumption) | assumption)
             have q458 : x6_2 < (l0.length : Int) := of_decide_eq_true (by first | (with_reducible assumption) | assumption)
             obtain ⟨ad458, e458, hx458_0⟩ := Kd.at_int HR0.out x6_2 p458 q458
             cases e458
             try replace hx458_0 := (HB.out.cell (World.block_lt_of_cell? w _ hx458_0)).trans hx458_0
             replace p458 := eq_true p458
             replace q458 := eq_true q458
             have p459 : 0 ≤ (x4_1 : Int) := of_decide_eq_true (by first | (with_reducible assumption) | assumption)
             have q459 : x4_1 < (l0.length : Int) := of_decide_eq_true (by first | (with_reducible assumption) | assumption)
             obtain ⟨ad459, e459, hx459_0⟩ := Kd.at_int HR0.out x4_1 p459 q459
             obtain rfl : ad458 = ad459 := (by injection e459)
             try replace hx459_0 := (HB.out.cell (World.block_lt_of_cell? w _ hx459_0)).trans hx459_0
             replace p459 := eq_true p459
             replace q459 := eq_true q459
             go_wp2
             repeat (go_quiet (fail); try go_wp2)
             go_roundg k2
             case measure => have := HK1.out; have := HK2.out; omega
             case rel => exact ⟨(true), (wrap64 (x6_2 + 1)), (by first | rfl | (simp; done) | (simp [*]; done)), (by first | rfl | (simp; done) | (simp [*]; done)), H', ⟨by have := HK1.out; have := HK2.out; omega⟩, ⟨Hof.Rw HO_3.out⟩, ⟨Hof.Lw HB.out⟩⟩
            ·rw [if_neg c12] at H
             have c12b0 : ((rd l0 x6_2) == (rd l0 x4_1)) = false := beq_eq_false_iff_ne.mpr c12
             have c12b1 : ((rd l0 x6_2) != (rd l0 x4_1)) = true := bne_iff_ne.mpr c12
             have H' := Aside0.mk H
             clear H
             have p458 : 0 ≤ (x6_2 : Int) := of_decide_eq_true (by first | (with_reducible assumption) | assumption)
             have q458 : x6_2 < (l0.length : Int) := of_decide_eq_true (by first | (with_reducible assumption) | assumption)
             obtain ⟨ad458, e458, hx458_0⟩ := Kd.at_int HR0.out x6_2 p458 q458
             cases e458
             try replace hx458_0 := (HB.out.cell (World.block_lt_of_cell? w _ hx458_0)).trans hx458_0
             replace p458 := eq_true p458
             replace q458 := eq_true q458
             have p459 : 0 ≤ (x4_1 : Int) := of_decide_eq_true (by first | (with_reducible assumption) | assumption)
             have q459 : x4_1 < (l0.length : Int) := of_decide_eq_true (by first | (with_reducible assumption) | assumption)
             obtain ⟨ad459, e459, hx459_0⟩ := Kd.at_int HR0.out x4_1 p459 q459
             obtain rfl : ad458 = ad459 := (by injection e459)
             try replace hx459_0 := (HB.out.cell (World.block_lt_of_cell? w _ hx459_0)).trans hx459_0
             replace p459 := eq_true p459
             replace q459 := eq_true q459
             have p460 : 0 ≤ (x6_2 : Int) := of_decide_eq_true (by first | (with_reducible assumption) | assumption)
             have q460 : x6_2 < (l0.length : Int) := of_decide_eq_true (by first | (with_reducible assumption) | assumption)
             obtain ⟨ad460, e460, hx460_0⟩ := Kd.at_int HR0.out x6_2 p460 q460
             obtain rfl : ad458 = ad460 := (by injection e460)
             try replace hx460_0 := (HB.out.cell (World.block_lt_of_cell? w _ hx460_0)).trans hx460_0
             replace p460 := eq_true p460
             replace q460 := eq_true q460
             have p461 : 0 ≤ (x4_1 : Int) := of_decide_eq_true (by first | (with_reducible assumption) | assumption)
             have q461 : x4_1 < (l0.length : Int) := of_decide_eq_true (by first | (with_reducible assumption) | assumption)
             obtain ⟨ad461, e461, hx461_0⟩ := Kd.at_int HR0.out x4_1 p461 q461
             obtain rfl : ad458 = ad461 := (by injection e461)
             try replace hx461_0 := (HB.out.cell (World.block_lt_of_cell? w _ hx461_0)).trans hx461_0
             replace p461 := eq_true p461
             replace q461 := eq_true q461
             have p462 : 0 ≤ (x4_1 : Int) := of_decide_eq_true (by first | (with_reducible assumption) | assumption)
             have q462 : x4_1 < (l0.length : Int) := of_decide_eq_true (by first | (with_reducible assumption) | assumption)
             obtain ⟨ad462, e462, hx462_0⟩ := Kd.at_int HR0.out x4_1 p462 q462
             obtain rfl : ad458 = ad462 := (by injection e462)
             try replace hx462_0 := (HB.out.cell (World.block_lt_of_cell? w _ hx462_0)).trans hx462_0
             replace p462 := eq_true p462
             replace q462 := eq_true q462
             go_wp2
             repeat (go_quiet (fail); try go_wp2)
             go_roundg k2
             case measure => have := HK1.out; have := HK2.out; omega
             case rel => exact ⟨(((Go.bits .and .i64 (rd l0 x6_2) (rd l0 x4_1)) != (rd l0 x4_1))), (wrap64 (x6_2 + 1)), (by first | rfl | (simp; done) | (simp [*]; done)), (by first | rfl | (simp; done) | (simp [*]; done)), H', ⟨by have := HK1.out; have := HK2.out; omega⟩, ⟨Hof.Rw HO_3.out⟩, ⟨Hof.Lw HB.out⟩⟩
           ·rw [if_neg c11] at H
            exact absurd H (by simp)
          ·rw [if_neg c10] at H
           exact absurd H (by simp)
         ·rw [if_neg c9] at H
          exact absurd H (by simp)
        ·replace c8 := Bool.eq_false_iff.mpr c8
         subst c8
         have H1 : (spec_MaximalSets.l1 k2 l0 x3_1 x4_1 false (wrap64 (x6_2 + 1))) = some r := by rw [if_neg (show ¬ (false = true) by decide)] at H; exact H
         clear H
         have H := H1
         clear H1
         have H' := Aside0.mk H
         clear H
         go_wp2
         repeat (go_quiet (fail); try go_wp2)
         go_roundg k2
         case measure => have := HK1.out; have := HK2.out; omega
         case rel => exact ⟨(false), (wrap64 (x6_2 + 1)), (by first | rfl | (simp; done) | (simp [*]; done)), (by first | rfl | (simp; done) | (simp [*]; done)), H', ⟨by have := HK1.out; have := HK2.out; omega⟩, ⟨Hof.Rw HO_3.out⟩, ⟨Hof.Lw HB.out⟩⟩
       ·rw [if_neg c7] at H
        have c7b0 : decide (x6_2 < (l0.length : Int)) = false := decide_eq_false c7
        clear c7
        by_cases c13 : x5_2 = true
        ·subst c13
         have H1 : (if 0 ≤ x4_1 then (if x4_1 < (l0.length : Int) then (if x3_1.length < 17592186044416 then (spec_MaximalSets.l0 k2 l0 (x3_1 ++ [rd l0 x4_1]) (wrap64 (x4_1 + 1))) else (none)) else (none)) else (none)) = some r := by rw [if_pos rfl] at H; exact H
         clear H
         have H := H1
         clear H1
         by_cases c14 : 0 ≤ x4_1
         ·rw [if_pos c14] at H
          have c14b0 : decide (0 ≤ x4_1) = true := decide_eq_true c14
          clear c14
          by_cases c15 : x4_1 < (l0.length : Int)
          ·rw [if_pos c15] at H
           have c15b0 : decide (x4_1 < (l0.length : Int)) = true := decide_eq_true c15
           clear c15
           by_cases c16 : x3_1.length < 17592186044416
           ·rw [if_pos c16] at H
            have LMc16 := Aside0.mk c16
            clear c16
            obtain ⟨y464, hy464⟩ : ∃ y_ : List Int, y_ = (x3_1 ++ [rd l0 x4_1]) := ⟨_, rfl⟩
            replace H : (spec_MaximalSets.l0 k2 l0 y464 (wrap64 (x4_1 + 1))) = some r := by first | (rw [hy464]; with_reducible exact H) | (have H2_ := (Option.bind_some _ _).symm.trans H; rw [hy464]; with_reducible exact H2_) | (have H2_ := (Option.bind_some _ _).symm.trans H; with_reducible exact H2_) | with_reducible exact H | (rw [hy464]; exact H) | exact H
            have Ny464 := Aside0.mk hy464
            clear hy464
            have H' := Aside0.mk H
            clear H
            have p463 : 0 ≤ (x4_1 : Int) := of_decide_eq_true (by first | (with_reducible assumption) | assumption)
            have q463 : x4_1 < (l0.length : Int) := of_decide_eq_true (by first | (with_reducible assumption) | assumption)
            obtain ⟨ad463, e463, hx463_0⟩ := Kd.at_int HR0.out x4_1 p463 q463
            cases e463
            try replace hx463_0 := (HB.out.cell (World.block_lt_of_cell? w _ hx463_0)).trans hx463_0
            replace p463 := eq_true p463
            replace q463 := eq_true q463
            go_wp2_with (first | ((with_reducible refine gate_builtin (b := .append) (xs := #[.tmp 53, .tmp 58]) rfl ?_); at_builtin; refine Kd.R_append (Kd.int .i64) (w0 := w) w.heap.size rfl (.tmp 53) (.tmp 58) 24 3 (.int .i64 0) 8 rfl Try.underlying24 info3 rfl (by decide) (by omega) u3 x3_1 (rd l0 x4_1) [.int .i64 (rd l0 x4_1)] (fun _ => True) (fun _ => False) rfl rfl ?aP (fun _ hk => hk.elim) ?aF ?aO ?aB ?aS ?aL ?_; (case aP => exact rfl); (case aB => exact (Hof.Lw HB.out)); (case aF => exact (fun _ _ => trivial)); (case aO => exact (Hof.Rw HO_3.out)); (case aS => exact (below_size (Hof.Lw HB.out))); (case aL => have := LMc16.out; omega); intro v465 w17 ho hb hg hat; rw [← Ny464.out] at ho; have n0_ := Aside0.mk hb; have n1_ := Aside0.mk ho; clear HB; clear HO_3; have HB := n0_; have HO466 := n1_; clear n0_ n1_; clear ho hb hg hat))
            repeat (go_quiet (first | ((with_reducible refine gate_builtin (b := .append) (xs := #[.tmp 53, .tmp 58]) rfl ?_); at_builtin; refine Kd.R_append (Kd.int .i64) (w0 := w) w.heap.size rfl (.tmp 53) (.tmp 58) 24 3 (.int .i64 0) 8 rfl Try.underlying24 info3 rfl (by decide) (by omega) u3 x3_1 (rd l0 x4_1) [.int .i64 (rd l0 x4_1)] (fun _ => True) (fun _ => False) rfl rfl ?aP (fun _ hk => hk.elim) ?aF ?aO ?aB ?aS ?aL ?_; (case aP => exact rfl); (case aB => exact (Hof.Lw HB.out)); (case aF => exact (fun _ _ => trivial)); (case aO => exact (Hof.Rw HO_3.out)); (case aS => exact (below_size (Hof.Lw HB.out))); (case aL => have := LMc16.out; omega); intro v465 w17 ho hb hg hat; rw [← Ny464.out] at ho; have n0_ := Aside0.mk hb; have n1_ := Aside0.mk ho; clear HB; clear HO_3; have HB := n0_; have HO466 := n1_; clear n0_ n1_; clear ho hb hg hat)); try go_wp2_with (first | ((with_reducible refine gate_builtin (b := .append) (xs := #[.tmp 53, .tmp 58]) rfl ?_); at_builtin; refine Kd.R_append (Kd.int .i64) (w0 := w) w.heap.size rfl (.tmp 53) (.tmp 58) 24 3 (.int .i64 0) 8 rfl Try.underlying24 info3 rfl (by decide) (by omega) u3 x3_1 (rd l0 x4_1) [.int .i64 (rd l0 x4_1)] (fun _ => True) (fun _ => False) rfl rfl ?aP (fun _ hk => hk.elim) ?aF ?aO ?aB ?aS ?aL ?_; (case aP => exact rfl); (case aB => exact (Hof.Lw HB.out)); (case aF => exact (fun _ _ => trivial)); (case aO => exact (Hof.Rw HO_3.out)); (case aS => exact (below_size (Hof.Lw HB.out))); (case aL => have := LMc16.out; omega); intro v465 w17 ho hb hg hat; rw [← Ny464.out] at ho; have n0_ := Aside0.mk hb; have n1_ := Aside0.mk ho; clear HB; clear HO_3; have HB := n0_; have HO466 := n1_; clear n0_ n1_; clear ho hb hg hat)))
            go_roundg k2
            case measure => have := HK1.out; have := HK2.out; omega
            case rel => exact ⟨(y464), (wrap64 (x4_1 + 1)), (by first | rfl | (simp; done) | (simp [*]; done)), H', ⟨by have := HK1.out; have := HK2.out; omega⟩, ⟨Hof.Rw HO466.out⟩, ⟨Hof.Lw HB.out⟩⟩
           ·rw [if_neg c16] at H
            exact absurd H (by simp)
          ·rw [if_neg c15] at H
           exact absurd H (by simp)
         ·rw [if_neg c14] at H
          exact absurd H (by simp)
        ·replace c13 := Bool.eq_false_iff.mpr c13
         subst c13
         have H1 : (spec_MaximalSets.l0 k2 l0 x3_1 (wrap64 (x4_1 + 1))) = some r := by rw [if_neg (show ¬ (false = true) by decide)] at H; exact H
         clear H
         have H := H1
         clear H1
         have H' := Aside0.mk H
         clear H
         go_wp2
         repeat (go_quiet (fail); try go_wp2)
         go_roundg k2
         case measure => have := HK1.out; have := HK2.out; omega
         case rel => exact ⟨(x3_1), (wrap64 (x4_1 + 1)), (by first | rfl | (simp; done) | (simp [*]; done)), H', ⟨by have := HK1.out; have := HK2.out; omega⟩, ⟨Hof.Rw HO_3.out⟩, ⟨Hof.Lw HB.out⟩⟩
    ·rw [if_neg c6] at H
     have c6b0 : decide (x4_1 < (l0.length : Int)) = false := decide_eq_false c6
     clear c6
     replace H := Option.bind_eq_some_iff.mp H
     obtain ⟨t455, A180, H⟩ := H
     (try dsimp only at H)
     have A18 := Aside0.mk A180
     clear A180
     obtain rfl := Option.some.inj H
     obtain ⟨Ao19, co19, eo19⟩ := Kd.R_slice HO_3.out
     subst eo19
     go_wp2_with (first | (go_at_call 108; (with_reducible refine (spec_SortSets.calls k1 _ _ x3_1 t455 _ ?side1 ?side2 A18.out).mono ?_); (case side1 => exact Hof.Cw ((Kd.R_reads' HO_3.out).2.2)); (case side2 => exact (Kd.R_reads' HO_3.out).2.1); rintro e w20 ⟨v456, rfl, ho0, hb⟩; have HO457 := Aside0.mk (Kd.R_lower (Kd.R_new' ho0 (Kd.R_lt (Hof.Rw HO_3.out))) (below_size (Hof.Lw HB.out))); replace HO_3 := Aside0.mk (Kd.R_elder' (Hof.Rw HO_3.out) (Kd.R_base ho0) hb); replace HB := Aside0.mk (below_step (Hof.Lw HB.out) hb); (try clear hb); (try clear hb2); (try clear hk); (try clear hi); (try clear ho0)))
     repeat (go_quiet (first | (go_at_call 108; (with_reducible refine (spec_SortSets.calls k1 _ _ x3_1 t455 _ ?side1 ?side2 A18.out).mono ?_); (case side1 => exact Hof.Cw ((Kd.R_reads' HO_3.out).2.2)); (case side2 => exact (Kd.R_reads' HO_3.out).2.1); rintro e w20 ⟨v456, rfl, ho0, hb⟩; have HO457 := Aside0.mk (Kd.R_lower (Kd.R_new' ho0 (Kd.R_lt (Hof.Rw HO_3.out))) (below_size (Hof.Lw HB.out))); replace HO_3 := Aside0.mk (Kd.R_elder' (Hof.Rw HO_3.out) (Kd.R_base ho0) hb); replace HB := Aside0.mk (below_step (Hof.Lw HB.out) hb); (try clear hb); (try clear hb2); (try clear hk); (try clear hi); (try clear ho0))); try go_wp2_with (first | (go_at_call 108; (with_reducible refine (spec_SortSets.calls k1 _ _ x3_1 t455 _ ?side1 ?side2 A18.out).mono ?_); (case side1 => exact Hof.Cw ((Kd.R_reads' HO_3.out).2.2)); (case side2 => exact (Kd.R_reads' HO_3.out).2.1); rintro e w20 ⟨v456, rfl, ho0, hb⟩; have HO457 := Aside0.mk (Kd.R_lower (Kd.R_new' ho0 (Kd.R_lt (Hof.Rw HO_3.out))) (below_size (Hof.Lw HB.out))); replace HO_3 := Aside0.mk (Kd.R_elder' (Hof.Rw HO_3.out) (Kd.R_base ho0) hb); replace HB := Aside0.mk (below_step (Hof.Lw HB.out) hb); (try clear hb); (try clear hb2); (try clear hk); (try clear hi); (try clear ho0))))
     go_ret
     exact ⟨_, by first | rfl | (simp [errW_none, errW_some] <;> rfl) | (simp [*, errW_none, errW_some] <;> rfl), by (with_reducible repeat (first | apply Kd.R_alloc | apply Kd.R_drewN | apply Kd.R_drew)); exact Kd.R_mono HO457.out (fun _ hk => trivial), by repeat (first | (with_reducible first | exact HB.out | apply below_alloc | apply pw_below_drewN | apply below_drew1) | exact HB.out)⟩
 ·replace c3 := Bool.eq_false_iff.mpr c3
  subst c3
  have H1 : (some y451) = some r := by rw [if_neg (show ¬ (false = true) by decide)] at H; exact H
  clear H
  have H := H1
  clear H1
  obtain rfl := Option.some.inj H
  go_enter Try.func67, Try.ntmps67
  go_wp2_with (first | ((with_reducible refine gate_dst (N := 7) rfl ?_); refine Kd.R_lit (Kd.int .i64) _ 3 ?hg (N := 7) ?hd (xs := ([] : List Int)) (inner := []) (ok := fun _ => True) (okp := fun _ => True) ?hr ?hp (fun _ hk => hk) trivial (Below.refl _ _) (Nat.le_refl _) (by simp) ?_; (case hd => rfl); (case hg => rfl); (case hr => first | (go_simp; done) | (go_simp; rfl)); (case hp => exact (Reps.none _ _)); intro v452 w21 ho22 hb hg_ hnew_; clear hg_ hnew_; (first | rw [← Ny451.out] at ho22 | (simp only [Int.reduceToNat] at ho22; rw [← Ny451.out] at ho22)); have HO453 := Aside0.mk (Kd.R_lower ho22 (below_size (Hof.Lw HB.out))); replace HB := Aside0.mk (below_step (Hof.Lw HB.out) hb); clear hb ho22) | (go_at_call 107; (with_reducible refine (spec_l3Sets.calls k 8 _ _ l0 false _ ?side1 ?side2 A2.out).mono ?_); (case side1 => exact Hof.Cw (Kd.C_below HR0.out HB.out)); (case side2 => exact HC0.out); rintro e w' ⟨rfl, ⟨nd, rfl⟩⟩; (try first | exact ⟨rfl, _, World.drewN_drewN _ _ _⟩ | exact ⟨rfl, _, Eq.trans (World.drewN_drewN _ _ _) (congrArg (World.drewN _) (Nat.add_assoc _ _ _))⟩)))
  repeat (go_quiet (first | ((with_reducible refine gate_dst (N := 7) rfl ?_); refine Kd.R_lit (Kd.int .i64) _ 3 ?hg (N := 7) ?hd (xs := ([] : List Int)) (inner := []) (ok := fun _ => True) (okp := fun _ => True) ?hr ?hp (fun _ hk => hk) trivial (Below.refl _ _) (Nat.le_refl _) (by simp) ?_; (case hd => rfl); (case hg => rfl); (case hr => first | (go_simp; done) | (go_simp; rfl)); (case hp => exact (Reps.none _ _)); intro v452 w21 ho22 hb hg_ hnew_; clear hg_ hnew_; (first | rw [← Ny451.out] at ho22 | (simp only [Int.reduceToNat] at ho22; rw [← Ny451.out] at ho22)); have HO453 := Aside0.mk (Kd.R_lower ho22 (below_size (Hof.Lw HB.out))); replace HB := Aside0.mk (below_step (Hof.Lw HB.out) hb); clear hb ho22) | (go_at_call 107; (with_reducible refine (spec_l3Sets.calls k 8 _ _ l0 false _ ?side1 ?side2 A2.out).mono ?_); (case side1 => exact Hof.Cw (Kd.C_below HR0.out HB.out)); (case side2 => exact HC0.out); rintro e w' ⟨rfl, ⟨nd, rfl⟩⟩; (try first | exact ⟨rfl, _, World.drewN_drewN _ _ _⟩ | exact ⟨rfl, _, Eq.trans (World.drewN_drewN _ _ _) (congrArg (World.drewN _) (Nat.add_assoc _ _ _))⟩))); try go_wp2_with (first | ((with_reducible refine gate_dst (N := 7) rfl ?_); refine Kd.R_lit (Kd.int .i64) _ 3 ?hg (N := 7) ?hd (xs := ([] : List Int)) (inner := []) (ok := fun _ => True) (okp := fun _ => True) ?hr ?hp (fun _ hk => hk) trivial (Below.refl _ _) (Nat.le_refl _) (by simp) ?_; (case hd => rfl); (case hg => rfl); (case hr => first | (go_simp; done) | (go_simp; rfl)); (case hp => exact (Reps.none _ _)); intro v452 w21 ho22 hb hg_ hnew_; clear hg_ hnew_; (first | rw [← Ny451.out] at ho22 | (simp only [Int.reduceToNat] at ho22; rw [← Ny451.out] at ho22)); have HO453 := Aside0.mk (Kd.R_lower ho22 (below_size (Hof.Lw HB.out))); replace HB := Aside0.mk (below_step (Hof.Lw HB.out) hb); clear hb ho22) | (go_at_call 107; (with_reducible refine (spec_l3Sets.calls k 8 _ _ l0 false _ ?side1 ?side2 A2.out).mono ?_); (case side1 => exact Hof.Cw (Kd.C_below HR0.out HB.out)); (case side2 => exact HC0.out); rintro e w' ⟨rfl, ⟨nd, rfl⟩⟩; (try first | exact ⟨rfl, _, World.drewN_drewN _ _ _⟩ | exact ⟨rfl, _, Eq.trans (World.drewN_drewN _ _ _) (congrArg (World.drewN _) (Nat.add_assoc _ _ _))⟩))))
  go_ret
  exact ⟨_, by first | rfl | (simp [errW_none, errW_some] <;> rfl) | (simp [*, errW_none, errW_some] <;> rfl), by (with_reducible repeat (first | apply Kd.R_alloc | apply Kd.R_drewN | apply Kd.R_drew)); exact HO453.out, by repeat (first | (with_reducible first | exact HB.out | apply below_alloc | apply pw_below_drewN | apply below_drew1) | exact HB.out)⟩
end Go.Proofs.Ytmpodackojmojaa.Pr
end
section
namespace Go.Proofs.Ytmpodackojmojaa.Pr
open Go.RowKit Go.Proofs.YtmpodackojmojaaW.PrintWords Go.Proofs.YtmpodackojmojaaW.PrintLast Go.Proofs.YtmpodackojmojaaW.PrintMore
attribute [local go_sem] max2_int min2_int max_two min_two max_three min_three max_four min_four
set_option linter.unusedVariables false
set_option linter.unusedSimpArgs false
def spec_TaskMatroid.l0 : Nat → List (S73) → List Int → Int → Option (Int × List Int)
 | 0, _, _, _ => none
 | k + 1, x0, x3, x4 => (spec_FullSet.f (x0.length : Int)).bind fun t472 => (if x4 ≤ t472 then ((spec_PlanOf.f k x0 x4).bind fun bt473 => (if bt473.2 = true then (if x3.length < 17592186044416 then (spec_TaskMatroid.l0 k x0 (x3 ++ [x4]) (wrap64 (x4 + 1))) else (none)) else (spec_TaskMatroid.l0 k x0 x3 (wrap64 (x4 + 1))))) else ((spec_MaximalSets.f k x3).bind fun t480 => (some ((x0.length : Int), t480))))
def spec_TaskMatroid.f (k : Nat) (l0 : List (S73)) : Option (Int × List Int) := (spec_AreTasks.f k l0).bind fun t468 => (if t468 = true then (spec_TaskMatroid.l0 k l0 (([] : List Int)) 0) else (some (0, ([] : List Int))))
set_option maxHeartbeats 8000000 in
set_option maxRecDepth 100000 in
theorem spec_TaskMatroid.calls (k : Nat) (A0 : Option Addr) (c0 : Nat) (l0 : List (S73)) (r1 : Int) (r2 : List Int) (w : World) (hr0 : Kd.C k73 w A0 l0.length l0) (hc0 : l0.length ≤ c0) (h : spec_TaskMatroid.f k l0 = some (r1, r2)) :
  Calls Try.prog 21 #[.slice A0 l0.length c0] w fun e w' => ∃ v1_ : Value, e = .returned (.agg #[.int .i64 r1, v1_]) ∧ Kd.R (Kd.int .i64) 3 w' w.heap.size (fun _ => True) v1_ r2 ∧ Below w.heap.size w w' := by
 have hu35 := Try.underlying35
 have HR0 := Aside0.mk hr0
 have HC0 := Aside0.mk hc0
 clear hr0 hc0
 have HB := Aside0.mk (Below.refl w.heap.size w)
 have H : ((spec_AreTasks.f k l0).bind fun t468 => (if t468 = true then (spec_TaskMatroid.l0 k l0 (([] : List Int)) 0) else (some (0, ([] : List Int))))) = some (r1, r2) := h
 clear h
 replace H := Option.bind_eq_some_iff.mp H
 obtain ⟨t468, A20, H⟩ := H
 (try dsimp only at H)
 have A2 := Aside0.mk A20
 clear A20
 by_cases c3 : t468 = true
 ·subst c3
  have H1 : (spec_TaskMatroid.l0 k l0 (([] : List Int)) 0) = some (r1, r2) := by rw [if_pos rfl] at H; exact H
  clear H
  have H := H1
  clear H1
  obtain ⟨y469, hy469⟩ : ∃ y_ : List Int, y_ = (([] : List Int)) := ⟨_, rfl⟩
  replace H : (spec_TaskMatroid.l0 k l0 y469 0) = some (r1, r2) := by first | (rw [hy469]; with_reducible exact H) | (have H2_ := (Option.bind_some _ _).symm.trans H; rw [hy469]; with_reducible exact H2_) | (have H2_ := (Option.bind_some _ _).symm.trans H; with_reducible exact H2_) | with_reducible exact H | (rw [hy469]; exact H) | exact H
  have Ny469 := Aside0.mk hy469
  clear hy469
  have H' := Aside0.mk H
  clear H
  go_enter Try.func21, Try.ntmps21
  go_wp2_with (first | ((with_reducible refine gate_dst (N := 2) rfl ?_); refine box_event ?hg (N := 2) ?hd (cs := #[.int .i64 0, .slice none 0 0]) (t := 35) ?hr ?_; (case hd => rfl); (case hg => rfl); (case hr => first | (go_simp; done) | (go_simp; rfl)); intro gb467 hg w4 hbox hb; have BK467 := Aside0.mk hbox; have GW467 := Aside0.mk ((by rw [hg]; exact (below_size (Hof.Lw HB.out)) : w.heap.size ≤ gb467)); have GE467 := Aside0.mk ((by rw [hg]; exact (below_size (Hof.Lw HB.out)) : w.heap.size ≤ gb467)); replace HB := Aside0.mk (below_step (Hof.Lw HB.out) hb); clear hb hbox hg) | ((with_reducible refine gate_callee (f := 55) rfl ?_); refine goesL_ (some 8) rfl rfl Try.func55 (by kernel_rfl) rfl #[.slice A0 l0.length c0] rfl (by (try simp only [List.map_toArray, List.map_cons, List.map_nil]); first | done | rfl) ?_; (with_reducible refine (spec_AreTasks.calls k _ _ l0 true _ ?side1 ?side2 A2.out).mono ?_); (case side1 => exact Hof.Cw (Kd.C_below HR0.out HB.out)); (case side2 => exact HC0.out); rintro e w' ⟨rfl, ⟨nd, rfl⟩⟩; refine ⟨_, rfl, ?_⟩) | ((with_reducible refine gate_dst (N := 11) rfl ?_); refine Kd.R_lit (Kd.int .i64) _ 3 ?hg (N := 11) ?hd (xs := ([] : List Int)) (inner := []) (ok := fun _ => True) (okp := fun _ => True) ?hr ?hp (fun _ hk => hk) trivial (Below.refl _ _) (Nat.le_refl _) (by simp) ?_; (case hd => rfl); (case hg => rfl); (case hr => first | (go_simp; done) | (go_simp; rfl)); (case hp => exact (Reps.none _ _)); intro v470 w5 ho6 hb hg_ hnew_; clear hg_ hnew_; (first | rw [← Ny469.out] at ho6 | (simp only [Int.reduceToNat] at ho6; rw [← Ny469.out] at ho6)); have HO471 := Aside0.mk (Kd.R_lower ho6 (below_size (Hof.Lw HB.out))); replace BK467 := Aside0.mk (blk_below (Hof.Bw BK467.out) hb); replace HB := Aside0.mk (below_step (Hof.Lw HB.out) hb); clear hb ho6))
  go_loopg [3, 4] k (fun kq v3 v4 w' => ∃ (x3_1 : List Int) (x4_1 : Int), v4 = .int .i64 x4_1 ∧ Aside0 (spec_TaskMatroid.l0 kq l0 x3_1 x4_1 = some (r1, r2)) ∧ Aside0 (kq ≤ k) ∧ Aside0 (Kd.R (Kd.int .i64) 3 w' w.heap.size (fun _ => True) v3 x3_1) ∧ Aside0 (w'.heap[gb467]? = some (.cells #[.int .i64 0, (.slice none 0 0)] 35 (0, 0))) ∧ Aside0 (Below w.heap.size w w'))
  case atStart => exact ⟨(y469), (0), (by first | rfl | (simp; done) | (simp [*]; done)), H', ⟨Nat.le_refl _⟩, ⟨Hof.Rw HO471.out⟩, ⟨Hof.Bw BK467.out⟩, ⟨Hof.Lw HB.out⟩⟩
  case round =>
   clear H'
   try clear c2
   try clear p2
   try clear c3
   try clear c5
   obtain ⟨x3_1, x4_1, rfl, HA, HK1, HO_3, BK467, HB⟩ := hrel
   cases gk with
   | zero => exact absurd HA.out (by simp [spec_TaskMatroid.l0])
   | succ k1 =>
    have H := HA.out
    clear HA
    simp only [spec_TaskMatroid.l0] at H
    replace H := Option.bind_eq_some_iff.mp H
    obtain ⟨t472, A70, H⟩ := H
    (try dsimp only at H)
    have A7 := Aside0.mk A70
    clear A70
    by_cases c8 : x4_1 ≤ t472
    ·rw [if_pos c8] at H
     have c8b0 : decide (x4_1 ≤ t472) = true := decide_eq_true c8
     clear c8
     replace H := Option.bind_eq_some_iff.mp H
     obtain ⟨⟨t473, t474⟩, A90, H⟩ := H
     (try dsimp only at H)
     have A9 := Aside0.mk A90
     clear A90
     by_cases c10 : t474 = true
     ·subst c10
      have H1 : (if x3_1.length < 17592186044416 then (spec_TaskMatroid.l0 k1 l0 (x3_1 ++ [x4_1]) (wrap64 (x4_1 + 1))) else (none)) = some (r1, r2) := by rw [if_pos rfl] at H; exact H
      clear H
      have H := H1
      clear H1
      by_cases c11 : x3_1.length < 17592186044416
      ·rw [if_pos c11] at H
       have LMc11 := Aside0.mk c11
       clear c11
       obtain ⟨y477, hy477⟩ : ∃ y_ : List Int, y_ = (x3_1 ++ [x4_1]) := ⟨_, rfl⟩
       replace H : (spec_TaskMatroid.l0 k1 l0 y477 (wrap64 (x4_1 + 1))) = some (r1, r2) := by first | (rw [hy477]; with_reducible exact H) | (have H2_ := (Option.bind_some _ _).symm.trans H; rw [hy477]; with_reducible exact H2_) | (have H2_ := (Option.bind_some _ _).symm.trans H; with_reducible exact H2_) | with_reducible exact H | (rw [hy477]; exact H) | exact H
       have Ny477 := Aside0.mk hy477
       clear hy477
       have H' := Aside0.mk H
       clear H
       go_wp2_with (first | ((with_reducible refine gate_callee (f := 49) rfl ?_); refine goesL_ (some 15) rfl rfl Try.func49 (by kernel_rfl) rfl #[.int .i64 (l0.length : Int)] rfl (by (try simp only [List.map_toArray, List.map_cons, List.map_nil]); first | done | rfl) ?_; (with_reducible refine (spec_FullSet.calls (l0.length : Int) t472 _ A7.out).mono ?_); rintro e w' ⟨rfl, ⟨nd, rfl⟩⟩; refine ⟨_, rfl, ?_⟩) | ((with_reducible refine gate_callee (f := 13) rfl ?_); refine goesL_ (some 22) rfl rfl Try.func13 (by kernel_rfl) rfl #[.slice A0 l0.length c0, .int .i64 x4_1] rfl (by (try simp only [List.map_toArray, List.map_cons, List.map_nil]); first | done | rfl) ?_; (with_reducible refine (spec_PlanOf.calls k1 _ _ l0 x4_1 t473 true _ ?side1 ?side2 A9.out).mono ?_); (case side1 => exact Hof.Cw (Kd.C_below HR0.out HB.out)); (case side2 => exact HC0.out); rintro e w12 ⟨v475, rfl, ho0, hb⟩; refine ⟨_, rfl, ?_⟩; have HO476 := Aside0.mk (Kd.R_lower (Kd.R_new' ho0 (Kd.R_lt (Hof.Rw HO_3.out))) (below_size (Hof.Lw HB.out))); replace HO_3 := Aside0.mk (Kd.R_elder' (Hof.Rw HO_3.out) (Kd.R_base ho0) hb); replace BK467 := Aside0.mk (blk_below (Hof.Bw BK467.out) hb); replace HB := Aside0.mk (below_step (Hof.Lw HB.out) hb); (try clear hb); (try clear hb2); (try clear hk); (try clear hi); (try clear ho0)) | ((with_reducible refine gate_builtin (b := .append) (xs := #[.tmp 26, .tmp 28]) rfl ?_); at_builtin; refine Kd.R_append (Kd.int .i64) (w0 := w) w.heap.size rfl (.tmp 26) (.tmp 28) 24 3 (.int .i64 0) 8 rfl Try.underlying24 info3 rfl (by decide) (by omega) u3 x3_1 x4_1 [.int .i64 x4_1] (fun k_ => some k_ ≠ (v475 : Value).ownBlock) (fun _ => False) rfl rfl ?aP (fun _ hk => hk.elim) ?aF ?aO ?aB ?aS ?aL ?_; (case aP => exact rfl); (case aB => exact (Hof.Lw HB.out)); (case aF => exact (fun k_ hk => Kd.fresh' (Kd.R_lt (Hof.Rw HO476.out)) k_ hk)); (case aO => exact (Hof.Rw (Kd.R_mono HO_3.out (fun _ hk => hk.2)))); (case aS => exact (below_size (Hof.Lw HB.out))); (case aL => have := LMc11.out; omega); intro v478 w13 ho hb hg hat; rw [← Ny477.out] at ho; have n0_ := Aside0.mk (blk_grown (g := gb467) (o := .cells #[.int .i64 0, .slice none 0 0] 35 (0, 0)) (Hof.Bw BK467.out) hg (Kd.R_ne HO_3.out BK467.out (by decide))); have n1_ := Aside0.mk (Kd.R_after (ok := (fun _ => True)) (Hof.Rw HO476.out) hg hat); have n2_ := Aside0.mk hb; have n3_ := Aside0.mk ho; clear BK467; clear HO476; clear HB; clear HO_3; have BK467 := n0_; have HO476 := n1_; have HB := n2_; have HO479 := n3_; clear n0_ n1_ n2_ n3_; clear ho hb hg hat))
       go_roundg k1
       case measure => have := HK1.out; omega
       case rel => exact ⟨(y477), (wrap64 (x4_1 + 1)), (by first | rfl | (simp; done) | (simp [*]; done)), H', ⟨by have := HK1.out; omega⟩, ⟨Hof.Rw (Kd.R_mono HO479.out (fun _ hk => trivial))⟩, ⟨Hof.Bw BK467.out⟩, ⟨Hof.Lw HB.out⟩⟩
      ·rw [if_neg c11] at H
       exact absurd H (by simp)
     ·replace c10 := Bool.eq_false_iff.mpr c10
      subst c10
      have H1 : (spec_TaskMatroid.l0 k1 l0 x3_1 (wrap64 (x4_1 + 1))) = some (r1, r2) := by rw [if_neg (show ¬ (false = true) by decide)] at H; exact H
      clear H
      have H := H1
      clear H1
      have H' := Aside0.mk H
      clear H
      go_wp2_with (first | ((with_reducible refine gate_callee (f := 49) rfl ?_); refine goesL_ (some 15) rfl rfl Try.func49 (by kernel_rfl) rfl #[.int .i64 (l0.length : Int)] rfl (by (try simp only [List.map_toArray, List.map_cons, List.map_nil]); first | done | rfl) ?_; (with_reducible refine (spec_FullSet.calls (l0.length : Int) t472 _ A7.out).mono ?_); rintro e w' ⟨rfl, ⟨nd, rfl⟩⟩; refine ⟨_, rfl, ?_⟩) | ((with_reducible refine gate_callee (f := 13) rfl ?_); refine goesL_ (some 22) rfl rfl Try.func13 (by kernel_rfl) rfl #[.slice A0 l0.length c0, .int .i64 x4_1] rfl (by (try simp only [List.map_toArray, List.map_cons, List.map_nil]); first | done | rfl) ?_; (with_reducible refine (spec_PlanOf.calls k1 _ _ l0 x4_1 t473 false _ ?side1 ?side2 A9.out).mono ?_); (case side1 => exact Hof.Cw (Kd.C_below HR0.out HB.out)); (case side2 => exact HC0.out); rintro e w14 ⟨v475, rfl, ho0, hb⟩; refine ⟨_, rfl, ?_⟩; have HO476 := Aside0.mk (Kd.R_lower (Kd.R_new' ho0 (Kd.R_lt (Hof.Rw HO_3.out))) (below_size (Hof.Lw HB.out))); replace HO_3 := Aside0.mk (Kd.R_elder' (Hof.Rw HO_3.out) (Kd.R_base ho0) hb); replace BK467 := Aside0.mk (blk_below (Hof.Bw BK467.out) hb); replace HB := Aside0.mk (below_step (Hof.Lw HB.out) hb); (try clear hb); (try clear hb2); (try clear hk); (try clear hi); (try clear ho0)))
      go_roundg k1
      case measure => have := HK1.out; omega
      case rel => exact ⟨(x3_1), (wrap64 (x4_1 + 1)), (by first | rfl | (simp; done) | (simp [*]; done)), H', ⟨by have := HK1.out; omega⟩, ⟨Hof.Rw (Kd.R_mono HO_3.out (fun _ hk => trivial))⟩, ⟨Hof.Bw BK467.out⟩, ⟨Hof.Lw HB.out⟩⟩
    ·rw [if_neg c8] at H
     have c8b0 : decide (x4_1 ≤ t472) = false := decide_eq_false c8
     clear c8
     replace H := Option.bind_eq_some_iff.mp H
     obtain ⟨t480, A150, H⟩ := H
     (try dsimp only at H)
     have A15 := Aside0.mk A150
     clear A150
     simp only [Option.some.injEq, Prod.mk.injEq] at H
     obtain ⟨rfl, rfl⟩ := H
     go_wp2_with (first | ((with_reducible refine gate_callee (f := 49) rfl ?_); refine goesL_ (some 15) rfl rfl Try.func49 (by kernel_rfl) rfl #[.int .i64 (l0.length : Int)] rfl (by (try simp only [List.map_toArray, List.map_cons, List.map_nil]); first | done | rfl) ?_; (with_reducible refine (spec_FullSet.calls (l0.length : Int) t472 _ A7.out).mono ?_); rintro e w' ⟨rfl, ⟨nd, rfl⟩⟩; refine ⟨_, rfl, ?_⟩; (try (rw [drewN_self wr]; generalize hq_ : World.drewN wr _ = wr; have n0_ : Aside0 (Kd.R (Kd.int .i64) 3 wr w.heap.size (fun _ => True) u3 x3_1) := ⟨by rw [← hq_]; exact (Hof.Rw HO_3.out)⟩; have n1_ : Aside0 (wr.heap[gb467]? = some (.cells #[.int .i64 0, .slice none 0 0] 35 (0, 0))) := ⟨by rw [← hq_]; exact (Hof.Bw BK467.out)⟩; have n2_ : Aside0 (Below w.heap.size w wr) := ⟨by rw [← hq_]; exact (Hof.Lw HB.out)⟩; clear HO_3 BK467 HB hq_; have HO_3 := n0_; have BK467 := n1_; have HB := n2_; clear n0_ n1_ n2_; have hcy467_0 : wr.cell? ⟨gb467, 0, none⟩ = some (.int .i64 0) := (blk_cell BK467.out 0).trans rfl; have hfy467_0 := blk_frozen BK467.out 0; have hcy467_1 : wr.cell? ⟨gb467, 1, none⟩ = some (.slice none 0 0) := (blk_cell BK467.out 1).trans rfl; have hfy467_1 := blk_frozen BK467.out 1)); obtain ⟨Ao16, co16, eo16⟩ := Kd.R_slice HO_3.out; subst eo16) | ((with_reducible refine gate_callee (f := 67) rfl ?_); refine goesL_ (some 33) rfl rfl Try.func67 (by kernel_rfl) rfl #[.slice Ao16 x3_1.length co16] rfl (by (try simp only [List.map_toArray, List.map_cons, List.map_nil]); first | done | rfl) ?_; (with_reducible refine (spec_MaximalSets.calls k1 _ _ x3_1 t480 _ ?side1 ?side2 A15.out).mono ?_); (case side1 => exact Hof.Cw ((Kd.R_reads' HO_3.out).2.2)); (case side2 => exact (Kd.R_reads' HO_3.out).2.1); rintro e w17 ⟨v481, rfl, ho0, hb⟩; refine ⟨_, rfl, ?_⟩; have HO482 := Aside0.mk (Kd.R_lower (Kd.R_new' ho0 (Kd.R_lt (Hof.Rw HO_3.out))) (below_size (Hof.Lw HB.out))); replace HO_3 := Aside0.mk (Kd.R_elder' (Hof.Rw HO_3.out) (Kd.R_base ho0) hb); replace BK467 := Aside0.mk (blk_below (Hof.Bw BK467.out) hb); replace HB := Aside0.mk (below_step (Hof.Lw HB.out) hb); (try clear hb); (try clear hb2); (try clear hk); (try clear hi); (try clear ho0); obtain ⟨Ao18, co18, eo18⟩ := Kd.R_slice HO482.out; subst eo18; obtain ⟨hcz19_0, hcz19_1, hfz19_0, hfz19_1⟩ := Hof.blk2 BK467.out))
     refine bodyPost_ret (results_cell_row rfl _ _ gb467 35 #[.int .i64 (l0.length : Int), .slice Ao18 t480.length co18] (0, 0) _ rfl (by (with_reducible repeat (first | refine blk_drewN ?_ _ | refine blk_drew ?_ | refine blk_alloc ?_ _)); refine blk_put (cs := #[.int .i64 (l0.length : Int), .slice none 0 0]) ?_ 1 _ rfl; (with_reducible repeat (first | refine blk_drewN ?_ _ | refine blk_drew ?_ | refine blk_alloc ?_ _)); refine blk_put (cs := #[.int .i64 0, .slice none 0 0]) ?_ 0 _ rfl; (with_reducible repeat (first | refine blk_drewN ?_ _ | refine blk_drew ?_ | refine blk_alloc ?_ _)); exact BK467.out) Try.underlying35 rfl (by kernel_rfl)) rfl ?_
     exact ⟨_, by first | rfl | (simp [errW_none, errW_some] <;> rfl) | (simp [*, errW_none, errW_some] <;> rfl), by (with_reducible repeat (first | apply Kd.R_alloc | apply Kd.R_drewN | apply Kd.R_drew)); exact Kd.R_mono (Kd.R_far (p := ⟨gb467, 1, none⟩) (Kd.R_far (p := ⟨gb467, 0, none⟩) (Kd.R_types HO482.out BK467.out (by decide)) (fun _ hk => hk.2) (.int .i64 (l0.length : Int))) (fun _ hk => hk.2) (.slice Ao18 t480.length co18)) (fun _ hk => trivial), by repeat (first | (with_reducible first | exact HB.out | apply below_alloc | apply pw_below_drewN | apply below_drew1 | refine below_set ?_ GE467.out) | exact HB.out)⟩
 ·replace c3 := Bool.eq_false_iff.mpr c3
  subst c3
  have H1 : (some (0, ([] : List Int))) = some (r1, r2) := by rw [if_neg (show ¬ (false = true) by decide)] at H; exact H
  clear H
  have H := H1
  clear H1
  simp only [Option.some.injEq, Prod.mk.injEq] at H
  obtain ⟨rfl, rfl⟩ := H
  go_enter Try.func21, Try.ntmps21
  go_wp2_with (first | ((with_reducible refine gate_dst (N := 2) rfl ?_); refine box_event ?hg (N := 2) ?hd (cs := #[.int .i64 0, .slice none 0 0]) (t := 35) ?hr ?_; (case hd => rfl); (case hg => rfl); (case hr => first | (go_simp; done) | (go_simp; rfl)); intro gb467 hg w20 hbox hb; have BK467 := Aside0.mk hbox; have GW467 := Aside0.mk ((by rw [hg]; exact (below_size (Hof.Lw HB.out)) : w.heap.size ≤ gb467)); have GE467 := Aside0.mk ((by rw [hg]; exact (below_size (Hof.Lw HB.out)) : w.heap.size ≤ gb467)); replace HB := Aside0.mk (below_step (Hof.Lw HB.out) hb); clear hb hbox hg) | ((with_reducible refine gate_callee (f := 55) rfl ?_); refine goesL_ (some 8) rfl rfl Try.func55 (by kernel_rfl) rfl #[.slice A0 l0.length c0] rfl (by (try simp only [List.map_toArray, List.map_cons, List.map_nil]); first | done | rfl) ?_; (with_reducible refine (spec_AreTasks.calls k _ _ l0 false _ ?side1 ?side2 A2.out).mono ?_); (case side1 => exact Hof.Cw (Kd.C_below HR0.out HB.out)); (case side2 => exact HC0.out); rintro e w' ⟨rfl, ⟨nd, rfl⟩⟩; refine ⟨_, rfl, ?_⟩; (try (rw [drewN_self w20]; generalize hq_ : World.drewN w20 _ = w20; have n0_ : Aside0 (w20.heap[gb467]? = some (.cells #[.int .i64 0, .slice none 0 0] 35 (0, 0))) := ⟨by rw [← hq_]; exact (Hof.Bw BK467.out)⟩; have n1_ : Aside0 (Below w.heap.size w w20) := ⟨by rw [← hq_]; exact (Hof.Lw HB.out)⟩; clear BK467 HB hq_; have BK467 := n0_; have HB := n1_; clear n0_ n1_; have hcy467_0 : w20.cell? ⟨gb467, 0, none⟩ = some (.int .i64 0) := (blk_cell BK467.out 0).trans rfl; have hfy467_0 := blk_frozen BK467.out 0; have hcy467_1 : w20.cell? ⟨gb467, 1, none⟩ = some (.slice none 0 0) := (blk_cell BK467.out 1).trans rfl; have hfy467_1 := blk_frozen BK467.out 1)); obtain ⟨hcz21_0, hcz21_1, hfz21_0, hfz21_1⟩ := Hof.blk2 BK467.out))
  refine bodyPost_ret (results_cell_row rfl _ _ gb467 35 #[.int .i64 0, .slice none 0 0] (0, 0) _ rfl (by (with_reducible repeat (first | refine blk_drewN ?_ _ | refine blk_drew ?_ | refine blk_alloc ?_ _)); refine blk_put (cs := #[.int .i64 0, .slice none 0 0]) ?_ 1 _ rfl; (with_reducible repeat (first | refine blk_drewN ?_ _ | refine blk_drew ?_ | refine blk_alloc ?_ _)); refine blk_put (cs := #[.int .i64 0, .slice none 0 0]) ?_ 0 _ rfl; (with_reducible repeat (first | refine blk_drewN ?_ _ | refine blk_drew ?_ | refine blk_alloc ?_ _)); exact BK467.out) Try.underlying35 rfl (by kernel_rfl)) rfl ?_
  exact ⟨_, by first | rfl | (simp [errW_none, errW_some] <;> rfl) | (simp [*, errW_none, errW_some] <;> rfl), by first | exact Kd.R_nil _ _ _ _ _ | exact Kd.N_nil _ _ _ _ _ | exact Kd.V_nil _ _ _ _ _ | exact Kd.Q_nil _ _ _ _ _ | exact Kd.S_nil _ _ _ _ _, by repeat (first | (with_reducible first | exact HB.out | apply below_alloc | apply pw_below_drewN | apply below_drew1 | refine below_set ?_ GE467.out) | exact HB.out)⟩
end Go.Proofs.Ytmpodackojmojaa.Pr
end
section
namespace Go.Proofs.Ytmpodackojmojaa.Pr
open Go.RowKit Go.Proofs.YtmpodackojmojaaW.PrintWords Go.Proofs.YtmpodackojmojaaW.PrintLast Go.Proofs.YtmpodackojmojaaW.PrintMore
attribute [local go_sem] max2_int min2_int max_two min_two max_three min_three max_four min_four
set_option linter.unusedVariables false
set_option linter.unusedSimpArgs false
def spec_IsFamily.l0 : Nat → Int → List Int → Int → Option (Bool)
 | 0, _, _, _ => none
 | k + 1, x0, x1, x5 => if x5 < (x1.length : Int) then (if 0 ≤ x5 then ((spec_IsSet.f x0 (rd x1 x5)).bind fun t554 => (if t554 = true then (if x5 > 0 then (if 0 ≤ (wrap64 (x5 - 1)) then (if (wrap64 (x5 - 1)) < (x1.length : Int) then (if (rd x1 (wrap64 (x5 - 1))) ≥ (rd x1 x5) then (some false) else (spec_IsFamily.l0 k x0 x1 (wrap64 (x5 + 1)))) else (none)) else (none)) else (spec_IsFamily.l0 k x0 x1 (wrap64 (x5 + 1)))) else (some false))) else (none)) else ((spec_l1In.f x0 0 8).bind fun t557 => (some t557))
def spec_IsFamily.f (k : Nat) (a0 : Int) (l1 : List Int) : Option (Bool) := spec_IsFamily.l0 k a0 l1 0
set_option maxHeartbeats 8000000 in
set_option maxRecDepth 100000 in
theorem spec_IsFamily.calls (k : Nat) (a0 : Int) (A1 : Option Addr) (c1 : Nat) (l1 : List Int) (r : Bool) (w : World) (hr1 : Kd.C (Kd.int .i64) w A1 l1.length l1) (hc1 : l1.length ≤ c1) (h : spec_IsFamily.f k a0 l1 = some r) :
  Calls Try.prog 114 #[.int .i64 a0, .slice A1 l1.length c1] w fun e w' => e = .returned (.bool r) ∧ Drawn0 w w' := by
 have HR1 := Aside0.mk hr1
 have HC1 := Aside0.mk hc1
 clear hr1 hc1
 have H : (spec_IsFamily.l0 k a0 l1 0) = some r := h
 clear h
 have H' := Aside0.mk H
 clear H
 go_enter Try.func114, Try.ntmps114
 go_wp2
 repeat (go_quiet (fail); try go_wp2)
 go_loopg [5] k (fun kq v5 w' => ∃ (x5_1 : Int), v5 = .int .i64 x5_1 ∧ Aside0 (spec_IsFamily.l0 kq a0 l1 x5_1 = some r) ∧ Aside0 (kq ≤ k) ∧ Drawn0 w w')
 case atStart => exact ⟨(0), (by first | rfl | (simp; done) | (simp [*]; done)), H', ⟨Nat.le_refl _⟩, by repeat (first | exact Drawn0.refl _ | apply Drawn0.step)⟩
 case round =>
  clear H'
  try clear c1
  try clear p2
  obtain ⟨x5_1, rfl, HA, HK1, ⟨m1, rfl⟩⟩ := hrel
  cases gk with
  | zero => exact absurd HA.out (by simp [spec_IsFamily.l0])
  | succ k1 =>
   have H := HA.out
   clear HA
   simp only [spec_IsFamily.l0] at H
   by_cases c3 : x5_1 < (l1.length : Int)
   ·rw [if_pos c3] at H
    have c3b0 : decide (x5_1 < (l1.length : Int)) = true := decide_eq_true c3
    clear c3
    by_cases c4 : 0 ≤ x5_1
    ·rw [if_pos c4] at H
     have c4b0 : decide (0 ≤ x5_1) = true := decide_eq_true c4
     clear c4
     replace H := Option.bind_eq_some_iff.mp H
     obtain ⟨t554, A50, H⟩ := H
     (try dsimp only at H)
     have A5 := Aside0.mk A50
     clear A50
     by_cases c6 : t554 = true
     ·subst c6
      have H1 : (if x5_1 > 0 then (if 0 ≤ (wrap64 (x5_1 - 1)) then (if (wrap64 (x5_1 - 1)) < (l1.length : Int) then (if (rd l1 (wrap64 (x5_1 - 1))) ≥ (rd l1 x5_1) then (some false) else (spec_IsFamily.l0 k1 a0 l1 (wrap64 (x5_1 + 1)))) else (none)) else (none)) else (spec_IsFamily.l0 k1 a0 l1 (wrap64 (x5_1 + 1)))) = some r := by rw [if_pos rfl] at H; exact H
      clear H
      have H := H1
      clear H1
      by_cases c7 : x5_1 > 0
      ·rw [if_pos c7] at H
       have c7b0 : decide (0 < x5_1) = true := decide_eq_true c7
       clear c7
       obtain ⟨ji8, hji8⟩ : ∃ j_ : Int, (wrap64 (x5_1 - 1)) = j_ := ⟨_, rfl⟩
       replace H : (if 0 ≤ (ji8) then (if (ji8) < (l1.length : Int) then (if (rd l1 (ji8)) ≥ (rd l1 x5_1) then (some false) else (spec_IsFamily.l0 k1 a0 l1 (wrap64 (x5_1 + 1)))) else (none)) else (none)) = some r := by first | (rw [hji8] at H; exact H) | (simp only [hji8] at H ⊢; exact H)
       (try rw [hji8] at A5)
       have hji8w : (IntKind.i64.wrap (x5_1 - 1)) = ji8 := (i64_w _).trans hji8
       by_cases c9 : 0 ≤ (ji8)
       ·rw [if_pos c9] at H
        have c9b0 : decide (0 ≤ (ji8)) = true := decide_eq_true c9
        clear c9
        by_cases c10 : (ji8) < (l1.length : Int)
        ·rw [if_pos c10] at H
         have c10b0 : decide ((ji8) < (l1.length : Int)) = true := decide_eq_true c10
         clear c10
         by_cases c11 : (rd l1 (ji8)) ≥ (rd l1 x5_1)
         ·rw [if_pos c11] at H
          have c11b0 : decide ((rd l1 x5_1) ≤ (rd l1 (ji8))) = true := decide_eq_true c11
          clear c11
          obtain rfl := Option.some.inj H
          have p553 : 0 ≤ (x5_1 : Int) := of_decide_eq_true (by first | (with_reducible assumption) | assumption)
          have q553 : x5_1 < (l1.length : Int) := of_decide_eq_true (by first | (with_reducible assumption) | assumption)
          obtain ⟨ad553, e553, hx553_0⟩ := Kd.at_int HR1.out x5_1 p553 q553
          cases e553
          replace p553 := eq_true p553
          replace q553 := eq_true q553
          go_wp2_with (first | (go_at_call 56; (with_reducible refine (spec_IsSet.calls a0 (rd l1 x5_1) true _ A5.out).mono ?_); rintro e w' ⟨rfl, ⟨nd, rfl⟩⟩; (try first | exact ⟨rfl, _, World.drewN_drewN _ _ _⟩ | exact ⟨rfl, _, Eq.trans (World.drewN_drewN _ _ _) (congrArg (World.drewN _) (Nat.add_assoc _ _ _))⟩); have p555 : 0 ≤ ((ji8) : Int) := of_decide_eq_true (by first | (with_reducible assumption) | assumption); have q555 : (ji8) < (l1.length : Int) := of_decide_eq_true (by first | (with_reducible assumption) | assumption); obtain ⟨ad555, e555, hx555_0⟩ := Kd.at_int HR1.out (ji8) p555 q555; obtain rfl : ad553 = ad555 := (by injection e555); replace p555 := eq_true p555; replace q555 := eq_true q555; have p556 : 0 ≤ (x5_1 : Int) := of_decide_eq_true (by first | (with_reducible assumption) | assumption); have q556 : x5_1 < (l1.length : Int) := of_decide_eq_true (by first | (with_reducible assumption) | assumption); obtain ⟨ad556, e556, hx556_0⟩ := Kd.at_int HR1.out x5_1 p556 q556; obtain rfl : ad553 = ad556 := (by injection e556); replace p556 := eq_true p556; replace q556 := eq_true q556))
          repeat (go_quiet (first | (go_at_call 56; (with_reducible refine (spec_IsSet.calls a0 (rd l1 x5_1) true _ A5.out).mono ?_); rintro e w' ⟨rfl, ⟨nd, rfl⟩⟩; (try first | exact ⟨rfl, _, World.drewN_drewN _ _ _⟩ | exact ⟨rfl, _, Eq.trans (World.drewN_drewN _ _ _) (congrArg (World.drewN _) (Nat.add_assoc _ _ _))⟩); have p555 : 0 ≤ ((ji8) : Int) := of_decide_eq_true (by first | (with_reducible assumption) | assumption); have q555 : (ji8) < (l1.length : Int) := of_decide_eq_true (by first | (with_reducible assumption) | assumption); obtain ⟨ad555, e555, hx555_0⟩ := Kd.at_int HR1.out (ji8) p555 q555; obtain rfl : ad553 = ad555 := (by injection e555); replace p555 := eq_true p555; replace q555 := eq_true q555; have p556 : 0 ≤ (x5_1 : Int) := of_decide_eq_true (by first | (with_reducible assumption) | assumption); have q556 : x5_1 < (l1.length : Int) := of_decide_eq_true (by first | (with_reducible assumption) | assumption); obtain ⟨ad556, e556, hx556_0⟩ := Kd.at_int HR1.out x5_1 p556 q556; obtain rfl : ad553 = ad556 := (by injection e556); replace p556 := eq_true p556; replace q556 := eq_true q556)); try go_wp2_with (first | (go_at_call 56; (with_reducible refine (spec_IsSet.calls a0 (rd l1 x5_1) true _ A5.out).mono ?_); rintro e w' ⟨rfl, ⟨nd, rfl⟩⟩; (try first | exact ⟨rfl, _, World.drewN_drewN _ _ _⟩ | exact ⟨rfl, _, Eq.trans (World.drewN_drewN _ _ _) (congrArg (World.drewN _) (Nat.add_assoc _ _ _))⟩); have p555 : 0 ≤ ((ji8) : Int) := of_decide_eq_true (by first | (with_reducible assumption) | assumption); have q555 : (ji8) < (l1.length : Int) := of_decide_eq_true (by first | (with_reducible assumption) | assumption); obtain ⟨ad555, e555, hx555_0⟩ := Kd.at_int HR1.out (ji8) p555 q555; obtain rfl : ad553 = ad555 := (by injection e555); replace p555 := eq_true p555; replace q555 := eq_true q555; have p556 : 0 ≤ (x5_1 : Int) := of_decide_eq_true (by first | (with_reducible assumption) | assumption); have q556 : x5_1 < (l1.length : Int) := of_decide_eq_true (by first | (with_reducible assumption) | assumption); obtain ⟨ad556, e556, hx556_0⟩ := Kd.at_int HR1.out x5_1 p556 q556; obtain rfl : ad553 = ad556 := (by injection e556); replace p556 := eq_true p556; replace q556 := eq_true q556)))
          go_ret
          exact ⟨by first | rfl | (simp; done) | (simp only [← hji8] <;> (first | rfl | simp)) | (simp [*]; done), by repeat (first | exact Drawn0.refl _ | apply Drawn0.step)⟩
         ·rw [if_neg c11] at H
          have c11b0 : decide ((rd l1 x5_1) ≤ (rd l1 (ji8))) = false := decide_eq_false c11
          clear c11
          have H' := Aside0.mk H
          clear H
          have p553 : 0 ≤ (x5_1 : Int) := of_decide_eq_true (by first | (with_reducible assumption) | assumption)
          have q553 : x5_1 < (l1.length : Int) := of_decide_eq_true (by first | (with_reducible assumption) | assumption)
          obtain ⟨ad553, e553, hx553_0⟩ := Kd.at_int HR1.out x5_1 p553 q553
          cases e553
          replace p553 := eq_true p553
          replace q553 := eq_true q553
          go_wp2_with (first | (go_at_call 56; (with_reducible refine (spec_IsSet.calls a0 (rd l1 x5_1) true _ A5.out).mono ?_); rintro e w' ⟨rfl, ⟨nd, rfl⟩⟩; (try first | exact ⟨rfl, _, World.drewN_drewN _ _ _⟩ | exact ⟨rfl, _, Eq.trans (World.drewN_drewN _ _ _) (congrArg (World.drewN _) (Nat.add_assoc _ _ _))⟩); have p555 : 0 ≤ ((ji8) : Int) := of_decide_eq_true (by first | (with_reducible assumption) | assumption); have q555 : (ji8) < (l1.length : Int) := of_decide_eq_true (by first | (with_reducible assumption) | assumption); obtain ⟨ad555, e555, hx555_0⟩ := Kd.at_int HR1.out (ji8) p555 q555; obtain rfl : ad553 = ad555 := (by injection e555); replace p555 := eq_true p555; replace q555 := eq_true q555; have p556 : 0 ≤ (x5_1 : Int) := of_decide_eq_true (by first | (with_reducible assumption) | assumption); have q556 : x5_1 < (l1.length : Int) := of_decide_eq_true (by first | (with_reducible assumption) | assumption); obtain ⟨ad556, e556, hx556_0⟩ := Kd.at_int HR1.out x5_1 p556 q556; obtain rfl : ad553 = ad556 := (by injection e556); replace p556 := eq_true p556; replace q556 := eq_true q556))
          repeat (go_quiet (first | (go_at_call 56; (with_reducible refine (spec_IsSet.calls a0 (rd l1 x5_1) true _ A5.out).mono ?_); rintro e w' ⟨rfl, ⟨nd, rfl⟩⟩; (try first | exact ⟨rfl, _, World.drewN_drewN _ _ _⟩ | exact ⟨rfl, _, Eq.trans (World.drewN_drewN _ _ _) (congrArg (World.drewN _) (Nat.add_assoc _ _ _))⟩); have p555 : 0 ≤ ((ji8) : Int) := of_decide_eq_true (by first | (with_reducible assumption) | assumption); have q555 : (ji8) < (l1.length : Int) := of_decide_eq_true (by first | (with_reducible assumption) | assumption); obtain ⟨ad555, e555, hx555_0⟩ := Kd.at_int HR1.out (ji8) p555 q555; obtain rfl : ad553 = ad555 := (by injection e555); replace p555 := eq_true p555; replace q555 := eq_true q555; have p556 : 0 ≤ (x5_1 : Int) := of_decide_eq_true (by first | (with_reducible assumption) | assumption); have q556 : x5_1 < (l1.length : Int) := of_decide_eq_true (by first | (with_reducible assumption) | assumption); obtain ⟨ad556, e556, hx556_0⟩ := Kd.at_int HR1.out x5_1 p556 q556; obtain rfl : ad553 = ad556 := (by injection e556); replace p556 := eq_true p556; replace q556 := eq_true q556)); try go_wp2_with (first | (go_at_call 56; (with_reducible refine (spec_IsSet.calls a0 (rd l1 x5_1) true _ A5.out).mono ?_); rintro e w' ⟨rfl, ⟨nd, rfl⟩⟩; (try first | exact ⟨rfl, _, World.drewN_drewN _ _ _⟩ | exact ⟨rfl, _, Eq.trans (World.drewN_drewN _ _ _) (congrArg (World.drewN _) (Nat.add_assoc _ _ _))⟩); have p555 : 0 ≤ ((ji8) : Int) := of_decide_eq_true (by first | (with_reducible assumption) | assumption); have q555 : (ji8) < (l1.length : Int) := of_decide_eq_true (by first | (with_reducible assumption) | assumption); obtain ⟨ad555, e555, hx555_0⟩ := Kd.at_int HR1.out (ji8) p555 q555; obtain rfl : ad553 = ad555 := (by injection e555); replace p555 := eq_true p555; replace q555 := eq_true q555; have p556 : 0 ≤ (x5_1 : Int) := of_decide_eq_true (by first | (with_reducible assumption) | assumption); have q556 : x5_1 < (l1.length : Int) := of_decide_eq_true (by first | (with_reducible assumption) | assumption); obtain ⟨ad556, e556, hx556_0⟩ := Kd.at_int HR1.out x5_1 p556 q556; obtain rfl : ad553 = ad556 := (by injection e556); replace p556 := eq_true p556; replace q556 := eq_true q556)))
          go_roundg k1
          case measure => have := HK1.out; omega
          case rel => exact ⟨(wrap64 (x5_1 + 1)), (by first | rfl | (simp; done) | (simp [*]; done)), H', ⟨by have := HK1.out; omega⟩, by repeat (first | exact Drawn0.refl _ | apply Drawn0.step)⟩
        ·rw [if_neg c10] at H
         exact absurd H (by simp)
       ·rw [if_neg c9] at H
        exact absurd H (by simp)
      ·rw [if_neg c7] at H
       have c7b0 : decide (0 < x5_1) = false := decide_eq_false c7
       clear c7
       have H' := Aside0.mk H
       clear H
       have p553 : 0 ≤ (x5_1 : Int) := of_decide_eq_true (by first | (with_reducible assumption) | assumption)
       have q553 : x5_1 < (l1.length : Int) := of_decide_eq_true (by first | (with_reducible assumption) | assumption)
       obtain ⟨ad553, e553, hx553_0⟩ := Kd.at_int HR1.out x5_1 p553 q553
       cases e553
       replace p553 := eq_true p553
       replace q553 := eq_true q553
       go_wp2_with (first | (go_at_call 56; (with_reducible refine (spec_IsSet.calls a0 (rd l1 x5_1) true _ A5.out).mono ?_); rintro e w' ⟨rfl, ⟨nd, rfl⟩⟩; (try first | exact ⟨rfl, _, World.drewN_drewN _ _ _⟩ | exact ⟨rfl, _, Eq.trans (World.drewN_drewN _ _ _) (congrArg (World.drewN _) (Nat.add_assoc _ _ _))⟩)))
       repeat (go_quiet (first | (go_at_call 56; (with_reducible refine (spec_IsSet.calls a0 (rd l1 x5_1) true _ A5.out).mono ?_); rintro e w' ⟨rfl, ⟨nd, rfl⟩⟩; (try first | exact ⟨rfl, _, World.drewN_drewN _ _ _⟩ | exact ⟨rfl, _, Eq.trans (World.drewN_drewN _ _ _) (congrArg (World.drewN _) (Nat.add_assoc _ _ _))⟩))); try go_wp2_with (first | (go_at_call 56; (with_reducible refine (spec_IsSet.calls a0 (rd l1 x5_1) true _ A5.out).mono ?_); rintro e w' ⟨rfl, ⟨nd, rfl⟩⟩; (try first | exact ⟨rfl, _, World.drewN_drewN _ _ _⟩ | exact ⟨rfl, _, Eq.trans (World.drewN_drewN _ _ _) (congrArg (World.drewN _) (Nat.add_assoc _ _ _))⟩))))
       go_roundg k1
       case measure => have := HK1.out; omega
       case rel => exact ⟨(wrap64 (x5_1 + 1)), (by first | rfl | (simp; done) | (simp [*]; done)), H', ⟨by have := HK1.out; omega⟩, by repeat (first | exact Drawn0.refl _ | apply Drawn0.step)⟩
     ·replace c6 := Bool.eq_false_iff.mpr c6
      subst c6
      have H1 : (some false) = some r := by rw [if_neg (show ¬ (false = true) by decide)] at H; exact H
      clear H
      have H := H1
      clear H1
      obtain rfl := Option.some.inj H
      have p553 : 0 ≤ (x5_1 : Int) := of_decide_eq_true (by first | (with_reducible assumption) | assumption)
      have q553 : x5_1 < (l1.length : Int) := of_decide_eq_true (by first | (with_reducible assumption) | assumption)
      obtain ⟨ad553, e553, hx553_0⟩ := Kd.at_int HR1.out x5_1 p553 q553
      cases e553
      replace p553 := eq_true p553
      replace q553 := eq_true q553
      go_wp2_with (first | (go_at_call 56; (with_reducible refine (spec_IsSet.calls a0 (rd l1 x5_1) false _ A5.out).mono ?_); rintro e w' ⟨rfl, ⟨nd, rfl⟩⟩; (try first | exact ⟨rfl, _, World.drewN_drewN _ _ _⟩ | exact ⟨rfl, _, Eq.trans (World.drewN_drewN _ _ _) (congrArg (World.drewN _) (Nat.add_assoc _ _ _))⟩)))
      repeat (go_quiet (first | (go_at_call 56; (with_reducible refine (spec_IsSet.calls a0 (rd l1 x5_1) false _ A5.out).mono ?_); rintro e w' ⟨rfl, ⟨nd, rfl⟩⟩; (try first | exact ⟨rfl, _, World.drewN_drewN _ _ _⟩ | exact ⟨rfl, _, Eq.trans (World.drewN_drewN _ _ _) (congrArg (World.drewN _) (Nat.add_assoc _ _ _))⟩))); try go_wp2_with (first | (go_at_call 56; (with_reducible refine (spec_IsSet.calls a0 (rd l1 x5_1) false _ A5.out).mono ?_); rintro e w' ⟨rfl, ⟨nd, rfl⟩⟩; (try first | exact ⟨rfl, _, World.drewN_drewN _ _ _⟩ | exact ⟨rfl, _, Eq.trans (World.drewN_drewN _ _ _) (congrArg (World.drewN _) (Nat.add_assoc _ _ _))⟩))))
      go_ret
      exact ⟨by first | rfl | (simp; done) | (simp [*]; done), by repeat (first | exact Drawn0.refl _ | apply Drawn0.step)⟩
    ·rw [if_neg c4] at H
     exact absurd H (by simp)
   ·rw [if_neg c3] at H
    have c3b0 : decide (x5_1 < (l1.length : Int)) = false := decide_eq_false c3
    clear c3
    replace H := Option.bind_eq_some_iff.mp H
    obtain ⟨t557, A120, H⟩ := H
    (try dsimp only at H)
    have A12 := Aside0.mk A120
    clear A120
    obtain rfl := Option.some.inj H
    go_wp2_with (first | (go_at_call 89; (with_reducible refine (spec_l1In.calls a0 0 8 t557 _ A12.out).mono ?_); rintro e w' ⟨rfl, ⟨nd, rfl⟩⟩; (try first | exact ⟨rfl, _, World.drewN_drewN _ _ _⟩ | exact ⟨rfl, _, Eq.trans (World.drewN_drewN _ _ _) (congrArg (World.drewN _) (Nat.add_assoc _ _ _))⟩)))
    repeat (go_quiet (first | (go_at_call 89; (with_reducible refine (spec_l1In.calls a0 0 8 t557 _ A12.out).mono ?_); rintro e w' ⟨rfl, ⟨nd, rfl⟩⟩; (try first | exact ⟨rfl, _, World.drewN_drewN _ _ _⟩ | exact ⟨rfl, _, Eq.trans (World.drewN_drewN _ _ _) (congrArg (World.drewN _) (Nat.add_assoc _ _ _))⟩))); try go_wp2_with (first | (go_at_call 89; (with_reducible refine (spec_l1In.calls a0 0 8 t557 _ A12.out).mono ?_); rintro e w' ⟨rfl, ⟨nd, rfl⟩⟩; (try first | exact ⟨rfl, _, World.drewN_drewN _ _ _⟩ | exact ⟨rfl, _, Eq.trans (World.drewN_drewN _ _ _) (congrArg (World.drewN _) (Nat.add_assoc _ _ _))⟩))))
    go_ret
    exact ⟨by first | rfl | (simp; done) | (simp [*]; done), by repeat (first | exact Drawn0.refl _ | apply Drawn0.step)⟩
end Go.Proofs.Ytmpodackojmojaa.Pr
end
section
namespace Go.Proofs.Ytmpodackojmojaa.Pr
open Go.RowKit Go.Proofs.YtmpodackojmojaaW.PrintWords Go.Proofs.YtmpodackojmojaaW.PrintLast Go.Proofs.YtmpodackojmojaaW.PrintMore
attribute [local go_sem] max2_int min2_int max_two min_two max_three min_three max_four min_four
set_option linter.unusedVariables false
set_option linter.unusedSimpArgs false
def spec_HasSet.l0 : Nat → List Int → Int → Int → Option (Bool)
 | 0, _, _, _ => none
 | k + 1, x0, x1, x5 => if x5 < (x0.length : Int) then (if 0 ≤ x5 then (if (rd x0 x5) = x1 then (some true) else (spec_HasSet.l0 k x0 x1 (wrap64 (x5 + 1)))) else (none)) else (some false)
def spec_HasSet.f (k : Nat) (l0 : List Int) (a1 : Int) : Option (Bool) := spec_HasSet.l0 k l0 a1 0
set_option maxHeartbeats 8000000 in
set_option maxRecDepth 100000 in
theorem spec_HasSet.calls (k : Nat) (A0 : Option Addr) (c0 : Nat) (l0 : List Int) (a1 : Int) (r : Bool) (w : World) (hr0 : Kd.C (Kd.int .i64) w A0 l0.length l0) (hc0 : l0.length ≤ c0) (h : spec_HasSet.f k l0 a1 = some r) :
  Calls Try.prog 142 #[.slice A0 l0.length c0, .int .i64 a1] w fun e w' => e = .returned (.bool r) ∧ Drawn0 w w' := by
 have HR0 := Aside0.mk hr0
 have HC0 := Aside0.mk hc0
 clear hr0 hc0
 have H : (spec_HasSet.l0 k l0 a1 0) = some r := h
 clear h
 have H' := Aside0.mk H
 clear H
 go_enter Try.func142, Try.ntmps142
 go_wp2
 go_loopg [5] k (fun kq v5 w' => ∃ (x5_1 : Int), v5 = .int .i64 x5_1 ∧ Aside0 (spec_HasSet.l0 kq l0 a1 x5_1 = some r) ∧ Aside0 (kq ≤ k) ∧ Drawn0 w w')
 case atStart => exact ⟨(0), (by first | rfl | (simp; done) | (simp [*]; done)), H', ⟨Nat.le_refl _⟩, by repeat (first | exact Drawn0.refl _ | apply Drawn0.step)⟩
 case round =>
  clear H'
  try clear c1
  try clear p2
  obtain ⟨x5_1, rfl, HA, HK1, ⟨m1, rfl⟩⟩ := hrel
  cases gk with
  | zero => exact absurd HA.out (by simp [spec_HasSet.l0])
  | succ k1 =>
   have H := HA.out
   clear HA
   simp only [spec_HasSet.l0] at H
   by_cases c3 : x5_1 < (l0.length : Int)
   ·rw [if_pos c3] at H
    have c3b0 : decide (x5_1 < (l0.length : Int)) = true := decide_eq_true c3
    clear c3
    by_cases c4 : 0 ≤ x5_1
    ·rw [if_pos c4] at H
     have c4b0 : decide (0 ≤ x5_1) = true := decide_eq_true c4
     clear c4
     by_cases c5 : (rd l0 x5_1) = a1
     ·rw [if_pos c5] at H
      have c5b0 : ((rd l0 x5_1) == a1) = true := beq_iff_eq.mpr c5
      have c5b1 : ((rd l0 x5_1) != a1) = false := bne_eq_false_iff_eq.mpr c5
      clear c5
      obtain rfl := Option.some.inj H
      have p558 : 0 ≤ (x5_1 : Int) := of_decide_eq_true (by first | (with_reducible assumption) | assumption)
      have q558 : x5_1 < (l0.length : Int) := of_decide_eq_true (by first | (with_reducible assumption) | assumption)
      obtain ⟨ad558, e558, hx558_0⟩ := Kd.at_int HR0.out x5_1 p558 q558
      cases e558
      replace p558 := eq_true p558
      replace q558 := eq_true q558
      go_wp2
      go_ret
      exact ⟨by first | rfl | (simp; done) | (simp [*]; done), by repeat (first | exact Drawn0.refl _ | apply Drawn0.step)⟩
     ·rw [if_neg c5] at H
      have c5b0 : ((rd l0 x5_1) == a1) = false := beq_eq_false_iff_ne.mpr c5
      have c5b1 : ((rd l0 x5_1) != a1) = true := bne_iff_ne.mpr c5
      have H' := Aside0.mk H
      clear H
      have p558 : 0 ≤ (x5_1 : Int) := of_decide_eq_true (by first | (with_reducible assumption) | assumption)
      have q558 : x5_1 < (l0.length : Int) := of_decide_eq_true (by first | (with_reducible assumption) | assumption)
      obtain ⟨ad558, e558, hx558_0⟩ := Kd.at_int HR0.out x5_1 p558 q558
      cases e558
      replace p558 := eq_true p558
      replace q558 := eq_true q558
      go_wp2
      go_roundg k1
      case measure => have := HK1.out; omega
      case rel => exact ⟨(wrap64 (x5_1 + 1)), (by first | rfl | (simp; done) | (simp [*]; done)), H', ⟨by have := HK1.out; omega⟩, by repeat (first | exact Drawn0.refl _ | apply Drawn0.step)⟩
    ·rw [if_neg c4] at H
     exact absurd H (by simp)
   ·rw [if_neg c3] at H
    have c3b0 : decide (x5_1 < (l0.length : Int)) = false := decide_eq_false c3
    clear c3
    obtain rfl := Option.some.inj H
    go_wp2
    go_ret
    exact ⟨by first | rfl | (simp; done) | (simp [*]; done), by repeat (first | exact Drawn0.refl _ | apply Drawn0.step)⟩
end Go.Proofs.Ytmpodackojmojaa.Pr
end
section
namespace Go.Proofs.Ytmpodackojmojaa.Pr
open Go.RowKit Go.Proofs.YtmpodackojmojaaW.PrintWords Go.Proofs.YtmpodackojmojaaW.PrintLast Go.Proofs.YtmpodackojmojaaW.PrintMore
attribute [local go_sem] max2_int min2_int max_two min_two max_three min_three max_four min_four
set_option linter.unusedVariables false
set_option linter.unusedSimpArgs false
def spec_l4Exchange.l0 : Nat → Int → Int → Int → Int → Int → List Int → Option (Bool)
 | 0, _, _, _, _, _, _ => none
 | k + 1, x1, x2, x3, x9, x560000, x560001 => if x9 < x560000 then ((spec_l2Has.f x2 x9).bind fun t560 => (if t560 = true then ((spec_l2Has.f x1 x9).bind fun t561 => (if t561 = true then (spec_l4Exchange.l0 k x1 x2 x3 (wrap64 (x9 + 1)) x560000 x560001) else (if 0 ≤ (IntKind.u64.wrap (x3)) then (if 0 ≤ (IntKind.u64.wrap (x9)) then ((spec_HasSet.f k x560001 (wrap64 ((wrap64 (x1 - (shl .i64 1 (IntKind.u64.wrap (x3))))) + (shl .i64 1 (IntKind.u64.wrap (x9)))))).bind fun t562 => (if t562 = true then (some true) else (spec_l4Exchange.l0 k x1 x2 x3 (wrap64 (x9 + 1)) x560000 x560001))) else (none)) else (none)))) else (spec_l4Exchange.l0 k x1 x2 x3 (wrap64 (x9 + 1)) x560000 x560001))) else (some false)
def spec_l4Exchange.f (k : Nat) (a0_0 : Int) (l0_1 : List Int) (a1 : Int) (a2 : Int) (a3 : Int) : Option (Bool) := spec_l4Exchange.l0 k a1 a2 a3 0 a0_0 l0_1
set_option maxHeartbeats 8000000 in
set_option maxRecDepth 100000 in
theorem spec_l4Exchange.calls (k : Nat) (a0_0 : Int) (A0_1 : Option Addr) (c0_1 : Nat) (l0_1 : List Int) (a1 : Int) (a2 : Int) (a3 : Int) (r : Bool) (w : World) (hr0_1 : Kd.C (Kd.int .i64) w A0_1 l0_1.length l0_1) (hc0_1 : l0_1.length ≤ c0_1) (h : spec_l4Exchange.f k a0_0 l0_1 a1 a2 a3 = some r) :
  Calls Try.prog 140 #[.agg #[.int .i64 a0_0, .slice A0_1 l0_1.length c0_1], .int .i64 a1, .int .i64 a2, .int .i64 a3] w fun e w' => e = .returned (.bool r) ∧ Below w.heap.size w w' := by
 have hu35 := Try.underlying35
 have HR0_1 := Aside0.mk hr0_1
 have HC0_1 := Aside0.mk hc0_1
 clear hr0_1 hc0_1
 have HB := Aside0.mk (Below.refl w.heap.size w)
 have H : (spec_l4Exchange.l0 k a1 a2 a3 0 a0_0 l0_1) = some r := h
 clear h
 have H' := Aside0.mk H
 clear H
 go_enter Try.func140, Try.ntmps140
 go_wp2_with (first | ((with_reducible refine gate_dst (N := 4) rfl ?_); refine box_event ?hg (N := 4) ?hd (cs := #[.int .i64 a0_0, .slice A0_1 l0_1.length c0_1]) (t := 35) ?hr ?_; (case hd => rfl); (case hg => rfl); (case hr => first | (go_simp; done) | (go_simp; rfl)); intro gb559 hg w5 hbox hb; have BK559 := Aside0.mk hbox; have GW559 := Aside0.mk ((by rw [hg]; exact (below_size (Hof.Lw HB.out)) : w.heap.size ≤ gb559)); have GE559 := Aside0.mk ((by rw [hg]; exact (below_size (Hof.Lw HB.out)) : w.heap.size ≤ gb559)); replace HB := Aside0.mk (below_step (Hof.Lw HB.out) hb); clear hb hbox hg))
 go_loopg [9] k (fun kq v9 w' => ∃ (x9_1 : Int), v9 = .int .i64 x9_1 ∧ Aside0 (spec_l4Exchange.l0 kq a1 a2 a3 x9_1 a0_0 l0_1 = some r) ∧ Aside0 (kq ≤ k) ∧ Aside0 (w'.heap[gb559]? = some (.cells #[.int .i64 a0_0, (.slice A0_1 l0_1.length c0_1)] 35 (0, 0))) ∧ Aside0 (Below w.heap.size w w'))
 case atStart => exact ⟨(0), (by first | rfl | (simp; done) | (simp [*]; done)), H', ⟨Nat.le_refl _⟩, ⟨Hof.Bw BK559.out⟩, ⟨Hof.Lw HB.out⟩⟩
 case round =>
  clear H'
  try clear c1
  try clear p2
  obtain ⟨x9_1, rfl, HA, HK1, BK559, HB⟩ := hrel
  cases gk with
  | zero => exact absurd HA.out (by simp [spec_l4Exchange.l0])
  | succ k1 =>
   have H := HA.out
   clear HA
   simp only [spec_l4Exchange.l0] at H
   by_cases c6 : x9_1 < a0_0
   ·rw [if_pos c6] at H
    have c6b0 : decide (x9_1 < a0_0) = true := decide_eq_true c6
    clear c6
    replace H := Option.bind_eq_some_iff.mp H
    obtain ⟨t560, A70, H⟩ := H
    (try dsimp only at H)
    have A7 := Aside0.mk A70
    clear A70
    by_cases c8 : t560 = true
    ·subst c8
     have H1 : ((spec_l2Has.f a1 x9_1).bind fun t561 => (if t561 = true then (spec_l4Exchange.l0 k1 a1 a2 a3 (wrap64 (x9_1 + 1)) a0_0 l0_1) else (if 0 ≤ (IntKind.u64.wrap (a3)) then (if 0 ≤ (IntKind.u64.wrap (x9_1)) then ((spec_HasSet.f k1 l0_1 (wrap64 ((wrap64 (a1 - (shl .i64 1 (IntKind.u64.wrap (a3))))) + (shl .i64 1 (IntKind.u64.wrap (x9_1)))))).bind fun t562 => (if t562 = true then (some true) else (spec_l4Exchange.l0 k1 a1 a2 a3 (wrap64 (x9_1 + 1)) a0_0 l0_1))) else (none)) else (none)))) = some r := by rw [if_pos rfl] at H; exact H
     clear H
     have H := H1
     clear H1
     replace H := Option.bind_eq_some_iff.mp H
     obtain ⟨t561, A90, H⟩ := H
     (try dsimp only at H)
     have A9 := Aside0.mk A90
     clear A90
     by_cases c10 : t561 = true
     ·subst c10
      have H1 : (spec_l4Exchange.l0 k1 a1 a2 a3 (wrap64 (x9_1 + 1)) a0_0 l0_1) = some r := by rw [if_pos rfl] at H; exact H
      clear H
      have H := H1
      clear H1
      have H' := Aside0.mk H
      clear H
      obtain ⟨hcz11_0, hcz11_1, hfz11_0, hfz11_1⟩ := Hof.blk2 BK559.out
      go_wp2_with (first | ((with_reducible refine gate_callee (f := 58) rfl ?_); refine goesL_ (some 18) rfl rfl Try.func58 (by kernel_rfl) rfl #[.int .i64 a2, .int .i64 x9_1] rfl (by (try simp only [List.map_toArray, List.map_cons, List.map_nil]); first | done | rfl) ?_; (with_reducible refine (spec_l2Has.calls a2 x9_1 true _ A7.out).mono ?_); rintro e w' ⟨rfl, ⟨nd, rfl⟩⟩; refine ⟨_, rfl, ?_⟩) | (go_at_call 58; (with_reducible refine (spec_l2Has.calls a1 x9_1 true _ A9.out).mono ?_); rintro e w' ⟨rfl, ⟨nd, rfl⟩⟩))
      go_roundg k1
      case measure => have := HK1.out; omega
      case rel => exact ⟨(wrap64 (x9_1 + 1)), (by first | rfl | (simp; done) | (simp [*]; done)), H', ⟨by have := HK1.out; omega⟩, ⟨Hof.Bw BK559.out⟩, ⟨Hof.Lw HB.out⟩⟩
     ·replace c10 := Bool.eq_false_iff.mpr c10
      subst c10
      have H1 : (if 0 ≤ (IntKind.u64.wrap (a3)) then (if 0 ≤ (IntKind.u64.wrap (x9_1)) then ((spec_HasSet.f k1 l0_1 (wrap64 ((wrap64 (a1 - (shl .i64 1 (IntKind.u64.wrap (a3))))) + (shl .i64 1 (IntKind.u64.wrap (x9_1)))))).bind fun t562 => (if t562 = true then (some true) else (spec_l4Exchange.l0 k1 a1 a2 a3 (wrap64 (x9_1 + 1)) a0_0 l0_1))) else (none)) else (none)) = some r := by rw [if_neg (show ¬ (false = true) by decide)] at H; exact H
      clear H
      have H := H1
      clear H1
      obtain ⟨ji12, hji12⟩ : ∃ j_ : Int, (IntKind.u64.wrap (a3)) = j_ := ⟨_, rfl⟩
      replace H : (if 0 ≤ (ji12) then (if 0 ≤ (IntKind.u64.wrap (x9_1)) then ((spec_HasSet.f k1 l0_1 (wrap64 ((wrap64 (a1 - (shl .i64 1 (ji12)))) + (shl .i64 1 (IntKind.u64.wrap (x9_1)))))).bind fun t562 => (if t562 = true then (some true) else (spec_l4Exchange.l0 k1 a1 a2 a3 (wrap64 (x9_1 + 1)) a0_0 l0_1))) else (none)) else (none)) = some r := by first | (rw [hji12] at H; exact H) | (simp only [hji12] at H ⊢; exact H)
      (try rw [hji12] at A7)
      (try rw [hji12] at A9)
      by_cases c13 : 0 ≤ (ji12)
      ·rw [if_pos c13] at H
       have c13b0 := eq_true c13
       have c13b1 : decide (0 ≤ (ji12)) = true := decide_eq_true c13
       clear c13
       obtain ⟨ji14, hji14⟩ : ∃ j_ : Int, (shl .i64 1 (ji12)) = j_ := ⟨_, rfl⟩
       replace H : (if 0 ≤ (IntKind.u64.wrap (x9_1)) then ((spec_HasSet.f k1 l0_1 (wrap64 ((wrap64 (a1 - (ji14))) + (shl .i64 1 (IntKind.u64.wrap (x9_1)))))).bind fun t562 => (if t562 = true then (some true) else (spec_l4Exchange.l0 k1 a1 a2 a3 (wrap64 (x9_1 + 1)) a0_0 l0_1))) else (none)) = some r := by first | (rw [hji14] at H; exact H) | (simp only [hji14] at H ⊢; exact H)
       (try rw [hji14] at A7)
       (try rw [hji14] at A9)
       have hji14_ : (IntKind.i64.wrap (1 * 2 ^ min (ji12).toNat 64)) = ji14 := hji14
       have hji14z : (ji12) ≤ 64 → (IntKind.i64.wrap (1 * 2 ^ (ji12).toNat)) = ji14 := shl_small hji14
       have hji14u : (IntKind.i64.wrap (2 ^ min (ji12).toNat 64)) = ji14 := by have h_ := hji14_; rw [Int.one_mul] at h_; exact h_
       have hji14v : (ji12) ≤ 64 → (IntKind.i64.wrap (2 ^ (ji12).toNat)) = ji14 := fun hle_ => by have h_ := hji14z hle_; rw [Int.one_mul] at h_; exact h_
       have hji14y : (wrap64 (1 * 2 ^ min (ji12).toNat 64)) = ji14 := (i64_w _).symm.trans hji14_
       have hji14x : (ji12) ≤ 64 → (wrap64 (1 * 2 ^ (ji12).toNat)) = ji14 := fun h_ => (i64_w _).symm.trans (hji14z h_)
       obtain ⟨ji15, hji15⟩ : ∃ j_ : Int, (IntKind.u64.wrap (x9_1)) = j_ := ⟨_, rfl⟩
       replace H : (if 0 ≤ (ji15) then ((spec_HasSet.f k1 l0_1 (wrap64 ((wrap64 (a1 - (ji14))) + (shl .i64 1 (ji15))))).bind fun t562 => (if t562 = true then (some true) else (spec_l4Exchange.l0 k1 a1 a2 a3 (wrap64 (x9_1 + 1)) a0_0 l0_1))) else (none)) = some r := by first | (rw [hji15] at H; exact H) | (simp only [hji15] at H ⊢; exact H)
       (try rw [hji15] at A7)
       (try rw [hji15] at A9)
       by_cases c16 : 0 ≤ (ji15)
       ·rw [if_pos c16] at H
        have c16b0 := eq_true c16
        have c16b1 : decide (0 ≤ (ji15)) = true := decide_eq_true c16
        clear c16
        obtain ⟨ji17, hji17⟩ : ∃ j_ : Int, (shl .i64 1 (ji15)) = j_ := ⟨_, rfl⟩
        replace H : ((spec_HasSet.f k1 l0_1 (wrap64 ((wrap64 (a1 - (ji14))) + (ji17)))).bind fun t562 => (if t562 = true then (some true) else (spec_l4Exchange.l0 k1 a1 a2 a3 (wrap64 (x9_1 + 1)) a0_0 l0_1))) = some r := by first | (rw [hji17] at H; exact H) | (simp only [hji17] at H ⊢; exact H)
        (try rw [hji17] at A7)
        (try rw [hji17] at A9)
        have hji17_ : (IntKind.i64.wrap (1 * 2 ^ min (ji15).toNat 64)) = ji17 := hji17
        have hji17z : (ji15) ≤ 64 → (IntKind.i64.wrap (1 * 2 ^ (ji15).toNat)) = ji17 := shl_small hji17
        have hji17u : (IntKind.i64.wrap (2 ^ min (ji15).toNat 64)) = ji17 := by have h_ := hji17_; rw [Int.one_mul] at h_; exact h_
        have hji17v : (ji15) ≤ 64 → (IntKind.i64.wrap (2 ^ (ji15).toNat)) = ji17 := fun hle_ => by have h_ := hji17z hle_; rw [Int.one_mul] at h_; exact h_
        have hji17y : (wrap64 (1 * 2 ^ min (ji15).toNat 64)) = ji17 := (i64_w _).symm.trans hji17_
        have hji17x : (ji15) ≤ 64 → (wrap64 (1 * 2 ^ (ji15).toNat)) = ji17 := fun h_ => (i64_w _).symm.trans (hji17z h_)
        replace H := Option.bind_eq_some_iff.mp H
        obtain ⟨t562, A180, H⟩ := H
        (try dsimp only at H)
        have A18 := Aside0.mk A180
        clear A180
        by_cases c19 : t562 = true
        ·subst c19
         have H1 : (some true) = some r := by rw [if_pos rfl] at H; exact H
         clear H
         have H := H1
         clear H1
         obtain rfl := Option.some.inj H
         obtain ⟨hcz20_0, hcz20_1, hfz20_0, hfz20_1⟩ := Hof.blk2 BK559.out
         go_wp2_with (first | ((with_reducible refine gate_callee (f := 58) rfl ?_); refine goesL_ (some 18) rfl rfl Try.func58 (by kernel_rfl) rfl #[.int .i64 a2, .int .i64 x9_1] rfl (by (try simp only [List.map_toArray, List.map_cons, List.map_nil]); first | done | rfl) ?_; (with_reducible refine (spec_l2Has.calls a2 x9_1 true _ A7.out).mono ?_); rintro e w' ⟨rfl, ⟨nd, rfl⟩⟩; refine ⟨_, rfl, ?_⟩) | (go_at_call 58; (with_reducible refine (spec_l2Has.calls a1 x9_1 false _ A9.out).mono ?_); rintro e w' ⟨rfl, ⟨nd, rfl⟩⟩) | (go_at_call 142; (with_reducible refine (spec_HasSet.calls k1 _ _ l0_1 (wrap64 ((wrap64 (a1 - (ji14))) + (ji17))) true _ ?side1 ?side2 A18.out).mono ?_); (case side1 => exact Hof.Cw (Kd.C_below HR0_1.out HB.out)); (case side2 => exact HC0_1.out); rintro e w' ⟨rfl, ⟨nd, rfl⟩⟩))
         go_ret
         exact ⟨by first | rfl | (simp [errW_none, errW_some] <;> rfl) | (simp only [← hji12, ← hji14, ← hji15, ← hji17]; first | rfl | (simp [errW_none, errW_some] <;> rfl)) | (simp [*, errW_none, errW_some] <;> rfl), by repeat (first | (with_reducible first | exact HB.out | apply below_alloc | apply pw_below_drewN | apply below_drew1 | refine below_set ?_ GE559.out) | exact HB.out)⟩
        ·replace c19 := Bool.eq_false_iff.mpr c19
         subst c19
         have H1 : (spec_l4Exchange.l0 k1 a1 a2 a3 (wrap64 (x9_1 + 1)) a0_0 l0_1) = some r := by rw [if_neg (show ¬ (false = true) by decide)] at H; exact H
         clear H
         have H := H1
         clear H1
         have H' := Aside0.mk H
         clear H
         obtain ⟨hcz21_0, hcz21_1, hfz21_0, hfz21_1⟩ := Hof.blk2 BK559.out
         go_wp2_with (first | ((with_reducible refine gate_callee (f := 58) rfl ?_); refine goesL_ (some 18) rfl rfl Try.func58 (by kernel_rfl) rfl #[.int .i64 a2, .int .i64 x9_1] rfl (by (try simp only [List.map_toArray, List.map_cons, List.map_nil]); first | done | rfl) ?_; (with_reducible refine (spec_l2Has.calls a2 x9_1 true _ A7.out).mono ?_); rintro e w' ⟨rfl, ⟨nd, rfl⟩⟩; refine ⟨_, rfl, ?_⟩) | (go_at_call 58; (with_reducible refine (spec_l2Has.calls a1 x9_1 false _ A9.out).mono ?_); rintro e w' ⟨rfl, ⟨nd, rfl⟩⟩) | (go_at_call 142; (with_reducible refine (spec_HasSet.calls k1 _ _ l0_1 (wrap64 ((wrap64 (a1 - (ji14))) + (ji17))) false _ ?side1 ?side2 A18.out).mono ?_); (case side1 => exact Hof.Cw (Kd.C_below HR0_1.out HB.out)); (case side2 => exact HC0_1.out); rintro e w' ⟨rfl, ⟨nd, rfl⟩⟩))
         go_roundg k1
         case measure => have := HK1.out; omega
         case rel => exact ⟨(wrap64 (x9_1 + 1)), (by first | rfl | (simp; done) | (simp [*]; done)), H', ⟨by have := HK1.out; omega⟩, ⟨Hof.Bw BK559.out⟩, ⟨Hof.Lw HB.out⟩⟩
       ·rw [if_neg c16] at H
        exact absurd H (by simp)
      ·rw [if_neg c13] at H
       exact absurd H (by simp)
    ·replace c8 := Bool.eq_false_iff.mpr c8
     subst c8
     have H1 : (spec_l4Exchange.l0 k1 a1 a2 a3 (wrap64 (x9_1 + 1)) a0_0 l0_1) = some r := by rw [if_neg (show ¬ (false = true) by decide)] at H; exact H
     clear H
     have H := H1
     clear H1
     have H' := Aside0.mk H
     clear H
     obtain ⟨hcz22_0, hcz22_1, hfz22_0, hfz22_1⟩ := Hof.blk2 BK559.out
     go_wp2_with (first | ((with_reducible refine gate_callee (f := 58) rfl ?_); refine goesL_ (some 18) rfl rfl Try.func58 (by kernel_rfl) rfl #[.int .i64 a2, .int .i64 x9_1] rfl (by (try simp only [List.map_toArray, List.map_cons, List.map_nil]); first | done | rfl) ?_; (with_reducible refine (spec_l2Has.calls a2 x9_1 false _ A7.out).mono ?_); rintro e w' ⟨rfl, ⟨nd, rfl⟩⟩; refine ⟨_, rfl, ?_⟩))
     go_roundg k1
     case measure => have := HK1.out; omega
     case rel => exact ⟨(wrap64 (x9_1 + 1)), (by first | rfl | (simp; done) | (simp [*]; done)), H', ⟨by have := HK1.out; omega⟩, ⟨Hof.Bw BK559.out⟩, ⟨Hof.Lw HB.out⟩⟩
   ·rw [if_neg c6] at H
    have c6b0 : decide (x9_1 < a0_0) = false := decide_eq_false c6
    clear c6
    obtain rfl := Option.some.inj H
    obtain ⟨hcz23_0, hcz23_1, hfz23_0, hfz23_1⟩ := Hof.blk2 BK559.out
    go_wp2
    go_ret
    exact ⟨by first | rfl | (simp [errW_none, errW_some] <;> rfl) | (simp [*, errW_none, errW_some] <;> rfl), by repeat (first | (with_reducible first | exact HB.out | apply below_alloc | apply pw_below_drewN | apply below_drew1 | refine below_set ?_ GE559.out) | exact HB.out)⟩
end Go.Proofs.Ytmpodackojmojaa.Pr
end
section
namespace Go.Proofs.Ytmpodackojmojaa.Pr
open Go.RowKit Go.Proofs.YtmpodackojmojaaW.PrintWords Go.Proofs.YtmpodackojmojaaW.PrintLast Go.Proofs.YtmpodackojmojaaW.PrintMore
attribute [local go_sem] max2_int min2_int max_two min_two max_three min_three max_four min_four
set_option linter.unusedVariables false
set_option linter.unusedSimpArgs false
mutual
def spec_FirstFailure.l0 : Nat → Int → Int → List Int → Option (Int × Int × Int × Bool)
 | 0, _, _, _ => none
 | k + 1, x4, x564000, x564001 => if x4 < (x564001.length : Int) then (spec_FirstFailure.l1 k x4 0 x564000 x564001) else (some (0, 0, 0, false))
def spec_FirstFailure.l1 : Nat → Int → Int → Int → List Int → Option (Int × Int × Int × Bool)
 | 0, _, _, _, _ => none
 | k + 1, x4, x5, x564000, x564001 => if x5 < (x564001.length : Int) then (spec_FirstFailure.l2 k x4 x5 0 x564000 x564001) else (spec_FirstFailure.l0 k (wrap64 (x4 + 1)) x564000 x564001)
def spec_FirstFailure.l2 : Nat → Int → Int → Int → Int → List Int → Option (Int × Int × Int × Bool)
 | 0, _, _, _, _, _ => none
 | k + 1, x4, x5, x6, x564000, x564001 => if x6 < x564000 then (if 0 ≤ x4 then (if x4 < (x564001.length : Int) then (if 0 ≤ x5 then (if x5 < (x564001.length : Int) then ((spec_l2Has.f (rd x564001 x4) x6).bind fun t568 => (if t568 = true then ((spec_l2Has.f (rd x564001 x5) x6).bind fun t569 => (if t569 = true then (spec_FirstFailure.l2 k x4 x5 (wrap64 (x6 + 1)) x564000 x564001) else ((spec_l4Exchange.f k x564000 x564001 (rd x564001 x4) (rd x564001 x5) x6).bind fun t570 => (if t570 = true then (spec_FirstFailure.l2 k x4 x5 (wrap64 (x6 + 1)) x564000 x564001) else (some (rd x564001 x4, rd x564001 x5, x6, true)))))) else (spec_FirstFailure.l2 k x4 x5 (wrap64 (x6 + 1)) x564000 x564001))) else (none)) else (none)) else (none)) else (none)) else (spec_FirstFailure.l1 k x4 (wrap64 (x5 + 1)) x564000 x564001)
end
def spec_FirstFailure.f (k : Nat) (a0_0 : Int) (l0_1 : List Int) : Option (Int × Int × Int × Bool) := (spec_IsFamily.f k a0_0 l0_1).bind fun t565 => (if t565 = true then (spec_FirstFailure.l0 k 0 a0_0 l0_1) else (some (0, 0, 0, false)))
set_option maxHeartbeats 8000000 in
set_option maxRecDepth 100000 in
theorem spec_FirstFailure.calls (k : Nat) (a0_0 : Int) (A0_1 : Option Addr) (c0_1 : Nat) (l0_1 : List Int) (r1 : Int) (r2 : Int) (r3 : Int) (r4 : Bool) (w : World) (hr0_1 : Kd.C (Kd.int .i64) w A0_1 l0_1.length l0_1) (hc0_1 : l0_1.length ≤ c0_1) (h : spec_FirstFailure.f k a0_0 l0_1 = some (r1, r2, r3, r4)) :
  Calls Try.prog 113 #[.agg #[.int .i64 a0_0, .slice A0_1 l0_1.length c0_1]] w fun e w' => e = .returned (.tuple #[.agg #[.int .i64 r1, .int .i64 r2, .int .i64 r3], .bool r4]) ∧ Below w.heap.size w w' := by
 have hu35 := Try.underlying35
 have hu108 := Try.underlying108
 have HR0_1 := Aside0.mk hr0_1
 have HC0_1 := Aside0.mk hc0_1
 clear hr0_1 hc0_1
 have HB := Aside0.mk (Below.refl w.heap.size w)
 have H : ((spec_IsFamily.f k a0_0 l0_1).bind fun t565 => (if t565 = true then (spec_FirstFailure.l0 k 0 a0_0 l0_1) else (some (0, 0, 0, false)))) = some (r1, r2, r3, r4) := h
 clear h
 replace H := Option.bind_eq_some_iff.mp H
 obtain ⟨t565, A20, H⟩ := H
 (try dsimp only at H)
 have A2 := Aside0.mk A20
 clear A20
 by_cases c3 : t565 = true
 ·subst c3
  have H1 : (spec_FirstFailure.l0 k 0 a0_0 l0_1) = some (r1, r2, r3, r4) := by rw [if_pos rfl] at H; exact H
  clear H
  have H := H1
  clear H1
  have H' := Aside0.mk H
  clear H
  go_enter Try.func113, Try.ntmps113
  go_wp2_with (first | ((with_reducible refine gate_dst (N := 1) rfl ?_); refine box_event ?hg (N := 1) ?hd (cs := #[.int .i64 a0_0, .slice A0_1 l0_1.length c0_1]) (t := 35) ?hr ?_; (case hd => rfl); (case hg => rfl); (case hr => first | (go_simp; done) | (go_simp; rfl)); intro gb563 hg w4 hbox hb; have BK563 := Aside0.mk hbox; have GW563 := Aside0.mk ((by rw [hg]; exact (below_size (Hof.Lw HB.out)) : w.heap.size ≤ gb563)); have GE563 := Aside0.mk ((by rw [hg]; exact (below_size (Hof.Lw HB.out)) : w.heap.size ≤ gb563)); replace HB := Aside0.mk (below_step (Hof.Lw HB.out) hb); clear hb hbox hg) | ((with_reducible refine gate_dst (N := 2) rfl ?_); refine box_event ?hg (N := 2) ?hd (cs := #[.int .i64 0, .int .i64 0, .int .i64 0]) (t := 108) ?hr ?_; (case hd => rfl); (case hg => rfl); (case hr => first | (go_simp; done) | (go_simp; rfl)); intro gb564 hg w5 hbox hb; have BK564 := Aside0.mk hbox; have GW564 := Aside0.mk ((by rw [hg]; exact (below_size (Hof.Lw HB.out)) : w.heap.size ≤ gb564)); have GE564 := Aside0.mk ((by rw [hg]; exact (below_size (Hof.Lw HB.out)) : w.heap.size ≤ gb564)); replace HB := Aside0.mk (below_step (Hof.Lw HB.out) hb); have NB563_564 := Aside0.mk ((by rw [hg]; exact Nat.ne_of_lt (blk_lt (g := gb563) (o := .cells #[.int .i64 a0_0, .slice A0_1 l0_1.length c0_1] 35 (0, 0)) (Hof.Bw BK563.out)) : gb563 ≠ gb564)); have NB564_563 := Aside0.mk ((by rw [hg]; exact Nat.ne_of_gt (blk_lt (g := gb563) (o := .cells #[.int .i64 a0_0, .slice A0_1 l0_1.length c0_1] 35 (0, 0)) (Hof.Bw BK563.out)) : gb564 ≠ gb563)); replace BK563 := Aside0.mk (blk_below (Hof.Bw BK563.out) hb); clear hb hbox hg; have hnb6 := NB563_564.out; have hnc6 := NB564_563.out; obtain ⟨hcz7_0, hcz7_1, hfz7_0, hfz7_1⟩ := Hof.blk2 BK563.out) | ((with_reducible refine gate_callee (f := 114) rfl ?_); refine goesL_ (some 13) rfl rfl Try.func114 (by kernel_rfl) rfl #[.int .i64 a0_0, .slice A0_1 l0_1.length c0_1] rfl (by (try simp only [List.map_toArray, List.map_cons, List.map_nil]); first | done | rfl) ?_; (with_reducible refine (spec_IsFamily.calls k a0_0 _ _ l0_1 true _ ?side1 ?side2 A2.out).mono ?_); (case side1 => exact Hof.Cw (Kd.C_below HR0_1.out HB.out)); (case side2 => exact HC0_1.out); rintro e w' ⟨rfl, ⟨nd, rfl⟩⟩; refine ⟨_, rfl, ?_⟩))
  go_loopg [4] k (fun kq v4 w' => ∃ (x4_1 : Int) (x565000_1 : Int) (x565001_1 : Int) (x565002_1 : Int), v4 = .int .i64 x4_1 ∧ Aside0 (spec_FirstFailure.l0 kq x4_1 a0_0 l0_1 = some (r1, r2, r3, r4)) ∧ Aside0 (kq ≤ k) ∧ Aside0 (w'.heap[gb563]? = some (.cells #[.int .i64 a0_0, (.slice A0_1 l0_1.length c0_1)] 35 (0, 0))) ∧ Aside0 (w'.heap[gb564]? = some (.cells #[.int .i64 x565000_1, .int .i64 x565001_1, .int .i64 x565002_1] 108 (0, 0))) ∧ Aside0 (Below w.heap.size w w'))
  case atStart => exact ⟨(0), (0), (0), (0), (by first | rfl | (simp; done) | (simp [*]; done)), H', ⟨Nat.le_refl _⟩, ⟨Hof.Bw BK563.out⟩, ⟨Hof.Bw BK564.out⟩, ⟨Hof.Lw HB.out⟩⟩
  case round =>
   clear H'
   try clear c1
   try clear p2
   try clear c3
   try clear c6
   try clear hcz7_0
   try clear hcz7_1
   try clear hfz7_0
   try clear hfz7_1
   obtain ⟨x4_1, x565000_1, x565001_1, x565002_1, rfl, HA, HK1, BK563, BK564, HB⟩ := hrel
   cases gk with
   | zero => exact absurd HA.out (by simp [spec_FirstFailure.l0])
   | succ k1 =>
    have H := HA.out
    clear HA
    simp only [spec_FirstFailure.l0] at H
    by_cases c8 : x4_1 < (l0_1.length : Int)
    ·rw [if_pos c8] at H
     have c8b0 : decide (x4_1 < (l0_1.length : Int)) = true := decide_eq_true c8
     clear c8
     have H' := Aside0.mk H
     clear H
     have hnb9 := NB563_564.out
     have hnc9 := NB564_563.out
     obtain ⟨hcz10_0, hcz10_1, hfz10_0, hfz10_1⟩ := Hof.blk2 BK563.out
     go_wp2
     go_loopg [5] k1 (fun kq v5 w' => ∃ (x5_2 : Int) (x565000_2 : Int) (x565001_2 : Int) (x565002_2 : Int), v5 = .int .i64 x5_2 ∧ Aside0 (spec_FirstFailure.l1 kq x4_1 x5_2 a0_0 l0_1 = some (r1, r2, r3, r4)) ∧ Aside0 (kq ≤ k1) ∧ Aside0 (w'.heap[gb563]? = some (.cells #[.int .i64 a0_0, (.slice A0_1 l0_1.length c0_1)] 35 (0, 0))) ∧ Aside0 (w'.heap[gb564]? = some (.cells #[.int .i64 x565000_2, .int .i64 x565001_2, .int .i64 x565002_2] 108 (0, 0))) ∧ Aside0 (Below w.heap.size w w'))
     case atStart => exact ⟨(0), (x565000_1), (x565001_1), (x565002_1), (by first | rfl | (simp; done) | (simp [*]; done)), H', ⟨Nat.le_refl _⟩, ⟨Hof.Bw BK563.out⟩, ⟨Hof.Bw BK564.out⟩, ⟨Hof.Lw HB.out⟩⟩
     case round =>
      clear H'
      try clear c1
      try clear p2
      try clear c3
      try clear c6
      try clear c8
      try clear c8b0
      try clear c9
      try clear hcz10_0
      try clear hcz10_1
      try clear hcz7_0
      try clear hcz7_1
      try clear hfz10_0
      try clear hfz10_1
      try clear hfz7_0
      try clear hfz7_1
      try clear p2
      obtain ⟨x5_2, x565000_2, x565001_2, x565002_2, rfl, HA, HK2, BK563, BK564, HB⟩ := hrel
      cases gk with
      | zero => exact absurd HA.out (by simp [spec_FirstFailure.l1])
      | succ k2 =>
       have H := HA.out
       clear HA
       simp only [spec_FirstFailure.l1] at H
       by_cases c11 : x5_2 < (l0_1.length : Int)
       ·rw [if_pos c11] at H
        have c11b0 : decide (x5_2 < (l0_1.length : Int)) = true := decide_eq_true c11
        clear c11
        have H' := Aside0.mk H
        clear H
        have hnb12 := NB563_564.out
        have hnc12 := NB564_563.out
        obtain ⟨hcz13_0, hcz13_1, hfz13_0, hfz13_1⟩ := Hof.blk2 BK563.out
        go_wp2
        go_loopg [6] k2 (fun kq v6 w' => ∃ (x6_3 : Int) (x565000_3 : Int) (x565001_3 : Int) (x565002_3 : Int), v6 = .int .i64 x6_3 ∧ Aside0 (spec_FirstFailure.l2 kq x4_1 x5_2 x6_3 a0_0 l0_1 = some (r1, r2, r3, r4)) ∧ Aside0 (kq ≤ k2) ∧ Aside0 (w'.heap[gb563]? = some (.cells #[.int .i64 a0_0, (.slice A0_1 l0_1.length c0_1)] 35 (0, 0))) ∧ Aside0 (w'.heap[gb564]? = some (.cells #[.int .i64 x565000_3, .int .i64 x565001_3, .int .i64 x565002_3] 108 (0, 0))) ∧ Aside0 (Below w.heap.size w w'))
        case atStart => exact ⟨(0), (x565000_2), (x565001_2), (x565002_2), (by first | rfl | (simp; done) | (simp [*]; done)), H', ⟨Nat.le_refl _⟩, ⟨Hof.Bw BK563.out⟩, ⟨Hof.Bw BK564.out⟩, ⟨Hof.Lw HB.out⟩⟩
        case round =>
         clear H'
         try clear c1
         try clear p2
         try clear c3
         try clear c6
         try clear c8
         try clear c8b0
         try clear c9
         try clear c11
         try clear c11b0
         try clear c12
         try clear hcz10_0
         try clear hcz10_1
         try clear hcz13_0
         try clear hcz13_1
         try clear hcz7_0
         try clear hcz7_1
         try clear hfz10_0
         try clear hfz10_1
         try clear hfz13_0
         try clear hfz13_1
         try clear hfz7_0
         try clear hfz7_1
         try clear p2
         obtain ⟨x6_3, x565000_3, x565001_3, x565002_3, rfl, HA, HK3, BK563, BK564, HB⟩ := hrel
         cases gk with
         | zero => exact absurd HA.out (by simp [spec_FirstFailure.l2])
         | succ k3 =>
          have H := HA.out
          clear HA
          simp only [spec_FirstFailure.l2] at H
          by_cases c14 : x6_3 < a0_0
          ·rw [if_pos c14] at H
           have c14b0 : decide (x6_3 < a0_0) = true := decide_eq_true c14
           clear c14
           by_cases c15 : 0 ≤ x4_1
           ·rw [if_pos c15] at H
            have c15b0 : decide (0 ≤ x4_1) = true := decide_eq_true c15
            clear c15
            by_cases c16 : x4_1 < (l0_1.length : Int)
            ·rw [if_pos c16] at H
             have c16b0 : decide (x4_1 < (l0_1.length : Int)) = true := decide_eq_true c16
             clear c16
             by_cases c17 : 0 ≤ x5_2
             ·rw [if_pos c17] at H
              have c17b0 : decide (0 ≤ x5_2) = true := decide_eq_true c17
              clear c17
              by_cases c18 : x5_2 < (l0_1.length : Int)
              ·rw [if_pos c18] at H
               have c18b0 : decide (x5_2 < (l0_1.length : Int)) = true := decide_eq_true c18
               clear c18
               replace H := Option.bind_eq_some_iff.mp H
               obtain ⟨t568, A190, H⟩ := H
               (try dsimp only at H)
               have A19 := Aside0.mk A190
               clear A190
               by_cases c20 : t568 = true
               ·subst c20
                have H1 : ((spec_l2Has.f (rd l0_1 x5_2) x6_3).bind fun t569 => (if t569 = true then (spec_FirstFailure.l2 k3 x4_1 x5_2 (wrap64 (x6_3 + 1)) a0_0 l0_1) else ((spec_l4Exchange.f k3 a0_0 l0_1 (rd l0_1 x4_1) (rd l0_1 x5_2) x6_3).bind fun t570 => (if t570 = true then (spec_FirstFailure.l2 k3 x4_1 x5_2 (wrap64 (x6_3 + 1)) a0_0 l0_1) else (some (rd l0_1 x4_1, rd l0_1 x5_2, x6_3, true)))))) = some (r1, r2, r3, r4) := by rw [if_pos rfl] at H; exact H
                clear H
                have H := H1
                clear H1
                replace H := Option.bind_eq_some_iff.mp H
                obtain ⟨t569, A210, H⟩ := H
                (try dsimp only at H)
                have A21 := Aside0.mk A210
                clear A210
                by_cases c22 : t569 = true
                ·subst c22
                 have H1 : (spec_FirstFailure.l2 k3 x4_1 x5_2 (wrap64 (x6_3 + 1)) a0_0 l0_1) = some (r1, r2, r3, r4) := by rw [if_pos rfl] at H; exact H
                 clear H
                 have H := H1
                 clear H1
                 have H' := Aside0.mk H
                 clear H
                 have hnb23 := NB563_564.out
                 have hnc23 := NB564_563.out
                 obtain ⟨hcz24_0, hcz24_1, hfz24_0, hfz24_1⟩ := Hof.blk2 BK563.out
                 have p566 : 0 ≤ (x4_1 : Int) := of_decide_eq_true (by first | (with_reducible assumption) | assumption)
                 have q566 : x4_1 < (l0_1.length : Int) := of_decide_eq_true (by first | (with_reducible assumption) | assumption)
                 obtain ⟨ad566, e566, hx566_0⟩ := Kd.at_int HR0_1.out x4_1 p566 q566
                 cases e566
                 try replace hx566_0 := (HB.out.cell (World.block_lt_of_cell? w _ hx566_0)).trans hx566_0
                 replace p566 := eq_true p566
                 replace q566 := eq_true q566
                 have p567 : 0 ≤ (x5_2 : Int) := of_decide_eq_true (by first | (with_reducible assumption) | assumption)
                 have q567 : x5_2 < (l0_1.length : Int) := of_decide_eq_true (by first | (with_reducible assumption) | assumption)
                 obtain ⟨ad567, e567, hx567_0⟩ := Kd.at_int HR0_1.out x5_2 p567 q567
                 obtain rfl : ad566 = ad567 := (by injection e567)
                 try replace hx567_0 := (HB.out.cell (World.block_lt_of_cell? w _ hx567_0)).trans hx567_0
                 replace p567 := eq_true p567
                 replace q567 := eq_true q567
                 go_wp2_with (first | ((with_reducible refine gate_callee (f := 58) rfl ?_); refine goesL_ (some 48) rfl rfl Try.func58 (by kernel_rfl) rfl #[.int .i64 (rd l0_1 x4_1), .int .i64 x6_3] rfl (by (try simp only [List.map_toArray, List.map_cons, List.map_nil]); first | done | rfl) ?_; (with_reducible refine (spec_l2Has.calls (rd l0_1 x4_1) x6_3 true _ A19.out).mono ?_); rintro e w' ⟨rfl, ⟨nd, rfl⟩⟩; refine ⟨_, rfl, ?_⟩) | (go_at_call 58; (with_reducible refine (spec_l2Has.calls (rd l0_1 x5_2) x6_3 true _ A21.out).mono ?_); rintro e w' ⟨rfl, ⟨nd, rfl⟩⟩))
                 go_roundg k3
                 case measure => have := HK1.out; have := HK2.out; have := HK3.out; omega
                 case rel => exact ⟨(wrap64 (x6_3 + 1)), (x565000_3), (x565001_3), (x565002_3), (by first | rfl | (simp; done) | (simp [*]; done)), H', ⟨by have := HK1.out; have := HK2.out; have := HK3.out; omega⟩, ⟨Hof.Bw BK563.out⟩, ⟨Hof.Bw BK564.out⟩, ⟨Hof.Lw HB.out⟩⟩
                ·replace c22 := Bool.eq_false_iff.mpr c22
                 subst c22
                 have H1 : ((spec_l4Exchange.f k3 a0_0 l0_1 (rd l0_1 x4_1) (rd l0_1 x5_2) x6_3).bind fun t570 => (if t570 = true then (spec_FirstFailure.l2 k3 x4_1 x5_2 (wrap64 (x6_3 + 1)) a0_0 l0_1) else (some (rd l0_1 x4_1, rd l0_1 x5_2, x6_3, true)))) = some (r1, r2, r3, r4) := by rw [if_neg (show ¬ (false = true) by decide)] at H; exact H
                 clear H
                 have H := H1
                 clear H1
                 replace H := Option.bind_eq_some_iff.mp H
                 obtain ⟨t570, A250, H⟩ := H
                 (try dsimp only at H)
                 have A25 := Aside0.mk A250
                 clear A250
                 by_cases c26 : t570 = true
                 ·subst c26
                  have H1 : (spec_FirstFailure.l2 k3 x4_1 x5_2 (wrap64 (x6_3 + 1)) a0_0 l0_1) = some (r1, r2, r3, r4) := by rw [if_pos rfl] at H; exact H
                  clear H
                  have H := H1
                  clear H1
                  have H' := Aside0.mk H
                  clear H
                  have hnb27 := NB563_564.out
                  have hnc27 := NB564_563.out
                  obtain ⟨hcz28_0, hcz28_1, hfz28_0, hfz28_1⟩ := Hof.blk2 BK563.out
                  have p566 : 0 ≤ (x4_1 : Int) := of_decide_eq_true (by first | (with_reducible assumption) | assumption)
                  have q566 : x4_1 < (l0_1.length : Int) := of_decide_eq_true (by first | (with_reducible assumption) | assumption)
                  obtain ⟨ad566, e566, hx566_0⟩ := Kd.at_int HR0_1.out x4_1 p566 q566
                  cases e566
                  try replace hx566_0 := (HB.out.cell (World.block_lt_of_cell? w _ hx566_0)).trans hx566_0
                  replace p566 := eq_true p566
                  replace q566 := eq_true q566
                  have p567 : 0 ≤ (x5_2 : Int) := of_decide_eq_true (by first | (with_reducible assumption) | assumption)
                  have q567 : x5_2 < (l0_1.length : Int) := of_decide_eq_true (by first | (with_reducible assumption) | assumption)
                  obtain ⟨ad567, e567, hx567_0⟩ := Kd.at_int HR0_1.out x5_2 p567 q567
                  obtain rfl : ad566 = ad567 := (by injection e567)
                  try replace hx567_0 := (HB.out.cell (World.block_lt_of_cell? w _ hx567_0)).trans hx567_0
                  replace p567 := eq_true p567
                  replace q567 := eq_true q567
                  go_wp2_with (first | ((with_reducible refine gate_callee (f := 58) rfl ?_); refine goesL_ (some 48) rfl rfl Try.func58 (by kernel_rfl) rfl #[.int .i64 (rd l0_1 x4_1), .int .i64 x6_3] rfl (by (try simp only [List.map_toArray, List.map_cons, List.map_nil]); first | done | rfl) ?_; (with_reducible refine (spec_l2Has.calls (rd l0_1 x4_1) x6_3 true _ A19.out).mono ?_); rintro e w' ⟨rfl, ⟨nd, rfl⟩⟩; refine ⟨_, rfl, ?_⟩) | (go_at_call 58; (with_reducible refine (spec_l2Has.calls (rd l0_1 x5_2) x6_3 false _ A21.out).mono ?_); rintro e w' ⟨rfl, ⟨nd, rfl⟩⟩) | (go_at_call 140; (with_reducible refine (spec_l4Exchange.calls k3 a0_0 _ _ l0_1 (rd l0_1 x4_1) (rd l0_1 x5_2) x6_3 true _ ?side1 ?side2 A25.out).mono ?_); (case side1 => exact Hof.Cw (Kd.C_below HR0_1.out HB.out)); (case side2 => exact HC0_1.out); rintro e w29 ⟨rfl, hb⟩; replace BK563 := Aside0.mk (blk_below (Hof.Bw BK563.out) hb); replace BK564 := Aside0.mk (blk_below (Hof.Bw BK564.out) hb); replace HB := Aside0.mk (below_step (Hof.Lw HB.out) hb); (try clear hb); (try clear hb2); (try clear hk); (try clear hi)))
                  go_roundg k3
                  case measure => have := HK1.out; have := HK2.out; have := HK3.out; omega
                  case rel => exact ⟨(wrap64 (x6_3 + 1)), (x565000_3), (x565001_3), (x565002_3), (by first | rfl | (simp; done) | (simp [*]; done)), H', ⟨by have := HK1.out; have := HK2.out; have := HK3.out; omega⟩, ⟨Hof.Bw BK563.out⟩, ⟨Hof.Bw BK564.out⟩, ⟨Hof.Lw HB.out⟩⟩
                 ·replace c26 := Bool.eq_false_iff.mpr c26
                  subst c26
                  have H1 : (some (rd l0_1 x4_1, rd l0_1 x5_2, x6_3, true)) = some (r1, r2, r3, r4) := by rw [if_neg (show ¬ (false = true) by decide)] at H; exact H
                  clear H
                  have H := H1
                  clear H1
                  simp only [Option.some.injEq, Prod.mk.injEq] at H
                  obtain ⟨rfl, rfl, rfl, rfl⟩ := H
                  have hnb30 := NB563_564.out
                  have hnc30 := NB564_563.out
                  obtain ⟨hcz31_0, hcz31_1, hfz31_0, hfz31_1⟩ := Hof.blk2 BK563.out
                  have p566 : 0 ≤ (x4_1 : Int) := of_decide_eq_true (by first | (with_reducible assumption) | assumption)
                  have q566 : x4_1 < (l0_1.length : Int) := of_decide_eq_true (by first | (with_reducible assumption) | assumption)
                  obtain ⟨ad566, e566, hx566_0⟩ := Kd.at_int HR0_1.out x4_1 p566 q566
                  cases e566
                  try replace hx566_0 := (HB.out.cell (World.block_lt_of_cell? w _ hx566_0)).trans hx566_0
                  replace p566 := eq_true p566
                  replace q566 := eq_true q566
                  have p567 : 0 ≤ (x5_2 : Int) := of_decide_eq_true (by first | (with_reducible assumption) | assumption)
                  have q567 : x5_2 < (l0_1.length : Int) := of_decide_eq_true (by first | (with_reducible assumption) | assumption)
                  obtain ⟨ad567, e567, hx567_0⟩ := Kd.at_int HR0_1.out x5_2 p567 q567
                  obtain rfl : ad566 = ad567 := (by injection e567)
                  try replace hx567_0 := (HB.out.cell (World.block_lt_of_cell? w _ hx567_0)).trans hx567_0
                  replace p567 := eq_true p567
                  replace q567 := eq_true q567
                  go_wp2_with (first | ((with_reducible refine gate_callee (f := 58) rfl ?_); refine goesL_ (some 48) rfl rfl Try.func58 (by kernel_rfl) rfl #[.int .i64 (rd l0_1 x4_1), .int .i64 x6_3] rfl (by (try simp only [List.map_toArray, List.map_cons, List.map_nil]); first | done | rfl) ?_; (with_reducible refine (spec_l2Has.calls (rd l0_1 x4_1) x6_3 true _ A19.out).mono ?_); rintro e w' ⟨rfl, ⟨nd, rfl⟩⟩; refine ⟨_, rfl, ?_⟩; (try (rw [drewN_self wr]; generalize hq_ : World.drewN wr _ = wr; have n0_ : Aside0 (wr.heap[gb563]? = some (.cells #[.int .i64 a0_0, .slice (some ad566) l0_1.length c0_1] 35 (0, 0))) := ⟨by rw [← hq_]; exact (Hof.Bw BK563.out)⟩; have n1_ : Aside0 (wr.heap[gb564]? = some (.cells #[.int .i64 x565000_3, .int .i64 x565001_3, .int .i64 x565002_3] 108 (0, 0))) := ⟨by rw [← hq_]; exact (Hof.Bw BK564.out)⟩; have n2_ : Aside0 (Below w.heap.size w wr) := ⟨by rw [← hq_]; exact (Hof.Lw HB.out)⟩; clear BK563 BK564 HB hq_; have BK563 := n0_; have BK564 := n1_; have HB := n2_; clear n0_ n1_ n2_; have hcy563_0 : wr.cell? ⟨gb563, 0, none⟩ = some (.int .i64 a0_0) := (blk_cell BK563.out 0).trans rfl; have hfy563_0 := blk_frozen BK563.out 0; have hcy563_1 : wr.cell? ⟨gb563, 1, none⟩ = some (.slice (some ad566) l0_1.length c0_1) := (blk_cell BK563.out 1).trans rfl; have hfy563_1 := blk_frozen BK563.out 1; have hcy564_0 : wr.cell? ⟨gb564, 0, none⟩ = some (.int .i64 x565000_3) := (blk_cell BK564.out 0).trans rfl; have hfy564_0 := blk_frozen BK564.out 0; have hcy564_1 : wr.cell? ⟨gb564, 1, none⟩ = some (.int .i64 x565001_3) := (blk_cell BK564.out 1).trans rfl; have hfy564_1 := blk_frozen BK564.out 1; have hcy564_2 : wr.cell? ⟨gb564, 2, none⟩ = some (.int .i64 x565002_3) := (blk_cell BK564.out 2).trans rfl; have hfy564_2 := blk_frozen BK564.out 2))) | (go_at_call 58; (with_reducible refine (spec_l2Has.calls (rd l0_1 x5_2) x6_3 false _ A21.out).mono ?_); rintro e w' ⟨rfl, ⟨nd, rfl⟩⟩; (try (rw [drewN_self wr]; generalize hq_ : World.drewN wr _ = wr; have n0_ : Aside0 (wr.heap[gb563]? = some (.cells #[.int .i64 a0_0, .slice (some ad566) l0_1.length c0_1] 35 (0, 0))) := ⟨by rw [← hq_]; exact (Hof.Bw BK563.out)⟩; have n1_ : Aside0 (wr.heap[gb564]? = some (.cells #[.int .i64 x565000_3, .int .i64 x565001_3, .int .i64 x565002_3] 108 (0, 0))) := ⟨by rw [← hq_]; exact (Hof.Bw BK564.out)⟩; have n2_ : Aside0 (Below w.heap.size w wr) := ⟨by rw [← hq_]; exact (Hof.Lw HB.out)⟩; clear BK563 BK564 HB hq_; have BK563 := n0_; have BK564 := n1_; have HB := n2_; clear n0_ n1_ n2_; have hcy563_0 : wr.cell? ⟨gb563, 0, none⟩ = some (.int .i64 a0_0) := (blk_cell BK563.out 0).trans rfl; have hfy563_0 := blk_frozen BK563.out 0; have hcy563_1 : wr.cell? ⟨gb563, 1, none⟩ = some (.slice (some ad566) l0_1.length c0_1) := (blk_cell BK563.out 1).trans rfl; have hfy563_1 := blk_frozen BK563.out 1; have hcy564_0 : wr.cell? ⟨gb564, 0, none⟩ = some (.int .i64 x565000_3) := (blk_cell BK564.out 0).trans rfl; have hfy564_0 := blk_frozen BK564.out 0; have hcy564_1 : wr.cell? ⟨gb564, 1, none⟩ = some (.int .i64 x565001_3) := (blk_cell BK564.out 1).trans rfl; have hfy564_1 := blk_frozen BK564.out 1; have hcy564_2 : wr.cell? ⟨gb564, 2, none⟩ = some (.int .i64 x565002_3) := (blk_cell BK564.out 2).trans rfl; have hfy564_2 := blk_frozen BK564.out 2))) | (go_at_call 140; (with_reducible refine (spec_l4Exchange.calls k3 a0_0 _ _ l0_1 (rd l0_1 x4_1) (rd l0_1 x5_2) x6_3 false _ ?side1 ?side2 A25.out).mono ?_); (case side1 => exact Hof.Cw (Kd.C_below HR0_1.out HB.out)); (case side2 => exact HC0_1.out); rintro e w32 ⟨rfl, hb⟩; replace BK563 := Aside0.mk (blk_below (Hof.Bw BK563.out) hb); replace BK564 := Aside0.mk (blk_below (Hof.Bw BK564.out) hb); replace HB := Aside0.mk (below_step (Hof.Lw HB.out) hb); (try clear hb); (try clear hb2); (try clear hk); (try clear hi); obtain ⟨hcz33_0, hcz33_1, hcz33_2, hfz33_0, hfz33_1, hfz33_2⟩ := Hof.blk3 BK564.out))
                  refine bodyPost_ret (results_ct rfl _ _ gb564 108 #[.int .i64 (rd l0_1 x4_1), .int .i64 (rd l0_1 x5_2), .int .i64 x6_3] (0, 0) _ rfl (by (with_reducible repeat (first | refine blk_drewN ?_ _ | refine blk_drew ?_ | refine blk_alloc ?_ _)); refine blk_put (cs := #[.int .i64 (rd l0_1 x4_1), .int .i64 (rd l0_1 x5_2), .int .i64 x565002_3]) ?_ 2 _ rfl; (with_reducible repeat (first | refine blk_drewN ?_ _ | refine blk_drew ?_ | refine blk_alloc ?_ _)); refine blk_put (cs := #[.int .i64 (rd l0_1 x4_1), .int .i64 x565001_3, .int .i64 x565002_3]) ?_ 1 _ rfl; (with_reducible repeat (first | refine blk_drewN ?_ _ | refine blk_drew ?_ | refine blk_alloc ?_ _)); refine blk_put (cs := #[.int .i64 x565000_3, .int .i64 x565001_3, .int .i64 x565002_3]) ?_ 0 _ rfl; (with_reducible repeat (first | refine blk_drewN ?_ _ | refine blk_drew ?_ | refine blk_alloc ?_ _)); exact BK564.out) Try.underlying108 rfl (by kernel_rfl)) rfl ?_
                  exact ⟨by first | rfl | (simp [errW_none, errW_some] <;> rfl) | (simp [*, errW_none, errW_some] <;> rfl), by repeat (first | (with_reducible first | exact HB.out | apply below_alloc | apply pw_below_drewN | apply below_drew1 | refine below_set ?_ GE563.out | refine below_set ?_ GE564.out) | exact HB.out)⟩
               ·replace c20 := Bool.eq_false_iff.mpr c20
                subst c20
                have H1 : (spec_FirstFailure.l2 k3 x4_1 x5_2 (wrap64 (x6_3 + 1)) a0_0 l0_1) = some (r1, r2, r3, r4) := by rw [if_neg (show ¬ (false = true) by decide)] at H; exact H
                clear H
                have H := H1
                clear H1
                have H' := Aside0.mk H
                clear H
                have hnb34 := NB563_564.out
                have hnc34 := NB564_563.out
                obtain ⟨hcz35_0, hcz35_1, hfz35_0, hfz35_1⟩ := Hof.blk2 BK563.out
                have p566 : 0 ≤ (x4_1 : Int) := of_decide_eq_true (by first | (with_reducible assumption) | assumption)
                have q566 : x4_1 < (l0_1.length : Int) := of_decide_eq_true (by first | (with_reducible assumption) | assumption)
                obtain ⟨ad566, e566, hx566_0⟩ := Kd.at_int HR0_1.out x4_1 p566 q566
                cases e566
                try replace hx566_0 := (HB.out.cell (World.block_lt_of_cell? w _ hx566_0)).trans hx566_0
                replace p566 := eq_true p566
                replace q566 := eq_true q566
                have p567 : 0 ≤ (x5_2 : Int) := of_decide_eq_true (by first | (with_reducible assumption) | assumption)
                have q567 : x5_2 < (l0_1.length : Int) := of_decide_eq_true (by first | (with_reducible assumption) | assumption)
                obtain ⟨ad567, e567, hx567_0⟩ := Kd.at_int HR0_1.out x5_2 p567 q567
                obtain rfl : ad566 = ad567 := (by injection e567)
                try replace hx567_0 := (HB.out.cell (World.block_lt_of_cell? w _ hx567_0)).trans hx567_0
                replace p567 := eq_true p567
                replace q567 := eq_true q567
                go_wp2_with (first | ((with_reducible refine gate_callee (f := 58) rfl ?_); refine goesL_ (some 48) rfl rfl Try.func58 (by kernel_rfl) rfl #[.int .i64 (rd l0_1 x4_1), .int .i64 x6_3] rfl (by (try simp only [List.map_toArray, List.map_cons, List.map_nil]); first | done | rfl) ?_; (with_reducible refine (spec_l2Has.calls (rd l0_1 x4_1) x6_3 false _ A19.out).mono ?_); rintro e w' ⟨rfl, ⟨nd, rfl⟩⟩; refine ⟨_, rfl, ?_⟩))
                go_roundg k3
                case measure => have := HK1.out; have := HK2.out; have := HK3.out; omega
                case rel => exact ⟨(wrap64 (x6_3 + 1)), (x565000_3), (x565001_3), (x565002_3), (by first | rfl | (simp; done) | (simp [*]; done)), H', ⟨by have := HK1.out; have := HK2.out; have := HK3.out; omega⟩, ⟨Hof.Bw BK563.out⟩, ⟨Hof.Bw BK564.out⟩, ⟨Hof.Lw HB.out⟩⟩
              ·rw [if_neg c18] at H
               exact absurd H (by simp)
             ·rw [if_neg c17] at H
              exact absurd H (by simp)
            ·rw [if_neg c16] at H
             exact absurd H (by simp)
           ·rw [if_neg c15] at H
            exact absurd H (by simp)
          ·rw [if_neg c14] at H
           have c14b0 : decide (x6_3 < a0_0) = false := decide_eq_false c14
           clear c14
           have H' := Aside0.mk H
           clear H
           have hnb36 := NB563_564.out
           have hnc36 := NB564_563.out
           obtain ⟨hcz37_0, hcz37_1, hfz37_0, hfz37_1⟩ := Hof.blk2 BK563.out
           go_wp2
           go_roundg k3
           case measure => have := HK1.out; have := HK2.out; have := HK3.out; omega
           case rel => exact ⟨(wrap64 (x5_2 + 1)), (x565000_3), (x565001_3), (x565002_3), (by first | rfl | (simp; done) | (simp [*]; done)), H', ⟨by have := HK1.out; have := HK2.out; have := HK3.out; omega⟩, ⟨Hof.Bw BK563.out⟩, ⟨Hof.Bw BK564.out⟩, ⟨Hof.Lw HB.out⟩⟩
       ·rw [if_neg c11] at H
        have c11b0 : decide (x5_2 < (l0_1.length : Int)) = false := decide_eq_false c11
        clear c11
        have H' := Aside0.mk H
        clear H
        have hnb38 := NB563_564.out
        have hnc38 := NB564_563.out
        obtain ⟨hcz39_0, hcz39_1, hfz39_0, hfz39_1⟩ := Hof.blk2 BK563.out
        go_wp2
        go_roundg k2
        case measure => have := HK1.out; have := HK2.out; omega
        case rel => exact ⟨(wrap64 (x4_1 + 1)), (x565000_2), (x565001_2), (x565002_2), (by first | rfl | (simp; done) | (simp [*]; done)), H', ⟨by have := HK1.out; have := HK2.out; omega⟩, ⟨Hof.Bw BK563.out⟩, ⟨Hof.Bw BK564.out⟩, ⟨Hof.Lw HB.out⟩⟩
    ·rw [if_neg c8] at H
     have c8b0 : decide (x4_1 < (l0_1.length : Int)) = false := decide_eq_false c8
     clear c8
     simp only [Option.some.injEq, Prod.mk.injEq] at H
     obtain ⟨rfl, rfl, rfl, rfl⟩ := H
     have hnb40 := NB563_564.out
     have hnc40 := NB564_563.out
     obtain ⟨hcz41_0, hcz41_1, hfz41_0, hfz41_1⟩ := Hof.blk2 BK563.out
     obtain ⟨hcz42_0, hcz42_1, hcz42_2, hfz42_0, hfz42_1, hfz42_2⟩ := Hof.blk3 BK564.out
     go_wp2
     refine bodyPost_ret (results_ct rfl _ _ gb564 108 #[.int .i64 0, .int .i64 0, .int .i64 0] (0, 0) _ rfl (by (with_reducible repeat (first | refine blk_drewN ?_ _ | refine blk_drew ?_ | refine blk_alloc ?_ _)); refine blk_put (cs := #[.int .i64 0, .int .i64 0, .int .i64 x565002_1]) ?_ 2 _ rfl; (with_reducible repeat (first | refine blk_drewN ?_ _ | refine blk_drew ?_ | refine blk_alloc ?_ _)); refine blk_put (cs := #[.int .i64 0, .int .i64 x565001_1, .int .i64 x565002_1]) ?_ 1 _ rfl; (with_reducible repeat (first | refine blk_drewN ?_ _ | refine blk_drew ?_ | refine blk_alloc ?_ _)); refine blk_put (cs := #[.int .i64 x565000_1, .int .i64 x565001_1, .int .i64 x565002_1]) ?_ 0 _ rfl; (with_reducible repeat (first | refine blk_drewN ?_ _ | refine blk_drew ?_ | refine blk_alloc ?_ _)); exact BK564.out) Try.underlying108 rfl (by kernel_rfl)) rfl ?_
     exact ⟨by first | rfl | (simp [errW_none, errW_some] <;> rfl) | (simp [*, errW_none, errW_some] <;> rfl), by repeat (first | (with_reducible first | exact HB.out | apply below_alloc | apply pw_below_drewN | apply below_drew1 | refine below_set ?_ GE563.out | refine below_set ?_ GE564.out) | exact HB.out)⟩
 ·replace c3 := Bool.eq_false_iff.mpr c3
  subst c3
  have H1 : (some (0, 0, 0, false)) = some (r1, r2, r3, r4) := by rw [if_neg (show ¬ (false = true) by decide)] at H; exact H
  clear H
  have H := H1
  clear H1
  simp only [Option.some.injEq, Prod.mk.injEq] at H
  obtain ⟨rfl, rfl, rfl, rfl⟩ := H
  go_enter Try.func113, Try.ntmps113
  go_wp2_with (first | ((with_reducible refine gate_dst (N := 1) rfl ?_); refine box_event ?hg (N := 1) ?hd (cs := #[.int .i64 a0_0, .slice A0_1 l0_1.length c0_1]) (t := 35) ?hr ?_; (case hd => rfl); (case hg => rfl); (case hr => first | (go_simp; done) | (go_simp; rfl)); intro gb563 hg w43 hbox hb; have BK563 := Aside0.mk hbox; have GW563 := Aside0.mk ((by rw [hg]; exact (below_size (Hof.Lw HB.out)) : w.heap.size ≤ gb563)); have GE563 := Aside0.mk ((by rw [hg]; exact (below_size (Hof.Lw HB.out)) : w.heap.size ≤ gb563)); replace HB := Aside0.mk (below_step (Hof.Lw HB.out) hb); clear hb hbox hg) | ((with_reducible refine gate_dst (N := 2) rfl ?_); refine box_event ?hg (N := 2) ?hd (cs := #[.int .i64 0, .int .i64 0, .int .i64 0]) (t := 108) ?hr ?_; (case hd => rfl); (case hg => rfl); (case hr => first | (go_simp; done) | (go_simp; rfl)); intro gb564 hg w44 hbox hb; have BK564 := Aside0.mk hbox; have GW564 := Aside0.mk ((by rw [hg]; exact (below_size (Hof.Lw HB.out)) : w.heap.size ≤ gb564)); have GE564 := Aside0.mk ((by rw [hg]; exact (below_size (Hof.Lw HB.out)) : w.heap.size ≤ gb564)); replace HB := Aside0.mk (below_step (Hof.Lw HB.out) hb); have NB563_564 := Aside0.mk ((by rw [hg]; exact Nat.ne_of_lt (blk_lt (g := gb563) (o := .cells #[.int .i64 a0_0, .slice A0_1 l0_1.length c0_1] 35 (0, 0)) (Hof.Bw BK563.out)) : gb563 ≠ gb564)); have NB564_563 := Aside0.mk ((by rw [hg]; exact Nat.ne_of_gt (blk_lt (g := gb563) (o := .cells #[.int .i64 a0_0, .slice A0_1 l0_1.length c0_1] 35 (0, 0)) (Hof.Bw BK563.out)) : gb564 ≠ gb563)); replace BK563 := Aside0.mk (blk_below (Hof.Bw BK563.out) hb); clear hb hbox hg; have hnb45 := NB563_564.out; have hnc45 := NB564_563.out; obtain ⟨hcz46_0, hcz46_1, hfz46_0, hfz46_1⟩ := Hof.blk2 BK563.out) | ((with_reducible refine gate_callee (f := 114) rfl ?_); refine goesL_ (some 13) rfl rfl Try.func114 (by kernel_rfl) rfl #[.int .i64 a0_0, .slice A0_1 l0_1.length c0_1] rfl (by (try simp only [List.map_toArray, List.map_cons, List.map_nil]); first | done | rfl) ?_; (with_reducible refine (spec_IsFamily.calls k a0_0 _ _ l0_1 false _ ?side1 ?side2 A2.out).mono ?_); (case side1 => exact Hof.Cw (Kd.C_below HR0_1.out HB.out)); (case side2 => exact HC0_1.out); rintro e w' ⟨rfl, ⟨nd, rfl⟩⟩; refine ⟨_, rfl, ?_⟩; (try (rw [drewN_self w44]; generalize hq_ : World.drewN w44 _ = w44; have n0_ : Aside0 (w44.heap[gb563]? = some (.cells #[.int .i64 a0_0, .slice A0_1 l0_1.length c0_1] 35 (0, 0))) := ⟨by rw [← hq_]; exact (Hof.Bw BK563.out)⟩; have n1_ : Aside0 (w44.heap[gb564]? = some (.cells #[.int .i64 0, .int .i64 0, .int .i64 0] 108 (0, 0))) := ⟨by rw [← hq_]; exact (Hof.Bw BK564.out)⟩; have n2_ : Aside0 (Below w.heap.size w w44) := ⟨by rw [← hq_]; exact (Hof.Lw HB.out)⟩; clear BK563 BK564 HB hq_; have BK563 := n0_; have BK564 := n1_; have HB := n2_; clear n0_ n1_ n2_; have hcy563_0 : w44.cell? ⟨gb563, 0, none⟩ = some (.int .i64 a0_0) := (blk_cell BK563.out 0).trans rfl; have hfy563_0 := blk_frozen BK563.out 0; have hcy563_1 : w44.cell? ⟨gb563, 1, none⟩ = some (.slice A0_1 l0_1.length c0_1) := (blk_cell BK563.out 1).trans rfl; have hfy563_1 := blk_frozen BK563.out 1; have hcy564_0 : w44.cell? ⟨gb564, 0, none⟩ = some (.int .i64 0) := (blk_cell BK564.out 0).trans rfl; have hfy564_0 := blk_frozen BK564.out 0; have hcy564_1 : w44.cell? ⟨gb564, 1, none⟩ = some (.int .i64 0) := (blk_cell BK564.out 1).trans rfl; have hfy564_1 := blk_frozen BK564.out 1; have hcy564_2 : w44.cell? ⟨gb564, 2, none⟩ = some (.int .i64 0) := (blk_cell BK564.out 2).trans rfl; have hfy564_2 := blk_frozen BK564.out 2)); obtain ⟨hcz47_0, hcz47_1, hcz47_2, hfz47_0, hfz47_1, hfz47_2⟩ := Hof.blk3 BK564.out))
  refine bodyPost_ret (results_ct rfl _ _ gb564 108 #[.int .i64 0, .int .i64 0, .int .i64 0] (0, 0) _ rfl (by (with_reducible repeat (first | refine blk_drewN ?_ _ | refine blk_drew ?_ | refine blk_alloc ?_ _)); refine blk_put (cs := #[.int .i64 0, .int .i64 0, .int .i64 0]) ?_ 2 _ rfl; (with_reducible repeat (first | refine blk_drewN ?_ _ | refine blk_drew ?_ | refine blk_alloc ?_ _)); refine blk_put (cs := #[.int .i64 0, .int .i64 0, .int .i64 0]) ?_ 1 _ rfl; (with_reducible repeat (first | refine blk_drewN ?_ _ | refine blk_drew ?_ | refine blk_alloc ?_ _)); refine blk_put (cs := #[.int .i64 0, .int .i64 0, .int .i64 0]) ?_ 0 _ rfl; (with_reducible repeat (first | refine blk_drewN ?_ _ | refine blk_drew ?_ | refine blk_alloc ?_ _)); exact BK564.out) Try.underlying108 rfl (by kernel_rfl)) rfl ?_
  exact ⟨by first | rfl | (simp [errW_none, errW_some] <;> rfl) | (simp [*, errW_none, errW_some] <;> rfl), by repeat (first | (with_reducible first | exact HB.out | apply below_alloc | apply pw_below_drewN | apply below_drew1 | refine below_set ?_ GE563.out | refine below_set ?_ GE564.out) | exact HB.out)⟩
end Go.Proofs.Ytmpodackojmojaa.Pr
end
section
namespace Go.Proofs.Ytmpodackojmojaa.Pr
open Go.RowKit Go.Proofs.YtmpodackojmojaaW.PrintWords Go.Proofs.YtmpodackojmojaaW.PrintLast Go.Proofs.YtmpodackojmojaaW.PrintMore
attribute [local go_sem] max2_int min2_int max_two min_two max_three min_three max_four min_four
set_option linter.unusedVariables false
set_option linter.unusedSimpArgs false
def spec_IsMatroid.f (k : Nat) (a0_0 : Int) (l0_1 : List Int) : Option (Bool) := (spec_FirstFailure.f k a0_0 l0_1).bind fun bt572 => ((spec_IsFamily.f k a0_0 l0_1).bind fun t577 => (if t577 = true then (if (l0_1.length : Int) > 0 then (some (!bt572.2.2.2)) else (some false)) else (some false)))
set_option maxHeartbeats 8000000 in
set_option maxRecDepth 100000 in
theorem spec_IsMatroid.calls (k : Nat) (a0_0 : Int) (A0_1 : Option Addr) (c0_1 : Nat) (l0_1 : List Int) (r : Bool) (w : World) (hr0_1 : Kd.C (Kd.int .i64) w A0_1 l0_1.length l0_1) (hc0_1 : l0_1.length ≤ c0_1) (h : spec_IsMatroid.f k a0_0 l0_1 = some r) :
  Calls Try.prog 76 #[.agg #[.int .i64 a0_0, .slice A0_1 l0_1.length c0_1]] w fun e w' => e = .returned (.bool r) ∧ Below w.heap.size w w' := by
 have hu35 := Try.underlying35
 have hu108 := Try.underlying108
 have HR0_1 := Aside0.mk hr0_1
 have HC0_1 := Aside0.mk hc0_1
 clear hr0_1 hc0_1
 have HB := Aside0.mk (Below.refl w.heap.size w)
 have H : ((spec_FirstFailure.f k a0_0 l0_1).bind fun bt572 => ((spec_IsFamily.f k a0_0 l0_1).bind fun t577 => (if t577 = true then (if (l0_1.length : Int) > 0 then (some (!bt572.2.2.2)) else (some false)) else (some false)))) = some r := h
 clear h
 replace H := Option.bind_eq_some_iff.mp H
 obtain ⟨⟨t572, t573, t574, t575⟩, A20, H⟩ := H
 (try dsimp only at H)
 have A2 := Aside0.mk A20
 clear A20
 replace H := Option.bind_eq_some_iff.mp H
 obtain ⟨t577, A30, H⟩ := H
 (try dsimp only at H)
 have A3 := Aside0.mk A30
 clear A30
 by_cases c4 : t577 = true
 ·subst c4
  have H1 : (if (l0_1.length : Int) > 0 then (some (!t575)) else (some false)) = some r := by rw [if_pos rfl] at H; exact H
  clear H
  have H := H1
  clear H1
  by_cases c5 : (l0_1.length : Int) > 0
  ·rw [if_pos c5] at H
   have c5b0 : decide (0 < (l0_1.length : Int)) = true := decide_eq_true c5
   have c5b1 : decide (0 < l0_1.length) = true := decide_eq_true (by omega)
   clear c5
   obtain rfl := Option.some.inj H
   go_enter Try.func76, Try.ntmps76
   go_wp2_with (first | ((with_reducible refine gate_dst (N := 1) rfl ?_); (try (refine gate_guard (by rfl) ?_; dsimp only)); refine box_event ?hg (N := 1) ?hd (cs := #[.int .i64 a0_0, .slice A0_1 l0_1.length c0_1]) (t := 35) ?hr ?_; (case hd => rfl); (case hg => rfl); (case hr => first | (go_simp; done) | (go_simp; rfl)); intro gb571 hg w6 hbox hb; have BK571 := Aside0.mk hbox; have GW571 := Aside0.mk ((by rw [hg]; exact (below_size (Hof.Lw HB.out)) : w.heap.size ≤ gb571)); have GE571 := Aside0.mk ((by rw [hg]; exact (below_size (Hof.Lw HB.out)) : w.heap.size ≤ gb571)); replace HB := Aside0.mk (below_step (Hof.Lw HB.out) hb); clear hb hbox hg; obtain ⟨hcz7_0, hcz7_1, hfz7_0, hfz7_1⟩ := Hof.blk2 BK571.out) | ((with_reducible refine gate_callee (f := 113) rfl ?_); refine goesL_ (some 7) rfl rfl Try.func113 (by kernel_rfl) rfl #[.agg #[.int .i64 a0_0, .slice A0_1 l0_1.length c0_1]] rfl (by (try simp only [List.map_toArray, List.map_cons, List.map_nil]); first | done | rfl) ?_; (with_reducible refine (spec_FirstFailure.calls k a0_0 _ _ l0_1 t572 t573 t574 t575 _ ?side1 ?side2 A2.out).mono ?_); (case side1 => exact Hof.Cw (Kd.C_below HR0_1.out HB.out)); (case side2 => exact HC0_1.out); rintro e w8 ⟨rfl, hb⟩; refine ⟨_, rfl, ?_⟩; replace BK571 := Aside0.mk (blk_below (Hof.Bw BK571.out) hb); replace HB := Aside0.mk (below_step (by repeat (first | (with_reducible first | exact HB.out | apply below_alloc | apply pw_below_drewN | apply below_drew1 | refine below_set ?_ GE571.out) | exact HB.out)) hb); (try clear hb); (try clear hb2); (try clear hk); (try clear hi)) | ((with_reducible refine gate_dst (N := 3) rfl ?_); (try (refine gate_guard (by rfl) ?_; dsimp only)); refine box_event ?hg (N := 3) ?hd (cs := #[.int .i64 0, .int .i64 0, .int .i64 0]) (t := 108) ?hr ?_; (case hd => rfl); (case hg => rfl); (case hr => first | (go_simp; done) | (go_simp; rfl)); intro gb576 hg w9 hbox hb; have BK576 := Aside0.mk hbox; have GW576 := Aside0.mk ((by rw [hg]; exact (below_size (by repeat (first | (with_reducible first | exact HB.out | apply below_alloc | apply pw_below_drewN | apply below_drew1 | refine below_set ?_ GE571.out) | exact HB.out))) : w.heap.size ≤ gb576)); have GE576 := Aside0.mk ((by rw [hg]; exact (below_size (by repeat (first | (with_reducible first | exact HB.out | apply below_alloc | apply pw_below_drewN | apply below_drew1 | refine below_set ?_ GE571.out) | exact HB.out))) : w.heap.size ≤ gb576)); replace HB := Aside0.mk (below_step (by repeat (first | (with_reducible first | exact HB.out | apply below_alloc | apply pw_below_drewN | apply below_drew1 | refine below_set ?_ GE571.out) | exact HB.out)) hb); have NB571_576 := Aside0.mk ((by rw [hg]; exact Nat.ne_of_lt (blk_lt (g := gb571) (o := .cells #[.int .i64 a0_0, .slice A0_1 l0_1.length c0_1] 35 (0, 0)) (Hof.Bw BK571.out)) : gb571 ≠ gb576)); have NB576_571 := Aside0.mk ((by rw [hg]; exact Nat.ne_of_gt (blk_lt (g := gb571) (o := .cells #[.int .i64 a0_0, .slice A0_1 l0_1.length c0_1] 35 (0, 0)) (Hof.Bw BK571.out)) : gb576 ≠ gb571)); replace BK571 := Aside0.mk (blk_below (Hof.Bw BK571.out) hb); clear hb hbox hg; have hnb10 := NB576_571.out; have hnc10 := NB571_576.out; obtain ⟨hcz11_0, hcz11_1, hcz11_2, hfz11_0, hfz11_1, hfz11_2⟩ := Hof.blk3 BK576.out; obtain ⟨hcz12_0, hcz12_1, hfz12_0, hfz12_1⟩ := Hof.blk2 BK571.out) | ((with_reducible refine gate_callee (f := 114) rfl ?_); refine goesL_ (some 14) rfl rfl Try.func114 (by kernel_rfl) rfl #[.int .i64 a0_0, .slice A0_1 l0_1.length c0_1] rfl (by (try simp only [List.map_toArray, List.map_cons, List.map_nil]); first | done | rfl) ?_; (with_reducible refine (spec_IsFamily.calls k a0_0 _ _ l0_1 true _ ?side1 ?side2 A3.out).mono ?_); (case side1 => exact Kd.C_below HR0_1.out (by repeat (first | (with_reducible first | exact HB.out | apply below_alloc | apply pw_below_drewN | apply below_drew1 | refine below_set ?_ GE571.out | refine below_set ?_ GE576.out) | exact HB.out))); (case side2 => exact HC0_1.out); rintro e w' ⟨rfl, ⟨nd, rfl⟩⟩; refine ⟨_, rfl, ?_⟩))
   go_ret
   exact ⟨by first | rfl | (simp [errW_none, errW_some] <;> rfl) | (simp [*, errW_none, errW_some] <;> rfl), by repeat (first | (with_reducible first | exact HB.out | apply below_alloc | apply pw_below_drewN | apply below_drew1 | refine below_set ?_ GE571.out | refine below_set ?_ GE576.out) | exact HB.out)⟩
  ·rw [if_neg c5] at H
   have c5b0 : decide (0 < (l0_1.length : Int)) = false := decide_eq_false c5
   have c5b1 : decide (0 < l0_1.length) = false := decide_eq_false (by omega)
   clear c5
   obtain rfl := Option.some.inj H
   go_enter Try.func76, Try.ntmps76
   go_wp2_with (first | ((with_reducible refine gate_dst (N := 1) rfl ?_); (try (refine gate_guard (by rfl) ?_; dsimp only)); refine box_event ?hg (N := 1) ?hd (cs := #[.int .i64 a0_0, .slice A0_1 l0_1.length c0_1]) (t := 35) ?hr ?_; (case hd => rfl); (case hg => rfl); (case hr => first | (go_simp; done) | (go_simp; rfl)); intro gb571 hg w13 hbox hb; have BK571 := Aside0.mk hbox; have GW571 := Aside0.mk ((by rw [hg]; exact (below_size (Hof.Lw HB.out)) : w.heap.size ≤ gb571)); have GE571 := Aside0.mk ((by rw [hg]; exact (below_size (Hof.Lw HB.out)) : w.heap.size ≤ gb571)); replace HB := Aside0.mk (below_step (Hof.Lw HB.out) hb); clear hb hbox hg; obtain ⟨hcz14_0, hcz14_1, hfz14_0, hfz14_1⟩ := Hof.blk2 BK571.out) | ((with_reducible refine gate_callee (f := 113) rfl ?_); refine goesL_ (some 7) rfl rfl Try.func113 (by kernel_rfl) rfl #[.agg #[.int .i64 a0_0, .slice A0_1 l0_1.length c0_1]] rfl (by (try simp only [List.map_toArray, List.map_cons, List.map_nil]); first | done | rfl) ?_; (with_reducible refine (spec_FirstFailure.calls k a0_0 _ _ l0_1 t572 t573 t574 t575 _ ?side1 ?side2 A2.out).mono ?_); (case side1 => exact Hof.Cw (Kd.C_below HR0_1.out HB.out)); (case side2 => exact HC0_1.out); rintro e w15 ⟨rfl, hb⟩; refine ⟨_, rfl, ?_⟩; replace BK571 := Aside0.mk (blk_below (Hof.Bw BK571.out) hb); replace HB := Aside0.mk (below_step (by repeat (first | (with_reducible first | exact HB.out | apply below_alloc | apply pw_below_drewN | apply below_drew1 | refine below_set ?_ GE571.out) | exact HB.out)) hb); (try clear hb); (try clear hb2); (try clear hk); (try clear hi)) | ((with_reducible refine gate_dst (N := 3) rfl ?_); (try (refine gate_guard (by rfl) ?_; dsimp only)); refine box_event ?hg (N := 3) ?hd (cs := #[.int .i64 0, .int .i64 0, .int .i64 0]) (t := 108) ?hr ?_; (case hd => rfl); (case hg => rfl); (case hr => first | (go_simp; done) | (go_simp; rfl)); intro gb576 hg w16 hbox hb; have BK576 := Aside0.mk hbox; have GW576 := Aside0.mk ((by rw [hg]; exact (below_size (by repeat (first | (with_reducible first | exact HB.out | apply below_alloc | apply pw_below_drewN | apply below_drew1 | refine below_set ?_ GE571.out) | exact HB.out))) : w.heap.size ≤ gb576)); have GE576 := Aside0.mk ((by rw [hg]; exact (below_size (by repeat (first | (with_reducible first | exact HB.out | apply below_alloc | apply pw_below_drewN | apply below_drew1 | refine below_set ?_ GE571.out) | exact HB.out))) : w.heap.size ≤ gb576)); replace HB := Aside0.mk (below_step (by repeat (first | (with_reducible first | exact HB.out | apply below_alloc | apply pw_below_drewN | apply below_drew1 | refine below_set ?_ GE571.out) | exact HB.out)) hb); have NB571_576 := Aside0.mk ((by rw [hg]; exact Nat.ne_of_lt (blk_lt (g := gb571) (o := .cells #[.int .i64 a0_0, .slice A0_1 l0_1.length c0_1] 35 (0, 0)) (Hof.Bw BK571.out)) : gb571 ≠ gb576)); have NB576_571 := Aside0.mk ((by rw [hg]; exact Nat.ne_of_gt (blk_lt (g := gb571) (o := .cells #[.int .i64 a0_0, .slice A0_1 l0_1.length c0_1] 35 (0, 0)) (Hof.Bw BK571.out)) : gb576 ≠ gb571)); replace BK571 := Aside0.mk (blk_below (Hof.Bw BK571.out) hb); clear hb hbox hg; have hnb17 := NB576_571.out; have hnc17 := NB571_576.out; obtain ⟨hcz18_0, hcz18_1, hcz18_2, hfz18_0, hfz18_1, hfz18_2⟩ := Hof.blk3 BK576.out; obtain ⟨hcz19_0, hcz19_1, hfz19_0, hfz19_1⟩ := Hof.blk2 BK571.out) | ((with_reducible refine gate_callee (f := 114) rfl ?_); refine goesL_ (some 14) rfl rfl Try.func114 (by kernel_rfl) rfl #[.int .i64 a0_0, .slice A0_1 l0_1.length c0_1] rfl (by (try simp only [List.map_toArray, List.map_cons, List.map_nil]); first | done | rfl) ?_; (with_reducible refine (spec_IsFamily.calls k a0_0 _ _ l0_1 true _ ?side1 ?side2 A3.out).mono ?_); (case side1 => exact Kd.C_below HR0_1.out (by repeat (first | (with_reducible first | exact HB.out | apply below_alloc | apply pw_below_drewN | apply below_drew1 | refine below_set ?_ GE571.out | refine below_set ?_ GE576.out) | exact HB.out))); (case side2 => exact HC0_1.out); rintro e w' ⟨rfl, ⟨nd, rfl⟩⟩; refine ⟨_, rfl, ?_⟩))
   go_ret
   exact ⟨by first | rfl | (simp [errW_none, errW_some] <;> rfl) | (simp [*, errW_none, errW_some] <;> rfl), by repeat (first | (with_reducible first | exact HB.out | apply below_alloc | apply pw_below_drewN | apply below_drew1 | refine below_set ?_ GE571.out | refine below_set ?_ GE576.out) | exact HB.out)⟩
 ·replace c4 := Bool.eq_false_iff.mpr c4
  subst c4
  have H1 : (some false) = some r := by rw [if_neg (show ¬ (false = true) by decide)] at H; exact H
  clear H
  have H := H1
  clear H1
  obtain rfl := Option.some.inj H
  go_enter Try.func76, Try.ntmps76
  go_wp2_with (first | ((with_reducible refine gate_dst (N := 1) rfl ?_); (try (refine gate_guard (by rfl) ?_; dsimp only)); refine box_event ?hg (N := 1) ?hd (cs := #[.int .i64 a0_0, .slice A0_1 l0_1.length c0_1]) (t := 35) ?hr ?_; (case hd => rfl); (case hg => rfl); (case hr => first | (go_simp; done) | (go_simp; rfl)); intro gb571 hg w20 hbox hb; have BK571 := Aside0.mk hbox; have GW571 := Aside0.mk ((by rw [hg]; exact (below_size (Hof.Lw HB.out)) : w.heap.size ≤ gb571)); have GE571 := Aside0.mk ((by rw [hg]; exact (below_size (Hof.Lw HB.out)) : w.heap.size ≤ gb571)); replace HB := Aside0.mk (below_step (Hof.Lw HB.out) hb); clear hb hbox hg; obtain ⟨hcz21_0, hcz21_1, hfz21_0, hfz21_1⟩ := Hof.blk2 BK571.out) | ((with_reducible refine gate_callee (f := 113) rfl ?_); refine goesL_ (some 7) rfl rfl Try.func113 (by kernel_rfl) rfl #[.agg #[.int .i64 a0_0, .slice A0_1 l0_1.length c0_1]] rfl (by (try simp only [List.map_toArray, List.map_cons, List.map_nil]); first | done | rfl) ?_; (with_reducible refine (spec_FirstFailure.calls k a0_0 _ _ l0_1 t572 t573 t574 t575 _ ?side1 ?side2 A2.out).mono ?_); (case side1 => exact Hof.Cw (Kd.C_below HR0_1.out HB.out)); (case side2 => exact HC0_1.out); rintro e w22 ⟨rfl, hb⟩; refine ⟨_, rfl, ?_⟩; replace BK571 := Aside0.mk (blk_below (Hof.Bw BK571.out) hb); replace HB := Aside0.mk (below_step (by repeat (first | (with_reducible first | exact HB.out | apply below_alloc | apply pw_below_drewN | apply below_drew1 | refine below_set ?_ GE571.out) | exact HB.out)) hb); (try clear hb); (try clear hb2); (try clear hk); (try clear hi)) | ((with_reducible refine gate_dst (N := 3) rfl ?_); (try (refine gate_guard (by rfl) ?_; dsimp only)); refine box_event ?hg (N := 3) ?hd (cs := #[.int .i64 0, .int .i64 0, .int .i64 0]) (t := 108) ?hr ?_; (case hd => rfl); (case hg => rfl); (case hr => first | (go_simp; done) | (go_simp; rfl)); intro gb576 hg w23 hbox hb; have BK576 := Aside0.mk hbox; have GW576 := Aside0.mk ((by rw [hg]; exact (below_size (by repeat (first | (with_reducible first | exact HB.out | apply below_alloc | apply pw_below_drewN | apply below_drew1 | refine below_set ?_ GE571.out) | exact HB.out))) : w.heap.size ≤ gb576)); have GE576 := Aside0.mk ((by rw [hg]; exact (below_size (by repeat (first | (with_reducible first | exact HB.out | apply below_alloc | apply pw_below_drewN | apply below_drew1 | refine below_set ?_ GE571.out) | exact HB.out))) : w.heap.size ≤ gb576)); replace HB := Aside0.mk (below_step (by repeat (first | (with_reducible first | exact HB.out | apply below_alloc | apply pw_below_drewN | apply below_drew1 | refine below_set ?_ GE571.out) | exact HB.out)) hb); have NB571_576 := Aside0.mk ((by rw [hg]; exact Nat.ne_of_lt (blk_lt (g := gb571) (o := .cells #[.int .i64 a0_0, .slice A0_1 l0_1.length c0_1] 35 (0, 0)) (Hof.Bw BK571.out)) : gb571 ≠ gb576)); have NB576_571 := Aside0.mk ((by rw [hg]; exact Nat.ne_of_gt (blk_lt (g := gb571) (o := .cells #[.int .i64 a0_0, .slice A0_1 l0_1.length c0_1] 35 (0, 0)) (Hof.Bw BK571.out)) : gb576 ≠ gb571)); replace BK571 := Aside0.mk (blk_below (Hof.Bw BK571.out) hb); clear hb hbox hg; have hnb24 := NB576_571.out; have hnc24 := NB571_576.out; obtain ⟨hcz25_0, hcz25_1, hcz25_2, hfz25_0, hfz25_1, hfz25_2⟩ := Hof.blk3 BK576.out; obtain ⟨hcz26_0, hcz26_1, hfz26_0, hfz26_1⟩ := Hof.blk2 BK571.out) | ((with_reducible refine gate_callee (f := 114) rfl ?_); refine goesL_ (some 14) rfl rfl Try.func114 (by kernel_rfl) rfl #[.int .i64 a0_0, .slice A0_1 l0_1.length c0_1] rfl (by (try simp only [List.map_toArray, List.map_cons, List.map_nil]); first | done | rfl) ?_; (with_reducible refine (spec_IsFamily.calls k a0_0 _ _ l0_1 false _ ?side1 ?side2 A3.out).mono ?_); (case side1 => exact Kd.C_below HR0_1.out (by repeat (first | (with_reducible first | exact HB.out | apply below_alloc | apply pw_below_drewN | apply below_drew1 | refine below_set ?_ GE571.out | refine below_set ?_ GE576.out) | exact HB.out))); (case side2 => exact HC0_1.out); rintro e w' ⟨rfl, ⟨nd, rfl⟩⟩; refine ⟨_, rfl, ?_⟩))
  go_ret
  exact ⟨by first | rfl | (simp [errW_none, errW_some] <;> rfl) | (simp [*, errW_none, errW_some] <;> rfl), by repeat (first | (with_reducible first | exact HB.out | apply below_alloc | apply pw_below_drewN | apply below_drew1 | refine below_set ?_ GE571.out | refine below_set ?_ GE576.out) | exact HB.out)⟩
end Go.Proofs.Ytmpodackojmojaa.Pr
end
section
namespace Go.Proofs.Ytmpodackojmojaa.Pr
open Go.RowKit Go.Proofs.YtmpodackojmojaaW.PrintWords Go.Proofs.YtmpodackojmojaaW.PrintLast Go.Proofs.YtmpodackojmojaaW.PrintMore
attribute [local go_sem] max2_int min2_int max_two min_two max_three min_three max_four min_four
set_option linter.unusedVariables false
set_option linter.unusedSimpArgs false
def spec_CountOf.l0 : Nat → Int → Int → Option (Int)
 | 0, _, _ => none
 | k + 1, x0, x3 => if x0 > 0 then (spec_CountOf.l0 k (x0 / 2) (wrap64 (x3 + (Go.bits .and .i64 x0 1)))) else (some x3)
def spec_CountOf.f (k : Nat) (a0 : Int) : Option (Int) := (spec_IsSet.f 8 a0).bind fun t578 => (if t578 = true then (spec_CountOf.l0 k a0 0) else (some 0))
theorem spec_CountOf.mono_l : ∀ k, (∀ y0 y1, LeO (spec_CountOf.l0 k y0 y1) (spec_CountOf.l0 (k + 1) y0 y1))
 | 0 => fun _ _ r h => by simp [spec_CountOf.l0] at h
 | k + 1 => by
  have ih0 := spec_CountOf.mono_l k
  ·intro y0 y1
   unfold spec_CountOf.l0
   repeat' first
   | (with_reducible exact ih0 _ _)
   | (with_reducible exact LeO.refl _)
   | (with_reducible exact LeO.none _)
   | (with_reducible refine LeO.ite ?_ ?_)
   | (with_reducible refine LeO.bind ?_ (fun _ => ?_))
   | exact ih0 _ _
   | exact LeO.none _
   | refine LeO.ite ?_ ?_
   | refine LeO.bind ?_ (fun _ => ?_)
theorem spec_CountOf.mono : ∀ a0 k, LeO (spec_CountOf.f k a0) (spec_CountOf.f (k + 1) a0) := by
 intro a0 k
 have ih0 := spec_CountOf.mono_l k
 unfold spec_CountOf.f
 repeat' first
   | (with_reducible exact ih0 _ _)
   | (with_reducible exact LeO.refl _)
   | (with_reducible exact LeO.none _)
   | (with_reducible refine LeO.ite ?_ ?_)
   | (with_reducible refine LeO.bind ?_ (fun _ => ?_))
   | exact ih0 _ _
   | exact LeO.none _
   | refine LeO.ite ?_ ?_
   | refine LeO.bind ?_ (fun _ => ?_)
set_option maxHeartbeats 8000000 in
set_option maxRecDepth 100000 in
theorem spec_CountOf.calls (k : Nat) (a0 : Int) (r : Int) (w : World) (h : spec_CountOf.f k a0 = some r) :
  Calls Try.prog 96 #[.int .i64 a0] w fun e w' => e = .returned (.int .i64 r) ∧ Drawn0 w w' := by
 have H : ((spec_IsSet.f 8 a0).bind fun t578 => (if t578 = true then (spec_CountOf.l0 k a0 0) else (some 0))) = some r := h
 clear h
 replace H := Option.bind_eq_some_iff.mp H
 obtain ⟨t578, A20, H⟩ := H
 (try dsimp only at H)
 have A2 := Aside0.mk A20
 clear A20
 by_cases c3 : t578 = true
 ·subst c3
  have H1 : (spec_CountOf.l0 k a0 0) = some r := by rw [if_pos rfl] at H; exact H
  clear H
  have H := H1
  clear H1
  have H' := Aside0.mk H
  clear H
  go_enter Try.func96, Try.ntmps96
  go_wp2_with (first | ((with_reducible refine gate_callee (f := 56) rfl ?_); refine goesL_ (some 5) rfl rfl Try.func56 (by kernel_rfl) rfl #[.int .i64 8, .int .i64 a0] rfl (by (try simp only [List.map_toArray, List.map_cons, List.map_nil]); first | done | rfl) ?_; (with_reducible refine (spec_IsSet.calls 8 a0 true _ A2.out).mono ?_); rintro e w' ⟨rfl, ⟨nd, rfl⟩⟩; refine ⟨_, rfl, ?_⟩))
  go_loopg [0, 3] k (fun kq v0 v3 w' => ∃ (x0_1 : Int) (x3_1 : Int), v0 = .int .i64 x0_1 ∧ v3 = .int .i64 x3_1 ∧ Aside0 (spec_CountOf.l0 kq x0_1 x3_1 = some r) ∧ Aside0 (kq ≤ k) ∧ Drawn0 w w')
  case atStart => exact ⟨(a0), (0), (by first | rfl | (simp; done) | (simp [*]; done)), (by first | rfl | (simp; done) | (simp [*]; done)), H', ⟨Nat.le_refl _⟩, by repeat (first | exact Drawn0.refl _ | apply Drawn0.step)⟩
  case round =>
   clear H'
   try clear p2
   try clear c3
   obtain ⟨x0_1, x3_1, rfl, rfl, HA, HK1, ⟨m1, rfl⟩⟩ := hrel
   cases gk with
   | zero => exact absurd HA.out (by simp [spec_CountOf.l0])
   | succ k1 =>
    have H := HA.out
    clear HA
    simp only [spec_CountOf.l0] at H
    by_cases c4 : x0_1 > 0
    ·rw [if_pos c4] at H
     have c4b0 : decide (0 < x0_1) = true := decide_eq_true c4
     clear c4
     have H' := Aside0.mk H
     clear H
     go_wp2
     go_roundg k1
     case measure => have := HK1.out; omega
     case rel => exact ⟨(x0_1 / 2), (wrap64 (x3_1 + (Go.bits .and .i64 x0_1 1))), (by first | rfl | (simp; done) | (simp [*]; done)), (by first | rfl | (simp; done) | (simp [*]; done)), H', ⟨by have := HK1.out; omega⟩, by repeat (first | exact Drawn0.refl _ | apply Drawn0.step)⟩
    ·rw [if_neg c4] at H
     have c4b0 : decide (0 < x0_1) = false := decide_eq_false c4
     clear c4
     obtain rfl := Option.some.inj H
     go_wp2
     go_ret
     exact ⟨by first | rfl | (simp; done) | (simp [*]; done), by repeat (first | exact Drawn0.refl _ | apply Drawn0.step)⟩
 ·replace c3 := Bool.eq_false_iff.mpr c3
  subst c3
  have H1 : (some 0) = some r := by rw [if_neg (show ¬ (false = true) by decide)] at H; exact H
  clear H
  have H := H1
  clear H1
  obtain rfl := Option.some.inj H
  go_enter Try.func96, Try.ntmps96
  go_wp2_with (first | ((with_reducible refine gate_callee (f := 56) rfl ?_); refine goesL_ (some 5) rfl rfl Try.func56 (by kernel_rfl) rfl #[.int .i64 8, .int .i64 a0] rfl (by (try simp only [List.map_toArray, List.map_cons, List.map_nil]); first | done | rfl) ?_; (with_reducible refine (spec_IsSet.calls 8 a0 false _ A2.out).mono ?_); rintro e w' ⟨rfl, ⟨nd, rfl⟩⟩; refine ⟨_, rfl, ?_⟩))
  go_ret
  exact ⟨by first | rfl | (simp; done) | (simp [*]; done), by repeat (first | exact Drawn0.refl _ | apply Drawn0.step)⟩
end Go.Proofs.Ytmpodackojmojaa.Pr
end
section
namespace Go.Proofs.Ytmpodackojmojaa.Pr
open Go.RowKit Go.Proofs.YtmpodackojmojaaW.PrintWords Go.Proofs.YtmpodackojmojaaW.PrintLast Go.Proofs.YtmpodackojmojaaW.PrintMore
attribute [local go_sem] max2_int min2_int max_two min_two max_three min_three max_four min_four
set_option linter.unusedVariables false
set_option linter.unusedSimpArgs false
def spec_RankOfMatroid.f (k : Nat) (a0_0 : Int) (l0_1 : List Int) : Option (Int) := (spec_IsMatroid.f k a0_0 l0_1).bind fun t580 => (if t580 = true then (if 0 < (l0_1.length : Int) then ((spec_CountOf.f k (rd l0_1 0)).bind fun t582 => (some t582)) else (none)) else (some (-1)))
set_option maxHeartbeats 8000000 in
set_option maxRecDepth 100000 in
theorem spec_RankOfMatroid.calls (k : Nat) (a0_0 : Int) (A0_1 : Option Addr) (c0_1 : Nat) (l0_1 : List Int) (r : Int) (w : World) (hr0_1 : Kd.C (Kd.int .i64) w A0_1 l0_1.length l0_1) (hc0_1 : l0_1.length ≤ c0_1) (h : spec_RankOfMatroid.f k a0_0 l0_1 = some r) :
  Calls Try.prog 47 #[.agg #[.int .i64 a0_0, .slice A0_1 l0_1.length c0_1]] w fun e w' => e = .returned (.int .i64 r) ∧ Below w.heap.size w w' := by
 have hu35 := Try.underlying35
 have HR0_1 := Aside0.mk hr0_1
 have HC0_1 := Aside0.mk hc0_1
 clear hr0_1 hc0_1
 have HB := Aside0.mk (Below.refl w.heap.size w)
 have H : ((spec_IsMatroid.f k a0_0 l0_1).bind fun t580 => (if t580 = true then (if 0 < (l0_1.length : Int) then ((spec_CountOf.f k (rd l0_1 0)).bind fun t582 => (some t582)) else (none)) else (some (-1)))) = some r := h
 clear h
 replace H := Option.bind_eq_some_iff.mp H
 obtain ⟨t580, A20, H⟩ := H
 (try dsimp only at H)
 have A2 := Aside0.mk A20
 clear A20
 by_cases c3 : t580 = true
 ·subst c3
  have H1 : (if 0 < (l0_1.length : Int) then ((spec_CountOf.f k (rd l0_1 0)).bind fun t582 => (some t582)) else (none)) = some r := by rw [if_pos rfl] at H; exact H
  clear H
  have H := H1
  clear H1
  by_cases c4 : 0 < (l0_1.length : Int)
  ·rw [if_pos c4] at H
   have c4b0 : decide (0 < (l0_1.length : Int)) = true := decide_eq_true c4
   have c4b1 : decide (0 < l0_1.length) = true := decide_eq_true (by omega)
   clear c4
   replace H := Option.bind_eq_some_iff.mp H
   obtain ⟨t582, A50, H⟩ := H
   (try dsimp only at H)
   have A5 := Aside0.mk A50
   clear A50
   obtain rfl := Option.some.inj H
   go_enter Try.func47, Try.ntmps47
   go_wp2_with (first | ((with_reducible refine gate_dst (N := 1) rfl ?_); refine box_event ?hg (N := 1) ?hd (cs := #[.int .i64 a0_0, .slice A0_1 l0_1.length c0_1]) (t := 35) ?hr ?_; (case hd => rfl); (case hg => rfl); (case hr => first | (go_simp; done) | (go_simp; rfl)); intro gb579 hg w6 hbox hb; have BK579 := Aside0.mk hbox; have GW579 := Aside0.mk ((by rw [hg]; exact (below_size (Hof.Lw HB.out)) : w.heap.size ≤ gb579)); have GE579 := Aside0.mk ((by rw [hg]; exact (below_size (Hof.Lw HB.out)) : w.heap.size ≤ gb579)); replace HB := Aside0.mk (below_step (Hof.Lw HB.out) hb); clear hb hbox hg; obtain ⟨hcz7_0, hcz7_1, hfz7_0, hfz7_1⟩ := Hof.blk2 BK579.out) | ((with_reducible refine gate_callee (f := 76) rfl ?_); refine goesL_ (some 4) rfl rfl Try.func76 (by kernel_rfl) rfl #[.agg #[.int .i64 a0_0, .slice A0_1 l0_1.length c0_1]] rfl (by (try simp only [List.map_toArray, List.map_cons, List.map_nil]); first | done | rfl) ?_; (with_reducible refine (spec_IsMatroid.calls k a0_0 _ _ l0_1 true _ ?side1 ?side2 A2.out).mono ?_); (case side1 => exact Hof.Cw (Kd.C_below HR0_1.out HB.out)); (case side2 => exact HC0_1.out); rintro e w8 ⟨rfl, hb⟩; refine ⟨_, rfl, ?_⟩; replace BK579 := Aside0.mk (blk_below (Hof.Bw BK579.out) hb); replace HB := Aside0.mk (below_step (Hof.Lw HB.out) hb); (try clear hb); (try clear hb2); (try clear hk); (try clear hi); obtain ⟨hcz9_0, hcz9_1, hfz9_0, hfz9_1⟩ := Hof.blk2 BK579.out; have p581 : 0 ≤ (0 : Int) := (by omega); have q581 : 0 < (l0_1.length : Int) := of_decide_eq_true (by first | (with_reducible assumption) | assumption); obtain ⟨ad581, e581, hx581_0⟩ := Kd.at_int HR0_1.out 0 p581 q581; cases e581; have qi581 : (0 < l0_1.length) = True := eq_true (by omega); (try rw [show ((0 : Int)).toNat = 0 from rfl] at hx581_0); (try rw [Addr.add_zero'] at hx581_0); replace hx581_0 := (HB.out.cell (World.block_lt_of_cell? w _ hx581_0)).trans hx581_0; replace p581 := eq_true p581; replace q581 := eq_true q581) | ((with_reducible refine gate_callee (f := 96) rfl ?_); refine goesL_ (some 10) rfl rfl Try.func96 (by kernel_rfl) rfl #[.int .i64 (rd l0_1 0)] rfl (by (try simp only [List.map_toArray, List.map_cons, List.map_nil]); first | done | rfl) ?_; (with_reducible refine (spec_CountOf.calls k (rd l0_1 0) t582 _ A5.out).mono ?_); rintro e w' ⟨rfl, ⟨nd, rfl⟩⟩; refine ⟨_, rfl, ?_⟩))
   go_ret
   exact ⟨by first | rfl | (simp [errW_none, errW_some] <;> rfl) | (simp [*, errW_none, errW_some] <;> rfl), by repeat (first | (with_reducible first | exact HB.out | apply below_alloc | apply pw_below_drewN | apply below_drew1 | refine below_set ?_ GE579.out) | exact HB.out)⟩
  ·rw [if_neg c4] at H
   exact absurd H (by simp)
 ·replace c3 := Bool.eq_false_iff.mpr c3
  subst c3
  have H1 : (some (-1)) = some r := by rw [if_neg (show ¬ (false = true) by decide)] at H; exact H
  clear H
  have H := H1
  clear H1
  obtain rfl := Option.some.inj H
  go_enter Try.func47, Try.ntmps47
  go_wp2_with (first | ((with_reducible refine gate_dst (N := 1) rfl ?_); refine box_event ?hg (N := 1) ?hd (cs := #[.int .i64 a0_0, .slice A0_1 l0_1.length c0_1]) (t := 35) ?hr ?_; (case hd => rfl); (case hg => rfl); (case hr => first | (go_simp; done) | (go_simp; rfl)); intro gb579 hg w10 hbox hb; have BK579 := Aside0.mk hbox; have GW579 := Aside0.mk ((by rw [hg]; exact (below_size (Hof.Lw HB.out)) : w.heap.size ≤ gb579)); have GE579 := Aside0.mk ((by rw [hg]; exact (below_size (Hof.Lw HB.out)) : w.heap.size ≤ gb579)); replace HB := Aside0.mk (below_step (Hof.Lw HB.out) hb); clear hb hbox hg; obtain ⟨hcz11_0, hcz11_1, hfz11_0, hfz11_1⟩ := Hof.blk2 BK579.out) | ((with_reducible refine gate_callee (f := 76) rfl ?_); refine goesL_ (some 4) rfl rfl Try.func76 (by kernel_rfl) rfl #[.agg #[.int .i64 a0_0, .slice A0_1 l0_1.length c0_1]] rfl (by (try simp only [List.map_toArray, List.map_cons, List.map_nil]); first | done | rfl) ?_; (with_reducible refine (spec_IsMatroid.calls k a0_0 _ _ l0_1 false _ ?side1 ?side2 A2.out).mono ?_); (case side1 => exact Hof.Cw (Kd.C_below HR0_1.out HB.out)); (case side2 => exact HC0_1.out); rintro e w12 ⟨rfl, hb⟩; refine ⟨_, rfl, ?_⟩; replace BK579 := Aside0.mk (blk_below (Hof.Bw BK579.out) hb); replace HB := Aside0.mk (below_step (Hof.Lw HB.out) hb); (try clear hb); (try clear hb2); (try clear hk); (try clear hi)))
  go_ret
  exact ⟨by first | rfl | (simp [errW_none, errW_some] <;> rfl) | (simp [*, errW_none, errW_some] <;> rfl), by repeat (first | (with_reducible first | exact HB.out | apply below_alloc | apply pw_below_drewN | apply below_drew1 | refine below_set ?_ GE579.out) | exact HB.out)⟩
end Go.Proofs.Ytmpodackojmojaa.Pr
end
section
namespace Go.Proofs.Ytmpodackojmojaa.Pr
open Go.RowKit Go.Proofs.YtmpodackojmojaaW.PrintWords Go.Proofs.YtmpodackojmojaaW.PrintLast Go.Proofs.YtmpodackojmojaaW.PrintMore
attribute [local go_sem] max2_int min2_int max_two min_two max_three min_three max_four min_four
set_option linter.unusedVariables false
set_option linter.unusedSimpArgs false
def spec_AreWeights.l0 : Nat → Int → List Int → Int → Option (Bool)
 | 0, _, _, _ => none
 | k + 1, x0, x1, x5 => if x5 < (x1.length : Int) then (if 0 ≤ x5 then ((spec_l1In.f (rd x1 x5) (-1000) 1000).bind fun t616 => (if t616 = true then (spec_AreWeights.l0 k x0 x1 (wrap64 (x5 + 1))) else (some false))) else (none)) else ((spec_l1In.f x0 0 8).bind fun t617 => (if t617 = true then (some ((x1.length : Int) == x0)) else (some false)))
def spec_AreWeights.f (k : Nat) (a0 : Int) (l1 : List Int) : Option (Bool) := spec_AreWeights.l0 k a0 l1 0
set_option maxHeartbeats 8000000 in
set_option maxRecDepth 100000 in
theorem spec_AreWeights.calls (k : Nat) (a0 : Int) (A1 : Option Addr) (c1 : Nat) (l1 : List Int) (r : Bool) (w : World) (hr1 : Kd.C (Kd.int .i64) w A1 l1.length l1) (hc1 : l1.length ≤ c1) (h : spec_AreWeights.f k a0 l1 = some r) :
  Calls Try.prog 135 #[.int .i64 a0, .slice A1 l1.length c1] w fun e w' => e = .returned (.bool r) ∧ Drawn0 w w' := by
 have HR1 := Aside0.mk hr1
 have HC1 := Aside0.mk hc1
 clear hr1 hc1
 have H : (spec_AreWeights.l0 k a0 l1 0) = some r := h
 clear h
 have H' := Aside0.mk H
 clear H
 go_enter Try.func135, Try.ntmps135
 go_wp2
 go_loopg [5] k (fun kq v5 w' => ∃ (x5_1 : Int), v5 = .int .i64 x5_1 ∧ Aside0 (spec_AreWeights.l0 kq a0 l1 x5_1 = some r) ∧ Aside0 (kq ≤ k) ∧ Drawn0 w w')
 case atStart => exact ⟨(0), (by first | rfl | (simp; done) | (simp [*]; done)), H', ⟨Nat.le_refl _⟩, by repeat (first | exact Drawn0.refl _ | apply Drawn0.step)⟩
 case round =>
  clear H'
  try clear c1
  try clear p2
  obtain ⟨x5_1, rfl, HA, HK1, ⟨m1, rfl⟩⟩ := hrel
  cases gk with
  | zero => exact absurd HA.out (by simp [spec_AreWeights.l0])
  | succ k1 =>
   have H := HA.out
   clear HA
   simp only [spec_AreWeights.l0] at H
   by_cases c3 : x5_1 < (l1.length : Int)
   ·rw [if_pos c3] at H
    have c3b0 : decide (x5_1 < (l1.length : Int)) = true := decide_eq_true c3
    clear c3
    by_cases c4 : 0 ≤ x5_1
    ·rw [if_pos c4] at H
     have c4b0 : decide (0 ≤ x5_1) = true := decide_eq_true c4
     clear c4
     replace H := Option.bind_eq_some_iff.mp H
     obtain ⟨t616, A50, H⟩ := H
     (try dsimp only at H)
     have A5 := Aside0.mk A50
     clear A50
     by_cases c6 : t616 = true
     ·subst c6
      have H1 : (spec_AreWeights.l0 k1 a0 l1 (wrap64 (x5_1 + 1))) = some r := by rw [if_pos rfl] at H; exact H
      clear H
      have H := H1
      clear H1
      have H' := Aside0.mk H
      clear H
      have p615 : 0 ≤ (x5_1 : Int) := of_decide_eq_true (by first | (with_reducible assumption) | assumption)
      have q615 : x5_1 < (l1.length : Int) := of_decide_eq_true (by first | (with_reducible assumption) | assumption)
      obtain ⟨ad615, e615, hx615_0⟩ := Kd.at_int HR1.out x5_1 p615 q615
      cases e615
      replace p615 := eq_true p615
      replace q615 := eq_true q615
      go_wp2_with (first | ((with_reducible refine gate_callee (f := 89) rfl ?_); refine goesL_ (some 16) rfl rfl Try.func89 (by kernel_rfl) rfl #[.int .i64 (rd l1 x5_1), .int .i64 (-1000), .int .i64 1000] rfl (by (try simp only [List.map_toArray, List.map_cons, List.map_nil]); first | done | rfl) ?_; (with_reducible refine (spec_l1In.calls (rd l1 x5_1) (-1000) 1000 true _ A5.out).mono ?_); rintro e w' ⟨rfl, ⟨nd, rfl⟩⟩; refine ⟨_, rfl, ?_⟩))
      go_roundg k1
      case measure => have := HK1.out; omega
      case rel => exact ⟨(wrap64 (x5_1 + 1)), (by first | rfl | (simp; done) | (simp [*]; done)), H', ⟨by have := HK1.out; omega⟩, by repeat (first | exact Drawn0.refl _ | apply Drawn0.step)⟩
     ·replace c6 := Bool.eq_false_iff.mpr c6
      subst c6
      have H1 : (some false) = some r := by rw [if_neg (show ¬ (false = true) by decide)] at H; exact H
      clear H
      have H := H1
      clear H1
      obtain rfl := Option.some.inj H
      have p615 : 0 ≤ (x5_1 : Int) := of_decide_eq_true (by first | (with_reducible assumption) | assumption)
      have q615 : x5_1 < (l1.length : Int) := of_decide_eq_true (by first | (with_reducible assumption) | assumption)
      obtain ⟨ad615, e615, hx615_0⟩ := Kd.at_int HR1.out x5_1 p615 q615
      cases e615
      replace p615 := eq_true p615
      replace q615 := eq_true q615
      go_wp2_with (first | ((with_reducible refine gate_callee (f := 89) rfl ?_); refine goesL_ (some 16) rfl rfl Try.func89 (by kernel_rfl) rfl #[.int .i64 (rd l1 x5_1), .int .i64 (-1000), .int .i64 1000] rfl (by (try simp only [List.map_toArray, List.map_cons, List.map_nil]); first | done | rfl) ?_; (with_reducible refine (spec_l1In.calls (rd l1 x5_1) (-1000) 1000 false _ A5.out).mono ?_); rintro e w' ⟨rfl, ⟨nd, rfl⟩⟩; refine ⟨_, rfl, ?_⟩))
      go_ret
      exact ⟨by first | rfl | (simp; done) | (simp [*]; done), by repeat (first | exact Drawn0.refl _ | apply Drawn0.step)⟩
    ·rw [if_neg c4] at H
     exact absurd H (by simp)
   ·rw [if_neg c3] at H
    have c3b0 : decide (x5_1 < (l1.length : Int)) = false := decide_eq_false c3
    clear c3
    replace H := Option.bind_eq_some_iff.mp H
    obtain ⟨t617, A70, H⟩ := H
    (try dsimp only at H)
    have A7 := Aside0.mk A70
    clear A70
    by_cases c8 : t617 = true
    ·subst c8
     have H1 : (some ((l1.length : Int) == a0)) = some r := by rw [if_pos rfl] at H; exact H
     clear H
     have H := H1
     clear H1
     obtain rfl := Option.some.inj H
     go_wp2_with (first | ((with_reducible refine gate_callee (f := 89) rfl ?_); refine goesL_ (some 19) rfl rfl Try.func89 (by kernel_rfl) rfl #[.int .i64 a0, .int .i64 0, .int .i64 8] rfl (by (try simp only [List.map_toArray, List.map_cons, List.map_nil]); first | done | rfl) ?_; (with_reducible refine (spec_l1In.calls a0 0 8 true _ A7.out).mono ?_); rintro e w' ⟨rfl, ⟨nd, rfl⟩⟩; refine ⟨_, rfl, ?_⟩))
     go_ret
     exact ⟨by first | rfl | (simp; done) | (simp [*]; done), by repeat (first | exact Drawn0.refl _ | apply Drawn0.step)⟩
    ·replace c8 := Bool.eq_false_iff.mpr c8
     subst c8
     have H1 : (some false) = some r := by rw [if_neg (show ¬ (false = true) by decide)] at H; exact H
     clear H
     have H := H1
     clear H1
     obtain rfl := Option.some.inj H
     go_wp2_with (first | ((with_reducible refine gate_callee (f := 89) rfl ?_); refine goesL_ (some 19) rfl rfl Try.func89 (by kernel_rfl) rfl #[.int .i64 a0, .int .i64 0, .int .i64 8] rfl (by (try simp only [List.map_toArray, List.map_cons, List.map_nil]); first | done | rfl) ?_; (with_reducible refine (spec_l1In.calls a0 0 8 false _ A7.out).mono ?_); rintro e w' ⟨rfl, ⟨nd, rfl⟩⟩; refine ⟨_, rfl, ?_⟩))
     go_ret
     exact ⟨by first | rfl | (simp; done) | (simp [*]; done), by repeat (first | exact Drawn0.refl _ | apply Drawn0.step)⟩
end Go.Proofs.Ytmpodackojmojaa.Pr
end
section
namespace Go.Proofs.Ytmpodackojmojaa.Pr
open Go.RowKit Go.Proofs.YtmpodackojmojaaW.PrintWords Go.Proofs.YtmpodackojmojaaW.PrintLast Go.Proofs.YtmpodackojmojaaW.PrintMore
attribute [local go_sem] max2_int min2_int max_two min_two max_three min_three max_four min_four
set_option linter.unusedVariables false
set_option linter.unusedSimpArgs false
mutual
def spec_l19Order.l0 : Nat → List Int → List Int → Int → Option (List Int)
 | 0, _, _, _ => none
 | k + 1, x0, x3, x4 => if x4 < (x0.length : Int) then (spec_l19Order.l1 k x0 x3 x4 (x3.length : Int)) else (some x3)
def spec_l19Order.l1 : Nat → List Int → List Int → Int → Int → Option (List Int)
 | 0, _, _, _, _ => none
 | k + 1, x0, x3, x4, x5 => if x5 > 0 then (if 0 ≤ (wrap64 (x5 - 1)) then (if (wrap64 (x5 - 1)) < (x3.length : Int) then (if 0 ≤ (rd x3 (wrap64 (x5 - 1))) then (if (rd x3 (wrap64 (x5 - 1))) < (x0.length : Int) then (if 0 ≤ x4 then (if x4 < (x0.length : Int) then (if (rd x0 (rd x3 (wrap64 (x5 - 1)))) < (rd x0 x4) then (spec_l19Order.l1 k x0 x3 x4 (wrap64 (x5 - 1))) else ((some (([] : List Int) : List Int)).bind fun y624 => (if 0 ≤ x5 then (if x5 ≤ (x3.length : Int) then ((some (x3.drop (x5 : Int).toNat : List Int)).bind fun y627 => (if y624.length + y627.length < 17592186044416 then ((some (y624 ++ y627 : List Int)).bind fun y631 => ((some (x3.take (x5 : Int).toNat : List Int)).bind fun y634 => (if y634.length < 17592186044416 then ((some (y634 ++ [x4] : List Int)).bind fun y637 => (if y637.length + y631.length < 17592186044416 then (spec_l19Order.l0 k x0 (y637 ++ y631) (wrap64 (x4 + 1))) else (none))) else (none)))) else (none))) else (none)) else (none)))) else (none)) else (none)) else (none)) else (none)) else (none)) else (none)) else ((some (([] : List Int) : List Int)).bind fun y643 => (if 0 ≤ x5 then (if x5 ≤ (x3.length : Int) then ((some (x3.drop (x5 : Int).toNat : List Int)).bind fun y646 => (if y643.length + y646.length < 17592186044416 then ((some (y643 ++ y646 : List Int)).bind fun y650 => ((some (x3.take (x5 : Int).toNat : List Int)).bind fun y653 => (if y653.length < 17592186044416 then ((some (y653 ++ [x4] : List Int)).bind fun y656 => (if y656.length + y650.length < 17592186044416 then (spec_l19Order.l0 k x0 (y656 ++ y650) (wrap64 (x4 + 1))) else (none))) else (none)))) else (none))) else (none)) else (none)))
end
def spec_l19Order.f (k : Nat) (l0 : List Int) : Option (List Int) := spec_l19Order.l0 k l0 (([] : List Int)) 0
set_option maxHeartbeats 8000000 in
set_option maxRecDepth 100000 in
theorem spec_l19Order.calls (k : Nat) (A0 : Option Addr) (c0 : Nat) (l0 : List Int) (r : List Int) (w : World) (hr0 : Kd.C (Kd.int .i64) w A0 l0.length l0) (hc0 : l0.length ≤ c0) (h : spec_l19Order.f k l0 = some r) :
  Calls Try.prog 157 #[.slice A0 l0.length c0] w fun e w' => ∃ v0_ : Value, e = .returned (v0_) ∧ Kd.R (Kd.int .i64) 3 w' w.heap.size (fun _ => True) v0_ r ∧ Below w.heap.size w w' := by
 have HR0 := Aside0.mk hr0
 have HC0 := Aside0.mk hc0
 clear hr0 hc0
 have HB := Aside0.mk (Below.refl w.heap.size w)
 have H : (spec_l19Order.l0 k l0 (([] : List Int)) 0) = some r := h
 clear h
 obtain ⟨y618, hy618⟩ : ∃ y_ : List Int, y_ = (([] : List Int)) := ⟨_, rfl⟩
 replace H : (spec_l19Order.l0 k l0 y618 0) = some r := by first | (rw [hy618]; with_reducible exact H) | (have H2_ := (Option.bind_some _ _).symm.trans H; rw [hy618]; with_reducible exact H2_) | (have H2_ := (Option.bind_some _ _).symm.trans H; with_reducible exact H2_) | with_reducible exact H | (rw [hy618]; exact H) | exact H
 have Ny618 := Aside0.mk hy618
 clear hy618
 have H' := Aside0.mk H
 clear H
 go_enter Try.func157, Try.ntmps157
 go_wp2_with (first | ((with_reducible refine gate_dst (N := 7) rfl ?_); refine Kd.R_lit (Kd.int .i64) _ 3 ?hg (N := 7) ?hd (xs := ([] : List Int)) (inner := []) (ok := fun _ => True) (okp := fun _ => True) ?hr ?hp (fun _ hk => hk) trivial (Below.refl _ _) (Nat.le_refl _) (by simp) ?_; (case hd => rfl); (case hg => rfl); (case hr => first | (go_simp; done) | (go_simp; rfl)); (case hp => exact (Reps.none _ _)); intro v619 w2 ho3 hb hg_ hnew_; clear hg_ hnew_; (first | rw [← Ny618.out] at ho3 | (simp only [Int.reduceToNat] at ho3; rw [← Ny618.out] at ho3)); have HO620 := Aside0.mk (Kd.R_lower ho3 (below_size (Hof.Lw HB.out))); replace HB := Aside0.mk (below_step (Hof.Lw HB.out) hb); clear hb ho3))
 repeat (go_quiet (first | ((with_reducible refine gate_dst (N := 7) rfl ?_); refine Kd.R_lit (Kd.int .i64) _ 3 ?hg (N := 7) ?hd (xs := ([] : List Int)) (inner := []) (ok := fun _ => True) (okp := fun _ => True) ?hr ?hp (fun _ hk => hk) trivial (Below.refl _ _) (Nat.le_refl _) (by simp) ?_; (case hd => rfl); (case hg => rfl); (case hr => first | (go_simp; done) | (go_simp; rfl)); (case hp => exact (Reps.none _ _)); intro v619 w2 ho3 hb hg_ hnew_; clear hg_ hnew_; (first | rw [← Ny618.out] at ho3 | (simp only [Int.reduceToNat] at ho3; rw [← Ny618.out] at ho3)); have HO620 := Aside0.mk (Kd.R_lower ho3 (below_size (Hof.Lw HB.out))); replace HB := Aside0.mk (below_step (Hof.Lw HB.out) hb); clear hb ho3)); try go_wp2_with (first | ((with_reducible refine gate_dst (N := 7) rfl ?_); refine Kd.R_lit (Kd.int .i64) _ 3 ?hg (N := 7) ?hd (xs := ([] : List Int)) (inner := []) (ok := fun _ => True) (okp := fun _ => True) ?hr ?hp (fun _ hk => hk) trivial (Below.refl _ _) (Nat.le_refl _) (by simp) ?_; (case hd => rfl); (case hg => rfl); (case hr => first | (go_simp; done) | (go_simp; rfl)); (case hp => exact (Reps.none _ _)); intro v619 w2 ho3 hb hg_ hnew_; clear hg_ hnew_; (first | rw [← Ny618.out] at ho3 | (simp only [Int.reduceToNat] at ho3; rw [← Ny618.out] at ho3)); have HO620 := Aside0.mk (Kd.R_lower ho3 (below_size (Hof.Lw HB.out))); replace HB := Aside0.mk (below_step (Hof.Lw HB.out) hb); clear hb ho3)))
 go_loopg [3, 4] k (fun kq v3 v4 w' => ∃ (x3_1 : List Int) (x4_1 : Int), v4 = .int .i64 x4_1 ∧ Aside0 (spec_l19Order.l0 kq l0 x3_1 x4_1 = some r) ∧ Aside0 (kq ≤ k) ∧ Aside0 (Kd.R (Kd.int .i64) 3 w' w.heap.size (fun _ => True) v3 x3_1) ∧ Aside0 (Below w.heap.size w w'))
 case atStart => exact ⟨(y618), (0), (by first | rfl | (simp; done) | (simp [*]; done)), H', ⟨Nat.le_refl _⟩, ⟨Hof.Rw HO620.out⟩, ⟨Hof.Lw HB.out⟩⟩
 case round =>
  clear H'
  try clear c1
  try clear p2
  obtain ⟨x3_1, x4_1, rfl, HA, HK1, HO_3, HB⟩ := hrel
  cases gk with
  | zero => exact absurd HA.out (by simp [spec_l19Order.l0])
  | succ k1 =>
   have H := HA.out
   clear HA
   simp only [spec_l19Order.l0] at H
   by_cases c4 : x4_1 < (l0.length : Int)
   ·rw [if_pos c4] at H
    have c4b0 : decide (x4_1 < (l0.length : Int)) = true := decide_eq_true c4
    clear c4
    have H' := Aside0.mk H
    clear H
    obtain ⟨Ao5, co5, eo5⟩ := Kd.R_slice HO_3.out
    subst eo5
    go_wp2
    repeat (go_quiet (fail); try go_wp2)
    go_loopg [5] k1 (fun kq v5 w' => ∃ (x5_2 : Int), v5 = .int .i64 x5_2 ∧ Aside0 (spec_l19Order.l1 kq l0 x3_1 x4_1 x5_2 = some r) ∧ Aside0 (kq ≤ k1) ∧ Aside0 (Kd.R (Kd.int .i64) 3 w' w.heap.size (fun _ => True) (.slice Ao5 x3_1.length co5) x3_1) ∧ Aside0 (Below w.heap.size w w'))
    case atStart => exact ⟨((x3_1.length : Int)), (by first | rfl | (simp; done) | (simp [*]; done)), H', ⟨Nat.le_refl _⟩, ⟨Hof.Rw HO_3.out⟩, ⟨Hof.Lw HB.out⟩⟩
    case round =>
     clear H'
     try clear c1
     try clear p2
     try clear c4
     try clear c4b0
     try clear p2
     obtain ⟨x5_2, rfl, HA, HK2, HO_3, HB⟩ := hrel
     cases gk with
     | zero => exact absurd HA.out (by simp [spec_l19Order.l1])
     | succ k2 =>
      have H := HA.out
      clear HA
      simp only [spec_l19Order.l1] at H
      by_cases c6 : x5_2 > 0
      ·rw [if_pos c6] at H
       have c6b0 : decide (0 < x5_2) = true := decide_eq_true c6
       clear c6
       obtain ⟨ji7, hji7⟩ : ∃ j_ : Int, (wrap64 (x5_2 - 1)) = j_ := ⟨_, rfl⟩
       replace H : (if 0 ≤ (ji7) then (if (ji7) < (x3_1.length : Int) then (if 0 ≤ (rd x3_1 (ji7)) then (if (rd x3_1 (ji7)) < (l0.length : Int) then (if 0 ≤ x4_1 then (if x4_1 < (l0.length : Int) then (if (rd l0 (rd x3_1 (ji7))) < (rd l0 x4_1) then (spec_l19Order.l1 k2 l0 x3_1 x4_1 ji7) else ((some (([] : List Int) : List Int)).bind fun y624 => (if 0 ≤ x5_2 then (if x5_2 ≤ (x3_1.length : Int) then ((some (x3_1.drop (x5_2 : Int).toNat : List Int)).bind fun y627 => (if y624.length + y627.length < 17592186044416 then ((some (y624 ++ y627 : List Int)).bind fun y631 => ((some (x3_1.take (x5_2 : Int).toNat : List Int)).bind fun y634 => (if y634.length < 17592186044416 then ((some (y634 ++ [x4_1] : List Int)).bind fun y637 => (if y637.length + y631.length < 17592186044416 then (spec_l19Order.l0 k2 l0 (y637 ++ y631) (wrap64 (x4_1 + 1))) else (none))) else (none)))) else (none))) else (none)) else (none)))) else (none)) else (none)) else (none)) else (none)) else (none)) else (none)) = some r := by first | (rw [hji7] at H; exact H) | (simp only [hji7] at H ⊢; exact H)
       have hji7w : (IntKind.i64.wrap (x5_2 - 1)) = ji7 := (i64_w _).trans hji7
       by_cases c8 : 0 ≤ (ji7)
       ·rw [if_pos c8] at H
        have c8b0 : decide (0 ≤ (ji7)) = true := decide_eq_true c8
        clear c8
        by_cases c9 : (ji7) < (x3_1.length : Int)
        ·rw [if_pos c9] at H
         have c9b0 : decide ((ji7) < (x3_1.length : Int)) = true := decide_eq_true c9
         clear c9
         by_cases c10 : 0 ≤ (rd x3_1 (ji7))
         ·rw [if_pos c10] at H
          have c10b0 : decide (0 ≤ (rd x3_1 (ji7))) = true := decide_eq_true c10
          clear c10
          by_cases c11 : (rd x3_1 (ji7)) < (l0.length : Int)
          ·rw [if_pos c11] at H
           have c11b0 : decide ((rd x3_1 (ji7)) < (l0.length : Int)) = true := decide_eq_true c11
           clear c11
           by_cases c12 : 0 ≤ x4_1
           ·rw [if_pos c12] at H
            have c12b0 : decide (0 ≤ x4_1) = true := decide_eq_true c12
            clear c12
            by_cases c13 : x4_1 < (l0.length : Int)
            ·rw [if_pos c13] at H
             have c13b0 : decide (x4_1 < (l0.length : Int)) = true := decide_eq_true c13
             clear c13
             by_cases c14 : (rd l0 (rd x3_1 (ji7))) < (rd l0 x4_1)
             ·rw [if_pos c14] at H
              have c14b0 : decide ((rd l0 (rd x3_1 (ji7))) < (rd l0 x4_1)) = true := decide_eq_true c14
              clear c14
              have H' := Aside0.mk H
              clear H
              have p621 : 0 ≤ ((ji7) : Int) := of_decide_eq_true (by first | (with_reducible assumption) | assumption)
              have q621 : (ji7) < (x3_1.length : Int) := of_decide_eq_true (by first | (with_reducible assumption) | assumption)
              obtain ⟨ad621, e621, hx621_0⟩ := Kd.at_int (Kd.R_reads' HO_3.out).2.2 (ji7) p621 q621
              cases e621
              replace p621 := eq_true p621
              replace q621 := eq_true q621
              have p622 : 0 ≤ ((rd x3_1 (ji7)) : Int) := of_decide_eq_true (by first | (with_reducible assumption) | assumption)
              have q622 : (rd x3_1 (ji7)) < (l0.length : Int) := of_decide_eq_true (by first | (with_reducible assumption) | assumption)
              obtain ⟨ad622, e622, hx622_0⟩ := Kd.at_int HR0.out (rd x3_1 (ji7)) p622 q622
              cases e622
              try replace hx622_0 := (HB.out.cell (World.block_lt_of_cell? w _ hx622_0)).trans hx622_0
              replace p622 := eq_true p622
              replace q622 := eq_true q622
              have p623 : 0 ≤ (x4_1 : Int) := of_decide_eq_true (by first | (with_reducible assumption) | assumption)
              have q623 : x4_1 < (l0.length : Int) := of_decide_eq_true (by first | (with_reducible assumption) | assumption)
              obtain ⟨ad623, e623, hx623_0⟩ := Kd.at_int HR0.out x4_1 p623 q623
              obtain rfl : ad622 = ad623 := (by injection e623)
              try replace hx623_0 := (HB.out.cell (World.block_lt_of_cell? w _ hx623_0)).trans hx623_0
              replace p623 := eq_true p623
              replace q623 := eq_true q623
              go_wp2
              repeat (go_quiet (fail); try go_wp2)
              go_roundg k2
              case measure => have := HK1.out; have := HK2.out; omega
              case rel => exact ⟨(ji7), (by first | rfl | (simp; done) | (simp only [← hji7] <;> (first | rfl | simp)) | (simp [*]; done)), H', ⟨by have := HK1.out; have := HK2.out; omega⟩, ⟨Hof.Rw HO_3.out⟩, ⟨Hof.Lw HB.out⟩⟩
             ·rw [if_neg c14] at H
              have c14b0 : decide ((rd l0 (rd x3_1 (ji7))) < (rd l0 x4_1)) = false := decide_eq_false c14
              clear c14
              obtain ⟨y624, hy624⟩ : ∃ y_ : List Int, y_ = (([] : List Int)) := ⟨_, rfl⟩
              replace H : (if 0 ≤ x5_2 then (if x5_2 ≤ (x3_1.length : Int) then ((some (x3_1.drop (x5_2 : Int).toNat : List Int)).bind fun y627 => (if y624.length + y627.length < 17592186044416 then ((some (y624 ++ y627 : List Int)).bind fun y631 => ((some (x3_1.take (x5_2 : Int).toNat : List Int)).bind fun y634 => (if y634.length < 17592186044416 then ((some (y634 ++ [x4_1] : List Int)).bind fun y637 => (if y637.length + y631.length < 17592186044416 then (spec_l19Order.l0 k2 l0 (y637 ++ y631) (wrap64 (x4_1 + 1))) else (none))) else (none)))) else (none))) else (none)) else (none)) = some r := by first | (rw [hy624]; with_reducible exact H) | (have H2_ := (Option.bind_some _ _).symm.trans H; rw [hy624]; with_reducible exact H2_) | (have H2_ := (Option.bind_some _ _).symm.trans H; with_reducible exact H2_) | with_reducible exact H | (rw [hy624]; exact H) | exact H
              have Ny624 := Aside0.mk hy624
              clear hy624
              by_cases c15 : 0 ≤ x5_2
              ·rw [if_pos c15] at H
               have c15b0 := eq_true c15
               have c15b1 : decide (0 ≤ x5_2) = true := decide_eq_true c15
               clear c15
               by_cases c16 : x5_2 ≤ (x3_1.length : Int)
               ·rw [if_pos c16] at H
                have c16b0 := eq_true c16
                have c16b1 : decide (x5_2 ≤ (x3_1.length : Int)) = true := decide_eq_true c16
                clear c16
                obtain ⟨y627, hy627⟩ : ∃ y_ : List Int, y_ = (x3_1.drop (x5_2 : Int).toNat) := ⟨_, rfl⟩
                replace H : (if y624.length + y627.length < 17592186044416 then ((some (y624 ++ y627 : List Int)).bind fun y631 => ((some (x3_1.take (x5_2 : Int).toNat : List Int)).bind fun y634 => (if y634.length < 17592186044416 then ((some (y634 ++ [x4_1] : List Int)).bind fun y637 => (if y637.length + y631.length < 17592186044416 then (spec_l19Order.l0 k2 l0 (y637 ++ y631) (wrap64 (x4_1 + 1))) else (none))) else (none)))) else (none)) = some r := by first | (rw [hy627]; with_reducible exact H) | (have H2_ := (Option.bind_some _ _).symm.trans H; rw [hy627]; with_reducible exact H2_) | (have H2_ := (Option.bind_some _ _).symm.trans H; with_reducible exact H2_) | with_reducible exact H | (rw [hy627]; exact H) | exact H
                have Ny627 := Aside0.mk hy627
                clear hy627
                by_cases c17 : y624.length + y627.length < 17592186044416
                ·rw [if_pos c17] at H
                 have LMc17 := Aside0.mk c17
                 clear c17
                 obtain ⟨y631, hy631⟩ : ∃ y_ : List Int, y_ = (y624 ++ y627) := ⟨_, rfl⟩
                 replace H : ((some (x3_1.take (x5_2 : Int).toNat : List Int)).bind fun y634 => (if y634.length < 17592186044416 then ((some (y634 ++ [x4_1] : List Int)).bind fun y637 => (if y637.length + y631.length < 17592186044416 then (spec_l19Order.l0 k2 l0 (y637 ++ y631) (wrap64 (x4_1 + 1))) else (none))) else (none))) = some r := by first | (rw [hy631]; with_reducible exact H) | (have H2_ := (Option.bind_some _ _).symm.trans H; rw [hy631]; with_reducible exact H2_) | (have H2_ := (Option.bind_some _ _).symm.trans H; with_reducible exact H2_) | with_reducible exact H | (rw [hy631]; exact H) | exact H
                 have Ny631 := Aside0.mk hy631
                 clear hy631
                 have c18b0 := eq_true (of_decide_eq_true (by first | (with_reducible assumption) | assumption) : x5_2 ≤ (x3_1.length : Int))
                 obtain ⟨y634, hy634⟩ : ∃ y_ : List Int, y_ = (x3_1.take (x5_2 : Int).toNat) := ⟨_, rfl⟩
                 replace H : (if y634.length < 17592186044416 then ((some (y634 ++ [x4_1] : List Int)).bind fun y637 => (if y637.length + y631.length < 17592186044416 then (spec_l19Order.l0 k2 l0 (y637 ++ y631) (wrap64 (x4_1 + 1))) else (none))) else (none)) = some r := by first | (rw [hy634]; with_reducible exact H) | (have H2_ := (Option.bind_some _ _).symm.trans H; rw [hy634]; with_reducible exact H2_) | (have H2_ := (Option.bind_some _ _).symm.trans H; with_reducible exact H2_) | with_reducible exact H | (rw [hy634]; exact H) | exact H
                 have Ny634 := Aside0.mk hy634
                 clear hy634
                 by_cases c19 : y634.length < 17592186044416
                 ·rw [if_pos c19] at H
                  have LMc19 := Aside0.mk c19
                  clear c19
                  obtain ⟨y637, hy637⟩ : ∃ y_ : List Int, y_ = (y634 ++ [x4_1]) := ⟨_, rfl⟩
                  replace H : (if y637.length + y631.length < 17592186044416 then (spec_l19Order.l0 k2 l0 (y637 ++ y631) (wrap64 (x4_1 + 1))) else (none)) = some r := by first | (rw [hy637]; with_reducible exact H) | (have H2_ := (Option.bind_some _ _).symm.trans H; rw [hy637]; with_reducible exact H2_) | (have H2_ := (Option.bind_some _ _).symm.trans H; with_reducible exact H2_) | with_reducible exact H | (rw [hy637]; exact H) | exact H
                  have Ny637 := Aside0.mk hy637
                  clear hy637
                  by_cases c20 : y637.length + y631.length < 17592186044416
                  ·rw [if_pos c20] at H
                   have LMc20 := Aside0.mk c20
                   clear c20
                   obtain ⟨y640, hy640⟩ : ∃ y_ : List Int, y_ = (y637 ++ y631) := ⟨_, rfl⟩
                   replace H : (spec_l19Order.l0 k2 l0 y640 (wrap64 (x4_1 + 1))) = some r := by first | (rw [hy640]; with_reducible exact H) | (have H2_ := (Option.bind_some _ _).symm.trans H; rw [hy640]; with_reducible exact H2_) | (have H2_ := (Option.bind_some _ _).symm.trans H; with_reducible exact H2_) | with_reducible exact H | (rw [hy640]; exact H) | exact H
                   have Ny640 := Aside0.mk hy640
                   clear hy640
                   have H' := Aside0.mk H
                   clear H
                   have p621 : 0 ≤ ((ji7) : Int) := of_decide_eq_true (by first | (with_reducible assumption) | assumption)
                   have q621 : (ji7) < (x3_1.length : Int) := of_decide_eq_true (by first | (with_reducible assumption) | assumption)
                   obtain ⟨ad621, e621, hx621_0⟩ := Kd.at_int (Kd.R_reads' HO_3.out).2.2 (ji7) p621 q621
                   cases e621
                   replace p621 := eq_true p621
                   replace q621 := eq_true q621
                   have p622 : 0 ≤ ((rd x3_1 (ji7)) : Int) := of_decide_eq_true (by first | (with_reducible assumption) | assumption)
                   have q622 : (rd x3_1 (ji7)) < (l0.length : Int) := of_decide_eq_true (by first | (with_reducible assumption) | assumption)
                   obtain ⟨ad622, e622, hx622_0⟩ := Kd.at_int HR0.out (rd x3_1 (ji7)) p622 q622
                   cases e622
                   try replace hx622_0 := (HB.out.cell (World.block_lt_of_cell? w _ hx622_0)).trans hx622_0
                   replace p622 := eq_true p622
                   replace q622 := eq_true q622
                   have p623 : 0 ≤ (x4_1 : Int) := of_decide_eq_true (by first | (with_reducible assumption) | assumption)
                   have q623 : x4_1 < (l0.length : Int) := of_decide_eq_true (by first | (with_reducible assumption) | assumption)
                   obtain ⟨ad623, e623, hx623_0⟩ := Kd.at_int HR0.out x4_1 p623 q623
                   obtain rfl : ad622 = ad623 := (by injection e623)
                   try replace hx623_0 := (HB.out.cell (World.block_lt_of_cell? w _ hx623_0)).trans hx623_0
                   replace p623 := eq_true p623
                   replace q623 := eq_true q623
                   go_wp2_with (first | ((with_reducible refine gate_dst (N := 35) rfl ?_); refine Kd.R_lit (Kd.int .i64) _ 3 ?hg (N := 35) ?hd (xs := ([] : List Int)) (inner := []) (ok := fun _ => True) (okp := fun _ => True) ?hr ?hp (fun _ hk => hk) trivial (Below.refl _ _) (Nat.le_refl _) (by simp) ?_; (case hd => rfl); (case hg => rfl); (case hr => first | (go_simp; done) | (go_simp; rfl)); (case hp => exact (Reps.none _ _)); intro v625 w21 ho22 hb hg_ hnew_; clear hg_ hnew_; (first | rw [← Ny624.out] at ho22 | (simp only [Int.reduceToNat] at ho22; rw [← Ny624.out] at ho22)); have HO626 := Aside0.mk (Kd.R_lower (Kd.R_new' ho22 (Kd.R_lt (Hof.Rw HO_3.out))) (below_size (Hof.Lw HB.out))); replace HO_3 := Aside0.mk (Kd.R_elder' (Hof.Rw HO_3.out) (Kd.R_base ho22) hb); replace HB := Aside0.mk (below_step (Hof.Lw HB.out) hb); clear hb ho22; have q23 : (x5_2 : Int) ≤ ((x3_1.length : Int) : Int) := of_decide_eq_true (by first | (with_reducible assumption) | assumption); obtain ⟨i023, hi023, _, hsz23, _⟩ := info_parts info3; have hroom23 : x3_1.length ≤ co5 := (Kd.R_reads' HO_3.out).2.1; have hC23 : Kd.C (Kd.int .i64) _ (some ad621) x3_1.length x3_1 := (Kd.R_reads' HO_3.out).2.2; have q023 : (0 : Int) ≤ (x5_2 : Int) := of_decide_eq_true (by first | (with_reducible assumption) | assumption); have hcut23 := cut_from (P := Try.prog) 24 3 .i64 Try.underlying24 hi023 1 hsz23 (some ad621) x3_1.length co5 x5_2 q023 q23; have hr23 := Kd.C_drop (m := (x5_2 : Int).toNat) (c := co5) hC23 (by omega) hroom23; obtain ⟨A23, hA23⟩ : ∃ A1, A1 = (if co5 = (x5_2 : Int).toNat then (some ad621) else ((some ad621) : Option Addr).map (·.add ((x5_2 : Int).toNat * 1))) := ⟨_, rfl⟩; obtain ⟨c23, hc23⟩ : ∃ c1, c1 = co5 - (x5_2 : Int).toNat := ⟨_, rfl⟩; have hy23 : y627.length = x3_1.length - (x5_2 : Int).toNat := (by rw [Ny627.out, List.length_drop] <;> omega); rw [show (x3_1).drop (x5_2 : Int).toNat = y627 from Ny627.out.symm] at hr23; replace hr23 : Kd.C (Kd.int .i64) _ A23 y627.length y627 := (by rw [hA23]; exact hr23); rw [← hy23, ← hA23, ← hc23] at hcut23; have HR630 := Aside0.mk hr23; have HC630 := Aside0.mk (show y627.length ≤ c23 from by rw [hy23, hc23]; exact Nat.sub_le_sub_right hroom23 _); clear hr23 hC23 hroom23 hi023 hsz23 hc23; have KY23 := Aside0.mk hy23; have KA23 := Aside0.mk hA23; clear hy23 hA23; have KL23 := Aside0.mk (show (x5_2 : Int).toNat ≤ x3_1.length from by omega); replace q23 := eq_true q23) | ((with_reducible refine gate_builtin (b := .append) (xs := #[.tmp 35, .tmp 38]) rfl ?_); at_builtin; refine Kd.R_append_rows (Kd.int .i64) (w0 := w) w.heap.size rfl (.tmp 35) (.tmp 38) 24 3 (.int .i64 0) 8 rfl Try.underlying24 info3 rfl (by decide) (by omega) v625 y624 y627 _ _ _ (fun k_ => some k_ ≠ (.slice (some ad621) x3_1.length co5 : Value).ownBlock) (fun _ => False) rfl rfl ?aO ?aR (fun _ _ h => h) (fun _ h => h.elim) ?aF ?aB ?aS ?aL ?_; (case aR => repeat (first | exact (by repeat (first | (with_reducible exact HR630.out) | (with_reducible refine Kd.C_alloc ?_ _) | (with_reducible refine Kd.C_drewN ?_ _) | (with_reducible refine Kd.C_drew ?_) | exact HR630.out)) | (with_reducible refine Kd.C_alloc ?_ _) | (with_reducible refine Kd.C_drewN ?_ _) | (with_reducible refine Kd.C_drew ?_))); (case aB => exact (Hof.Lw HB.out)); (case aF => exact (fun k_ hk => Kd.fresh' (Kd.R_lt (Hof.Rw HO_3.out)) k_ hk)); (case aO => exact (Hof.Rw (Kd.R_mono HO626.out (fun _ hk => hk.2)))); (case aS => exact (below_size (Hof.Lw HB.out))); (case aL => have := LMc17.out; omega); intro v632 w24 ho hb hg hat; rw [← Ny631.out] at ho; have n0_ := Aside0.mk (Kd.R_after (ok := (fun _ => True)) (Hof.Rw HO_3.out) hg hat); have n1_ := Aside0.mk hb; have n2_ := Aside0.mk ((show Kd.C (Kd.int .i64) w24 A23 y627.length y627 from by rw [Ny627.out, KA23.out]; exact Kd.C_drop (m := (x5_2 : Int).toNat) (c := co5) ((Kd.R_reads' (Kd.R_after (ok := (fun _ => True)) (Hof.Rw HO_3.out) hg hat)).2.2) KL23.out ((Kd.R_reads' (Kd.R_after (ok := (fun _ => True)) (Hof.Rw HO_3.out) hg hat)).2.1))); have n3_ := Aside0.mk ho; clear HO_3; clear HB; clear HR630; clear HO626; have HO_3 := n0_; have HB := n1_; have HR630 := n2_; have HO633 := n3_; clear n0_ n1_ n2_ n3_; clear ho hb hg hat; have q25 : (x5_2 : Int) ≤ ((x3_1.length : Int) : Int) := of_decide_eq_true (by first | (with_reducible assumption) | assumption); obtain ⟨i025, hi025, _, hsz25, _⟩ := info_parts info3; have hcut25 := cut_to (P := Try.prog) 24 3 .i64 Try.underlying24 hi025 (some ad621) x3_1.length co5 x5_2 (of_decide_eq_true (by first | (with_reducible assumption) | assumption)) q25 (Kd.R_reads' HO_3.out).2.1; have hr25 := Kd.R_take (m := (x5_2 : Int).toNat) HO_3.out (by omega); have hy25 : y634.length = (x5_2 : Int).toNat := (by rw [Ny634.out, List.length_take]; omega); rw [← Ny634.out] at hr25; rw [← hy25] at hr25 hcut25; clear hy25 hi025 hsz25 HO_3; have HO636 := Aside0.mk hr25; clear hr25; replace q25 := eq_true q25) | ((with_reducible refine gate_builtin (b := .append) (xs := #[.tmp 42, .tmp 44]) rfl ?_); at_builtin; refine Kd.R_append (Kd.int .i64) (w0 := w) w.heap.size rfl (.tmp 42) (.tmp 44) 24 3 (.int .i64 0) 8 rfl Try.underlying24 info3 rfl (by decide) (by omega) (.slice (some ad621) y634.length co5) y634 x4_1 [.int .i64 x4_1] (fun k_ => some k_ ≠ (v632 : Value).ownBlock) (fun _ => False) rfl rfl ?aP (fun _ hk => hk.elim) ?aF ?aO ?aB ?aS ?aL ?_; (case aP => exact rfl); (case aB => exact (Hof.Lw HB.out)); (case aF => exact (fun k_ hk => Kd.fresh' (Kd.R_lt (Hof.Rw HO633.out)) k_ hk)); (case aO => exact (Hof.Rw (Kd.R_mono HO636.out (fun _ hk => hk.2)))); (case aS => exact (below_size (Hof.Lw HB.out))); (case aL => have := LMc19.out; omega); intro v638 w26 ho hb hg hat; rw [← Ny637.out] at ho; have n0_ := Aside0.mk (Kd.R_after (ok := (fun _ => True)) (Hof.Rw (Kd.R_mono HO633.out (fun _ hk => ⟨trivial, (by first | exact hk | (cases Ao28 <;> exact hk) | (cases Ao42 <;> exact hk) | (cases Ao5 <;> exact hk))⟩))) hg hat); have n1_ := Aside0.mk hb; have n2_ := Aside0.mk ho; clear HO633; clear HB; clear HO636; have HO633 := n0_; have HB := n1_; have HO639 := n2_; clear n0_ n1_ n2_; clear ho hb hg hat; obtain ⟨Ao28, co28, eo28⟩ := Kd.R_slice HO633.out; subst eo28) | ((with_reducible refine gate_builtin (b := .append) (xs := #[.tmp 45, .tmp 46]) rfl ?_); at_builtin; refine Kd.R_append_rows (Kd.int .i64) (w0 := w) w.heap.size rfl (.tmp 45) (.tmp 46) 24 3 (.int .i64 0) 8 rfl Try.underlying24 info3 rfl (by decide) (by omega) v638 y637 y631 _ _ _ (fun k_ => some k_ ≠ (.slice Ao28 y631.length co28 : Value).ownBlock) (fun _ => False) rfl rfl ?aO ?aR (fun _ _ h => h) (fun _ h => h.elim) ?aF ?aB ?aS ?aL ?_; (case aR => repeat (first | exact (Kd.R_reads' HO633.out).2.2 | (with_reducible refine Kd.C_alloc ?_ _) | (with_reducible refine Kd.C_drewN ?_ _) | (with_reducible refine Kd.C_drew ?_))); (case aB => exact (Hof.Lw HB.out)); (case aF => exact (fun k_ hk => Kd.fresh' (Kd.R_lt (Hof.Rw HO633.out)) k_ hk)); (case aO => exact (Hof.Rw HO639.out)); (case aS => exact (below_size (Hof.Lw HB.out))); (case aL => have := LMc20.out; omega); intro v641 w27 ho hb hg hat; rw [← Ny640.out] at ho; have n0_ := Aside0.mk (Kd.R_after (ok := (fun _ => True)) (Hof.Rw HO633.out) hg hat); have n1_ := Aside0.mk hb; have n2_ := Aside0.mk ho; clear HO633; clear HB; clear HO639; have HO633 := n0_; have HB := n1_; have HO642 := n2_; clear n0_ n1_ n2_; clear ho hb hg hat))
                   repeat (go_quiet (first | ((with_reducible refine gate_dst (N := 35) rfl ?_); refine Kd.R_lit (Kd.int .i64) _ 3 ?hg (N := 35) ?hd (xs := ([] : List Int)) (inner := []) (ok := fun _ => True) (okp := fun _ => True) ?hr ?hp (fun _ hk => hk) trivial (Below.refl _ _) (Nat.le_refl _) (by simp) ?_; (case hd => rfl); (case hg => rfl); (case hr => first | (go_simp; done) | (go_simp; rfl)); (case hp => exact (Reps.none _ _)); intro v625 w21 ho22 hb hg_ hnew_; clear hg_ hnew_; (first | rw [← Ny624.out] at ho22 | (simp only [Int.reduceToNat] at ho22; rw [← Ny624.out] at ho22)); have HO626 := Aside0.mk (Kd.R_lower (Kd.R_new' ho22 (Kd.R_lt (Hof.Rw HO_3.out))) (below_size (Hof.Lw HB.out))); replace HO_3 := Aside0.mk (Kd.R_elder' (Hof.Rw HO_3.out) (Kd.R_base ho22) hb); replace HB := Aside0.mk (below_step (Hof.Lw HB.out) hb); clear hb ho22; have q23 : (x5_2 : Int) ≤ ((x3_1.length : Int) : Int) := of_decide_eq_true (by first | (with_reducible assumption) | assumption); obtain ⟨i023, hi023, _, hsz23, _⟩ := info_parts info3; have hroom23 : x3_1.length ≤ co5 := (Kd.R_reads' HO_3.out).2.1; have hC23 : Kd.C (Kd.int .i64) _ (some ad621) x3_1.length x3_1 := (Kd.R_reads' HO_3.out).2.2; have q023 : (0 : Int) ≤ (x5_2 : Int) := of_decide_eq_true (by first | (with_reducible assumption) | assumption); have hcut23 := cut_from (P := Try.prog) 24 3 .i64 Try.underlying24 hi023 1 hsz23 (some ad621) x3_1.length co5 x5_2 q023 q23; have hr23 := Kd.C_drop (m := (x5_2 : Int).toNat) (c := co5) hC23 (by omega) hroom23; obtain ⟨A23, hA23⟩ : ∃ A1, A1 = (if co5 = (x5_2 : Int).toNat then (some ad621) else ((some ad621) : Option Addr).map (·.add ((x5_2 : Int).toNat * 1))) := ⟨_, rfl⟩; obtain ⟨c23, hc23⟩ : ∃ c1, c1 = co5 - (x5_2 : Int).toNat := ⟨_, rfl⟩; have hy23 : y627.length = x3_1.length - (x5_2 : Int).toNat := (by rw [Ny627.out, List.length_drop] <;> omega); rw [show (x3_1).drop (x5_2 : Int).toNat = y627 from Ny627.out.symm] at hr23; replace hr23 : Kd.C (Kd.int .i64) _ A23 y627.length y627 := (by rw [hA23]; exact hr23); rw [← hy23, ← hA23, ← hc23] at hcut23; have HR630 := Aside0.mk hr23; have HC630 := Aside0.mk (show y627.length ≤ c23 from by rw [hy23, hc23]; exact Nat.sub_le_sub_right hroom23 _); clear hr23 hC23 hroom23 hi023 hsz23 hc23; have KY23 := Aside0.mk hy23; have KA23 := Aside0.mk hA23; clear hy23 hA23; have KL23 := Aside0.mk (show (x5_2 : Int).toNat ≤ x3_1.length from by omega); replace q23 := eq_true q23) | ((with_reducible refine gate_builtin (b := .append) (xs := #[.tmp 35, .tmp 38]) rfl ?_); at_builtin; refine Kd.R_append_rows (Kd.int .i64) (w0 := w) w.heap.size rfl (.tmp 35) (.tmp 38) 24 3 (.int .i64 0) 8 rfl Try.underlying24 info3 rfl (by decide) (by omega) v625 y624 y627 _ _ _ (fun k_ => some k_ ≠ (.slice (some ad621) x3_1.length co5 : Value).ownBlock) (fun _ => False) rfl rfl ?aO ?aR (fun _ _ h => h) (fun _ h => h.elim) ?aF ?aB ?aS ?aL ?_; (case aR => repeat (first | exact (by repeat (first | (with_reducible exact HR630.out) | (with_reducible refine Kd.C_alloc ?_ _) | (with_reducible refine Kd.C_drewN ?_ _) | (with_reducible refine Kd.C_drew ?_) | exact HR630.out)) | (with_reducible refine Kd.C_alloc ?_ _) | (with_reducible refine Kd.C_drewN ?_ _) | (with_reducible refine Kd.C_drew ?_))); (case aB => exact (Hof.Lw HB.out)); (case aF => exact (fun k_ hk => Kd.fresh' (Kd.R_lt (Hof.Rw HO_3.out)) k_ hk)); (case aO => exact (Hof.Rw (Kd.R_mono HO626.out (fun _ hk => hk.2)))); (case aS => exact (below_size (Hof.Lw HB.out))); (case aL => have := LMc17.out; omega); intro v632 w24 ho hb hg hat; rw [← Ny631.out] at ho; have n0_ := Aside0.mk (Kd.R_after (ok := (fun _ => True)) (Hof.Rw HO_3.out) hg hat); have n1_ := Aside0.mk hb; have n2_ := Aside0.mk ((show Kd.C (Kd.int .i64) w24 A23 y627.length y627 from by rw [Ny627.out, KA23.out]; exact Kd.C_drop (m := (x5_2 : Int).toNat) (c := co5) ((Kd.R_reads' (Kd.R_after (ok := (fun _ => True)) (Hof.Rw HO_3.out) hg hat)).2.2) KL23.out ((Kd.R_reads' (Kd.R_after (ok := (fun _ => True)) (Hof.Rw HO_3.out) hg hat)).2.1))); have n3_ := Aside0.mk ho; clear HO_3; clear HB; clear HR630; clear HO626; have HO_3 := n0_; have HB := n1_; have HR630 := n2_; have HO633 := n3_; clear n0_ n1_ n2_ n3_; clear ho hb hg hat; have q25 : (x5_2 : Int) ≤ ((x3_1.length : Int) : Int) := of_decide_eq_true (by first | (with_reducible assumption) | assumption); obtain ⟨i025, hi025, _, hsz25, _⟩ := info_parts info3; have hcut25 := cut_to (P := Try.prog) 24 3 .i64 Try.underlying24 hi025 (some ad621) x3_1.length co5 x5_2 (of_decide_eq_true (by first | (with_reducible assumption) | assumption)) q25 (Kd.R_reads' HO_3.out).2.1; have hr25 := Kd.R_take (m := (x5_2 : Int).toNat) HO_3.out (by omega); have hy25 : y634.length = (x5_2 : Int).toNat := (by rw [Ny634.out, List.length_take]; omega); rw [← Ny634.out] at hr25; rw [← hy25] at hr25 hcut25; clear hy25 hi025 hsz25 HO_3; have HO636 := Aside0.mk hr25; clear hr25; replace q25 := eq_true q25) | ((with_reducible refine gate_builtin (b := .append) (xs := #[.tmp 42, .tmp 44]) rfl ?_); at_builtin; refine Kd.R_append (Kd.int .i64) (w0 := w) w.heap.size rfl (.tmp 42) (.tmp 44) 24 3 (.int .i64 0) 8 rfl Try.underlying24 info3 rfl (by decide) (by omega) (.slice (some ad621) y634.length co5) y634 x4_1 [.int .i64 x4_1] (fun k_ => some k_ ≠ (v632 : Value).ownBlock) (fun _ => False) rfl rfl ?aP (fun _ hk => hk.elim) ?aF ?aO ?aB ?aS ?aL ?_; (case aP => exact rfl); (case aB => exact (Hof.Lw HB.out)); (case aF => exact (fun k_ hk => Kd.fresh' (Kd.R_lt (Hof.Rw HO633.out)) k_ hk)); (case aO => exact (Hof.Rw (Kd.R_mono HO636.out (fun _ hk => hk.2)))); (case aS => exact (below_size (Hof.Lw HB.out))); (case aL => have := LMc19.out; omega); intro v638 w26 ho hb hg hat; rw [← Ny637.out] at ho; have n0_ := Aside0.mk (Kd.R_after (ok := (fun _ => True)) (Hof.Rw (Kd.R_mono HO633.out (fun _ hk => ⟨trivial, (by first | exact hk | (cases Ao28 <;> exact hk) | (cases Ao42 <;> exact hk) | (cases Ao5 <;> exact hk))⟩))) hg hat); have n1_ := Aside0.mk hb; have n2_ := Aside0.mk ho; clear HO633; clear HB; clear HO636; have HO633 := n0_; have HB := n1_; have HO639 := n2_; clear n0_ n1_ n2_; clear ho hb hg hat; obtain ⟨Ao28, co28, eo28⟩ := Kd.R_slice HO633.out; subst eo28) | ((with_reducible refine gate_builtin (b := .append) (xs := #[.tmp 45, .tmp 46]) rfl ?_); at_builtin; refine Kd.R_append_rows (Kd.int .i64) (w0 := w) w.heap.size rfl (.tmp 45) (.tmp 46) 24 3 (.int .i64 0) 8 rfl Try.underlying24 info3 rfl (by decide) (by omega) v638 y637 y631 _ _ _ (fun k_ => some k_ ≠ (.slice Ao28 y631.length co28 : Value).ownBlock) (fun _ => False) rfl rfl ?aO ?aR (fun _ _ h => h) (fun _ h => h.elim) ?aF ?aB ?aS ?aL ?_; (case aR => repeat (first | exact (Kd.R_reads' HO633.out).2.2 | (with_reducible refine Kd.C_alloc ?_ _) | (with_reducible refine Kd.C_drewN ?_ _) | (with_reducible refine Kd.C_drew ?_))); (case aB => exact (Hof.Lw HB.out)); (case aF => exact (fun k_ hk => Kd.fresh' (Kd.R_lt (Hof.Rw HO633.out)) k_ hk)); (case aO => exact (Hof.Rw HO639.out)); (case aS => exact (below_size (Hof.Lw HB.out))); (case aL => have := LMc20.out; omega); intro v641 w27 ho hb hg hat; rw [← Ny640.out] at ho; have n0_ := Aside0.mk (Kd.R_after (ok := (fun _ => True)) (Hof.Rw HO633.out) hg hat); have n1_ := Aside0.mk hb; have n2_ := Aside0.mk ho; clear HO633; clear HB; clear HO639; have HO633 := n0_; have HB := n1_; have HO642 := n2_; clear n0_ n1_ n2_; clear ho hb hg hat)); try go_wp2_with (first | ((with_reducible refine gate_dst (N := 35) rfl ?_); refine Kd.R_lit (Kd.int .i64) _ 3 ?hg (N := 35) ?hd (xs := ([] : List Int)) (inner := []) (ok := fun _ => True) (okp := fun _ => True) ?hr ?hp (fun _ hk => hk) trivial (Below.refl _ _) (Nat.le_refl _) (by simp) ?_; (case hd => rfl); (case hg => rfl); (case hr => first | (go_simp; done) | (go_simp; rfl)); (case hp => exact (Reps.none _ _)); intro v625 w21 ho22 hb hg_ hnew_; clear hg_ hnew_; (first | rw [← Ny624.out] at ho22 | (simp only [Int.reduceToNat] at ho22; rw [← Ny624.out] at ho22)); have HO626 := Aside0.mk (Kd.R_lower (Kd.R_new' ho22 (Kd.R_lt (Hof.Rw HO_3.out))) (below_size (Hof.Lw HB.out))); replace HO_3 := Aside0.mk (Kd.R_elder' (Hof.Rw HO_3.out) (Kd.R_base ho22) hb); replace HB := Aside0.mk (below_step (Hof.Lw HB.out) hb); clear hb ho22; have q23 : (x5_2 : Int) ≤ ((x3_1.length : Int) : Int) := of_decide_eq_true (by first | (with_reducible assumption) | assumption); obtain ⟨i023, hi023, _, hsz23, _⟩ := info_parts info3; have hroom23 : x3_1.length ≤ co5 := (Kd.R_reads' HO_3.out).2.1; have hC23 : Kd.C (Kd.int .i64) _ (some ad621) x3_1.length x3_1 := (Kd.R_reads' HO_3.out).2.2; have q023 : (0 : Int) ≤ (x5_2 : Int) := of_decide_eq_true (by first | (with_reducible assumption) | assumption); have hcut23 := cut_from (P := Try.prog) 24 3 .i64 Try.underlying24 hi023 1 hsz23 (some ad621) x3_1.length co5 x5_2 q023 q23; have hr23 := Kd.C_drop (m := (x5_2 : Int).toNat) (c := co5) hC23 (by omega) hroom23; obtain ⟨A23, hA23⟩ : ∃ A1, A1 = (if co5 = (x5_2 : Int).toNat then (some ad621) else ((some ad621) : Option Addr).map (·.add ((x5_2 : Int).toNat * 1))) := ⟨_, rfl⟩; obtain ⟨c23, hc23⟩ : ∃ c1, c1 = co5 - (x5_2 : Int).toNat := ⟨_, rfl⟩; have hy23 : y627.length = x3_1.length - (x5_2 : Int).toNat := (by rw [Ny627.out, List.length_drop] <;> omega); rw [show (x3_1).drop (x5_2 : Int).toNat = y627 from Ny627.out.symm] at hr23; replace hr23 : Kd.C (Kd.int .i64) _ A23 y627.length y627 := (by rw [hA23]; exact hr23); rw [← hy23, ← hA23, ← hc23] at hcut23; have HR630 := Aside0.mk hr23; have HC630 := Aside0.mk (show y627.length ≤ c23 from by rw [hy23, hc23]; exact Nat.sub_le_sub_right hroom23 _); clear hr23 hC23 hroom23 hi023 hsz23 hc23; have KY23 := Aside0.mk hy23; have KA23 := Aside0.mk hA23; clear hy23 hA23; have KL23 := Aside0.mk (show (x5_2 : Int).toNat ≤ x3_1.length from by omega); replace q23 := eq_true q23) | ((with_reducible refine gate_builtin (b := .append) (xs := #[.tmp 35, .tmp 38]) rfl ?_); at_builtin; refine Kd.R_append_rows (Kd.int .i64) (w0 := w) w.heap.size rfl (.tmp 35) (.tmp 38) 24 3 (.int .i64 0) 8 rfl Try.underlying24 info3 rfl (by decide) (by omega) v625 y624 y627 _ _ _ (fun k_ => some k_ ≠ (.slice (some ad621) x3_1.length co5 : Value).ownBlock) (fun _ => False) rfl rfl ?aO ?aR (fun _ _ h => h) (fun _ h => h.elim) ?aF ?aB ?aS ?aL ?_; (case aR => repeat (first | exact (by repeat (first | (with_reducible exact HR630.out) | (with_reducible refine Kd.C_alloc ?_ _) | (with_reducible refine Kd.C_drewN ?_ _) | (with_reducible refine Kd.C_drew ?_) | exact HR630.out)) | (with_reducible refine Kd.C_alloc ?_ _) | (with_reducible refine Kd.C_drewN ?_ _) | (with_reducible refine Kd.C_drew ?_))); (case aB => exact (Hof.Lw HB.out)); (case aF => exact (fun k_ hk => Kd.fresh' (Kd.R_lt (Hof.Rw HO_3.out)) k_ hk)); (case aO => exact (Hof.Rw (Kd.R_mono HO626.out (fun _ hk => hk.2)))); (case aS => exact (below_size (Hof.Lw HB.out))); (case aL => have := LMc17.out; omega); intro v632 w24 ho hb hg hat; rw [← Ny631.out] at ho; have n0_ := Aside0.mk (Kd.R_after (ok := (fun _ => True)) (Hof.Rw HO_3.out) hg hat); have n1_ := Aside0.mk hb; have n2_ := Aside0.mk ((show Kd.C (Kd.int .i64) w24 A23 y627.length y627 from by rw [Ny627.out, KA23.out]; exact Kd.C_drop (m := (x5_2 : Int).toNat) (c := co5) ((Kd.R_reads' (Kd.R_after (ok := (fun _ => True)) (Hof.Rw HO_3.out) hg hat)).2.2) KL23.out ((Kd.R_reads' (Kd.R_after (ok := (fun _ => True)) (Hof.Rw HO_3.out) hg hat)).2.1))); have n3_ := Aside0.mk ho; clear HO_3; clear HB; clear HR630; clear HO626; have HO_3 := n0_; have HB := n1_; have HR630 := n2_; have HO633 := n3_; clear n0_ n1_ n2_ n3_; clear ho hb hg hat; have q25 : (x5_2 : Int) ≤ ((x3_1.length : Int) : Int) := of_decide_eq_true (by first | (with_reducible assumption) | assumption); obtain ⟨i025, hi025, _, hsz25, _⟩ := info_parts info3; have hcut25 := cut_to (P := Try.prog) 24 3 .i64 Try.underlying24 hi025 (some ad621) x3_1.length co5 x5_2 (of_decide_eq_true (by first | (with_reducible assumption) | assumption)) q25 (Kd.R_reads' HO_3.out).2.1; have hr25 := Kd.R_take (m := (x5_2 : Int).toNat) HO_3.out (by omega); have hy25 : y634.length = (x5_2 : Int).toNat := (by rw [Ny634.out, List.length_take]; omega); rw [← Ny634.out] at hr25; rw [← hy25] at hr25 hcut25; clear hy25 hi025 hsz25 HO_3; have HO636 := Aside0.mk hr25; clear hr25; replace q25 := eq_true q25) | ((with_reducible refine gate_builtin (b := .append) (xs := #[.tmp 42, .tmp 44]) rfl ?_); at_builtin; refine Kd.R_append (Kd.int .i64) (w0 := w) w.heap.size rfl (.tmp 42) (.tmp 44) 24 3 (.int .i64 0) 8 rfl Try.underlying24 info3 rfl (by decide) (by omega) (.slice (some ad621) y634.length co5) y634 x4_1 [.int .i64 x4_1] (fun k_ => some k_ ≠ (v632 : Value).ownBlock) (fun _ => False) rfl rfl ?aP (fun _ hk => hk.elim) ?aF ?aO ?aB ?aS ?aL ?_; (case aP => exact rfl); (case aB => exact (Hof.Lw HB.out)); (case aF => exact (fun k_ hk => Kd.fresh' (Kd.R_lt (Hof.Rw HO633.out)) k_ hk)); (case aO => exact (Hof.Rw (Kd.R_mono HO636.out (fun _ hk => hk.2)))); (case aS => exact (below_size (Hof.Lw HB.out))); (case aL => have := LMc19.out; omega); intro v638 w26 ho hb hg hat; rw [← Ny637.out] at ho; have n0_ := Aside0.mk (Kd.R_after (ok := (fun _ => True)) (Hof.Rw (Kd.R_mono HO633.out (fun _ hk => ⟨trivial, (by first | exact hk | (cases Ao28 <;> exact hk) | (cases Ao42 <;> exact hk) | (cases Ao5 <;> exact hk))⟩))) hg hat); have n1_ := Aside0.mk hb; have n2_ := Aside0.mk ho; clear HO633; clear HB; clear HO636; have HO633 := n0_; have HB := n1_; have HO639 := n2_; clear n0_ n1_ n2_; clear ho hb hg hat; obtain ⟨Ao28, co28, eo28⟩ := Kd.R_slice HO633.out; subst eo28) | ((with_reducible refine gate_builtin (b := .append) (xs := #[.tmp 45, .tmp 46]) rfl ?_); at_builtin; refine Kd.R_append_rows (Kd.int .i64) (w0 := w) w.heap.size rfl (.tmp 45) (.tmp 46) 24 3 (.int .i64 0) 8 rfl Try.underlying24 info3 rfl (by decide) (by omega) v638 y637 y631 _ _ _ (fun k_ => some k_ ≠ (.slice Ao28 y631.length co28 : Value).ownBlock) (fun _ => False) rfl rfl ?aO ?aR (fun _ _ h => h) (fun _ h => h.elim) ?aF ?aB ?aS ?aL ?_; (case aR => repeat (first | exact (Kd.R_reads' HO633.out).2.2 | (with_reducible refine Kd.C_alloc ?_ _) | (with_reducible refine Kd.C_drewN ?_ _) | (with_reducible refine Kd.C_drew ?_))); (case aB => exact (Hof.Lw HB.out)); (case aF => exact (fun k_ hk => Kd.fresh' (Kd.R_lt (Hof.Rw HO633.out)) k_ hk)); (case aO => exact (Hof.Rw HO639.out)); (case aS => exact (below_size (Hof.Lw HB.out))); (case aL => have := LMc20.out; omega); intro v641 w27 ho hb hg hat; rw [← Ny640.out] at ho; have n0_ := Aside0.mk (Kd.R_after (ok := (fun _ => True)) (Hof.Rw HO633.out) hg hat); have n1_ := Aside0.mk hb; have n2_ := Aside0.mk ho; clear HO633; clear HB; clear HO639; have HO633 := n0_; have HB := n1_; have HO642 := n2_; clear n0_ n1_ n2_; clear ho hb hg hat)))
                   go_roundg k2
                   case measure => have := HK1.out; have := HK2.out; omega
                   case rel => exact ⟨(y640), (wrap64 (x4_1 + 1)), (by first | rfl | (simp; done) | (simp [*]; done)), H', ⟨by have := HK1.out; have := HK2.out; omega⟩, ⟨Hof.Rw (Kd.R_mono HO642.out (fun _ hk => trivial))⟩, ⟨Hof.Lw HB.out⟩⟩
                  ·rw [if_neg c20] at H
                   exact absurd H (by simp)
                 ·rw [if_neg c19] at H
                  exact absurd H (by simp)
                ·rw [if_neg c17] at H
                 exact absurd H (by simp)
               ·rw [if_neg c16] at H
                exact absurd H (by simp)
              ·rw [if_neg c15] at H
               exact absurd H (by simp)
            ·rw [if_neg c13] at H
             exact absurd H (by simp)
           ·rw [if_neg c12] at H
            exact absurd H (by simp)
          ·rw [if_neg c11] at H
           exact absurd H (by simp)
         ·rw [if_neg c10] at H
          exact absurd H (by simp)
        ·rw [if_neg c9] at H
         exact absurd H (by simp)
       ·rw [if_neg c8] at H
        exact absurd H (by simp)
      ·rw [if_neg c6] at H
       have c6b0 : decide (0 < x5_2) = false := decide_eq_false c6
       clear c6
       obtain ⟨y643, hy643⟩ : ∃ y_ : List Int, y_ = (([] : List Int)) := ⟨_, rfl⟩
       replace H : (if 0 ≤ x5_2 then (if x5_2 ≤ (x3_1.length : Int) then ((some (x3_1.drop (x5_2 : Int).toNat : List Int)).bind fun y646 => (if y643.length + y646.length < 17592186044416 then ((some (y643 ++ y646 : List Int)).bind fun y650 => ((some (x3_1.take (x5_2 : Int).toNat : List Int)).bind fun y653 => (if y653.length < 17592186044416 then ((some (y653 ++ [x4_1] : List Int)).bind fun y656 => (if y656.length + y650.length < 17592186044416 then (spec_l19Order.l0 k2 l0 (y656 ++ y650) (wrap64 (x4_1 + 1))) else (none))) else (none)))) else (none))) else (none)) else (none)) = some r := by first | (rw [hy643]; with_reducible exact H) | (have H2_ := (Option.bind_some _ _).symm.trans H; rw [hy643]; with_reducible exact H2_) | (have H2_ := (Option.bind_some _ _).symm.trans H; with_reducible exact H2_) | with_reducible exact H | (rw [hy643]; exact H) | exact H
       have Ny643 := Aside0.mk hy643
       clear hy643
       by_cases c29 : 0 ≤ x5_2
       ·rw [if_pos c29] at H
        have c29b0 := eq_true c29
        have c29b1 : decide (0 ≤ x5_2) = true := decide_eq_true c29
        clear c29
        by_cases c30 : x5_2 ≤ (x3_1.length : Int)
        ·rw [if_pos c30] at H
         have c30b0 := eq_true c30
         have c30b1 : decide (x5_2 ≤ (x3_1.length : Int)) = true := decide_eq_true c30
         clear c30
         obtain ⟨y646, hy646⟩ : ∃ y_ : List Int, y_ = (x3_1.drop (x5_2 : Int).toNat) := ⟨_, rfl⟩
         replace H : (if y643.length + y646.length < 17592186044416 then ((some (y643 ++ y646 : List Int)).bind fun y650 => ((some (x3_1.take (x5_2 : Int).toNat : List Int)).bind fun y653 => (if y653.length < 17592186044416 then ((some (y653 ++ [x4_1] : List Int)).bind fun y656 => (if y656.length + y650.length < 17592186044416 then (spec_l19Order.l0 k2 l0 (y656 ++ y650) (wrap64 (x4_1 + 1))) else (none))) else (none)))) else (none)) = some r := by first | (rw [hy646]; with_reducible exact H) | (have H2_ := (Option.bind_some _ _).symm.trans H; rw [hy646]; with_reducible exact H2_) | (have H2_ := (Option.bind_some _ _).symm.trans H; with_reducible exact H2_) | with_reducible exact H | (rw [hy646]; exact H) | exact H
         have Ny646 := Aside0.mk hy646
         clear hy646
         by_cases c31 : y643.length + y646.length < 17592186044416
         ·rw [if_pos c31] at H
          have LMc31 := Aside0.mk c31
          clear c31
          obtain ⟨y650, hy650⟩ : ∃ y_ : List Int, y_ = (y643 ++ y646) := ⟨_, rfl⟩
          replace H : ((some (x3_1.take (x5_2 : Int).toNat : List Int)).bind fun y653 => (if y653.length < 17592186044416 then ((some (y653 ++ [x4_1] : List Int)).bind fun y656 => (if y656.length + y650.length < 17592186044416 then (spec_l19Order.l0 k2 l0 (y656 ++ y650) (wrap64 (x4_1 + 1))) else (none))) else (none))) = some r := by first | (rw [hy650]; with_reducible exact H) | (have H2_ := (Option.bind_some _ _).symm.trans H; rw [hy650]; with_reducible exact H2_) | (have H2_ := (Option.bind_some _ _).symm.trans H; with_reducible exact H2_) | with_reducible exact H | (rw [hy650]; exact H) | exact H
          have Ny650 := Aside0.mk hy650
          clear hy650
          have c32b0 := eq_true (of_decide_eq_true (by first | (with_reducible assumption) | assumption) : x5_2 ≤ (x3_1.length : Int))
          obtain ⟨y653, hy653⟩ : ∃ y_ : List Int, y_ = (x3_1.take (x5_2 : Int).toNat) := ⟨_, rfl⟩
          replace H : (if y653.length < 17592186044416 then ((some (y653 ++ [x4_1] : List Int)).bind fun y656 => (if y656.length + y650.length < 17592186044416 then (spec_l19Order.l0 k2 l0 (y656 ++ y650) (wrap64 (x4_1 + 1))) else (none))) else (none)) = some r := by first | (rw [hy653]; with_reducible exact H) | (have H2_ := (Option.bind_some _ _).symm.trans H; rw [hy653]; with_reducible exact H2_) | (have H2_ := (Option.bind_some _ _).symm.trans H; with_reducible exact H2_) | with_reducible exact H | (rw [hy653]; exact H) | exact H
          have Ny653 := Aside0.mk hy653
          clear hy653
          by_cases c33 : y653.length < 17592186044416
          ·rw [if_pos c33] at H
           have LMc33 := Aside0.mk c33
           clear c33
           obtain ⟨y656, hy656⟩ : ∃ y_ : List Int, y_ = (y653 ++ [x4_1]) := ⟨_, rfl⟩
           replace H : (if y656.length + y650.length < 17592186044416 then (spec_l19Order.l0 k2 l0 (y656 ++ y650) (wrap64 (x4_1 + 1))) else (none)) = some r := by first | (rw [hy656]; with_reducible exact H) | (have H2_ := (Option.bind_some _ _).symm.trans H; rw [hy656]; with_reducible exact H2_) | (have H2_ := (Option.bind_some _ _).symm.trans H; with_reducible exact H2_) | with_reducible exact H | (rw [hy656]; exact H) | exact H
           have Ny656 := Aside0.mk hy656
           clear hy656
           by_cases c34 : y656.length + y650.length < 17592186044416
           ·rw [if_pos c34] at H
            have LMc34 := Aside0.mk c34
            clear c34
            obtain ⟨y659, hy659⟩ : ∃ y_ : List Int, y_ = (y656 ++ y650) := ⟨_, rfl⟩
            replace H : (spec_l19Order.l0 k2 l0 y659 (wrap64 (x4_1 + 1))) = some r := by first | (rw [hy659]; with_reducible exact H) | (have H2_ := (Option.bind_some _ _).symm.trans H; rw [hy659]; with_reducible exact H2_) | (have H2_ := (Option.bind_some _ _).symm.trans H; with_reducible exact H2_) | with_reducible exact H | (rw [hy659]; exact H) | exact H
            have Ny659 := Aside0.mk hy659
            clear hy659
            have H' := Aside0.mk H
            clear H
            go_wp2_with (first | ((with_reducible refine gate_dst (N := 35) rfl ?_); refine Kd.R_lit (Kd.int .i64) _ 3 ?hg (N := 35) ?hd (xs := ([] : List Int)) (inner := []) (ok := fun _ => True) (okp := fun _ => True) ?hr ?hp (fun _ hk => hk) trivial (Below.refl _ _) (Nat.le_refl _) (by simp) ?_; (case hd => rfl); (case hg => rfl); (case hr => first | (go_simp; done) | (go_simp; rfl)); (case hp => exact (Reps.none _ _)); intro v644 w35 ho36 hb hg_ hnew_; clear hg_ hnew_; (first | rw [← Ny643.out] at ho36 | (simp only [Int.reduceToNat] at ho36; rw [← Ny643.out] at ho36)); have HO645 := Aside0.mk (Kd.R_lower (Kd.R_new' ho36 (Kd.R_lt (Hof.Rw HO_3.out))) (below_size (Hof.Lw HB.out))); replace HO_3 := Aside0.mk (Kd.R_elder' (Hof.Rw HO_3.out) (Kd.R_base ho36) hb); replace HB := Aside0.mk (below_step (Hof.Lw HB.out) hb); clear hb ho36; have q37 : (x5_2 : Int) ≤ ((x3_1.length : Int) : Int) := of_decide_eq_true (by first | (with_reducible assumption) | assumption); obtain ⟨i037, hi037, _, hsz37, _⟩ := info_parts info3; have hroom37 : x3_1.length ≤ co5 := (Kd.R_reads' HO_3.out).2.1; have hC37 : Kd.C (Kd.int .i64) _ Ao5 x3_1.length x3_1 := (Kd.R_reads' HO_3.out).2.2; have q037 : (0 : Int) ≤ (x5_2 : Int) := of_decide_eq_true (by first | (with_reducible assumption) | assumption); have hcut37 := cut_from (P := Try.prog) 24 3 .i64 Try.underlying24 hi037 1 hsz37 Ao5 x3_1.length co5 x5_2 q037 q37; have hr37 := Kd.C_drop (m := (x5_2 : Int).toNat) (c := co5) hC37 (by omega) hroom37; obtain ⟨A37, hA37⟩ : ∃ A1, A1 = (if co5 = (x5_2 : Int).toNat then Ao5 else (Ao5 : Option Addr).map (·.add ((x5_2 : Int).toNat * 1))) := ⟨_, rfl⟩; obtain ⟨c37, hc37⟩ : ∃ c1, c1 = co5 - (x5_2 : Int).toNat := ⟨_, rfl⟩; have hy37 : y646.length = x3_1.length - (x5_2 : Int).toNat := (by rw [Ny646.out, List.length_drop] <;> omega); rw [show (x3_1).drop (x5_2 : Int).toNat = y646 from Ny646.out.symm] at hr37; replace hr37 : Kd.C (Kd.int .i64) _ A37 y646.length y646 := (by rw [hA37]; exact hr37); rw [← hy37, ← hA37, ← hc37] at hcut37; have HR649 := Aside0.mk hr37; have HC649 := Aside0.mk (show y646.length ≤ c37 from by rw [hy37, hc37]; exact Nat.sub_le_sub_right hroom37 _); clear hr37 hC37 hroom37 hi037 hsz37 hc37; have KY37 := Aside0.mk hy37; have KA37 := Aside0.mk hA37; clear hy37 hA37; have KL37 := Aside0.mk (show (x5_2 : Int).toNat ≤ x3_1.length from by omega); replace q37 := eq_true q37) | ((with_reducible refine gate_builtin (b := .append) (xs := #[.tmp 35, .tmp 38]) rfl ?_); at_builtin; refine Kd.R_append_rows (Kd.int .i64) (w0 := w) w.heap.size rfl (.tmp 35) (.tmp 38) 24 3 (.int .i64 0) 8 rfl Try.underlying24 info3 rfl (by decide) (by omega) v644 y643 y646 _ _ _ (fun k_ => some k_ ≠ (.slice Ao5 x3_1.length co5 : Value).ownBlock) (fun _ => False) rfl rfl ?aO ?aR (fun _ _ h => h) (fun _ h => h.elim) ?aF ?aB ?aS ?aL ?_; (case aR => repeat (first | exact (by repeat (first | (with_reducible exact HR649.out) | (with_reducible refine Kd.C_alloc ?_ _) | (with_reducible refine Kd.C_drewN ?_ _) | (with_reducible refine Kd.C_drew ?_) | exact HR649.out)) | (with_reducible refine Kd.C_alloc ?_ _) | (with_reducible refine Kd.C_drewN ?_ _) | (with_reducible refine Kd.C_drew ?_))); (case aB => exact (Hof.Lw HB.out)); (case aF => exact (fun k_ hk => Kd.fresh' (Kd.R_lt (Hof.Rw HO_3.out)) k_ hk)); (case aO => exact (Hof.Rw (Kd.R_mono HO645.out (fun _ hk => hk.2)))); (case aS => exact (below_size (Hof.Lw HB.out))); (case aL => have := LMc31.out; omega); intro v651 w38 ho hb hg hat; rw [← Ny650.out] at ho; have n0_ := Aside0.mk (Kd.R_after (ok := (fun _ => True)) (Hof.Rw HO_3.out) hg hat); have n1_ := Aside0.mk hb; have n2_ := Aside0.mk ((show Kd.C (Kd.int .i64) w38 A37 y646.length y646 from by rw [Ny646.out, KA37.out]; exact Kd.C_drop (m := (x5_2 : Int).toNat) (c := co5) ((Kd.R_reads' (Kd.R_after (ok := (fun _ => True)) (Hof.Rw HO_3.out) hg hat)).2.2) KL37.out ((Kd.R_reads' (Kd.R_after (ok := (fun _ => True)) (Hof.Rw HO_3.out) hg hat)).2.1))); have n3_ := Aside0.mk ho; clear HO_3; clear HB; clear HR649; clear HO645; have HO_3 := n0_; have HB := n1_; have HR649 := n2_; have HO652 := n3_; clear n0_ n1_ n2_ n3_; clear ho hb hg hat; have q39 : (x5_2 : Int) ≤ ((x3_1.length : Int) : Int) := of_decide_eq_true (by first | (with_reducible assumption) | assumption); obtain ⟨i039, hi039, _, hsz39, _⟩ := info_parts info3; have hcut39 := cut_to (P := Try.prog) 24 3 .i64 Try.underlying24 hi039 Ao5 x3_1.length co5 x5_2 (of_decide_eq_true (by first | (with_reducible assumption) | assumption)) q39 (Kd.R_reads' HO_3.out).2.1; have hr39 := Kd.R_take (m := (x5_2 : Int).toNat) HO_3.out (by omega); have hy39 : y653.length = (x5_2 : Int).toNat := (by rw [Ny653.out, List.length_take]; omega); rw [← Ny653.out] at hr39; rw [← hy39] at hr39 hcut39; clear hy39 hi039 hsz39 HO_3; have HO655 := Aside0.mk hr39; clear hr39; replace q39 := eq_true q39) | ((with_reducible refine gate_builtin (b := .append) (xs := #[.tmp 42, .tmp 44]) rfl ?_); at_builtin; refine Kd.R_append (Kd.int .i64) (w0 := w) w.heap.size rfl (.tmp 42) (.tmp 44) 24 3 (.int .i64 0) 8 rfl Try.underlying24 info3 rfl (by decide) (by omega) (.slice Ao5 y653.length co5) y653 x4_1 [.int .i64 x4_1] (fun k_ => some k_ ≠ (v651 : Value).ownBlock) (fun _ => False) rfl rfl ?aP (fun _ hk => hk.elim) ?aF ?aO ?aB ?aS ?aL ?_; (case aP => exact rfl); (case aB => exact (Hof.Lw HB.out)); (case aF => exact (fun k_ hk => Kd.fresh' (Kd.R_lt (Hof.Rw HO652.out)) k_ hk)); (case aO => exact (Hof.Rw (Kd.R_mono HO655.out (fun _ hk => hk.2)))); (case aS => exact (below_size (Hof.Lw HB.out))); (case aL => have := LMc33.out; omega); intro v657 w40 ho hb hg hat; rw [← Ny656.out] at ho; have n0_ := Aside0.mk (Kd.R_after (ok := (fun _ => True)) (Hof.Rw (Kd.R_mono HO652.out (fun _ hk => ⟨trivial, (by first | exact hk | (cases Ao28 <;> exact hk) | (cases Ao42 <;> exact hk) | (cases Ao5 <;> exact hk))⟩))) hg hat); have n1_ := Aside0.mk hb; have n2_ := Aside0.mk ho; clear HO652; clear HB; clear HO655; have HO652 := n0_; have HB := n1_; have HO658 := n2_; clear n0_ n1_ n2_; clear ho hb hg hat; obtain ⟨Ao42, co42, eo42⟩ := Kd.R_slice HO652.out; subst eo42) | ((with_reducible refine gate_builtin (b := .append) (xs := #[.tmp 45, .tmp 46]) rfl ?_); at_builtin; refine Kd.R_append_rows (Kd.int .i64) (w0 := w) w.heap.size rfl (.tmp 45) (.tmp 46) 24 3 (.int .i64 0) 8 rfl Try.underlying24 info3 rfl (by decide) (by omega) v657 y656 y650 _ _ _ (fun k_ => some k_ ≠ (.slice Ao42 y650.length co42 : Value).ownBlock) (fun _ => False) rfl rfl ?aO ?aR (fun _ _ h => h) (fun _ h => h.elim) ?aF ?aB ?aS ?aL ?_; (case aR => repeat (first | exact (Kd.R_reads' HO652.out).2.2 | (with_reducible refine Kd.C_alloc ?_ _) | (with_reducible refine Kd.C_drewN ?_ _) | (with_reducible refine Kd.C_drew ?_))); (case aB => exact (Hof.Lw HB.out)); (case aF => exact (fun k_ hk => Kd.fresh' (Kd.R_lt (Hof.Rw HO652.out)) k_ hk)); (case aO => exact (Hof.Rw HO658.out)); (case aS => exact (below_size (Hof.Lw HB.out))); (case aL => have := LMc34.out; omega); intro v660 w41 ho hb hg hat; rw [← Ny659.out] at ho; have n0_ := Aside0.mk (Kd.R_after (ok := (fun _ => True)) (Hof.Rw HO652.out) hg hat); have n1_ := Aside0.mk hb; have n2_ := Aside0.mk ho; clear HO652; clear HB; clear HO658; have HO652 := n0_; have HB := n1_; have HO661 := n2_; clear n0_ n1_ n2_; clear ho hb hg hat))
            repeat (go_quiet (first | ((with_reducible refine gate_dst (N := 35) rfl ?_); refine Kd.R_lit (Kd.int .i64) _ 3 ?hg (N := 35) ?hd (xs := ([] : List Int)) (inner := []) (ok := fun _ => True) (okp := fun _ => True) ?hr ?hp (fun _ hk => hk) trivial (Below.refl _ _) (Nat.le_refl _) (by simp) ?_; (case hd => rfl); (case hg => rfl); (case hr => first | (go_simp; done) | (go_simp; rfl)); (case hp => exact (Reps.none _ _)); intro v644 w35 ho36 hb hg_ hnew_; clear hg_ hnew_; (first | rw [← Ny643.out] at ho36 | (simp only [Int.reduceToNat] at ho36; rw [← Ny643.out] at ho36)); have HO645 := Aside0.mk (Kd.R_lower (Kd.R_new' ho36 (Kd.R_lt (Hof.Rw HO_3.out))) (below_size (Hof.Lw HB.out))); replace HO_3 := Aside0.mk (Kd.R_elder' (Hof.Rw HO_3.out) (Kd.R_base ho36) hb); replace HB := Aside0.mk (below_step (Hof.Lw HB.out) hb); clear hb ho36; have q37 : (x5_2 : Int) ≤ ((x3_1.length : Int) : Int) := of_decide_eq_true (by first | (with_reducible assumption) | assumption); obtain ⟨i037, hi037, _, hsz37, _⟩ := info_parts info3; have hroom37 : x3_1.length ≤ co5 := (Kd.R_reads' HO_3.out).2.1; have hC37 : Kd.C (Kd.int .i64) _ Ao5 x3_1.length x3_1 := (Kd.R_reads' HO_3.out).2.2; have q037 : (0 : Int) ≤ (x5_2 : Int) := of_decide_eq_true (by first | (with_reducible assumption) | assumption); have hcut37 := cut_from (P := Try.prog) 24 3 .i64 Try.underlying24 hi037 1 hsz37 Ao5 x3_1.length co5 x5_2 q037 q37; have hr37 := Kd.C_drop (m := (x5_2 : Int).toNat) (c := co5) hC37 (by omega) hroom37; obtain ⟨A37, hA37⟩ : ∃ A1, A1 = (if co5 = (x5_2 : Int).toNat then Ao5 else (Ao5 : Option Addr).map (·.add ((x5_2 : Int).toNat * 1))) := ⟨_, rfl⟩; obtain ⟨c37, hc37⟩ : ∃ c1, c1 = co5 - (x5_2 : Int).toNat := ⟨_, rfl⟩; have hy37 : y646.length = x3_1.length - (x5_2 : Int).toNat := (by rw [Ny646.out, List.length_drop] <;> omega); rw [show (x3_1).drop (x5_2 : Int).toNat = y646 from Ny646.out.symm] at hr37; replace hr37 : Kd.C (Kd.int .i64) _ A37 y646.length y646 := (by rw [hA37]; exact hr37); rw [← hy37, ← hA37, ← hc37] at hcut37; have HR649 := Aside0.mk hr37; have HC649 := Aside0.mk (show y646.length ≤ c37 from by rw [hy37, hc37]; exact Nat.sub_le_sub_right hroom37 _); clear hr37 hC37 hroom37 hi037 hsz37 hc37; have KY37 := Aside0.mk hy37; have KA37 := Aside0.mk hA37; clear hy37 hA37; have KL37 := Aside0.mk (show (x5_2 : Int).toNat ≤ x3_1.length from by omega); replace q37 := eq_true q37) | ((with_reducible refine gate_builtin (b := .append) (xs := #[.tmp 35, .tmp 38]) rfl ?_); at_builtin; refine Kd.R_append_rows (Kd.int .i64) (w0 := w) w.heap.size rfl (.tmp 35) (.tmp 38) 24 3 (.int .i64 0) 8 rfl Try.underlying24 info3 rfl (by decide) (by omega) v644 y643 y646 _ _ _ (fun k_ => some k_ ≠ (.slice Ao5 x3_1.length co5 : Value).ownBlock) (fun _ => False) rfl rfl ?aO ?aR (fun _ _ h => h) (fun _ h => h.elim) ?aF ?aB ?aS ?aL ?_; (case aR => repeat (first | exact (by repeat (first | (with_reducible exact HR649.out) | (with_reducible refine Kd.C_alloc ?_ _) | (with_reducible refine Kd.C_drewN ?_ _) | (with_reducible refine Kd.C_drew ?_) | exact HR649.out)) | (with_reducible refine Kd.C_alloc ?_ _) | (with_reducible refine Kd.C_drewN ?_ _) | (with_reducible refine Kd.C_drew ?_))); (case aB => exact (Hof.Lw HB.out)); (case aF => exact (fun k_ hk => Kd.fresh' (Kd.R_lt (Hof.Rw HO_3.out)) k_ hk)); (case aO => exact (Hof.Rw (Kd.R_mono HO645.out (fun _ hk => hk.2)))); (case aS => exact (below_size (Hof.Lw HB.out))); (case aL => have := LMc31.out; omega); intro v651 w38 ho hb hg hat; rw [← Ny650.out] at ho; have n0_ := Aside0.mk (Kd.R_after (ok := (fun _ => True)) (Hof.Rw HO_3.out) hg hat); have n1_ := Aside0.mk hb; have n2_ := Aside0.mk ((show Kd.C (Kd.int .i64) w38 A37 y646.length y646 from by rw [Ny646.out, KA37.out]; exact Kd.C_drop (m := (x5_2 : Int).toNat) (c := co5) ((Kd.R_reads' (Kd.R_after (ok := (fun _ => True)) (Hof.Rw HO_3.out) hg hat)).2.2) KL37.out ((Kd.R_reads' (Kd.R_after (ok := (fun _ => True)) (Hof.Rw HO_3.out) hg hat)).2.1))); have n3_ := Aside0.mk ho; clear HO_3; clear HB; clear HR649; clear HO645; have HO_3 := n0_; have HB := n1_; have HR649 := n2_; have HO652 := n3_; clear n0_ n1_ n2_ n3_; clear ho hb hg hat; have q39 : (x5_2 : Int) ≤ ((x3_1.length : Int) : Int) := of_decide_eq_true (by first | (with_reducible assumption) | assumption); obtain ⟨i039, hi039, _, hsz39, _⟩ := info_parts info3; have hcut39 := cut_to (P := Try.prog) 24 3 .i64 Try.underlying24 hi039 Ao5 x3_1.length co5 x5_2 (of_decide_eq_true (by first | (with_reducible assumption) | assumption)) q39 (Kd.R_reads' HO_3.out).2.1; have hr39 := Kd.R_take (m := (x5_2 : Int).toNat) HO_3.out (by omega); have hy39 : y653.length = (x5_2 : Int).toNat := (by rw [Ny653.out, List.length_take]; omega); rw [← Ny653.out] at hr39; rw [← hy39] at hr39 hcut39; clear hy39 hi039 hsz39 HO_3; have HO655 := Aside0.mk hr39; clear hr39; replace q39 := eq_true q39) | ((with_reducible refine gate_builtin (b := .append) (xs := #[.tmp 42, .tmp 44]) rfl ?_); at_builtin; refine Kd.R_append (Kd.int .i64) (w0 := w) w.heap.size rfl (.tmp 42) (.tmp 44) 24 3 (.int .i64 0) 8 rfl Try.underlying24 info3 rfl (by decide) (by omega) (.slice Ao5 y653.length co5) y653 x4_1 [.int .i64 x4_1] (fun k_ => some k_ ≠ (v651 : Value).ownBlock) (fun _ => False) rfl rfl ?aP (fun _ hk => hk.elim) ?aF ?aO ?aB ?aS ?aL ?_; (case aP => exact rfl); (case aB => exact (Hof.Lw HB.out)); (case aF => exact (fun k_ hk => Kd.fresh' (Kd.R_lt (Hof.Rw HO652.out)) k_ hk)); (case aO => exact (Hof.Rw (Kd.R_mono HO655.out (fun _ hk => hk.2)))); (case aS => exact (below_size (Hof.Lw HB.out))); (case aL => have := LMc33.out; omega); intro v657 w40 ho hb hg hat; rw [← Ny656.out] at ho; have n0_ := Aside0.mk (Kd.R_after (ok := (fun _ => True)) (Hof.Rw (Kd.R_mono HO652.out (fun _ hk => ⟨trivial, (by first | exact hk | (cases Ao28 <;> exact hk) | (cases Ao42 <;> exact hk) | (cases Ao5 <;> exact hk))⟩))) hg hat); have n1_ := Aside0.mk hb; have n2_ := Aside0.mk ho; clear HO652; clear HB; clear HO655; have HO652 := n0_; have HB := n1_; have HO658 := n2_; clear n0_ n1_ n2_; clear ho hb hg hat; obtain ⟨Ao42, co42, eo42⟩ := Kd.R_slice HO652.out; subst eo42) | ((with_reducible refine gate_builtin (b := .append) (xs := #[.tmp 45, .tmp 46]) rfl ?_); at_builtin; refine Kd.R_append_rows (Kd.int .i64) (w0 := w) w.heap.size rfl (.tmp 45) (.tmp 46) 24 3 (.int .i64 0) 8 rfl Try.underlying24 info3 rfl (by decide) (by omega) v657 y656 y650 _ _ _ (fun k_ => some k_ ≠ (.slice Ao42 y650.length co42 : Value).ownBlock) (fun _ => False) rfl rfl ?aO ?aR (fun _ _ h => h) (fun _ h => h.elim) ?aF ?aB ?aS ?aL ?_; (case aR => repeat (first | exact (Kd.R_reads' HO652.out).2.2 | (with_reducible refine Kd.C_alloc ?_ _) | (with_reducible refine Kd.C_drewN ?_ _) | (with_reducible refine Kd.C_drew ?_))); (case aB => exact (Hof.Lw HB.out)); (case aF => exact (fun k_ hk => Kd.fresh' (Kd.R_lt (Hof.Rw HO652.out)) k_ hk)); (case aO => exact (Hof.Rw HO658.out)); (case aS => exact (below_size (Hof.Lw HB.out))); (case aL => have := LMc34.out; omega); intro v660 w41 ho hb hg hat; rw [← Ny659.out] at ho; have n0_ := Aside0.mk (Kd.R_after (ok := (fun _ => True)) (Hof.Rw HO652.out) hg hat); have n1_ := Aside0.mk hb; have n2_ := Aside0.mk ho; clear HO652; clear HB; clear HO658; have HO652 := n0_; have HB := n1_; have HO661 := n2_; clear n0_ n1_ n2_; clear ho hb hg hat)); try go_wp2_with (first | ((with_reducible refine gate_dst (N := 35) rfl ?_); refine Kd.R_lit (Kd.int .i64) _ 3 ?hg (N := 35) ?hd (xs := ([] : List Int)) (inner := []) (ok := fun _ => True) (okp := fun _ => True) ?hr ?hp (fun _ hk => hk) trivial (Below.refl _ _) (Nat.le_refl _) (by simp) ?_; (case hd => rfl); (case hg => rfl); (case hr => first | (go_simp; done) | (go_simp; rfl)); (case hp => exact (Reps.none _ _)); intro v644 w35 ho36 hb hg_ hnew_; clear hg_ hnew_; (first | rw [← Ny643.out] at ho36 | (simp only [Int.reduceToNat] at ho36; rw [← Ny643.out] at ho36)); have HO645 := Aside0.mk (Kd.R_lower (Kd.R_new' ho36 (Kd.R_lt (Hof.Rw HO_3.out))) (below_size (Hof.Lw HB.out))); replace HO_3 := Aside0.mk (Kd.R_elder' (Hof.Rw HO_3.out) (Kd.R_base ho36) hb); replace HB := Aside0.mk (below_step (Hof.Lw HB.out) hb); clear hb ho36; have q37 : (x5_2 : Int) ≤ ((x3_1.length : Int) : Int) := of_decide_eq_true (by first | (with_reducible assumption) | assumption); obtain ⟨i037, hi037, _, hsz37, _⟩ := info_parts info3; have hroom37 : x3_1.length ≤ co5 := (Kd.R_reads' HO_3.out).2.1; have hC37 : Kd.C (Kd.int .i64) _ Ao5 x3_1.length x3_1 := (Kd.R_reads' HO_3.out).2.2; have q037 : (0 : Int) ≤ (x5_2 : Int) := of_decide_eq_true (by first | (with_reducible assumption) | assumption); have hcut37 := cut_from (P := Try.prog) 24 3 .i64 Try.underlying24 hi037 1 hsz37 Ao5 x3_1.length co5 x5_2 q037 q37; have hr37 := Kd.C_drop (m := (x5_2 : Int).toNat) (c := co5) hC37 (by omega) hroom37; obtain ⟨A37, hA37⟩ : ∃ A1, A1 = (if co5 = (x5_2 : Int).toNat then Ao5 else (Ao5 : Option Addr).map (·.add ((x5_2 : Int).toNat * 1))) := ⟨_, rfl⟩; obtain ⟨c37, hc37⟩ : ∃ c1, c1 = co5 - (x5_2 : Int).toNat := ⟨_, rfl⟩; have hy37 : y646.length = x3_1.length - (x5_2 : Int).toNat := (by rw [Ny646.out, List.length_drop] <;> omega); rw [show (x3_1).drop (x5_2 : Int).toNat = y646 from Ny646.out.symm] at hr37; replace hr37 : Kd.C (Kd.int .i64) _ A37 y646.length y646 := (by rw [hA37]; exact hr37); rw [← hy37, ← hA37, ← hc37] at hcut37; have HR649 := Aside0.mk hr37; have HC649 := Aside0.mk (show y646.length ≤ c37 from by rw [hy37, hc37]; exact Nat.sub_le_sub_right hroom37 _); clear hr37 hC37 hroom37 hi037 hsz37 hc37; have KY37 := Aside0.mk hy37; have KA37 := Aside0.mk hA37; clear hy37 hA37; have KL37 := Aside0.mk (show (x5_2 : Int).toNat ≤ x3_1.length from by omega); replace q37 := eq_true q37) | ((with_reducible refine gate_builtin (b := .append) (xs := #[.tmp 35, .tmp 38]) rfl ?_); at_builtin; refine Kd.R_append_rows (Kd.int .i64) (w0 := w) w.heap.size rfl (.tmp 35) (.tmp 38) 24 3 (.int .i64 0) 8 rfl Try.underlying24 info3 rfl (by decide) (by omega) v644 y643 y646 _ _ _ (fun k_ => some k_ ≠ (.slice Ao5 x3_1.length co5 : Value).ownBlock) (fun _ => False) rfl rfl ?aO ?aR (fun _ _ h => h) (fun _ h => h.elim) ?aF ?aB ?aS ?aL ?_; (case aR => repeat (first | exact (by repeat (first | (with_reducible exact HR649.out) | (with_reducible refine Kd.C_alloc ?_ _) | (with_reducible refine Kd.C_drewN ?_ _) | (with_reducible refine Kd.C_drew ?_) | exact HR649.out)) | (with_reducible refine Kd.C_alloc ?_ _) | (with_reducible refine Kd.C_drewN ?_ _) | (with_reducible refine Kd.C_drew ?_))); (case aB => exact (Hof.Lw HB.out)); (case aF => exact (fun k_ hk => Kd.fresh' (Kd.R_lt (Hof.Rw HO_3.out)) k_ hk)); (case aO => exact (Hof.Rw (Kd.R_mono HO645.out (fun _ hk => hk.2)))); (case aS => exact (below_size (Hof.Lw HB.out))); (case aL => have := LMc31.out; omega); intro v651 w38 ho hb hg hat; rw [← Ny650.out] at ho; have n0_ := Aside0.mk (Kd.R_after (ok := (fun _ => True)) (Hof.Rw HO_3.out) hg hat); have n1_ := Aside0.mk hb; have n2_ := Aside0.mk ((show Kd.C (Kd.int .i64) w38 A37 y646.length y646 from by rw [Ny646.out, KA37.out]; exact Kd.C_drop (m := (x5_2 : Int).toNat) (c := co5) ((Kd.R_reads' (Kd.R_after (ok := (fun _ => True)) (Hof.Rw HO_3.out) hg hat)).2.2) KL37.out ((Kd.R_reads' (Kd.R_after (ok := (fun _ => True)) (Hof.Rw HO_3.out) hg hat)).2.1))); have n3_ := Aside0.mk ho; clear HO_3; clear HB; clear HR649; clear HO645; have HO_3 := n0_; have HB := n1_; have HR649 := n2_; have HO652 := n3_; clear n0_ n1_ n2_ n3_; clear ho hb hg hat; have q39 : (x5_2 : Int) ≤ ((x3_1.length : Int) : Int) := of_decide_eq_true (by first | (with_reducible assumption) | assumption); obtain ⟨i039, hi039, _, hsz39, _⟩ := info_parts info3; have hcut39 := cut_to (P := Try.prog) 24 3 .i64 Try.underlying24 hi039 Ao5 x3_1.length co5 x5_2 (of_decide_eq_true (by first | (with_reducible assumption) | assumption)) q39 (Kd.R_reads' HO_3.out).2.1; have hr39 := Kd.R_take (m := (x5_2 : Int).toNat) HO_3.out (by omega); have hy39 : y653.length = (x5_2 : Int).toNat := (by rw [Ny653.out, List.length_take]; omega); rw [← Ny653.out] at hr39; rw [← hy39] at hr39 hcut39; clear hy39 hi039 hsz39 HO_3; have HO655 := Aside0.mk hr39; clear hr39; replace q39 := eq_true q39) | ((with_reducible refine gate_builtin (b := .append) (xs := #[.tmp 42, .tmp 44]) rfl ?_); at_builtin; refine Kd.R_append (Kd.int .i64) (w0 := w) w.heap.size rfl (.tmp 42) (.tmp 44) 24 3 (.int .i64 0) 8 rfl Try.underlying24 info3 rfl (by decide) (by omega) (.slice Ao5 y653.length co5) y653 x4_1 [.int .i64 x4_1] (fun k_ => some k_ ≠ (v651 : Value).ownBlock) (fun _ => False) rfl rfl ?aP (fun _ hk => hk.elim) ?aF ?aO ?aB ?aS ?aL ?_; (case aP => exact rfl); (case aB => exact (Hof.Lw HB.out)); (case aF => exact (fun k_ hk => Kd.fresh' (Kd.R_lt (Hof.Rw HO652.out)) k_ hk)); (case aO => exact (Hof.Rw (Kd.R_mono HO655.out (fun _ hk => hk.2)))); (case aS => exact (below_size (Hof.Lw HB.out))); (case aL => have := LMc33.out; omega); intro v657 w40 ho hb hg hat; rw [← Ny656.out] at ho; have n0_ := Aside0.mk (Kd.R_after (ok := (fun _ => True)) (Hof.Rw (Kd.R_mono HO652.out (fun _ hk => ⟨trivial, (by first | exact hk | (cases Ao28 <;> exact hk) | (cases Ao42 <;> exact hk) | (cases Ao5 <;> exact hk))⟩))) hg hat); have n1_ := Aside0.mk hb; have n2_ := Aside0.mk ho; clear HO652; clear HB; clear HO655; have HO652 := n0_; have HB := n1_; have HO658 := n2_; clear n0_ n1_ n2_; clear ho hb hg hat; obtain ⟨Ao42, co42, eo42⟩ := Kd.R_slice HO652.out; subst eo42) | ((with_reducible refine gate_builtin (b := .append) (xs := #[.tmp 45, .tmp 46]) rfl ?_); at_builtin; refine Kd.R_append_rows (Kd.int .i64) (w0 := w) w.heap.size rfl (.tmp 45) (.tmp 46) 24 3 (.int .i64 0) 8 rfl Try.underlying24 info3 rfl (by decide) (by omega) v657 y656 y650 _ _ _ (fun k_ => some k_ ≠ (.slice Ao42 y650.length co42 : Value).ownBlock) (fun _ => False) rfl rfl ?aO ?aR (fun _ _ h => h) (fun _ h => h.elim) ?aF ?aB ?aS ?aL ?_; (case aR => repeat (first | exact (Kd.R_reads' HO652.out).2.2 | (with_reducible refine Kd.C_alloc ?_ _) | (with_reducible refine Kd.C_drewN ?_ _) | (with_reducible refine Kd.C_drew ?_))); (case aB => exact (Hof.Lw HB.out)); (case aF => exact (fun k_ hk => Kd.fresh' (Kd.R_lt (Hof.Rw HO652.out)) k_ hk)); (case aO => exact (Hof.Rw HO658.out)); (case aS => exact (below_size (Hof.Lw HB.out))); (case aL => have := LMc34.out; omega); intro v660 w41 ho hb hg hat; rw [← Ny659.out] at ho; have n0_ := Aside0.mk (Kd.R_after (ok := (fun _ => True)) (Hof.Rw HO652.out) hg hat); have n1_ := Aside0.mk hb; have n2_ := Aside0.mk ho; clear HO652; clear HB; clear HO658; have HO652 := n0_; have HB := n1_; have HO661 := n2_; clear n0_ n1_ n2_; clear ho hb hg hat)))
            go_roundg k2
            case measure => have := HK1.out; have := HK2.out; omega
            case rel => exact ⟨(y659), (wrap64 (x4_1 + 1)), (by first | rfl | (simp; done) | (simp [*]; done)), H', ⟨by have := HK1.out; have := HK2.out; omega⟩, ⟨Hof.Rw (Kd.R_mono HO661.out (fun _ hk => trivial))⟩, ⟨Hof.Lw HB.out⟩⟩
           ·rw [if_neg c34] at H
            exact absurd H (by simp)
          ·rw [if_neg c33] at H
           exact absurd H (by simp)
         ·rw [if_neg c31] at H
          exact absurd H (by simp)
        ·rw [if_neg c30] at H
         exact absurd H (by simp)
       ·rw [if_neg c29] at H
        exact absurd H (by simp)
   ·rw [if_neg c4] at H
    have c4b0 : decide (x4_1 < (l0.length : Int)) = false := decide_eq_false c4
    clear c4
    obtain rfl := Option.some.inj H
    go_wp2
    repeat (go_quiet (fail); try go_wp2)
    go_ret
    exact ⟨_, by first | rfl | (simp [errW_none, errW_some] <;> rfl) | (simp [*, errW_none, errW_some] <;> rfl), by (with_reducible repeat (first | apply Kd.R_alloc | apply Kd.R_drewN | apply Kd.R_drew)); exact HO_3.out, by repeat (first | (with_reducible first | exact HB.out | apply below_alloc | apply pw_below_drewN | apply below_drew1) | exact HB.out)⟩
end Go.Proofs.Ytmpodackojmojaa.Pr
end
section
namespace Go.Proofs.Ytmpodackojmojaa.Pr
open Go.RowKit Go.Proofs.YtmpodackojmojaaW.PrintWords Go.Proofs.YtmpodackojmojaaW.PrintLast Go.Proofs.YtmpodackojmojaaW.PrintMore
attribute [local go_sem] max2_int min2_int max_two min_two max_three min_three max_four min_four
set_option linter.unusedVariables false
set_option linter.unusedSimpArgs false
def spec_l1Max.f (a0 : Int) (a1 : Int) : Option (Int) := if a0 > a1 then (some a0) else (some a1)
set_option maxHeartbeats 8000000 in
set_option maxRecDepth 100000 in
theorem spec_l1Max.calls (a0 : Int) (a1 : Int) (r : Int) (w : World) (h : spec_l1Max.f a0 a1 = some r) :
  Calls Try.prog 165 #[.int .i64 a0, .int .i64 a1] w fun e w' => e = .returned (.int .i64 r) ∧ Drawn0 w w' := by
 have H : (if a0 > a1 then (some a0) else (some a1)) = some r := h
 clear h
 by_cases c3 : a0 > a1
 ·rw [if_pos c3] at H
  have c3b0 : decide (a1 < a0) = true := decide_eq_true c3
  clear c3
  obtain rfl := Option.some.inj H
  go_enter Try.func165, Try.ntmps165
  go_wp2
  go_ret
  exact ⟨by first | rfl | (simp; done) | (simp [*]; done), by repeat (first | exact Drawn0.refl _ | apply Drawn0.step)⟩
 ·rw [if_neg c3] at H
  have c3b0 : decide (a1 < a0) = false := decide_eq_false c3
  clear c3
  obtain rfl := Option.some.inj H
  go_enter Try.func165, Try.ntmps165
  go_wp2
  go_ret
  exact ⟨by first | rfl | (simp; done) | (simp [*]; done), by repeat (first | exact Drawn0.refl _ | apply Drawn0.step)⟩
end Go.Proofs.Ytmpodackojmojaa.Pr
end
section
namespace Go.Proofs.Ytmpodackojmojaa.Pr
open Go.RowKit Go.Proofs.YtmpodackojmojaaW.PrintWords Go.Proofs.YtmpodackojmojaaW.PrintLast Go.Proofs.YtmpodackojmojaaW.PrintMore
attribute [local go_sem] max2_int min2_int max_two min_two max_three min_three max_four min_four
set_option linter.unusedVariables false
set_option linter.unusedSimpArgs false
def spec_l5Rank.l0 : Nat → Int → Int → Int → Int → List Int → Option (Int)
 | 0, _, _, _, _, _ => none
 | k + 1, x1, x5, x6, x663000, x663001 => if x6 < (x663001.length : Int) then (if 0 ≤ x6 then ((spec_CountOf.f k (Go.bits .and .i64 (rd x663001 x6) x1)).bind fun t664 => ((spec_l1Max.f x5 t664).bind fun t665 => (spec_l5Rank.l0 k x1 t665 (wrap64 (x6 + 1)) x663000 x663001))) else (none)) else (some x5)
def spec_l5Rank.f (k : Nat) (a0_0 : Int) (l0_1 : List Int) (a1 : Int) : Option (Int) := spec_l5Rank.l0 k a1 0 0 a0_0 l0_1
set_option maxHeartbeats 8000000 in
set_option maxRecDepth 100000 in
theorem spec_l5Rank.calls (k : Nat) (a0_0 : Int) (A0_1 : Option Addr) (c0_1 : Nat) (l0_1 : List Int) (a1 : Int) (r : Int) (w : World) (hr0_1 : Kd.C (Kd.int .i64) w A0_1 l0_1.length l0_1) (hc0_1 : l0_1.length ≤ c0_1) (h : spec_l5Rank.f k a0_0 l0_1 a1 = some r) :
  Calls Try.prog 158 #[.agg #[.int .i64 a0_0, .slice A0_1 l0_1.length c0_1], .int .i64 a1] w fun e w' => e = .returned (.int .i64 r) ∧ Below w.heap.size w w' := by
 have hu35 := Try.underlying35
 have HR0_1 := Aside0.mk hr0_1
 have HC0_1 := Aside0.mk hc0_1
 clear hr0_1 hc0_1
 have HB := Aside0.mk (Below.refl w.heap.size w)
 have H : (spec_l5Rank.l0 k a1 0 0 a0_0 l0_1) = some r := h
 clear h
 have H' := Aside0.mk H
 clear H
 go_enter Try.func158, Try.ntmps158
 go_wp2_with (first | ((with_reducible refine gate_dst (N := 2) rfl ?_); refine box_event ?hg (N := 2) ?hd (cs := #[.int .i64 a0_0, .slice A0_1 l0_1.length c0_1]) (t := 35) ?hr ?_; (case hd => rfl); (case hg => rfl); (case hr => first | (go_simp; done) | (go_simp; rfl)); intro gb662 hg w3 hbox hb; have BK662 := Aside0.mk hbox; have GW662 := Aside0.mk ((by rw [hg]; exact (below_size (Hof.Lw HB.out)) : w.heap.size ≤ gb662)); have GE662 := Aside0.mk ((by rw [hg]; exact (below_size (Hof.Lw HB.out)) : w.heap.size ≤ gb662)); replace HB := Aside0.mk (below_step (Hof.Lw HB.out) hb); clear hb hbox hg))
 go_loopg [5, 6] k (fun kq v5 v6 w' => ∃ (x5_1 : Int) (x6_1 : Int), v5 = .int .i64 x5_1 ∧ v6 = .int .i64 x6_1 ∧ Aside0 (spec_l5Rank.l0 kq a1 x5_1 x6_1 a0_0 l0_1 = some r) ∧ Aside0 (kq ≤ k) ∧ Aside0 (w'.heap[gb662]? = some (.cells #[.int .i64 a0_0, (.slice A0_1 l0_1.length c0_1)] 35 (0, 0))) ∧ Aside0 (Below w.heap.size w w'))
 case atStart => exact ⟨(0), (0), (by first | rfl | (simp; done) | (simp [*]; done)), (by first | rfl | (simp; done) | (simp [*]; done)), H', ⟨Nat.le_refl _⟩, ⟨Hof.Bw BK662.out⟩, ⟨Hof.Lw HB.out⟩⟩
 case round =>
  clear H'
  try clear c1
  try clear p2
  obtain ⟨x5_1, x6_1, rfl, rfl, HA, HK1, BK662, HB⟩ := hrel
  cases gk with
  | zero => exact absurd HA.out (by simp [spec_l5Rank.l0])
  | succ k1 =>
   have H := HA.out
   clear HA
   simp only [spec_l5Rank.l0] at H
   by_cases c4 : x6_1 < (l0_1.length : Int)
   ·rw [if_pos c4] at H
    have c4b0 : decide (x6_1 < (l0_1.length : Int)) = true := decide_eq_true c4
    clear c4
    by_cases c5 : 0 ≤ x6_1
    ·rw [if_pos c5] at H
     have c5b0 : decide (0 ≤ x6_1) = true := decide_eq_true c5
     clear c5
     replace H := Option.bind_eq_some_iff.mp H
     obtain ⟨t664, A60, H⟩ := H
     (try dsimp only at H)
     have A6 := Aside0.mk A60
     clear A60
     replace H := Option.bind_eq_some_iff.mp H
     obtain ⟨t665, A70, H⟩ := H
     (try dsimp only at H)
     have A7 := Aside0.mk A70
     clear A70
     have H' := Aside0.mk H
     clear H
     obtain ⟨hcz8_0, hcz8_1, hfz8_0, hfz8_1⟩ := Hof.blk2 BK662.out
     have p663 : 0 ≤ (x6_1 : Int) := of_decide_eq_true (by first | (with_reducible assumption) | assumption)
     have q663 : x6_1 < (l0_1.length : Int) := of_decide_eq_true (by first | (with_reducible assumption) | assumption)
     obtain ⟨ad663, e663, hx663_0⟩ := Kd.at_int HR0_1.out x6_1 p663 q663
     cases e663
     try replace hx663_0 := (HB.out.cell (World.block_lt_of_cell? w _ hx663_0)).trans hx663_0
     replace p663 := eq_true p663
     replace q663 := eq_true q663
     go_wp2_with (first | ((with_reducible refine gate_callee (f := 96) rfl ?_); refine goesL_ (some 22) rfl rfl Try.func96 (by kernel_rfl) rfl #[.int .i64 (Go.bits .and .i64 (rd l0_1 x6_1) a1)] rfl (by (try simp only [List.map_toArray, List.map_cons, List.map_nil]); first | done | rfl) ?_; (with_reducible refine (spec_CountOf.calls k1 (Go.bits .and .i64 (rd l0_1 x6_1) a1) t664 _ A6.out).mono ?_); rintro e w' ⟨rfl, ⟨nd, rfl⟩⟩; refine ⟨_, rfl, ?_⟩) | ((with_reducible refine gate_callee (f := 165) rfl ?_); refine goesL_ (some 23) rfl rfl Try.func165 (by kernel_rfl) rfl #[.int .i64 x5_1, .int .i64 t664] rfl (by (try simp only [List.map_toArray, List.map_cons, List.map_nil]); first | done | rfl) ?_; (with_reducible refine (spec_l1Max.calls x5_1 t664 t665 _ A7.out).mono ?_); rintro e w' ⟨rfl, ⟨nd, rfl⟩⟩; refine ⟨_, rfl, ?_⟩))
     go_roundg k1
     case measure => have := HK1.out; omega
     case rel => exact ⟨(t665), (wrap64 (x6_1 + 1)), (by first | rfl | (simp; done) | (simp [*]; done)), (by first | rfl | (simp; done) | (simp [*]; done)), H', ⟨by have := HK1.out; omega⟩, ⟨Hof.Bw BK662.out⟩, ⟨Hof.Lw HB.out⟩⟩
    ·rw [if_neg c5] at H
     exact absurd H (by simp)
   ·rw [if_neg c4] at H
    have c4b0 : decide (x6_1 < (l0_1.length : Int)) = false := decide_eq_false c4
    clear c4
    obtain rfl := Option.some.inj H
    obtain ⟨hcz9_0, hcz9_1, hfz9_0, hfz9_1⟩ := Hof.blk2 BK662.out
    go_wp2
    go_ret
    exact ⟨by first | rfl | (simp [errW_none, errW_some] <;> rfl) | (simp [*, errW_none, errW_some] <;> rfl), by repeat (first | (with_reducible first | exact HB.out | apply below_alloc | apply pw_below_drewN | apply below_drew1 | refine below_set ?_ GE662.out) | exact HB.out)⟩
end Go.Proofs.Ytmpodackojmojaa.Pr
end
section
namespace Go.Proofs.Ytmpodackojmojaa.Pr
open Go.RowKit Go.Proofs.YtmpodackojmojaaW.PrintWords Go.Proofs.YtmpodackojmojaaW.PrintLast Go.Proofs.YtmpodackojmojaaW.PrintMore
attribute [local go_sem] max2_int min2_int max_two min_two max_three min_three max_four min_four
set_option linter.unusedVariables false
set_option linter.unusedSimpArgs false
def spec_l19Taken.l0 : Nat → List Int → Int → List Int → Int → Int → List Int → Option (List Int)
 | 0, _, _, _, _, _, _ => none
 | k + 1, x5, x6, x7, x8, x667000, x667001 => if x8 < (x7.length : Int) then (if 0 ≤ x8 then (if 0 ≤ (IntKind.u64.wrap (rd x7 x8)) then ((spec_l5Rank.f k x667000 x667001 (Go.bits .or .i64 x6 (shl .i64 1 (IntKind.u64.wrap (rd x7 x8))))).bind fun t674 => ((spec_CountOf.f k (Go.bits .or .i64 x6 (shl .i64 1 (IntKind.u64.wrap (rd x7 x8))))).bind fun t675 => (if t674 = t675 then (if x5.length < 17592186044416 then (spec_l19Taken.l0 k (x5 ++ [rd x7 x8]) (Go.bits .or .i64 x6 (shl .i64 1 (IntKind.u64.wrap (rd x7 x8)))) x7 (wrap64 (x8 + 1)) x667000 x667001) else (none)) else (spec_l19Taken.l0 k x5 x6 x7 (wrap64 (x8 + 1)) x667000 x667001)))) else (none)) else (none)) else (some x5)
def spec_l19Taken.f (k : Nat) (a0_0 : Int) (l0_1 : List Int) (l1 : List Int) : Option (List Int) := (spec_l19Order.f k l1).bind fun t670 => (spec_l19Taken.l0 k (([] : List Int)) 0 t670 0 a0_0 l0_1)
set_option maxHeartbeats 8000000 in
set_option maxRecDepth 100000 in
theorem spec_l19Taken.calls (k : Nat) (a0_0 : Int) (A0_1 : Option Addr) (c0_1 : Nat) (l0_1 : List Int) (A1 : Option Addr) (c1 : Nat) (l1 : List Int) (r : List Int) (w : World) (hr0_1 : Kd.C (Kd.int .i64) w A0_1 l0_1.length l0_1) (hc0_1 : l0_1.length ≤ c0_1) (hr1 : Kd.C (Kd.int .i64) w A1 l1.length l1) (hc1 : l1.length ≤ c1) (h : spec_l19Taken.f k a0_0 l0_1 l1 = some r) :
  Calls Try.prog 136 #[.agg #[.int .i64 a0_0, .slice A0_1 l0_1.length c0_1], .slice A1 l1.length c1] w fun e w' => ∃ v0_ : Value, e = .returned (v0_) ∧ Kd.R (Kd.int .i64) 3 w' w.heap.size (fun _ => True) v0_ r ∧ Below w.heap.size w w' := by
 have hu35 := Try.underlying35
 have HR0_1 := Aside0.mk hr0_1
 have HC0_1 := Aside0.mk hc0_1
 clear hr0_1 hc0_1
 have HR1 := Aside0.mk hr1
 have HC1 := Aside0.mk hc1
 clear hr1 hc1
 have HB := Aside0.mk (Below.refl w.heap.size w)
 have H : ((spec_l19Order.f k l1).bind fun t670 => (spec_l19Taken.l0 k (([] : List Int)) 0 t670 0 a0_0 l0_1)) = some r := h
 clear h
 obtain ⟨y667, hy667⟩ : ∃ y_ : List Int, y_ = (([] : List Int)) := ⟨_, rfl⟩
 replace H : ((spec_l19Order.f k l1).bind fun t670 => (spec_l19Taken.l0 k y667 0 t670 0 a0_0 l0_1)) = some r := by first | (rw [hy667]; with_reducible exact H) | (have H2_ := (Option.bind_some _ _).symm.trans H; rw [hy667]; with_reducible exact H2_) | (have H2_ := (Option.bind_some _ _).symm.trans H; with_reducible exact H2_) | with_reducible exact H | (rw [hy667]; exact H) | exact H
 have Ny667 := Aside0.mk hy667
 clear hy667
 replace H := Option.bind_eq_some_iff.mp H
 obtain ⟨t670, A30, H⟩ := H
 (try dsimp only at H)
 have A3 := Aside0.mk A30
 clear A30
 have H' := Aside0.mk H
 clear H
 go_enter Try.func136, Try.ntmps136
 go_wp2_with (first | ((with_reducible refine gate_dst (N := 2) rfl ?_); refine box_event ?hg (N := 2) ?hd (cs := #[.int .i64 a0_0, .slice A0_1 l0_1.length c0_1]) (t := 35) ?hr ?_; (case hd => rfl); (case hg => rfl); (case hr => first | (go_simp; done) | (go_simp; rfl)); intro gb666 hg w4 hbox hb; have BK666 := Aside0.mk hbox; have GW666 := Aside0.mk ((by rw [hg]; exact (below_size (Hof.Lw HB.out)) : w.heap.size ≤ gb666)); have GE666 := Aside0.mk ((by rw [hg]; exact (below_size (Hof.Lw HB.out)) : w.heap.size ≤ gb666)); replace HB := Aside0.mk (below_step (Hof.Lw HB.out) hb); clear hb hbox hg) | ((with_reducible refine gate_dst (N := 10) rfl ?_); refine Kd.R_lit (Kd.int .i64) _ 3 ?hg (N := 10) ?hd (xs := ([] : List Int)) (inner := []) (ok := fun _ => True) (okp := fun _ => True) ?hr ?hp (fun _ hk => hk) trivial (Below.refl _ _) (Nat.le_refl _) (by simp) ?_; (case hd => rfl); (case hg => rfl); (case hr => first | (go_simp; done) | (go_simp; rfl)); (case hp => exact (Reps.none _ _)); intro v668 w5 ho6 hb hg_ hnew_; clear hg_ hnew_; (first | rw [← Ny667.out] at ho6 | (simp only [Int.reduceToNat] at ho6; rw [← Ny667.out] at ho6)); have HO669 := Aside0.mk (Kd.R_lower ho6 (below_size (Hof.Lw HB.out))); replace BK666 := Aside0.mk (blk_below (Hof.Bw BK666.out) hb); replace HB := Aside0.mk (below_step (Hof.Lw HB.out) hb); clear hb ho6) | ((with_reducible refine gate_callee (f := 157) rfl ?_); refine goesL_ (some 12) rfl rfl Try.func157 (by kernel_rfl) rfl #[.slice A1 l1.length c1] rfl (by (try simp only [List.map_toArray, List.map_cons, List.map_nil]); first | done | rfl) ?_; (with_reducible refine (spec_l19Order.calls k _ _ l1 t670 _ ?side1 ?side2 A3.out).mono ?_); (case side1 => exact Hof.Cw (Kd.C_below HR1.out HB.out)); (case side2 => exact HC1.out); rintro e w7 ⟨v671, rfl, ho0, hb⟩; refine ⟨_, rfl, ?_⟩; have HO672 := Aside0.mk (Kd.R_lower (Kd.R_new' ho0 (Kd.R_lt (Hof.Rw HO669.out))) (below_size (Hof.Lw HB.out))); replace HO669 := Aside0.mk (Kd.R_elder' (Hof.Rw HO669.out) (Kd.R_base ho0) hb); replace BK666 := Aside0.mk (blk_below (Hof.Bw BK666.out) hb); replace HB := Aside0.mk (below_step (Hof.Lw HB.out) hb); (try clear hb); (try clear hb2); (try clear hk); (try clear hi); (try clear ho0)))
 go_loopg [5, 6, 8] k (fun kq v5 v6 v8 w' => ∃ (x5_1 : List Int) (x6_1 : Int) (x8_1 : Int), v6 = .int .i64 x6_1 ∧ v8 = .int .i64 x8_1 ∧ Aside0 (spec_l19Taken.l0 kq x5_1 x6_1 t670 x8_1 a0_0 l0_1 = some r) ∧ Aside0 (kq ≤ k) ∧ Aside0 (Kd.R (Kd.int .i64) 3 w' w.heap.size (fun k_ => some k_ ≠ (v671 : Value).ownBlock) v5 x5_1) ∧ Aside0 (Kd.R (Kd.int .i64) 3 w' w.heap.size (fun k_ => some k_ ≠ (v5 : Value).ownBlock) v671 t670) ∧ Aside0 (w'.heap[gb666]? = some (.cells #[.int .i64 a0_0, (.slice A0_1 l0_1.length c0_1)] 35 (0, 0))) ∧ Aside0 (Below w.heap.size w w'))
 case atStart => exact ⟨(y667), (0), (0), (by first | rfl | (simp; done) | (simp [*]; done)), (by first | rfl | (simp; done) | (simp [*]; done)), H', ⟨Nat.le_refl _⟩, ⟨Hof.Rw (Kd.R_mono HO669.out (fun _ hk => hk.2))⟩, ⟨Hof.Rw (Kd.R_mono HO672.out (fun _ hk => hk.2))⟩, ⟨Hof.Bw BK666.out⟩, ⟨Hof.Lw HB.out⟩⟩
 case round =>
  clear H'
  try clear c1
  try clear p2
  obtain ⟨x5_1, x6_1, x8_1, rfl, rfl, HA, HK1, HO_5, HO_7, BK666, HB⟩ := hrel
  cases gk with
  | zero => exact absurd HA.out (by simp [spec_l19Taken.l0])
  | succ k1 =>
   have H := HA.out
   clear HA
   simp only [spec_l19Taken.l0] at H
   by_cases c8 : x8_1 < (t670.length : Int)
   ·rw [if_pos c8] at H
    have c8b0 : decide (x8_1 < (t670.length : Int)) = true := decide_eq_true c8
    clear c8
    by_cases c9 : 0 ≤ x8_1
    ·rw [if_pos c9] at H
     have c9b0 : decide (0 ≤ x8_1) = true := decide_eq_true c9
     clear c9
     obtain ⟨ji10, hji10⟩ : ∃ j_ : Int, (IntKind.u64.wrap (rd t670 x8_1)) = j_ := ⟨_, rfl⟩
     replace H : (if 0 ≤ (ji10) then ((spec_l5Rank.f k1 a0_0 l0_1 (Go.bits .or .i64 x6_1 (shl .i64 1 (ji10)))).bind fun t674 => ((spec_CountOf.f k1 (Go.bits .or .i64 x6_1 (shl .i64 1 (ji10)))).bind fun t675 => (if t674 = t675 then (if x5_1.length < 17592186044416 then (spec_l19Taken.l0 k1 (x5_1 ++ [rd t670 x8_1]) (Go.bits .or .i64 x6_1 (shl .i64 1 (ji10))) t670 (wrap64 (x8_1 + 1)) a0_0 l0_1) else (none)) else (spec_l19Taken.l0 k1 x5_1 x6_1 t670 (wrap64 (x8_1 + 1)) a0_0 l0_1)))) else (none)) = some r := by first | (rw [hji10] at H; exact H) | (simp only [hji10] at H ⊢; exact H)
     by_cases c11 : 0 ≤ (ji10)
     ·rw [if_pos c11] at H
      have c11b0 := eq_true c11
      have c11b1 : decide (0 ≤ (ji10)) = true := decide_eq_true c11
      clear c11
      obtain ⟨ji12, hji12⟩ : ∃ j_ : Int, (shl .i64 1 (ji10)) = j_ := ⟨_, rfl⟩
      replace H : ((spec_l5Rank.f k1 a0_0 l0_1 (Go.bits .or .i64 x6_1 (ji12))).bind fun t674 => ((spec_CountOf.f k1 (Go.bits .or .i64 x6_1 (ji12))).bind fun t675 => (if t674 = t675 then (if x5_1.length < 17592186044416 then (spec_l19Taken.l0 k1 (x5_1 ++ [rd t670 x8_1]) (Go.bits .or .i64 x6_1 (ji12)) t670 (wrap64 (x8_1 + 1)) a0_0 l0_1) else (none)) else (spec_l19Taken.l0 k1 x5_1 x6_1 t670 (wrap64 (x8_1 + 1)) a0_0 l0_1)))) = some r := by first | (rw [hji12] at H; exact H) | (simp only [hji12] at H ⊢; exact H)
      have hji12_ : (IntKind.i64.wrap (1 * 2 ^ min (ji10).toNat 64)) = ji12 := hji12
      have hji12z : (ji10) ≤ 64 → (IntKind.i64.wrap (1 * 2 ^ (ji10).toNat)) = ji12 := shl_small hji12
      have hji12u : (IntKind.i64.wrap (2 ^ min (ji10).toNat 64)) = ji12 := by have h_ := hji12_; rw [Int.one_mul] at h_; exact h_
      have hji12v : (ji10) ≤ 64 → (IntKind.i64.wrap (2 ^ (ji10).toNat)) = ji12 := fun hle_ => by have h_ := hji12z hle_; rw [Int.one_mul] at h_; exact h_
      have hji12y : (wrap64 (1 * 2 ^ min (ji10).toNat 64)) = ji12 := (i64_w _).symm.trans hji12_
      have hji12x : (ji10) ≤ 64 → (wrap64 (1 * 2 ^ (ji10).toNat)) = ji12 := fun h_ => (i64_w _).symm.trans (hji12z h_)
      replace H := Option.bind_eq_some_iff.mp H
      obtain ⟨t674, A130, H⟩ := H
      (try dsimp only at H)
      have A13 := Aside0.mk A130
      clear A130
      replace H := Option.bind_eq_some_iff.mp H
      obtain ⟨t675, A140, H⟩ := H
      (try dsimp only at H)
      have A14 := Aside0.mk A140
      clear A140
      by_cases c15 : t674 = t675
      ·rw [if_pos c15] at H
       have c15b0 : (t674 == t675) = true := beq_iff_eq.mpr c15
       have c15b1 : (t674 != t675) = false := bne_eq_false_iff_eq.mpr c15
       clear c15
       by_cases c16 : x5_1.length < 17592186044416
       ·rw [if_pos c16] at H
        have LMc16 := Aside0.mk c16
        clear c16
        obtain ⟨y677, hy677⟩ : ∃ y_ : List Int, y_ = (x5_1 ++ [rd t670 x8_1]) := ⟨_, rfl⟩
        replace H : (spec_l19Taken.l0 k1 y677 (Go.bits .or .i64 x6_1 (ji12)) t670 (wrap64 (x8_1 + 1)) a0_0 l0_1) = some r := by first | (rw [hy677]; with_reducible exact H) | (have H2_ := (Option.bind_some _ _).symm.trans H; rw [hy677]; with_reducible exact H2_) | (have H2_ := (Option.bind_some _ _).symm.trans H; with_reducible exact H2_) | with_reducible exact H | (rw [hy677]; exact H) | exact H
        have Ny677 := Aside0.mk hy677
        clear hy677
        have H' := Aside0.mk H
        clear H
        obtain ⟨Ao17, co17, eo17⟩ := Kd.R_slice HO_7.out
        subst eo17
        have p673 : 0 ≤ (x8_1 : Int) := of_decide_eq_true (by first | (with_reducible assumption) | assumption)
        have q673 : x8_1 < (t670.length : Int) := of_decide_eq_true (by first | (with_reducible assumption) | assumption)
        obtain ⟨ad673, e673, hx673_0⟩ := Kd.at_int (Kd.R_reads' HO_7.out).2.2 x8_1 p673 q673
        cases e673
        replace p673 := eq_true p673
        replace q673 := eq_true q673
        obtain ⟨hcz18_0, hcz18_1, hfz18_0, hfz18_1⟩ := Hof.blk2 BK666.out
        go_wp2_with (first | ((with_reducible refine gate_callee (f := 158) rfl ?_); refine goesL_ (some 29) rfl rfl Try.func158 (by kernel_rfl) rfl #[.agg #[.int .i64 a0_0, .slice A0_1 l0_1.length c0_1], .int .i64 (Go.bits .or .i64 x6_1 (ji12))] rfl (by (try simp only [List.map_toArray, List.map_cons, List.map_nil]); first | done | (simp only [hji12]; rfl) | rfl | (simp only [List.length_drop, List.length_take]; rfl)) ?_; (with_reducible refine (spec_l5Rank.calls k1 a0_0 _ _ l0_1 (Go.bits .or .i64 x6_1 (ji12)) t674 _ ?side1 ?side2 A13.out).mono ?_); (case side1 => exact Hof.Cw (Kd.C_below HR0_1.out HB.out)); (case side2 => exact HC0_1.out); rintro e w19 ⟨rfl, hb⟩; refine ⟨_, rfl, ?_⟩; replace HO_5 := Aside0.mk (Kd.R_below (Hof.Rw HO_5.out) hb); replace HO_7 := Aside0.mk (Kd.R_below (Hof.Rw HO_7.out) hb); replace BK666 := Aside0.mk (blk_below (Hof.Bw BK666.out) hb); replace HB := Aside0.mk (below_step (Hof.Lw HB.out) hb); (try clear hb); (try clear hb2); (try clear hk); (try clear hi)) | ((with_reducible refine gate_callee (f := 96) rfl ?_); refine goesL_ (some 31) rfl rfl Try.func96 (by kernel_rfl) rfl #[.int .i64 (Go.bits .or .i64 x6_1 (ji12))] rfl (by (try simp only [List.map_toArray, List.map_cons, List.map_nil]); first | done | (simp only [hji12]; rfl) | rfl | (simp only [List.length_drop, List.length_take]; rfl)) ?_; (with_reducible refine (spec_CountOf.calls k1 (Go.bits .or .i64 x6_1 (ji12)) t675 _ A14.out).mono ?_); rintro e w' ⟨rfl, ⟨nd, rfl⟩⟩; refine ⟨_, rfl, ?_⟩; have p676 : 0 ≤ (x8_1 : Int) := of_decide_eq_true (by first | (with_reducible assumption) | assumption); have q676 : x8_1 < (t670.length : Int) := of_decide_eq_true (by first | (with_reducible assumption) | assumption); obtain ⟨ad676, e676, hx676_0⟩ := Kd.at_int (Kd.R_reads' HO_7.out).2.2 x8_1 p676 q676; obtain rfl : ad673 = ad676 := (by injection e676); replace p676 := eq_true p676; replace q676 := eq_true q676) | ((with_reducible refine gate_builtin (b := .append) (xs := #[.tmp 34, .tmp 39]) rfl ?_); at_builtin; refine Kd.R_append (Kd.int .i64) (w0 := w) w.heap.size rfl (.tmp 34) (.tmp 39) 24 3 (.int .i64 0) 8 rfl Try.underlying24 info3 rfl (by decide) (by omega) u5 x5_1 (rd t670 x8_1) [.int .i64 (rd t670 x8_1)] (fun k_ => some k_ ≠ (.slice (some ad673) t670.length co17 : Value).ownBlock) (fun _ => False) rfl rfl ?aP (fun _ hk => hk.elim) ?aF ?aO ?aB ?aS ?aL ?_; (case aP => exact rfl); (case aB => exact (Hof.Lw HB.out)); (case aF => exact (fun k_ hk => Kd.fresh' (Kd.R_lt (Hof.Rw HO_7.out)) k_ hk)); (case aO => exact (Hof.Rw HO_5.out)); (case aS => exact (below_size (Hof.Lw HB.out))); (case aL => have := LMc16.out; omega); intro v678 w20 ho hb hg hat; rw [← Ny677.out] at ho; have n0_ := Aside0.mk (Kd.R_after (ok := (fun _ => True)) (Hof.Rw (Kd.R_mono HO_7.out (fun _ hk => ⟨trivial, hk⟩))) hg hat); have n1_ := Aside0.mk (blk_grown (g := gb666) (o := .cells #[.int .i64 a0_0, .slice A0_1 l0_1.length c0_1] 35 (0, 0)) (Hof.Bw BK666.out) hg (Kd.R_ne HO_5.out BK666.out (by decide))); have n2_ := Aside0.mk hb; have n3_ := Aside0.mk ho; clear HO_7; clear BK666; clear HB; clear HO_5; have HO_7 := n0_; have BK666 := n1_; have HB := n2_; have HO679 := n3_; clear n0_ n1_ n2_ n3_; clear ho hb hg hat))
        go_roundg k1
        case measure => have := HK1.out; omega
        case rel => exact ⟨(y677), (Go.bits .or .i64 x6_1 (ji12)), (wrap64 (x8_1 + 1)), (by first | rfl | (simp; done) | (simp only [← hji12] <;> (first | rfl | simp)) | (simp [*]; done)), (by first | rfl | (simp; done) | (simp [*]; done)), H', ⟨by have := HK1.out; omega⟩, ⟨Hof.Rw HO679.out⟩, ⟨Hof.Rw (Kd.R_mono HO_7.out (fun _ hk => hk.2))⟩, ⟨Hof.Bw BK666.out⟩, ⟨Hof.Lw HB.out⟩⟩
       ·rw [if_neg c16] at H
        exact absurd H (by simp)
      ·rw [if_neg c15] at H
       have c15b0 : (t674 == t675) = false := beq_eq_false_iff_ne.mpr c15
       have c15b1 : (t674 != t675) = true := bne_iff_ne.mpr c15
       have H' := Aside0.mk H
       clear H
       obtain ⟨Ao21, co21, eo21⟩ := Kd.R_slice HO_7.out
       subst eo21
       have p673 : 0 ≤ (x8_1 : Int) := of_decide_eq_true (by first | (with_reducible assumption) | assumption)
       have q673 : x8_1 < (t670.length : Int) := of_decide_eq_true (by first | (with_reducible assumption) | assumption)
       obtain ⟨ad673, e673, hx673_0⟩ := Kd.at_int (Kd.R_reads' HO_7.out).2.2 x8_1 p673 q673
       cases e673
       replace p673 := eq_true p673
       replace q673 := eq_true q673
       obtain ⟨hcz22_0, hcz22_1, hfz22_0, hfz22_1⟩ := Hof.blk2 BK666.out
       go_wp2_with (first | ((with_reducible refine gate_callee (f := 158) rfl ?_); refine goesL_ (some 29) rfl rfl Try.func158 (by kernel_rfl) rfl #[.agg #[.int .i64 a0_0, .slice A0_1 l0_1.length c0_1], .int .i64 (Go.bits .or .i64 x6_1 (ji12))] rfl (by (try simp only [List.map_toArray, List.map_cons, List.map_nil]); first | done | (simp only [hji12]; rfl) | rfl | (simp only [List.length_drop, List.length_take]; rfl)) ?_; (with_reducible refine (spec_l5Rank.calls k1 a0_0 _ _ l0_1 (Go.bits .or .i64 x6_1 (ji12)) t674 _ ?side1 ?side2 A13.out).mono ?_); (case side1 => exact Hof.Cw (Kd.C_below HR0_1.out HB.out)); (case side2 => exact HC0_1.out); rintro e w23 ⟨rfl, hb⟩; refine ⟨_, rfl, ?_⟩; replace HO_5 := Aside0.mk (Kd.R_below (Hof.Rw HO_5.out) hb); replace HO_7 := Aside0.mk (Kd.R_below (Hof.Rw HO_7.out) hb); replace BK666 := Aside0.mk (blk_below (Hof.Bw BK666.out) hb); replace HB := Aside0.mk (below_step (Hof.Lw HB.out) hb); (try clear hb); (try clear hb2); (try clear hk); (try clear hi)) | ((with_reducible refine gate_callee (f := 96) rfl ?_); refine goesL_ (some 31) rfl rfl Try.func96 (by kernel_rfl) rfl #[.int .i64 (Go.bits .or .i64 x6_1 (ji12))] rfl (by (try simp only [List.map_toArray, List.map_cons, List.map_nil]); first | done | (simp only [hji12]; rfl) | rfl | (simp only [List.length_drop, List.length_take]; rfl)) ?_; (with_reducible refine (spec_CountOf.calls k1 (Go.bits .or .i64 x6_1 (ji12)) t675 _ A14.out).mono ?_); rintro e w' ⟨rfl, ⟨nd, rfl⟩⟩; refine ⟨_, rfl, ?_⟩))
       go_roundg k1
       case measure => have := HK1.out; omega
       case rel => exact ⟨(x5_1), (x6_1), (wrap64 (x8_1 + 1)), (by first | rfl | (simp; done) | (simp [*]; done)), (by first | rfl | (simp; done) | (simp [*]; done)), H', ⟨by have := HK1.out; omega⟩, ⟨Hof.Rw HO_5.out⟩, ⟨Hof.Rw HO_7.out⟩, ⟨Hof.Bw BK666.out⟩, ⟨Hof.Lw HB.out⟩⟩
     ·rw [if_neg c11] at H
      exact absurd H (by simp)
    ·rw [if_neg c9] at H
     exact absurd H (by simp)
   ·rw [if_neg c8] at H
    have c8b0 : decide (x8_1 < (t670.length : Int)) = false := decide_eq_false c8
    clear c8
    obtain rfl := Option.some.inj H
    obtain ⟨Ao24, co24, eo24⟩ := Kd.R_slice HO_7.out
    subst eo24
    go_wp2
    go_ret
    exact ⟨_, by first | rfl | (simp [errW_none, errW_some] <;> rfl) | (simp [*, errW_none, errW_some] <;> rfl), by (with_reducible repeat (first | apply Kd.R_alloc | apply Kd.R_drewN | apply Kd.R_drew)); exact Kd.R_mono HO_5.out (fun _ hk => trivial), by repeat (first | (with_reducible first | exact HB.out | apply below_alloc | apply pw_below_drewN | apply below_drew1 | refine below_set ?_ GE666.out) | exact HB.out)⟩
end Go.Proofs.Ytmpodackojmojaa.Pr
end
