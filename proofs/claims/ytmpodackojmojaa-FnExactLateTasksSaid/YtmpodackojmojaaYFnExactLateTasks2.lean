/- The claim FnExactLateTasks: every text that its row comes to, laid together by slim.py (the words of the kit's print, the printed walks, the pure law, the row). -/
import Derived.Lib.OwnBridge
import Derived.Lib.RowBridge
import Derived.Shelf.SlGeneric
import Derived.Shelf.SlLaysF
import Derived.Shelf.SlSortCmp.Insertion
import Derived.Shelf.Slices.CompactI
import Derived.Shelf.Slices.In.SortNone
import Derived.Shelf.Sort.Plain
import Derived.Sort.Grow
import Derived.Sort.OwnSortedInts
import Derived.Test.YtmpodackojmojaaProg
import Derived.Test.YtmpodackojmojaaYFnExactLateTasks1
section
namespace Go.Proofs.Ytmpodackojmojaa.Pr
open Go.RowKit Go.Proofs.YtmpodackojmojaaW.PrintWords Go.Proofs.YtmpodackojmojaaW.PrintLast Go.Proofs.YtmpodackojmojaaW.PrintMore
attribute [local go_sem] max2_int min2_int max_two min_two max_three min_three max_four min_four
set_option linter.unusedVariables false
set_option linter.unusedSimpArgs false
mutual
def spec_MaximalSets.l0 : Nat → List Int → List Int → Int → Option (List Int)
 | 0, _, _, _ => none
 | k + 1, x0, x3, x4 => if x4 < (x0.length : Int) then (spec_MaximalSets.l1 k x0 x3 x4 true 0) else ((spec_SortSets.f k x3).bind fun t455 => (some t455))
def spec_MaximalSets.l1 : Nat → List Int → List Int → Int → Bool → Int → Option (List Int)
 | 0, _, _, _, _, _ => none
 | k + 1, x0, x3, x4, x5, x6 => if x6 < (x0.length : Int) then (if x5 = true then (if 0 ≤ x6 then (if 0 ≤ x4 then (if x4 < (x0.length : Int) then (if (rd x0 x6) = (rd x0 x4) then (spec_MaximalSets.l1 k x0 x3 x4 true (wrap64 (x6 + 1))) else (spec_MaximalSets.l1 k x0 x3 x4 ((Go.bits .and .i64 (rd x0 x6) (rd x0 x4)) != (rd x0 x4)) (wrap64 (x6 + 1)))) else (none)) else (none)) else (none)) else (spec_MaximalSets.l1 k x0 x3 x4 false (wrap64 (x6 + 1)))) else (if x5 = true then (if 0 ≤ x4 then (if x4 < (x0.length : Int) then (if x3.length < 17592186044416 then (spec_MaximalSets.l0 k x0 (x3 ++ [rd x0 x4]) (wrap64 (x4 + 1))) else (none)) else (none)) else (none)) else (spec_MaximalSets.l0 k x0 x3 (wrap64 (x4 + 1))))
end
def spec_MaximalSets.f (k : Nat) (l0 : List Int) : Option (List Int) := (some (([] : List Int) : List Int)).bind fun y451 => ((spec_l3Sets.f k 8 l0).bind fun t454 => (if t454 = true then (spec_MaximalSets.l0 k l0 y451 0) else (some y451)))
set_option maxHeartbeats 8000000 in
set_option maxRecDepth 100000 in
theorem spec_MaximalSets.calls (k : Nat) (A0 : Option Addr) (c0 : Nat) (l0 : List Int) (r : List Int) (w : World) (hr0 : Kd.C (Kd.int .i64) w A0 l0.length l0) (hc0 : l0.length ≤ c0) (h : spec_MaximalSets.f k l0 = some r) :
  Calls Try.prog 67 #[.slice A0 l0.length c0] w fun e w' => ∃ v0_ : Value, e = .returned (v0_) ∧ Kd.R (Kd.int .i64) 3 w' w.heap.size (fun _ => True) v0_ r ∧ Below w.heap.size w w' := by
 have HR0 := Aside0.mk hr0
 have HC0 := Aside0.mk hc0
 clear hr0 hc0
 have HB := Aside0.mk (Below.refl w.heap.size w)
 have H : ((some (([] : List Int) : List Int)).bind fun y451 => ((spec_l3Sets.f k 8 l0).bind fun t454 => (if t454 = true then (spec_MaximalSets.l0 k l0 y451 0) else (some y451)))) = some r := h
 clear h
 obtain ⟨y451, hy451⟩ : ∃ y_ : List Int, y_ = (([] : List Int)) := ⟨_, rfl⟩
 replace H : ((spec_l3Sets.f k 8 l0).bind fun t454 => (if t454 = true then (spec_MaximalSets.l0 k l0 y451 0) else (some y451))) = some r := by first | (rw [hy451]; with_reducible exact H) | (have H2_ := (Option.bind_some _ _).symm.trans H; rw [hy451]; with_reducible exact H2_) | (have H2_ := (Option.bind_some _ _).symm.trans H; with_reducible exact H2_) | with_reducible exact H | (rw [hy451]; exact H) | exact H
 have Ny451 := Aside0.mk hy451
 clear hy451
 replace H := Option.bind_eq_some_iff.mp H
 obtain ⟨t454, A20, H⟩ := H
 (try dsimp only at H)
 have A2 := Aside0.mk A20
 clear A20
 by_cases c3 : t454 = true
 ·subst c3
  have H1 : (spec_MaximalSets.l0 k l0 y451 0) = some r := by rw [if_pos rfl] at H; exact H
  clear H
  have H := H1
  clear H1
  have H' := Aside0.mk H
  clear H
  go_enter Try.func67, Try.ntmps67
  go_wp2_with (first | ((with_reducible refine gate_dst (N := 7) rfl ?_); refine Kd.R_lit (Kd.int .i64) _ 3 ?hg (N := 7) ?hd (xs := ([] : List Int)) (inner := []) (ok := fun _ => True) (okp := fun _ => True) ?hr ?hp (fun _ hk => hk) trivial (Below.refl _ _) (Nat.le_refl _) (by simp) ?_; (case hd => rfl); (case hg => rfl); (case hr => first | (go_simp; done) | (go_simp; rfl)); (case hp => exact (Reps.none _ _)); intro v452 w4 ho5 hb hg_ hnew_; clear hg_ hnew_; (first | rw [← Ny451.out] at ho5 | (simp only [Int.reduceToNat] at ho5; rw [← Ny451.out] at ho5)); have HO453 := Aside0.mk (Kd.R_lower ho5 (below_size (Hof.Lw HB.out))); replace HB := Aside0.mk (below_step (Hof.Lw HB.out) hb); clear hb ho5) | (go_at_call 107; (with_reducible refine (spec_l3Sets.calls k 8 _ _ l0 true _ ?side1 ?side2 A2.out).mono ?_); (case side1 => exact Hof.Cw (Kd.C_below HR0.out HB.out)); (case side2 => exact HC0.out); rintro e w' ⟨rfl, ⟨nd, rfl⟩⟩; (try first | exact ⟨rfl, _, World.drewN_drewN _ _ _⟩ | exact ⟨rfl, _, Eq.trans (World.drewN_drewN _ _ _) (congrArg (World.drewN _) (Nat.add_assoc _ _ _))⟩)))
  repeat (go_quiet (first | ((with_reducible refine gate_dst (N := 7) rfl ?_); refine Kd.R_lit (Kd.int .i64) _ 3 ?hg (N := 7) ?hd (xs := ([] : List Int)) (inner := []) (ok := fun _ => True) (okp := fun _ => True) ?hr ?hp (fun _ hk => hk) trivial (Below.refl _ _) (Nat.le_refl _) (by simp) ?_; (case hd => rfl); (case hg => rfl); (case hr => first | (go_simp; done) | (go_simp; rfl)); (case hp => exact (Reps.none _ _)); intro v452 w4 ho5 hb hg_ hnew_; clear hg_ hnew_; (first | rw [← Ny451.out] at ho5 | (simp only [Int.reduceToNat] at ho5; rw [← Ny451.out] at ho5)); have HO453 := Aside0.mk (Kd.R_lower ho5 (below_size (Hof.Lw HB.out))); replace HB := Aside0.mk (below_step (Hof.Lw HB.out) hb); clear hb ho5) | (go_at_call 107; (with_reducible refine (spec_l3Sets.calls k 8 _ _ l0 true _ ?side1 ?side2 A2.out).mono ?_); (case side1 => exact Hof.Cw (Kd.C_below HR0.out HB.out)); (case side2 => exact HC0.out); rintro e w' ⟨rfl, ⟨nd, rfl⟩⟩; (try first | exact ⟨rfl, _, World.drewN_drewN _ _ _⟩ | exact ⟨rfl, _, Eq.trans (World.drewN_drewN _ _ _) (congrArg (World.drewN _) (Nat.add_assoc _ _ _))⟩))); try go_wp2_with (first | ((with_reducible refine gate_dst (N := 7) rfl ?_); refine Kd.R_lit (Kd.int .i64) _ 3 ?hg (N := 7) ?hd (xs := ([] : List Int)) (inner := []) (ok := fun _ => True) (okp := fun _ => True) ?hr ?hp (fun _ hk => hk) trivial (Below.refl _ _) (Nat.le_refl _) (by simp) ?_; (case hd => rfl); (case hg => rfl); (case hr => first | (go_simp; done) | (go_simp; rfl)); (case hp => exact (Reps.none _ _)); intro v452 w4 ho5 hb hg_ hnew_; clear hg_ hnew_; (first | rw [← Ny451.out] at ho5 | (simp only [Int.reduceToNat] at ho5; rw [← Ny451.out] at ho5)); have HO453 := Aside0.mk (Kd.R_lower ho5 (below_size (Hof.Lw HB.out))); replace HB := Aside0.mk (below_step (Hof.Lw HB.out) hb); clear hb ho5) | (go_at_call 107; (with_reducible refine (spec_l3Sets.calls k 8 _ _ l0 true _ ?side1 ?side2 A2.out).mono ?_); (case side1 => exact Hof.Cw (Kd.C_below HR0.out HB.out)); (case side2 => exact HC0.out); rintro e w' ⟨rfl, ⟨nd, rfl⟩⟩; (try first | exact ⟨rfl, _, World.drewN_drewN _ _ _⟩ | exact ⟨rfl, _, Eq.trans (World.drewN_drewN _ _ _) (congrArg (World.drewN _) (Nat.add_assoc _ _ _))⟩))))
  go_loopg [3, 4] k (fun kq v3 v4 w' => ∃ (x3_1 : List Int) (x4_1 : Int), v4 = .int .i64 x4_1 ∧ Aside0 (spec_MaximalSets.l0 kq l0 x3_1 x4_1 = some r) ∧ Aside0 (kq ≤ k) ∧ Aside0 (Kd.R (Kd.int .i64) 3 w' w.heap.size (fun _ => True) v3 x3_1) ∧ Aside0 (Below w.heap.size w w'))
  case atStart => exact ⟨(y451), (0), (by first | rfl | (simp; done) | (simp [*]; done)), H', ⟨Nat.le_refl _⟩, ⟨Hof.Rw HO453.out⟩, ⟨Hof.Lw HB.out⟩⟩
  case round =>
   clear H'
   try clear p2
   try clear c3
   obtain ⟨x3_1, x4_1, rfl, HA, HK1, HO_3, HB⟩ := hrel
   cases gk with
   | zero => exact absurd HA.out (by simp [spec_MaximalSets.l0])
   | succ k1 =>
    have H := HA.out
    clear HA
    simp only [spec_MaximalSets.l0] at H
    by_cases c6 : x4_1 < (l0.length : Int)
    ·rw [if_pos c6] at H
     have c6b0 : decide (x4_1 < (l0.length : Int)) = true := decide_eq_true c6
     clear c6
     have H' := Aside0.mk H
     clear H
     go_wp2
     repeat (go_quiet (fail); try go_wp2)
     go_loopg [5, 6] k1 (fun kq v5 v6 w' => ∃ (x5_2 : Bool) (x6_2 : Int), v5 = .bool x5_2 ∧ v6 = .int .i64 x6_2 ∧ Aside0 (spec_MaximalSets.l1 kq l0 x3_1 x4_1 x5_2 x6_2 = some r) ∧ Aside0 (kq ≤ k1) ∧ Aside0 (Kd.R (Kd.int .i64) 3 w' w.heap.size (fun _ => True) u3 x3_1) ∧ Aside0 (Below w.heap.size w w'))
     case atStart => exact ⟨(true), (0), (by first | rfl | (simp; done) | (simp [*]; done)), (by first | rfl | (simp; done) | (simp [*]; done)), H', ⟨Nat.le_refl _⟩, ⟨Hof.Rw HO_3.out⟩, ⟨Hof.Lw HB.out⟩⟩
     case round =>
      clear H'
      try clear p2
      try clear c3
      try clear c6
      try clear c6b0
      try clear p2
      obtain ⟨x5_2, x6_2, rfl, rfl, HA, HK2, HO_3, HB⟩ := hrel
      cases gk with
      | zero => exact absurd HA.out (by simp [spec_MaximalSets.l1])
      | succ k2 =>
       have H := HA.out
       clear HA
       simp only [spec_MaximalSets.l1] at H
       by_cases c7 : x6_2 < (l0.length : Int)
       ·rw [if_pos c7] at H
        have c7b0 : decide (x6_2 < (l0.length : Int)) = true := decide_eq_true c7
        clear c7
        by_cases c8 : x5_2 = true
        ·subst c8
         have H1 : (if 0 ≤ x6_2 then (if 0 ≤ x4_1 then (if x4_1 < (l0.length : Int) then (if (rd l0 x6_2) = (rd l0 x4_1) then (spec_MaximalSets.l1 k2 l0 x3_1 x4_1 true (wrap64 (x6_2 + 1))) else (spec_MaximalSets.l1 k2 l0 x3_1 x4_1 ((Go.bits .and .i64 (rd l0 x6_2) (rd l0 x4_1)) != (rd l0 x4_1)) (wrap64 (x6_2 + 1)))) else (none)) else (none)) else (none)) = some r := by rw [if_pos rfl] at H; exact H
         clear H
         have H := H1
         clear H1
         by_cases c9 : 0 ≤ x6_2
         ·rw [if_pos c9] at H
          have c9b0 : decide (0 ≤ x6_2) = true := decide_eq_true c9
          clear c9
          by_cases c10 : 0 ≤ x4_1
          ·rw [if_pos c10] at H
           have c10b0 : decide (0 ≤ x4_1) = true := decide_eq_true c10
           clear c10
           by_cases c11 : x4_1 < (l0.length : Int)
           ·rw [if_pos c11] at H
            have c11b0 : decide (x4_1 < (l0.length : Int)) = true := decide_eq_true c11
            clear c11
            by_cases c12 : (rd l0 x6_2) = (rd l0 x4_1)
            ·rw [if_pos c12] at H
             have c12b0 : ((rd l0 x6_2) == (rd l0 x4_1)) = true := beq_iff_eq.mpr c12
             have c12b1 : ((rd l0 x6_2) != (rd l0 x4_1)) = false := bne_eq_false_iff_eq.mpr c12
             clear c12
             have H' := Aside0.mk H
             clear H
             have p458 : 0 ≤ (x6_2 : Int) := of_decide_eq_true (by first | (with_reducible assumption) | assumption)
             have q458 : x6_2 < (l0.length : Int) := of_decide_eq_true (by first | (with_reducible assumption) | assumption)
             obtain ⟨ad458, e458, hx458_0⟩ := Kd.at_int HR0.out x6_2 p458 q458
             cases e458
             try replace hx458_0 := (HB.out.cell (World.block_lt_of_cell? w _ hx458_0)).trans hx458_0
             replace p458 := eq_true p458
             replace q458 := eq_true q458
             have p459 : 0 ≤ (x4_1 : Int) := of_decide_eq_true (by first | (with_reducible assumption) | assumption)
             have q459 : x4_1 < (l0.length : Int) := of_decide_eq_true (by first | (with_reducible assumption) | assumption)
             obtain ⟨ad459, e459, hx459_0⟩ := Kd.at_int HR0.out x4_1 p459 q459
             obtain rfl : ad458 = ad459 := (by injection e459)
             try replace hx459_0 := (HB.out.cell (World.block_lt_of_cell? w _ hx459_0)).trans hx459_0
             replace p459 := eq_true p459
             replace q459 := eq_true q459
             go_wp2
             repeat (go_quiet (fail); try go_wp2)
             go_roundg k2
             case measure => have := HK1.out; have := HK2.out; omega
             case rel => exact ⟨(true), (wrap64 (x6_2 + 1)), (by first | rfl | (simp; done) | (simp [*]; done)), (by first | rfl | (simp; done) | (simp [*]; done)), H', ⟨by have := HK1.out; have := HK2.out; omega⟩, ⟨Hof.Rw HO_3.out⟩, ⟨Hof.Lw HB.out⟩⟩
            ·rw [if_neg c12] at H
             have c12b0 : ((rd l0 x6_2) == (rd l0 x4_1)) = false := beq_eq_false_iff_ne.mpr c12
             have c12b1 : ((rd l0 x6_2) != (rd l0 x4_1)) = true := bne_iff_ne.mpr c12
             have H' := Aside0.mk H
             clear H
             have p458 : 0 ≤ (x6_2 : Int) := of_decide_eq_true (by first | (with_reducible assumption) | assumption)
             have q458 : x6_2 < (l0.length : Int) := of_decide_eq_true (by first | (with_reducible assumption) | assumption)
             obtain ⟨ad458, e458, hx458_0⟩ := Kd.at_int HR0.out x6_2 p458 q458
             cases e458
             try replace hx458_0 := (HB.out.cell (World.block_lt_of_cell? w _ hx458_0)).trans hx458_0
             replace p458 := eq_true p458
             replace q458 := eq_true q458
             have p459 : 0 ≤ (x4_1 : Int) := of_decide_eq_true (by first | (with_reducible assumption) | assumption)
             have q459 : x4_1 < (l0.length : Int) := of_decide_eq_true (by first | (with_reducible assumption) | assumption)
             obtain ⟨ad459, e459, hx459_0⟩ := Kd.at_int HR0.out x4_1 p459 q459
             obtain rfl : ad458 = ad459 := (by injection e459)
             try replace hx459_0 := (HB.out.cell (World.block_lt_of_cell? w _ hx459_0)).trans hx459_0
             replace p459 := eq_true p459
             replace q459 := eq_true q459
             have p460 : 0 ≤ (x6_2 : Int) := of_decide_eq_true (by first | (with_reducible assumption) | assumption)
             have q460 : x6_2 < (l0.length : Int) := of_decide_eq_true (by first | (with_reducible assumption) | assumption)
             obtain ⟨ad460, e460, hx460_0⟩ := Kd.at_int HR0.out x6_2 p460 q460
             obtain rfl : ad458 = ad460 := (by injection e460)
             try replace hx460_0 := (HB.out.cell (World.block_lt_of_cell? w _ hx460_0)).trans hx460_0
             replace p460 := eq_true p460
             replace q460 := eq_true q460
             have p461 : 0 ≤ (x4_1 : Int) := of_decide_eq_true (by first | (with_reducible assumption) | assumption)
             have q461 : x4_1 < (l0.length : Int) := of_decide_eq_true (by first | (with_reducible assumption) | assumption)
             obtain ⟨ad461, e461, hx461_0⟩ := Kd.at_int HR0.out x4_1 p461 q461
             obtain rfl : ad458 = ad461 := (by injection e461)
             try replace hx461_0 := (HB.out.cell (World.block_lt_of_cell? w _ hx461_0)).trans hx461_0
             replace p461 := eq_true p461
             replace q461 := eq_true q461
             have p462 : 0 ≤ (x4_1 : Int) := of_decide_eq_true (by first | (with_reducible assumption) | assumption)
             have q462 : x4_1 < (l0.length : Int) := of_decide_eq_true (by first | (with_reducible assumption) | assumption)
             obtain ⟨ad462, e462, hx462_0⟩ := Kd.at_int HR0.out x4_1 p462 q462
             obtain rfl : ad458 = ad462 := (by injection e462)
             try replace hx462_0 := (HB.out.cell (World.block_lt_of_cell? w _ hx462_0)).trans hx462_0
             replace p462 := eq_true p462
             replace q462 := eq_true q462
             go_wp2
             repeat (go_quiet (fail); try go_wp2)
             go_roundg k2
             case measure => have := HK1.out; have := HK2.out; omega
             case rel => exact ⟨(((Go.bits .and .i64 (rd l0 x6_2) (rd l0 x4_1)) != (rd l0 x4_1))), (wrap64 (x6_2 + 1)), (by first | rfl | (simp; done) | (simp [*]; done)), (by first | rfl | (simp; done) | (simp [*]; done)), H', ⟨by have := HK1.out; have := HK2.out; omega⟩, ⟨Hof.Rw HO_3.out⟩, ⟨Hof.Lw HB.out⟩⟩
           ·rw [if_neg c11] at H
            exact absurd H (by simp)
          ·rw [if_neg c10] at H
           exact absurd H (by simp)
         ·rw [if_neg c9] at H
          exact absurd H (by simp)
        ·replace c8 := Bool.eq_false_iff.mpr c8
         subst c8
         have H1 : (spec_MaximalSets.l1 k2 l0 x3_1 x4_1 false (wrap64 (x6_2 + 1))) = some r := by rw [if_neg (show ¬ (false = true) by decide)] at H; exact H
         clear H
         have H := H1
         clear H1
         have H' := Aside0.mk H
         clear H
         go_wp2
         repeat (go_quiet (fail); try go_wp2)
         go_roundg k2
         case measure => have := HK1.out; have := HK2.out; omega
         case rel => exact ⟨(false), (wrap64 (x6_2 + 1)), (by first | rfl | (simp; done) | (simp [*]; done)), (by first | rfl | (simp; done) | (simp [*]; done)), H', ⟨by have := HK1.out; have := HK2.out; omega⟩, ⟨Hof.Rw HO_3.out⟩, ⟨Hof.Lw HB.out⟩⟩
       ·rw [if_neg c7] at H
        have c7b0 : decide (x6_2 < (l0.length : Int)) = false := decide_eq_false c7
        clear c7
        by_cases c13 : x5_2 = true
        ·subst c13
         have H1 : (if 0 ≤ x4_1 then (if x4_1 < (l0.length : Int) then (if x3_1.length < 17592186044416 then (spec_MaximalSets.l0 k2 l0 (x3_1 ++ [rd l0 x4_1]) (wrap64 (x4_1 + 1))) else (none)) else (none)) else (none)) = some r := by rw [if_pos rfl] at H; exact H
         clear H
         have H := H1
         clear H1
         by_cases c14 : 0 ≤ x4_1
         ·rw [if_pos c14] at H
          have c14b0 : decide (0 ≤ x4_1) = true := decide_eq_true c14
          clear c14
          by_cases c15 : x4_1 < (l0.length : Int)
          ·rw [if_pos c15] at H
           have c15b0 : decide (x4_1 < (l0.length : Int)) = true := decide_eq_true c15
           clear c15
           by_cases c16 : x3_1.length < 17592186044416
           ·rw [if_pos c16] at H
            have LMc16 := Aside0.mk c16
            clear c16
            obtain ⟨y464, hy464⟩ : ∃ y_ : List Int, y_ = (x3_1 ++ [rd l0 x4_1]) := ⟨_, rfl⟩
            replace H : (spec_MaximalSets.l0 k2 l0 y464 (wrap64 (x4_1 + 1))) = some r := by first | (rw [hy464]; with_reducible exact H) | (have H2_ := (Option.bind_some _ _).symm.trans H; rw [hy464]; with_reducible exact H2_) | (have H2_ := (Option.bind_some _ _).symm.trans H; with_reducible exact H2_) | with_reducible exact H | (rw [hy464]; exact H) | exact H
            have Ny464 := Aside0.mk hy464
            clear hy464
            have H' := Aside0.mk H
            clear H
            have p463 : 0 ≤ (x4_1 : Int) := of_decide_eq_true (by first | (with_reducible assumption) | assumption)
            have q463 : x4_1 < (l0.length : Int) := of_decide_eq_true (by first | (with_reducible assumption) | assumption)
            obtain ⟨ad463, e463, hx463_0⟩ := Kd.at_int HR0.out x4_1 p463 q463
            cases e463
            try replace hx463_0 := (HB.out.cell (World.block_lt_of_cell? w _ hx463_0)).trans hx463_0
            replace p463 := eq_true p463
            replace q463 := eq_true q463
            go_wp2_with (first | ((with_reducible refine gate_builtin (b := .append) (xs := #[.tmp 53, .tmp 58]) rfl ?_); at_builtin; refine Kd.R_append (Kd.int .i64) (w0 := w) w.heap.size rfl (.tmp 53) (.tmp 58) 24 3 (.int .i64 0) 8 rfl Try.underlying24 info3 rfl (by decide) (by omega) u3 x3_1 (rd l0 x4_1) [.int .i64 (rd l0 x4_1)] (fun _ => True) (fun _ => False) rfl rfl ?aP (fun _ hk => hk.elim) ?aF ?aO ?aB ?aS ?aL ?_; (case aP => exact rfl); (case aB => exact (Hof.Lw HB.out)); (case aF => exact (fun _ _ => trivial)); (case aO => exact (Hof.Rw HO_3.out)); (case aS => exact (below_size (Hof.Lw HB.out))); (case aL => have := LMc16.out; omega); intro v465 w17 ho hb hg hat; rw [← Ny464.out] at ho; have n0_ := Aside0.mk hb; have n1_ := Aside0.mk ho; clear HB; clear HO_3; have HB := n0_; have HO466 := n1_; clear n0_ n1_; clear ho hb hg hat))
            repeat (go_quiet (first | ((with_reducible refine gate_builtin (b := .append) (xs := #[.tmp 53, .tmp 58]) rfl ?_); at_builtin; refine Kd.R_append (Kd.int .i64) (w0 := w) w.heap.size rfl (.tmp 53) (.tmp 58) 24 3 (.int .i64 0) 8 rfl Try.underlying24 info3 rfl (by decide) (by omega) u3 x3_1 (rd l0 x4_1) [.int .i64 (rd l0 x4_1)] (fun _ => True) (fun _ => False) rfl rfl ?aP (fun _ hk => hk.elim) ?aF ?aO ?aB ?aS ?aL ?_; (case aP => exact rfl); (case aB => exact (Hof.Lw HB.out)); (case aF => exact (fun _ _ => trivial)); (case aO => exact (Hof.Rw HO_3.out)); (case aS => exact (below_size (Hof.Lw HB.out))); (case aL => have := LMc16.out; omega); intro v465 w17 ho hb hg hat; rw [← Ny464.out] at ho; have n0_ := Aside0.mk hb; have n1_ := Aside0.mk ho; clear HB; clear HO_3; have HB := n0_; have HO466 := n1_; clear n0_ n1_; clear ho hb hg hat)); try go_wp2_with (first | ((with_reducible refine gate_builtin (b := .append) (xs := #[.tmp 53, .tmp 58]) rfl ?_); at_builtin; refine Kd.R_append (Kd.int .i64) (w0 := w) w.heap.size rfl (.tmp 53) (.tmp 58) 24 3 (.int .i64 0) 8 rfl Try.underlying24 info3 rfl (by decide) (by omega) u3 x3_1 (rd l0 x4_1) [.int .i64 (rd l0 x4_1)] (fun _ => True) (fun _ => False) rfl rfl ?aP (fun _ hk => hk.elim) ?aF ?aO ?aB ?aS ?aL ?_; (case aP => exact rfl); (case aB => exact (Hof.Lw HB.out)); (case aF => exact (fun _ _ => trivial)); (case aO => exact (Hof.Rw HO_3.out)); (case aS => exact (below_size (Hof.Lw HB.out))); (case aL => have := LMc16.out; omega); intro v465 w17 ho hb hg hat; rw [← Ny464.out] at ho; have n0_ := Aside0.mk hb; have n1_ := Aside0.mk ho; clear HB; clear HO_3; have HB := n0_; have HO466 := n1_; clear n0_ n1_; clear ho hb hg hat)))
            go_roundg k2
            case measure => have := HK1.out; have := HK2.out; omega
            case rel => exact ⟨(y464), (wrap64 (x4_1 + 1)), (by first | rfl | (simp; done) | (simp [*]; done)), H', ⟨by have := HK1.out; have := HK2.out; omega⟩, ⟨Hof.Rw HO466.out⟩, ⟨Hof.Lw HB.out⟩⟩
           ·rw [if_neg c16] at H
            exact absurd H (by simp)
          ·rw [if_neg c15] at H
           exact absurd H (by simp)
         ·rw [if_neg c14] at H
          exact absurd H (by simp)
        ·replace c13 := Bool.eq_false_iff.mpr c13
         subst c13
         have H1 : (spec_MaximalSets.l0 k2 l0 x3_1 (wrap64 (x4_1 + 1))) = some r := by rw [if_neg (show ¬ (false = true) by decide)] at H; exact H
         clear H
         have H := H1
         clear H1
         have H' := Aside0.mk H
         clear H
         go_wp2
         repeat (go_quiet (fail); try go_wp2)
         go_roundg k2
         case measure => have := HK1.out; have := HK2.out; omega
         case rel => exact ⟨(x3_1), (wrap64 (x4_1 + 1)), (by first | rfl | (simp; done) | (simp [*]; done)), H', ⟨by have := HK1.out; have := HK2.out; omega⟩, ⟨Hof.Rw HO_3.out⟩, ⟨Hof.Lw HB.out⟩⟩
    ·rw [if_neg c6] at H
     have c6b0 : decide (x4_1 < (l0.length : Int)) = false := decide_eq_false c6
     clear c6
     replace H := Option.bind_eq_some_iff.mp H
     obtain ⟨t455, A180, H⟩ := H
     (try dsimp only at H)
     have A18 := Aside0.mk A180
     clear A180
     obtain rfl := Option.some.inj H
     obtain ⟨Ao19, co19, eo19⟩ := Kd.R_slice HO_3.out
     subst eo19
     go_wp2_with (first | (go_at_call 108; (with_reducible refine (spec_SortSets.calls k1 _ _ x3_1 t455 _ ?side1 ?side2 A18.out).mono ?_); (case side1 => exact Hof.Cw ((Kd.R_reads' HO_3.out).2.2)); (case side2 => exact (Kd.R_reads' HO_3.out).2.1); rintro e w20 ⟨v456, rfl, ho0, hb⟩; have HO457 := Aside0.mk (Kd.R_lower (Kd.R_new' ho0 (Kd.R_lt (Hof.Rw HO_3.out))) (below_size (Hof.Lw HB.out))); replace HO_3 := Aside0.mk (Kd.R_elder' (Hof.Rw HO_3.out) (Kd.R_base ho0) hb); replace HB := Aside0.mk (below_step (Hof.Lw HB.out) hb); (try clear hb); (try clear hb2); (try clear hk); (try clear hi); (try clear ho0)))
     repeat (go_quiet (first | (go_at_call 108; (with_reducible refine (spec_SortSets.calls k1 _ _ x3_1 t455 _ ?side1 ?side2 A18.out).mono ?_); (case side1 => exact Hof.Cw ((Kd.R_reads' HO_3.out).2.2)); (case side2 => exact (Kd.R_reads' HO_3.out).2.1); rintro e w20 ⟨v456, rfl, ho0, hb⟩; have HO457 := Aside0.mk (Kd.R_lower (Kd.R_new' ho0 (Kd.R_lt (Hof.Rw HO_3.out))) (below_size (Hof.Lw HB.out))); replace HO_3 := Aside0.mk (Kd.R_elder' (Hof.Rw HO_3.out) (Kd.R_base ho0) hb); replace HB := Aside0.mk (below_step (Hof.Lw HB.out) hb); (try clear hb); (try clear hb2); (try clear hk); (try clear hi); (try clear ho0))); try go_wp2_with (first | (go_at_call 108; (with_reducible refine (spec_SortSets.calls k1 _ _ x3_1 t455 _ ?side1 ?side2 A18.out).mono ?_); (case side1 => exact Hof.Cw ((Kd.R_reads' HO_3.out).2.2)); (case side2 => exact (Kd.R_reads' HO_3.out).2.1); rintro e w20 ⟨v456, rfl, ho0, hb⟩; have HO457 := Aside0.mk (Kd.R_lower (Kd.R_new' ho0 (Kd.R_lt (Hof.Rw HO_3.out))) (below_size (Hof.Lw HB.out))); replace HO_3 := Aside0.mk (Kd.R_elder' (Hof.Rw HO_3.out) (Kd.R_base ho0) hb); replace HB := Aside0.mk (below_step (Hof.Lw HB.out) hb); (try clear hb); (try clear hb2); (try clear hk); (try clear hi); (try clear ho0))))
     go_ret
     exact ⟨_, by first | rfl | (simp [errW_none, errW_some] <;> rfl) | (simp [*, errW_none, errW_some] <;> rfl), by (with_reducible repeat (first | apply Kd.R_alloc | apply Kd.R_drewN | apply Kd.R_drew)); exact Kd.R_mono HO457.out (fun _ hk => trivial), by repeat (first | (with_reducible first | exact HB.out | apply below_alloc | apply pw_below_drewN | apply below_drew1) | exact HB.out)⟩
 ·replace c3 := Bool.eq_false_iff.mpr c3
  subst c3
  have H1 : (some y451) = some r := by rw [if_neg (show ¬ (false = true) by decide)] at H; exact H
  clear H
  have H := H1
  clear H1
  obtain rfl := Option.some.inj H
  go_enter Try.func67, Try.ntmps67
  go_wp2_with (first | ((with_reducible refine gate_dst (N := 7) rfl ?_); refine Kd.R_lit (Kd.int .i64) _ 3 ?hg (N := 7) ?hd (xs := ([] : List Int)) (inner := []) (ok := fun _ => True) (okp := fun _ => True) ?hr ?hp (fun _ hk => hk) trivial (Below.refl _ _) (Nat.le_refl _) (by simp) ?_; (case hd => rfl); (case hg => rfl); (case hr => first | (go_simp; done) | (go_simp; rfl)); (case hp => exact (Reps.none _ _)); intro v452 w21 ho22 hb hg_ hnew_; clear hg_ hnew_; (first | rw [← Ny451.out] at ho22 | (simp only [Int.reduceToNat] at ho22; rw [← Ny451.out] at ho22)); have HO453 := Aside0.mk (Kd.R_lower ho22 (below_size (Hof.Lw HB.out))); replace HB := Aside0.mk (below_step (Hof.Lw HB.out) hb); clear hb ho22) | (go_at_call 107; (with_reducible refine (spec_l3Sets.calls k 8 _ _ l0 false _ ?side1 ?side2 A2.out).mono ?_); (case side1 => exact Hof.Cw (Kd.C_below HR0.out HB.out)); (case side2 => exact HC0.out); rintro e w' ⟨rfl, ⟨nd, rfl⟩⟩; (try first | exact ⟨rfl, _, World.drewN_drewN _ _ _⟩ | exact ⟨rfl, _, Eq.trans (World.drewN_drewN _ _ _) (congrArg (World.drewN _) (Nat.add_assoc _ _ _))⟩)))
  repeat (go_quiet (first | ((with_reducible refine gate_dst (N := 7) rfl ?_); refine Kd.R_lit (Kd.int .i64) _ 3 ?hg (N := 7) ?hd (xs := ([] : List Int)) (inner := []) (ok := fun _ => True) (okp := fun _ => True) ?hr ?hp (fun _ hk => hk) trivial (Below.refl _ _) (Nat.le_refl _) (by simp) ?_; (case hd => rfl); (case hg => rfl); (case hr => first | (go_simp; done) | (go_simp; rfl)); (case hp => exact (Reps.none _ _)); intro v452 w21 ho22 hb hg_ hnew_; clear hg_ hnew_; (first | rw [← Ny451.out] at ho22 | (simp only [Int.reduceToNat] at ho22; rw [← Ny451.out] at ho22)); have HO453 := Aside0.mk (Kd.R_lower ho22 (below_size (Hof.Lw HB.out))); replace HB := Aside0.mk (below_step (Hof.Lw HB.out) hb); clear hb ho22) | (go_at_call 107; (with_reducible refine (spec_l3Sets.calls k 8 _ _ l0 false _ ?side1 ?side2 A2.out).mono ?_); (case side1 => exact Hof.Cw (Kd.C_below HR0.out HB.out)); (case side2 => exact HC0.out); rintro e w' ⟨rfl, ⟨nd, rfl⟩⟩; (try first | exact ⟨rfl, _, World.drewN_drewN _ _ _⟩ | exact ⟨rfl, _, Eq.trans (World.drewN_drewN _ _ _) (congrArg (World.drewN _) (Nat.add_assoc _ _ _))⟩))); try go_wp2_with (first | ((with_reducible refine gate_dst (N := 7) rfl ?_); refine Kd.R_lit (Kd.int .i64) _ 3 ?hg (N := 7) ?hd (xs := ([] : List Int)) (inner := []) (ok := fun _ => True) (okp := fun _ => True) ?hr ?hp (fun _ hk => hk) trivial (Below.refl _ _) (Nat.le_refl _) (by simp) ?_; (case hd => rfl); (case hg => rfl); (case hr => first | (go_simp; done) | (go_simp; rfl)); (case hp => exact (Reps.none _ _)); intro v452 w21 ho22 hb hg_ hnew_; clear hg_ hnew_; (first | rw [← Ny451.out] at ho22 | (simp only [Int.reduceToNat] at ho22; rw [← Ny451.out] at ho22)); have HO453 := Aside0.mk (Kd.R_lower ho22 (below_size (Hof.Lw HB.out))); replace HB := Aside0.mk (below_step (Hof.Lw HB.out) hb); clear hb ho22) | (go_at_call 107; (with_reducible refine (spec_l3Sets.calls k 8 _ _ l0 false _ ?side1 ?side2 A2.out).mono ?_); (case side1 => exact Hof.Cw (Kd.C_below HR0.out HB.out)); (case side2 => exact HC0.out); rintro e w' ⟨rfl, ⟨nd, rfl⟩⟩; (try first | exact ⟨rfl, _, World.drewN_drewN _ _ _⟩ | exact ⟨rfl, _, Eq.trans (World.drewN_drewN _ _ _) (congrArg (World.drewN _) (Nat.add_assoc _ _ _))⟩))))
  go_ret
  exact ⟨_, by first | rfl | (simp [errW_none, errW_some] <;> rfl) | (simp [*, errW_none, errW_some] <;> rfl), by (with_reducible repeat (first | apply Kd.R_alloc | apply Kd.R_drewN | apply Kd.R_drew)); exact HO453.out, by repeat (first | (with_reducible first | exact HB.out | apply below_alloc | apply pw_below_drewN | apply below_drew1) | exact HB.out)⟩
end Go.Proofs.Ytmpodackojmojaa.Pr
end
section
namespace Go.Proofs.Ytmpodackojmojaa.Pr
open Go.RowKit Go.Proofs.YtmpodackojmojaaW.PrintWords Go.Proofs.YtmpodackojmojaaW.PrintLast Go.Proofs.YtmpodackojmojaaW.PrintMore
attribute [local go_sem] max2_int min2_int max_two min_two max_three min_three max_four min_four
set_option linter.unusedVariables false
set_option linter.unusedSimpArgs false
def spec_TaskMatroid.l0 : Nat → List (S73) → List Int → Int → Option (Int × List Int)
 | 0, _, _, _ => none
 | k + 1, x0, x3, x4 => (spec_FullSet.f (x0.length : Int)).bind fun t472 => (if x4 ≤ t472 then ((spec_PlanOf.f k x0 x4).bind fun bt473 => (if bt473.2 = true then (if x3.length < 17592186044416 then (spec_TaskMatroid.l0 k x0 (x3 ++ [x4]) (wrap64 (x4 + 1))) else (none)) else (spec_TaskMatroid.l0 k x0 x3 (wrap64 (x4 + 1))))) else ((spec_MaximalSets.f k x3).bind fun t480 => (some ((x0.length : Int), t480))))
def spec_TaskMatroid.f (k : Nat) (l0 : List (S73)) : Option (Int × List Int) := (spec_AreTasks.f k l0).bind fun t468 => (if t468 = true then (spec_TaskMatroid.l0 k l0 (([] : List Int)) 0) else (some (0, ([] : List Int))))
set_option maxHeartbeats 8000000 in
set_option maxRecDepth 100000 in
theorem spec_TaskMatroid.calls (k : Nat) (A0 : Option Addr) (c0 : Nat) (l0 : List (S73)) (r1 : Int) (r2 : List Int) (w : World) (hr0 : Kd.C k73 w A0 l0.length l0) (hc0 : l0.length ≤ c0) (h : spec_TaskMatroid.f k l0 = some (r1, r2)) :
  Calls Try.prog 21 #[.slice A0 l0.length c0] w fun e w' => ∃ v1_ : Value, e = .returned (.agg #[.int .i64 r1, v1_]) ∧ Kd.R (Kd.int .i64) 3 w' w.heap.size (fun _ => True) v1_ r2 ∧ Below w.heap.size w w' := by
 have hu35 := Try.underlying35
 have HR0 := Aside0.mk hr0
 have HC0 := Aside0.mk hc0
 clear hr0 hc0
 have HB := Aside0.mk (Below.refl w.heap.size w)
 have H : ((spec_AreTasks.f k l0).bind fun t468 => (if t468 = true then (spec_TaskMatroid.l0 k l0 (([] : List Int)) 0) else (some (0, ([] : List Int))))) = some (r1, r2) := h
 clear h
 replace H := Option.bind_eq_some_iff.mp H
 obtain ⟨t468, A20, H⟩ := H
 (try dsimp only at H)
 have A2 := Aside0.mk A20
 clear A20
 by_cases c3 : t468 = true
 ·subst c3
  have H1 : (spec_TaskMatroid.l0 k l0 (([] : List Int)) 0) = some (r1, r2) := by rw [if_pos rfl] at H; exact H
  clear H
  have H := H1
  clear H1
  obtain ⟨y469, hy469⟩ : ∃ y_ : List Int, y_ = (([] : List Int)) := ⟨_, rfl⟩
  replace H : (spec_TaskMatroid.l0 k l0 y469 0) = some (r1, r2) := by first | (rw [hy469]; with_reducible exact H) | (have H2_ := (Option.bind_some _ _).symm.trans H; rw [hy469]; with_reducible exact H2_) | (have H2_ := (Option.bind_some _ _).symm.trans H; with_reducible exact H2_) | with_reducible exact H | (rw [hy469]; exact H) | exact H
  have Ny469 := Aside0.mk hy469
  clear hy469
  have H' := Aside0.mk H
  clear H
  go_enter Try.func21, Try.ntmps21
  go_wp2_with (first | ((with_reducible refine gate_dst (N := 2) rfl ?_); refine box_event ?hg (N := 2) ?hd (cs := #[.int .i64 0, .slice none 0 0]) (t := 35) ?hr ?_; (case hd => rfl); (case hg => rfl); (case hr => first | (go_simp; done) | (go_simp; rfl)); intro gb467 hg w4 hbox hb; have BK467 := Aside0.mk hbox; have GW467 := Aside0.mk ((by rw [hg]; exact (below_size (Hof.Lw HB.out)) : w.heap.size ≤ gb467)); have GE467 := Aside0.mk ((by rw [hg]; exact (below_size (Hof.Lw HB.out)) : w.heap.size ≤ gb467)); replace HB := Aside0.mk (below_step (Hof.Lw HB.out) hb); clear hb hbox hg) | ((with_reducible refine gate_callee (f := 55) rfl ?_); refine goesL_ (some 8) rfl rfl Try.func55 (by kernel_rfl) rfl #[.slice A0 l0.length c0] rfl (by (try simp only [List.map_toArray, List.map_cons, List.map_nil]); first | done | rfl) ?_; (with_reducible refine (spec_AreTasks.calls k _ _ l0 true _ ?side1 ?side2 A2.out).mono ?_); (case side1 => exact Hof.Cw (Kd.C_below HR0.out HB.out)); (case side2 => exact HC0.out); rintro e w' ⟨rfl, ⟨nd, rfl⟩⟩; refine ⟨_, rfl, ?_⟩) | ((with_reducible refine gate_dst (N := 11) rfl ?_); refine Kd.R_lit (Kd.int .i64) _ 3 ?hg (N := 11) ?hd (xs := ([] : List Int)) (inner := []) (ok := fun _ => True) (okp := fun _ => True) ?hr ?hp (fun _ hk => hk) trivial (Below.refl _ _) (Nat.le_refl _) (by simp) ?_; (case hd => rfl); (case hg => rfl); (case hr => first | (go_simp; done) | (go_simp; rfl)); (case hp => exact (Reps.none _ _)); intro v470 w5 ho6 hb hg_ hnew_; clear hg_ hnew_; (first | rw [← Ny469.out] at ho6 | (simp only [Int.reduceToNat] at ho6; rw [← Ny469.out] at ho6)); have HO471 := Aside0.mk (Kd.R_lower ho6 (below_size (Hof.Lw HB.out))); replace BK467 := Aside0.mk (blk_below (Hof.Bw BK467.out) hb); replace HB := Aside0.mk (below_step (Hof.Lw HB.out) hb); clear hb ho6))
  go_loopg [3, 4] k (fun kq v3 v4 w' => ∃ (x3_1 : List Int) (x4_1 : Int), v4 = .int .i64 x4_1 ∧ Aside0 (spec_TaskMatroid.l0 kq l0 x3_1 x4_1 = some (r1, r2)) ∧ Aside0 (kq ≤ k) ∧ Aside0 (Kd.R (Kd.int .i64) 3 w' w.heap.size (fun _ => True) v3 x3_1) ∧ Aside0 (w'.heap[gb467]? = some (.cells #[.int .i64 0, (.slice none 0 0)] 35 (0, 0))) ∧ Aside0 (Below w.heap.size w w'))
  case atStart => exact ⟨(y469), (0), (by first | rfl | (simp; done) | (simp [*]; done)), H', ⟨Nat.le_refl _⟩, ⟨Hof.Rw HO471.out⟩, ⟨Hof.Bw BK467.out⟩, ⟨Hof.Lw HB.out⟩⟩
  case round =>
   clear H'
   try clear c2
   try clear p2
   try clear c3
   try clear c5
   obtain ⟨x3_1, x4_1, rfl, HA, HK1, HO_3, BK467, HB⟩ := hrel
   cases gk with
   | zero => exact absurd HA.out (by simp [spec_TaskMatroid.l0])
   | succ k1 =>
    have H := HA.out
    clear HA
    simp only [spec_TaskMatroid.l0] at H
    replace H := Option.bind_eq_some_iff.mp H
    obtain ⟨t472, A70, H⟩ := H
    (try dsimp only at H)
    have A7 := Aside0.mk A70
    clear A70
    by_cases c8 : x4_1 ≤ t472
    ·rw [if_pos c8] at H
     have c8b0 : decide (x4_1 ≤ t472) = true := decide_eq_true c8
     clear c8
     replace H := Option.bind_eq_some_iff.mp H
     obtain ⟨⟨t473, t474⟩, A90, H⟩ := H
     (try dsimp only at H)
     have A9 := Aside0.mk A90
     clear A90
     by_cases c10 : t474 = true
     ·subst c10
      have H1 : (if x3_1.length < 17592186044416 then (spec_TaskMatroid.l0 k1 l0 (x3_1 ++ [x4_1]) (wrap64 (x4_1 + 1))) else (none)) = some (r1, r2) := by rw [if_pos rfl] at H; exact H
      clear H
      have H := H1
      clear H1
      by_cases c11 : x3_1.length < 17592186044416
      ·rw [if_pos c11] at H
       have LMc11 := Aside0.mk c11
       clear c11
       obtain ⟨y477, hy477⟩ : ∃ y_ : List Int, y_ = (x3_1 ++ [x4_1]) := ⟨_, rfl⟩
       replace H : (spec_TaskMatroid.l0 k1 l0 y477 (wrap64 (x4_1 + 1))) = some (r1, r2) := by first | (rw [hy477]; with_reducible exact H) | (have H2_ := (Option.bind_some _ _).symm.trans H; rw [hy477]; with_reducible exact H2_) | (have H2_ := (Option.bind_some _ _).symm.trans H; with_reducible exact H2_) | with_reducible exact H | (rw [hy477]; exact H) | exact H
       have Ny477 := Aside0.mk hy477
       clear hy477
       have H' := Aside0.mk H
       clear H
       go_wp2_with (first | ((with_reducible refine gate_callee (f := 49) rfl ?_); refine goesL_ (some 15) rfl rfl Try.func49 (by kernel_rfl) rfl #[.int .i64 (l0.length : Int)] rfl (by (try simp only [List.map_toArray, List.map_cons, List.map_nil]); first | done | rfl) ?_; (with_reducible refine (spec_FullSet.calls (l0.length : Int) t472 _ A7.out).mono ?_); rintro e w' ⟨rfl, ⟨nd, rfl⟩⟩; refine ⟨_, rfl, ?_⟩) | ((with_reducible refine gate_callee (f := 13) rfl ?_); refine goesL_ (some 22) rfl rfl Try.func13 (by kernel_rfl) rfl #[.slice A0 l0.length c0, .int .i64 x4_1] rfl (by (try simp only [List.map_toArray, List.map_cons, List.map_nil]); first | done | rfl) ?_; (with_reducible refine (spec_PlanOf.calls k1 _ _ l0 x4_1 t473 true _ ?side1 ?side2 A9.out).mono ?_); (case side1 => exact Hof.Cw (Kd.C_below HR0.out HB.out)); (case side2 => exact HC0.out); rintro e w12 ⟨v475, rfl, ho0, hb⟩; refine ⟨_, rfl, ?_⟩; have HO476 := Aside0.mk (Kd.R_lower (Kd.R_new' ho0 (Kd.R_lt (Hof.Rw HO_3.out))) (below_size (Hof.Lw HB.out))); replace HO_3 := Aside0.mk (Kd.R_elder' (Hof.Rw HO_3.out) (Kd.R_base ho0) hb); replace BK467 := Aside0.mk (blk_below (Hof.Bw BK467.out) hb); replace HB := Aside0.mk (below_step (Hof.Lw HB.out) hb); (try clear hb); (try clear hb2); (try clear hk); (try clear hi); (try clear ho0)) | ((with_reducible refine gate_builtin (b := .append) (xs := #[.tmp 26, .tmp 28]) rfl ?_); at_builtin; refine Kd.R_append (Kd.int .i64) (w0 := w) w.heap.size rfl (.tmp 26) (.tmp 28) 24 3 (.int .i64 0) 8 rfl Try.underlying24 info3 rfl (by decide) (by omega) u3 x3_1 x4_1 [.int .i64 x4_1] (fun k_ => some k_ ≠ (v475 : Value).ownBlock) (fun _ => False) rfl rfl ?aP (fun _ hk => hk.elim) ?aF ?aO ?aB ?aS ?aL ?_; (case aP => exact rfl); (case aB => exact (Hof.Lw HB.out)); (case aF => exact (fun k_ hk => Kd.fresh' (Kd.R_lt (Hof.Rw HO476.out)) k_ hk)); (case aO => exact (Hof.Rw (Kd.R_mono HO_3.out (fun _ hk => hk.2)))); (case aS => exact (below_size (Hof.Lw HB.out))); (case aL => have := LMc11.out; omega); intro v478 w13 ho hb hg hat; rw [← Ny477.out] at ho; have n0_ := Aside0.mk (blk_grown (g := gb467) (o := .cells #[.int .i64 0, .slice none 0 0] 35 (0, 0)) (Hof.Bw BK467.out) hg (Kd.R_ne HO_3.out BK467.out (by decide))); have n1_ := Aside0.mk (Kd.R_after (ok := (fun _ => True)) (Hof.Rw HO476.out) hg hat); have n2_ := Aside0.mk hb; have n3_ := Aside0.mk ho; clear BK467; clear HO476; clear HB; clear HO_3; have BK467 := n0_; have HO476 := n1_; have HB := n2_; have HO479 := n3_; clear n0_ n1_ n2_ n3_; clear ho hb hg hat))
       go_roundg k1
       case measure => have := HK1.out; omega
       case rel => exact ⟨(y477), (wrap64 (x4_1 + 1)), (by first | rfl | (simp; done) | (simp [*]; done)), H', ⟨by have := HK1.out; omega⟩, ⟨Hof.Rw (Kd.R_mono HO479.out (fun _ hk => trivial))⟩, ⟨Hof.Bw BK467.out⟩, ⟨Hof.Lw HB.out⟩⟩
      ·rw [if_neg c11] at H
       exact absurd H (by simp)
     ·replace c10 := Bool.eq_false_iff.mpr c10
      subst c10
      have H1 : (spec_TaskMatroid.l0 k1 l0 x3_1 (wrap64 (x4_1 + 1))) = some (r1, r2) := by rw [if_neg (show ¬ (false = true) by decide)] at H; exact H
      clear H
      have H := H1
      clear H1
      have H' := Aside0.mk H
      clear H
      go_wp2_with (first | ((with_reducible refine gate_callee (f := 49) rfl ?_); refine goesL_ (some 15) rfl rfl Try.func49 (by kernel_rfl) rfl #[.int .i64 (l0.length : Int)] rfl (by (try simp only [List.map_toArray, List.map_cons, List.map_nil]); first | done | rfl) ?_; (with_reducible refine (spec_FullSet.calls (l0.length : Int) t472 _ A7.out).mono ?_); rintro e w' ⟨rfl, ⟨nd, rfl⟩⟩; refine ⟨_, rfl, ?_⟩) | ((with_reducible refine gate_callee (f := 13) rfl ?_); refine goesL_ (some 22) rfl rfl Try.func13 (by kernel_rfl) rfl #[.slice A0 l0.length c0, .int .i64 x4_1] rfl (by (try simp only [List.map_toArray, List.map_cons, List.map_nil]); first | done | rfl) ?_; (with_reducible refine (spec_PlanOf.calls k1 _ _ l0 x4_1 t473 false _ ?side1 ?side2 A9.out).mono ?_); (case side1 => exact Hof.Cw (Kd.C_below HR0.out HB.out)); (case side2 => exact HC0.out); rintro e w14 ⟨v475, rfl, ho0, hb⟩; refine ⟨_, rfl, ?_⟩; have HO476 := Aside0.mk (Kd.R_lower (Kd.R_new' ho0 (Kd.R_lt (Hof.Rw HO_3.out))) (below_size (Hof.Lw HB.out))); replace HO_3 := Aside0.mk (Kd.R_elder' (Hof.Rw HO_3.out) (Kd.R_base ho0) hb); replace BK467 := Aside0.mk (blk_below (Hof.Bw BK467.out) hb); replace HB := Aside0.mk (below_step (Hof.Lw HB.out) hb); (try clear hb); (try clear hb2); (try clear hk); (try clear hi); (try clear ho0)))
      go_roundg k1
      case measure => have := HK1.out; omega
      case rel => exact ⟨(x3_1), (wrap64 (x4_1 + 1)), (by first | rfl | (simp; done) | (simp [*]; done)), H', ⟨by have := HK1.out; omega⟩, ⟨Hof.Rw (Kd.R_mono HO_3.out (fun _ hk => trivial))⟩, ⟨Hof.Bw BK467.out⟩, ⟨Hof.Lw HB.out⟩⟩
    ·rw [if_neg c8] at H
     have c8b0 : decide (x4_1 ≤ t472) = false := decide_eq_false c8
     clear c8
     replace H := Option.bind_eq_some_iff.mp H
     obtain ⟨t480, A150, H⟩ := H
     (try dsimp only at H)
     have A15 := Aside0.mk A150
     clear A150
     simp only [Option.some.injEq, Prod.mk.injEq] at H
     obtain ⟨rfl, rfl⟩ := H
     go_wp2_with (first | ((with_reducible refine gate_callee (f := 49) rfl ?_); refine goesL_ (some 15) rfl rfl Try.func49 (by kernel_rfl) rfl #[.int .i64 (l0.length : Int)] rfl (by (try simp only [List.map_toArray, List.map_cons, List.map_nil]); first | done | rfl) ?_; (with_reducible refine (spec_FullSet.calls (l0.length : Int) t472 _ A7.out).mono ?_); rintro e w' ⟨rfl, ⟨nd, rfl⟩⟩; refine ⟨_, rfl, ?_⟩; (try (rw [drewN_self wr]; generalize hq_ : World.drewN wr _ = wr; have n0_ : Aside0 (Kd.R (Kd.int .i64) 3 wr w.heap.size (fun _ => True) u3 x3_1) := ⟨by rw [← hq_]; exact (Hof.Rw HO_3.out)⟩; have n1_ : Aside0 (wr.heap[gb467]? = some (.cells #[.int .i64 0, .slice none 0 0] 35 (0, 0))) := ⟨by rw [← hq_]; exact (Hof.Bw BK467.out)⟩; have n2_ : Aside0 (Below w.heap.size w wr) := ⟨by rw [← hq_]; exact (Hof.Lw HB.out)⟩; clear HO_3 BK467 HB hq_; have HO_3 := n0_; have BK467 := n1_; have HB := n2_; clear n0_ n1_ n2_; have hcy467_0 : wr.cell? ⟨gb467, 0, none⟩ = some (.int .i64 0) := (blk_cell BK467.out 0).trans rfl; have hfy467_0 := blk_frozen BK467.out 0; have hcy467_1 : wr.cell? ⟨gb467, 1, none⟩ = some (.slice none 0 0) := (blk_cell BK467.out 1).trans rfl; have hfy467_1 := blk_frozen BK467.out 1)); obtain ⟨Ao16, co16, eo16⟩ := Kd.R_slice HO_3.out; subst eo16) | ((with_reducible refine gate_callee (f := 67) rfl ?_); refine goesL_ (some 33) rfl rfl Try.func67 (by kernel_rfl) rfl #[.slice Ao16 x3_1.length co16] rfl (by (try simp only [List.map_toArray, List.map_cons, List.map_nil]); first | done | rfl) ?_; (with_reducible refine (spec_MaximalSets.calls k1 _ _ x3_1 t480 _ ?side1 ?side2 A15.out).mono ?_); (case side1 => exact Hof.Cw ((Kd.R_reads' HO_3.out).2.2)); (case side2 => exact (Kd.R_reads' HO_3.out).2.1); rintro e w17 ⟨v481, rfl, ho0, hb⟩; refine ⟨_, rfl, ?_⟩; have HO482 := Aside0.mk (Kd.R_lower (Kd.R_new' ho0 (Kd.R_lt (Hof.Rw HO_3.out))) (below_size (Hof.Lw HB.out))); replace HO_3 := Aside0.mk (Kd.R_elder' (Hof.Rw HO_3.out) (Kd.R_base ho0) hb); replace BK467 := Aside0.mk (blk_below (Hof.Bw BK467.out) hb); replace HB := Aside0.mk (below_step (Hof.Lw HB.out) hb); (try clear hb); (try clear hb2); (try clear hk); (try clear hi); (try clear ho0); obtain ⟨Ao18, co18, eo18⟩ := Kd.R_slice HO482.out; subst eo18; obtain ⟨hcz19_0, hcz19_1, hfz19_0, hfz19_1⟩ := Hof.blk2 BK467.out))
     refine bodyPost_ret (results_cell_row rfl _ _ gb467 35 #[.int .i64 (l0.length : Int), .slice Ao18 t480.length co18] (0, 0) _ rfl (by (with_reducible repeat (first | refine blk_drewN ?_ _ | refine blk_drew ?_ | refine blk_alloc ?_ _)); refine blk_put (cs := #[.int .i64 (l0.length : Int), .slice none 0 0]) ?_ 1 _ rfl; (with_reducible repeat (first | refine blk_drewN ?_ _ | refine blk_drew ?_ | refine blk_alloc ?_ _)); refine blk_put (cs := #[.int .i64 0, .slice none 0 0]) ?_ 0 _ rfl; (with_reducible repeat (first | refine blk_drewN ?_ _ | refine blk_drew ?_ | refine blk_alloc ?_ _)); exact BK467.out) Try.underlying35 rfl (by kernel_rfl)) rfl ?_
     exact ⟨_, by first | rfl | (simp [errW_none, errW_some] <;> rfl) | (simp [*, errW_none, errW_some] <;> rfl), by (with_reducible repeat (first | apply Kd.R_alloc | apply Kd.R_drewN | apply Kd.R_drew)); exact Kd.R_mono (Kd.R_far (p := ⟨gb467, 1, none⟩) (Kd.R_far (p := ⟨gb467, 0, none⟩) (Kd.R_types HO482.out BK467.out (by decide)) (fun _ hk => hk.2) (.int .i64 (l0.length : Int))) (fun _ hk => hk.2) (.slice Ao18 t480.length co18)) (fun _ hk => trivial), by repeat (first | (with_reducible first | exact HB.out | apply below_alloc | apply pw_below_drewN | apply below_drew1 | refine below_set ?_ GE467.out) | exact HB.out)⟩
 ·replace c3 := Bool.eq_false_iff.mpr c3
  subst c3
  have H1 : (some (0, ([] : List Int))) = some (r1, r2) := by rw [if_neg (show ¬ (false = true) by decide)] at H; exact H
  clear H
  have H := H1
  clear H1
  simp only [Option.some.injEq, Prod.mk.injEq] at H
  obtain ⟨rfl, rfl⟩ := H
  go_enter Try.func21, Try.ntmps21
  go_wp2_with (first | ((with_reducible refine gate_dst (N := 2) rfl ?_); refine box_event ?hg (N := 2) ?hd (cs := #[.int .i64 0, .slice none 0 0]) (t := 35) ?hr ?_; (case hd => rfl); (case hg => rfl); (case hr => first | (go_simp; done) | (go_simp; rfl)); intro gb467 hg w20 hbox hb; have BK467 := Aside0.mk hbox; have GW467 := Aside0.mk ((by rw [hg]; exact (below_size (Hof.Lw HB.out)) : w.heap.size ≤ gb467)); have GE467 := Aside0.mk ((by rw [hg]; exact (below_size (Hof.Lw HB.out)) : w.heap.size ≤ gb467)); replace HB := Aside0.mk (below_step (Hof.Lw HB.out) hb); clear hb hbox hg) | ((with_reducible refine gate_callee (f := 55) rfl ?_); refine goesL_ (some 8) rfl rfl Try.func55 (by kernel_rfl) rfl #[.slice A0 l0.length c0] rfl (by (try simp only [List.map_toArray, List.map_cons, List.map_nil]); first | done | rfl) ?_; (with_reducible refine (spec_AreTasks.calls k _ _ l0 false _ ?side1 ?side2 A2.out).mono ?_); (case side1 => exact Hof.Cw (Kd.C_below HR0.out HB.out)); (case side2 => exact HC0.out); rintro e w' ⟨rfl, ⟨nd, rfl⟩⟩; refine ⟨_, rfl, ?_⟩; (try (rw [drewN_self w20]; generalize hq_ : World.drewN w20 _ = w20; have n0_ : Aside0 (w20.heap[gb467]? = some (.cells #[.int .i64 0, .slice none 0 0] 35 (0, 0))) := ⟨by rw [← hq_]; exact (Hof.Bw BK467.out)⟩; have n1_ : Aside0 (Below w.heap.size w w20) := ⟨by rw [← hq_]; exact (Hof.Lw HB.out)⟩; clear BK467 HB hq_; have BK467 := n0_; have HB := n1_; clear n0_ n1_; have hcy467_0 : w20.cell? ⟨gb467, 0, none⟩ = some (.int .i64 0) := (blk_cell BK467.out 0).trans rfl; have hfy467_0 := blk_frozen BK467.out 0; have hcy467_1 : w20.cell? ⟨gb467, 1, none⟩ = some (.slice none 0 0) := (blk_cell BK467.out 1).trans rfl; have hfy467_1 := blk_frozen BK467.out 1)); obtain ⟨hcz21_0, hcz21_1, hfz21_0, hfz21_1⟩ := Hof.blk2 BK467.out))
  refine bodyPost_ret (results_cell_row rfl _ _ gb467 35 #[.int .i64 0, .slice none 0 0] (0, 0) _ rfl (by (with_reducible repeat (first | refine blk_drewN ?_ _ | refine blk_drew ?_ | refine blk_alloc ?_ _)); refine blk_put (cs := #[.int .i64 0, .slice none 0 0]) ?_ 1 _ rfl; (with_reducible repeat (first | refine blk_drewN ?_ _ | refine blk_drew ?_ | refine blk_alloc ?_ _)); refine blk_put (cs := #[.int .i64 0, .slice none 0 0]) ?_ 0 _ rfl; (with_reducible repeat (first | refine blk_drewN ?_ _ | refine blk_drew ?_ | refine blk_alloc ?_ _)); exact BK467.out) Try.underlying35 rfl (by kernel_rfl)) rfl ?_
  exact ⟨_, by first | rfl | (simp [errW_none, errW_some] <;> rfl) | (simp [*, errW_none, errW_some] <;> rfl), by first | exact Kd.R_nil _ _ _ _ _ | exact Kd.N_nil _ _ _ _ _ | exact Kd.V_nil _ _ _ _ _ | exact Kd.Q_nil _ _ _ _ _ | exact Kd.S_nil _ _ _ _ _, by repeat (first | (with_reducible first | exact HB.out | apply below_alloc | apply pw_below_drewN | apply below_drew1 | refine below_set ?_ GE467.out) | exact HB.out)⟩
end Go.Proofs.Ytmpodackojmojaa.Pr
end
section
namespace Go.Proofs.Ytmpodackojmojaa.Pr
open Go.RowKit Go.Proofs.YtmpodackojmojaaW.PrintWords Go.Proofs.YtmpodackojmojaaW.PrintLast Go.Proofs.YtmpodackojmojaaW.PrintMore
attribute [local go_sem] max2_int min2_int max_two min_two max_three min_three max_four min_four
set_option linter.unusedVariables false
set_option linter.unusedSimpArgs false
def spec_IsFamily.l0 : Nat → Int → List Int → Int → Option (Bool)
 | 0, _, _, _ => none
 | k + 1, x0, x1, x5 => if x5 < (x1.length : Int) then (if 0 ≤ x5 then ((spec_IsSet.f x0 (rd x1 x5)).bind fun t554 => (if t554 = true then (if x5 > 0 then (if 0 ≤ (wrap64 (x5 - 1)) then (if (wrap64 (x5 - 1)) < (x1.length : Int) then (if (rd x1 (wrap64 (x5 - 1))) ≥ (rd x1 x5) then (some false) else (spec_IsFamily.l0 k x0 x1 (wrap64 (x5 + 1)))) else (none)) else (none)) else (spec_IsFamily.l0 k x0 x1 (wrap64 (x5 + 1)))) else (some false))) else (none)) else ((spec_l1In.f x0 0 8).bind fun t557 => (some t557))
def spec_IsFamily.f (k : Nat) (a0 : Int) (l1 : List Int) : Option (Bool) := spec_IsFamily.l0 k a0 l1 0
set_option maxHeartbeats 8000000 in
set_option maxRecDepth 100000 in
theorem spec_IsFamily.calls (k : Nat) (a0 : Int) (A1 : Option Addr) (c1 : Nat) (l1 : List Int) (r : Bool) (w : World) (hr1 : Kd.C (Kd.int .i64) w A1 l1.length l1) (hc1 : l1.length ≤ c1) (h : spec_IsFamily.f k a0 l1 = some r) :
  Calls Try.prog 114 #[.int .i64 a0, .slice A1 l1.length c1] w fun e w' => e = .returned (.bool r) ∧ Drawn0 w w' := by
 have HR1 := Aside0.mk hr1
 have HC1 := Aside0.mk hc1
 clear hr1 hc1
 have H : (spec_IsFamily.l0 k a0 l1 0) = some r := h
 clear h
 have H' := Aside0.mk H
 clear H
 go_enter Try.func114, Try.ntmps114
 go_wp2
 repeat (go_quiet (fail); try go_wp2)
 go_loopg [5] k (fun kq v5 w' => ∃ (x5_1 : Int), v5 = .int .i64 x5_1 ∧ Aside0 (spec_IsFamily.l0 kq a0 l1 x5_1 = some r) ∧ Aside0 (kq ≤ k) ∧ Drawn0 w w')
 case atStart => exact ⟨(0), (by first | rfl | (simp; done) | (simp [*]; done)), H', ⟨Nat.le_refl _⟩, by repeat (first | exact Drawn0.refl _ | apply Drawn0.step)⟩
 case round =>
  clear H'
  try clear c1
  try clear p2
  obtain ⟨x5_1, rfl, HA, HK1, ⟨m1, rfl⟩⟩ := hrel
  cases gk with
  | zero => exact absurd HA.out (by simp [spec_IsFamily.l0])
  | succ k1 =>
   have H := HA.out
   clear HA
   simp only [spec_IsFamily.l0] at H
   by_cases c3 : x5_1 < (l1.length : Int)
   ·rw [if_pos c3] at H
    have c3b0 : decide (x5_1 < (l1.length : Int)) = true := decide_eq_true c3
    clear c3
    by_cases c4 : 0 ≤ x5_1
    ·rw [if_pos c4] at H
     have c4b0 : decide (0 ≤ x5_1) = true := decide_eq_true c4
     clear c4
     replace H := Option.bind_eq_some_iff.mp H
     obtain ⟨t554, A50, H⟩ := H
     (try dsimp only at H)
     have A5 := Aside0.mk A50
     clear A50
     by_cases c6 : t554 = true
     ·subst c6
      have H1 : (if x5_1 > 0 then (if 0 ≤ (wrap64 (x5_1 - 1)) then (if (wrap64 (x5_1 - 1)) < (l1.length : Int) then (if (rd l1 (wrap64 (x5_1 - 1))) ≥ (rd l1 x5_1) then (some false) else (spec_IsFamily.l0 k1 a0 l1 (wrap64 (x5_1 + 1)))) else (none)) else (none)) else (spec_IsFamily.l0 k1 a0 l1 (wrap64 (x5_1 + 1)))) = some r := by rw [if_pos rfl] at H; exact H
      clear H
      have H := H1
      clear H1
      by_cases c7 : x5_1 > 0
      ·rw [if_pos c7] at H
       have c7b0 : decide (0 < x5_1) = true := decide_eq_true c7
       clear c7
       obtain ⟨ji8, hji8⟩ : ∃ j_ : Int, (wrap64 (x5_1 - 1)) = j_ := ⟨_, rfl⟩
       replace H : (if 0 ≤ (ji8) then (if (ji8) < (l1.length : Int) then (if (rd l1 (ji8)) ≥ (rd l1 x5_1) then (some false) else (spec_IsFamily.l0 k1 a0 l1 (wrap64 (x5_1 + 1)))) else (none)) else (none)) = some r := by first | (rw [hji8] at H; exact H) | (simp only [hji8] at H ⊢; exact H)
       (try rw [hji8] at A5)
       have hji8w : (IntKind.i64.wrap (x5_1 - 1)) = ji8 := (i64_w _).trans hji8
       by_cases c9 : 0 ≤ (ji8)
       ·rw [if_pos c9] at H
        have c9b0 : decide (0 ≤ (ji8)) = true := decide_eq_true c9
        clear c9
        by_cases c10 : (ji8) < (l1.length : Int)
        ·rw [if_pos c10] at H
         have c10b0 : decide ((ji8) < (l1.length : Int)) = true := decide_eq_true c10
         clear c10
         by_cases c11 : (rd l1 (ji8)) ≥ (rd l1 x5_1)
         ·rw [if_pos c11] at H
          have c11b0 : decide ((rd l1 x5_1) ≤ (rd l1 (ji8))) = true := decide_eq_true c11
          clear c11
          obtain rfl := Option.some.inj H
          have p553 : 0 ≤ (x5_1 : Int) := of_decide_eq_true (by first | (with_reducible assumption) | assumption)
          have q553 : x5_1 < (l1.length : Int) := of_decide_eq_true (by first | (with_reducible assumption) | assumption)
          obtain ⟨ad553, e553, hx553_0⟩ := Kd.at_int HR1.out x5_1 p553 q553
          cases e553
          replace p553 := eq_true p553
          replace q553 := eq_true q553
          go_wp2_with (first | (go_at_call 56; (with_reducible refine (spec_IsSet.calls a0 (rd l1 x5_1) true _ A5.out).mono ?_); rintro e w' ⟨rfl, ⟨nd, rfl⟩⟩; (try first | exact ⟨rfl, _, World.drewN_drewN _ _ _⟩ | exact ⟨rfl, _, Eq.trans (World.drewN_drewN _ _ _) (congrArg (World.drewN _) (Nat.add_assoc _ _ _))⟩); have p555 : 0 ≤ ((ji8) : Int) := of_decide_eq_true (by first | (with_reducible assumption) | assumption); have q555 : (ji8) < (l1.length : Int) := of_decide_eq_true (by first | (with_reducible assumption) | assumption); obtain ⟨ad555, e555, hx555_0⟩ := Kd.at_int HR1.out (ji8) p555 q555; obtain rfl : ad553 = ad555 := (by injection e555); replace p555 := eq_true p555; replace q555 := eq_true q555; have p556 : 0 ≤ (x5_1 : Int) := of_decide_eq_true (by first | (with_reducible assumption) | assumption); have q556 : x5_1 < (l1.length : Int) := of_decide_eq_true (by first | (with_reducible assumption) | assumption); obtain ⟨ad556, e556, hx556_0⟩ := Kd.at_int HR1.out x5_1 p556 q556; obtain rfl : ad553 = ad556 := (by injection e556); replace p556 := eq_true p556; replace q556 := eq_true q556))
          repeat (go_quiet (first | (go_at_call 56; (with_reducible refine (spec_IsSet.calls a0 (rd l1 x5_1) true _ A5.out).mono ?_); rintro e w' ⟨rfl, ⟨nd, rfl⟩⟩; (try first | exact ⟨rfl, _, World.drewN_drewN _ _ _⟩ | exact ⟨rfl, _, Eq.trans (World.drewN_drewN _ _ _) (congrArg (World.drewN _) (Nat.add_assoc _ _ _))⟩); have p555 : 0 ≤ ((ji8) : Int) := of_decide_eq_true (by first | (with_reducible assumption) | assumption); have q555 : (ji8) < (l1.length : Int) := of_decide_eq_true (by first | (with_reducible assumption) | assumption); obtain ⟨ad555, e555, hx555_0⟩ := Kd.at_int HR1.out (ji8) p555 q555; obtain rfl : ad553 = ad555 := (by injection e555); replace p555 := eq_true p555; replace q555 := eq_true q555; have p556 : 0 ≤ (x5_1 : Int) := of_decide_eq_true (by first | (with_reducible assumption) | assumption); have q556 : x5_1 < (l1.length : Int) := of_decide_eq_true (by first | (with_reducible assumption) | assumption); obtain ⟨ad556, e556, hx556_0⟩ := Kd.at_int HR1.out x5_1 p556 q556; obtain rfl : ad553 = ad556 := (by injection e556); replace p556 := eq_true p556; replace q556 := eq_true q556)); try go_wp2_with (first | (go_at_call 56; (with_reducible refine (spec_IsSet.calls a0 (rd l1 x5_1) true _ A5.out).mono ?_); rintro e w' ⟨rfl, ⟨nd, rfl⟩⟩; (try first | exact ⟨rfl, _, World.drewN_drewN _ _ _⟩ | exact ⟨rfl, _, Eq.trans (World.drewN_drewN _ _ _) (congrArg (World.drewN _) (Nat.add_assoc _ _ _))⟩); have p555 : 0 ≤ ((ji8) : Int) := of_decide_eq_true (by first | (with_reducible assumption) | assumption); have q555 : (ji8) < (l1.length : Int) := of_decide_eq_true (by first | (with_reducible assumption) | assumption); obtain ⟨ad555, e555, hx555_0⟩ := Kd.at_int HR1.out (ji8) p555 q555; obtain rfl : ad553 = ad555 := (by injection e555); replace p555 := eq_true p555; replace q555 := eq_true q555; have p556 : 0 ≤ (x5_1 : Int) := of_decide_eq_true (by first | (with_reducible assumption) | assumption); have q556 : x5_1 < (l1.length : Int) := of_decide_eq_true (by first | (with_reducible assumption) | assumption); obtain ⟨ad556, e556, hx556_0⟩ := Kd.at_int HR1.out x5_1 p556 q556; obtain rfl : ad553 = ad556 := (by injection e556); replace p556 := eq_true p556; replace q556 := eq_true q556)))
          go_ret
          exact ⟨by first | rfl | (simp; done) | (simp only [← hji8] <;> (first | rfl | simp)) | (simp [*]; done), by repeat (first | exact Drawn0.refl _ | apply Drawn0.step)⟩
         ·rw [if_neg c11] at H
          have c11b0 : decide ((rd l1 x5_1) ≤ (rd l1 (ji8))) = false := decide_eq_false c11
          clear c11
          have H' := Aside0.mk H
          clear H
          have p553 : 0 ≤ (x5_1 : Int) := of_decide_eq_true (by first | (with_reducible assumption) | assumption)
          have q553 : x5_1 < (l1.length : Int) := of_decide_eq_true (by first | (with_reducible assumption) | assumption)
          obtain ⟨ad553, e553, hx553_0⟩ := Kd.at_int HR1.out x5_1 p553 q553
          cases e553
          replace p553 := eq_true p553
          replace q553 := eq_true q553
          go_wp2_with (first | (go_at_call 56; (with_reducible refine (spec_IsSet.calls a0 (rd l1 x5_1) true _ A5.out).mono ?_); rintro e w' ⟨rfl, ⟨nd, rfl⟩⟩; (try first | exact ⟨rfl, _, World.drewN_drewN _ _ _⟩ | exact ⟨rfl, _, Eq.trans (World.drewN_drewN _ _ _) (congrArg (World.drewN _) (Nat.add_assoc _ _ _))⟩); have p555 : 0 ≤ ((ji8) : Int) := of_decide_eq_true (by first | (with_reducible assumption) | assumption); have q555 : (ji8) < (l1.length : Int) := of_decide_eq_true (by first | (with_reducible assumption) | assumption); obtain ⟨ad555, e555, hx555_0⟩ := Kd.at_int HR1.out (ji8) p555 q555; obtain rfl : ad553 = ad555 := (by injection e555); replace p555 := eq_true p555; replace q555 := eq_true q555; have p556 : 0 ≤ (x5_1 : Int) := of_decide_eq_true (by first | (with_reducible assumption) | assumption); have q556 : x5_1 < (l1.length : Int) := of_decide_eq_true (by first | (with_reducible assumption) | assumption); obtain ⟨ad556, e556, hx556_0⟩ := Kd.at_int HR1.out x5_1 p556 q556; obtain rfl : ad553 = ad556 := (by injection e556); replace p556 := eq_true p556; replace q556 := eq_true q556))
          repeat (go_quiet (first | (go_at_call 56; (with_reducible refine (spec_IsSet.calls a0 (rd l1 x5_1) true _ A5.out).mono ?_); rintro e w' ⟨rfl, ⟨nd, rfl⟩⟩; (try first | exact ⟨rfl, _, World.drewN_drewN _ _ _⟩ | exact ⟨rfl, _, Eq.trans (World.drewN_drewN _ _ _) (congrArg (World.drewN _) (Nat.add_assoc _ _ _))⟩); have p555 : 0 ≤ ((ji8) : Int) := of_decide_eq_true (by first | (with_reducible assumption) | assumption); have q555 : (ji8) < (l1.length : Int) := of_decide_eq_true (by first | (with_reducible assumption) | assumption); obtain ⟨ad555, e555, hx555_0⟩ := Kd.at_int HR1.out (ji8) p555 q555; obtain rfl : ad553 = ad555 := (by injection e555); replace p555 := eq_true p555; replace q555 := eq_true q555; have p556 : 0 ≤ (x5_1 : Int) := of_decide_eq_true (by first | (with_reducible assumption) | assumption); have q556 : x5_1 < (l1.length : Int) := of_decide_eq_true (by first | (with_reducible assumption) | assumption); obtain ⟨ad556, e556, hx556_0⟩ := Kd.at_int HR1.out x5_1 p556 q556; obtain rfl : ad553 = ad556 := (by injection e556); replace p556 := eq_true p556; replace q556 := eq_true q556)); try go_wp2_with (first | (go_at_call 56; (with_reducible refine (spec_IsSet.calls a0 (rd l1 x5_1) true _ A5.out).mono ?_); rintro e w' ⟨rfl, ⟨nd, rfl⟩⟩; (try first | exact ⟨rfl, _, World.drewN_drewN _ _ _⟩ | exact ⟨rfl, _, Eq.trans (World.drewN_drewN _ _ _) (congrArg (World.drewN _) (Nat.add_assoc _ _ _))⟩); have p555 : 0 ≤ ((ji8) : Int) := of_decide_eq_true (by first | (with_reducible assumption) | assumption); have q555 : (ji8) < (l1.length : Int) := of_decide_eq_true (by first | (with_reducible assumption) | assumption); obtain ⟨ad555, e555, hx555_0⟩ := Kd.at_int HR1.out (ji8) p555 q555; obtain rfl : ad553 = ad555 := (by injection e555); replace p555 := eq_true p555; replace q555 := eq_true q555; have p556 : 0 ≤ (x5_1 : Int) := of_decide_eq_true (by first | (with_reducible assumption) | assumption); have q556 : x5_1 < (l1.length : Int) := of_decide_eq_true (by first | (with_reducible assumption) | assumption); obtain ⟨ad556, e556, hx556_0⟩ := Kd.at_int HR1.out x5_1 p556 q556; obtain rfl : ad553 = ad556 := (by injection e556); replace p556 := eq_true p556; replace q556 := eq_true q556)))
          go_roundg k1
          case measure => have := HK1.out; omega
          case rel => exact ⟨(wrap64 (x5_1 + 1)), (by first | rfl | (simp; done) | (simp [*]; done)), H', ⟨by have := HK1.out; omega⟩, by repeat (first | exact Drawn0.refl _ | apply Drawn0.step)⟩
        ·rw [if_neg c10] at H
         exact absurd H (by simp)
       ·rw [if_neg c9] at H
        exact absurd H (by simp)
      ·rw [if_neg c7] at H
       have c7b0 : decide (0 < x5_1) = false := decide_eq_false c7
       clear c7
       have H' := Aside0.mk H
       clear H
       have p553 : 0 ≤ (x5_1 : Int) := of_decide_eq_true (by first | (with_reducible assumption) | assumption)
       have q553 : x5_1 < (l1.length : Int) := of_decide_eq_true (by first | (with_reducible assumption) | assumption)
       obtain ⟨ad553, e553, hx553_0⟩ := Kd.at_int HR1.out x5_1 p553 q553
       cases e553
       replace p553 := eq_true p553
       replace q553 := eq_true q553
       go_wp2_with (first | (go_at_call 56; (with_reducible refine (spec_IsSet.calls a0 (rd l1 x5_1) true _ A5.out).mono ?_); rintro e w' ⟨rfl, ⟨nd, rfl⟩⟩; (try first | exact ⟨rfl, _, World.drewN_drewN _ _ _⟩ | exact ⟨rfl, _, Eq.trans (World.drewN_drewN _ _ _) (congrArg (World.drewN _) (Nat.add_assoc _ _ _))⟩)))
       repeat (go_quiet (first | (go_at_call 56; (with_reducible refine (spec_IsSet.calls a0 (rd l1 x5_1) true _ A5.out).mono ?_); rintro e w' ⟨rfl, ⟨nd, rfl⟩⟩; (try first | exact ⟨rfl, _, World.drewN_drewN _ _ _⟩ | exact ⟨rfl, _, Eq.trans (World.drewN_drewN _ _ _) (congrArg (World.drewN _) (Nat.add_assoc _ _ _))⟩))); try go_wp2_with (first | (go_at_call 56; (with_reducible refine (spec_IsSet.calls a0 (rd l1 x5_1) true _ A5.out).mono ?_); rintro e w' ⟨rfl, ⟨nd, rfl⟩⟩; (try first | exact ⟨rfl, _, World.drewN_drewN _ _ _⟩ | exact ⟨rfl, _, Eq.trans (World.drewN_drewN _ _ _) (congrArg (World.drewN _) (Nat.add_assoc _ _ _))⟩))))
       go_roundg k1
       case measure => have := HK1.out; omega
       case rel => exact ⟨(wrap64 (x5_1 + 1)), (by first | rfl | (simp; done) | (simp [*]; done)), H', ⟨by have := HK1.out; omega⟩, by repeat (first | exact Drawn0.refl _ | apply Drawn0.step)⟩
     ·replace c6 := Bool.eq_false_iff.mpr c6
      subst c6
      have H1 : (some false) = some r := by rw [if_neg (show ¬ (false = true) by decide)] at H; exact H
      clear H
      have H := H1
      clear H1
      obtain rfl := Option.some.inj H
      have p553 : 0 ≤ (x5_1 : Int) := of_decide_eq_true (by first | (with_reducible assumption) | assumption)
      have q553 : x5_1 < (l1.length : Int) := of_decide_eq_true (by first | (with_reducible assumption) | assumption)
      obtain ⟨ad553, e553, hx553_0⟩ := Kd.at_int HR1.out x5_1 p553 q553
      cases e553
      replace p553 := eq_true p553
      replace q553 := eq_true q553
      go_wp2_with (first | (go_at_call 56; (with_reducible refine (spec_IsSet.calls a0 (rd l1 x5_1) false _ A5.out).mono ?_); rintro e w' ⟨rfl, ⟨nd, rfl⟩⟩; (try first | exact ⟨rfl, _, World.drewN_drewN _ _ _⟩ | exact ⟨rfl, _, Eq.trans (World.drewN_drewN _ _ _) (congrArg (World.drewN _) (Nat.add_assoc _ _ _))⟩)))
      repeat (go_quiet (first | (go_at_call 56; (with_reducible refine (spec_IsSet.calls a0 (rd l1 x5_1) false _ A5.out).mono ?_); rintro e w' ⟨rfl, ⟨nd, rfl⟩⟩; (try first | exact ⟨rfl, _, World.drewN_drewN _ _ _⟩ | exact ⟨rfl, _, Eq.trans (World.drewN_drewN _ _ _) (congrArg (World.drewN _) (Nat.add_assoc _ _ _))⟩))); try go_wp2_with (first | (go_at_call 56; (with_reducible refine (spec_IsSet.calls a0 (rd l1 x5_1) false _ A5.out).mono ?_); rintro e w' ⟨rfl, ⟨nd, rfl⟩⟩; (try first | exact ⟨rfl, _, World.drewN_drewN _ _ _⟩ | exact ⟨rfl, _, Eq.trans (World.drewN_drewN _ _ _) (congrArg (World.drewN _) (Nat.add_assoc _ _ _))⟩))))
      go_ret
      exact ⟨by first | rfl | (simp; done) | (simp [*]; done), by repeat (first | exact Drawn0.refl _ | apply Drawn0.step)⟩
    ·rw [if_neg c4] at H
     exact absurd H (by simp)
   ·rw [if_neg c3] at H
    have c3b0 : decide (x5_1 < (l1.length : Int)) = false := decide_eq_false c3
    clear c3
    replace H := Option.bind_eq_some_iff.mp H
    obtain ⟨t557, A120, H⟩ := H
    (try dsimp only at H)
    have A12 := Aside0.mk A120
    clear A120
    obtain rfl := Option.some.inj H
    go_wp2_with (first | (go_at_call 89; (with_reducible refine (spec_l1In.calls a0 0 8 t557 _ A12.out).mono ?_); rintro e w' ⟨rfl, ⟨nd, rfl⟩⟩; (try first | exact ⟨rfl, _, World.drewN_drewN _ _ _⟩ | exact ⟨rfl, _, Eq.trans (World.drewN_drewN _ _ _) (congrArg (World.drewN _) (Nat.add_assoc _ _ _))⟩)))
    repeat (go_quiet (first | (go_at_call 89; (with_reducible refine (spec_l1In.calls a0 0 8 t557 _ A12.out).mono ?_); rintro e w' ⟨rfl, ⟨nd, rfl⟩⟩; (try first | exact ⟨rfl, _, World.drewN_drewN _ _ _⟩ | exact ⟨rfl, _, Eq.trans (World.drewN_drewN _ _ _) (congrArg (World.drewN _) (Nat.add_assoc _ _ _))⟩))); try go_wp2_with (first | (go_at_call 89; (with_reducible refine (spec_l1In.calls a0 0 8 t557 _ A12.out).mono ?_); rintro e w' ⟨rfl, ⟨nd, rfl⟩⟩; (try first | exact ⟨rfl, _, World.drewN_drewN _ _ _⟩ | exact ⟨rfl, _, Eq.trans (World.drewN_drewN _ _ _) (congrArg (World.drewN _) (Nat.add_assoc _ _ _))⟩))))
    go_ret
    exact ⟨by first | rfl | (simp; done) | (simp [*]; done), by repeat (first | exact Drawn0.refl _ | apply Drawn0.step)⟩
end Go.Proofs.Ytmpodackojmojaa.Pr
end
section
namespace Go.Proofs.Ytmpodackojmojaa.Pr
open Go.RowKit Go.Proofs.YtmpodackojmojaaW.PrintWords Go.Proofs.YtmpodackojmojaaW.PrintLast Go.Proofs.YtmpodackojmojaaW.PrintMore
attribute [local go_sem] max2_int min2_int max_two min_two max_three min_three max_four min_four
set_option linter.unusedVariables false
set_option linter.unusedSimpArgs false
def spec_HasSet.l0 : Nat → List Int → Int → Int → Option (Bool)
 | 0, _, _, _ => none
 | k + 1, x0, x1, x5 => if x5 < (x0.length : Int) then (if 0 ≤ x5 then (if (rd x0 x5) = x1 then (some true) else (spec_HasSet.l0 k x0 x1 (wrap64 (x5 + 1)))) else (none)) else (some false)
def spec_HasSet.f (k : Nat) (l0 : List Int) (a1 : Int) : Option (Bool) := spec_HasSet.l0 k l0 a1 0
set_option maxHeartbeats 8000000 in
set_option maxRecDepth 100000 in
theorem spec_HasSet.calls (k : Nat) (A0 : Option Addr) (c0 : Nat) (l0 : List Int) (a1 : Int) (r : Bool) (w : World) (hr0 : Kd.C (Kd.int .i64) w A0 l0.length l0) (hc0 : l0.length ≤ c0) (h : spec_HasSet.f k l0 a1 = some r) :
  Calls Try.prog 142 #[.slice A0 l0.length c0, .int .i64 a1] w fun e w' => e = .returned (.bool r) ∧ Drawn0 w w' := by
 have HR0 := Aside0.mk hr0
 have HC0 := Aside0.mk hc0
 clear hr0 hc0
 have H : (spec_HasSet.l0 k l0 a1 0) = some r := h
 clear h
 have H' := Aside0.mk H
 clear H
 go_enter Try.func142, Try.ntmps142
 go_wp2
 go_loopg [5] k (fun kq v5 w' => ∃ (x5_1 : Int), v5 = .int .i64 x5_1 ∧ Aside0 (spec_HasSet.l0 kq l0 a1 x5_1 = some r) ∧ Aside0 (kq ≤ k) ∧ Drawn0 w w')
 case atStart => exact ⟨(0), (by first | rfl | (simp; done) | (simp [*]; done)), H', ⟨Nat.le_refl _⟩, by repeat (first | exact Drawn0.refl _ | apply Drawn0.step)⟩
 case round =>
  clear H'
  try clear c1
  try clear p2
  obtain ⟨x5_1, rfl, HA, HK1, ⟨m1, rfl⟩⟩ := hrel
  cases gk with
  | zero => exact absurd HA.out (by simp [spec_HasSet.l0])
  | succ k1 =>
   have H := HA.out
   clear HA
   simp only [spec_HasSet.l0] at H
   by_cases c3 : x5_1 < (l0.length : Int)
   ·rw [if_pos c3] at H
    have c3b0 : decide (x5_1 < (l0.length : Int)) = true := decide_eq_true c3
    clear c3
    by_cases c4 : 0 ≤ x5_1
    ·rw [if_pos c4] at H
     have c4b0 : decide (0 ≤ x5_1) = true := decide_eq_true c4
     clear c4
     by_cases c5 : (rd l0 x5_1) = a1
     ·rw [if_pos c5] at H
      have c5b0 : ((rd l0 x5_1) == a1) = true := beq_iff_eq.mpr c5
      have c5b1 : ((rd l0 x5_1) != a1) = false := bne_eq_false_iff_eq.mpr c5
      clear c5
      obtain rfl := Option.some.inj H
      have p558 : 0 ≤ (x5_1 : Int) := of_decide_eq_true (by first | (with_reducible assumption) | assumption)
      have q558 : x5_1 < (l0.length : Int) := of_decide_eq_true (by first | (with_reducible assumption) | assumption)
      obtain ⟨ad558, e558, hx558_0⟩ := Kd.at_int HR0.out x5_1 p558 q558
      cases e558
      replace p558 := eq_true p558
      replace q558 := eq_true q558
      go_wp2
      go_ret
      exact ⟨by first | rfl | (simp; done) | (simp [*]; done), by repeat (first | exact Drawn0.refl _ | apply Drawn0.step)⟩
     ·rw [if_neg c5] at H
      have c5b0 : ((rd l0 x5_1) == a1) = false := beq_eq_false_iff_ne.mpr c5
      have c5b1 : ((rd l0 x5_1) != a1) = true := bne_iff_ne.mpr c5
      have H' := Aside0.mk H
      clear H
      have p558 : 0 ≤ (x5_1 : Int) := of_decide_eq_true (by first | (with_reducible assumption) | assumption)
      have q558 : x5_1 < (l0.length : Int) := of_decide_eq_true (by first | (with_reducible assumption) | assumption)
      obtain ⟨ad558, e558, hx558_0⟩ := Kd.at_int HR0.out x5_1 p558 q558
      cases e558
      replace p558 := eq_true p558
      replace q558 := eq_true q558
      go_wp2
      go_roundg k1
      case measure => have := HK1.out; omega
      case rel => exact ⟨(wrap64 (x5_1 + 1)), (by first | rfl | (simp; done) | (simp [*]; done)), H', ⟨by have := HK1.out; omega⟩, by repeat (first | exact Drawn0.refl _ | apply Drawn0.step)⟩
    ·rw [if_neg c4] at H
     exact absurd H (by simp)
   ·rw [if_neg c3] at H
    have c3b0 : decide (x5_1 < (l0.length : Int)) = false := decide_eq_false c3
    clear c3
    obtain rfl := Option.some.inj H
    go_wp2
    go_ret
    exact ⟨by first | rfl | (simp; done) | (simp [*]; done), by repeat (first | exact Drawn0.refl _ | apply Drawn0.step)⟩
end Go.Proofs.Ytmpodackojmojaa.Pr
end
section
namespace Go.Proofs.Ytmpodackojmojaa.Pr
open Go.RowKit Go.Proofs.YtmpodackojmojaaW.PrintWords Go.Proofs.YtmpodackojmojaaW.PrintLast Go.Proofs.YtmpodackojmojaaW.PrintMore
attribute [local go_sem] max2_int min2_int max_two min_two max_three min_three max_four min_four
set_option linter.unusedVariables false
set_option linter.unusedSimpArgs false
def spec_l4Exchange.l0 : Nat → Int → Int → Int → Int → Int → List Int → Option (Bool)
 | 0, _, _, _, _, _, _ => none
 | k + 1, x1, x2, x3, x9, x560000, x560001 => if x9 < x560000 then ((spec_l2Has.f x2 x9).bind fun t560 => (if t560 = true then ((spec_l2Has.f x1 x9).bind fun t561 => (if t561 = true then (spec_l4Exchange.l0 k x1 x2 x3 (wrap64 (x9 + 1)) x560000 x560001) else (if 0 ≤ (IntKind.u64.wrap (x3)) then (if 0 ≤ (IntKind.u64.wrap (x9)) then ((spec_HasSet.f k x560001 (wrap64 ((wrap64 (x1 - (shl .i64 1 (IntKind.u64.wrap (x3))))) + (shl .i64 1 (IntKind.u64.wrap (x9)))))).bind fun t562 => (if t562 = true then (some true) else (spec_l4Exchange.l0 k x1 x2 x3 (wrap64 (x9 + 1)) x560000 x560001))) else (none)) else (none)))) else (spec_l4Exchange.l0 k x1 x2 x3 (wrap64 (x9 + 1)) x560000 x560001))) else (some false)
def spec_l4Exchange.f (k : Nat) (a0_0 : Int) (l0_1 : List Int) (a1 : Int) (a2 : Int) (a3 : Int) : Option (Bool) := spec_l4Exchange.l0 k a1 a2 a3 0 a0_0 l0_1
set_option maxHeartbeats 8000000 in
set_option maxRecDepth 100000 in
theorem spec_l4Exchange.calls (k : Nat) (a0_0 : Int) (A0_1 : Option Addr) (c0_1 : Nat) (l0_1 : List Int) (a1 : Int) (a2 : Int) (a3 : Int) (r : Bool) (w : World) (hr0_1 : Kd.C (Kd.int .i64) w A0_1 l0_1.length l0_1) (hc0_1 : l0_1.length ≤ c0_1) (h : spec_l4Exchange.f k a0_0 l0_1 a1 a2 a3 = some r) :
  Calls Try.prog 140 #[.agg #[.int .i64 a0_0, .slice A0_1 l0_1.length c0_1], .int .i64 a1, .int .i64 a2, .int .i64 a3] w fun e w' => e = .returned (.bool r) ∧ Below w.heap.size w w' := by
 have hu35 := Try.underlying35
 have HR0_1 := Aside0.mk hr0_1
 have HC0_1 := Aside0.mk hc0_1
 clear hr0_1 hc0_1
 have HB := Aside0.mk (Below.refl w.heap.size w)
 have H : (spec_l4Exchange.l0 k a1 a2 a3 0 a0_0 l0_1) = some r := h
 clear h
 have H' := Aside0.mk H
 clear H
 go_enter Try.func140, Try.ntmps140
 go_wp2_with (first | ((with_reducible refine gate_dst (N := 4) rfl ?_); refine box_event ?hg (N := 4) ?hd (cs := #[.int .i64 a0_0, .slice A0_1 l0_1.length c0_1]) (t := 35) ?hr ?_; (case hd => rfl); (case hg => rfl); (case hr => first | (go_simp; done) | (go_simp; rfl)); intro gb559 hg w5 hbox hb; have BK559 := Aside0.mk hbox; have GW559 := Aside0.mk ((by rw [hg]; exact (below_size (Hof.Lw HB.out)) : w.heap.size ≤ gb559)); have GE559 := Aside0.mk ((by rw [hg]; exact (below_size (Hof.Lw HB.out)) : w.heap.size ≤ gb559)); replace HB := Aside0.mk (below_step (Hof.Lw HB.out) hb); clear hb hbox hg))
 go_loopg [9] k (fun kq v9 w' => ∃ (x9_1 : Int), v9 = .int .i64 x9_1 ∧ Aside0 (spec_l4Exchange.l0 kq a1 a2 a3 x9_1 a0_0 l0_1 = some r) ∧ Aside0 (kq ≤ k) ∧ Aside0 (w'.heap[gb559]? = some (.cells #[.int .i64 a0_0, (.slice A0_1 l0_1.length c0_1)] 35 (0, 0))) ∧ Aside0 (Below w.heap.size w w'))
 case atStart => exact ⟨(0), (by first | rfl | (simp; done) | (simp [*]; done)), H', ⟨Nat.le_refl _⟩, ⟨Hof.Bw BK559.out⟩, ⟨Hof.Lw HB.out⟩⟩
 case round =>
  clear H'
  try clear c1
  try clear p2
  obtain ⟨x9_1, rfl, HA, HK1, BK559, HB⟩ := hrel
  cases gk with
  | zero => exact absurd HA.out (by simp [spec_l4Exchange.l0])
  | succ k1 =>
   have H := HA.out
   clear HA
   simp only [spec_l4Exchange.l0] at H
   by_cases c6 : x9_1 < a0_0
   ·rw [if_pos c6] at H
    have c6b0 : decide (x9_1 < a0_0) = true := decide_eq_true c6
    clear c6
    replace H := Option.bind_eq_some_iff.mp H
    obtain ⟨t560, A70, H⟩ := H
    (try dsimp only at H)
    have A7 := Aside0.mk A70
    clear A70
    by_cases c8 : t560 = true
    ·subst c8
     have H1 : ((spec_l2Has.f a1 x9_1).bind fun t561 => (if t561 = true then (spec_l4Exchange.l0 k1 a1 a2 a3 (wrap64 (x9_1 + 1)) a0_0 l0_1) else (if 0 ≤ (IntKind.u64.wrap (a3)) then (if 0 ≤ (IntKind.u64.wrap (x9_1)) then ((spec_HasSet.f k1 l0_1 (wrap64 ((wrap64 (a1 - (shl .i64 1 (IntKind.u64.wrap (a3))))) + (shl .i64 1 (IntKind.u64.wrap (x9_1)))))).bind fun t562 => (if t562 = true then (some true) else (spec_l4Exchange.l0 k1 a1 a2 a3 (wrap64 (x9_1 + 1)) a0_0 l0_1))) else (none)) else (none)))) = some r := by rw [if_pos rfl] at H; exact H
     clear H
     have H := H1
     clear H1
     replace H := Option.bind_eq_some_iff.mp H
     obtain ⟨t561, A90, H⟩ := H
     (try dsimp only at H)
     have A9 := Aside0.mk A90
     clear A90
     by_cases c10 : t561 = true
     ·subst c10
      have H1 : (spec_l4Exchange.l0 k1 a1 a2 a3 (wrap64 (x9_1 + 1)) a0_0 l0_1) = some r := by rw [if_pos rfl] at H; exact H
      clear H
      have H := H1
      clear H1
      have H' := Aside0.mk H
      clear H
      obtain ⟨hcz11_0, hcz11_1, hfz11_0, hfz11_1⟩ := Hof.blk2 BK559.out
      go_wp2_with (first | ((with_reducible refine gate_callee (f := 58) rfl ?_); refine goesL_ (some 18) rfl rfl Try.func58 (by kernel_rfl) rfl #[.int .i64 a2, .int .i64 x9_1] rfl (by (try simp only [List.map_toArray, List.map_cons, List.map_nil]); first | done | rfl) ?_; (with_reducible refine (spec_l2Has.calls a2 x9_1 true _ A7.out).mono ?_); rintro e w' ⟨rfl, ⟨nd, rfl⟩⟩; refine ⟨_, rfl, ?_⟩) | (go_at_call 58; (with_reducible refine (spec_l2Has.calls a1 x9_1 true _ A9.out).mono ?_); rintro e w' ⟨rfl, ⟨nd, rfl⟩⟩))
      go_roundg k1
      case measure => have := HK1.out; omega
      case rel => exact ⟨(wrap64 (x9_1 + 1)), (by first | rfl | (simp; done) | (simp [*]; done)), H', ⟨by have := HK1.out; omega⟩, ⟨Hof.Bw BK559.out⟩, ⟨Hof.Lw HB.out⟩⟩
     ·replace c10 := Bool.eq_false_iff.mpr c10
      subst c10
      have H1 : (if 0 ≤ (IntKind.u64.wrap (a3)) then (if 0 ≤ (IntKind.u64.wrap (x9_1)) then ((spec_HasSet.f k1 l0_1 (wrap64 ((wrap64 (a1 - (shl .i64 1 (IntKind.u64.wrap (a3))))) + (shl .i64 1 (IntKind.u64.wrap (x9_1)))))).bind fun t562 => (if t562 = true then (some true) else (spec_l4Exchange.l0 k1 a1 a2 a3 (wrap64 (x9_1 + 1)) a0_0 l0_1))) else (none)) else (none)) = some r := by rw [if_neg (show ¬ (false = true) by decide)] at H; exact H
      clear H
      have H := H1
      clear H1
      obtain ⟨ji12, hji12⟩ : ∃ j_ : Int, (IntKind.u64.wrap (a3)) = j_ := ⟨_, rfl⟩
      replace H : (if 0 ≤ (ji12) then (if 0 ≤ (IntKind.u64.wrap (x9_1)) then ((spec_HasSet.f k1 l0_1 (wrap64 ((wrap64 (a1 - (shl .i64 1 (ji12)))) + (shl .i64 1 (IntKind.u64.wrap (x9_1)))))).bind fun t562 => (if t562 = true then (some true) else (spec_l4Exchange.l0 k1 a1 a2 a3 (wrap64 (x9_1 + 1)) a0_0 l0_1))) else (none)) else (none)) = some r := by first | (rw [hji12] at H; exact H) | (simp only [hji12] at H ⊢; exact H)
      (try rw [hji12] at A7)
      (try rw [hji12] at A9)
      by_cases c13 : 0 ≤ (ji12)
      ·rw [if_pos c13] at H
       have c13b0 := eq_true c13
       have c13b1 : decide (0 ≤ (ji12)) = true := decide_eq_true c13
       clear c13
       obtain ⟨ji14, hji14⟩ : ∃ j_ : Int, (shl .i64 1 (ji12)) = j_ := ⟨_, rfl⟩
       replace H : (if 0 ≤ (IntKind.u64.wrap (x9_1)) then ((spec_HasSet.f k1 l0_1 (wrap64 ((wrap64 (a1 - (ji14))) + (shl .i64 1 (IntKind.u64.wrap (x9_1)))))).bind fun t562 => (if t562 = true then (some true) else (spec_l4Exchange.l0 k1 a1 a2 a3 (wrap64 (x9_1 + 1)) a0_0 l0_1))) else (none)) = some r := by first | (rw [hji14] at H; exact H) | (simp only [hji14] at H ⊢; exact H)
       (try rw [hji14] at A7)
       (try rw [hji14] at A9)
       have hji14_ : (IntKind.i64.wrap (1 * 2 ^ min (ji12).toNat 64)) = ji14 := hji14
       have hji14z : (ji12) ≤ 64 → (IntKind.i64.wrap (1 * 2 ^ (ji12).toNat)) = ji14 := shl_small hji14
       have hji14u : (IntKind.i64.wrap (2 ^ min (ji12).toNat 64)) = ji14 := by have h_ := hji14_; rw [Int.one_mul] at h_; exact h_
       have hji14v : (ji12) ≤ 64 → (IntKind.i64.wrap (2 ^ (ji12).toNat)) = ji14 := fun hle_ => by have h_ := hji14z hle_; rw [Int.one_mul] at h_; exact h_
       have hji14y : (wrap64 (1 * 2 ^ min (ji12).toNat 64)) = ji14 := (i64_w _).symm.trans hji14_
       have hji14x : (ji12) ≤ 64 → (wrap64 (1 * 2 ^ (ji12).toNat)) = ji14 := fun h_ => (i64_w _).symm.trans (hji14z h_)
       obtain ⟨ji15, hji15⟩ : ∃ j_ : Int, (IntKind.u64.wrap (x9_1)) = j_ := ⟨_, rfl⟩
       replace H : (if 0 ≤ (ji15) then ((spec_HasSet.f k1 l0_1 (wrap64 ((wrap64 (a1 - (ji14))) + (shl .i64 1 (ji15))))).bind fun t562 => (if t562 = true then (some true) else (spec_l4Exchange.l0 k1 a1 a2 a3 (wrap64 (x9_1 + 1)) a0_0 l0_1))) else (none)) = some r := by first | (rw [hji15] at H; exact H) | (simp only [hji15] at H ⊢; exact H)
       (try rw [hji15] at A7)
       (try rw [hji15] at A9)
       by_cases c16 : 0 ≤ (ji15)
       ·rw [if_pos c16] at H
        have c16b0 := eq_true c16
        have c16b1 : decide (0 ≤ (ji15)) = true := decide_eq_true c16
        clear c16
        obtain ⟨ji17, hji17⟩ : ∃ j_ : Int, (shl .i64 1 (ji15)) = j_ := ⟨_, rfl⟩
        replace H : ((spec_HasSet.f k1 l0_1 (wrap64 ((wrap64 (a1 - (ji14))) + (ji17)))).bind fun t562 => (if t562 = true then (some true) else (spec_l4Exchange.l0 k1 a1 a2 a3 (wrap64 (x9_1 + 1)) a0_0 l0_1))) = some r := by first | (rw [hji17] at H; exact H) | (simp only [hji17] at H ⊢; exact H)
        (try rw [hji17] at A7)
        (try rw [hji17] at A9)
        have hji17_ : (IntKind.i64.wrap (1 * 2 ^ min (ji15).toNat 64)) = ji17 := hji17
        have hji17z : (ji15) ≤ 64 → (IntKind.i64.wrap (1 * 2 ^ (ji15).toNat)) = ji17 := shl_small hji17
        have hji17u : (IntKind.i64.wrap (2 ^ min (ji15).toNat 64)) = ji17 := by have h_ := hji17_; rw [Int.one_mul] at h_; exact h_
        have hji17v : (ji15) ≤ 64 → (IntKind.i64.wrap (2 ^ (ji15).toNat)) = ji17 := fun hle_ => by have h_ := hji17z hle_; rw [Int.one_mul] at h_; exact h_
        have hji17y : (wrap64 (1 * 2 ^ min (ji15).toNat 64)) = ji17 := (i64_w _).symm.trans hji17_
        have hji17x : (ji15) ≤ 64 → (wrap64 (1 * 2 ^ (ji15).toNat)) = ji17 := fun h_ => (i64_w _).symm.trans (hji17z h_)
        replace H := Option.bind_eq_some_iff.mp H
        obtain ⟨t562, A180, H⟩ := H
        (try dsimp only at H)
        have A18 := Aside0.mk A180
        clear A180
        by_cases c19 : t562 = true
        ·subst c19
         have H1 : (some true) = some r := by rw [if_pos rfl] at H; exact H
         clear H
         have H := H1
         clear H1
         obtain rfl := Option.some.inj H
         obtain ⟨hcz20_0, hcz20_1, hfz20_0, hfz20_1⟩ := Hof.blk2 BK559.out
         go_wp2_with (first | ((with_reducible refine gate_callee (f := 58) rfl ?_); refine goesL_ (some 18) rfl rfl Try.func58 (by kernel_rfl) rfl #[.int .i64 a2, .int .i64 x9_1] rfl (by (try simp only [List.map_toArray, List.map_cons, List.map_nil]); first | done | rfl) ?_; (with_reducible refine (spec_l2Has.calls a2 x9_1 true _ A7.out).mono ?_); rintro e w' ⟨rfl, ⟨nd, rfl⟩⟩; refine ⟨_, rfl, ?_⟩) | (go_at_call 58; (with_reducible refine (spec_l2Has.calls a1 x9_1 false _ A9.out).mono ?_); rintro e w' ⟨rfl, ⟨nd, rfl⟩⟩) | (go_at_call 142; (with_reducible refine (spec_HasSet.calls k1 _ _ l0_1 (wrap64 ((wrap64 (a1 - (ji14))) + (ji17))) true _ ?side1 ?side2 A18.out).mono ?_); (case side1 => exact Hof.Cw (Kd.C_below HR0_1.out HB.out)); (case side2 => exact HC0_1.out); rintro e w' ⟨rfl, ⟨nd, rfl⟩⟩))
         go_ret
         exact ⟨by first | rfl | (simp [errW_none, errW_some] <;> rfl) | (simp only [← hji12, ← hji14, ← hji15, ← hji17]; first | rfl | (simp [errW_none, errW_some] <;> rfl)) | (simp [*, errW_none, errW_some] <;> rfl), by repeat (first | (with_reducible first | exact HB.out | apply below_alloc | apply pw_below_drewN | apply below_drew1 | refine below_set ?_ GE559.out) | exact HB.out)⟩
        ·replace c19 := Bool.eq_false_iff.mpr c19
         subst c19
         have H1 : (spec_l4Exchange.l0 k1 a1 a2 a3 (wrap64 (x9_1 + 1)) a0_0 l0_1) = some r := by rw [if_neg (show ¬ (false = true) by decide)] at H; exact H
         clear H
         have H := H1
         clear H1
         have H' := Aside0.mk H
         clear H
         obtain ⟨hcz21_0, hcz21_1, hfz21_0, hfz21_1⟩ := Hof.blk2 BK559.out
         go_wp2_with (first | ((with_reducible refine gate_callee (f := 58) rfl ?_); refine goesL_ (some 18) rfl rfl Try.func58 (by kernel_rfl) rfl #[.int .i64 a2, .int .i64 x9_1] rfl (by (try simp only [List.map_toArray, List.map_cons, List.map_nil]); first | done | rfl) ?_; (with_reducible refine (spec_l2Has.calls a2 x9_1 true _ A7.out).mono ?_); rintro e w' ⟨rfl, ⟨nd, rfl⟩⟩; refine ⟨_, rfl, ?_⟩) | (go_at_call 58; (with_reducible refine (spec_l2Has.calls a1 x9_1 false _ A9.out).mono ?_); rintro e w' ⟨rfl, ⟨nd, rfl⟩⟩) | (go_at_call 142; (with_reducible refine (spec_HasSet.calls k1 _ _ l0_1 (wrap64 ((wrap64 (a1 - (ji14))) + (ji17))) false _ ?side1 ?side2 A18.out).mono ?_); (case side1 => exact Hof.Cw (Kd.C_below HR0_1.out HB.out)); (case side2 => exact HC0_1.out); rintro e w' ⟨rfl, ⟨nd, rfl⟩⟩))
         go_roundg k1
         case measure => have := HK1.out; omega
         case rel => exact ⟨(wrap64 (x9_1 + 1)), (by first | rfl | (simp; done) | (simp [*]; done)), H', ⟨by have := HK1.out; omega⟩, ⟨Hof.Bw BK559.out⟩, ⟨Hof.Lw HB.out⟩⟩
       ·rw [if_neg c16] at H
        exact absurd H (by simp)
      ·rw [if_neg c13] at H
       exact absurd H (by simp)
    ·replace c8 := Bool.eq_false_iff.mpr c8
     subst c8
     have H1 : (spec_l4Exchange.l0 k1 a1 a2 a3 (wrap64 (x9_1 + 1)) a0_0 l0_1) = some r := by rw [if_neg (show ¬ (false = true) by decide)] at H; exact H
     clear H
     have H := H1
     clear H1
     have H' := Aside0.mk H
     clear H
     obtain ⟨hcz22_0, hcz22_1, hfz22_0, hfz22_1⟩ := Hof.blk2 BK559.out
     go_wp2_with (first | ((with_reducible refine gate_callee (f := 58) rfl ?_); refine goesL_ (some 18) rfl rfl Try.func58 (by kernel_rfl) rfl #[.int .i64 a2, .int .i64 x9_1] rfl (by (try simp only [List.map_toArray, List.map_cons, List.map_nil]); first | done | rfl) ?_; (with_reducible refine (spec_l2Has.calls a2 x9_1 false _ A7.out).mono ?_); rintro e w' ⟨rfl, ⟨nd, rfl⟩⟩; refine ⟨_, rfl, ?_⟩))
     go_roundg k1
     case measure => have := HK1.out; omega
     case rel => exact ⟨(wrap64 (x9_1 + 1)), (by first | rfl | (simp; done) | (simp [*]; done)), H', ⟨by have := HK1.out; omega⟩, ⟨Hof.Bw BK559.out⟩, ⟨Hof.Lw HB.out⟩⟩
   ·rw [if_neg c6] at H
    have c6b0 : decide (x9_1 < a0_0) = false := decide_eq_false c6
    clear c6
    obtain rfl := Option.some.inj H
    obtain ⟨hcz23_0, hcz23_1, hfz23_0, hfz23_1⟩ := Hof.blk2 BK559.out
    go_wp2
    go_ret
    exact ⟨by first | rfl | (simp [errW_none, errW_some] <;> rfl) | (simp [*, errW_none, errW_some] <;> rfl), by repeat (first | (with_reducible first | exact HB.out | apply below_alloc | apply pw_below_drewN | apply below_drew1 | refine below_set ?_ GE559.out) | exact HB.out)⟩
end Go.Proofs.Ytmpodackojmojaa.Pr
end
section
namespace Go.Proofs.Ytmpodackojmojaa.Pr
open Go.RowKit Go.Proofs.YtmpodackojmojaaW.PrintWords Go.Proofs.YtmpodackojmojaaW.PrintLast Go.Proofs.YtmpodackojmojaaW.PrintMore
attribute [local go_sem] max2_int min2_int max_two min_two max_three min_three max_four min_four
set_option linter.unusedVariables false
set_option linter.unusedSimpArgs false
mutual
def spec_FirstFailure.l0 : Nat → Int → Int → List Int → Option (Int × Int × Int × Bool)
 | 0, _, _, _ => none
 | k + 1, x4, x564000, x564001 => if x4 < (x564001.length : Int) then (spec_FirstFailure.l1 k x4 0 x564000 x564001) else (some (0, 0, 0, false))
def spec_FirstFailure.l1 : Nat → Int → Int → Int → List Int → Option (Int × Int × Int × Bool)
 | 0, _, _, _, _ => none
 | k + 1, x4, x5, x564000, x564001 => if x5 < (x564001.length : Int) then (spec_FirstFailure.l2 k x4 x5 0 x564000 x564001) else (spec_FirstFailure.l0 k (wrap64 (x4 + 1)) x564000 x564001)
def spec_FirstFailure.l2 : Nat → Int → Int → Int → Int → List Int → Option (Int × Int × Int × Bool)
 | 0, _, _, _, _, _ => none
 | k + 1, x4, x5, x6, x564000, x564001 => if x6 < x564000 then (if 0 ≤ x4 then (if x4 < (x564001.length : Int) then (if 0 ≤ x5 then (if x5 < (x564001.length : Int) then ((spec_l2Has.f (rd x564001 x4) x6).bind fun t568 => (if t568 = true then ((spec_l2Has.f (rd x564001 x5) x6).bind fun t569 => (if t569 = true then (spec_FirstFailure.l2 k x4 x5 (wrap64 (x6 + 1)) x564000 x564001) else ((spec_l4Exchange.f k x564000 x564001 (rd x564001 x4) (rd x564001 x5) x6).bind fun t570 => (if t570 = true then (spec_FirstFailure.l2 k x4 x5 (wrap64 (x6 + 1)) x564000 x564001) else (some (rd x564001 x4, rd x564001 x5, x6, true)))))) else (spec_FirstFailure.l2 k x4 x5 (wrap64 (x6 + 1)) x564000 x564001))) else (none)) else (none)) else (none)) else (none)) else (spec_FirstFailure.l1 k x4 (wrap64 (x5 + 1)) x564000 x564001)
end
def spec_FirstFailure.f (k : Nat) (a0_0 : Int) (l0_1 : List Int) : Option (Int × Int × Int × Bool) := (spec_IsFamily.f k a0_0 l0_1).bind fun t565 => (if t565 = true then (spec_FirstFailure.l0 k 0 a0_0 l0_1) else (some (0, 0, 0, false)))
set_option maxHeartbeats 8000000 in
set_option maxRecDepth 100000 in
theorem spec_FirstFailure.calls (k : Nat) (a0_0 : Int) (A0_1 : Option Addr) (c0_1 : Nat) (l0_1 : List Int) (r1 : Int) (r2 : Int) (r3 : Int) (r4 : Bool) (w : World) (hr0_1 : Kd.C (Kd.int .i64) w A0_1 l0_1.length l0_1) (hc0_1 : l0_1.length ≤ c0_1) (h : spec_FirstFailure.f k a0_0 l0_1 = some (r1, r2, r3, r4)) :
  Calls Try.prog 113 #[.agg #[.int .i64 a0_0, .slice A0_1 l0_1.length c0_1]] w fun e w' => e = .returned (.tuple #[.agg #[.int .i64 r1, .int .i64 r2, .int .i64 r3], .bool r4]) ∧ Below w.heap.size w w' := by
 have hu35 := Try.underlying35
 have hu108 := Try.underlying108
 have HR0_1 := Aside0.mk hr0_1
 have HC0_1 := Aside0.mk hc0_1
 clear hr0_1 hc0_1
 have HB := Aside0.mk (Below.refl w.heap.size w)
 have H : ((spec_IsFamily.f k a0_0 l0_1).bind fun t565 => (if t565 = true then (spec_FirstFailure.l0 k 0 a0_0 l0_1) else (some (0, 0, 0, false)))) = some (r1, r2, r3, r4) := h
 clear h
 replace H := Option.bind_eq_some_iff.mp H
 obtain ⟨t565, A20, H⟩ := H
 (try dsimp only at H)
 have A2 := Aside0.mk A20
 clear A20
 by_cases c3 : t565 = true
 ·subst c3
  have H1 : (spec_FirstFailure.l0 k 0 a0_0 l0_1) = some (r1, r2, r3, r4) := by rw [if_pos rfl] at H; exact H
  clear H
  have H := H1
  clear H1
  have H' := Aside0.mk H
  clear H
  go_enter Try.func113, Try.ntmps113
  go_wp2_with (first | ((with_reducible refine gate_dst (N := 1) rfl ?_); refine box_event ?hg (N := 1) ?hd (cs := #[.int .i64 a0_0, .slice A0_1 l0_1.length c0_1]) (t := 35) ?hr ?_; (case hd => rfl); (case hg => rfl); (case hr => first | (go_simp; done) | (go_simp; rfl)); intro gb563 hg w4 hbox hb; have BK563 := Aside0.mk hbox; have GW563 := Aside0.mk ((by rw [hg]; exact (below_size (Hof.Lw HB.out)) : w.heap.size ≤ gb563)); have GE563 := Aside0.mk ((by rw [hg]; exact (below_size (Hof.Lw HB.out)) : w.heap.size ≤ gb563)); replace HB := Aside0.mk (below_step (Hof.Lw HB.out) hb); clear hb hbox hg) | ((with_reducible refine gate_dst (N := 2) rfl ?_); refine box_event ?hg (N := 2) ?hd (cs := #[.int .i64 0, .int .i64 0, .int .i64 0]) (t := 108) ?hr ?_; (case hd => rfl); (case hg => rfl); (case hr => first | (go_simp; done) | (go_simp; rfl)); intro gb564 hg w5 hbox hb; have BK564 := Aside0.mk hbox; have GW564 := Aside0.mk ((by rw [hg]; exact (below_size (Hof.Lw HB.out)) : w.heap.size ≤ gb564)); have GE564 := Aside0.mk ((by rw [hg]; exact (below_size (Hof.Lw HB.out)) : w.heap.size ≤ gb564)); replace HB := Aside0.mk (below_step (Hof.Lw HB.out) hb); have NB563_564 := Aside0.mk ((by rw [hg]; exact Nat.ne_of_lt (blk_lt (g := gb563) (o := .cells #[.int .i64 a0_0, .slice A0_1 l0_1.length c0_1] 35 (0, 0)) (Hof.Bw BK563.out)) : gb563 ≠ gb564)); have NB564_563 := Aside0.mk ((by rw [hg]; exact Nat.ne_of_gt (blk_lt (g := gb563) (o := .cells #[.int .i64 a0_0, .slice A0_1 l0_1.length c0_1] 35 (0, 0)) (Hof.Bw BK563.out)) : gb564 ≠ gb563)); replace BK563 := Aside0.mk (blk_below (Hof.Bw BK563.out) hb); clear hb hbox hg; have hnb6 := NB563_564.out; have hnc6 := NB564_563.out; obtain ⟨hcz7_0, hcz7_1, hfz7_0, hfz7_1⟩ := Hof.blk2 BK563.out) | ((with_reducible refine gate_callee (f := 114) rfl ?_); refine goesL_ (some 13) rfl rfl Try.func114 (by kernel_rfl) rfl #[.int .i64 a0_0, .slice A0_1 l0_1.length c0_1] rfl (by (try simp only [List.map_toArray, List.map_cons, List.map_nil]); first | done | rfl) ?_; (with_reducible refine (spec_IsFamily.calls k a0_0 _ _ l0_1 true _ ?side1 ?side2 A2.out).mono ?_); (case side1 => exact Hof.Cw (Kd.C_below HR0_1.out HB.out)); (case side2 => exact HC0_1.out); rintro e w' ⟨rfl, ⟨nd, rfl⟩⟩; refine ⟨_, rfl, ?_⟩))
  go_loopg [4] k (fun kq v4 w' => ∃ (x4_1 : Int) (x565000_1 : Int) (x565001_1 : Int) (x565002_1 : Int), v4 = .int .i64 x4_1 ∧ Aside0 (spec_FirstFailure.l0 kq x4_1 a0_0 l0_1 = some (r1, r2, r3, r4)) ∧ Aside0 (kq ≤ k) ∧ Aside0 (w'.heap[gb563]? = some (.cells #[.int .i64 a0_0, (.slice A0_1 l0_1.length c0_1)] 35 (0, 0))) ∧ Aside0 (w'.heap[gb564]? = some (.cells #[.int .i64 x565000_1, .int .i64 x565001_1, .int .i64 x565002_1] 108 (0, 0))) ∧ Aside0 (Below w.heap.size w w'))
  case atStart => exact ⟨(0), (0), (0), (0), (by first | rfl | (simp; done) | (simp [*]; done)), H', ⟨Nat.le_refl _⟩, ⟨Hof.Bw BK563.out⟩, ⟨Hof.Bw BK564.out⟩, ⟨Hof.Lw HB.out⟩⟩
  case round =>
   clear H'
   try clear c1
   try clear p2
   try clear c3
   try clear c6
   try clear hcz7_0
   try clear hcz7_1
   try clear hfz7_0
   try clear hfz7_1
   obtain ⟨x4_1, x565000_1, x565001_1, x565002_1, rfl, HA, HK1, BK563, BK564, HB⟩ := hrel
   cases gk with
   | zero => exact absurd HA.out (by simp [spec_FirstFailure.l0])
   | succ k1 =>
    have H := HA.out
    clear HA
    simp only [spec_FirstFailure.l0] at H
    by_cases c8 : x4_1 < (l0_1.length : Int)
    ·rw [if_pos c8] at H
     have c8b0 : decide (x4_1 < (l0_1.length : Int)) = true := decide_eq_true c8
     clear c8
     have H' := Aside0.mk H
     clear H
     have hnb9 := NB563_564.out
     have hnc9 := NB564_563.out
     obtain ⟨hcz10_0, hcz10_1, hfz10_0, hfz10_1⟩ := Hof.blk2 BK563.out
     go_wp2
     go_loopg [5] k1 (fun kq v5 w' => ∃ (x5_2 : Int) (x565000_2 : Int) (x565001_2 : Int) (x565002_2 : Int), v5 = .int .i64 x5_2 ∧ Aside0 (spec_FirstFailure.l1 kq x4_1 x5_2 a0_0 l0_1 = some (r1, r2, r3, r4)) ∧ Aside0 (kq ≤ k1) ∧ Aside0 (w'.heap[gb563]? = some (.cells #[.int .i64 a0_0, (.slice A0_1 l0_1.length c0_1)] 35 (0, 0))) ∧ Aside0 (w'.heap[gb564]? = some (.cells #[.int .i64 x565000_2, .int .i64 x565001_2, .int .i64 x565002_2] 108 (0, 0))) ∧ Aside0 (Below w.heap.size w w'))
     case atStart => exact ⟨(0), (x565000_1), (x565001_1), (x565002_1), (by first | rfl | (simp; done) | (simp [*]; done)), H', ⟨Nat.le_refl _⟩, ⟨Hof.Bw BK563.out⟩, ⟨Hof.Bw BK564.out⟩, ⟨Hof.Lw HB.out⟩⟩
     case round =>
      clear H'
      try clear c1
      try clear p2
      try clear c3
      try clear c6
      try clear c8
      try clear c8b0
      try clear c9
      try clear hcz10_0
      try clear hcz10_1
      try clear hcz7_0
      try clear hcz7_1
      try clear hfz10_0
      try clear hfz10_1
      try clear hfz7_0
      try clear hfz7_1
      try clear p2
      obtain ⟨x5_2, x565000_2, x565001_2, x565002_2, rfl, HA, HK2, BK563, BK564, HB⟩ := hrel
      cases gk with
      | zero => exact absurd HA.out (by simp [spec_FirstFailure.l1])
      | succ k2 =>
       have H := HA.out
       clear HA
       simp only [spec_FirstFailure.l1] at H
       by_cases c11 : x5_2 < (l0_1.length : Int)
       ·rw [if_pos c11] at H
        have c11b0 : decide (x5_2 < (l0_1.length : Int)) = true := decide_eq_true c11
        clear c11
        have H' := Aside0.mk H
        clear H
        have hnb12 := NB563_564.out
        have hnc12 := NB564_563.out
        obtain ⟨hcz13_0, hcz13_1, hfz13_0, hfz13_1⟩ := Hof.blk2 BK563.out
        go_wp2
        go_loopg [6] k2 (fun kq v6 w' => ∃ (x6_3 : Int) (x565000_3 : Int) (x565001_3 : Int) (x565002_3 : Int), v6 = .int .i64 x6_3 ∧ Aside0 (spec_FirstFailure.l2 kq x4_1 x5_2 x6_3 a0_0 l0_1 = some (r1, r2, r3, r4)) ∧ Aside0 (kq ≤ k2) ∧ Aside0 (w'.heap[gb563]? = some (.cells #[.int .i64 a0_0, (.slice A0_1 l0_1.length c0_1)] 35 (0, 0))) ∧ Aside0 (w'.heap[gb564]? = some (.cells #[.int .i64 x565000_3, .int .i64 x565001_3, .int .i64 x565002_3] 108 (0, 0))) ∧ Aside0 (Below w.heap.size w w'))
        case atStart => exact ⟨(0), (x565000_2), (x565001_2), (x565002_2), (by first | rfl | (simp; done) | (simp [*]; done)), H', ⟨Nat.le_refl _⟩, ⟨Hof.Bw BK563.out⟩, ⟨Hof.Bw BK564.out⟩, ⟨Hof.Lw HB.out⟩⟩
        case round =>
         clear H'
         try clear c1
         try clear p2
         try clear c3
         try clear c6
         try clear c8
         try clear c8b0
         try clear c9
         try clear c11
         try clear c11b0
         try clear c12
         try clear hcz10_0
         try clear hcz10_1
         try clear hcz13_0
         try clear hcz13_1
         try clear hcz7_0
         try clear hcz7_1
         try clear hfz10_0
         try clear hfz10_1
         try clear hfz13_0
         try clear hfz13_1
         try clear hfz7_0
         try clear hfz7_1
         try clear p2
         obtain ⟨x6_3, x565000_3, x565001_3, x565002_3, rfl, HA, HK3, BK563, BK564, HB⟩ := hrel
         cases gk with
         | zero => exact absurd HA.out (by simp [spec_FirstFailure.l2])
         | succ k3 =>
          have H := HA.out
          clear HA
          simp only [spec_FirstFailure.l2] at H
          by_cases c14 : x6_3 < a0_0
          ·rw [if_pos c14] at H
           have c14b0 : decide (x6_3 < a0_0) = true := decide_eq_true c14
           clear c14
           by_cases c15 : 0 ≤ x4_1
           ·rw [if_pos c15] at H
            have c15b0 : decide (0 ≤ x4_1) = true := decide_eq_true c15
            clear c15
            by_cases c16 : x4_1 < (l0_1.length : Int)
            ·rw [if_pos c16] at H
             have c16b0 : decide (x4_1 < (l0_1.length : Int)) = true := decide_eq_true c16
             clear c16
             by_cases c17 : 0 ≤ x5_2
             ·rw [if_pos c17] at H
              have c17b0 : decide (0 ≤ x5_2) = true := decide_eq_true c17
              clear c17
              by_cases c18 : x5_2 < (l0_1.length : Int)
              ·rw [if_pos c18] at H
               have c18b0 : decide (x5_2 < (l0_1.length : Int)) = true := decide_eq_true c18
               clear c18
               replace H := Option.bind_eq_some_iff.mp H
               obtain ⟨t568, A190, H⟩ := H
               (try dsimp only at H)
               have A19 := Aside0.mk A190
               clear A190
               by_cases c20 : t568 = true
               ·subst c20
                have H1 : ((spec_l2Has.f (rd l0_1 x5_2) x6_3).bind fun t569 => (if t569 = true then (spec_FirstFailure.l2 k3 x4_1 x5_2 (wrap64 (x6_3 + 1)) a0_0 l0_1) else ((spec_l4Exchange.f k3 a0_0 l0_1 (rd l0_1 x4_1) (rd l0_1 x5_2) x6_3).bind fun t570 => (if t570 = true then (spec_FirstFailure.l2 k3 x4_1 x5_2 (wrap64 (x6_3 + 1)) a0_0 l0_1) else (some (rd l0_1 x4_1, rd l0_1 x5_2, x6_3, true)))))) = some (r1, r2, r3, r4) := by rw [if_pos rfl] at H; exact H
                clear H
                have H := H1
                clear H1
                replace H := Option.bind_eq_some_iff.mp H
                obtain ⟨t569, A210, H⟩ := H
                (try dsimp only at H)
                have A21 := Aside0.mk A210
                clear A210
                by_cases c22 : t569 = true
                ·subst c22
                 have H1 : (spec_FirstFailure.l2 k3 x4_1 x5_2 (wrap64 (x6_3 + 1)) a0_0 l0_1) = some (r1, r2, r3, r4) := by rw [if_pos rfl] at H; exact H
                 clear H
                 have H := H1
                 clear H1
                 have H' := Aside0.mk H
                 clear H
                 have hnb23 := NB563_564.out
                 have hnc23 := NB564_563.out
                 obtain ⟨hcz24_0, hcz24_1, hfz24_0, hfz24_1⟩ := Hof.blk2 BK563.out
                 have p566 : 0 ≤ (x4_1 : Int) := of_decide_eq_true (by first | (with_reducible assumption) | assumption)
                 have q566 : x4_1 < (l0_1.length : Int) := of_decide_eq_true (by first | (with_reducible assumption) | assumption)
                 obtain ⟨ad566, e566, hx566_0⟩ := Kd.at_int HR0_1.out x4_1 p566 q566
                 cases e566
                 try replace hx566_0 := (HB.out.cell (World.block_lt_of_cell? w _ hx566_0)).trans hx566_0
                 replace p566 := eq_true p566
                 replace q566 := eq_true q566
                 have p567 : 0 ≤ (x5_2 : Int) := of_decide_eq_true (by first | (with_reducible assumption) | assumption)
                 have q567 : x5_2 < (l0_1.length : Int) := of_decide_eq_true (by first | (with_reducible assumption) | assumption)
                 obtain ⟨ad567, e567, hx567_0⟩ := Kd.at_int HR0_1.out x5_2 p567 q567
                 obtain rfl : ad566 = ad567 := (by injection e567)
                 try replace hx567_0 := (HB.out.cell (World.block_lt_of_cell? w _ hx567_0)).trans hx567_0
                 replace p567 := eq_true p567
                 replace q567 := eq_true q567
                 go_wp2_with (first | ((with_reducible refine gate_callee (f := 58) rfl ?_); refine goesL_ (some 48) rfl rfl Try.func58 (by kernel_rfl) rfl #[.int .i64 (rd l0_1 x4_1), .int .i64 x6_3] rfl (by (try simp only [List.map_toArray, List.map_cons, List.map_nil]); first | done | rfl) ?_; (with_reducible refine (spec_l2Has.calls (rd l0_1 x4_1) x6_3 true _ A19.out).mono ?_); rintro e w' ⟨rfl, ⟨nd, rfl⟩⟩; refine ⟨_, rfl, ?_⟩) | (go_at_call 58; (with_reducible refine (spec_l2Has.calls (rd l0_1 x5_2) x6_3 true _ A21.out).mono ?_); rintro e w' ⟨rfl, ⟨nd, rfl⟩⟩))
                 go_roundg k3
                 case measure => have := HK1.out; have := HK2.out; have := HK3.out; omega
                 case rel => exact ⟨(wrap64 (x6_3 + 1)), (x565000_3), (x565001_3), (x565002_3), (by first | rfl | (simp; done) | (simp [*]; done)), H', ⟨by have := HK1.out; have := HK2.out; have := HK3.out; omega⟩, ⟨Hof.Bw BK563.out⟩, ⟨Hof.Bw BK564.out⟩, ⟨Hof.Lw HB.out⟩⟩
                ·replace c22 := Bool.eq_false_iff.mpr c22
                 subst c22
                 have H1 : ((spec_l4Exchange.f k3 a0_0 l0_1 (rd l0_1 x4_1) (rd l0_1 x5_2) x6_3).bind fun t570 => (if t570 = true then (spec_FirstFailure.l2 k3 x4_1 x5_2 (wrap64 (x6_3 + 1)) a0_0 l0_1) else (some (rd l0_1 x4_1, rd l0_1 x5_2, x6_3, true)))) = some (r1, r2, r3, r4) := by rw [if_neg (show ¬ (false = true) by decide)] at H; exact H
                 clear H
                 have H := H1
                 clear H1
                 replace H := Option.bind_eq_some_iff.mp H
                 obtain ⟨t570, A250, H⟩ := H
                 (try dsimp only at H)
                 have A25 := Aside0.mk A250
                 clear A250
                 by_cases c26 : t570 = true
                 ·subst c26
                  have H1 : (spec_FirstFailure.l2 k3 x4_1 x5_2 (wrap64 (x6_3 + 1)) a0_0 l0_1) = some (r1, r2, r3, r4) := by rw [if_pos rfl] at H; exact H
                  clear H
                  have H := H1
                  clear H1
                  have H' := Aside0.mk H
                  clear H
                  have hnb27 := NB563_564.out
                  have hnc27 := NB564_563.out
                  obtain ⟨hcz28_0, hcz28_1, hfz28_0, hfz28_1⟩ := Hof.blk2 BK563.out
                  have p566 : 0 ≤ (x4_1 : Int) := of_decide_eq_true (by first | (with_reducible assumption) | assumption)
                  have q566 : x4_1 < (l0_1.length : Int) := of_decide_eq_true (by first | (with_reducible assumption) | assumption)
                  obtain ⟨ad566, e566, hx566_0⟩ := Kd.at_int HR0_1.out x4_1 p566 q566
                  cases e566
                  try replace hx566_0 := (HB.out.cell (World.block_lt_of_cell? w _ hx566_0)).trans hx566_0
                  replace p566 := eq_true p566
                  replace q566 := eq_true q566
                  have p567 : 0 ≤ (x5_2 : Int) := of_decide_eq_true (by first | (with_reducible assumption) | assumption)
                  have q567 : x5_2 < (l0_1.length : Int) := of_decide_eq_true (by first | (with_reducible assumption) | assumption)
                  obtain ⟨ad567, e567, hx567_0⟩ := Kd.at_int HR0_1.out x5_2 p567 q567
                  obtain rfl : ad566 = ad567 := (by injection e567)
                  try replace hx567_0 := (HB.out.cell (World.block_lt_of_cell? w _ hx567_0)).trans hx567_0
                  replace p567 := eq_true p567
                  replace q567 := eq_true q567
                  go_wp2_with (first | ((with_reducible refine gate_callee (f := 58) rfl ?_); refine goesL_ (some 48) rfl rfl Try.func58 (by kernel_rfl) rfl #[.int .i64 (rd l0_1 x4_1), .int .i64 x6_3] rfl (by (try simp only [List.map_toArray, List.map_cons, List.map_nil]); first | done | rfl) ?_; (with_reducible refine (spec_l2Has.calls (rd l0_1 x4_1) x6_3 true _ A19.out).mono ?_); rintro e w' ⟨rfl, ⟨nd, rfl⟩⟩; refine ⟨_, rfl, ?_⟩) | (go_at_call 58; (with_reducible refine (spec_l2Has.calls (rd l0_1 x5_2) x6_3 false _ A21.out).mono ?_); rintro e w' ⟨rfl, ⟨nd, rfl⟩⟩) | (go_at_call 140; (with_reducible refine (spec_l4Exchange.calls k3 a0_0 _ _ l0_1 (rd l0_1 x4_1) (rd l0_1 x5_2) x6_3 true _ ?side1 ?side2 A25.out).mono ?_); (case side1 => exact Hof.Cw (Kd.C_below HR0_1.out HB.out)); (case side2 => exact HC0_1.out); rintro e w29 ⟨rfl, hb⟩; replace BK563 := Aside0.mk (blk_below (Hof.Bw BK563.out) hb); replace BK564 := Aside0.mk (blk_below (Hof.Bw BK564.out) hb); replace HB := Aside0.mk (below_step (Hof.Lw HB.out) hb); (try clear hb); (try clear hb2); (try clear hk); (try clear hi)))
                  go_roundg k3
                  case measure => have := HK1.out; have := HK2.out; have := HK3.out; omega
                  case rel => exact ⟨(wrap64 (x6_3 + 1)), (x565000_3), (x565001_3), (x565002_3), (by first | rfl | (simp; done) | (simp [*]; done)), H', ⟨by have := HK1.out; have := HK2.out; have := HK3.out; omega⟩, ⟨Hof.Bw BK563.out⟩, ⟨Hof.Bw BK564.out⟩, ⟨Hof.Lw HB.out⟩⟩
                 ·replace c26 := Bool.eq_false_iff.mpr c26
                  subst c26
                  have H1 : (some (rd l0_1 x4_1, rd l0_1 x5_2, x6_3, true)) = some (r1, r2, r3, r4) := by rw [if_neg (show ¬ (false = true) by decide)] at H; exact H
                  clear H
                  have H := H1
                  clear H1
                  simp only [Option.some.injEq, Prod.mk.injEq] at H
                  obtain ⟨rfl, rfl, rfl, rfl⟩ := H
                  have hnb30 := NB563_564.out
                  have hnc30 := NB564_563.out
                  obtain ⟨hcz31_0, hcz31_1, hfz31_0, hfz31_1⟩ := Hof.blk2 BK563.out
                  have p566 : 0 ≤ (x4_1 : Int) := of_decide_eq_true (by first | (with_reducible assumption) | assumption)
                  have q566 : x4_1 < (l0_1.length : Int) := of_decide_eq_true (by first | (with_reducible assumption) | assumption)
                  obtain ⟨ad566, e566, hx566_0⟩ := Kd.at_int HR0_1.out x4_1 p566 q566
                  cases e566
                  try replace hx566_0 := (HB.out.cell (World.block_lt_of_cell? w _ hx566_0)).trans hx566_0
                  replace p566 := eq_true p566
                  replace q566 := eq_true q566
                  have p567 : 0 ≤ (x5_2 : Int) := of_decide_eq_true (by first | (with_reducible assumption) | assumption)
                  have q567 : x5_2 < (l0_1.length : Int) := of_decide_eq_true (by first | (with_reducible assumption) | assumption)
                  obtain ⟨ad567, e567, hx567_0⟩ := Kd.at_int HR0_1.out x5_2 p567 q567
                  obtain rfl : ad566 = ad567 := (by injection e567)
                  try replace hx567_0 := (HB.out.cell (World.block_lt_of_cell? w _ hx567_0)).trans hx567_0
                  replace p567 := eq_true p567
                  replace q567 := eq_true q567
                  go_wp2_with (first | ((with_reducible refine gate_callee (f := 58) rfl ?_); refine goesL_ (some 48) rfl rfl Try.func58 (by kernel_rfl) rfl #[.int .i64 (rd l0_1 x4_1), .int .i64 x6_3] rfl (by (try simp only [List.map_toArray, List.map_cons, List.map_nil]); first | done | rfl) ?_; (with_reducible refine (spec_l2Has.calls (rd l0_1 x4_1) x6_3 true _ A19.out).mono ?_); rintro e w' ⟨rfl, ⟨nd, rfl⟩⟩; refine ⟨_, rfl, ?_⟩; (try (rw [drewN_self wr]; generalize hq_ : World.drewN wr _ = wr; have n0_ : Aside0 (wr.heap[gb563]? = some (.cells #[.int .i64 a0_0, .slice (some ad566) l0_1.length c0_1] 35 (0, 0))) := ⟨by rw [← hq_]; exact (Hof.Bw BK563.out)⟩; have n1_ : Aside0 (wr.heap[gb564]? = some (.cells #[.int .i64 x565000_3, .int .i64 x565001_3, .int .i64 x565002_3] 108 (0, 0))) := ⟨by rw [← hq_]; exact (Hof.Bw BK564.out)⟩; have n2_ : Aside0 (Below w.heap.size w wr) := ⟨by rw [← hq_]; exact (Hof.Lw HB.out)⟩; clear BK563 BK564 HB hq_; have BK563 := n0_; have BK564 := n1_; have HB := n2_; clear n0_ n1_ n2_; have hcy563_0 : wr.cell? ⟨gb563, 0, none⟩ = some (.int .i64 a0_0) := (blk_cell BK563.out 0).trans rfl; have hfy563_0 := blk_frozen BK563.out 0; have hcy563_1 : wr.cell? ⟨gb563, 1, none⟩ = some (.slice (some ad566) l0_1.length c0_1) := (blk_cell BK563.out 1).trans rfl; have hfy563_1 := blk_frozen BK563.out 1; have hcy564_0 : wr.cell? ⟨gb564, 0, none⟩ = some (.int .i64 x565000_3) := (blk_cell BK564.out 0).trans rfl; have hfy564_0 := blk_frozen BK564.out 0; have hcy564_1 : wr.cell? ⟨gb564, 1, none⟩ = some (.int .i64 x565001_3) := (blk_cell BK564.out 1).trans rfl; have hfy564_1 := blk_frozen BK564.out 1; have hcy564_2 : wr.cell? ⟨gb564, 2, none⟩ = some (.int .i64 x565002_3) := (blk_cell BK564.out 2).trans rfl; have hfy564_2 := blk_frozen BK564.out 2))) | (go_at_call 58; (with_reducible refine (spec_l2Has.calls (rd l0_1 x5_2) x6_3 false _ A21.out).mono ?_); rintro e w' ⟨rfl, ⟨nd, rfl⟩⟩; (try (rw [drewN_self wr]; generalize hq_ : World.drewN wr _ = wr; have n0_ : Aside0 (wr.heap[gb563]? = some (.cells #[.int .i64 a0_0, .slice (some ad566) l0_1.length c0_1] 35 (0, 0))) := ⟨by rw [← hq_]; exact (Hof.Bw BK563.out)⟩; have n1_ : Aside0 (wr.heap[gb564]? = some (.cells #[.int .i64 x565000_3, .int .i64 x565001_3, .int .i64 x565002_3] 108 (0, 0))) := ⟨by rw [← hq_]; exact (Hof.Bw BK564.out)⟩; have n2_ : Aside0 (Below w.heap.size w wr) := ⟨by rw [← hq_]; exact (Hof.Lw HB.out)⟩; clear BK563 BK564 HB hq_; have BK563 := n0_; have BK564 := n1_; have HB := n2_; clear n0_ n1_ n2_; have hcy563_0 : wr.cell? ⟨gb563, 0, none⟩ = some (.int .i64 a0_0) := (blk_cell BK563.out 0).trans rfl; have hfy563_0 := blk_frozen BK563.out 0; have hcy563_1 : wr.cell? ⟨gb563, 1, none⟩ = some (.slice (some ad566) l0_1.length c0_1) := (blk_cell BK563.out 1).trans rfl; have hfy563_1 := blk_frozen BK563.out 1; have hcy564_0 : wr.cell? ⟨gb564, 0, none⟩ = some (.int .i64 x565000_3) := (blk_cell BK564.out 0).trans rfl; have hfy564_0 := blk_frozen BK564.out 0; have hcy564_1 : wr.cell? ⟨gb564, 1, none⟩ = some (.int .i64 x565001_3) := (blk_cell BK564.out 1).trans rfl; have hfy564_1 := blk_frozen BK564.out 1; have hcy564_2 : wr.cell? ⟨gb564, 2, none⟩ = some (.int .i64 x565002_3) := (blk_cell BK564.out 2).trans rfl; have hfy564_2 := blk_frozen BK564.out 2))) | (go_at_call 140; (with_reducible refine (spec_l4Exchange.calls k3 a0_0 _ _ l0_1 (rd l0_1 x4_1) (rd l0_1 x5_2) x6_3 false _ ?side1 ?side2 A25.out).mono ?_); (case side1 => exact Hof.Cw (Kd.C_below HR0_1.out HB.out)); (case side2 => exact HC0_1.out); rintro e w32 ⟨rfl, hb⟩; replace BK563 := Aside0.mk (blk_below (Hof.Bw BK563.out) hb); replace BK564 := Aside0.mk (blk_below (Hof.Bw BK564.out) hb); replace HB := Aside0.mk (below_step (Hof.Lw HB.out) hb); (try clear hb); (try clear hb2); (try clear hk); (try clear hi); obtain ⟨hcz33_0, hcz33_1, hcz33_2, hfz33_0, hfz33_1, hfz33_2⟩ := Hof.blk3 BK564.out))
                  refine bodyPost_ret (results_ct rfl _ _ gb564 108 #[.int .i64 (rd l0_1 x4_1), .int .i64 (rd l0_1 x5_2), .int .i64 x6_3] (0, 0) _ rfl (by (with_reducible repeat (first | refine blk_drewN ?_ _ | refine blk_drew ?_ | refine blk_alloc ?_ _)); refine blk_put (cs := #[.int .i64 (rd l0_1 x4_1), .int .i64 (rd l0_1 x5_2), .int .i64 x565002_3]) ?_ 2 _ rfl; (with_reducible repeat (first | refine blk_drewN ?_ _ | refine blk_drew ?_ | refine blk_alloc ?_ _)); refine blk_put (cs := #[.int .i64 (rd l0_1 x4_1), .int .i64 x565001_3, .int .i64 x565002_3]) ?_ 1 _ rfl; (with_reducible repeat (first | refine blk_drewN ?_ _ | refine blk_drew ?_ | refine blk_alloc ?_ _)); refine blk_put (cs := #[.int .i64 x565000_3, .int .i64 x565001_3, .int .i64 x565002_3]) ?_ 0 _ rfl; (with_reducible repeat (first | refine blk_drewN ?_ _ | refine blk_drew ?_ | refine blk_alloc ?_ _)); exact BK564.out) Try.underlying108 rfl (by kernel_rfl)) rfl ?_
                  exact ⟨by first | rfl | (simp [errW_none, errW_some] <;> rfl) | (simp [*, errW_none, errW_some] <;> rfl), by repeat (first | (with_reducible first | exact HB.out | apply below_alloc | apply pw_below_drewN | apply below_drew1 | refine below_set ?_ GE563.out | refine below_set ?_ GE564.out) | exact HB.out)⟩
               ·replace c20 := Bool.eq_false_iff.mpr c20
                subst c20
                have H1 : (spec_FirstFailure.l2 k3 x4_1 x5_2 (wrap64 (x6_3 + 1)) a0_0 l0_1) = some (r1, r2, r3, r4) := by rw [if_neg (show ¬ (false = true) by decide)] at H; exact H
                clear H
                have H := H1
                clear H1
                have H' := Aside0.mk H
                clear H
                have hnb34 := NB563_564.out
                have hnc34 := NB564_563.out
                obtain ⟨hcz35_0, hcz35_1, hfz35_0, hfz35_1⟩ := Hof.blk2 BK563.out
                have p566 : 0 ≤ (x4_1 : Int) := of_decide_eq_true (by first | (with_reducible assumption) | assumption)
                have q566 : x4_1 < (l0_1.length : Int) := of_decide_eq_true (by first | (with_reducible assumption) | assumption)
                obtain ⟨ad566, e566, hx566_0⟩ := Kd.at_int HR0_1.out x4_1 p566 q566
                cases e566
                try replace hx566_0 := (HB.out.cell (World.block_lt_of_cell? w _ hx566_0)).trans hx566_0
                replace p566 := eq_true p566
                replace q566 := eq_true q566
                have p567 : 0 ≤ (x5_2 : Int) := of_decide_eq_true (by first | (with_reducible assumption) | assumption)
                have q567 : x5_2 < (l0_1.length : Int) := of_decide_eq_true (by first | (with_reducible assumption) | assumption)
                obtain ⟨ad567, e567, hx567_0⟩ := Kd.at_int HR0_1.out x5_2 p567 q567
                obtain rfl : ad566 = ad567 := (by injection e567)
                try replace hx567_0 := (HB.out.cell (World.block_lt_of_cell? w _ hx567_0)).trans hx567_0
                replace p567 := eq_true p567
                replace q567 := eq_true q567
                go_wp2_with (first | ((with_reducible refine gate_callee (f := 58) rfl ?_); refine goesL_ (some 48) rfl rfl Try.func58 (by kernel_rfl) rfl #[.int .i64 (rd l0_1 x4_1), .int .i64 x6_3] rfl (by (try simp only [List.map_toArray, List.map_cons, List.map_nil]); first | done | rfl) ?_; (with_reducible refine (spec_l2Has.calls (rd l0_1 x4_1) x6_3 false _ A19.out).mono ?_); rintro e w' ⟨rfl, ⟨nd, rfl⟩⟩; refine ⟨_, rfl, ?_⟩))
                go_roundg k3
                case measure => have := HK1.out; have := HK2.out; have := HK3.out; omega
                case rel => exact ⟨(wrap64 (x6_3 + 1)), (x565000_3), (x565001_3), (x565002_3), (by first | rfl | (simp; done) | (simp [*]; done)), H', ⟨by have := HK1.out; have := HK2.out; have := HK3.out; omega⟩, ⟨Hof.Bw BK563.out⟩, ⟨Hof.Bw BK564.out⟩, ⟨Hof.Lw HB.out⟩⟩
              ·rw [if_neg c18] at H
               exact absurd H (by simp)
             ·rw [if_neg c17] at H
              exact absurd H (by simp)
            ·rw [if_neg c16] at H
             exact absurd H (by simp)
           ·rw [if_neg c15] at H
            exact absurd H (by simp)
          ·rw [if_neg c14] at H
           have c14b0 : decide (x6_3 < a0_0) = false := decide_eq_false c14
           clear c14
           have H' := Aside0.mk H
           clear H
           have hnb36 := NB563_564.out
           have hnc36 := NB564_563.out
           obtain ⟨hcz37_0, hcz37_1, hfz37_0, hfz37_1⟩ := Hof.blk2 BK563.out
           go_wp2
           go_roundg k3
           case measure => have := HK1.out; have := HK2.out; have := HK3.out; omega
           case rel => exact ⟨(wrap64 (x5_2 + 1)), (x565000_3), (x565001_3), (x565002_3), (by first | rfl | (simp; done) | (simp [*]; done)), H', ⟨by have := HK1.out; have := HK2.out; have := HK3.out; omega⟩, ⟨Hof.Bw BK563.out⟩, ⟨Hof.Bw BK564.out⟩, ⟨Hof.Lw HB.out⟩⟩
       ·rw [if_neg c11] at H
        have c11b0 : decide (x5_2 < (l0_1.length : Int)) = false := decide_eq_false c11
        clear c11
        have H' := Aside0.mk H
        clear H
        have hnb38 := NB563_564.out
        have hnc38 := NB564_563.out
        obtain ⟨hcz39_0, hcz39_1, hfz39_0, hfz39_1⟩ := Hof.blk2 BK563.out
        go_wp2
        go_roundg k2
        case measure => have := HK1.out; have := HK2.out; omega
        case rel => exact ⟨(wrap64 (x4_1 + 1)), (x565000_2), (x565001_2), (x565002_2), (by first | rfl | (simp; done) | (simp [*]; done)), H', ⟨by have := HK1.out; have := HK2.out; omega⟩, ⟨Hof.Bw BK563.out⟩, ⟨Hof.Bw BK564.out⟩, ⟨Hof.Lw HB.out⟩⟩
    ·rw [if_neg c8] at H
     have c8b0 : decide (x4_1 < (l0_1.length : Int)) = false := decide_eq_false c8
     clear c8
     simp only [Option.some.injEq, Prod.mk.injEq] at H
     obtain ⟨rfl, rfl, rfl, rfl⟩ := H
     have hnb40 := NB563_564.out
     have hnc40 := NB564_563.out
     obtain ⟨hcz41_0, hcz41_1, hfz41_0, hfz41_1⟩ := Hof.blk2 BK563.out
     obtain ⟨hcz42_0, hcz42_1, hcz42_2, hfz42_0, hfz42_1, hfz42_2⟩ := Hof.blk3 BK564.out
     go_wp2
     refine bodyPost_ret (results_ct rfl _ _ gb564 108 #[.int .i64 0, .int .i64 0, .int .i64 0] (0, 0) _ rfl (by (with_reducible repeat (first | refine blk_drewN ?_ _ | refine blk_drew ?_ | refine blk_alloc ?_ _)); refine blk_put (cs := #[.int .i64 0, .int .i64 0, .int .i64 x565002_1]) ?_ 2 _ rfl; (with_reducible repeat (first | refine blk_drewN ?_ _ | refine blk_drew ?_ | refine blk_alloc ?_ _)); refine blk_put (cs := #[.int .i64 0, .int .i64 x565001_1, .int .i64 x565002_1]) ?_ 1 _ rfl; (with_reducible repeat (first | refine blk_drewN ?_ _ | refine blk_drew ?_ | refine blk_alloc ?_ _)); refine blk_put (cs := #[.int .i64 x565000_1, .int .i64 x565001_1, .int .i64 x565002_1]) ?_ 0 _ rfl; (with_reducible repeat (first | refine blk_drewN ?_ _ | refine blk_drew ?_ | refine blk_alloc ?_ _)); exact BK564.out) Try.underlying108 rfl (by kernel_rfl)) rfl ?_
     exact ⟨by first | rfl | (simp [errW_none, errW_some] <;> rfl) | (simp [*, errW_none, errW_some] <;> rfl), by repeat (first | (with_reducible first | exact HB.out | apply below_alloc | apply pw_below_drewN | apply below_drew1 | refine below_set ?_ GE563.out | refine below_set ?_ GE564.out) | exact HB.out)⟩
 ·replace c3 := Bool.eq_false_iff.mpr c3
  subst c3
  have H1 : (some (0, 0, 0, false)) = some (r1, r2, r3, r4) := by rw [if_neg (show ¬ (false = true) by decide)] at H; exact H
  clear H
  have H := H1
  clear H1
  simp only [Option.some.injEq, Prod.mk.injEq] at H
  obtain ⟨rfl, rfl, rfl, rfl⟩ := H
  go_enter Try.func113, Try.ntmps113
  go_wp2_with (first | ((with_reducible refine gate_dst (N := 1) rfl ?_); refine box_event ?hg (N := 1) ?hd (cs := #[.int .i64 a0_0, .slice A0_1 l0_1.length c0_1]) (t := 35) ?hr ?_; (case hd => rfl); (case hg => rfl); (case hr => first | (go_simp; done) | (go_simp; rfl)); intro gb563 hg w43 hbox hb; have BK563 := Aside0.mk hbox; have GW563 := Aside0.mk ((by rw [hg]; exact (below_size (Hof.Lw HB.out)) : w.heap.size ≤ gb563)); have GE563 := Aside0.mk ((by rw [hg]; exact (below_size (Hof.Lw HB.out)) : w.heap.size ≤ gb563)); replace HB := Aside0.mk (below_step (Hof.Lw HB.out) hb); clear hb hbox hg) | ((with_reducible refine gate_dst (N := 2) rfl ?_); refine box_event ?hg (N := 2) ?hd (cs := #[.int .i64 0, .int .i64 0, .int .i64 0]) (t := 108) ?hr ?_; (case hd => rfl); (case hg => rfl); (case hr => first | (go_simp; done) | (go_simp; rfl)); intro gb564 hg w44 hbox hb; have BK564 := Aside0.mk hbox; have GW564 := Aside0.mk ((by rw [hg]; exact (below_size (Hof.Lw HB.out)) : w.heap.size ≤ gb564)); have GE564 := Aside0.mk ((by rw [hg]; exact (below_size (Hof.Lw HB.out)) : w.heap.size ≤ gb564)); replace HB := Aside0.mk (below_step (Hof.Lw HB.out) hb); have NB563_564 := Aside0.mk ((by rw [hg]; exact Nat.ne_of_lt (blk_lt (g := gb563) (o := .cells #[.int .i64 a0_0, .slice A0_1 l0_1.length c0_1] 35 (0, 0)) (Hof.Bw BK563.out)) : gb563 ≠ gb564)); have NB564_563 := Aside0.mk ((by rw [hg]; exact Nat.ne_of_gt (blk_lt (g := gb563) (o := .cells #[.int .i64 a0_0, .slice A0_1 l0_1.length c0_1] 35 (0, 0)) (Hof.Bw BK563.out)) : gb564 ≠ gb563)); replace BK563 := Aside0.mk (blk_below (Hof.Bw BK563.out) hb); clear hb hbox hg; have hnb45 := NB563_564.out; have hnc45 := NB564_563.out; obtain ⟨hcz46_0, hcz46_1, hfz46_0, hfz46_1⟩ := Hof.blk2 BK563.out) | ((with_reducible refine gate_callee (f := 114) rfl ?_); refine goesL_ (some 13) rfl rfl Try.func114 (by kernel_rfl) rfl #[.int .i64 a0_0, .slice A0_1 l0_1.length c0_1] rfl (by (try simp only [List.map_toArray, List.map_cons, List.map_nil]); first | done | rfl) ?_; (with_reducible refine (spec_IsFamily.calls k a0_0 _ _ l0_1 false _ ?side1 ?side2 A2.out).mono ?_); (case side1 => exact Hof.Cw (Kd.C_below HR0_1.out HB.out)); (case side2 => exact HC0_1.out); rintro e w' ⟨rfl, ⟨nd, rfl⟩⟩; refine ⟨_, rfl, ?_⟩; (try (rw [drewN_self w44]; generalize hq_ : World.drewN w44 _ = w44; have n0_ : Aside0 (w44.heap[gb563]? = some (.cells #[.int .i64 a0_0, .slice A0_1 l0_1.length c0_1] 35 (0, 0))) := ⟨by rw [← hq_]; exact (Hof.Bw BK563.out)⟩; have n1_ : Aside0 (w44.heap[gb564]? = some (.cells #[.int .i64 0, .int .i64 0, .int .i64 0] 108 (0, 0))) := ⟨by rw [← hq_]; exact (Hof.Bw BK564.out)⟩; have n2_ : Aside0 (Below w.heap.size w w44) := ⟨by rw [← hq_]; exact (Hof.Lw HB.out)⟩; clear BK563 BK564 HB hq_; have BK563 := n0_; have BK564 := n1_; have HB := n2_; clear n0_ n1_ n2_; have hcy563_0 : w44.cell? ⟨gb563, 0, none⟩ = some (.int .i64 a0_0) := (blk_cell BK563.out 0).trans rfl; have hfy563_0 := blk_frozen BK563.out 0; have hcy563_1 : w44.cell? ⟨gb563, 1, none⟩ = some (.slice A0_1 l0_1.length c0_1) := (blk_cell BK563.out 1).trans rfl; have hfy563_1 := blk_frozen BK563.out 1; have hcy564_0 : w44.cell? ⟨gb564, 0, none⟩ = some (.int .i64 0) := (blk_cell BK564.out 0).trans rfl; have hfy564_0 := blk_frozen BK564.out 0; have hcy564_1 : w44.cell? ⟨gb564, 1, none⟩ = some (.int .i64 0) := (blk_cell BK564.out 1).trans rfl; have hfy564_1 := blk_frozen BK564.out 1; have hcy564_2 : w44.cell? ⟨gb564, 2, none⟩ = some (.int .i64 0) := (blk_cell BK564.out 2).trans rfl; have hfy564_2 := blk_frozen BK564.out 2)); obtain ⟨hcz47_0, hcz47_1, hcz47_2, hfz47_0, hfz47_1, hfz47_2⟩ := Hof.blk3 BK564.out))
  refine bodyPost_ret (results_ct rfl _ _ gb564 108 #[.int .i64 0, .int .i64 0, .int .i64 0] (0, 0) _ rfl (by (with_reducible repeat (first | refine blk_drewN ?_ _ | refine blk_drew ?_ | refine blk_alloc ?_ _)); refine blk_put (cs := #[.int .i64 0, .int .i64 0, .int .i64 0]) ?_ 2 _ rfl; (with_reducible repeat (first | refine blk_drewN ?_ _ | refine blk_drew ?_ | refine blk_alloc ?_ _)); refine blk_put (cs := #[.int .i64 0, .int .i64 0, .int .i64 0]) ?_ 1 _ rfl; (with_reducible repeat (first | refine blk_drewN ?_ _ | refine blk_drew ?_ | refine blk_alloc ?_ _)); refine blk_put (cs := #[.int .i64 0, .int .i64 0, .int .i64 0]) ?_ 0 _ rfl; (with_reducible repeat (first | refine blk_drewN ?_ _ | refine blk_drew ?_ | refine blk_alloc ?_ _)); exact BK564.out) Try.underlying108 rfl (by kernel_rfl)) rfl ?_
  exact ⟨by first | rfl | (simp [errW_none, errW_some] <;> rfl) | (simp [*, errW_none, errW_some] <;> rfl), by repeat (first | (with_reducible first | exact HB.out | apply below_alloc | apply pw_below_drewN | apply below_drew1 | refine below_set ?_ GE563.out | refine below_set ?_ GE564.out) | exact HB.out)⟩
end Go.Proofs.Ytmpodackojmojaa.Pr
end
section
namespace Go.Proofs.Ytmpodackojmojaa.Pr
open Go.RowKit Go.Proofs.YtmpodackojmojaaW.PrintWords Go.Proofs.YtmpodackojmojaaW.PrintLast Go.Proofs.YtmpodackojmojaaW.PrintMore
attribute [local go_sem] max2_int min2_int max_two min_two max_three min_three max_four min_four
set_option linter.unusedVariables false
set_option linter.unusedSimpArgs false
def spec_IsMatroid.f (k : Nat) (a0_0 : Int) (l0_1 : List Int) : Option (Bool) := (spec_FirstFailure.f k a0_0 l0_1).bind fun bt572 => ((spec_IsFamily.f k a0_0 l0_1).bind fun t577 => (if t577 = true then (if (l0_1.length : Int) > 0 then (some (!bt572.2.2.2)) else (some false)) else (some false)))
set_option maxHeartbeats 8000000 in
set_option maxRecDepth 100000 in
theorem spec_IsMatroid.calls (k : Nat) (a0_0 : Int) (A0_1 : Option Addr) (c0_1 : Nat) (l0_1 : List Int) (r : Bool) (w : World) (hr0_1 : Kd.C (Kd.int .i64) w A0_1 l0_1.length l0_1) (hc0_1 : l0_1.length ≤ c0_1) (h : spec_IsMatroid.f k a0_0 l0_1 = some r) :
  Calls Try.prog 76 #[.agg #[.int .i64 a0_0, .slice A0_1 l0_1.length c0_1]] w fun e w' => e = .returned (.bool r) ∧ Below w.heap.size w w' := by
 have hu35 := Try.underlying35
 have hu108 := Try.underlying108
 have HR0_1 := Aside0.mk hr0_1
 have HC0_1 := Aside0.mk hc0_1
 clear hr0_1 hc0_1
 have HB := Aside0.mk (Below.refl w.heap.size w)
 have H : ((spec_FirstFailure.f k a0_0 l0_1).bind fun bt572 => ((spec_IsFamily.f k a0_0 l0_1).bind fun t577 => (if t577 = true then (if (l0_1.length : Int) > 0 then (some (!bt572.2.2.2)) else (some false)) else (some false)))) = some r := h
 clear h
 replace H := Option.bind_eq_some_iff.mp H
 obtain ⟨⟨t572, t573, t574, t575⟩, A20, H⟩ := H
 (try dsimp only at H)
 have A2 := Aside0.mk A20
 clear A20
 replace H := Option.bind_eq_some_iff.mp H
 obtain ⟨t577, A30, H⟩ := H
 (try dsimp only at H)
 have A3 := Aside0.mk A30
 clear A30
 by_cases c4 : t577 = true
 ·subst c4
  have H1 : (if (l0_1.length : Int) > 0 then (some (!t575)) else (some false)) = some r := by rw [if_pos rfl] at H; exact H
  clear H
  have H := H1
  clear H1
  by_cases c5 : (l0_1.length : Int) > 0
  ·rw [if_pos c5] at H
   have c5b0 : decide (0 < (l0_1.length : Int)) = true := decide_eq_true c5
   have c5b1 : decide (0 < l0_1.length) = true := decide_eq_true (by omega)
   clear c5
   obtain rfl := Option.some.inj H
   go_enter Try.func76, Try.ntmps76
   go_wp2_with (first | ((with_reducible refine gate_dst (N := 1) rfl ?_); (try (refine gate_guard (by rfl) ?_; dsimp only)); refine box_event ?hg (N := 1) ?hd (cs := #[.int .i64 a0_0, .slice A0_1 l0_1.length c0_1]) (t := 35) ?hr ?_; (case hd => rfl); (case hg => rfl); (case hr => first | (go_simp; done) | (go_simp; rfl)); intro gb571 hg w6 hbox hb; have BK571 := Aside0.mk hbox; have GW571 := Aside0.mk ((by rw [hg]; exact (below_size (Hof.Lw HB.out)) : w.heap.size ≤ gb571)); have GE571 := Aside0.mk ((by rw [hg]; exact (below_size (Hof.Lw HB.out)) : w.heap.size ≤ gb571)); replace HB := Aside0.mk (below_step (Hof.Lw HB.out) hb); clear hb hbox hg; obtain ⟨hcz7_0, hcz7_1, hfz7_0, hfz7_1⟩ := Hof.blk2 BK571.out) | ((with_reducible refine gate_callee (f := 113) rfl ?_); refine goesL_ (some 7) rfl rfl Try.func113 (by kernel_rfl) rfl #[.agg #[.int .i64 a0_0, .slice A0_1 l0_1.length c0_1]] rfl (by (try simp only [List.map_toArray, List.map_cons, List.map_nil]); first | done | rfl) ?_; (with_reducible refine (spec_FirstFailure.calls k a0_0 _ _ l0_1 t572 t573 t574 t575 _ ?side1 ?side2 A2.out).mono ?_); (case side1 => exact Hof.Cw (Kd.C_below HR0_1.out HB.out)); (case side2 => exact HC0_1.out); rintro e w8 ⟨rfl, hb⟩; refine ⟨_, rfl, ?_⟩; replace BK571 := Aside0.mk (blk_below (Hof.Bw BK571.out) hb); replace HB := Aside0.mk (below_step (by repeat (first | (with_reducible first | exact HB.out | apply below_alloc | apply pw_below_drewN | apply below_drew1 | refine below_set ?_ GE571.out) | exact HB.out)) hb); (try clear hb); (try clear hb2); (try clear hk); (try clear hi)) | ((with_reducible refine gate_dst (N := 3) rfl ?_); (try (refine gate_guard (by rfl) ?_; dsimp only)); refine box_event ?hg (N := 3) ?hd (cs := #[.int .i64 0, .int .i64 0, .int .i64 0]) (t := 108) ?hr ?_; (case hd => rfl); (case hg => rfl); (case hr => first | (go_simp; done) | (go_simp; rfl)); intro gb576 hg w9 hbox hb; have BK576 := Aside0.mk hbox; have GW576 := Aside0.mk ((by rw [hg]; exact (below_size (by repeat (first | (with_reducible first | exact HB.out | apply below_alloc | apply pw_below_drewN | apply below_drew1 | refine below_set ?_ GE571.out) | exact HB.out))) : w.heap.size ≤ gb576)); have GE576 := Aside0.mk ((by rw [hg]; exact (below_size (by repeat (first | (with_reducible first | exact HB.out | apply below_alloc | apply pw_below_drewN | apply below_drew1 | refine below_set ?_ GE571.out) | exact HB.out))) : w.heap.size ≤ gb576)); replace HB := Aside0.mk (below_step (by repeat (first | (with_reducible first | exact HB.out | apply below_alloc | apply pw_below_drewN | apply below_drew1 | refine below_set ?_ GE571.out) | exact HB.out)) hb); have NB571_576 := Aside0.mk ((by rw [hg]; exact Nat.ne_of_lt (blk_lt (g := gb571) (o := .cells #[.int .i64 a0_0, .slice A0_1 l0_1.length c0_1] 35 (0, 0)) (Hof.Bw BK571.out)) : gb571 ≠ gb576)); have NB576_571 := Aside0.mk ((by rw [hg]; exact Nat.ne_of_gt (blk_lt (g := gb571) (o := .cells #[.int .i64 a0_0, .slice A0_1 l0_1.length c0_1] 35 (0, 0)) (Hof.Bw BK571.out)) : gb576 ≠ gb571)); replace BK571 := Aside0.mk (blk_below (Hof.Bw BK571.out) hb); clear hb hbox hg; have hnb10 := NB576_571.out; have hnc10 := NB571_576.out; obtain ⟨hcz11_0, hcz11_1, hcz11_2, hfz11_0, hfz11_1, hfz11_2⟩ := Hof.blk3 BK576.out; obtain ⟨hcz12_0, hcz12_1, hfz12_0, hfz12_1⟩ := Hof.blk2 BK571.out) | ((with_reducible refine gate_callee (f := 114) rfl ?_); refine goesL_ (some 14) rfl rfl Try.func114 (by kernel_rfl) rfl #[.int .i64 a0_0, .slice A0_1 l0_1.length c0_1] rfl (by (try simp only [List.map_toArray, List.map_cons, List.map_nil]); first | done | rfl) ?_; (with_reducible refine (spec_IsFamily.calls k a0_0 _ _ l0_1 true _ ?side1 ?side2 A3.out).mono ?_); (case side1 => exact Kd.C_below HR0_1.out (by repeat (first | (with_reducible first | exact HB.out | apply below_alloc | apply pw_below_drewN | apply below_drew1 | refine below_set ?_ GE571.out | refine below_set ?_ GE576.out) | exact HB.out))); (case side2 => exact HC0_1.out); rintro e w' ⟨rfl, ⟨nd, rfl⟩⟩; refine ⟨_, rfl, ?_⟩))
   go_ret
   exact ⟨by first | rfl | (simp [errW_none, errW_some] <;> rfl) | (simp [*, errW_none, errW_some] <;> rfl), by repeat (first | (with_reducible first | exact HB.out | apply below_alloc | apply pw_below_drewN | apply below_drew1 | refine below_set ?_ GE571.out | refine below_set ?_ GE576.out) | exact HB.out)⟩
  ·rw [if_neg c5] at H
   have c5b0 : decide (0 < (l0_1.length : Int)) = false := decide_eq_false c5
   have c5b1 : decide (0 < l0_1.length) = false := decide_eq_false (by omega)
   clear c5
   obtain rfl := Option.some.inj H
   go_enter Try.func76, Try.ntmps76
   go_wp2_with (first | ((with_reducible refine gate_dst (N := 1) rfl ?_); (try (refine gate_guard (by rfl) ?_; dsimp only)); refine box_event ?hg (N := 1) ?hd (cs := #[.int .i64 a0_0, .slice A0_1 l0_1.length c0_1]) (t := 35) ?hr ?_; (case hd => rfl); (case hg => rfl); (case hr => first | (go_simp; done) | (go_simp; rfl)); intro gb571 hg w13 hbox hb; have BK571 := Aside0.mk hbox; have GW571 := Aside0.mk ((by rw [hg]; exact (below_size (Hof.Lw HB.out)) : w.heap.size ≤ gb571)); have GE571 := Aside0.mk ((by rw [hg]; exact (below_size (Hof.Lw HB.out)) : w.heap.size ≤ gb571)); replace HB := Aside0.mk (below_step (Hof.Lw HB.out) hb); clear hb hbox hg; obtain ⟨hcz14_0, hcz14_1, hfz14_0, hfz14_1⟩ := Hof.blk2 BK571.out) | ((with_reducible refine gate_callee (f := 113) rfl ?_); refine goesL_ (some 7) rfl rfl Try.func113 (by kernel_rfl) rfl #[.agg #[.int .i64 a0_0, .slice A0_1 l0_1.length c0_1]] rfl (by (try simp only [List.map_toArray, List.map_cons, List.map_nil]); first | done | rfl) ?_; (with_reducible refine (spec_FirstFailure.calls k a0_0 _ _ l0_1 t572 t573 t574 t575 _ ?side1 ?side2 A2.out).mono ?_); (case side1 => exact Hof.Cw (Kd.C_below HR0_1.out HB.out)); (case side2 => exact HC0_1.out); rintro e w15 ⟨rfl, hb⟩; refine ⟨_, rfl, ?_⟩; replace BK571 := Aside0.mk (blk_below (Hof.Bw BK571.out) hb); replace HB := Aside0.mk (below_step (by repeat (first | (with_reducible first | exact HB.out | apply below_alloc | apply pw_below_drewN | apply below_drew1 | refine below_set ?_ GE571.out) | exact HB.out)) hb); (try clear hb); (try clear hb2); (try clear hk); (try clear hi)) | ((with_reducible refine gate_dst (N := 3) rfl ?_); (try (refine gate_guard (by rfl) ?_; dsimp only)); refine box_event ?hg (N := 3) ?hd (cs := #[.int .i64 0, .int .i64 0, .int .i64 0]) (t := 108) ?hr ?_; (case hd => rfl); (case hg => rfl); (case hr => first | (go_simp; done) | (go_simp; rfl)); intro gb576 hg w16 hbox hb; have BK576 := Aside0.mk hbox; have GW576 := Aside0.mk ((by rw [hg]; exact (below_size (by repeat (first | (with_reducible first | exact HB.out | apply below_alloc | apply pw_below_drewN | apply below_drew1 | refine below_set ?_ GE571.out) | exact HB.out))) : w.heap.size ≤ gb576)); have GE576 := Aside0.mk ((by rw [hg]; exact (below_size (by repeat (first | (with_reducible first | exact HB.out | apply below_alloc | apply pw_below_drewN | apply below_drew1 | refine below_set ?_ GE571.out) | exact HB.out))) : w.heap.size ≤ gb576)); replace HB := Aside0.mk (below_step (by repeat (first | (with_reducible first | exact HB.out | apply below_alloc | apply pw_below_drewN | apply below_drew1 | refine below_set ?_ GE571.out) | exact HB.out)) hb); have NB571_576 := Aside0.mk ((by rw [hg]; exact Nat.ne_of_lt (blk_lt (g := gb571) (o := .cells #[.int .i64 a0_0, .slice A0_1 l0_1.length c0_1] 35 (0, 0)) (Hof.Bw BK571.out)) : gb571 ≠ gb576)); have NB576_571 := Aside0.mk ((by rw [hg]; exact Nat.ne_of_gt (blk_lt (g := gb571) (o := .cells #[.int .i64 a0_0, .slice A0_1 l0_1.length c0_1] 35 (0, 0)) (Hof.Bw BK571.out)) : gb576 ≠ gb571)); replace BK571 := Aside0.mk (blk_below (Hof.Bw BK571.out) hb); clear hb hbox hg; have hnb17 := NB576_571.out; have hnc17 := NB571_576.out; obtain ⟨hcz18_0, hcz18_1, hcz18_2, hfz18_0, hfz18_1, hfz18_2⟩ := Hof.blk3 BK576.out; obtain ⟨hcz19_0, hcz19_1, hfz19_0, hfz19_1⟩ := Hof.blk2 BK571.out) | ((with_reducible refine gate_callee (f := 114) rfl ?_); refine goesL_ (some 14) rfl rfl Try.func114 (by kernel_rfl) rfl #[.int .i64 a0_0, .slice A0_1 l0_1.length c0_1] rfl (by (try simp only [List.map_toArray, List.map_cons, List.map_nil]); first | done | rfl) ?_; (with_reducible refine (spec_IsFamily.calls k a0_0 _ _ l0_1 true _ ?side1 ?side2 A3.out).mono ?_); (case side1 => exact Kd.C_below HR0_1.out (by repeat (first | (with_reducible first | exact HB.out | apply below_alloc | apply pw_below_drewN | apply below_drew1 | refine below_set ?_ GE571.out | refine below_set ?_ GE576.out) | exact HB.out))); (case side2 => exact HC0_1.out); rintro e w' ⟨rfl, ⟨nd, rfl⟩⟩; refine ⟨_, rfl, ?_⟩))
   go_ret
   exact ⟨by first | rfl | (simp [errW_none, errW_some] <;> rfl) | (simp [*, errW_none, errW_some] <;> rfl), by repeat (first | (with_reducible first | exact HB.out | apply below_alloc | apply pw_below_drewN | apply below_drew1 | refine below_set ?_ GE571.out | refine below_set ?_ GE576.out) | exact HB.out)⟩
 ·replace c4 := Bool.eq_false_iff.mpr c4
  subst c4
  have H1 : (some false) = some r := by rw [if_neg (show ¬ (false = true) by decide)] at H; exact H
  clear H
  have H := H1
  clear H1
  obtain rfl := Option.some.inj H
  go_enter Try.func76, Try.ntmps76
  go_wp2_with (first | ((with_reducible refine gate_dst (N := 1) rfl ?_); (try (refine gate_guard (by rfl) ?_; dsimp only)); refine box_event ?hg (N := 1) ?hd (cs := #[.int .i64 a0_0, .slice A0_1 l0_1.length c0_1]) (t := 35) ?hr ?_; (case hd => rfl); (case hg => rfl); (case hr => first | (go_simp; done) | (go_simp; rfl)); intro gb571 hg w20 hbox hb; have BK571 := Aside0.mk hbox; have GW571 := Aside0.mk ((by rw [hg]; exact (below_size (Hof.Lw HB.out)) : w.heap.size ≤ gb571)); have GE571 := Aside0.mk ((by rw [hg]; exact (below_size (Hof.Lw HB.out)) : w.heap.size ≤ gb571)); replace HB := Aside0.mk (below_step (Hof.Lw HB.out) hb); clear hb hbox hg; obtain ⟨hcz21_0, hcz21_1, hfz21_0, hfz21_1⟩ := Hof.blk2 BK571.out) | ((with_reducible refine gate_callee (f := 113) rfl ?_); refine goesL_ (some 7) rfl rfl Try.func113 (by kernel_rfl) rfl #[.agg #[.int .i64 a0_0, .slice A0_1 l0_1.length c0_1]] rfl (by (try simp only [List.map_toArray, List.map_cons, List.map_nil]); first | done | rfl) ?_; (with_reducible refine (spec_FirstFailure.calls k a0_0 _ _ l0_1 t572 t573 t574 t575 _ ?side1 ?side2 A2.out).mono ?_); (case side1 => exact Hof.Cw (Kd.C_below HR0_1.out HB.out)); (case side2 => exact HC0_1.out); rintro e w22 ⟨rfl, hb⟩; refine ⟨_, rfl, ?_⟩; replace BK571 := Aside0.mk (blk_below (Hof.Bw BK571.out) hb); replace HB := Aside0.mk (below_step (by repeat (first | (with_reducible first | exact HB.out | apply below_alloc | apply pw_below_drewN | apply below_drew1 | refine below_set ?_ GE571.out) | exact HB.out)) hb); (try clear hb); (try clear hb2); (try clear hk); (try clear hi)) | ((with_reducible refine gate_dst (N := 3) rfl ?_); (try (refine gate_guard (by rfl) ?_; dsimp only)); refine box_event ?hg (N := 3) ?hd (cs := #[.int .i64 0, .int .i64 0, .int .i64 0]) (t := 108) ?hr ?_; (case hd => rfl); (case hg => rfl); (case hr => first | (go_simp; done) | (go_simp; rfl)); intro gb576 hg w23 hbox hb; have BK576 := Aside0.mk hbox; have GW576 := Aside0.mk ((by rw [hg]; exact (below_size (by repeat (first | (with_reducible first | exact HB.out | apply below_alloc | apply pw_below_drewN | apply below_drew1 | refine below_set ?_ GE571.out) | exact HB.out))) : w.heap.size ≤ gb576)); have GE576 := Aside0.mk ((by rw [hg]; exact (below_size (by repeat (first | (with_reducible first | exact HB.out | apply below_alloc | apply pw_below_drewN | apply below_drew1 | refine below_set ?_ GE571.out) | exact HB.out))) : w.heap.size ≤ gb576)); replace HB := Aside0.mk (below_step (by repeat (first | (with_reducible first | exact HB.out | apply below_alloc | apply pw_below_drewN | apply below_drew1 | refine below_set ?_ GE571.out) | exact HB.out)) hb); have NB571_576 := Aside0.mk ((by rw [hg]; exact Nat.ne_of_lt (blk_lt (g := gb571) (o := .cells #[.int .i64 a0_0, .slice A0_1 l0_1.length c0_1] 35 (0, 0)) (Hof.Bw BK571.out)) : gb571 ≠ gb576)); have NB576_571 := Aside0.mk ((by rw [hg]; exact Nat.ne_of_gt (blk_lt (g := gb571) (o := .cells #[.int .i64 a0_0, .slice A0_1 l0_1.length c0_1] 35 (0, 0)) (Hof.Bw BK571.out)) : gb576 ≠ gb571)); replace BK571 := Aside0.mk (blk_below (Hof.Bw BK571.out) hb); clear hb hbox hg; have hnb24 := NB576_571.out; have hnc24 := NB571_576.out; obtain ⟨hcz25_0, hcz25_1, hcz25_2, hfz25_0, hfz25_1, hfz25_2⟩ := Hof.blk3 BK576.out; obtain ⟨hcz26_0, hcz26_1, hfz26_0, hfz26_1⟩ := Hof.blk2 BK571.out) | ((with_reducible refine gate_callee (f := 114) rfl ?_); refine goesL_ (some 14) rfl rfl Try.func114 (by kernel_rfl) rfl #[.int .i64 a0_0, .slice A0_1 l0_1.length c0_1] rfl (by (try simp only [List.map_toArray, List.map_cons, List.map_nil]); first | done | rfl) ?_; (with_reducible refine (spec_IsFamily.calls k a0_0 _ _ l0_1 false _ ?side1 ?side2 A3.out).mono ?_); (case side1 => exact Kd.C_below HR0_1.out (by repeat (first | (with_reducible first | exact HB.out | apply below_alloc | apply pw_below_drewN | apply below_drew1 | refine below_set ?_ GE571.out | refine below_set ?_ GE576.out) | exact HB.out))); (case side2 => exact HC0_1.out); rintro e w' ⟨rfl, ⟨nd, rfl⟩⟩; refine ⟨_, rfl, ?_⟩))
  go_ret
  exact ⟨by first | rfl | (simp [errW_none, errW_some] <;> rfl) | (simp [*, errW_none, errW_some] <;> rfl), by repeat (first | (with_reducible first | exact HB.out | apply below_alloc | apply pw_below_drewN | apply below_drew1 | refine below_set ?_ GE571.out | refine below_set ?_ GE576.out) | exact HB.out)⟩
end Go.Proofs.Ytmpodackojmojaa.Pr
end
section
namespace Go.Proofs.Ytmpodackojmojaa.Pr
open Go.RowKit Go.Proofs.YtmpodackojmojaaW.PrintWords Go.Proofs.YtmpodackojmojaaW.PrintLast Go.Proofs.YtmpodackojmojaaW.PrintMore
attribute [local go_sem] max2_int min2_int max_two min_two max_three min_three max_four min_four
set_option linter.unusedVariables false
set_option linter.unusedSimpArgs false
def spec_CountOf.l0 : Nat → Int → Int → Option (Int)
 | 0, _, _ => none
 | k + 1, x0, x3 => if x0 > 0 then (spec_CountOf.l0 k (x0 / 2) (wrap64 (x3 + (Go.bits .and .i64 x0 1)))) else (some x3)
def spec_CountOf.f (k : Nat) (a0 : Int) : Option (Int) := (spec_IsSet.f 8 a0).bind fun t578 => (if t578 = true then (spec_CountOf.l0 k a0 0) else (some 0))
theorem spec_CountOf.mono_l : ∀ k, (∀ y0 y1, LeO (spec_CountOf.l0 k y0 y1) (spec_CountOf.l0 (k + 1) y0 y1))
 | 0 => fun _ _ r h => by simp [spec_CountOf.l0] at h
 | k + 1 => by
  have ih0 := spec_CountOf.mono_l k
  ·intro y0 y1
   unfold spec_CountOf.l0
   repeat' first
   | (with_reducible exact ih0 _ _)
   | (with_reducible exact LeO.refl _)
   | (with_reducible exact LeO.none _)
   | (with_reducible refine LeO.ite ?_ ?_)
   | (with_reducible refine LeO.bind ?_ (fun _ => ?_))
   | exact ih0 _ _
   | exact LeO.none _
   | refine LeO.ite ?_ ?_
   | refine LeO.bind ?_ (fun _ => ?_)
theorem spec_CountOf.mono : ∀ a0 k, LeO (spec_CountOf.f k a0) (spec_CountOf.f (k + 1) a0) := by
 intro a0 k
 have ih0 := spec_CountOf.mono_l k
 unfold spec_CountOf.f
 repeat' first
   | (with_reducible exact ih0 _ _)
   | (with_reducible exact LeO.refl _)
   | (with_reducible exact LeO.none _)
   | (with_reducible refine LeO.ite ?_ ?_)
   | (with_reducible refine LeO.bind ?_ (fun _ => ?_))
   | exact ih0 _ _
   | exact LeO.none _
   | refine LeO.ite ?_ ?_
   | refine LeO.bind ?_ (fun _ => ?_)
set_option maxHeartbeats 8000000 in
set_option maxRecDepth 100000 in
theorem spec_CountOf.calls (k : Nat) (a0 : Int) (r : Int) (w : World) (h : spec_CountOf.f k a0 = some r) :
  Calls Try.prog 96 #[.int .i64 a0] w fun e w' => e = .returned (.int .i64 r) ∧ Drawn0 w w' := by
 have H : ((spec_IsSet.f 8 a0).bind fun t578 => (if t578 = true then (spec_CountOf.l0 k a0 0) else (some 0))) = some r := h
 clear h
 replace H := Option.bind_eq_some_iff.mp H
 obtain ⟨t578, A20, H⟩ := H
 (try dsimp only at H)
 have A2 := Aside0.mk A20
 clear A20
 by_cases c3 : t578 = true
 ·subst c3
  have H1 : (spec_CountOf.l0 k a0 0) = some r := by rw [if_pos rfl] at H; exact H
  clear H
  have H := H1
  clear H1
  have H' := Aside0.mk H
  clear H
  go_enter Try.func96, Try.ntmps96
  go_wp2_with (first | ((with_reducible refine gate_callee (f := 56) rfl ?_); refine goesL_ (some 5) rfl rfl Try.func56 (by kernel_rfl) rfl #[.int .i64 8, .int .i64 a0] rfl (by (try simp only [List.map_toArray, List.map_cons, List.map_nil]); first | done | rfl) ?_; (with_reducible refine (spec_IsSet.calls 8 a0 true _ A2.out).mono ?_); rintro e w' ⟨rfl, ⟨nd, rfl⟩⟩; refine ⟨_, rfl, ?_⟩))
  go_loopg [0, 3] k (fun kq v0 v3 w' => ∃ (x0_1 : Int) (x3_1 : Int), v0 = .int .i64 x0_1 ∧ v3 = .int .i64 x3_1 ∧ Aside0 (spec_CountOf.l0 kq x0_1 x3_1 = some r) ∧ Aside0 (kq ≤ k) ∧ Drawn0 w w')
  case atStart => exact ⟨(a0), (0), (by first | rfl | (simp; done) | (simp [*]; done)), (by first | rfl | (simp; done) | (simp [*]; done)), H', ⟨Nat.le_refl _⟩, by repeat (first | exact Drawn0.refl _ | apply Drawn0.step)⟩
  case round =>
   clear H'
   try clear p2
   try clear c3
   obtain ⟨x0_1, x3_1, rfl, rfl, HA, HK1, ⟨m1, rfl⟩⟩ := hrel
   cases gk with
   | zero => exact absurd HA.out (by simp [spec_CountOf.l0])
   | succ k1 =>
    have H := HA.out
    clear HA
    simp only [spec_CountOf.l0] at H
    by_cases c4 : x0_1 > 0
    ·rw [if_pos c4] at H
     have c4b0 : decide (0 < x0_1) = true := decide_eq_true c4
     clear c4
     have H' := Aside0.mk H
     clear H
     go_wp2
     go_roundg k1
     case measure => have := HK1.out; omega
     case rel => exact ⟨(x0_1 / 2), (wrap64 (x3_1 + (Go.bits .and .i64 x0_1 1))), (by first | rfl | (simp; done) | (simp [*]; done)), (by first | rfl | (simp; done) | (simp [*]; done)), H', ⟨by have := HK1.out; omega⟩, by repeat (first | exact Drawn0.refl _ | apply Drawn0.step)⟩
    ·rw [if_neg c4] at H
     have c4b0 : decide (0 < x0_1) = false := decide_eq_false c4
     clear c4
     obtain rfl := Option.some.inj H
     go_wp2
     go_ret
     exact ⟨by first | rfl | (simp; done) | (simp [*]; done), by repeat (first | exact Drawn0.refl _ | apply Drawn0.step)⟩
 ·replace c3 := Bool.eq_false_iff.mpr c3
  subst c3
  have H1 : (some 0) = some r := by rw [if_neg (show ¬ (false = true) by decide)] at H; exact H
  clear H
  have H := H1
  clear H1
  obtain rfl := Option.some.inj H
  go_enter Try.func96, Try.ntmps96
  go_wp2_with (first | ((with_reducible refine gate_callee (f := 56) rfl ?_); refine goesL_ (some 5) rfl rfl Try.func56 (by kernel_rfl) rfl #[.int .i64 8, .int .i64 a0] rfl (by (try simp only [List.map_toArray, List.map_cons, List.map_nil]); first | done | rfl) ?_; (with_reducible refine (spec_IsSet.calls 8 a0 false _ A2.out).mono ?_); rintro e w' ⟨rfl, ⟨nd, rfl⟩⟩; refine ⟨_, rfl, ?_⟩))
  go_ret
  exact ⟨by first | rfl | (simp; done) | (simp [*]; done), by repeat (first | exact Drawn0.refl _ | apply Drawn0.step)⟩
end Go.Proofs.Ytmpodackojmojaa.Pr
end
section
namespace Go.Proofs.Ytmpodackojmojaa.Pr
open Go.RowKit Go.Proofs.YtmpodackojmojaaW.PrintWords Go.Proofs.YtmpodackojmojaaW.PrintLast Go.Proofs.YtmpodackojmojaaW.PrintMore
attribute [local go_sem] max2_int min2_int max_two min_two max_three min_three max_four min_four
set_option linter.unusedVariables false
set_option linter.unusedSimpArgs false
def spec_RankOfMatroid.f (k : Nat) (a0_0 : Int) (l0_1 : List Int) : Option (Int) := (spec_IsMatroid.f k a0_0 l0_1).bind fun t580 => (if t580 = true then (if 0 < (l0_1.length : Int) then ((spec_CountOf.f k (rd l0_1 0)).bind fun t582 => (some t582)) else (none)) else (some (-1)))
set_option maxHeartbeats 8000000 in
set_option maxRecDepth 100000 in
theorem spec_RankOfMatroid.calls (k : Nat) (a0_0 : Int) (A0_1 : Option Addr) (c0_1 : Nat) (l0_1 : List Int) (r : Int) (w : World) (hr0_1 : Kd.C (Kd.int .i64) w A0_1 l0_1.length l0_1) (hc0_1 : l0_1.length ≤ c0_1) (h : spec_RankOfMatroid.f k a0_0 l0_1 = some r) :
  Calls Try.prog 47 #[.agg #[.int .i64 a0_0, .slice A0_1 l0_1.length c0_1]] w fun e w' => e = .returned (.int .i64 r) ∧ Below w.heap.size w w' := by
 have hu35 := Try.underlying35
 have HR0_1 := Aside0.mk hr0_1
 have HC0_1 := Aside0.mk hc0_1
 clear hr0_1 hc0_1
 have HB := Aside0.mk (Below.refl w.heap.size w)
 have H : ((spec_IsMatroid.f k a0_0 l0_1).bind fun t580 => (if t580 = true then (if 0 < (l0_1.length : Int) then ((spec_CountOf.f k (rd l0_1 0)).bind fun t582 => (some t582)) else (none)) else (some (-1)))) = some r := h
 clear h
 replace H := Option.bind_eq_some_iff.mp H
 obtain ⟨t580, A20, H⟩ := H
 (try dsimp only at H)
 have A2 := Aside0.mk A20
 clear A20
 by_cases c3 : t580 = true
 ·subst c3
  have H1 : (if 0 < (l0_1.length : Int) then ((spec_CountOf.f k (rd l0_1 0)).bind fun t582 => (some t582)) else (none)) = some r := by rw [if_pos rfl] at H; exact H
  clear H
  have H := H1
  clear H1
  by_cases c4 : 0 < (l0_1.length : Int)
  ·rw [if_pos c4] at H
   have c4b0 : decide (0 < (l0_1.length : Int)) = true := decide_eq_true c4
   have c4b1 : decide (0 < l0_1.length) = true := decide_eq_true (by omega)
   clear c4
   replace H := Option.bind_eq_some_iff.mp H
   obtain ⟨t582, A50, H⟩ := H
   (try dsimp only at H)
   have A5 := Aside0.mk A50
   clear A50
   obtain rfl := Option.some.inj H
   go_enter Try.func47, Try.ntmps47
   go_wp2_with (first | ((with_reducible refine gate_dst (N := 1) rfl ?_); refine box_event ?hg (N := 1) ?hd (cs := #[.int .i64 a0_0, .slice A0_1 l0_1.length c0_1]) (t := 35) ?hr ?_; (case hd => rfl); (case hg => rfl); (case hr => first | (go_simp; done) | (go_simp; rfl)); intro gb579 hg w6 hbox hb; have BK579 := Aside0.mk hbox; have GW579 := Aside0.mk ((by rw [hg]; exact (below_size (Hof.Lw HB.out)) : w.heap.size ≤ gb579)); have GE579 := Aside0.mk ((by rw [hg]; exact (below_size (Hof.Lw HB.out)) : w.heap.size ≤ gb579)); replace HB := Aside0.mk (below_step (Hof.Lw HB.out) hb); clear hb hbox hg; obtain ⟨hcz7_0, hcz7_1, hfz7_0, hfz7_1⟩ := Hof.blk2 BK579.out) | ((with_reducible refine gate_callee (f := 76) rfl ?_); refine goesL_ (some 4) rfl rfl Try.func76 (by kernel_rfl) rfl #[.agg #[.int .i64 a0_0, .slice A0_1 l0_1.length c0_1]] rfl (by (try simp only [List.map_toArray, List.map_cons, List.map_nil]); first | done | rfl) ?_; (with_reducible refine (spec_IsMatroid.calls k a0_0 _ _ l0_1 true _ ?side1 ?side2 A2.out).mono ?_); (case side1 => exact Hof.Cw (Kd.C_below HR0_1.out HB.out)); (case side2 => exact HC0_1.out); rintro e w8 ⟨rfl, hb⟩; refine ⟨_, rfl, ?_⟩; replace BK579 := Aside0.mk (blk_below (Hof.Bw BK579.out) hb); replace HB := Aside0.mk (below_step (Hof.Lw HB.out) hb); (try clear hb); (try clear hb2); (try clear hk); (try clear hi); obtain ⟨hcz9_0, hcz9_1, hfz9_0, hfz9_1⟩ := Hof.blk2 BK579.out; have p581 : 0 ≤ (0 : Int) := (by omega); have q581 : 0 < (l0_1.length : Int) := of_decide_eq_true (by first | (with_reducible assumption) | assumption); obtain ⟨ad581, e581, hx581_0⟩ := Kd.at_int HR0_1.out 0 p581 q581; cases e581; have qi581 : (0 < l0_1.length) = True := eq_true (by omega); (try rw [show ((0 : Int)).toNat = 0 from rfl] at hx581_0); (try rw [Addr.add_zero'] at hx581_0); replace hx581_0 := (HB.out.cell (World.block_lt_of_cell? w _ hx581_0)).trans hx581_0; replace p581 := eq_true p581; replace q581 := eq_true q581) | ((with_reducible refine gate_callee (f := 96) rfl ?_); refine goesL_ (some 10) rfl rfl Try.func96 (by kernel_rfl) rfl #[.int .i64 (rd l0_1 0)] rfl (by (try simp only [List.map_toArray, List.map_cons, List.map_nil]); first | done | rfl) ?_; (with_reducible refine (spec_CountOf.calls k (rd l0_1 0) t582 _ A5.out).mono ?_); rintro e w' ⟨rfl, ⟨nd, rfl⟩⟩; refine ⟨_, rfl, ?_⟩))
   go_ret
   exact ⟨by first | rfl | (simp [errW_none, errW_some] <;> rfl) | (simp [*, errW_none, errW_some] <;> rfl), by repeat (first | (with_reducible first | exact HB.out | apply below_alloc | apply pw_below_drewN | apply below_drew1 | refine below_set ?_ GE579.out) | exact HB.out)⟩
  ·rw [if_neg c4] at H
   exact absurd H (by simp)
 ·replace c3 := Bool.eq_false_iff.mpr c3
  subst c3
  have H1 : (some (-1)) = some r := by rw [if_neg (show ¬ (false = true) by decide)] at H; exact H
  clear H
  have H := H1
  clear H1
  obtain rfl := Option.some.inj H
  go_enter Try.func47, Try.ntmps47
  go_wp2_with (first | ((with_reducible refine gate_dst (N := 1) rfl ?_); refine box_event ?hg (N := 1) ?hd (cs := #[.int .i64 a0_0, .slice A0_1 l0_1.length c0_1]) (t := 35) ?hr ?_; (case hd => rfl); (case hg => rfl); (case hr => first | (go_simp; done) | (go_simp; rfl)); intro gb579 hg w10 hbox hb; have BK579 := Aside0.mk hbox; have GW579 := Aside0.mk ((by rw [hg]; exact (below_size (Hof.Lw HB.out)) : w.heap.size ≤ gb579)); have GE579 := Aside0.mk ((by rw [hg]; exact (below_size (Hof.Lw HB.out)) : w.heap.size ≤ gb579)); replace HB := Aside0.mk (below_step (Hof.Lw HB.out) hb); clear hb hbox hg; obtain ⟨hcz11_0, hcz11_1, hfz11_0, hfz11_1⟩ := Hof.blk2 BK579.out) | ((with_reducible refine gate_callee (f := 76) rfl ?_); refine goesL_ (some 4) rfl rfl Try.func76 (by kernel_rfl) rfl #[.agg #[.int .i64 a0_0, .slice A0_1 l0_1.length c0_1]] rfl (by (try simp only [List.map_toArray, List.map_cons, List.map_nil]); first | done | rfl) ?_; (with_reducible refine (spec_IsMatroid.calls k a0_0 _ _ l0_1 false _ ?side1 ?side2 A2.out).mono ?_); (case side1 => exact Hof.Cw (Kd.C_below HR0_1.out HB.out)); (case side2 => exact HC0_1.out); rintro e w12 ⟨rfl, hb⟩; refine ⟨_, rfl, ?_⟩; replace BK579 := Aside0.mk (blk_below (Hof.Bw BK579.out) hb); replace HB := Aside0.mk (below_step (Hof.Lw HB.out) hb); (try clear hb); (try clear hb2); (try clear hk); (try clear hi)))
  go_ret
  exact ⟨by first | rfl | (simp [errW_none, errW_some] <;> rfl) | (simp [*, errW_none, errW_some] <;> rfl), by repeat (first | (with_reducible first | exact HB.out | apply below_alloc | apply pw_below_drewN | apply below_drew1 | refine below_set ?_ GE579.out) | exact HB.out)⟩
end Go.Proofs.Ytmpodackojmojaa.Pr
end
section
namespace Go.Proofs.Ytmpodackojmojaa.Pr
open Go.RowKit Go.Proofs.YtmpodackojmojaaW.PrintWords Go.Proofs.YtmpodackojmojaaW.PrintLast Go.Proofs.YtmpodackojmojaaW.PrintMore
attribute [local go_sem] max2_int min2_int max_two min_two max_three min_three max_four min_four
set_option linter.unusedVariables false
set_option linter.unusedSimpArgs false
def spec_LateTasks.f (k : Nat) (l0 : List (S73)) : Option (Int) := (spec_AreTasks.f k l0).bind fun t583 => (if t583 = true then ((spec_TaskMatroid.f k l0).bind fun bt584 => ((spec_RankOfMatroid.f k bt584.1 bt584.2).bind fun t588 => (some (wrap64 ((l0.length : Int) - t588))))) else (some (-1)))
set_option maxHeartbeats 8000000 in
set_option maxRecDepth 100000 in
theorem spec_LateTasks.calls (k : Nat) (A0 : Option Addr) (c0 : Nat) (l0 : List (S73)) (r : Int) (w : World) (hr0 : Kd.C k73 w A0 l0.length l0) (hc0 : l0.length ≤ c0) (h : spec_LateTasks.f k l0 = some r) :
  Calls Try.prog 26 #[.slice A0 l0.length c0] w fun e w' => e = .returned (.int .i64 r) ∧ Below w.heap.size w w' := by
 have HR0 := Aside0.mk hr0
 have HC0 := Aside0.mk hc0
 clear hr0 hc0
 have HB := Aside0.mk (Below.refl w.heap.size w)
 have H : ((spec_AreTasks.f k l0).bind fun t583 => (if t583 = true then ((spec_TaskMatroid.f k l0).bind fun bt584 => ((spec_RankOfMatroid.f k bt584.1 bt584.2).bind fun t588 => (some (wrap64 ((l0.length : Int) - t588))))) else (some (-1)))) = some r := h
 clear h
 replace H := Option.bind_eq_some_iff.mp H
 obtain ⟨t583, A20, H⟩ := H
 (try dsimp only at H)
 have A2 := Aside0.mk A20
 clear A20
 by_cases c3 : t583 = true
 ·subst c3
  have H1 : ((spec_TaskMatroid.f k l0).bind fun bt584 => ((spec_RankOfMatroid.f k bt584.1 bt584.2).bind fun t588 => (some (wrap64 ((l0.length : Int) - t588))))) = some r := by rw [if_pos rfl] at H; exact H
  clear H
  have H := H1
  clear H1
  replace H := Option.bind_eq_some_iff.mp H
  obtain ⟨⟨t584, t585⟩, A40, H⟩ := H
  (try dsimp only at H)
  have A4 := Aside0.mk A40
  clear A40
  replace H := Option.bind_eq_some_iff.mp H
  obtain ⟨t588, A50, H⟩ := H
  (try dsimp only at H)
  have A5 := Aside0.mk A50
  clear A50
  obtain rfl := Option.some.inj H
  go_enter Try.func26, Try.ntmps26
  go_wp2_with (first | ((with_reducible refine gate_callee (f := 55) rfl ?_); refine goesL_ (some 4) rfl rfl Try.func55 (by kernel_rfl) rfl #[.slice A0 l0.length c0] rfl (by (try simp only [List.map_toArray, List.map_cons, List.map_nil]); first | done | rfl) ?_; (with_reducible refine (spec_AreTasks.calls k _ _ l0 true _ ?side1 ?side2 A2.out).mono ?_); (case side1 => exact Hof.Cw HR0.out); (case side2 => exact HC0.out); rintro e w' ⟨rfl, ⟨nd, rfl⟩⟩; refine ⟨_, rfl, ?_⟩) | ((with_reducible refine gate_callee (f := 21) rfl ?_); refine goesL_ (some 9) rfl rfl Try.func21 (by kernel_rfl) rfl #[.slice A0 l0.length c0] rfl (by (try simp only [List.map_toArray, List.map_cons, List.map_nil]); first | done | rfl) ?_; (with_reducible refine (spec_TaskMatroid.calls k _ _ l0 t584 t585 _ ?side1 ?side2 A4.out).mono ?_); (case side1 => exact Hof.Cw HR0.out); (case side2 => exact HC0.out); rintro e w6 ⟨v586, rfl, ho0, hb⟩; refine ⟨_, rfl, ?_⟩; have HO587 := Aside0.mk (Kd.R_lower ho0 (below_size (Hof.Lw HB.out))); replace HB := Aside0.mk (below_step (Hof.Lw HB.out) hb); (try clear hb); (try clear hb2); (try clear hk); (try clear hi); (try clear ho0); obtain ⟨Ao7, co7, eo7⟩ := Kd.R_slice HO587.out; subst eo7) | ((with_reducible refine gate_callee (f := 47) rfl ?_); refine goesL_ (some 10) rfl rfl Try.func47 (by kernel_rfl) rfl #[.agg #[.int .i64 t584, .slice Ao7 t585.length co7]] rfl (by (try simp only [List.map_toArray, List.map_cons, List.map_nil]); first | done | rfl) ?_; (with_reducible refine (spec_RankOfMatroid.calls k t584 _ _ t585 t588 _ ?side1 ?side2 A5.out).mono ?_); (case side1 => exact Hof.Cw ((Kd.R_reads' HO587.out).2.2)); (case side2 => exact (Kd.R_reads' HO587.out).2.1); rintro e w8 ⟨rfl, hb⟩; refine ⟨_, rfl, ?_⟩; replace HO587 := Aside0.mk (Kd.R_below (Hof.Rw HO587.out) hb); replace HB := Aside0.mk (below_step (Hof.Lw HB.out) hb); (try clear hb); (try clear hb2); (try clear hk); (try clear hi)))
  go_ret
  exact ⟨by first | rfl | (simp [errW_none, errW_some] <;> rfl) | (simp [*, errW_none, errW_some] <;> rfl), by repeat (first | (with_reducible first | exact HB.out | apply below_alloc | apply pw_below_drewN | apply below_drew1) | exact HB.out)⟩
 ·replace c3 := Bool.eq_false_iff.mpr c3
  subst c3
  have H1 : (some (-1)) = some r := by rw [if_neg (show ¬ (false = true) by decide)] at H; exact H
  clear H
  have H := H1
  clear H1
  obtain rfl := Option.some.inj H
  go_enter Try.func26, Try.ntmps26
  go_wp2_with (first | ((with_reducible refine gate_callee (f := 55) rfl ?_); refine goesL_ (some 4) rfl rfl Try.func55 (by kernel_rfl) rfl #[.slice A0 l0.length c0] rfl (by (try simp only [List.map_toArray, List.map_cons, List.map_nil]); first | done | rfl) ?_; (with_reducible refine (spec_AreTasks.calls k _ _ l0 false _ ?side1 ?side2 A2.out).mono ?_); (case side1 => exact Hof.Cw HR0.out); (case side2 => exact HC0.out); rintro e w' ⟨rfl, ⟨nd, rfl⟩⟩; refine ⟨_, rfl, ?_⟩))
  go_ret
  exact ⟨by first | rfl | (simp [errW_none, errW_some] <;> rfl) | (simp [*, errW_none, errW_some] <;> rfl), by repeat (first | (with_reducible first | exact HB.out | apply below_alloc | apply pw_below_drewN | apply below_drew1) | exact HB.out)⟩
end Go.Proofs.Ytmpodackojmojaa.Pr
end
section
namespace Go.Proofs.Ytmpodackojmojaa.Pr
open Go.RowKit Go.Proofs.YtmpodackojmojaaW.PrintWords Go.Proofs.YtmpodackojmojaaW.PrintLast Go.Proofs.YtmpodackojmojaaW.PrintMore
attribute [local go_sem] max2_int min2_int max_two min_two max_three min_three max_four min_four
set_option linter.unusedVariables false
set_option linter.unusedSimpArgs false
def impl_AreTasks.l0 : Nat → List (S73) → List (S73) → Int → Int → Option (Bool)
 | 0, _, _, _, _ => none
 | k + 1, x0, x5, x6, x7 => if x7 < x6 then (if 0 ≤ x7 then (if x7 < (x5.length : Int) then (if ((rd_T73 x5 x7).f0) < 0 then (some false) else (if ((rd_T73 x5 x7).f0) > 6 then (some false) else (if ((rd_T73 x5 x7).f1) < 0 then (some false) else (if ((rd_T73 x5 x7).f1) > 1000 then (some false) else (impl_AreTasks.l0 k x0 x5 x6 (wrap64 (x7 + 1))))))) else (none)) else (none)) else (some (decide ((x0.length : Int) ≤ 8)))
def impl_AreTasks.f (k : Nat) (l0 : List (S73)) : Option (Bool) := impl_AreTasks.l0 k l0 l0 (l0.length : Int) 0
theorem impl_AreTasks.mono_l : ∀ k, (∀ y0 y1 y2 y3, LeO (impl_AreTasks.l0 k y0 y1 y2 y3) (impl_AreTasks.l0 (k + 1) y0 y1 y2 y3))
 | 0 => fun _ _ _ _ r h => by simp [impl_AreTasks.l0] at h
 | k + 1 => by
  have ih0 := impl_AreTasks.mono_l k
  ·intro y0 y1 y2 y3
   unfold impl_AreTasks.l0
   repeat' first
   | (with_reducible exact ih0 _ _ _ _)
   | (with_reducible exact LeO.refl _)
   | (with_reducible exact LeO.none _)
   | (with_reducible refine LeO.ite ?_ ?_)
   | (with_reducible refine LeO.bind ?_ (fun _ => ?_))
   | exact ih0 _ _ _ _
   | exact LeO.none _
   | refine LeO.ite ?_ ?_
   | refine LeO.bind ?_ (fun _ => ?_)
theorem impl_AreTasks.mono : ∀ a0 k, LeO (impl_AreTasks.f k a0) (impl_AreTasks.f (k + 1) a0) := by
 intro a0 k
 have ih0 := impl_AreTasks.mono_l k
 unfold impl_AreTasks.f
 repeat' first
   | (with_reducible exact ih0 _ _ _ _)
   | (with_reducible exact LeO.refl _)
   | (with_reducible exact LeO.none _)
   | (with_reducible refine LeO.ite ?_ ?_)
   | (with_reducible refine LeO.bind ?_ (fun _ => ?_))
   | exact ih0 _ _ _ _
   | exact LeO.none _
   | refine LeO.ite ?_ ?_
   | refine LeO.bind ?_ (fun _ => ?_)
set_option maxHeartbeats 8000000 in
set_option maxRecDepth 100000 in
theorem impl_AreTasks.calls (k : Nat) (A0 : Option Addr) (c0 : Nat) (l0 : List (S73)) (r : Bool) (w : World) (hr0 : Kd.C k73 w A0 l0.length l0) (hc0 : l0.length ≤ c0) (h : impl_AreTasks.f k l0 = some r) :
  Calls Try.prog 60 #[.slice A0 l0.length c0] w fun e w' => e = .returned (.bool r) ∧ Below w.heap.size w w' := by
 have hu73 := Try.underlying73
 have HR0 := Aside0.mk hr0
 have HC0 := Aside0.mk hc0
 clear hr0 hc0
 have HB := Aside0.mk (Below.refl w.heap.size w)
 have H : (impl_AreTasks.l0 k l0 l0 (l0.length : Int) 0) = some r := h
 clear h
 have H' := Aside0.mk H
 clear H
 go_enter Try.func60, Try.ntmps60
 go_wp2
 go_loopg [7] k (fun kq v7 w' => ∃ (x7_1 : Int), v7 = .int .i64 x7_1 ∧ Aside0 (impl_AreTasks.l0 kq l0 l0 (l0.length : Int) x7_1 = some r) ∧ Aside0 (kq ≤ k) ∧ Aside0 (Below w.heap.size w w'))
 case atStart => exact ⟨(0), (by first | rfl | (simp; done) | (simp [*]; done)), H', ⟨Nat.le_refl _⟩, ⟨Hof.Lw HB.out⟩⟩
 case round =>
  clear H'
  obtain ⟨x7_1, rfl, HA, HK1, HB⟩ := hrel
  cases gk with
  | zero => exact absurd HA.out (by simp [impl_AreTasks.l0])
  | succ k1 =>
   have H := HA.out
   clear HA
   simp only [impl_AreTasks.l0] at H
   by_cases c2 : x7_1 < (l0.length : Int)
   ·rw [if_pos c2] at H
    have c2b0 : decide (x7_1 < (l0.length : Int)) = true := decide_eq_true c2
    clear c2
    by_cases c3 : 0 ≤ x7_1
    ·rw [if_pos c3] at H
     have c3b0 : decide (0 ≤ x7_1) = true := decide_eq_true c3
     clear c3
     by_cases c4 : x7_1 < (l0.length : Int)
     ·rw [if_pos c4] at H
      have c4b0 : decide (x7_1 < (l0.length : Int)) = true := decide_eq_true c4
      clear c4
      by_cases c5 : ((rd_T73 l0 x7_1).f0) < 0
      ·rw [if_pos c5] at H
       have c5b0 : decide (((rd_T73 l0 x7_1).f0) < 0) = true := decide_eq_true c5
       clear c5
       obtain rfl := Option.some.inj H
       have p188 : 0 ≤ (x7_1 : Int) := of_decide_eq_true (by first | (with_reducible assumption) | assumption)
       have q188 : x7_1 < (l0.length : Int) := of_decide_eq_true (by first | (with_reducible assumption) | assumption)
       obtain ⟨ad188, e188, hx188_0, hx188_1⟩ := at_T73 HR0.out x7_1 p188 q188
       cases e188
       try replace hx188_0 := (HB.out.cell (World.block_lt_of_cell? w _ hx188_0)).trans hx188_0
       try replace hx188_1 := (HB.out.cell (World.block_lt_of_cell? w _ hx188_1)).trans hx188_1
       replace p188 := eq_true p188
       replace q188 := eq_true q188
       go_wp2_with (first | ((with_reducible refine gate_dst (N := 4) rfl ?_); refine box_event ?hg (N := 4) ?hd (cs := #[.int .i64 0, .int .i64 0]) (t := 73) ?hr ?_; (case hd => rfl); (case hg => rfl); (case hr => first | (go_simp; done) | (go_simp; rfl)); intro gb189 hg w6 hbox hb; have BK189 := Aside0.mk hbox; have GW189 := Aside0.mk ((by rw [hg]; exact (below_size (Hof.Lw HB.out)) : w.heap.size ≤ gb189)); have GE189 := Aside0.mk ((by rw [hg]; exact (below_size (Hof.Lw HB.out)) : w.heap.size ≤ gb189)); replace HB := Aside0.mk (below_step (Hof.Lw HB.out) hb); clear hb hbox hg; obtain ⟨hcz7_0, hcz7_1, hfz7_0, hfz7_1⟩ := Hof.blk2 BK189.out))
       go_ret
       exact ⟨by first | rfl | (simp [errW_none, errW_some] <;> rfl) | (simp [*, errW_none, errW_some] <;> rfl), by repeat (first | (with_reducible first | exact HB.out | apply below_alloc | apply pw_below_drewN | apply below_drew1 | refine below_set ?_ GE189.out) | exact HB.out)⟩
      ·rw [if_neg c5] at H
       have c5b0 : decide (((rd_T73 l0 x7_1).f0) < 0) = false := decide_eq_false c5
       clear c5
       by_cases c8 : ((rd_T73 l0 x7_1).f0) > 6
       ·rw [if_pos c8] at H
        have c8b0 : decide (6 < ((rd_T73 l0 x7_1).f0)) = true := decide_eq_true c8
        clear c8
        obtain rfl := Option.some.inj H
        have p188 : 0 ≤ (x7_1 : Int) := of_decide_eq_true (by first | (with_reducible assumption) | assumption)
        have q188 : x7_1 < (l0.length : Int) := of_decide_eq_true (by first | (with_reducible assumption) | assumption)
        obtain ⟨ad188, e188, hx188_0, hx188_1⟩ := at_T73 HR0.out x7_1 p188 q188
        cases e188
        try replace hx188_0 := (HB.out.cell (World.block_lt_of_cell? w _ hx188_0)).trans hx188_0
        try replace hx188_1 := (HB.out.cell (World.block_lt_of_cell? w _ hx188_1)).trans hx188_1
        replace p188 := eq_true p188
        replace q188 := eq_true q188
        go_wp2_with (first | ((with_reducible refine gate_dst (N := 4) rfl ?_); refine box_event ?hg (N := 4) ?hd (cs := #[.int .i64 0, .int .i64 0]) (t := 73) ?hr ?_; (case hd => rfl); (case hg => rfl); (case hr => first | (go_simp; done) | (go_simp; rfl)); intro gb189 hg w9 hbox hb; have BK189 := Aside0.mk hbox; have GW189 := Aside0.mk ((by rw [hg]; exact (below_size (Hof.Lw HB.out)) : w.heap.size ≤ gb189)); have GE189 := Aside0.mk ((by rw [hg]; exact (below_size (Hof.Lw HB.out)) : w.heap.size ≤ gb189)); replace HB := Aside0.mk (below_step (Hof.Lw HB.out) hb); clear hb hbox hg; obtain ⟨hcz10_0, hcz10_1, hfz10_0, hfz10_1⟩ := Hof.blk2 BK189.out))
        go_ret
        exact ⟨by first | rfl | (simp [errW_none, errW_some] <;> rfl) | (simp [*, errW_none, errW_some] <;> rfl), by repeat (first | (with_reducible first | exact HB.out | apply below_alloc | apply pw_below_drewN | apply below_drew1 | refine below_set ?_ GE189.out) | exact HB.out)⟩
       ·rw [if_neg c8] at H
        have c8b0 : decide (6 < ((rd_T73 l0 x7_1).f0)) = false := decide_eq_false c8
        clear c8
        by_cases c11 : ((rd_T73 l0 x7_1).f1) < 0
        ·rw [if_pos c11] at H
         have c11b0 : decide (((rd_T73 l0 x7_1).f1) < 0) = true := decide_eq_true c11
         clear c11
         obtain rfl := Option.some.inj H
         have p188 : 0 ≤ (x7_1 : Int) := of_decide_eq_true (by first | (with_reducible assumption) | assumption)
         have q188 : x7_1 < (l0.length : Int) := of_decide_eq_true (by first | (with_reducible assumption) | assumption)
         obtain ⟨ad188, e188, hx188_0, hx188_1⟩ := at_T73 HR0.out x7_1 p188 q188
         cases e188
         try replace hx188_0 := (HB.out.cell (World.block_lt_of_cell? w _ hx188_0)).trans hx188_0
         try replace hx188_1 := (HB.out.cell (World.block_lt_of_cell? w _ hx188_1)).trans hx188_1
         replace p188 := eq_true p188
         replace q188 := eq_true q188
         go_wp2_with (first | ((with_reducible refine gate_dst (N := 4) rfl ?_); refine box_event ?hg (N := 4) ?hd (cs := #[.int .i64 0, .int .i64 0]) (t := 73) ?hr ?_; (case hd => rfl); (case hg => rfl); (case hr => first | (go_simp; done) | (go_simp; rfl)); intro gb189 hg w12 hbox hb; have BK189 := Aside0.mk hbox; have GW189 := Aside0.mk ((by rw [hg]; exact (below_size (Hof.Lw HB.out)) : w.heap.size ≤ gb189)); have GE189 := Aside0.mk ((by rw [hg]; exact (below_size (Hof.Lw HB.out)) : w.heap.size ≤ gb189)); replace HB := Aside0.mk (below_step (Hof.Lw HB.out) hb); clear hb hbox hg; obtain ⟨hcz13_0, hcz13_1, hfz13_0, hfz13_1⟩ := Hof.blk2 BK189.out))
         go_ret
         exact ⟨by first | rfl | (simp [errW_none, errW_some] <;> rfl) | (simp [*, errW_none, errW_some] <;> rfl), by repeat (first | (with_reducible first | exact HB.out | apply below_alloc | apply pw_below_drewN | apply below_drew1 | refine below_set ?_ GE189.out) | exact HB.out)⟩
        ·rw [if_neg c11] at H
         have c11b0 : decide (((rd_T73 l0 x7_1).f1) < 0) = false := decide_eq_false c11
         clear c11
         by_cases c14 : ((rd_T73 l0 x7_1).f1) > 1000
         ·rw [if_pos c14] at H
          have c14b0 : decide (1000 < ((rd_T73 l0 x7_1).f1)) = true := decide_eq_true c14
          clear c14
          obtain rfl := Option.some.inj H
          have p188 : 0 ≤ (x7_1 : Int) := of_decide_eq_true (by first | (with_reducible assumption) | assumption)
          have q188 : x7_1 < (l0.length : Int) := of_decide_eq_true (by first | (with_reducible assumption) | assumption)
          obtain ⟨ad188, e188, hx188_0, hx188_1⟩ := at_T73 HR0.out x7_1 p188 q188
          cases e188
          try replace hx188_0 := (HB.out.cell (World.block_lt_of_cell? w _ hx188_0)).trans hx188_0
          try replace hx188_1 := (HB.out.cell (World.block_lt_of_cell? w _ hx188_1)).trans hx188_1
          replace p188 := eq_true p188
          replace q188 := eq_true q188
          go_wp2_with (first | ((with_reducible refine gate_dst (N := 4) rfl ?_); refine box_event ?hg (N := 4) ?hd (cs := #[.int .i64 0, .int .i64 0]) (t := 73) ?hr ?_; (case hd => rfl); (case hg => rfl); (case hr => first | (go_simp; done) | (go_simp; rfl)); intro gb189 hg w15 hbox hb; have BK189 := Aside0.mk hbox; have GW189 := Aside0.mk ((by rw [hg]; exact (below_size (Hof.Lw HB.out)) : w.heap.size ≤ gb189)); have GE189 := Aside0.mk ((by rw [hg]; exact (below_size (Hof.Lw HB.out)) : w.heap.size ≤ gb189)); replace HB := Aside0.mk (below_step (Hof.Lw HB.out) hb); clear hb hbox hg; obtain ⟨hcz16_0, hcz16_1, hfz16_0, hfz16_1⟩ := Hof.blk2 BK189.out))
          go_ret
          exact ⟨by first | rfl | (simp [errW_none, errW_some] <;> rfl) | (simp [*, errW_none, errW_some] <;> rfl), by repeat (first | (with_reducible first | exact HB.out | apply below_alloc | apply pw_below_drewN | apply below_drew1 | refine below_set ?_ GE189.out) | exact HB.out)⟩
         ·rw [if_neg c14] at H
          have c14b0 : decide (1000 < ((rd_T73 l0 x7_1).f1)) = false := decide_eq_false c14
          clear c14
          have H' := Aside0.mk H
          clear H
          have p188 : 0 ≤ (x7_1 : Int) := of_decide_eq_true (by first | (with_reducible assumption) | assumption)
          have q188 : x7_1 < (l0.length : Int) := of_decide_eq_true (by first | (with_reducible assumption) | assumption)
          obtain ⟨ad188, e188, hx188_0, hx188_1⟩ := at_T73 HR0.out x7_1 p188 q188
          cases e188
          try replace hx188_0 := (HB.out.cell (World.block_lt_of_cell? w _ hx188_0)).trans hx188_0
          try replace hx188_1 := (HB.out.cell (World.block_lt_of_cell? w _ hx188_1)).trans hx188_1
          replace p188 := eq_true p188
          replace q188 := eq_true q188
          go_wp2_with (first | ((with_reducible refine gate_dst (N := 4) rfl ?_); refine box_event ?hg (N := 4) ?hd (cs := #[.int .i64 0, .int .i64 0]) (t := 73) ?hr ?_; (case hd => rfl); (case hg => rfl); (case hr => first | (go_simp; done) | (go_simp; rfl)); intro gb189 hg w17 hbox hb; have BK189 := Aside0.mk hbox; have GW189 := Aside0.mk ((by rw [hg]; exact (below_size (Hof.Lw HB.out)) : w.heap.size ≤ gb189)); have GE189 := Aside0.mk ((by rw [hg]; exact (below_size (Hof.Lw HB.out)) : w.heap.size ≤ gb189)); replace HB := Aside0.mk (below_step (Hof.Lw HB.out) hb); clear hb hbox hg; obtain ⟨hcz18_0, hcz18_1, hfz18_0, hfz18_1⟩ := Hof.blk2 BK189.out))
          go_roundg k1
          case measure => have := HK1.out; omega
          case rel => exact ⟨(wrap64 (x7_1 + 1)), (by first | rfl | (simp; done) | (simp [*]; done)), H', ⟨by have := HK1.out; omega⟩, ⟨by repeat (first | (with_reducible first | exact HB.out | apply below_alloc | apply pw_below_drewN | apply below_drew1 | refine below_set ?_ GE189.out) | exact HB.out)⟩⟩
     ·rw [if_neg c4] at H
      exact absurd H (by simp)
    ·rw [if_neg c3] at H
     exact absurd H (by simp)
   ·rw [if_neg c2] at H
    have c2b0 : decide (x7_1 < (l0.length : Int)) = false := decide_eq_false c2
    clear c2
    obtain rfl := Option.some.inj H
    go_wp2
    go_ret
    exact ⟨by first | rfl | (simp [errW_none, errW_some] <;> rfl) | (simp [*, errW_none, errW_some] <;> rfl), by repeat (first | (with_reducible first | exact HB.out | apply below_alloc | apply pw_below_drewN | apply below_drew1) | exact HB.out)⟩
end Go.Proofs.Ytmpodackojmojaa.Pr
end
section
namespace Go.Proofs.Ytmpodackojmojaa.Pr
open Go.RowKit Go.Proofs.YtmpodackojmojaaW.PrintWords Go.Proofs.YtmpodackojmojaaW.PrintLast Go.Proofs.YtmpodackojmojaaW.PrintMore
attribute [local go_sem] max2_int min2_int max_two min_two max_three min_three max_four min_four
set_option linter.unusedVariables false
set_option linter.unusedSimpArgs false
def impl_isSize.f (a0 : Int) : Option (Bool) := if a0 ≥ 0 then (some (decide (a0 ≤ 8))) else (some false)
set_option maxHeartbeats 8000000 in
set_option maxRecDepth 100000 in
theorem impl_isSize.calls (a0 : Int) (r : Bool) (w : World) (h : impl_isSize.f a0 = some r) :
  Calls Try.prog 105 #[.int .i64 a0] w fun e w' => e = .returned (.bool r) ∧ Drawn0 w w' := by
 have H : (if a0 ≥ 0 then (some (decide (a0 ≤ 8))) else (some false)) = some r := h
 clear h
 by_cases c2 : a0 ≥ 0
 ·rw [if_pos c2] at H
  have c2b0 : decide (0 ≤ a0) = true := decide_eq_true c2
  clear c2
  obtain rfl := Option.some.inj H
  go_enter Try.func105, Try.ntmps105
  go_wp2
  go_ret
  exact ⟨by first | rfl | (simp; done) | (simp [*]; done), by repeat (first | exact Drawn0.refl _ | apply Drawn0.step)⟩
 ·rw [if_neg c2] at H
  have c2b0 : decide (0 ≤ a0) = false := decide_eq_false c2
  clear c2
  obtain rfl := Option.some.inj H
  go_enter Try.func105, Try.ntmps105
  go_wp2
  go_ret
  exact ⟨by first | rfl | (simp; done) | (simp [*]; done), by repeat (first | exact Drawn0.refl _ | apply Drawn0.step)⟩
end Go.Proofs.Ytmpodackojmojaa.Pr
end
section
namespace Go.Proofs.Ytmpodackojmojaa.Pr
open Go.RowKit Go.Proofs.YtmpodackojmojaaW.PrintWords Go.Proofs.YtmpodackojmojaaW.PrintLast Go.Proofs.YtmpodackojmojaaW.PrintMore
attribute [local go_sem] max2_int min2_int max_two min_two max_three min_three max_four min_four
set_option linter.unusedVariables false
set_option linter.unusedSimpArgs false
def impl_IsSet.f (a0 : Int) (a1 : Int) : Option (Bool) := (impl_isSize.f a0).bind fun t190 => (if t190 = true then (if a1 ≥ 0 then (if 0 ≤ a0 then (some (decide (a1 < (shl .i64 1 a0)))) else (none)) else (some false)) else (some false))
set_option maxHeartbeats 8000000 in
set_option maxRecDepth 100000 in
theorem impl_IsSet.calls (a0 : Int) (a1 : Int) (r : Bool) (w : World) (h : impl_IsSet.f a0 a1 = some r) :
  Calls Try.prog 61 #[.int .i64 a0, .int .i64 a1] w fun e w' => e = .returned (.bool r) ∧ Drawn0 w w' := by
 have H : ((impl_isSize.f a0).bind fun t190 => (if t190 = true then (if a1 ≥ 0 then (if 0 ≤ a0 then (some (decide (a1 < (shl .i64 1 a0)))) else (none)) else (some false)) else (some false))) = some r := h
 clear h
 replace H := Option.bind_eq_some_iff.mp H
 obtain ⟨t190, A30, H⟩ := H
 (try dsimp only at H)
 have A3 := Aside0.mk A30
 clear A30
 by_cases c4 : t190 = true
 ·subst c4
  have H1 : (if a1 ≥ 0 then (if 0 ≤ a0 then (some (decide (a1 < (shl .i64 1 a0)))) else (none)) else (some false)) = some r := by rw [if_pos rfl] at H; exact H
  clear H
  have H := H1
  clear H1
  by_cases c5 : a1 ≥ 0
  ·rw [if_pos c5] at H
   have c5b0 : decide (0 ≤ a1) = true := decide_eq_true c5
   clear c5
   by_cases c6 : 0 ≤ a0
   ·rw [if_pos c6] at H
    have c6b0 := eq_true c6
    have c6b1 : decide (0 ≤ a0) = true := decide_eq_true c6
    clear c6
    obtain ⟨ji7, hji7⟩ : ∃ j_ : Int, (shl .i64 1 a0) = j_ := ⟨_, rfl⟩
    replace H : (some (decide (a1 < (ji7)))) = some r := by first | (rw [hji7] at H; exact H) | (simp only [hji7] at H ⊢; exact H)
    (try rw [hji7] at A3)
    have hji7_ : (IntKind.i64.wrap (1 * 2 ^ min a0.toNat 64)) = ji7 := hji7
    have hji7z : a0 ≤ 64 → (IntKind.i64.wrap (1 * 2 ^ a0.toNat)) = ji7 := shl_small hji7
    have hji7u : (IntKind.i64.wrap (2 ^ min a0.toNat 64)) = ji7 := by have h_ := hji7_; rw [Int.one_mul] at h_; exact h_
    have hji7v : a0 ≤ 64 → (IntKind.i64.wrap (2 ^ a0.toNat)) = ji7 := fun hle_ => by have h_ := hji7z hle_; rw [Int.one_mul] at h_; exact h_
    have hji7y : (wrap64 (1 * 2 ^ min a0.toNat 64)) = ji7 := (i64_w _).symm.trans hji7_
    have hji7x : a0 ≤ 64 → (wrap64 (1 * 2 ^ a0.toNat)) = ji7 := fun h_ => (i64_w _).symm.trans (hji7z h_)
    obtain rfl := Option.some.inj H
    go_enter Try.func61, Try.ntmps61
    go_wp2_with (first | ((with_reducible refine gate_callee (f := 105) rfl ?_); refine goesL_ (some 6) rfl rfl Try.func105 (by kernel_rfl) rfl #[.int .i64 a0] rfl (by (try simp only [List.map_toArray, List.map_cons, List.map_nil]); first | done | rfl) ?_; (with_reducible refine (impl_isSize.calls a0 true _ A3.out).mono ?_); rintro e w' ⟨rfl, ⟨nd, rfl⟩⟩; refine ⟨_, rfl, ?_⟩))
    go_ret
    exact ⟨by first | rfl | (simp; done) | (simp only [← hji7] <;> (first | rfl | simp)) | (simp [*]; done), by repeat (first | exact Drawn0.refl _ | apply Drawn0.step)⟩
   ·rw [if_neg c6] at H
    exact absurd H (by simp)
  ·rw [if_neg c5] at H
   have c5b0 : decide (0 ≤ a1) = false := decide_eq_false c5
   clear c5
   obtain rfl := Option.some.inj H
   go_enter Try.func61, Try.ntmps61
   go_wp2_with (first | ((with_reducible refine gate_callee (f := 105) rfl ?_); refine goesL_ (some 6) rfl rfl Try.func105 (by kernel_rfl) rfl #[.int .i64 a0] rfl (by (try simp only [List.map_toArray, List.map_cons, List.map_nil]); first | done | rfl) ?_; (with_reducible refine (impl_isSize.calls a0 true _ A3.out).mono ?_); rintro e w' ⟨rfl, ⟨nd, rfl⟩⟩; refine ⟨_, rfl, ?_⟩))
   go_ret
   exact ⟨by first | rfl | (simp; done) | (simp [*]; done), by repeat (first | exact Drawn0.refl _ | apply Drawn0.step)⟩
 ·replace c4 := Bool.eq_false_iff.mpr c4
  subst c4
  have H1 : (some false) = some r := by rw [if_neg (show ¬ (false = true) by decide)] at H; exact H
  clear H
  have H := H1
  clear H1
  obtain rfl := Option.some.inj H
  go_enter Try.func61, Try.ntmps61
  go_wp2_with (first | ((with_reducible refine gate_callee (f := 105) rfl ?_); refine goesL_ (some 6) rfl rfl Try.func105 (by kernel_rfl) rfl #[.int .i64 a0] rfl (by (try simp only [List.map_toArray, List.map_cons, List.map_nil]); first | done | rfl) ?_; (with_reducible refine (impl_isSize.calls a0 false _ A3.out).mono ?_); rintro e w' ⟨rfl, ⟨nd, rfl⟩⟩; refine ⟨_, rfl, ?_⟩))
  go_ret
  exact ⟨by first | rfl | (simp; done) | (simp [*]; done), by repeat (first | exact Drawn0.refl _ | apply Drawn0.step)⟩
end Go.Proofs.Ytmpodackojmojaa.Pr
end
section
namespace Go.Proofs.Ytmpodackojmojaa.Pr
open Go.RowKit Go.Proofs.YtmpodackojmojaaW.PrintWords Go.Proofs.YtmpodackojmojaaW.PrintLast Go.Proofs.YtmpodackojmojaaW.PrintMore
attribute [local go_sem] max2_int min2_int max_two min_two max_three min_three max_four min_four
set_option linter.unusedVariables false
set_option linter.unusedSimpArgs false
def impl_isAny.f (a0 : Int) : Option (Bool) := if a0 ≥ 0 then (some (decide (a0 < 256))) else (some false)
set_option maxHeartbeats 8000000 in
set_option maxRecDepth 100000 in
theorem impl_isAny.calls (a0 : Int) (r : Bool) (w : World) (h : impl_isAny.f a0 = some r) :
  Calls Try.prog 121 #[.int .i64 a0] w fun e w' => e = .returned (.bool r) ∧ Drawn0 w w' := by
 have H : (if a0 ≥ 0 then (some (decide (a0 < 256))) else (some false)) = some r := h
 clear h
 by_cases c2 : a0 ≥ 0
 ·rw [if_pos c2] at H
  have c2b0 : decide (0 ≤ a0) = true := decide_eq_true c2
  clear c2
  obtain rfl := Option.some.inj H
  go_enter Try.func121, Try.ntmps121
  go_wp2
  go_ret
  exact ⟨by first | rfl | (simp; done) | (simp [*]; done), by repeat (first | exact Drawn0.refl _ | apply Drawn0.step)⟩
 ·rw [if_neg c2] at H
  have c2b0 : decide (0 ≤ a0) = false := decide_eq_false c2
  clear c2
  obtain rfl := Option.some.inj H
  go_enter Try.func121, Try.ntmps121
  go_wp2
  go_ret
  exact ⟨by first | rfl | (simp; done) | (simp [*]; done), by repeat (first | exact Drawn0.refl _ | apply Drawn0.step)⟩
end Go.Proofs.Ytmpodackojmojaa.Pr
end
section
namespace Go.Proofs.Ytmpodackojmojaa.Pr
open Go.RowKit Go.Proofs.YtmpodackojmojaaW.PrintWords Go.Proofs.YtmpodackojmojaaW.PrintLast Go.Proofs.YtmpodackojmojaaW.PrintMore
attribute [local go_sem] max2_int min2_int max_two min_two max_three min_three max_four min_four
set_option linter.unusedVariables false
set_option linter.unusedSimpArgs false
def impl_HasElement.f (a0 : Int) (a1 : Int) : Option (Bool) := (impl_isAny.f a0).bind fun t191 => (if t191 = true then (if a1 ≥ 0 then (if a1 < 8 then (if 0 ≤ a1 then (some ((Go.bits .and .i64 (shr .i64 a0 a1) 1) == 1)) else (none)) else (some false)) else (some false)) else (some false))
set_option maxHeartbeats 8000000 in
set_option maxRecDepth 100000 in
theorem impl_HasElement.calls (a0 : Int) (a1 : Int) (r : Bool) (w : World) (h : impl_HasElement.f a0 a1 = some r) :
  Calls Try.prog 82 #[.int .i64 a0, .int .i64 a1] w fun e w' => e = .returned (.bool r) ∧ Drawn0 w w' := by
 have H : ((impl_isAny.f a0).bind fun t191 => (if t191 = true then (if a1 ≥ 0 then (if a1 < 8 then (if 0 ≤ a1 then (some ((Go.bits .and .i64 (shr .i64 a0 a1) 1) == 1)) else (none)) else (some false)) else (some false)) else (some false))) = some r := h
 clear h
 replace H := Option.bind_eq_some_iff.mp H
 obtain ⟨t191, A30, H⟩ := H
 (try dsimp only at H)
 have A3 := Aside0.mk A30
 clear A30
 by_cases c4 : t191 = true
 ·subst c4
  have H1 : (if a1 ≥ 0 then (if a1 < 8 then (if 0 ≤ a1 then (some ((Go.bits .and .i64 (shr .i64 a0 a1) 1) == 1)) else (none)) else (some false)) else (some false)) = some r := by rw [if_pos rfl] at H; exact H
  clear H
  have H := H1
  clear H1
  by_cases c5 : a1 ≥ 0
  ·rw [if_pos c5] at H
   have c5b0 : decide (0 ≤ a1) = true := decide_eq_true c5
   clear c5
   by_cases c6 : a1 < 8
   ·rw [if_pos c6] at H
    have c6b0 : decide (a1 < 8) = true := decide_eq_true c6
    clear c6
    by_cases c7 : 0 ≤ a1
    ·rw [if_pos c7] at H
     have c7b0 := eq_true c7
     have c7b1 : decide (0 ≤ a1) = true := decide_eq_true c7
     clear c7
     obtain ⟨ji8, hji8⟩ : ∃ j_ : Int, (shr .i64 a0 a1) = j_ := ⟨_, rfl⟩
     replace H : (some ((Go.bits .and .i64 (ji8) 1) == 1)) = some r := by first | (rw [hji8] at H; exact H) | (simp only [hji8] at H ⊢; exact H)
     (try rw [hji8] at A3)
     have hji8_ : (a0 / 2 ^ min a1.toNat 64) = ji8 := hji8
     have hji8z : a1 ≤ 64 → (a0 / 2 ^ a1.toNat) = ji8 := shr_small hji8
     obtain rfl := Option.some.inj H
     go_enter Try.func82, Try.ntmps82
     go_wp2_with (first | ((with_reducible refine gate_callee (f := 121) rfl ?_); refine goesL_ (some 6) rfl rfl Try.func121 (by kernel_rfl) rfl #[.int .i64 a0] rfl (by (try simp only [List.map_toArray, List.map_cons, List.map_nil]); first | done | rfl) ?_; (with_reducible refine (impl_isAny.calls a0 true _ A3.out).mono ?_); rintro e w' ⟨rfl, ⟨nd, rfl⟩⟩; refine ⟨_, rfl, ?_⟩))
     go_ret
     exact ⟨by first | rfl | (simp; done) | (simp only [← hji8] <;> (first | rfl | simp)) | (simp [*]; done), by repeat (first | exact Drawn0.refl _ | apply Drawn0.step)⟩
    ·rw [if_neg c7] at H
     exact absurd H (by simp)
   ·rw [if_neg c6] at H
    have c6b0 : decide (a1 < 8) = false := decide_eq_false c6
    clear c6
    obtain rfl := Option.some.inj H
    go_enter Try.func82, Try.ntmps82
    go_wp2_with (first | ((with_reducible refine gate_callee (f := 121) rfl ?_); refine goesL_ (some 6) rfl rfl Try.func121 (by kernel_rfl) rfl #[.int .i64 a0] rfl (by (try simp only [List.map_toArray, List.map_cons, List.map_nil]); first | done | rfl) ?_; (with_reducible refine (impl_isAny.calls a0 true _ A3.out).mono ?_); rintro e w' ⟨rfl, ⟨nd, rfl⟩⟩; refine ⟨_, rfl, ?_⟩))
    go_ret
    exact ⟨by first | rfl | (simp; done) | (simp [*]; done), by repeat (first | exact Drawn0.refl _ | apply Drawn0.step)⟩
  ·rw [if_neg c5] at H
   have c5b0 : decide (0 ≤ a1) = false := decide_eq_false c5
   clear c5
   obtain rfl := Option.some.inj H
   go_enter Try.func82, Try.ntmps82
   go_wp2_with (first | ((with_reducible refine gate_callee (f := 121) rfl ?_); refine goesL_ (some 6) rfl rfl Try.func121 (by kernel_rfl) rfl #[.int .i64 a0] rfl (by (try simp only [List.map_toArray, List.map_cons, List.map_nil]); first | done | rfl) ?_; (with_reducible refine (impl_isAny.calls a0 true _ A3.out).mono ?_); rintro e w' ⟨rfl, ⟨nd, rfl⟩⟩; refine ⟨_, rfl, ?_⟩))
   go_ret
   exact ⟨by first | rfl | (simp; done) | (simp [*]; done), by repeat (first | exact Drawn0.refl _ | apply Drawn0.step)⟩
 ·replace c4 := Bool.eq_false_iff.mpr c4
  subst c4
  have H1 : (some false) = some r := by rw [if_neg (show ¬ (false = true) by decide)] at H; exact H
  clear H
  have H := H1
  clear H1
  obtain rfl := Option.some.inj H
  go_enter Try.func82, Try.ntmps82
  go_wp2_with (first | ((with_reducible refine gate_callee (f := 121) rfl ?_); refine goesL_ (some 6) rfl rfl Try.func121 (by kernel_rfl) rfl #[.int .i64 a0] rfl (by (try simp only [List.map_toArray, List.map_cons, List.map_nil]); first | done | rfl) ?_; (with_reducible refine (impl_isAny.calls a0 false _ A3.out).mono ?_); rintro e w' ⟨rfl, ⟨nd, rfl⟩⟩; refine ⟨_, rfl, ?_⟩))
  go_ret
  exact ⟨by first | rfl | (simp; done) | (simp [*]; done), by repeat (first | exact Drawn0.refl _ | apply Drawn0.step)⟩
end Go.Proofs.Ytmpodackojmojaa.Pr
end
section
namespace Go.Proofs.Ytmpodackojmojaa.Pr
open Go.RowKit Go.Proofs.YtmpodackojmojaaW.PrintWords Go.Proofs.YtmpodackojmojaaW.PrintLast Go.Proofs.YtmpodackojmojaaW.PrintMore
attribute [local go_sem] max2_int min2_int max_two min_two max_three min_three max_four min_four
set_option linter.unusedVariables false
set_option linter.unusedSimpArgs false
def impl_ElementsOf.l0 : Nat → Int → List Int → Int → Option (List Int)
 | 0, _, _, _ => none
 | k + 1, x0, x3, x4 => if x4 < 8 then ((impl_HasElement.f x0 x4).bind fun t195 => (if t195 = true then (if x3.length < 17592186044416 then (impl_ElementsOf.l0 k x0 (x3 ++ [x4]) (wrap64 (x4 + 1))) else (none)) else (impl_ElementsOf.l0 k x0 x3 (wrap64 (x4 + 1))))) else (some x3)
def impl_ElementsOf.f (k : Nat) (a0 : Int) : Option (List Int) := impl_ElementsOf.l0 k a0 (([] : List Int)) 0
theorem impl_ElementsOf.mono_l : ∀ k, (∀ y0 y1 y2, LeO (impl_ElementsOf.l0 k y0 y1 y2) (impl_ElementsOf.l0 (k + 1) y0 y1 y2))
 | 0 => fun _ _ _ r h => by simp [impl_ElementsOf.l0] at h
 | k + 1 => by
  have ih0 := impl_ElementsOf.mono_l k
  ·intro y0 y1 y2
   unfold impl_ElementsOf.l0
   repeat' first
   | (with_reducible exact ih0 _ _ _)
   | (with_reducible exact LeO.refl _)
   | (with_reducible exact LeO.none _)
   | (with_reducible refine LeO.ite ?_ ?_)
   | (with_reducible refine LeO.bind ?_ (fun _ => ?_))
   | exact ih0 _ _ _
   | exact LeO.none _
   | refine LeO.ite ?_ ?_
   | refine LeO.bind ?_ (fun _ => ?_)
theorem impl_ElementsOf.mono : ∀ a0 k, LeO (impl_ElementsOf.f k a0) (impl_ElementsOf.f (k + 1) a0) := by
 intro a0 k
 have ih0 := impl_ElementsOf.mono_l k
 unfold impl_ElementsOf.f
 repeat' first
   | (with_reducible exact ih0 _ _ _)
   | (with_reducible exact LeO.refl _)
   | (with_reducible exact LeO.none _)
   | (with_reducible refine LeO.ite ?_ ?_)
   | (with_reducible refine LeO.bind ?_ (fun _ => ?_))
   | exact ih0 _ _ _
   | exact LeO.none _
   | refine LeO.ite ?_ ?_
   | refine LeO.bind ?_ (fun _ => ?_)
set_option maxHeartbeats 8000000 in
set_option maxRecDepth 100000 in
theorem impl_ElementsOf.calls (k : Nat) (a0 : Int) (r : List Int) (w : World) (h : impl_ElementsOf.f k a0 = some r) :
  Calls Try.prog 62 #[.int .i64 a0] w fun e w' => ∃ v0_ : Value, e = .returned (v0_) ∧ Kd.R (Kd.int .i64) 3 w' w.heap.size (fun _ => True) v0_ r ∧ Below w.heap.size w w' := by
 have HB := Aside0.mk (Below.refl w.heap.size w)
 have H : (impl_ElementsOf.l0 k a0 (([] : List Int)) 0) = some r := h
 clear h
 obtain ⟨y192, hy192⟩ : ∃ y_ : List Int, y_ = (([] : List Int)) := ⟨_, rfl⟩
 replace H : (impl_ElementsOf.l0 k a0 y192 0) = some r := by first | (rw [hy192]; with_reducible exact H) | (have H2_ := (Option.bind_some _ _).symm.trans H; rw [hy192]; with_reducible exact H2_) | (have H2_ := (Option.bind_some _ _).symm.trans H; with_reducible exact H2_) | with_reducible exact H | (rw [hy192]; exact H) | exact H
 have Ny192 := Aside0.mk hy192
 clear hy192
 have H' := Aside0.mk H
 clear H
 go_enter Try.func62, Try.ntmps62
 go_wp2_with (first | ((with_reducible refine gate_dst (N := 5) rfl ?_); refine Kd.R_lit (Kd.int .i64) _ 3 ?hg (N := 5) ?hd (xs := ([] : List Int)) (inner := []) (ok := fun _ => True) (okp := fun _ => True) ?hr ?hp (fun _ hk => hk) trivial (Below.refl _ _) (Nat.le_refl _) (by simp) ?_; (case hd => rfl); (case hg => rfl); (case hr => first | (go_simp; done) | (go_simp; rfl)); (case hp => exact (Reps.none _ _)); intro v193 w2 ho3 hb hg_ hnew_; clear hg_ hnew_; (first | rw [← Ny192.out] at ho3 | (simp only [Int.reduceToNat] at ho3; rw [← Ny192.out] at ho3)); have HO194 := Aside0.mk (Kd.R_lower ho3 (below_size (Hof.Lw HB.out))); replace HB := Aside0.mk (below_step (Hof.Lw HB.out) hb); clear hb ho3))
 go_loopg [3, 4] k (fun kq v3 v4 w' => ∃ (x3_1 : List Int) (x4_1 : Int), v4 = .int .i64 x4_1 ∧ Aside0 (impl_ElementsOf.l0 kq a0 x3_1 x4_1 = some r) ∧ Aside0 (kq ≤ k) ∧ Aside0 (Kd.R (Kd.int .i64) 3 w' w.heap.size (fun _ => True) v3 x3_1) ∧ Aside0 (Below w.heap.size w w'))
 case atStart => exact ⟨(y192), (0), (by first | rfl | (simp; done) | (simp [*]; done)), H', ⟨Nat.le_refl _⟩, ⟨Hof.Rw HO194.out⟩, ⟨Hof.Lw HB.out⟩⟩
 case round =>
  clear H'
  try clear p2
  obtain ⟨x3_1, x4_1, rfl, HA, HK1, HO_3, HB⟩ := hrel
  cases gk with
  | zero => exact absurd HA.out (by simp [impl_ElementsOf.l0])
  | succ k1 =>
   have H := HA.out
   clear HA
   simp only [impl_ElementsOf.l0] at H
   by_cases c4 : x4_1 < 8
   ·rw [if_pos c4] at H
    have c4b0 : decide (x4_1 < 8) = true := decide_eq_true c4
    clear c4
    replace H := Option.bind_eq_some_iff.mp H
    obtain ⟨t195, A50, H⟩ := H
    (try dsimp only at H)
    have A5 := Aside0.mk A50
    clear A50
    by_cases c6 : t195 = true
    ·subst c6
     have H1 : (if x3_1.length < 17592186044416 then (impl_ElementsOf.l0 k1 a0 (x3_1 ++ [x4_1]) (wrap64 (x4_1 + 1))) else (none)) = some r := by rw [if_pos rfl] at H; exact H
     clear H
     have H := H1
     clear H1
     by_cases c7 : x3_1.length < 17592186044416
     ·rw [if_pos c7] at H
      have LMc7 := Aside0.mk c7
      clear c7
      obtain ⟨y196, hy196⟩ : ∃ y_ : List Int, y_ = (x3_1 ++ [x4_1]) := ⟨_, rfl⟩
      replace H : (impl_ElementsOf.l0 k1 a0 y196 (wrap64 (x4_1 + 1))) = some r := by first | (rw [hy196]; with_reducible exact H) | (have H2_ := (Option.bind_some _ _).symm.trans H; rw [hy196]; with_reducible exact H2_) | (have H2_ := (Option.bind_some _ _).symm.trans H; with_reducible exact H2_) | with_reducible exact H | (rw [hy196]; exact H) | exact H
      have Ny196 := Aside0.mk hy196
      clear hy196
      have H' := Aside0.mk H
      clear H
      go_wp2_with (first | ((with_reducible refine gate_callee (f := 82) rfl ?_); refine goesL_ (some 12) rfl rfl Try.func82 (by kernel_rfl) rfl #[.int .i64 a0, .int .i64 x4_1] rfl (by (try simp only [List.map_toArray, List.map_cons, List.map_nil]); first | done | rfl) ?_; (with_reducible refine (impl_HasElement.calls a0 x4_1 true _ A5.out).mono ?_); rintro e w' ⟨rfl, ⟨nd, rfl⟩⟩; refine ⟨_, rfl, ?_⟩) | ((with_reducible refine gate_builtin (b := .append) (xs := #[.tmp 13, .tmp 15]) rfl ?_); at_builtin; refine Kd.R_append (Kd.int .i64) (w0 := w) w.heap.size rfl (.tmp 13) (.tmp 15) 24 3 (.int .i64 0) 8 rfl Try.underlying24 info3 rfl (by decide) (by omega) u3 x3_1 x4_1 [.int .i64 x4_1] (fun _ => True) (fun _ => False) rfl rfl ?aP (fun _ hk => hk.elim) ?aF ?aO ?aB ?aS ?aL ?_; (case aP => exact rfl); (case aB => exact (Hof.Lw HB.out)); (case aF => exact (fun _ _ => trivial)); (case aO => exact (Hof.Rw HO_3.out)); (case aS => exact (below_size (Hof.Lw HB.out))); (case aL => have := LMc7.out; omega); intro v197 w8 ho hb hg hat; rw [← Ny196.out] at ho; have n0_ := Aside0.mk hb; have n1_ := Aside0.mk ho; clear HB; clear HO_3; have HB := n0_; have HO198 := n1_; clear n0_ n1_; clear ho hb hg hat))
      go_roundg k1
      case measure => have := HK1.out; omega
      case rel => exact ⟨(y196), (wrap64 (x4_1 + 1)), (by first | rfl | (simp; done) | (simp [*]; done)), H', ⟨by have := HK1.out; omega⟩, ⟨Hof.Rw HO198.out⟩, ⟨Hof.Lw HB.out⟩⟩
     ·rw [if_neg c7] at H
      exact absurd H (by simp)
    ·replace c6 := Bool.eq_false_iff.mpr c6
     subst c6
     have H1 : (impl_ElementsOf.l0 k1 a0 x3_1 (wrap64 (x4_1 + 1))) = some r := by rw [if_neg (show ¬ (false = true) by decide)] at H; exact H
     clear H
     have H := H1
     clear H1
     have H' := Aside0.mk H
     clear H
     go_wp2_with (first | ((with_reducible refine gate_callee (f := 82) rfl ?_); refine goesL_ (some 12) rfl rfl Try.func82 (by kernel_rfl) rfl #[.int .i64 a0, .int .i64 x4_1] rfl (by (try simp only [List.map_toArray, List.map_cons, List.map_nil]); first | done | rfl) ?_; (with_reducible refine (impl_HasElement.calls a0 x4_1 false _ A5.out).mono ?_); rintro e w' ⟨rfl, ⟨nd, rfl⟩⟩; refine ⟨_, rfl, ?_⟩))
     go_roundg k1
     case measure => have := HK1.out; omega
     case rel => exact ⟨(x3_1), (wrap64 (x4_1 + 1)), (by first | rfl | (simp; done) | (simp [*]; done)), H', ⟨by have := HK1.out; omega⟩, ⟨Hof.Rw HO_3.out⟩, ⟨Hof.Lw HB.out⟩⟩
   ·rw [if_neg c4] at H
    have c4b0 : decide (x4_1 < 8) = false := decide_eq_false c4
    clear c4
    obtain rfl := Option.some.inj H
    go_wp2
    go_ret
    exact ⟨_, by first | rfl | (simp [errW_none, errW_some] <;> rfl) | (simp [*, errW_none, errW_some] <;> rfl), by (with_reducible repeat (first | apply Kd.R_alloc | apply Kd.R_drewN | apply Kd.R_drew)); exact HO_3.out, by repeat (first | (with_reducible first | exact HB.out | apply below_alloc | apply pw_below_drewN | apply below_drew1) | exact HB.out)⟩
end Go.Proofs.Ytmpodackojmojaa.Pr
end
section
namespace Go.Proofs.Ytmpodackojmojaa.Pr
open Go.RowKit Go.Proofs.YtmpodackojmojaaW.PrintWords Go.Proofs.YtmpodackojmojaaW.PrintLast Go.Proofs.YtmpodackojmojaaW.PrintMore
attribute [local go_sem] max2_int min2_int max_two min_two max_three min_three max_four min_four
set_option linter.unusedVariables false
set_option linter.unusedSimpArgs false
def slices_Index_int_int.l0 : Nat → List Int → Int → Int → Int → Option (Int)
 | 0, _, _, _, _ => none
 | k + 1, x0, x1, x7, x8 => if x8 < x7 then (if 0 ≤ x8 then (if x8 < (x0.length : Int) then (if x1 = (rd x0 x8) then (some x8) else (slices_Index_int_int.l0 k x0 x1 x7 (wrap64 (x8 + 1)))) else (none)) else (none)) else (some (-1))
def slices_Index_int_int.f (k : Nat) (l0 : List Int) (a1 : Int) : Option (Int) := slices_Index_int_int.l0 k l0 a1 (l0.length : Int) 0
theorem slices_Index_int_int.mono_l : ∀ k, (∀ y0 y1 y2 y3, LeO (slices_Index_int_int.l0 k y0 y1 y2 y3) (slices_Index_int_int.l0 (k + 1) y0 y1 y2 y3))
 | 0 => fun _ _ _ _ r h => by simp [slices_Index_int_int.l0] at h
 | k + 1 => by
  have ih0 := slices_Index_int_int.mono_l k
  ·intro y0 y1 y2 y3
   unfold slices_Index_int_int.l0
   repeat' first
   | (with_reducible exact ih0 _ _ _ _)
   | (with_reducible exact LeO.refl _)
   | (with_reducible exact LeO.none _)
   | (with_reducible refine LeO.ite ?_ ?_)
   | (with_reducible refine LeO.bind ?_ (fun _ => ?_))
   | exact ih0 _ _ _ _
   | exact LeO.none _
   | refine LeO.ite ?_ ?_
   | refine LeO.bind ?_ (fun _ => ?_)
theorem slices_Index_int_int.mono : ∀ a0 a1 k, LeO (slices_Index_int_int.f k a0 a1) (slices_Index_int_int.f (k + 1) a0 a1) := by
 intro a0 a1 k
 have ih0 := slices_Index_int_int.mono_l k
 unfold slices_Index_int_int.f
 repeat' first
   | (with_reducible exact ih0 _ _ _ _)
   | (with_reducible exact LeO.refl _)
   | (with_reducible exact LeO.none _)
   | (with_reducible refine LeO.ite ?_ ?_)
   | (with_reducible refine LeO.bind ?_ (fun _ => ?_))
   | exact ih0 _ _ _ _
   | exact LeO.none _
   | refine LeO.ite ?_ ?_
   | refine LeO.bind ?_ (fun _ => ?_)
set_option maxHeartbeats 8000000 in
set_option maxRecDepth 100000 in
theorem slices_Index_int_int.calls (k : Nat) (A0 : Option Addr) (c0 : Nat) (l0 : List Int) (a1 : Int) (r : Int) (w : World) (hr0 : Kd.C (Kd.int .i64) w A0 l0.length l0) (hc0 : l0.length ≤ c0) (h : slices_Index_int_int.f k l0 a1 = some r) :
  Calls Try.prog 65 #[.slice A0 l0.length c0, .int .i64 a1] w fun e w' => e = .returned (.int .i64 r) ∧ Drawn0 w w' := by
 have HR0 := Aside0.mk hr0
 have HC0 := Aside0.mk hc0
 clear hr0 hc0
 have H : (slices_Index_int_int.l0 k l0 a1 (l0.length : Int) 0) = some r := h
 clear h
 have H' := Aside0.mk H
 clear H
 go_enter Try.func65, Try.ntmps65
 go_wp2
 go_loopg [8] k (fun kq v8 w' => ∃ (x8_1 : Int), v8 = .int .i64 x8_1 ∧ Aside0 (slices_Index_int_int.l0 kq l0 a1 (l0.length : Int) x8_1 = some r) ∧ Aside0 (kq ≤ k) ∧ Drawn0 w w')
 case atStart => exact ⟨(0), (by first | rfl | (simp; done) | (simp [*]; done)), H', ⟨Nat.le_refl _⟩, by repeat (first | exact Drawn0.refl _ | apply Drawn0.step)⟩
 case round =>
  clear H'
  try clear p2
  obtain ⟨x8_1, rfl, HA, HK1, ⟨m1, rfl⟩⟩ := hrel
  cases gk with
  | zero => exact absurd HA.out (by simp [slices_Index_int_int.l0])
  | succ k1 =>
   have H := HA.out
   clear HA
   simp only [slices_Index_int_int.l0] at H
   by_cases c3 : x8_1 < (l0.length : Int)
   ·rw [if_pos c3] at H
    have c3b0 : decide (x8_1 < (l0.length : Int)) = true := decide_eq_true c3
    clear c3
    by_cases c4 : 0 ≤ x8_1
    ·rw [if_pos c4] at H
     have c4b0 : decide (0 ≤ x8_1) = true := decide_eq_true c4
     clear c4
     by_cases c5 : x8_1 < (l0.length : Int)
     ·rw [if_pos c5] at H
      have c5b0 : decide (x8_1 < (l0.length : Int)) = true := decide_eq_true c5
      clear c5
      by_cases c6 : a1 = (rd l0 x8_1)
      ·rw [if_pos c6] at H
       have c6b0 : (a1 == (rd l0 x8_1)) = true := beq_iff_eq.mpr c6
       have c6b1 : (a1 != (rd l0 x8_1)) = false := bne_eq_false_iff_eq.mpr c6
       clear c6
       obtain rfl := Option.some.inj H
       have p199 : 0 ≤ (x8_1 : Int) := of_decide_eq_true (by first | (with_reducible assumption) | assumption)
       have q199 : x8_1 < (l0.length : Int) := of_decide_eq_true (by first | (with_reducible assumption) | assumption)
       obtain ⟨ad199, e199, hx199_0⟩ := Kd.at_int HR0.out x8_1 p199 q199
       cases e199
       replace p199 := eq_true p199
       replace q199 := eq_true q199
       go_wp2
       go_ret
       exact ⟨by first | rfl | (simp; done) | (simp [*]; done), by repeat (first | exact Drawn0.refl _ | apply Drawn0.step)⟩
      ·rw [if_neg c6] at H
       have c6b0 : (a1 == (rd l0 x8_1)) = false := beq_eq_false_iff_ne.mpr c6
       have c6b1 : (a1 != (rd l0 x8_1)) = true := bne_iff_ne.mpr c6
       have H' := Aside0.mk H
       clear H
       have p199 : 0 ≤ (x8_1 : Int) := of_decide_eq_true (by first | (with_reducible assumption) | assumption)
       have q199 : x8_1 < (l0.length : Int) := of_decide_eq_true (by first | (with_reducible assumption) | assumption)
       obtain ⟨ad199, e199, hx199_0⟩ := Kd.at_int HR0.out x8_1 p199 q199
       cases e199
       replace p199 := eq_true p199
       replace q199 := eq_true q199
       go_wp2
       go_roundg k1
       case measure => have := HK1.out; omega
       case rel => exact ⟨(wrap64 (x8_1 + 1)), (by first | rfl | (simp; done) | (simp [*]; done)), H', ⟨by have := HK1.out; omega⟩, by repeat (first | exact Drawn0.refl _ | apply Drawn0.step)⟩
     ·rw [if_neg c5] at H
      exact absurd H (by simp)
    ·rw [if_neg c4] at H
     exact absurd H (by simp)
   ·rw [if_neg c3] at H
    have c3b0 : decide (x8_1 < (l0.length : Int)) = false := decide_eq_false c3
    clear c3
    obtain rfl := Option.some.inj H
    go_wp2
    go_ret
    exact ⟨by first | rfl | (simp; done) | (simp [*]; done), by repeat (first | exact Drawn0.refl _ | apply Drawn0.step)⟩
end Go.Proofs.Ytmpodackojmojaa.Pr
end
section
namespace Go.Proofs.Ytmpodackojmojaa.Lay
open Go.Shelf Go.Proofs
def laysSort_ren : Go.Shelf.Ren := ⟨fun | 189 => 154 | 125 => 164 | 257 => 163 | 128 => 177 | 129 => 178 | 294 => 168 | 295 => 169 | 296 => 170 | 297 => 171 | 298 => 172 | 299 => 173 | 216 => 174 | 300 => 175 | 301 => 176 | 328 => 179 | 329 => 180 | 330 => 181 | 331 => 182 | 332 => 183 | 215 => 184 | 343 => 185 | n => n, fun | 28 => 24 | 3 => 3 | 46 => 97 | 0 => 0 | 51 => 128 | 53 => 130 | 4 => 4 | 183 => 139 | 182 => 138 | 131 => 41 | 5 => 5 | 9 => 9 | 218 => 144 | 222 => 148 | 228 => 150 | 229 => 151 | n => n, fun | n => n⟩
theorem laysSort : Go.Proofs.Lays.n189 Try.prog laysSort_ren := {
 mixed := by kernel_rfl
 f125 := Try.func164.trans (congrArg some (by kernel_rfl))
 f128 := Try.func177.trans (congrArg some (by kernel_rfl))
 f129 := Try.func178.trans (congrArg some (by kernel_rfl))
 f189 := Try.func154.trans (congrArg some (by kernel_rfl))
 f215 := Try.func184.trans (congrArg some (by kernel_rfl))
 f216 := Try.func174.trans (congrArg some (by kernel_rfl))
 f257 := Try.func163.trans (congrArg some (by kernel_rfl))
 f294 := Try.func168.trans (congrArg some (by kernel_rfl))
 f295 := Try.func169.trans (congrArg some (by kernel_rfl))
 f296 := Try.func170.trans (congrArg some (by kernel_rfl))
 f297 := Try.func171.trans (congrArg some (by kernel_rfl))
 f298 := Try.func172.trans (congrArg some (by kernel_rfl))
 f299 := Try.func173.trans (congrArg some (by kernel_rfl))
 f300 := Try.func175.trans (congrArg some (by kernel_rfl))
 f301 := Try.func176.trans (congrArg some (by kernel_rfl))
 f328 := Try.func179.trans (congrArg some (by kernel_rfl))
 f329 := Try.func180.trans (congrArg some (by kernel_rfl))
 f330 := Try.func181.trans (congrArg some (by kernel_rfl))
 f331 := Try.func182.trans (congrArg some (by kernel_rfl))
 f332 := Try.func183.trans (congrArg some (by kernel_rfl))
 f343 := Try.func185.trans (congrArg some (by kernel_rfl))
 t0 := Try.underlying0
 a0 := Try.isAgg0
 z0 := Try.sizeOf0
 v0 := Try.zeroValue0
 t3 := Try.underlying3
 a3 := Try.isAgg3
 z3 := Try.sizeOf3
 v3 := Try.zeroValue3
 t4 := Try.underlying4
 a4 := Try.isAgg4
 z4 := Try.sizeOf4
 v4 := Try.zeroValue4
 t5 := Try.underlying5
 a5 := Try.isAgg5
 z5 := Try.sizeOf5
 v5 := Try.zeroValue5
 t9 := Try.underlying9
 a9 := Try.isAgg9
 z9 := Try.sizeOf9
 v9 := Try.zeroValue9
 t28 := Try.underlying24
 a28 := Try.isAgg24
 z28 := Try.sizeOf24
 v28 := Try.zeroValue24
 t46 := Try.underlying97
 a46 := Try.isAgg97
 z46 := Try.sizeOf97
 v46 := Try.zeroValue97
 t51 := Try.underlying128
 a51 := Try.isAgg128
 z51 := Try.sizeOf128
 v51 := Try.zeroValue128
 t53 := Try.underlying130
 a53 := Try.isAgg130
 z53 := Try.sizeOf130
 v53 := Try.zeroValue130
 t131 := Try.underlying41
 a131 := Try.isAgg41
 z131 := Try.sizeOf41
 v131 := Try.zeroValue41
 t182 := Try.underlying138
 a182 := Try.isAgg138
 z182 := Try.sizeOf138
 v182 := Try.zeroValue138
 t183 := Try.underlying139
 a183 := Try.isAgg139
 z183 := Try.sizeOf139
 v183 := Try.zeroValue139
 t218 := Try.underlying144
 a218 := Try.isAgg144
 z218 := Try.sizeOf144
 v218 := Try.zeroValue144
 t222 := Try.underlying148
 a222 := Try.isAgg148
 z222 := Try.sizeOf148
 v222 := Try.zeroValue148
 t228 := Try.underlying150
 a228 := Try.isAgg150
 z228 := Try.sizeOf150
 v228 := Try.zeroValue150
 t229 := Try.underlying151
 a229 := Try.isAgg151
 z229 := Try.sizeOf151
 v229 := Try.zeroValue151 }
def laysCompact_ren : Go.Shelf.Ren := ⟨fun | 20 => 155 | n => n, fun | 22 => 24 | 3 => 3 | 4 => 4 | 0 => 0 | n => n, fun | n => n⟩
theorem laysCompact : Go.Proofs.Lays2.n20 Try.prog laysCompact_ren := {
 mixed := by kernel_rfl
 f20 := Try.func155.trans (congrArg some (by kernel_rfl))
 t0 := Try.underlying0
 a0 := Try.isAgg0
 z0 := Try.sizeOf0
 v0 := Try.zeroValue0
 t3 := Try.underlying3
 a3 := Try.isAgg3
 z3 := Try.sizeOf3
 v3 := Try.zeroValue3
 t4 := Try.underlying4
 a4 := Try.isAgg4
 z4 := Try.sizeOf4
 v4 := Try.zeroValue4
 t22 := Try.underlying24
 a22 := Try.isAgg24
 z22 := Try.sizeOf24
 v22 := Try.zeroValue24
 i3 := by kernel_rfl }
def laysInsF_ren : Go.Shelf.Ren := ⟨fun | 20 => 128 | n => n, fun | 24 => 3 | 22 => 24 | 3 => 3 | 25 => 65 | 4 => 4 | 0 => 0 | n => n, fun | n => n⟩
theorem laysInsF : Go.Proofs.SlLaysF.n20 Try.prog laysInsF_ren := {
 mixed := by kernel_rfl
 f20 := ⟨"slices.insertionSortCmpFunc[int]", by decide, Try.func128.trans (congrArg some (by kernel_rfl))⟩
 t0 := Try.underlying0
 a0 := Try.isAgg0
 z0 := Try.sizeOf0
 v0 := Try.zeroValue0
 t3 := Try.underlying3
 a3 := Try.isAgg3
 z3 := Try.sizeOf3
 v3 := Try.zeroValue3
 t4 := Try.underlying4
 a4 := Try.isAgg4
 z4 := Try.sizeOf4
 v4 := Try.zeroValue4
 t22 := Try.underlying24
 a22 := Try.isAgg24
 z22 := Try.sizeOf24
 v22 := Try.zeroValue24
 a24 := Try.isAgg3
 z24 := Try.sizeOf3
 t25 := Try.underlying65
 a25 := Try.isAgg65
 z25 := Try.sizeOf65
 v25 := Try.zeroValue65 }
end Go.Proofs.Ytmpodackojmojaa.Lay
end
section
namespace Go.Proofs.Ytmpodackojmojaa.SortR
open Go.RowKit Go.Shelf Go.Sort Go.Proofs.YtmpodackojmojaaW.PrintWords
def sorted (xs : List Int) : List Int := xs.mergeSort fun x y => decide (x ≤ y)
theorem sorted_length (xs : List Int) : (sorted xs).length = xs.length := List.length_mergeSort xs
theorem sort_calls {w : World} {base : Nat} {ok : Nat → Prop} {v : Value} {xs : List Int} (h : (Kd.int .i64).R 3 w base ok v xs) (hs : xs.length < 4611686018427387904) :
  Calls Try.prog 154 #[v] w fun e w' => e = .returned (.tuple #[]) ∧ (Kd.int .i64).R 3 w' base ok v (sorted xs) ∧ (∀ w0 : World, Below base w0 w → Below base w0 w') ∧ w.grownBy w' v.ownBlock := by
 have ho := Kd.own_of_R h
 rcases ho.2 with ⟨rfl, h0⟩ | ⟨g, cap, cur, rfl, hbase, hb, h1, h2, h3, h4⟩
 ·have hx : xs = [] := List.length_eq_zero_iff.1 h0
  subst hx
  refine (Any.slices_Sort_int_none Lay.laysSort none 0 w).mono ?_
  rintro e w' ⟨rfl, rfl⟩
  exact ⟨rfl, by simpa [sorted] using h, fun _ hb => hb, ⟨rfl, rfl, rfl, Nat.le_refl _, fun _ _ _ => rfl⟩⟩
 ·have hH : Holds (Value.int .i64) w g 0 xs.toArray := by
   obtain ⟨g', cap', he, _, _, _, _, _, hH⟩ := Lib.holds_of_ownsRow ho (by simp)
   injection he with e1 _ _
   injection e1 with e1
   injection e1 with e1 _ _
   subst e1
   exact hH
  have hlt : g < w.heap.size := (Array.getElem?_eq_some_iff.1 hb).1
  refine (Any.slices_Sort_int Lay.laysSort g 0 cap xs w hH hlt hs).mono ?_
  rintro e w' ⟨rfl, n, os, rfl⟩
  have hown := ownsRow_sortedI (n := n) (os := os) (ts := sorted xs) (sorted_length xs) hbase hb h1 h2 h3
  rw [← sorted_length xs] at hown
  have hg : w.grownBy (grow (putRow (Value.int .i64) (Sort.ahead w n) g 0 (sorted xs).toArray) os) (some g) := grownBy_sortedI _
  refine ⟨rfl, ?_, fun w0 hb0 => ?_, ?_⟩
  ·have := Kd.R_of_own (enc := Value.int .i64) (h1 := fun _ => rfl) (ok := ok) hown (fun k hk => h.1 k (by simpa [Value.ownBlock] using hk))
   rw [sorted_length xs] at this
   exact this
  ·exact hb0.grown hg (by omega) (fun j hj => by cases hj; exact hbase)
  ·exact hg
theorem compact_calls {w : World} {base : Nat} {ok : Nat → Prop} {v : Value} {xs : List Int} (h : (Kd.int .i64).R 3 w base ok v xs) (hs : xs.length ≤ 9223372036854775807) :
  Calls Try.prog 155 #[v] w fun e w' => ∃ v', e = .returned v' ∧ (Kd.int .i64).R 3 w' base ok v' (Lib.compact xs) ∧ (∀ w0 : World, Below base w0 w → Below base w0 w') := by
 have ho := Kd.own_of_R h
 rcases ho.2 with ⟨rfl, h0⟩ | ⟨g, cap, cur, rfl, hbase, hb, h1, h2, h3, h4⟩
 ·have hx : xs = [] := List.length_eq_zero_iff.1 h0
  subst hx
  refine (Any.slices_Compact_int_empty Lay.laysCompact none 0 w).mono ?_
  rintro e w' ⟨rfl, rfl⟩
  exact ⟨_, rfl, by simpa [Lib.compact, Lib.compactUpTo] using h, fun _ hb => hb⟩
 ·have hH : Holds (Value.int .i64) w g 0 xs.toArray := by
   obtain ⟨g', cap', he, _, _, _, _, _, hH⟩ := Lib.holds_of_ownsRow ho (by simp)
   injection he with e1 _ _
   injection e1 with e1
   injection e1 with e1 _ _
   subst e1
   exact hH
  refine (Any.slices_Compact_int Lay.laysCompact g 0 cap xs w hH hs h1).mono ?_
  rintro e w' ⟨rfl, q, rfl⟩
  have hle := Lib.compact_length_le xs
  have hc := Lib.ownsRow_putRow (q := q) (k := (Lib.compact xs).length) (ys := Lib.compact xs ++ List.replicate (xs.length - (Lib.compact xs).length) 0) ho (by simp; omega) hle
  rw [List.take_left] at hc
  refine ⟨_, rfl, ?_, fun w0 hb0 => Lib.below_putRow hb0 hbase⟩
  exact Kd.R_of_own (enc := Value.int .i64) (h1 := fun _ => rfl) (ok := ok) hc (fun k hk => h.1 k (by simpa [Value.ownBlock] using hk))
end Go.Proofs.Ytmpodackojmojaa.SortR
end
section
namespace Go.Proofs.Ytmpodackojmojaa.SortF
open Go.RowKit Go.Shelf Go.Sort Go.Proofs.YtmpodackojmojaaW.PrintWords Go.Proofs.YtmpodackojmojaaW.PrintMore
section plain
variable {α β : Type}
def insr (lt : α → α → Bool) (x : α) : List α → List α
 | [] => [x]
 | y :: r => if lt x y then y :: insr lt x r else x :: y :: r
def insl (lt : α → α → Bool) (l : List α) : List α := (l.foldl (fun r x => insr lt x r) []).reverse
theorem insr_length (lt : α → α → Bool) (x : α) : ∀ r : List α, (insr lt x r).length = r.length + 1
 | [] => rfl
 | y :: r => by
  unfold insr
  split
  ·rw [List.length_cons, insr_length lt x r, List.length_cons]
  ·rfl
theorem insr_mem (lt : α → α → Bool) (x : α) : ∀ r : List α, ∀ z, z ∈ insr lt x r ↔ z = x ∨ z ∈ r
 | [], z => by simp [insr]
 | y :: r, z => by
  unfold insr
  split
  ·rw [List.mem_cons, insr_mem lt x r z, List.mem_cons]
   constructor
   ·rintro (h | h | h)
    ·exact .inr (.inl h)
    ·exact .inl h
    ·exact .inr (.inr h)
   ·rintro (h | h | h)
    ·exact .inr (.inl h)
    ·exact .inl h
    ·exact .inr (.inr h)
  ·rw [List.mem_cons]
theorem fold_length (lt : α → α → Bool) (l : List α) : ∀ r : List α, (l.foldl (fun r x => insr lt x r) r).length = r.length + l.length := by
 induction l with
 | nil => exact fun r => rfl
 | cons x l ih =>
  intro r
  rw [List.foldl_cons, ih, insr_length, List.length_cons]
  omega
theorem fold_mem (lt : α → α → Bool) (l : List α) : ∀ (r : List α) (z : α), z ∈ l.foldl (fun r x => insr lt x r) r ↔ z ∈ r ∨ z ∈ l := by
 induction l with
 | nil => exact fun r z => by simp
 | cons x l ih =>
  intro r z
  rw [List.foldl_cons, ih, insr_mem, List.mem_cons]
  constructor
  ·rintro ((h | h) | h)
   ·exact .inr (.inl h)
   ·exact .inl h
   ·exact .inr (.inr h)
  ·rintro (h | h | h)
   ·exact .inl (.inr h)
   ·exact .inl (.inl h)
   ·exact .inr h
theorem insl_length (lt : α → α → Bool) (l : List α) : (insl lt l).length = l.length := by
 unfold insl
 rw [List.length_reverse, fold_length]
 simp
theorem insl_mem (lt : α → α → Bool) (l : List α) (z : α) : z ∈ insl lt l ↔ z ∈ l := by
 unfold insl
 rw [List.mem_reverse, fold_mem]
 simp
theorem insr_map (f : α → β) (lt : α → α → Bool) (lt' : β → β → Bool) (h : ∀ x y, lt' (f x) (f y) = lt x y) (x : α) : ∀ r : List α, (insr lt x r).map f = insr lt' (f x) (r.map f)
 | [] => rfl
 | y :: r => by
  show (if lt x y then y :: insr lt x r else x :: y :: r).map f = if lt' (f x) (f y) then f y :: insr lt' (f x) (r.map f) else f x :: f y :: r.map f
  rw [h x y, ← insr_map f lt lt' h x r]
  split <;> rfl
theorem insl_map (f : α → β) (lt : α → α → Bool) (lt' : β → β → Bool) (h : ∀ x y, lt' (f x) (f y) = lt x y) (l : List α) : (insl lt l).map f = insl lt' (l.map f) := by
 unfold insl
 rw [List.map_reverse]
 congr 1
 have key : ∀ (l : List α) (r : List α), (l.foldl (fun r x => insr lt x r) r).map f = (l.map f).foldl (fun r x => insr lt' x r) (r.map f) := by
  intro l
  induction l with
  | nil => exact fun r => rfl
  | cons x l ih =>
   intro r
   rw [List.foldl_cons, ih, insr_map f lt lt' h, List.map_cons, List.foldl_cons]
 exact key l []
variable [Inhabited α]
theorem getElem!_at (a : List α) (x : α) (b : List α) (d : Array α) (h : d.toList = a ++ x :: b) : d[a.length]! = x := by
 have hl : a.length < d.size := by rw [← Array.length_toList, h, List.length_append, List.length_cons]; omega
 rw [getElem!_pos d a.length hl, ← Array.getElem_toList]
 simp [h]
theorem inner_list (lt : α → α → Bool) : ∀ (R : List α) (x : α) (S : List α) (d : Array α), d.toList = R.reverse ++ x :: S → (insInner lt 0 R.length d).toList = (insr lt x R).reverse ++ S
 | [], x, S, d, h => by
  show d.toList = _
  rw [h]
  rfl
 | y :: R, x, S, d, h => by
  have e1 : d[R.length]! = y := by
   have := getElem!_at R.reverse y (x :: S) d (by rw [h]; simp)
   rwa [List.length_reverse] at this
  have e2 : d[R.length + 1]! = x := by
   have := getElem!_at (R.reverse ++ [y]) x S d (by rw [h]; simp)
   simpa using this
  show (insInner lt 0 (R.length + 1) d).toList = _
  unfold insInner
  rw [e1, e2, decide_eq_true (show R.length + 1 > 0 by omega), Bool.true_and]
  unfold insr
  by_cases hl : lt x y = true
  ·rw [if_pos hl, if_pos hl]
   have hs : (swp d (R.length + 1) R.length).toList = R.reverse ++ x :: (y :: S) := by
    unfold swp
    rw [e1, e2]
    simp only [Array.toList_setIfInBounds, h]
    rw [show R.length + 1 = (R.reverse ++ [y]).length by simp, show (y :: R).reverse ++ x :: S = (R.reverse ++ [y]) ++ x :: S by simp, List.set_append_right _ _ (Nat.le_refl _)]
    simp only [Nat.sub_self, List.set_cons_zero]
    rw [show R.length = R.reverse.length by simp, List.append_assoc, List.set_append_right _ _ (Nat.le_refl _)]
    simp
   rw [inner_list lt R x (y :: S) _ hs]
   simp
  ·rw [if_neg hl, if_neg hl, h]
   simp
theorem outer_list (lt : α → α → Bool) : ∀ (rest : List α) (R : List α) (d : Array α), d.toList = R.reverse ++ rest → (insOuter lt 0 (R.length + rest.length) R.length d).toList = (rest.foldl (fun r x => insr lt x r) R).reverse
 | [], R, d, h => by
  unfold insOuter
  rw [if_neg (by simp), h]
  simp
 | x :: rest, R, d, h => by
  unfold insOuter
  rw [if_pos (by simp)]
  have h2 := outer_list lt rest (insr lt x R) (insInner lt 0 R.length d) (inner_list lt R x rest d h)
  rw [insr_length] at h2
  rw [List.foldl_cons, ← h2]
  congr 2
  rw [List.length_cons]
  omega
theorem insertion_list (lt : α → α → Bool) (d : Array α) : (insertionSort lt d 0 d.size).toList = insl lt d.toList := by
 unfold insertionSort insl
 rcases hd : d.toList with _ | ⟨x, l⟩
 ·have hs : d.size = 0 := by rw [← Array.length_toList, hd]; rfl
  unfold insOuter
  rw [if_neg (by omega), hd]
  rfl
 ·have hs : d.size = [x].length + l.length := by rw [← Array.length_toList, hd, List.length_cons, List.length_cons, List.length_nil]; omega
  rw [hs]
  exact outer_list lt l [x] d (by rw [hd]; rfl)
end plain
theorem grown_put {α : Type} [Inhabited α] {enc : α → Value} {w : World} {g n : Nat} {os : Array Obj} (d : Array α) : w.grownBy (grow (putRow enc (Sort.ahead w n) g 0 d) os) (some g) := by
 refine ⟨rfl, rfl, rfl, by simp, fun k hk hne => ?_⟩
 rw [heap_grow_old _ _ (by simpa using hk)]
 have : g ≠ k := fun e => hne (by rw [e])
 simp [putRow, mapBlock, Sort.ahead, Array.getElem?_modify, this]
abbrev nats (zs : List Nat) : List Int := zs.map fun z : Nat => (z : Int)
def Answers (w : World) (base n : Nat) (cf : Nat → Nat → Int) (g : Nat) (cb : Array Value) : Prop := ∀ W : World, (∀ w0 : World, Below base w0 w → Below base w0 W) → ∀ x y : Nat, x < n → y < n → Calls Try.prog g (#[.int .i64 x, .int .i64 y] ++ cb) W fun e w' => e = .returned (.int .i64 (cf x y)) ∧ ∃ q, w' = W.drewN q
set_option maxHeartbeats 1000000 in
theorem ins_none (p : Option Addr) (cap : Nat) (fv : Value) (w : World) : Calls Try.prog 128 #[.slice p 0 cap, .int .i64 0, .int .i64 0, fv] w fun e w' => e = .returned (.tuple #[]) ∧ w' = w := by
 go_enter Try.func128, Try.ntmps128
 go_wp2
 refine wp_loop_rounds 1 ?_
 rw [rounds_succ]
 go_wp2
 go_end0
 exact ⟨rfl, rfl⟩
set_option maxHeartbeats 1000000 in
theorem ins_calls {w : World} {base : Nat} {ok : Nat → Prop} {v : Value} (n : Nat) (zs : List Nat) (hz : ∀ z ∈ zs, z < n) (h : (Kd.int .i64).R 3 w base ok v (nats zs)) (hs : zs.length < 4611686018427387904)
  (cf : Nat → Nat → Int) (g : Nat) (cb : Array Value) (eg : Enters Try.prog g) (hc : Answers w base n cf g cb) :
  Calls Try.prog 128 #[v, .int .i64 0, .int .i64 zs.length, .func (.func g) #[] cb] w fun e w' => e = .returned (.tuple #[]) ∧ (Kd.int .i64).R 3 w' base ok v (nats (insl (fun x y => decide (cf x y < 0)) zs)) ∧ (∀ w0 : World, Below base w0 w → Below base w0 w') ∧ w.grownBy w' v.ownBlock := by
 have ho := Kd.own_of_R h
 have hlen : (nats zs).length = zs.length := by simp
 by_cases he : zs = []
 ·subst he
  have hv : ∃ p cap, v = .slice p 0 cap := by
   rcases ho.2 with ⟨rfl, h0⟩ | ⟨g, cap, cur, rfl, _⟩
   ·exact ⟨none, 0, rfl⟩
   ·exact ⟨_, cap, rfl⟩
  obtain ⟨p, cap, rfl⟩ := hv
  refine (ins_none p cap (.func (.func g) #[] cb) w).mono ?_
  rintro e w' ⟨rfl, rfl⟩
  exact ⟨rfl, h, fun _ hb => hb, ⟨rfl, rfl, rfl, Nat.le_refl _, fun _ _ _ => rfl⟩⟩
 ·have hpos : 0 < zs.length := by
   cases zs with
   | nil => exact absurd rfl he
   | cons a b => simp
  obtain ⟨m, rfl⟩ : ∃ m, n = m + 1 := by
   cases zs with
   | nil => exact absurd rfl he
   | cons a b => exact ⟨n - 1, by have := hz a (by simp); omega⟩
  rcases ho.2 with ⟨rfl, h0⟩ | ⟨b, cap, cur, rfl, hbase, hb, h1, h2, h3, h4⟩
  ·omega
  ·obtain ⟨fs, hfs⟩ : ∃ fs : List (Fin (m + 1)), fs.map (fun i => i.val) = zs := ⟨zs.pmap (fun z hz => ⟨z, hz⟩) hz, by rw [List.map_pmap]; simp⟩
   have henc : (nats zs).map (Value.int .i64) = fs.map fun i : Fin (m + 1) => Value.int .i64 ((i.val : Nat) : Int) := by
    rw [← hfs]
    simp [List.map_map, Function.comp_def]
   have hfl : fs.length = zs.length := by rw [← hfs, List.length_map]
   have ho' : w.ownsRow base 3 1 (.slice (some ⟨b, 0, none⟩) (nats zs).length cap) (nats zs).length (fs.map fun i : Fin (m + 1) => Value.int .i64 ((i.val : Nat) : Int)) := by
    rw [← henc]
    exact ho
   have hH : Holds (fun i : Fin (m + 1) => Value.int .i64 ((i.val : Nat) : Int)) w b 0 fs.toArray := by
    obtain ⟨g', cap', he', _, _, _, _, _, hH⟩ := Lib.holds_of_ownsRow ho' (by simp)
    injection he' with e1 _ _
    injection e1 with e1
    injection e1 with e1 _ _
    subst e1
    exact hH
   have hcmp : CmpReads Try.prog g cb (fun i : Fin (m + 1) => Value.int .i64 ((i.val : Nat) : Int)) (fun x y => cf x.val y.val) b 0 fs.toArray.size w := fun q os dk _ x y => by
    refine hc (sortWorld _ w b 0 q dk os) (fun w0 hb0 => ?_) x.val y.val x.2 y.2
    have hlt : b < w.heap.size := (Array.getElem?_eq_some_iff.1 hb).1
    exact hb0.grown (grown_put dk) (by omega) (fun j hj => by cases hj; exact hbase)
   have hmain := Any.insertionSortCmpFunc_one Lay.laysInsF (fun i : Fin (m + 1) => Value.int .i64 ((i.val : Nat) : Int)) (fun _ => rfl) (fun x y => cf x.val y.val) g cb b 0 cap 0 fs.toArray.size fs.toArray w eg hcmp hH (Nat.zero_le _) (Nat.le_refl _) (by simpa [hfl] using hs)
   have hsz : fs.toArray.size = zs.length := by simp [hfl]
   rw [hsz] at hmain
   rw [hlen]
   refine hmain.mono ?_
   rintro e w' ⟨rfl, q, rfl⟩
   have hl := insertion_list (ltOf fun x y : Fin (m + 1) => cf x.val y.val) fs.toArray
   rw [hsz] at hl
   generalize hd : insertionSort (ltOf fun x y : Fin (m + 1) => cf x.val y.val) fs.toArray 0 zs.length = da at hl
   have hq : (putRow (fun i : Fin (m + 1) => Value.int .i64 ((i.val : Nat) : Int)) w b 0 da).drewN q = putRow (fun i : Fin (m + 1) => Value.int .i64 ((i.val : Nat) : Int)) (Sort.ahead w (0 + q)) b 0 da := putRow_drewN _ w 0 q b 0 da
   have hda : da = (insl (ltOf fun x y : Fin (m + 1) => cf x.val y.val) fs).toArray := by
    rw [← hl]
   have hil : (insl (ltOf fun x y : Fin (m + 1) => cf x.val y.val) fs).length = (nats zs).length := by rw [insl_length, hfl, hlen]
   rw [hq, hda]
   have hown := Lib.ownsRow_putRow (q := 0 + q) (k := (nats zs).length) (ys := insl (ltOf fun x y : Fin (m + 1) => cf x.val y.val) fs) ho' hil (Nat.le_refl _)
   rw [List.take_of_length_le (by omega)] at hown
   have hmap : (insl (ltOf fun x y : Fin (m + 1) => cf x.val y.val) fs).map (fun i : Fin (m + 1) => Value.int .i64 ((i.val : Nat) : Int)) = (nats (insl (fun x y => decide (cf x y < 0)) zs)).map (Value.int .i64) := by
    rw [← hfs, ← insl_map (fun i : Fin (m + 1) => i.val) (ltOf fun x y : Fin (m + 1) => cf x.val y.val) (fun x y => decide (cf x y < 0)) (fun x y => rfl)]
    simp [List.map_map, Function.comp_def]
   rw [hmap] at hown
   have hll : (nats zs).length = (nats (insl (fun x y => decide (cf x y < 0)) zs)).length := by simp [insl_length]
   have hg : w.grownBy (putRow (fun i : Fin (m + 1) => Value.int .i64 ((i.val : Nat) : Int)) (Sort.ahead w (0 + q)) b 0 (insl (ltOf fun x y : Fin (m + 1) => cf x.val y.val) fs).toArray) (some b) := by
    have := grown_put (enc := fun i : Fin (m + 1) => Value.int .i64 ((i.val : Nat) : Int)) (w := w) (g := b) (n := 0 + q) (os := #[]) (insl (ltOf fun x y : Fin (m + 1) => cf x.val y.val) fs).toArray
    rwa [grow_empty] at this
   refine ⟨rfl, ?_, fun w0 hb0 => Lib.below_putRow hb0 hbase, hg⟩
   rw [hlen] at hown hll
   rw [hll] at hown ⊢
   exact Kd.R_of_own (enc := Value.int .i64) (h1 := fun _ => rfl) (ok := ok) hown (fun k hk => h.1 k (by simpa [Value.ownBlock] using hk))
set_option maxHeartbeats 1000000 in
theorem stable_calls {w : World} {base : Nat} {ok : Nat → Prop} {v : Value} (n : Nat) (zs : List Nat) (hz : ∀ z ∈ zs, z < n) (h : (Kd.int .i64).R 3 w base ok v (nats zs)) (hs : zs.length < 20)
  (cf : Nat → Nat → Int) (g : Nat) (cb : Array Value) (eg : Enters Try.prog g) (hc : Answers w base n cf g cb) :
  Calls Try.prog 106 #[v, .int .i64 zs.length, .func (.func g) #[] cb] w fun e w' => e = .returned (.tuple #[]) ∧ (Kd.int .i64).R 3 w' base ok v (nats (insl (fun x y => decide (cf x y < 0)) zs)) ∧ (∀ w0 : World, Below base w0 w → Below base w0 w') ∧ w.grownBy w' v.ownBlock := by
 have hI := ins_calls n zs hz h (by omega) cf g cb eg hc
 clear hc hz
 have hs1 : (zs.length : Int) < 20 := by omega
 have hs2 : ¬ (20 ≤ zs.length) := by omega
 generalize hR : (nats (insl (fun x y => decide (cf x y < 0)) zs)) = rs at hI ⊢
 clear hR
 go_enter Try.func106, Try.ntmps106
 go_wp2
 refine wp_loop_rounds 1 ?_
 rw [rounds_succ]
 go_wp2_with (go_at_call 128; refine hI.mono ?_; rintro e w' ⟨rfl, h1, h2, h3⟩)
 refine wp_loop_rounds 1 ?_
 rw [rounds_succ]
 go_wp2
 go_end0
 exact ⟨rfl, h1, h2, h3⟩
theorem sort_calls {w : World} {base : Nat} {ok : Nat → Prop} {v : Value} (n : Nat) (zs : List Nat) (hz : ∀ z ∈ zs, z < n) (h : (Kd.int .i64).R 3 w base ok v (nats zs)) (hs : zs.length < 20)
    (cf : Nat → Nat → Int) (g : Nat) (cb : Array Value) (eg : Enters Try.prog g) (hc : Answers w base n cf g cb) :
    Calls Try.prog 63 #[v, .func (.func g) #[] cb] w fun e w' => e = .returned (.tuple #[]) ∧ (Kd.int .i64).R 3 w' base ok v (nats (insl (fun x y => decide (cf x y < 0)) zs)) ∧ (∀ w0 : World, Below base w0 w → Below base w0 w') ∧ w.grownBy w' v.ownBlock := by
  have hI := stable_calls n zs hz h hs cf g cb eg hc
  clear hc hz
  have hv : ∃ p cap, v = .slice p zs.length cap := by
    rcases (Kd.own_of_R h).2 with ⟨rfl, h0⟩ | ⟨g, cap, cur, rfl, _⟩
    · exact ⟨none, 0, by have : zs.length = 0 := by simpa using h0
                         rw [this]⟩
    · exact ⟨some ⟨g, 0, none⟩, cap, by simp⟩
  obtain ⟨p, cap, rfl⟩ := hv
  generalize hR : (nats (insl (fun x y => decide (cf x y < 0)) zs)) = rs at hI ⊢
  clear hR
  go_enter Try.func63, Try.ntmps63
  go_wp2_with (go_at_call 106; refine hI.mono ?_; rintro e w' ⟨rfl, h1, h2, h3⟩)
  go_end0
  exact ⟨rfl, h1, h2, h3⟩
end Go.Proofs.Ytmpodackojmojaa.SortF
end
section
namespace Go.Proofs.Ytmpodackojmojaa.Pr
open Go.RowKit Go.Proofs.YtmpodackojmojaaW.PrintWords Go.Proofs.YtmpodackojmojaaW.PrintLast Go.Proofs.YtmpodackojmojaaW.PrintMore
attribute [local go_sem] max2_int min2_int max_two min_two max_three min_three max_four min_four
set_option linter.unusedVariables false
set_option linter.unusedSimpArgs false
def impl_PlanOf.cf (x0 : List S73) (a b : Nat) : Int := wrap64 ((rd_T73 x0 a).f0 - (rd_T73 x0 b).f0)
def impl_PlanOf.order (x0 : List S73) (xs : List Int) : Option (List Int) := if xs.length < 20 then (if (xs.all fun x => decide (0 ≤ x ∧ x < (x0.length : Int))) = true then some (SortF.nats (SortF.insl (fun a b => decide (impl_PlanOf.cf x0 a b < 0)) (xs.map Int.toNat))) else none) else none
set_option maxHeartbeats 1000000 in
theorem impl_PlanOf_1.calls (A0 : Option Addr) (c0 : Nat) (l0 : List S73) (gb : Nat) (a b : Int) (w : World) (hcell : w.cell? ⟨gb, 0, none⟩ = some (.slice A0 l0.length c0)) (hr : Kd.C k73 w A0 l0.length l0) (ha0 : 0 ≤ a) (ha : a < (l0.length : Int)) (hb0 : 0 ≤ b) (hb : b < (l0.length : Int)) :
  Calls Try.prog 64 #[.int .i64 a, .int .i64 b, .pointer (some ⟨gb, 0, none⟩)] w fun e w' => e = .returned (.int .i64 (wrap64 ((rd_T73 l0 a).f0 - (rd_T73 l0 b).f0))) ∧ ∃ q, w' = w.drewN q := by
 obtain ⟨ad1, e1, hx1_0, hx1_1⟩ := at_T73 hr a ha0 ha
 cases e1
 obtain ⟨ad2, e2, hx2_0, hx2_1⟩ := at_T73 hr b hb0 hb
 cases e2
 clear hr
 replace ha0 := eq_true ha0
 replace ha := eq_true ha
 replace hb0 := eq_true hb0
 replace hb := eq_true hb
 generalize (rd_T73 l0 a) = x at *
 generalize (rd_T73 l0 b) = y at *
 go_enter Try.func64, Try.ntmps64
 go_wp2
 go_quiet (fail)
 go_wp2
 go_ret
 exact ⟨rfl, _, rfl⟩
theorem impl_PlanOf.order_length {x0 : List S73} {xs r : List Int} (h : impl_PlanOf.order x0 xs = some r) : xs.length = r.length := by
 unfold impl_PlanOf.order at h
 by_cases h1 : xs.length < 20
 ·rw [if_pos h1] at h
  by_cases h2 : (xs.all fun x => decide (0 ≤ x ∧ x < (x0.length : Int))) = true
  ·rw [if_pos h2] at h
   obtain rfl := Option.some.inj h
   simp [SortF.insl_length]
  ·rw [if_neg h2] at h
   cases h
 ·rw [if_neg h1] at h
  cases h
theorem impl_PlanOf.sort_calls (l0 : List S73) (A0 : Option Addr) (c0 gb : Nat) (w0 W : World) {ok : Nat → Prop} {v : Value} (y t : List Int) (h : Kd.R (Kd.int .i64) 3 W w0.heap.size ok v y) (hA : impl_PlanOf.order l0 y = some t) (hcell : ∀ W', Below w0.heap.size w0 W' → W'.cell? ⟨gb, 0, none⟩ = some (.slice A0 l0.length c0)) (hr : Kd.C k73 w0 A0 l0.length l0) (hB : Below w0.heap.size w0 W) :
  Calls Try.prog 63 #[v, .func (.func 64) #[] #[.pointer (some ⟨gb, 0, none⟩)]] W fun e w' => e = .returned (.tuple #[]) ∧ Kd.R (Kd.int .i64) 3 w' w0.heap.size ok v t ∧ Below w0.heap.size w0 w' ∧ W.grownBy w' v.ownBlock := by
 unfold impl_PlanOf.order at hA
 by_cases h1 : y.length < 20
 ·rw [if_pos h1] at hA
  by_cases h2 : (y.all fun x => decide (0 ≤ x ∧ x < (l0.length : Int))) = true
  ·rw [if_pos h2] at hA
   obtain rfl := Option.some.inj hA
   have hall : ∀ x ∈ y, 0 ≤ x ∧ x < (l0.length : Int) := fun x hx => by
    have := List.all_eq_true.1 h2 x hx
    exact of_decide_eq_true this
   have hn : SortF.nats (y.map Int.toNat) = y := by
    simp only [SortF.nats, List.map_map]
    refine (List.map_congr_left fun x hx => ?_).trans (List.map_id y)
    have := hall x hx
    show ((x.toNat : Nat) : Int) = x
    omega
   rw [← hn] at h
   refine (SortF.sort_calls l0.length (y.map Int.toNat) (fun z hz => ?_) h (by simpa using h1) (impl_PlanOf.cf l0) 64 #[.pointer (some ⟨gb, 0, none⟩)] (enters_of Try.func64 (by kernel_rfl) rfl) (fun W' hW' a b ha hb => impl_PlanOf_1.calls A0 c0 l0 gb a b W' (hcell W' (hW' w0 hB)) (Kd.C_below hr (hW' w0 hB)) (by omega) (by omega) (by omega) (by omega))).mono ?_
   ·obtain ⟨x, hx, rfl⟩ := List.mem_map.1 hz
    have := hall x hx
    omega
   ·rintro e w' ⟨rfl, h3, h4, h5⟩
    exact ⟨rfl, h3, h4 w0 hB, h5⟩
  ·rw [if_neg h2] at hA
   cases hA
 ·rw [if_neg h1] at hA
  cases hA
mutual
def impl_PlanOf.j0 : Nat → List (S73) → Int → Bool → Option (List Int × Bool)
 | 0, _, _, _ => none
 | k + 1, x0, x1, x20 => if x20 = true then (some (([] : List Int), false)) else ((impl_ElementsOf.f k x1).bind fun t336 => ((some (([] : List Int) : List Int)).bind fun y339 => (if y339.length + t336.length < 17592186044416 then ((impl_PlanOf.order x0 (y339 ++ t336)).bind fun t345 => (if 0 ≤ (t336.length : Int) then (if ((t336.length : Int) : Int).toNat ≤ 35184372088832 then (impl_PlanOf.l0 k x0 t336 (List.replicate ((t336.length : Int) : Int).toNat 0) t345 (t345.length : Int) 0) else (none)) else (none))) else (none))))
def impl_PlanOf.l0 : Nat → List (S73) → List Int → List Int → List Int → Int → Int → Option (List Int × Bool)
 | 0, _, _, _, _, _, _ => none
 | k + 1, x0, x6, x8, x32, x33, x34 => if x34 < x33 then (if 0 ≤ x34 then (if x34 < (x32.length : Int) then (if 0 ≤ (rd x32 x34) then (if (rd x32 x34) < (x0.length : Int) then (if (wrap64 (x34 + 1)) > ((rd_T73 x0 (rd x32 x34)).f0) then (some (([] : List Int), false)) else ((slices_Index_int_int.f k x6 (rd x32 x34)).bind fun t353 => (if 0 ≤ t353 then (if t353 < (x8.length : Int) then (impl_PlanOf.l0 k x0 x6 (x8.set (t353 : Int).toNat (wrap64 (x34 + 1))) x32 x33 (wrap64 (x34 + 1))) else (none)) else (none)))) else (none)) else (none)) else (none)) else (none)) else (some (x8, true))
end
def impl_PlanOf.f (k : Nat) (l0 : List (S73)) (a1 : Int) : Option (List Int × Bool) := (impl_AreTasks.f k l0).bind fun t334 => (if t334 = true then ((impl_IsSet.f (l0.length : Int) a1).bind fun t335 => (impl_PlanOf.j0 k l0 a1 (!t335))) else (impl_PlanOf.j0 k l0 a1 true))
theorem impl_PlanOf.mono_l : ∀ k, (∀ y0 y1 y2, LeO (impl_PlanOf.j0 k y0 y1 y2) (impl_PlanOf.j0 (k + 1) y0 y1 y2)) ∧ (∀ y0 y1 y2 y3 y4 y5, LeO (impl_PlanOf.l0 k y0 y1 y2 y3 y4 y5) (impl_PlanOf.l0 (k + 1) y0 y1 y2 y3 y4 y5))
 | 0 => ⟨fun _ _ _ r h => by simp [impl_PlanOf.j0] at h, fun _ _ _ _ _ _ r h => by simp [impl_PlanOf.l0] at h⟩
 | k + 1 => by
  obtain ⟨ih0, ih1⟩ := impl_PlanOf.mono_l k
  refine ⟨?_, ?_⟩
  ·intro y0 y1 y2
   unfold impl_PlanOf.j0
   repeat' first
   | (with_reducible exact ih0 _ _ _)
   | (with_reducible exact ih1 _ _ _ _ _ _)
   | (with_reducible exact impl_AreTasks.mono _ _)
   | (with_reducible exact impl_ElementsOf.mono _ _)
   | (with_reducible exact slices_Index_int_int.mono _ _ _)
   | (with_reducible exact LeO.refl _)
   | (with_reducible exact LeO.none _)
   | (with_reducible refine LeO.ite ?_ ?_)
   | (with_reducible refine LeO.bind ?_ (fun _ => ?_))
   | exact ih0 _ _ _
   | exact ih1 _ _ _ _ _ _
   | exact impl_AreTasks.mono _ _
   | exact impl_ElementsOf.mono _ _
   | exact slices_Index_int_int.mono _ _ _
   | exact LeO.none _
   | refine LeO.ite ?_ ?_
   | refine LeO.bind ?_ (fun _ => ?_)
  ·intro y0 y1 y2 y3 y4 y5
   unfold impl_PlanOf.l0
   repeat' first
   | (with_reducible exact ih0 _ _ _)
   | (with_reducible exact ih1 _ _ _ _ _ _)
   | (with_reducible exact impl_AreTasks.mono _ _)
   | (with_reducible exact impl_ElementsOf.mono _ _)
   | (with_reducible exact slices_Index_int_int.mono _ _ _)
   | (with_reducible exact LeO.refl _)
   | (with_reducible exact LeO.none _)
   | (with_reducible refine LeO.ite ?_ ?_)
   | (with_reducible refine LeO.bind ?_ (fun _ => ?_))
   | exact ih0 _ _ _
   | exact ih1 _ _ _ _ _ _
   | exact impl_AreTasks.mono _ _
   | exact impl_ElementsOf.mono _ _
   | exact slices_Index_int_int.mono _ _ _
   | exact LeO.none _
   | refine LeO.ite ?_ ?_
   | refine LeO.bind ?_ (fun _ => ?_)
theorem impl_PlanOf.mono : ∀ a0 a1 k, LeO (impl_PlanOf.f k a0 a1) (impl_PlanOf.f (k + 1) a0 a1) := by
 intro a0 a1 k
 obtain ⟨ih0, ih1⟩ := impl_PlanOf.mono_l k
 unfold impl_PlanOf.f
 repeat' first
   | (with_reducible exact ih0 _ _ _)
   | (with_reducible exact ih1 _ _ _ _ _ _)
   | (with_reducible exact impl_AreTasks.mono _ _)
   | (with_reducible exact impl_ElementsOf.mono _ _)
   | (with_reducible exact slices_Index_int_int.mono _ _ _)
   | (with_reducible exact LeO.refl _)
   | (with_reducible exact LeO.none _)
   | (with_reducible refine LeO.ite ?_ ?_)
   | (with_reducible refine LeO.bind ?_ (fun _ => ?_))
   | exact ih0 _ _ _
   | exact ih1 _ _ _ _ _ _
   | exact impl_AreTasks.mono _ _
   | exact impl_ElementsOf.mono _ _
   | exact slices_Index_int_int.mono _ _ _
   | exact LeO.none _
   | refine LeO.ite ?_ ?_
   | refine LeO.bind ?_ (fun _ => ?_)
set_option maxHeartbeats 8000000 in
set_option maxRecDepth 100000 in
theorem impl_PlanOf.calls (k : Nat) (A0 : Option Addr) (c0 : Nat) (l0 : List (S73)) (a1 : Int) (r1 : List Int) (r2 : Bool) (w : World) (hr0 : Kd.C k73 w A0 l0.length l0) (hc0 : l0.length ≤ c0) (h : impl_PlanOf.f k l0 a1 = some (r1, r2)) :
  Calls Try.prog 15 #[.slice A0 l0.length c0, .int .i64 a1] w fun e w' => ∃ v0_ : Value, e = .returned (.tuple #[v0_, .bool r2]) ∧ Kd.R (Kd.int .i64) 3 w' w.heap.size (fun _ => True) v0_ r1 ∧ Below w.heap.size w w' := by
 have HR0 := Aside0.mk hr0
 have HC0 := Aside0.mk hc0
 clear hr0 hc0
 have HB := Aside0.mk (Below.refl w.heap.size w)
 have H : ((impl_AreTasks.f k l0).bind fun t334 => (if t334 = true then ((impl_IsSet.f (l0.length : Int) a1).bind fun t335 => (impl_PlanOf.j0 k l0 a1 (!t335))) else (impl_PlanOf.j0 k l0 a1 true))) = some (r1, r2) := h
 clear h
 have HC3 := Aside0.mk H
 clear H
 go_enter Try.func15, Try.ntmps15
 go_upto_region 1 with (((with_reducible refine gate_dst (N := 2) rfl ?_); refine box_event ?hg (N := 2) ?hd (cs := #[.slice A0 l0.length c0]) (t := 27) ?hr ?_; (case hd => rfl); (case hg => rfl); (case hr => first | (go_simp; done) | (go_simp; rfl)); intro gbx hg wb hbox hb; have HL := Aside0.mk (below_step (Hof.Lw HB.out) hb); have HBX : Aside0 (∀ W_ : World, Below wb.heap.size wb W_ → W_.cell? ⟨gbx, 0, none⟩ = some (.slice A0 l0.length c0)) := ⟨fun W_ hW_ => (hW_.cell (p := ⟨gbx, 0, none⟩) (blk_lt hbox)).trans ((blk_cell hbox 0).trans rfl)⟩; replace HR0 := Aside0.mk (Kd.C_below HR0.out HL.out); replace HB := Aside0.mk (Below.refl wb.heap.size wb); clear hg hbox hb))
 go_cut [20] (fun v20 wc => ∃ (kq : Nat) (x20_2 : Bool), v20 = .bool x20_2 ∧ Aside0 (impl_PlanOf.j0 kq l0 a1 x20_2 = some (r1, r2)) ∧ Aside0 (kq ≤ k) ∧ Aside0 (Below wb.heap.size wb wc))
 case first =>
  have H := HC3.out
  clear HC3
  replace H := Option.bind_eq_some_iff.mp H
  obtain ⟨t334, A40, H⟩ := H
  (try dsimp only at H)
  have A4 := Aside0.mk A40
  clear A40
  by_cases c5 : t334 = true
  ·subst c5
   have H1 : ((impl_IsSet.f (l0.length : Int) a1).bind fun t335 => (impl_PlanOf.j0 k l0 a1 (!t335))) = some (r1, r2) := by rw [if_pos rfl] at H; exact H
   clear H
   have H := H1
   clear H1
   replace H := Option.bind_eq_some_iff.mp H
   obtain ⟨t335, A60, H⟩ := H
   (try dsimp only at H)
   have A6 := Aside0.mk A60
   clear A60
   have H' := Aside0.mk H
   clear H
   have hcz_ := HBX.out _ HB.out
   go_wp2_with (first | ((with_reducible refine gate_callee (f := 60) rfl ?_); refine goesL_ (some 12) rfl rfl Try.func60 (by kernel_rfl) rfl #[.slice A0 l0.length c0] rfl (by (try simp only [List.map_toArray, List.map_cons, List.map_nil]); first | done | rfl) ?_; (with_reducible refine (impl_AreTasks.calls k _ _ l0 true _ ?side1 ?side2 A4.out).mono ?_); (case side1 => exact Hof.Cw (Kd.C_below HR0.out HB.out)); (case side2 => exact HC0.out); rintro e w7 ⟨rfl, hb⟩; refine ⟨_, rfl, ?_⟩; replace HB := Aside0.mk (below_step (Hof.Lw HB.out) hb); have hcz1_ := HBX.out _ HB.out; (try clear hb); (try clear hb2); (try clear hk); (try clear hi)) | (go_at_call 61; (with_reducible refine (impl_IsSet.calls (l0.length : Int) a1 t335 _ A6.out).mono ?_); rintro e w' ⟨rfl, ⟨nd, rfl⟩⟩))
   go_meet
   case rel => exact ⟨_, (!t335), (by first | rfl | (simp; done) | (simp [*]; done)), H', ⟨by first | omega | exact Nat.le_refl _⟩, ⟨Hof.Lw HB.out⟩⟩
  ·replace c5 := Bool.eq_false_iff.mpr c5
   subst c5
   have H1 : (impl_PlanOf.j0 k l0 a1 true) = some (r1, r2) := by rw [if_neg (show ¬ (false = true) by decide)] at H; exact H
   clear H
   have H := H1
   clear H1
   have H' := Aside0.mk H
   clear H
   have hcz_ := HBX.out _ HB.out
   go_wp2_with (first | ((with_reducible refine gate_callee (f := 60) rfl ?_); refine goesL_ (some 12) rfl rfl Try.func60 (by kernel_rfl) rfl #[.slice A0 l0.length c0] rfl (by (try simp only [List.map_toArray, List.map_cons, List.map_nil]); first | done | rfl) ?_; (with_reducible refine (impl_AreTasks.calls k _ _ l0 false _ ?side1 ?side2 A4.out).mono ?_); (case side1 => exact Hof.Cw (Kd.C_below HR0.out HB.out)); (case side2 => exact HC0.out); rintro e w8 ⟨rfl, hb⟩; refine ⟨_, rfl, ?_⟩; replace HB := Aside0.mk (below_step (Hof.Lw HB.out) hb); have hcz1_ := HBX.out _ HB.out; (try clear hb); (try clear hb2); (try clear hk); (try clear hi)))
   go_meet
   case rel => exact ⟨_, (true), (by first | rfl | (simp; done) | (simp [*]; done)), H', ⟨by first | omega | exact Nat.le_refl _⟩, ⟨Hof.Lw HB.out⟩⟩
 case rest =>
  clear HC3
  try clear c1
  try clear p2
  try clear c5
  try clear c6
  obtain ⟨kq, x20_2, rfl, HA, HJ2, HB⟩ := hcut
  cases kq with
  | zero => exact absurd HA.out (by simp [impl_PlanOf.j0])
  | succ kj2 =>
   have H := HA.out
   clear HA
   simp only [impl_PlanOf.j0] at H
   by_cases c9 : x20_2 = true
   ·subst c9
    have H1 : (some (([] : List Int), false)) = some (r1, r2) := by rw [if_pos rfl] at H; exact H
    clear H
    have H := H1
    clear H1
    simp only [Option.some.injEq, Prod.mk.injEq] at H
    obtain ⟨rfl, rfl⟩ := H
    try have hcz_ := HBX.out _ HB.out
    go_wp2
    go_ret2
    exact ⟨_, by first | rfl | (simp [errW_none, errW_some] <;> rfl) | (simp [*, errW_none, errW_some] <;> rfl), by first | exact Kd.R_nil _ _ _ _ _ | exact Kd.N_nil _ _ _ _ _ | exact Kd.V_nil _ _ _ _ _ | exact Kd.Q_nil _ _ _ _ _ | exact Kd.S_nil _ _ _ _ _, below_step HL.out (Hof.Lw HB.out)⟩
   ·replace c9 := Bool.eq_false_iff.mpr c9
    subst c9
    have H1 : ((impl_ElementsOf.f kj2 a1).bind fun t336 => ((some (([] : List Int) : List Int)).bind fun y339 => (if y339.length + t336.length < 17592186044416 then ((impl_PlanOf.order l0 (y339 ++ t336)).bind fun t345 => (if 0 ≤ (t336.length : Int) then (if ((t336.length : Int) : Int).toNat ≤ 35184372088832 then (impl_PlanOf.l0 kj2 l0 t336 (List.replicate ((t336.length : Int) : Int).toNat 0) t345 (t345.length : Int) 0) else (none)) else (none))) else (none)))) = some (r1, r2) := by rw [if_neg (show ¬ (false = true) by decide)] at H; exact H
    clear H
    have H := H1
    clear H1
    replace H := Option.bind_eq_some_iff.mp H
    obtain ⟨t336, A100, H⟩ := H
    (try dsimp only at H)
    have A10 := Aside0.mk A100
    clear A100
    obtain ⟨y339, hy339⟩ : ∃ y_ : List Int, y_ = (([] : List Int)) := ⟨_, rfl⟩
    replace H : (if y339.length + t336.length < 17592186044416 then ((impl_PlanOf.order l0 (y339 ++ t336)).bind fun t345 => (if 0 ≤ (t336.length : Int) then (if ((t336.length : Int) : Int).toNat ≤ 35184372088832 then (impl_PlanOf.l0 kj2 l0 t336 (List.replicate ((t336.length : Int) : Int).toNat 0) t345 (t345.length : Int) 0) else (none)) else (none))) else (none)) = some (r1, r2) := by first | (rw [hy339]; with_reducible exact H) | (have H2_ := (Option.bind_some _ _).symm.trans H; rw [hy339]; with_reducible exact H2_) | (have H2_ := (Option.bind_some _ _).symm.trans H; with_reducible exact H2_) | with_reducible exact H | (rw [hy339]; exact H) | exact H
    have Ny339 := Aside0.mk hy339
    clear hy339
    by_cases c11 : y339.length + t336.length < 17592186044416
    ·rw [if_pos c11] at H
     have LMc11 := Aside0.mk c11
     clear c11
     obtain ⟨y342, hy342⟩ : ∃ y_ : List Int, y_ = (y339 ++ t336) := ⟨_, rfl⟩
     replace H : ((impl_PlanOf.order l0 y342).bind fun t345 => (if 0 ≤ (t336.length : Int) then (if ((t336.length : Int) : Int).toNat ≤ 35184372088832 then (impl_PlanOf.l0 kj2 l0 t336 (List.replicate ((t336.length : Int) : Int).toNat 0) t345 (t345.length : Int) 0) else (none)) else (none))) = some (r1, r2) := by first | (rw [hy342]; with_reducible exact H) | (have H2_ := (Option.bind_some _ _).symm.trans H; rw [hy342]; with_reducible exact H2_) | (have H2_ := (Option.bind_some _ _).symm.trans H; with_reducible exact H2_) | with_reducible exact H | (rw [hy342]; exact H) | exact H
     have Ny342 := Aside0.mk hy342
     clear hy342
     replace H := Option.bind_eq_some_iff.mp H
     obtain ⟨t345, A120, H⟩ := H
     (try dsimp only at H)
     have LENQ := Aside0.mk (impl_PlanOf.order_length A120)
     have A12 := Aside0.mk A120
     clear A120
     by_cases c13 : 0 ≤ (t336.length : Int)
     ·rw [if_pos c13] at H
      have c13b0 := eq_true c13
      have c13b1 : decide (0 ≤ (t336.length : Int)) = true := decide_eq_true c13
      clear c13
      by_cases c14 : ((t336.length : Int) : Int).toNat ≤ 35184372088832
      ·rw [if_pos c14] at H
       have c14b0 := eq_true c14
       have c14b1 : decide (((t336.length : Int) : Int).toNat ≤ 35184372088832) = true := decide_eq_true c14
       clear c14
       obtain ⟨y348, hy348⟩ : ∃ y_ : List Int, y_ = (List.replicate ((t336.length : Int) : Int).toNat 0) := ⟨_, rfl⟩
       replace H : (impl_PlanOf.l0 kj2 l0 t336 y348 t345 (t345.length : Int) 0) = some (r1, r2) := by first | (rw [hy348]; with_reducible exact H) | (have H2_ := (Option.bind_some _ _).symm.trans H; rw [hy348]; with_reducible exact H2_) | (have H2_ := (Option.bind_some _ _).symm.trans H; with_reducible exact H2_) | with_reducible exact H | (rw [hy348]; exact H) | exact H
       have Ny348 := Aside0.mk hy348
       clear hy348
       have H' := Aside0.mk H
       clear H
       go_wp2_with (first | ((with_reducible refine gate_callee (f := 62) rfl ?_); refine goesL_ (some 22) rfl rfl Try.func62 (by kernel_rfl) rfl #[.int .i64 a1] rfl (by (try simp only [List.map_toArray, List.map_cons, List.map_nil]); first | done | rfl) ?_; (with_reducible refine (impl_ElementsOf.calls kj2 a1 t336 _ A10.out).mono ?_); rintro e w15 ⟨v337, rfl, ho0, hb⟩; refine ⟨_, rfl, ?_⟩; have HO338 := Aside0.mk (Kd.R_lower ho0 (below_size (Hof.Lw HB.out))); replace HB := Aside0.mk (below_step (Hof.Lw HB.out) hb); (try clear hb); (try clear hb2); (try clear hk); (try clear hi); (try clear ho0)) | ((with_reducible refine gate_dst (N := 23) rfl ?_); (try (refine gate_guard (by rfl) ?_; dsimp only)); refine Kd.R_lit (Kd.int .i64) _ 3 ?hg (N := 23) ?hd (xs := ([] : List Int)) (inner := []) (ok := fun _ => True) (okp := fun _ => True) ?hr ?hp (fun _ hk => hk) trivial (Below.refl _ _) (Nat.le_refl _) (by simp) ?_; (case hd => rfl); (case hg => rfl); (case hr => first | (go_simp; done) | (go_simp; rfl)); (case hp => exact (Reps.none _ _)); intro v340 w16 ho17 hb hg_ hnew_; clear hg_ hnew_; (first | rw [← Ny339.out] at ho17 | (simp only [Int.reduceToNat] at ho17; rw [← Ny339.out] at ho17)); have HO341 := Aside0.mk (Kd.R_lower (Kd.R_new' ho17 (Kd.R_lt (Hof.Rw HO338.out))) (below_size (Hof.Lw HB.out))); replace HO338 := Aside0.mk (Kd.R_elder' (Hof.Rw HO338.out) (Kd.R_base ho17) hb); replace HB := Aside0.mk (below_step (Hof.Lw HB.out) hb); clear hb ho17; obtain ⟨Ao19, co19, eo19⟩ := Kd.R_slice HO338.out; subst eo19) | ((with_reducible refine gate_builtin (b := .append) (xs := #[.tmp 23, .tmp 24]) rfl ?_); (try (refine gate_guard (by rfl) ?_; dsimp only)); at_builtin; refine Kd.R_append_rows (Kd.int .i64) (w0 := wb) wb.heap.size rfl (.tmp 23) (.tmp 24) 24 3 (.int .i64 0) 8 rfl Try.underlying24 info3 rfl (by decide) (by omega) v340 y339 t336 _ _ _ (fun k_ => some k_ ≠ (.slice Ao19 t336.length co19 : Value).ownBlock) (fun _ => False) rfl rfl ?aO ?aR (fun _ _ h => h) (fun _ h => h.elim) ?aF ?aB ?aS ?aL ?_; (case aR => repeat (first | exact (Kd.R_reads' HO338.out).2.2 | (with_reducible refine Kd.C_alloc ?_ _) | (with_reducible refine Kd.C_drewN ?_ _) | (with_reducible refine Kd.C_drew ?_))); (case aB => exact (Hof.Lw HB.out)); (case aF => exact (fun k_ hk => Kd.fresh' (Kd.R_lt (Hof.Rw HO338.out)) k_ hk)); (case aO => exact (Hof.Rw (Kd.R_mono HO341.out (fun _ hk => hk.2)))); (case aS => exact (below_size (Hof.Lw HB.out))); (case aL => have := LMc11.out; omega); intro v343 w18 ho hb hg hat; rw [← Ny342.out] at ho; have n0_ := Aside0.mk (Kd.R_after (ok := (fun _ => True)) (Hof.Rw HO338.out) hg hat); have n1_ := Aside0.mk hb; have n2_ := Aside0.mk ho; clear HO338; clear HB; clear HO341; have HO338 := n0_; have HB := n1_; have HO344 := n2_; clear n0_ n1_ n2_; clear ho hb hg hat; obtain ⟨Ao20, co20, eo20⟩ := Kd.R_slice HO344.out; rw [LENQ.out] at eo20; subst eo20) | ((with_reducible refine gate_callee (f := 63) rfl ?_); refine goesL_ (some 28) rfl rfl Try.func63 (by kernel_rfl) rfl #[.slice Ao20 t345.length co20, .func (.func 64) #[] #[.pointer (some ⟨gbx, 0, none⟩)]] rfl (by (try simp only [List.map_toArray, List.map_cons, List.map_nil]); first | done | rfl) ?_; (with_reducible refine (impl_PlanOf.sort_calls l0 A0 c0 gbx wb _ y342 t345 HO344.out A12.out HBX.out HR0.out HB.out).mono ?_); rintro e w21 ⟨rfl, ho0, hb, hg⟩; refine ⟨_, rfl, ?_⟩; have HO347 := Aside0.mk ho0; replace HO338 := Aside0.mk (Kd.R_grown (Hof.Rw HO338.out) hg (fun k hk => hk.2)); replace HB := Aside0.mk hb; clear HO344 ho0 hb hg) | ((with_reducible refine gate_dst (N := 31) rfl ?_); (try (refine gate_guard (by rfl) ?_; dsimp only)); refine Kd.R_make (Kd.int .i64) _ 3 rfl (N := 31) rfl 24 _ _ rfl (t336.length : Int) rfl rfl Try.underlying24 (.int .i64 0) 8 info3 rfl (by decide) (by omega) 0 (ok := fun _ => True) (okp := fun _ => True) rfl (fun _ hk => hk) trivial (of_decide_eq_true (by first | (with_reducible assumption) | assumption)) (Nat.le_trans (Nat.mul_le_mul_right _ (of_decide_eq_true (by first | (with_reducible assumption) | assumption) : (t336.length : Int).toNat ≤ 35184372088832)) (by omega)) (Below.refl _ _) (Nat.le_refl _) ?_; intro v349 w22 ho23 hb hg_ hnew_; clear hg_ hnew_; (first | rw [← Ny348.out] at ho23 | (simp only [Int.reduceToNat] at ho23; rw [← Ny348.out] at ho23)); have HO350 := Aside0.mk (Kd.R_lower (Kd.R_new' (Kd.R_new' ho23 (Kd.R_lt (Hof.Rw HO338.out))) (Kd.R_lt (Hof.Rw HO347.out))) (below_size (Hof.Lw HB.out))); replace HO338 := Aside0.mk (Kd.R_elder' (Hof.Rw HO338.out) (Kd.R_base ho23) hb); replace HO347 := Aside0.mk (Kd.R_elder' (Hof.Rw HO347.out) (Kd.R_base ho23) hb); replace HB := Aside0.mk (below_step (Hof.Lw HB.out) hb); clear hb ho23))
       go_loopg [34] kj2 (fun kq v34 w' => ∃ (x8_2 : List Int) (x34_2 : Int), v34 = .int .i64 x34_2 ∧ Aside0 (impl_PlanOf.l0 kq l0 t336 x8_2 t345 (t345.length : Int) x34_2 = some (r1, r2)) ∧ Aside0 (kq ≤ kj2) ∧ Aside0 (Kd.R (Kd.int .i64) 3 w' wb.heap.size (fun k_ => some k_ ≠ (v349 : Value).ownBlock ∧ some k_ ≠ ((.slice Ao20 t345.length co20) : Value).ownBlock) (.slice Ao19 t336.length co19) t336) ∧ Aside0 (Kd.R (Kd.int .i64) 3 w' wb.heap.size (fun k_ => some k_ ≠ ((.slice Ao19 t336.length co19) : Value).ownBlock ∧ some k_ ≠ ((.slice Ao20 t345.length co20) : Value).ownBlock) v349 x8_2) ∧ Aside0 (Kd.R (Kd.int .i64) 3 w' wb.heap.size (fun k_ => some k_ ≠ ((.slice Ao19 t336.length co19) : Value).ownBlock ∧ some k_ ≠ (v349 : Value).ownBlock) (.slice Ao20 t345.length co20) t345) ∧ Aside0 (Below wb.heap.size wb w'))
       case atStart => exact ⟨(y348), (0), (by first | rfl | (simp; done) | (simp [*]; done)), H', ⟨Nat.le_refl _⟩, ⟨Hof.Rw (Kd.R_mono HO338.out (fun _ hk => (by first | exact hk.2 | exact hk.1 | exact ⟨hk.1.2, hk.2⟩ | exact ⟨hk.1, hk.2⟩ | exact ⟨hk.2, hk.1.2⟩ | (simp_all; done))))⟩, ⟨Hof.Rw (Kd.R_mono HO350.out (fun _ hk => (by first | exact hk.2 | exact hk.1 | exact ⟨hk.1.2, hk.2⟩ | exact ⟨hk.1, hk.2⟩ | exact ⟨hk.1.1.2, hk.2⟩ | (simp_all; done))))⟩, ⟨Hof.Rw (Kd.R_mono HO347.out (fun _ hk => (by first | exact hk.2 | exact hk.1 | exact ⟨hk.1.2, hk.2⟩ | exact ⟨hk.1, hk.2⟩ | exact ⟨hk.1.1.2, hk.2⟩ | (simp_all; done))))⟩, ⟨Hof.Lw HB.out⟩⟩
       case round =>
        clear H'
        try clear c1
        try clear p2
        try clear c5
        try clear c6
        try clear c9
        try clear c11
        try clear c13
        try clear c13b0
        try clear c13b1
        try clear c14
        try clear c14b0
        try clear c14b1
        try clear c15
        try clear p2
        obtain ⟨x8_2, x34_2, rfl, HA, HK2, HO_6, HO_8, HO_32, HB⟩ := hrel
        cases gk with
        | zero => exact absurd HA.out (by simp [impl_PlanOf.l0])
        | succ k2 =>
         have H := HA.out
         clear HA
         simp only [impl_PlanOf.l0] at H
         by_cases c25 : x34_2 < (t345.length : Int)
         ·rw [if_pos c25] at H
          have c25b0 : decide (x34_2 < (t345.length : Int)) = true := decide_eq_true c25
          clear c25
          by_cases c26 : 0 ≤ x34_2
          ·rw [if_pos c26] at H
           have c26b0 : decide (0 ≤ x34_2) = true := decide_eq_true c26
           clear c26
           by_cases c27 : x34_2 < (t345.length : Int)
           ·rw [if_pos c27] at H
            have c27b0 : decide (x34_2 < (t345.length : Int)) = true := decide_eq_true c27
            clear c27
            by_cases c28 : 0 ≤ (rd t345 x34_2)
            ·rw [if_pos c28] at H
             have c28b0 : decide (0 ≤ (rd t345 x34_2)) = true := decide_eq_true c28
             clear c28
             by_cases c29 : (rd t345 x34_2) < (l0.length : Int)
             ·rw [if_pos c29] at H
              have c29b0 : decide ((rd t345 x34_2) < (l0.length : Int)) = true := decide_eq_true c29
              clear c29
              by_cases c30 : (wrap64 (x34_2 + 1)) > ((rd_T73 l0 (rd t345 x34_2)).f0)
              ·rw [if_pos c30] at H
               have c30b0 : decide (((rd_T73 l0 (rd t345 x34_2)).f0) < (wrap64 (x34_2 + 1))) = true := decide_eq_true c30
               clear c30
               simp only [Option.some.injEq, Prod.mk.injEq] at H
               obtain ⟨rfl, rfl⟩ := H
               have p351 : 0 ≤ (x34_2 : Int) := of_decide_eq_true (by first | (with_reducible assumption) | assumption)
               have q351 : x34_2 < (t345.length : Int) := of_decide_eq_true (by first | (with_reducible assumption) | assumption)
               obtain ⟨ad351, e351, hx351_0⟩ := Kd.at_int (Kd.R_reads' HO_32.out).2.2 x34_2 p351 q351
               cases e351
               replace p351 := eq_true p351
               replace q351 := eq_true q351
               have p352 : 0 ≤ ((rd t345 x34_2) : Int) := of_decide_eq_true (by first | (with_reducible assumption) | assumption)
               have q352 : (rd t345 x34_2) < (l0.length : Int) := of_decide_eq_true (by first | (with_reducible assumption) | assumption)
               obtain ⟨ad352, e352, hx352_0, hx352_1⟩ := at_T73 HR0.out (rd t345 x34_2) p352 q352
               cases e352
               try replace hx352_0 := (HB.out.cell (World.block_lt_of_cell? wb _ hx352_0)).trans hx352_0
               try replace hx352_1 := (HB.out.cell (World.block_lt_of_cell? wb _ hx352_1)).trans hx352_1
               replace p352 := eq_true p352
               replace q352 := eq_true q352
               try have hcz_ := HBX.out _ HB.out
               go_wp2
               go_ret2
               exact ⟨_, by first | rfl | (simp [errW_none, errW_some] <;> rfl) | (simp [*, errW_none, errW_some] <;> rfl), by first | exact Kd.R_nil _ _ _ _ _ | exact Kd.N_nil _ _ _ _ _ | exact Kd.V_nil _ _ _ _ _ | exact Kd.Q_nil _ _ _ _ _ | exact Kd.S_nil _ _ _ _ _, below_step HL.out (Hof.Lw HB.out)⟩
              ·rw [if_neg c30] at H
               have c30b0 : decide (((rd_T73 l0 (rd t345 x34_2)).f0) < (wrap64 (x34_2 + 1))) = false := decide_eq_false c30
               clear c30
               replace H := Option.bind_eq_some_iff.mp H
               obtain ⟨t353, A310, H⟩ := H
               (try dsimp only at H)
               have A31 := Aside0.mk A310
               clear A310
               by_cases c32 : 0 ≤ t353
               ·rw [if_pos c32] at H
                have c32b0 : decide (0 ≤ t353) = true := decide_eq_true c32
                clear c32
                by_cases c33 : t353 < (x8_2.length : Int)
                ·rw [if_pos c33] at H
                 have c33b0 : decide (t353 < (x8_2.length : Int)) = true := decide_eq_true c33
                 clear c33
                 obtain ⟨y354, hy354⟩ : ∃ y_ : List Int, y_ = (x8_2.set (t353 : Int).toNat (wrap64 (x34_2 + 1))) := ⟨_, rfl⟩
                 replace H : (impl_PlanOf.l0 k2 l0 t336 y354 t345 (t345.length : Int) (wrap64 (x34_2 + 1))) = some (r1, r2) := by first | (rw [hy354]; with_reducible exact H) | (have H2_ := (Option.bind_some _ _).symm.trans H; rw [hy354]; with_reducible exact H2_) | (have H2_ := (Option.bind_some _ _).symm.trans H; with_reducible exact H2_) | with_reducible exact H | (rw [hy354]; exact H) | exact H
                 have Ny354 := Aside0.mk hy354
                 clear hy354
                 have H' := Aside0.mk H
                 clear H
                 have p351 : 0 ≤ (x34_2 : Int) := of_decide_eq_true (by first | (with_reducible assumption) | assumption)
                 have q351 : x34_2 < (t345.length : Int) := of_decide_eq_true (by first | (with_reducible assumption) | assumption)
                 obtain ⟨ad351, e351, hx351_0⟩ := Kd.at_int (Kd.R_reads' HO_32.out).2.2 x34_2 p351 q351
                 cases e351
                 replace p351 := eq_true p351
                 replace q351 := eq_true q351
                 have p352 : 0 ≤ ((rd t345 x34_2) : Int) := of_decide_eq_true (by first | (with_reducible assumption) | assumption)
                 have q352 : (rd t345 x34_2) < (l0.length : Int) := of_decide_eq_true (by first | (with_reducible assumption) | assumption)
                 obtain ⟨ad352, e352, hx352_0, hx352_1⟩ := at_T73 HR0.out (rd t345 x34_2) p352 q352
                 cases e352
                 try replace hx352_0 := (HB.out.cell (World.block_lt_of_cell? wb _ hx352_0)).trans hx352_0
                 try replace hx352_1 := (HB.out.cell (World.block_lt_of_cell? wb _ hx352_1)).trans hx352_1
                 replace p352 := eq_true p352
                 replace q352 := eq_true q352
                 have hcz_ := HBX.out _ HB.out
                 go_wp2_with (first | ((with_reducible refine gate_callee (f := 65) rfl ?_); refine goesL_ (some 50) rfl rfl Try.func65 (by kernel_rfl) rfl #[.slice Ao19 t336.length co19, .int .i64 (rd t345 x34_2)] rfl (by (try simp only [List.map_toArray, List.map_cons, List.map_nil]); first | done | rfl) ?_; (with_reducible refine (slices_Index_int_int.calls k2 _ _ t336 (rd t345 x34_2) t353 _ ?side1 ?side2 A31.out).mono ?_); (case side1 => exact Hof.Cw ((Kd.R_reads' HO_6.out).2.2)); (case side2 => exact (Kd.R_reads' HO_6.out).2.1); rintro e w' ⟨rfl, ⟨nd, rfl⟩⟩; refine ⟨_, rfl, ?_⟩; (try (rw [drewN_self wr]; generalize hq_ : World.drewN wr _ = wr; have n0_ : Aside0 (Kd.R (Kd.int .i64) 3 wr wb.heap.size (fun k_ => some k_ ≠ (.slice Ao19 t336.length co19 : Value).ownBlock ∧ some k_ ≠ (v349 : Value).ownBlock) (.slice (some ad351) t345.length co20) t345) := ⟨by rw [← hq_]; exact (Hof.Rw HO_32.out)⟩; have n1_ : Aside0 (Kd.R (Kd.int .i64) 3 wr wb.heap.size (fun k_ => some k_ ≠ (.slice (some ad351) t345.length co20 : Value).ownBlock ∧ some k_ ≠ (v349 : Value).ownBlock) (.slice Ao19 t336.length co19) t336) := ⟨by rw [← hq_]; exact (Hof.Rw (Kd.R_mono HO_6.out (fun _ hk => (by first | exact hk.2 | exact hk.1 | exact ⟨hk.1.2, hk.2⟩ | exact ⟨hk.1, hk.2⟩ | exact ⟨hk.2, hk.1⟩ | (simp_all; done)))))⟩; have n2_ : Aside0 (Kd.R (Kd.int .i64) 3 wr wb.heap.size (fun k_ => some k_ ≠ (.slice (some ad351) t345.length co20 : Value).ownBlock ∧ some k_ ≠ (.slice Ao19 t336.length co19 : Value).ownBlock) v349 x8_2) := ⟨by rw [← hq_]; exact (Hof.Rw (Kd.R_mono HO_8.out (fun _ hk => (by first | exact hk.2 | exact hk.1 | exact ⟨hk.1.2, hk.2⟩ | exact ⟨hk.1, hk.2⟩ | exact ⟨hk.2, hk.1⟩ | (simp_all; done)))))⟩; have n3_ : Aside0 (Below wb.heap.size wb wr) := ⟨by rw [← hq_]; exact (Hof.Lw HB.out)⟩; clear HO_32 HO_6 HO_8 HB hq_; have HO_32 := n0_; have HO_6 := n1_; have HO_8 := n2_; have HB := n3_; clear n0_ n1_ n2_ n3_)); have p34 : 0 ≤ (t353 : Int) := of_decide_eq_true (by first | (with_reducible assumption) | assumption); have q34 : (t353 : Int) < ((x8_2.length : Int) : Int) := of_decide_eq_true (by first | (with_reducible assumption) | assumption); obtain ⟨go34, co34, eo34, gb34, gl34, cl34, HG34⟩ := Kd.R_form HO_8.out (by omega); (first | cases eo34 | (injection eo34 with ea_ en_ ec_; (first | subst ea_ | (injection ea_ with ea_; subst ea_)); subst ec_; clear en_)); have GB34 := Aside0.mk gb34; have GG34 := Aside0.mk HG34; clear gb34 gl34 HG34; obtain ⟨hx34_0, hf34_0⟩ := Kd.R_celln 0 HO_8.out (t353 : Int) p34 q34; replace p34 := eq_true p34; replace q34 := eq_true q34; obtain ⟨hy35_, hz35_⟩ := Kd.R_celln 0 HO_8.out (t353 : Int) (of_decide_eq_true (by first | (with_reducible assumption) | assumption)) (of_decide_eq_true (by first | (with_reducible assumption) | assumption)); have HP35 := Kd.R_putg HO_8.out (t353 : Int) (wrap64 (x34_2 + 1))) | ((with_reducible refine gate_store (t := 3) (p := 53) rfl ?_); refine store_event (t := 3) (p := 53) (v := ?vo_w36) (w1 := (wr.setCell ⟨go34, (t353 : Int).toNat, none⟩ (.int .i64 (wrap64 (x34_2 + 1))))) ?hg ?ho ?hn ?hr ?_; (case ho => rfl); (case hg => rfl); (case hn => rfl); (case hr => first | (go_simp; done) | (go_simp; rfl)); intro w36 hw; have hg : wr.grownBy w36 (some go34) := (by rw [hw]; exact HP35.2); have hp_ : Kd.R (Kd.int .i64) 3 w36 wb.heap.size (fun k_ => some k_ ≠ (.slice Ao19 t336.length co19 : Value).ownBlock ∧ some k_ ≠ (.slice (some ad351) t345.length co20 : Value).ownBlock) (.slice (some ⟨go34, 0, none⟩) x8_2.length co34) y354 := (by rw [hw, Ny354.out]; first | exact HP35.1 | exact Kd.R_mono HP35.1 (fun _ hk => ⟨hk.2, hk.1⟩)); clear HP35; replace HO_6 := Aside0.mk (Kd.R_after (v := (.slice (some ⟨go34, 0, none⟩) x8_2.length co34)) (v1 := (.slice (some ⟨go34, 0, none⟩) x8_2.length co34)) (ok := (fun k_ => some k_ ≠ (.slice (some ad351) t345.length co20 : Value).ownBlock)) (Hof.Rw (Kd.R_mono HO_6.out (fun _ hk => (by first | exact hk.2 | exact hk.1 | exact ⟨hk.1.2, hk.2⟩ | exact ⟨hk.1, hk.2⟩ | exact ⟨hk.2, hk.1⟩ | (simp_all; done))))) hg (.inl rfl)); replace HO_8 := Aside0.mk hp_; replace HO_32 := Aside0.mk (Kd.R_after (v := (.slice (some ⟨go34, 0, none⟩) x8_2.length co34)) (v1 := (.slice (some ⟨go34, 0, none⟩) x8_2.length co34)) (ok := (fun k_ => some k_ ≠ (.slice Ao19 t336.length co19 : Value).ownBlock)) (Hof.Rw HO_32.out) hg (.inl rfl)); replace HB := Aside0.mk ((by rw [hw]; exact below_set (HB.out) GB34.out : Below wb.heap.size wb w36)); clear hg hw hp_))
                 go_roundg k2
                 case measure => have := HJ2.out; have := HK2.out; omega
                 case rel => exact ⟨(y354), (wrap64 (x34_2 + 1)), (by first | rfl | (simp; done) | (simp [*]; done)), H', ⟨by have := HJ2.out; have := HK2.out; omega⟩, ⟨Hof.Rw (Kd.R_mono HO_6.out (fun _ hk => (by first | exact hk.2 | exact hk.1 | exact ⟨hk.1.2, hk.2⟩ | exact ⟨hk.1, hk.2⟩ | exact ⟨hk.2, hk.1⟩ | (simp_all; done))))⟩, ⟨Hof.Rw HO_8.out⟩, ⟨Hof.Rw HO_32.out⟩, ⟨Hof.Lw HB.out⟩⟩
                ·rw [if_neg c33] at H
                 exact absurd H (by simp)
               ·rw [if_neg c32] at H
                exact absurd H (by simp)
             ·rw [if_neg c29] at H
              exact absurd H (by simp)
            ·rw [if_neg c28] at H
             exact absurd H (by simp)
           ·rw [if_neg c27] at H
            exact absurd H (by simp)
          ·rw [if_neg c26] at H
           exact absurd H (by simp)
         ·rw [if_neg c25] at H
          have c25b0 : decide (x34_2 < (t345.length : Int)) = false := decide_eq_false c25
          clear c25
          simp only [Option.some.injEq, Prod.mk.injEq] at H
          obtain ⟨rfl, rfl⟩ := H
          try have hcz_ := HBX.out _ HB.out
          go_wp2
          go_ret2
          exact ⟨_, by first | rfl | (simp [errW_none, errW_some] <;> rfl) | (simp [*, errW_none, errW_some] <;> rfl), Kd.R_lower (Hof.Rw (Kd.R_mono HO_8.out (fun _ hk => trivial))) HL.out.size, below_step HL.out (Hof.Lw HB.out)⟩
      ·rw [if_neg c14] at H
       exact absurd H (by simp)
     ·rw [if_neg c13] at H
      exact absurd H (by simp)
    ·rw [if_neg c11] at H
     exact absurd H (by simp)
end Go.Proofs.Ytmpodackojmojaa.Pr
end
