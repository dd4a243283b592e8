/- The claim FnTasks: every text that its row comes to, laid together by slim.py (the words of the kit's print, the printed walks, the pure law, the row). -/
import Derived.Test.YtmpodackojmojaaGreatYFnTasks1
section
namespace Go.Proofs.YtmpodackojmojaaGreat.Pr
open Go.RowKit Go.Proofs.YtmpodackojmojaaGreatW.PrintWords Go.Proofs.YtmpodackojmojaaGreatW.PrintLast Go.Proofs.YtmpodackojmojaaGreatW.PrintMore
attribute [local go_sem] max2_int min2_int max_two min_two max_three min_three max_four min_four
set_option linter.unusedVariables false
set_option linter.unusedSimpArgs false
mutual
def spec_l28Order.l0 : Nat → List (S74) → Int → List Int → Int → Option (List Int)
 | 0, _, _, _, _ => none
 | k + 1, x0, x1, x5, x6 => if x6 < (x0.length : Int) then ((spec_l2Has.f x1 x6).bind fun t408 => (if t408 = true then (spec_l28Order.l1 k x0 x1 x5 x6 (x5.length : Int)) else (spec_l28Order.l0 k x0 x1 x5 (wrap64 (x6 + 1))))) else (some x5)
def spec_l28Order.l1 : Nat → List (S74) → Int → List Int → Int → Int → Option (List Int)
 | 0, _, _, _, _, _ => none
 | k + 1, x0, x1, x5, x6, x7 => if x7 > 0 then (if 0 ≤ (wrap64 (x7 - 1)) then (if (wrap64 (x7 - 1)) < (x5.length : Int) then (if 0 ≤ (rd x5 (wrap64 (x7 - 1))) then (if (rd x5 (wrap64 (x7 - 1))) < (x0.length : Int) then (if 0 ≤ x6 then (if x6 < (x0.length : Int) then (if ((rd_T74 x0 (rd x5 (wrap64 (x7 - 1)))).f0) > ((rd_T74 x0 x6).f0) then (spec_l28Order.l1 k x0 x1 x5 x6 (wrap64 (x7 - 1))) else ((some (([] : List Int) : List Int)).bind fun y412 => (if 0 ≤ x7 then (if x7 ≤ (x5.length : Int) then ((some (x5.drop (x7 : Int).toNat : List Int)).bind fun y415 => (if y412.length + y415.length < 17592186044416 then ((some (y412 ++ y415 : List Int)).bind fun y419 => ((some (x5.take (x7 : Int).toNat : List Int)).bind fun y422 => (if y422.length < 17592186044416 then ((some (y422 ++ [x6] : List Int)).bind fun y425 => (if y425.length + y419.length < 17592186044416 then (spec_l28Order.l0 k x0 x1 (y425 ++ y419) (wrap64 (x6 + 1))) else (none))) else (none)))) else (none))) else (none)) else (none)))) else (none)) else (none)) else (none)) else (none)) else (none)) else (none)) else ((some (([] : List Int) : List Int)).bind fun y431 => (if 0 ≤ x7 then (if x7 ≤ (x5.length : Int) then ((some (x5.drop (x7 : Int).toNat : List Int)).bind fun y434 => (if y431.length + y434.length < 17592186044416 then ((some (y431 ++ y434 : List Int)).bind fun y438 => ((some (x5.take (x7 : Int).toNat : List Int)).bind fun y441 => (if y441.length < 17592186044416 then ((some (y441 ++ [x6] : List Int)).bind fun y444 => (if y444.length + y438.length < 17592186044416 then (spec_l28Order.l0 k x0 x1 (y444 ++ y438) (wrap64 (x6 + 1))) else (none))) else (none)))) else (none))) else (none)) else (none)))
end
def spec_l28Order.f (k : Nat) (l0 : List (S74)) (a1 : Int) : Option (List Int) := spec_l28Order.l0 k l0 a1 (([] : List Int)) 0
set_option maxHeartbeats 8000000 in
set_option maxRecDepth 100000 in
theorem spec_l28Order.calls (k : Nat) (A0 : Option Addr) (c0 : Nat) (l0 : List (S74)) (a1 : Int) (r : List Int) (w : World) (hr0 : Kd.C k74 w A0 l0.length l0) (hc0 : l0.length ≤ c0) (h : spec_l28Order.f k l0 a1 = some r) :
  Calls Tryz.prog 88 #[.slice A0 l0.length c0, .int .i64 a1] w fun e w' => ∃ v0_ : Value, e = .returned (v0_) ∧ Kd.R (Kd.int .i64) 3 w' w.heap.size (fun _ => True) v0_ r ∧ Below w.heap.size w w' := by
 have HR0 := Aside0.mk hr0
 have HC0 := Aside0.mk hc0
 clear hr0 hc0
 have HB := Aside0.mk (Below.refl w.heap.size w)
 unfold spec_l28Order.f at h
 have H := h
 clear h
 obtain ⟨y405, hy405⟩ : ∃ y_ : List Int, y_ = (([] : List Int)) := ⟨_, rfl⟩
 replace H : (spec_l28Order.l0 k l0 a1 y405 0) = some r := by (try rw [hy405]); exact Hof.Z
 have Ny405 := Aside0.mk hy405
 clear hy405
 have H' := Aside0.mk H
 clear H
 go_enter Tryz.func88, Tryz.ntmps88
 go_wp2_with (first | (refine Hof.lt (Kd.int .i64) 3 9 ?_; intro v406 w3 ho4 hb hg_ hnew_; clear hg_ hnew_; (first | rw [← Ny405.out] at ho4 | (simp only [Int.reduceToNat] at ho4; rw [← Ny405.out] at ho4)); have HO407 := Aside0.mk (Kd.R_lower ho4 (below_size (Hof.Lw HB.out))); replace HB := Hof.lb HB hb; clear hb ho4))
 repeat (go_quiet (first | (refine Hof.lt (Kd.int .i64) 3 9 ?_; intro v406 w3 ho4 hb hg_ hnew_; clear hg_ hnew_; (first | rw [← Ny405.out] at ho4 | (simp only [Int.reduceToNat] at ho4; rw [← Ny405.out] at ho4)); have HO407 := Aside0.mk (Kd.R_lower ho4 (below_size (Hof.Lw HB.out))); replace HB := Hof.lb HB hb; clear hb ho4)); try go_wp2_with (first | (refine Hof.lt (Kd.int .i64) 3 9 ?_; intro v406 w3 ho4 hb hg_ hnew_; clear hg_ hnew_; (first | rw [← Ny405.out] at ho4 | (simp only [Int.reduceToNat] at ho4; rw [← Ny405.out] at ho4)); have HO407 := Aside0.mk (Kd.R_lower ho4 (below_size (Hof.Lw HB.out))); replace HB := Hof.lb HB hb; clear hb ho4)))
 go_loopg [5, 6] k (fun kq v5 v6 w' => ∃ (x5_1 : List Int) (x6_1 : Int), v6 = .int .i64 x6_1 ∧ Aside0 (spec_l28Order.l0 kq l0 a1 x5_1 x6_1 = some r) ∧ Aside0 (kq ≤ k) ∧ Aside0 (Kd.R (Kd.int .i64) 3 w' w.heap.size (fun _ => True) v5 x5_1) ∧ Aside0 (Below w.heap.size w w'))
 case atStart => exact ⟨(y405), (0), Hof.F, H', ⟨Nat.le_refl _⟩, ⟨Hof.Rw HO407.out⟩, ⟨Hof.Lw HB.out⟩⟩
 case round =>
  clear H'
  obtain ⟨x5_1, x6_1, rfl, HA, HK1, HO_5, HB⟩ := hrel
  cases gk with
  | zero => exact absurd HA.out (by simp [spec_l28Order.l0])
  | succ k1 =>
   have H := HA.out
   clear HA
   simp only [spec_l28Order.l0] at H
   by_cases c5 : x6_1 < (l0.length : Int)
   ·rw [if_pos c5] at H
    have c5b0 := decide_eq_true c5
    clear c5
    obtain ⟨t408, A6, H⟩ := Hof.be H
    (try dsimp only at H)
    by_cases c7 : t408 = true
    ·subst c7
     replace H : (spec_l28Order.l1 k1 l0 a1 x5_1 x6_1 (x5_1.length : Int)) = some r := by rw [if_pos rfl] at H; exact H
     have H' := Aside0.mk H
     clear H
     go_wp2_with (first | (go_at_call 89; (with_reducible refine (spec_l2Has.calls a1 x6_1 true _ A6.out).mono ?_); rintro e w' ⟨rfl, ⟨nd, rfl⟩⟩; (try exact Hof.W); obtain ⟨Ao8, co8, eo8⟩ := Kd.R_slice HO_5.out; subst eo8))
     repeat (go_quiet (first | (go_at_call 89; (with_reducible refine (spec_l2Has.calls a1 x6_1 true _ A6.out).mono ?_); rintro e w' ⟨rfl, ⟨nd, rfl⟩⟩; (try exact Hof.W); obtain ⟨Ao8, co8, eo8⟩ := Kd.R_slice HO_5.out; subst eo8)); try go_wp2_with (first | (go_at_call 89; (with_reducible refine (spec_l2Has.calls a1 x6_1 true _ A6.out).mono ?_); rintro e w' ⟨rfl, ⟨nd, rfl⟩⟩; (try exact Hof.W); obtain ⟨Ao8, co8, eo8⟩ := Kd.R_slice HO_5.out; subst eo8)))
     go_loopg [7] k1 (fun kq v7 w' => ∃ (x7_2 : Int), v7 = .int .i64 x7_2 ∧ Aside0 (spec_l28Order.l1 kq l0 a1 x5_1 x6_1 x7_2 = some r) ∧ Aside0 (kq ≤ k1) ∧ Aside0 (Kd.R (Kd.int .i64) 3 w' w.heap.size (fun _ => True) (.slice Ao8 x5_1.length co8) x5_1) ∧ Aside0 (Below w.heap.size w w'))
     case atStart => exact ⟨((x5_1.length : Int)), Hof.F, H', ⟨Nat.le_refl _⟩, ⟨Hof.Rw HO_5.out⟩, ⟨Hof.Lw HB.out⟩⟩
     case round =>
      clear H'
      obtain ⟨x7_2, rfl, HA, HK2, HO_5, HB⟩ := hrel
      cases gk with
      | zero => exact absurd HA.out (by simp [spec_l28Order.l1])
      | succ k2 =>
       have H := HA.out
       clear HA
       simp only [spec_l28Order.l1] at H
       by_cases c9 : x7_2 > 0
       ·rw [if_pos c9] at H
        have c9b0 := decide_eq_true c9
        clear c9
        obtain ⟨ji10, hji10⟩ : ∃ j_ : Int, (wrap64 (x7_2 - 1)) = j_ := ⟨_, rfl⟩
        replace H : (if 0 ≤ (ji10) then (if (ji10) < (x5_1.length : Int) then (if 0 ≤ (rd x5_1 (ji10)) then (if (rd x5_1 (ji10)) < (l0.length : Int) then (if 0 ≤ x6_1 then (if x6_1 < (l0.length : Int) then (if ((rd_T74 l0 (rd x5_1 (ji10))).f0) > ((rd_T74 l0 x6_1).f0) then (spec_l28Order.l1 k2 l0 a1 x5_1 x6_1 ji10) else ((some (([] : List Int) : List Int)).bind fun y412 => (if 0 ≤ x7_2 then (if x7_2 ≤ (x5_1.length : Int) then ((some (x5_1.drop (x7_2 : Int).toNat : List Int)).bind fun y415 => (if y412.length + y415.length < 17592186044416 then ((some (y412 ++ y415 : List Int)).bind fun y419 => ((some (x5_1.take (x7_2 : Int).toNat : List Int)).bind fun y422 => (if y422.length < 17592186044416 then ((some (y422 ++ [x6_1] : List Int)).bind fun y425 => (if y425.length + y419.length < 17592186044416 then (spec_l28Order.l0 k2 l0 a1 (y425 ++ y419) (wrap64 (x6_1 + 1))) else (none))) else (none)))) else (none))) else (none)) else (none)))) else (none)) else (none)) else (none)) else (none)) else (none)) else (none)) = some r := by first | (rw [hji10] at H; exact H) | (simp only [hji10] at H ⊢; exact H)
        have hji10w : (IntKind.i64.wrap (x7_2 - 1)) = ji10 := (i64_w _).trans hji10
        by_cases c11 : 0 ≤ (ji10)
        ·rw [if_pos c11] at H
         have c11b0 := decide_eq_true c11
         clear c11
         by_cases c12 : (ji10) < (x5_1.length : Int)
         ·rw [if_pos c12] at H
          have c12b0 := decide_eq_true c12
          clear c12
          by_cases c13 : 0 ≤ (rd x5_1 (ji10))
          ·rw [if_pos c13] at H
           have c13b0 := decide_eq_true c13
           clear c13
           by_cases c14 : (rd x5_1 (ji10)) < (l0.length : Int)
           ·rw [if_pos c14] at H
            have c14b0 := decide_eq_true c14
            clear c14
            by_cases c15 : 0 ≤ x6_1
            ·rw [if_pos c15] at H
             have c15b0 := decide_eq_true c15
             clear c15
             by_cases c16 : x6_1 < (l0.length : Int)
             ·rw [if_pos c16] at H
              have c16b0 := decide_eq_true c16
              clear c16
              by_cases c17 : ((rd_T74 l0 (rd x5_1 (ji10))).f0) > ((rd_T74 l0 x6_1).f0)
              ·rw [if_pos c17] at H
               have c17b0 := decide_eq_true c17
               clear c17
               have H' := Aside0.mk H
               clear H
               have p409 : 0 ≤ ((ji10) : Int) := Hof.D
               have q409 : (ji10) < (x5_1.length : Int) := Hof.D
               obtain ⟨ad409, e409, hx409_0⟩ := Kd.at_int (Kd.R_reads' HO_5.out).2.2 (ji10) p409 q409
               cases e409
               replace p409 := eq_true p409
               replace q409 := eq_true q409
               have p410 : 0 ≤ ((rd x5_1 (ji10)) : Int) := Hof.D
               have q410 : (rd x5_1 (ji10)) < (l0.length : Int) := Hof.D
               obtain ⟨ad410, e410, hx410_0, hx410_1⟩ := at_T74 HR0.out (rd x5_1 (ji10)) p410 q410
               cases e410
               try replace hx410_0 := (HB.out.cell (World.block_lt_of_cell? w _ hx410_0)).trans hx410_0
               try replace hx410_1 := (HB.out.cell (World.block_lt_of_cell? w _ hx410_1)).trans hx410_1
               replace p410 := eq_true p410
               replace q410 := eq_true q410
               have p411 : 0 ≤ (x6_1 : Int) := Hof.D
               have q411 : x6_1 < (l0.length : Int) := Hof.D
               obtain ⟨ad411, e411, hx411_0, hx411_1⟩ := at_T74 HR0.out x6_1 p411 q411
               obtain rfl : ad410 = ad411 := (by injection e411)
               try replace hx411_0 := (HB.out.cell (World.block_lt_of_cell? w _ hx411_0)).trans hx411_0
               try replace hx411_1 := (HB.out.cell (World.block_lt_of_cell? w _ hx411_1)).trans hx411_1
               replace p411 := eq_true p411
               replace q411 := eq_true q411
               go_wp2
               repeat (go_quiet (fail); try go_wp2)
               go_roundg k2
               case measure => have := HK1.out; have := HK2.out; omega
               case rel => exact ⟨(ji10), (by first | rfl | (simp; done) | (simp only [← hji10] <;> (first | rfl | simp)) | (simp [*]; done)), H', ⟨by have := HK1.out; have := HK2.out; omega⟩, ⟨Hof.Rw HO_5.out⟩, ⟨Hof.Lw HB.out⟩⟩
              ·rw [if_neg c17] at H
               have c17b0 : decide (((rd_T74 l0 x6_1).f0) < ((rd_T74 l0 (rd x5_1 (ji10))).f0)) = false := decide_eq_false c17
               clear c17
               obtain ⟨y412, hy412⟩ : ∃ y_ : List Int, y_ = (([] : List Int)) := ⟨_, rfl⟩
               replace H : (if 0 ≤ x7_2 then (if x7_2 ≤ (x5_1.length : Int) then ((some (x5_1.drop (x7_2 : Int).toNat : List Int)).bind fun y415 => (if y412.length + y415.length < 17592186044416 then ((some (y412 ++ y415 : List Int)).bind fun y419 => ((some (x5_1.take (x7_2 : Int).toNat : List Int)).bind fun y422 => (if y422.length < 17592186044416 then ((some (y422 ++ [x6_1] : List Int)).bind fun y425 => (if y425.length + y419.length < 17592186044416 then (spec_l28Order.l0 k2 l0 a1 (y425 ++ y419) (wrap64 (x6_1 + 1))) else (none))) else (none)))) else (none))) else (none)) else (none)) = some r := by (try rw [hy412]); exact Hof.Z
               have Ny412 := Aside0.mk hy412
               clear hy412
               by_cases c18 : 0 ≤ x7_2
               ·rw [if_pos c18] at H
                have c18b0 := eq_true c18
                have c18b1 : decide (0 ≤ x7_2) = true := decide_eq_true c18
                clear c18
                by_cases c19 : x7_2 ≤ (x5_1.length : Int)
                ·rw [if_pos c19] at H
                 have c19b0 := eq_true c19
                 have c19b1 : decide (x7_2 ≤ (x5_1.length : Int)) = true := decide_eq_true c19
                 clear c19
                 obtain ⟨y415, hy415⟩ : ∃ y_ : List Int, y_ = (x5_1.drop (x7_2 : Int).toNat) := ⟨_, rfl⟩
                 replace H : (if y412.length + y415.length < 17592186044416 then ((some (y412 ++ y415 : List Int)).bind fun y419 => ((some (x5_1.take (x7_2 : Int).toNat : List Int)).bind fun y422 => (if y422.length < 17592186044416 then ((some (y422 ++ [x6_1] : List Int)).bind fun y425 => (if y425.length + y419.length < 17592186044416 then (spec_l28Order.l0 k2 l0 a1 (y425 ++ y419) (wrap64 (x6_1 + 1))) else (none))) else (none)))) else (none)) = some r := by (try rw [hy415]); exact Hof.Z
                 have Ny415 := Aside0.mk hy415
                 clear hy415
                 by_cases c20 : y412.length + y415.length < 17592186044416
                 ·rw [if_pos c20] at H
                  have LMc20 := Aside0.mk c20
                  clear c20
                  obtain ⟨y419, hy419⟩ : ∃ y_ : List Int, y_ = (y412 ++ y415) := ⟨_, rfl⟩
                  replace H : ((some (x5_1.take (x7_2 : Int).toNat : List Int)).bind fun y422 => (if y422.length < 17592186044416 then ((some (y422 ++ [x6_1] : List Int)).bind fun y425 => (if y425.length + y419.length < 17592186044416 then (spec_l28Order.l0 k2 l0 a1 (y425 ++ y419) (wrap64 (x6_1 + 1))) else (none))) else (none))) = some r := by (try rw [hy419]); exact Hof.Z
                  have Ny419 := Aside0.mk hy419
                  clear hy419
                  have c21b0 := eq_true (Hof.D : x7_2 ≤ (x5_1.length : Int))
                  obtain ⟨y422, hy422⟩ : ∃ y_ : List Int, y_ = (x5_1.take (x7_2 : Int).toNat) := ⟨_, rfl⟩
                  replace H : (if y422.length < 17592186044416 then ((some (y422 ++ [x6_1] : List Int)).bind fun y425 => (if y425.length + y419.length < 17592186044416 then (spec_l28Order.l0 k2 l0 a1 (y425 ++ y419) (wrap64 (x6_1 + 1))) else (none))) else (none)) = some r := by (try rw [hy422]); exact Hof.Z
                  have Ny422 := Aside0.mk hy422
                  clear hy422
                  by_cases c22 : y422.length < 17592186044416
                  ·rw [if_pos c22] at H
                   have LMc22 := Aside0.mk c22
                   clear c22
                   obtain ⟨y425, hy425⟩ : ∃ y_ : List Int, y_ = (y422 ++ [x6_1]) := ⟨_, rfl⟩
                   replace H : (if y425.length + y419.length < 17592186044416 then (spec_l28Order.l0 k2 l0 a1 (y425 ++ y419) (wrap64 (x6_1 + 1))) else (none)) = some r := by (try rw [hy425]); exact Hof.Z
                   have Ny425 := Aside0.mk hy425
                   clear hy425
                   by_cases c23 : y425.length + y419.length < 17592186044416
                   ·rw [if_pos c23] at H
                    have LMc23 := Aside0.mk c23
                    clear c23
                    obtain ⟨y428, hy428⟩ : ∃ y_ : List Int, y_ = (y425 ++ y419) := ⟨_, rfl⟩
                    replace H : (spec_l28Order.l0 k2 l0 a1 y428 (wrap64 (x6_1 + 1))) = some r := by (try rw [hy428]); exact Hof.Z
                    have Ny428 := Aside0.mk hy428
                    clear hy428
                    have H' := Aside0.mk H
                    clear H
                    have p409 : 0 ≤ ((ji10) : Int) := Hof.D
                    have q409 : (ji10) < (x5_1.length : Int) := Hof.D
                    obtain ⟨ad409, e409, hx409_0⟩ := Kd.at_int (Kd.R_reads' HO_5.out).2.2 (ji10) p409 q409
                    cases e409
                    replace p409 := eq_true p409
                    replace q409 := eq_true q409
                    have p410 : 0 ≤ ((rd x5_1 (ji10)) : Int) := Hof.D
                    have q410 : (rd x5_1 (ji10)) < (l0.length : Int) := Hof.D
                    obtain ⟨ad410, e410, hx410_0, hx410_1⟩ := at_T74 HR0.out (rd x5_1 (ji10)) p410 q410
                    cases e410
                    try replace hx410_0 := (HB.out.cell (World.block_lt_of_cell? w _ hx410_0)).trans hx410_0
                    try replace hx410_1 := (HB.out.cell (World.block_lt_of_cell? w _ hx410_1)).trans hx410_1
                    replace p410 := eq_true p410
                    replace q410 := eq_true q410
                    have p411 : 0 ≤ (x6_1 : Int) := Hof.D
                    have q411 : x6_1 < (l0.length : Int) := Hof.D
                    obtain ⟨ad411, e411, hx411_0, hx411_1⟩ := at_T74 HR0.out x6_1 p411 q411
                    obtain rfl : ad410 = ad411 := (by injection e411)
                    try replace hx411_0 := (HB.out.cell (World.block_lt_of_cell? w _ hx411_0)).trans hx411_0
                    try replace hx411_1 := (HB.out.cell (World.block_lt_of_cell? w _ hx411_1)).trans hx411_1
                    replace p411 := eq_true p411
                    replace q411 := eq_true q411
                    go_wp2_with (first | (refine Hof.lt (Kd.int .i64) 3 43 ?_; intro v413 w24 ho25 hb hg_ hnew_; clear hg_ hnew_; (first | rw [← Ny412.out] at ho25 | (simp only [Int.reduceToNat] at ho25; rw [← Ny412.out] at ho25)); have HO414 := Aside0.mk (Kd.R_lower (Kd.R_new' ho25 (Kd.R_lt (Hof.Rw HO_5.out))) (below_size (Hof.Lw HB.out))); replace HO_5 := Aside0.mk (Kd.R_elder' (Hof.Rw HO_5.out) (Kd.R_base ho25) hb); replace HB := Hof.lb HB hb; clear hb ho25; have q26 : (x7_2 : Int) ≤ ((x5_1.length : Int) : Int) := Hof.D; obtain ⟨i026, hi026, _, hsz26, _⟩ := info_parts info3; have hroom26 : x5_1.length ≤ co8 := (Kd.R_reads' HO_5.out).2.1; have hC26 : Kd.C (Kd.int .i64) _ (some ad409) x5_1.length x5_1 := (Kd.R_reads' HO_5.out).2.2; have q026 : (0 : Int) ≤ (x7_2 : Int) := Hof.D; have hcut26 := cut_from (P := Tryz.prog) 28 3 .i64 Tryz.underlying28 hi026 1 hsz26 (some ad409) x5_1.length co8 x7_2 q026 q26; have hr26 := Kd.C_drop (m := (x7_2 : Int).toNat) (c := co8) hC26 (by omega) hroom26; obtain ⟨A26, hA26⟩ : ∃ A1, A1 = (if co8 = (x7_2 : Int).toNat then (some ad409) else ((some ad409) : Option Addr).map (·.add ((x7_2 : Int).toNat * 1))) := ⟨_, rfl⟩; obtain ⟨c26, hc26⟩ : ∃ c1, c1 = co8 - (x7_2 : Int).toNat := ⟨_, rfl⟩; have hy26 : y415.length = x5_1.length - (x7_2 : Int).toNat := (by rw [Ny415.out, List.length_drop] <;> omega); rw [show (x5_1).drop (x7_2 : Int).toNat = y415 from Ny415.out.symm] at hr26; replace hr26 : Kd.C (Kd.int .i64) _ A26 y415.length y415 := (by rw [hA26]; exact hr26); rw [← hy26, ← hA26, ← hc26] at hcut26; have HR418 := Aside0.mk hr26; have HC418 := Aside0.mk (show y415.length ≤ c26 from by rw [hy26, hc26]; exact Nat.sub_le_sub_right hroom26 _); clear hr26 hC26 hroom26 hi026 hsz26 hc26; have KY26 := Aside0.mk hy26; have KA26 := Aside0.mk hA26; clear hy26 hA26; have KL26 := Aside0.mk (show (x7_2 : Int).toNat ≤ x5_1.length from by omega); replace q26 := eq_true q26) | ((with_reducible refine gate_builtin (b := .append) (xs := #[.tmp 43, .tmp 46]) rfl ?_); at_builtin; refine Kd.R_append_rows (Kd.int .i64) (w0 := w) w.heap.size rfl (.tmp 43) (.tmp 46) 28 3 (.int .i64 0) 8 rfl Tryz.underlying28 info3 rfl (by decide) (by omega) v413 y412 y415 _ _ _ (fun k_ => some k_ ≠ (.slice (some ad409) x5_1.length co8 : Value).ownBlock) (fun _ => False) rfl rfl (by exact Hof.Rw (Kd.R_mono HO414.out (fun _ hk => hk.2))) (by repeat (first | exact (by repeat (first | (with_reducible exact HR418.out) | (with_reducible refine Kd.C_alloc ?_ _) | (with_reducible refine Kd.C_drewN ?_ _) | (with_reducible refine Kd.C_drew ?_) | exact HR418.out)) | (with_reducible refine Kd.C_alloc ?_ _) | (with_reducible refine Kd.C_drewN ?_ _) | (with_reducible refine Kd.C_drew ?_))) (fun _ _ h => h) (fun _ h => h.elim) (by exact fun k_ hk => Kd.fresh' (Kd.R_lt (Hof.Rw HO_5.out)) k_ hk) (by exact Hof.Lw HB.out) (by exact below_size (Hof.Lw HB.out)) (by have := LMc20.out; omega) ?_; intro v420 w27 ho hb hg hat; rw [← Ny419.out] at ho; have n0_ := Aside0.mk (Kd.R_after (ok := (fun _ => True)) (Hof.Rw HO_5.out) hg hat); have n1_ := Aside0.mk hb; have n2_ := Aside0.mk ((show Kd.C (Kd.int .i64) w27 A26 y415.length y415 from by rw [Ny415.out, KA26.out]; exact Kd.C_drop (m := (x7_2 : Int).toNat) (c := co8) ((Kd.R_reads' (Kd.R_after (ok := (fun _ => True)) (Hof.Rw HO_5.out) hg hat)).2.2) KL26.out ((Kd.R_reads' (Kd.R_after (ok := (fun _ => True)) (Hof.Rw HO_5.out) hg hat)).2.1))); have n3_ := Aside0.mk ho; clear HO_5; clear HB; clear HR418; clear HO414; have HO_5 := n0_; have HB := n1_; have HR418 := n2_; have HO421 := n3_; clear n0_ n1_ n2_ n3_; clear ho hb hg hat; have q28 : (x7_2 : Int) ≤ ((x5_1.length : Int) : Int) := Hof.D; obtain ⟨i028, hi028, _, hsz28, _⟩ := info_parts info3; have hcut28 := cut_to (P := Tryz.prog) 28 3 .i64 Tryz.underlying28 hi028 (some ad409) x5_1.length co8 x7_2 (Hof.D) q28 (Kd.R_reads' HO_5.out).2.1; have hr28 := Kd.R_take (m := (x7_2 : Int).toNat) HO_5.out (by omega); have hy28 : y422.length = (x7_2 : Int).toNat := (by rw [Ny422.out, List.length_take]; omega); rw [← Ny422.out] at hr28; rw [← hy28] at hr28 hcut28; clear hy28 hi028 hsz28 HO_5; have HO424 := Aside0.mk hr28; clear hr28; replace q28 := eq_true q28) | ((with_reducible refine gate_builtin (b := .append) (xs := #[.tmp 50, .tmp 52]) rfl ?_); at_builtin; refine Kd.R_append (Kd.int .i64) (w0 := w) w.heap.size rfl (.tmp 50) (.tmp 52) 28 3 (.int .i64 0) 8 rfl Tryz.underlying28 info3 rfl (by decide) (by omega) (.slice (some ad409) y422.length co8) y422 x6_1 [.int .i64 x6_1] (fun k_ => some k_ ≠ (v420 : Value).ownBlock) (fun _ => False) rfl rfl (by exact rfl) (fun _ hk => hk.elim) (by exact fun k_ hk => Kd.fresh' (Kd.R_lt (Hof.Rw HO421.out)) k_ hk) (by exact Hof.Rw (Kd.R_mono HO424.out (fun _ hk => hk.2))) (by exact Hof.Lw HB.out) (by exact below_size (Hof.Lw HB.out)) (by have := LMc22.out; omega) ?_; intro v426 w29 ho hb hg hat; rw [← Ny425.out] at ho; have n0_ := Aside0.mk (Kd.R_after (ok := (fun _ => True)) (Hof.Rw (Kd.R_mono HO421.out (fun _ hk => ⟨trivial, (by first | exact hk | (cases Ao31 <;> exact hk) | (cases Ao45 <;> exact hk) | (cases Ao8 <;> exact hk))⟩))) hg hat); have n1_ := Aside0.mk hb; have n2_ := Aside0.mk ho; clear HO421; clear HB; clear HO424; have HO421 := n0_; have HB := n1_; have HO427 := n2_; clear n0_ n1_ n2_; clear ho hb hg hat; obtain ⟨Ao31, co31, eo31⟩ := Kd.R_slice HO421.out; subst eo31) | ((with_reducible refine gate_builtin (b := .append) (xs := #[.tmp 53, .tmp 54]) rfl ?_); at_builtin; refine Kd.R_append_rows (Kd.int .i64) (w0 := w) w.heap.size rfl (.tmp 53) (.tmp 54) 28 3 (.int .i64 0) 8 rfl Tryz.underlying28 info3 rfl (by decide) (by omega) v426 y425 y419 _ _ _ (fun k_ => some k_ ≠ (.slice Ao31 y419.length co31 : Value).ownBlock) (fun _ => False) rfl rfl (by exact Hof.Rw HO427.out) (by repeat (first | exact (Kd.R_reads' HO421.out).2.2 | (with_reducible refine Kd.C_alloc ?_ _) | (with_reducible refine Kd.C_drewN ?_ _) | (with_reducible refine Kd.C_drew ?_))) (fun _ _ h => h) (fun _ h => h.elim) (by exact fun k_ hk => Kd.fresh' (Kd.R_lt (Hof.Rw HO421.out)) k_ hk) (by exact Hof.Lw HB.out) (by exact below_size (Hof.Lw HB.out)) (by have := LMc23.out; omega) ?_; intro v429 w30 ho hb hg hat; rw [← Ny428.out] at ho; have n0_ := Aside0.mk (Kd.R_after (ok := (fun _ => True)) (Hof.Rw HO421.out) hg hat); have n1_ := Aside0.mk hb; have n2_ := Aside0.mk ho; clear HO421; clear HB; clear HO427; have HO421 := n0_; have HB := n1_; have HO430 := n2_; clear n0_ n1_ n2_; clear ho hb hg hat))
                    repeat (go_quiet (first | (refine Hof.lt (Kd.int .i64) 3 43 ?_; intro v413 w24 ho25 hb hg_ hnew_; clear hg_ hnew_; (first | rw [← Ny412.out] at ho25 | (simp only [Int.reduceToNat] at ho25; rw [← Ny412.out] at ho25)); have HO414 := Aside0.mk (Kd.R_lower (Kd.R_new' ho25 (Kd.R_lt (Hof.Rw HO_5.out))) (below_size (Hof.Lw HB.out))); replace HO_5 := Aside0.mk (Kd.R_elder' (Hof.Rw HO_5.out) (Kd.R_base ho25) hb); replace HB := Hof.lb HB hb; clear hb ho25; have q26 : (x7_2 : Int) ≤ ((x5_1.length : Int) : Int) := Hof.D; obtain ⟨i026, hi026, _, hsz26, _⟩ := info_parts info3; have hroom26 : x5_1.length ≤ co8 := (Kd.R_reads' HO_5.out).2.1; have hC26 : Kd.C (Kd.int .i64) _ (some ad409) x5_1.length x5_1 := (Kd.R_reads' HO_5.out).2.2; have q026 : (0 : Int) ≤ (x7_2 : Int) := Hof.D; have hcut26 := cut_from (P := Tryz.prog) 28 3 .i64 Tryz.underlying28 hi026 1 hsz26 (some ad409) x5_1.length co8 x7_2 q026 q26; have hr26 := Kd.C_drop (m := (x7_2 : Int).toNat) (c := co8) hC26 (by omega) hroom26; obtain ⟨A26, hA26⟩ : ∃ A1, A1 = (if co8 = (x7_2 : Int).toNat then (some ad409) else ((some ad409) : Option Addr).map (·.add ((x7_2 : Int).toNat * 1))) := ⟨_, rfl⟩; obtain ⟨c26, hc26⟩ : ∃ c1, c1 = co8 - (x7_2 : Int).toNat := ⟨_, rfl⟩; have hy26 : y415.length = x5_1.length - (x7_2 : Int).toNat := (by rw [Ny415.out, List.length_drop] <;> omega); rw [show (x5_1).drop (x7_2 : Int).toNat = y415 from Ny415.out.symm] at hr26; replace hr26 : Kd.C (Kd.int .i64) _ A26 y415.length y415 := (by rw [hA26]; exact hr26); rw [← hy26, ← hA26, ← hc26] at hcut26; have HR418 := Aside0.mk hr26; have HC418 := Aside0.mk (show y415.length ≤ c26 from by rw [hy26, hc26]; exact Nat.sub_le_sub_right hroom26 _); clear hr26 hC26 hroom26 hi026 hsz26 hc26; have KY26 := Aside0.mk hy26; have KA26 := Aside0.mk hA26; clear hy26 hA26; have KL26 := Aside0.mk (show (x7_2 : Int).toNat ≤ x5_1.length from by omega); replace q26 := eq_true q26) | ((with_reducible refine gate_builtin (b := .append) (xs := #[.tmp 43, .tmp 46]) rfl ?_); at_builtin; refine Kd.R_append_rows (Kd.int .i64) (w0 := w) w.heap.size rfl (.tmp 43) (.tmp 46) 28 3 (.int .i64 0) 8 rfl Tryz.underlying28 info3 rfl (by decide) (by omega) v413 y412 y415 _ _ _ (fun k_ => some k_ ≠ (.slice (some ad409) x5_1.length co8 : Value).ownBlock) (fun _ => False) rfl rfl (by exact Hof.Rw (Kd.R_mono HO414.out (fun _ hk => hk.2))) (by repeat (first | exact (by repeat (first | (with_reducible exact HR418.out) | (with_reducible refine Kd.C_alloc ?_ _) | (with_reducible refine Kd.C_drewN ?_ _) | (with_reducible refine Kd.C_drew ?_) | exact HR418.out)) | (with_reducible refine Kd.C_alloc ?_ _) | (with_reducible refine Kd.C_drewN ?_ _) | (with_reducible refine Kd.C_drew ?_))) (fun _ _ h => h) (fun _ h => h.elim) (by exact fun k_ hk => Kd.fresh' (Kd.R_lt (Hof.Rw HO_5.out)) k_ hk) (by exact Hof.Lw HB.out) (by exact below_size (Hof.Lw HB.out)) (by have := LMc20.out; omega) ?_; intro v420 w27 ho hb hg hat; rw [← Ny419.out] at ho; have n0_ := Aside0.mk (Kd.R_after (ok := (fun _ => True)) (Hof.Rw HO_5.out) hg hat); have n1_ := Aside0.mk hb; have n2_ := Aside0.mk ((show Kd.C (Kd.int .i64) w27 A26 y415.length y415 from by rw [Ny415.out, KA26.out]; exact Kd.C_drop (m := (x7_2 : Int).toNat) (c := co8) ((Kd.R_reads' (Kd.R_after (ok := (fun _ => True)) (Hof.Rw HO_5.out) hg hat)).2.2) KL26.out ((Kd.R_reads' (Kd.R_after (ok := (fun _ => True)) (Hof.Rw HO_5.out) hg hat)).2.1))); have n3_ := Aside0.mk ho; clear HO_5; clear HB; clear HR418; clear HO414; have HO_5 := n0_; have HB := n1_; have HR418 := n2_; have HO421 := n3_; clear n0_ n1_ n2_ n3_; clear ho hb hg hat; have q28 : (x7_2 : Int) ≤ ((x5_1.length : Int) : Int) := Hof.D; obtain ⟨i028, hi028, _, hsz28, _⟩ := info_parts info3; have hcut28 := cut_to (P := Tryz.prog) 28 3 .i64 Tryz.underlying28 hi028 (some ad409) x5_1.length co8 x7_2 (Hof.D) q28 (Kd.R_reads' HO_5.out).2.1; have hr28 := Kd.R_take (m := (x7_2 : Int).toNat) HO_5.out (by omega); have hy28 : y422.length = (x7_2 : Int).toNat := (by rw [Ny422.out, List.length_take]; omega); rw [← Ny422.out] at hr28; rw [← hy28] at hr28 hcut28; clear hy28 hi028 hsz28 HO_5; have HO424 := Aside0.mk hr28; clear hr28; replace q28 := eq_true q28) | ((with_reducible refine gate_builtin (b := .append) (xs := #[.tmp 50, .tmp 52]) rfl ?_); at_builtin; refine Kd.R_append (Kd.int .i64) (w0 := w) w.heap.size rfl (.tmp 50) (.tmp 52) 28 3 (.int .i64 0) 8 rfl Tryz.underlying28 info3 rfl (by decide) (by omega) (.slice (some ad409) y422.length co8) y422 x6_1 [.int .i64 x6_1] (fun k_ => some k_ ≠ (v420 : Value).ownBlock) (fun _ => False) rfl rfl (by exact rfl) (fun _ hk => hk.elim) (by exact fun k_ hk => Kd.fresh' (Kd.R_lt (Hof.Rw HO421.out)) k_ hk) (by exact Hof.Rw (Kd.R_mono HO424.out (fun _ hk => hk.2))) (by exact Hof.Lw HB.out) (by exact below_size (Hof.Lw HB.out)) (by have := LMc22.out; omega) ?_; intro v426 w29 ho hb hg hat; rw [← Ny425.out] at ho; have n0_ := Aside0.mk (Kd.R_after (ok := (fun _ => True)) (Hof.Rw (Kd.R_mono HO421.out (fun _ hk => ⟨trivial, (by first | exact hk | (cases Ao31 <;> exact hk) | (cases Ao45 <;> exact hk) | (cases Ao8 <;> exact hk))⟩))) hg hat); have n1_ := Aside0.mk hb; have n2_ := Aside0.mk ho; clear HO421; clear HB; clear HO424; have HO421 := n0_; have HB := n1_; have HO427 := n2_; clear n0_ n1_ n2_; clear ho hb hg hat; obtain ⟨Ao31, co31, eo31⟩ := Kd.R_slice HO421.out; subst eo31) | ((with_reducible refine gate_builtin (b := .append) (xs := #[.tmp 53, .tmp 54]) rfl ?_); at_builtin; refine Kd.R_append_rows (Kd.int .i64) (w0 := w) w.heap.size rfl (.tmp 53) (.tmp 54) 28 3 (.int .i64 0) 8 rfl Tryz.underlying28 info3 rfl (by decide) (by omega) v426 y425 y419 _ _ _ (fun k_ => some k_ ≠ (.slice Ao31 y419.length co31 : Value).ownBlock) (fun _ => False) rfl rfl (by exact Hof.Rw HO427.out) (by repeat (first | exact (Kd.R_reads' HO421.out).2.2 | (with_reducible refine Kd.C_alloc ?_ _) | (with_reducible refine Kd.C_drewN ?_ _) | (with_reducible refine Kd.C_drew ?_))) (fun _ _ h => h) (fun _ h => h.elim) (by exact fun k_ hk => Kd.fresh' (Kd.R_lt (Hof.Rw HO421.out)) k_ hk) (by exact Hof.Lw HB.out) (by exact below_size (Hof.Lw HB.out)) (by have := LMc23.out; omega) ?_; intro v429 w30 ho hb hg hat; rw [← Ny428.out] at ho; have n0_ := Aside0.mk (Kd.R_after (ok := (fun _ => True)) (Hof.Rw HO421.out) hg hat); have n1_ := Aside0.mk hb; have n2_ := Aside0.mk ho; clear HO421; clear HB; clear HO427; have HO421 := n0_; have HB := n1_; have HO430 := n2_; clear n0_ n1_ n2_; clear ho hb hg hat)); try go_wp2_with (first | (refine Hof.lt (Kd.int .i64) 3 43 ?_; intro v413 w24 ho25 hb hg_ hnew_; clear hg_ hnew_; (first | rw [← Ny412.out] at ho25 | (simp only [Int.reduceToNat] at ho25; rw [← Ny412.out] at ho25)); have HO414 := Aside0.mk (Kd.R_lower (Kd.R_new' ho25 (Kd.R_lt (Hof.Rw HO_5.out))) (below_size (Hof.Lw HB.out))); replace HO_5 := Aside0.mk (Kd.R_elder' (Hof.Rw HO_5.out) (Kd.R_base ho25) hb); replace HB := Hof.lb HB hb; clear hb ho25; have q26 : (x7_2 : Int) ≤ ((x5_1.length : Int) : Int) := Hof.D; obtain ⟨i026, hi026, _, hsz26, _⟩ := info_parts info3; have hroom26 : x5_1.length ≤ co8 := (Kd.R_reads' HO_5.out).2.1; have hC26 : Kd.C (Kd.int .i64) _ (some ad409) x5_1.length x5_1 := (Kd.R_reads' HO_5.out).2.2; have q026 : (0 : Int) ≤ (x7_2 : Int) := Hof.D; have hcut26 := cut_from (P := Tryz.prog) 28 3 .i64 Tryz.underlying28 hi026 1 hsz26 (some ad409) x5_1.length co8 x7_2 q026 q26; have hr26 := Kd.C_drop (m := (x7_2 : Int).toNat) (c := co8) hC26 (by omega) hroom26; obtain ⟨A26, hA26⟩ : ∃ A1, A1 = (if co8 = (x7_2 : Int).toNat then (some ad409) else ((some ad409) : Option Addr).map (·.add ((x7_2 : Int).toNat * 1))) := ⟨_, rfl⟩; obtain ⟨c26, hc26⟩ : ∃ c1, c1 = co8 - (x7_2 : Int).toNat := ⟨_, rfl⟩; have hy26 : y415.length = x5_1.length - (x7_2 : Int).toNat := (by rw [Ny415.out, List.length_drop] <;> omega); rw [show (x5_1).drop (x7_2 : Int).toNat = y415 from Ny415.out.symm] at hr26; replace hr26 : Kd.C (Kd.int .i64) _ A26 y415.length y415 := (by rw [hA26]; exact hr26); rw [← hy26, ← hA26, ← hc26] at hcut26; have HR418 := Aside0.mk hr26; have HC418 := Aside0.mk (show y415.length ≤ c26 from by rw [hy26, hc26]; exact Nat.sub_le_sub_right hroom26 _); clear hr26 hC26 hroom26 hi026 hsz26 hc26; have KY26 := Aside0.mk hy26; have KA26 := Aside0.mk hA26; clear hy26 hA26; have KL26 := Aside0.mk (show (x7_2 : Int).toNat ≤ x5_1.length from by omega); replace q26 := eq_true q26) | ((with_reducible refine gate_builtin (b := .append) (xs := #[.tmp 43, .tmp 46]) rfl ?_); at_builtin; refine Kd.R_append_rows (Kd.int .i64) (w0 := w) w.heap.size rfl (.tmp 43) (.tmp 46) 28 3 (.int .i64 0) 8 rfl Tryz.underlying28 info3 rfl (by decide) (by omega) v413 y412 y415 _ _ _ (fun k_ => some k_ ≠ (.slice (some ad409) x5_1.length co8 : Value).ownBlock) (fun _ => False) rfl rfl (by exact Hof.Rw (Kd.R_mono HO414.out (fun _ hk => hk.2))) (by repeat (first | exact (by repeat (first | (with_reducible exact HR418.out) | (with_reducible refine Kd.C_alloc ?_ _) | (with_reducible refine Kd.C_drewN ?_ _) | (with_reducible refine Kd.C_drew ?_) | exact HR418.out)) | (with_reducible refine Kd.C_alloc ?_ _) | (with_reducible refine Kd.C_drewN ?_ _) | (with_reducible refine Kd.C_drew ?_))) (fun _ _ h => h) (fun _ h => h.elim) (by exact fun k_ hk => Kd.fresh' (Kd.R_lt (Hof.Rw HO_5.out)) k_ hk) (by exact Hof.Lw HB.out) (by exact below_size (Hof.Lw HB.out)) (by have := LMc20.out; omega) ?_; intro v420 w27 ho hb hg hat; rw [← Ny419.out] at ho; have n0_ := Aside0.mk (Kd.R_after (ok := (fun _ => True)) (Hof.Rw HO_5.out) hg hat); have n1_ := Aside0.mk hb; have n2_ := Aside0.mk ((show Kd.C (Kd.int .i64) w27 A26 y415.length y415 from by rw [Ny415.out, KA26.out]; exact Kd.C_drop (m := (x7_2 : Int).toNat) (c := co8) ((Kd.R_reads' (Kd.R_after (ok := (fun _ => True)) (Hof.Rw HO_5.out) hg hat)).2.2) KL26.out ((Kd.R_reads' (Kd.R_after (ok := (fun _ => True)) (Hof.Rw HO_5.out) hg hat)).2.1))); have n3_ := Aside0.mk ho; clear HO_5; clear HB; clear HR418; clear HO414; have HO_5 := n0_; have HB := n1_; have HR418 := n2_; have HO421 := n3_; clear n0_ n1_ n2_ n3_; clear ho hb hg hat; have q28 : (x7_2 : Int) ≤ ((x5_1.length : Int) : Int) := Hof.D; obtain ⟨i028, hi028, _, hsz28, _⟩ := info_parts info3; have hcut28 := cut_to (P := Tryz.prog) 28 3 .i64 Tryz.underlying28 hi028 (some ad409) x5_1.length co8 x7_2 (Hof.D) q28 (Kd.R_reads' HO_5.out).2.1; have hr28 := Kd.R_take (m := (x7_2 : Int).toNat) HO_5.out (by omega); have hy28 : y422.length = (x7_2 : Int).toNat := (by rw [Ny422.out, List.length_take]; omega); rw [← Ny422.out] at hr28; rw [← hy28] at hr28 hcut28; clear hy28 hi028 hsz28 HO_5; have HO424 := Aside0.mk hr28; clear hr28; replace q28 := eq_true q28) | ((with_reducible refine gate_builtin (b := .append) (xs := #[.tmp 50, .tmp 52]) rfl ?_); at_builtin; refine Kd.R_append (Kd.int .i64) (w0 := w) w.heap.size rfl (.tmp 50) (.tmp 52) 28 3 (.int .i64 0) 8 rfl Tryz.underlying28 info3 rfl (by decide) (by omega) (.slice (some ad409) y422.length co8) y422 x6_1 [.int .i64 x6_1] (fun k_ => some k_ ≠ (v420 : Value).ownBlock) (fun _ => False) rfl rfl (by exact rfl) (fun _ hk => hk.elim) (by exact fun k_ hk => Kd.fresh' (Kd.R_lt (Hof.Rw HO421.out)) k_ hk) (by exact Hof.Rw (Kd.R_mono HO424.out (fun _ hk => hk.2))) (by exact Hof.Lw HB.out) (by exact below_size (Hof.Lw HB.out)) (by have := LMc22.out; omega) ?_; intro v426 w29 ho hb hg hat; rw [← Ny425.out] at ho; have n0_ := Aside0.mk (Kd.R_after (ok := (fun _ => True)) (Hof.Rw (Kd.R_mono HO421.out (fun _ hk => ⟨trivial, (by first | exact hk | (cases Ao31 <;> exact hk) | (cases Ao45 <;> exact hk) | (cases Ao8 <;> exact hk))⟩))) hg hat); have n1_ := Aside0.mk hb; have n2_ := Aside0.mk ho; clear HO421; clear HB; clear HO424; have HO421 := n0_; have HB := n1_; have HO427 := n2_; clear n0_ n1_ n2_; clear ho hb hg hat; obtain ⟨Ao31, co31, eo31⟩ := Kd.R_slice HO421.out; subst eo31) | ((with_reducible refine gate_builtin (b := .append) (xs := #[.tmp 53, .tmp 54]) rfl ?_); at_builtin; refine Kd.R_append_rows (Kd.int .i64) (w0 := w) w.heap.size rfl (.tmp 53) (.tmp 54) 28 3 (.int .i64 0) 8 rfl Tryz.underlying28 info3 rfl (by decide) (by omega) v426 y425 y419 _ _ _ (fun k_ => some k_ ≠ (.slice Ao31 y419.length co31 : Value).ownBlock) (fun _ => False) rfl rfl (by exact Hof.Rw HO427.out) (by repeat (first | exact (Kd.R_reads' HO421.out).2.2 | (with_reducible refine Kd.C_alloc ?_ _) | (with_reducible refine Kd.C_drewN ?_ _) | (with_reducible refine Kd.C_drew ?_))) (fun _ _ h => h) (fun _ h => h.elim) (by exact fun k_ hk => Kd.fresh' (Kd.R_lt (Hof.Rw HO421.out)) k_ hk) (by exact Hof.Lw HB.out) (by exact below_size (Hof.Lw HB.out)) (by have := LMc23.out; omega) ?_; intro v429 w30 ho hb hg hat; rw [← Ny428.out] at ho; have n0_ := Aside0.mk (Kd.R_after (ok := (fun _ => True)) (Hof.Rw HO421.out) hg hat); have n1_ := Aside0.mk hb; have n2_ := Aside0.mk ho; clear HO421; clear HB; clear HO427; have HO421 := n0_; have HB := n1_; have HO430 := n2_; clear n0_ n1_ n2_; clear ho hb hg hat)))
                    go_roundg k2
                    case measure => have := HK1.out; have := HK2.out; omega
                    case rel => exact ⟨(y428), (wrap64 (x6_1 + 1)), Hof.F, H', ⟨by have := HK1.out; have := HK2.out; omega⟩, ⟨Hof.Rw (Kd.R_mono HO430.out (fun _ hk => trivial))⟩, ⟨Hof.Lw HB.out⟩⟩
                   ·rw [if_neg c23] at H
                    exact absurd H (by simp)
                  ·rw [if_neg c22] at H
                   exact absurd H (by simp)
                 ·rw [if_neg c20] at H
                  exact absurd H (by simp)
                ·rw [if_neg c19] at H
                 exact absurd H (by simp)
               ·rw [if_neg c18] at H
                exact absurd H (by simp)
             ·rw [if_neg c16] at H
              exact absurd H (by simp)
            ·rw [if_neg c15] at H
             exact absurd H (by simp)
           ·rw [if_neg c14] at H
            exact absurd H (by simp)
          ·rw [if_neg c13] at H
           exact absurd H (by simp)
         ·rw [if_neg c12] at H
          exact absurd H (by simp)
        ·rw [if_neg c11] at H
         exact absurd H (by simp)
       ·rw [if_neg c9] at H
        have c9b0 : decide (0 < x7_2) = false := decide_eq_false c9
        clear c9
        obtain ⟨y431, hy431⟩ : ∃ y_ : List Int, y_ = (([] : List Int)) := ⟨_, rfl⟩
        replace H : (if 0 ≤ x7_2 then (if x7_2 ≤ (x5_1.length : Int) then ((some (x5_1.drop (x7_2 : Int).toNat : List Int)).bind fun y434 => (if y431.length + y434.length < 17592186044416 then ((some (y431 ++ y434 : List Int)).bind fun y438 => ((some (x5_1.take (x7_2 : Int).toNat : List Int)).bind fun y441 => (if y441.length < 17592186044416 then ((some (y441 ++ [x6_1] : List Int)).bind fun y444 => (if y444.length + y438.length < 17592186044416 then (spec_l28Order.l0 k2 l0 a1 (y444 ++ y438) (wrap64 (x6_1 + 1))) else (none))) else (none)))) else (none))) else (none)) else (none)) = some r := by (try rw [hy431]); exact Hof.Z
        have Ny431 := Aside0.mk hy431
        clear hy431
        by_cases c32 : 0 ≤ x7_2
        ·rw [if_pos c32] at H
         have c32b0 := eq_true c32
         have c32b1 : decide (0 ≤ x7_2) = true := decide_eq_true c32
         clear c32
         by_cases c33 : x7_2 ≤ (x5_1.length : Int)
         ·rw [if_pos c33] at H
          have c33b0 := eq_true c33
          have c33b1 : decide (x7_2 ≤ (x5_1.length : Int)) = true := decide_eq_true c33
          clear c33
          obtain ⟨y434, hy434⟩ : ∃ y_ : List Int, y_ = (x5_1.drop (x7_2 : Int).toNat) := ⟨_, rfl⟩
          replace H : (if y431.length + y434.length < 17592186044416 then ((some (y431 ++ y434 : List Int)).bind fun y438 => ((some (x5_1.take (x7_2 : Int).toNat : List Int)).bind fun y441 => (if y441.length < 17592186044416 then ((some (y441 ++ [x6_1] : List Int)).bind fun y444 => (if y444.length + y438.length < 17592186044416 then (spec_l28Order.l0 k2 l0 a1 (y444 ++ y438) (wrap64 (x6_1 + 1))) else (none))) else (none)))) else (none)) = some r := by (try rw [hy434]); exact Hof.Z
          have Ny434 := Aside0.mk hy434
          clear hy434
          by_cases c34 : y431.length + y434.length < 17592186044416
          ·rw [if_pos c34] at H
           have LMc34 := Aside0.mk c34
           clear c34
           obtain ⟨y438, hy438⟩ : ∃ y_ : List Int, y_ = (y431 ++ y434) := ⟨_, rfl⟩
           replace H : ((some (x5_1.take (x7_2 : Int).toNat : List Int)).bind fun y441 => (if y441.length < 17592186044416 then ((some (y441 ++ [x6_1] : List Int)).bind fun y444 => (if y444.length + y438.length < 17592186044416 then (spec_l28Order.l0 k2 l0 a1 (y444 ++ y438) (wrap64 (x6_1 + 1))) else (none))) else (none))) = some r := by (try rw [hy438]); exact Hof.Z
           have Ny438 := Aside0.mk hy438
           clear hy438
           have c35b0 := eq_true (Hof.D : x7_2 ≤ (x5_1.length : Int))
           obtain ⟨y441, hy441⟩ : ∃ y_ : List Int, y_ = (x5_1.take (x7_2 : Int).toNat) := ⟨_, rfl⟩
           replace H : (if y441.length < 17592186044416 then ((some (y441 ++ [x6_1] : List Int)).bind fun y444 => (if y444.length + y438.length < 17592186044416 then (spec_l28Order.l0 k2 l0 a1 (y444 ++ y438) (wrap64 (x6_1 + 1))) else (none))) else (none)) = some r := by (try rw [hy441]); exact Hof.Z
           have Ny441 := Aside0.mk hy441
           clear hy441
           by_cases c36 : y441.length < 17592186044416
           ·rw [if_pos c36] at H
            have LMc36 := Aside0.mk c36
            clear c36
            obtain ⟨y444, hy444⟩ : ∃ y_ : List Int, y_ = (y441 ++ [x6_1]) := ⟨_, rfl⟩
            replace H : (if y444.length + y438.length < 17592186044416 then (spec_l28Order.l0 k2 l0 a1 (y444 ++ y438) (wrap64 (x6_1 + 1))) else (none)) = some r := by (try rw [hy444]); exact Hof.Z
            have Ny444 := Aside0.mk hy444
            clear hy444
            by_cases c37 : y444.length + y438.length < 17592186044416
            ·rw [if_pos c37] at H
             have LMc37 := Aside0.mk c37
             clear c37
             obtain ⟨y447, hy447⟩ : ∃ y_ : List Int, y_ = (y444 ++ y438) := ⟨_, rfl⟩
             replace H : (spec_l28Order.l0 k2 l0 a1 y447 (wrap64 (x6_1 + 1))) = some r := by (try rw [hy447]); exact Hof.Z
             have Ny447 := Aside0.mk hy447
             clear hy447
             have H' := Aside0.mk H
             clear H
             go_wp2_with (first | (refine Hof.lt (Kd.int .i64) 3 43 ?_; intro v432 w38 ho39 hb hg_ hnew_; clear hg_ hnew_; (first | rw [← Ny431.out] at ho39 | (simp only [Int.reduceToNat] at ho39; rw [← Ny431.out] at ho39)); have HO433 := Aside0.mk (Kd.R_lower (Kd.R_new' ho39 (Kd.R_lt (Hof.Rw HO_5.out))) (below_size (Hof.Lw HB.out))); replace HO_5 := Aside0.mk (Kd.R_elder' (Hof.Rw HO_5.out) (Kd.R_base ho39) hb); replace HB := Hof.lb HB hb; clear hb ho39; have q40 : (x7_2 : Int) ≤ ((x5_1.length : Int) : Int) := Hof.D; obtain ⟨i040, hi040, _, hsz40, _⟩ := info_parts info3; have hroom40 : x5_1.length ≤ co8 := (Kd.R_reads' HO_5.out).2.1; have hC40 : Kd.C (Kd.int .i64) _ Ao8 x5_1.length x5_1 := (Kd.R_reads' HO_5.out).2.2; have q040 : (0 : Int) ≤ (x7_2 : Int) := Hof.D; have hcut40 := cut_from (P := Tryz.prog) 28 3 .i64 Tryz.underlying28 hi040 1 hsz40 Ao8 x5_1.length co8 x7_2 q040 q40; have hr40 := Kd.C_drop (m := (x7_2 : Int).toNat) (c := co8) hC40 (by omega) hroom40; obtain ⟨A40, hA40⟩ : ∃ A1, A1 = (if co8 = (x7_2 : Int).toNat then Ao8 else (Ao8 : Option Addr).map (·.add ((x7_2 : Int).toNat * 1))) := ⟨_, rfl⟩; obtain ⟨c40, hc40⟩ : ∃ c1, c1 = co8 - (x7_2 : Int).toNat := ⟨_, rfl⟩; have hy40 : y434.length = x5_1.length - (x7_2 : Int).toNat := (by rw [Ny434.out, List.length_drop] <;> omega); rw [show (x5_1).drop (x7_2 : Int).toNat = y434 from Ny434.out.symm] at hr40; replace hr40 : Kd.C (Kd.int .i64) _ A40 y434.length y434 := (by rw [hA40]; exact hr40); rw [← hy40, ← hA40, ← hc40] at hcut40; have HR437 := Aside0.mk hr40; have HC437 := Aside0.mk (show y434.length ≤ c40 from by rw [hy40, hc40]; exact Nat.sub_le_sub_right hroom40 _); clear hr40 hC40 hroom40 hi040 hsz40 hc40; have KY40 := Aside0.mk hy40; have KA40 := Aside0.mk hA40; clear hy40 hA40; have KL40 := Aside0.mk (show (x7_2 : Int).toNat ≤ x5_1.length from by omega); replace q40 := eq_true q40) | ((with_reducible refine gate_builtin (b := .append) (xs := #[.tmp 43, .tmp 46]) rfl ?_); at_builtin; refine Kd.R_append_rows (Kd.int .i64) (w0 := w) w.heap.size rfl (.tmp 43) (.tmp 46) 28 3 (.int .i64 0) 8 rfl Tryz.underlying28 info3 rfl (by decide) (by omega) v432 y431 y434 _ _ _ (fun k_ => some k_ ≠ (.slice Ao8 x5_1.length co8 : Value).ownBlock) (fun _ => False) rfl rfl (by exact Hof.Rw (Kd.R_mono HO433.out (fun _ hk => hk.2))) (by repeat (first | exact (by repeat (first | (with_reducible exact HR437.out) | (with_reducible refine Kd.C_alloc ?_ _) | (with_reducible refine Kd.C_drewN ?_ _) | (with_reducible refine Kd.C_drew ?_) | exact HR437.out)) | (with_reducible refine Kd.C_alloc ?_ _) | (with_reducible refine Kd.C_drewN ?_ _) | (with_reducible refine Kd.C_drew ?_))) (fun _ _ h => h) (fun _ h => h.elim) (by exact fun k_ hk => Kd.fresh' (Kd.R_lt (Hof.Rw HO_5.out)) k_ hk) (by exact Hof.Lw HB.out) (by exact below_size (Hof.Lw HB.out)) (by have := LMc34.out; omega) ?_; intro v439 w41 ho hb hg hat; rw [← Ny438.out] at ho; have n0_ := Aside0.mk (Kd.R_after (ok := (fun _ => True)) (Hof.Rw HO_5.out) hg hat); have n1_ := Aside0.mk hb; have n2_ := Aside0.mk ((show Kd.C (Kd.int .i64) w41 A40 y434.length y434 from by rw [Ny434.out, KA40.out]; exact Kd.C_drop (m := (x7_2 : Int).toNat) (c := co8) ((Kd.R_reads' (Kd.R_after (ok := (fun _ => True)) (Hof.Rw HO_5.out) hg hat)).2.2) KL40.out ((Kd.R_reads' (Kd.R_after (ok := (fun _ => True)) (Hof.Rw HO_5.out) hg hat)).2.1))); have n3_ := Aside0.mk ho; clear HO_5; clear HB; clear HR437; clear HO433; have HO_5 := n0_; have HB := n1_; have HR437 := n2_; have HO440 := n3_; clear n0_ n1_ n2_ n3_; clear ho hb hg hat; have q42 : (x7_2 : Int) ≤ ((x5_1.length : Int) : Int) := Hof.D; obtain ⟨i042, hi042, _, hsz42, _⟩ := info_parts info3; have hcut42 := cut_to (P := Tryz.prog) 28 3 .i64 Tryz.underlying28 hi042 Ao8 x5_1.length co8 x7_2 (Hof.D) q42 (Kd.R_reads' HO_5.out).2.1; have hr42 := Kd.R_take (m := (x7_2 : Int).toNat) HO_5.out (by omega); have hy42 : y441.length = (x7_2 : Int).toNat := (by rw [Ny441.out, List.length_take]; omega); rw [← Ny441.out] at hr42; rw [← hy42] at hr42 hcut42; clear hy42 hi042 hsz42 HO_5; have HO443 := Aside0.mk hr42; clear hr42; replace q42 := eq_true q42) | ((with_reducible refine gate_builtin (b := .append) (xs := #[.tmp 50, .tmp 52]) rfl ?_); at_builtin; refine Kd.R_append (Kd.int .i64) (w0 := w) w.heap.size rfl (.tmp 50) (.tmp 52) 28 3 (.int .i64 0) 8 rfl Tryz.underlying28 info3 rfl (by decide) (by omega) (.slice Ao8 y441.length co8) y441 x6_1 [.int .i64 x6_1] (fun k_ => some k_ ≠ (v439 : Value).ownBlock) (fun _ => False) rfl rfl (by exact rfl) (fun _ hk => hk.elim) (by exact fun k_ hk => Kd.fresh' (Kd.R_lt (Hof.Rw HO440.out)) k_ hk) (by exact Hof.Rw (Kd.R_mono HO443.out (fun _ hk => hk.2))) (by exact Hof.Lw HB.out) (by exact below_size (Hof.Lw HB.out)) (by have := LMc36.out; omega) ?_; intro v445 w43 ho hb hg hat; rw [← Ny444.out] at ho; have n0_ := Aside0.mk (Kd.R_after (ok := (fun _ => True)) (Hof.Rw (Kd.R_mono HO440.out (fun _ hk => ⟨trivial, (by first | exact hk | (cases Ao31 <;> exact hk) | (cases Ao45 <;> exact hk) | (cases Ao8 <;> exact hk))⟩))) hg hat); have n1_ := Aside0.mk hb; have n2_ := Aside0.mk ho; clear HO440; clear HB; clear HO443; have HO440 := n0_; have HB := n1_; have HO446 := n2_; clear n0_ n1_ n2_; clear ho hb hg hat; obtain ⟨Ao45, co45, eo45⟩ := Kd.R_slice HO440.out; subst eo45) | ((with_reducible refine gate_builtin (b := .append) (xs := #[.tmp 53, .tmp 54]) rfl ?_); at_builtin; refine Kd.R_append_rows (Kd.int .i64) (w0 := w) w.heap.size rfl (.tmp 53) (.tmp 54) 28 3 (.int .i64 0) 8 rfl Tryz.underlying28 info3 rfl (by decide) (by omega) v445 y444 y438 _ _ _ (fun k_ => some k_ ≠ (.slice Ao45 y438.length co45 : Value).ownBlock) (fun _ => False) rfl rfl (by exact Hof.Rw HO446.out) (by repeat (first | exact (Kd.R_reads' HO440.out).2.2 | (with_reducible refine Kd.C_alloc ?_ _) | (with_reducible refine Kd.C_drewN ?_ _) | (with_reducible refine Kd.C_drew ?_))) (fun _ _ h => h) (fun _ h => h.elim) (by exact fun k_ hk => Kd.fresh' (Kd.R_lt (Hof.Rw HO440.out)) k_ hk) (by exact Hof.Lw HB.out) (by exact below_size (Hof.Lw HB.out)) (by have := LMc37.out; omega) ?_; intro v448 w44 ho hb hg hat; rw [← Ny447.out] at ho; have n0_ := Aside0.mk (Kd.R_after (ok := (fun _ => True)) (Hof.Rw HO440.out) hg hat); have n1_ := Aside0.mk hb; have n2_ := Aside0.mk ho; clear HO440; clear HB; clear HO446; have HO440 := n0_; have HB := n1_; have HO449 := n2_; clear n0_ n1_ n2_; clear ho hb hg hat))
             repeat (go_quiet (first | (refine Hof.lt (Kd.int .i64) 3 43 ?_; intro v432 w38 ho39 hb hg_ hnew_; clear hg_ hnew_; (first | rw [← Ny431.out] at ho39 | (simp only [Int.reduceToNat] at ho39; rw [← Ny431.out] at ho39)); have HO433 := Aside0.mk (Kd.R_lower (Kd.R_new' ho39 (Kd.R_lt (Hof.Rw HO_5.out))) (below_size (Hof.Lw HB.out))); replace HO_5 := Aside0.mk (Kd.R_elder' (Hof.Rw HO_5.out) (Kd.R_base ho39) hb); replace HB := Hof.lb HB hb; clear hb ho39; have q40 : (x7_2 : Int) ≤ ((x5_1.length : Int) : Int) := Hof.D; obtain ⟨i040, hi040, _, hsz40, _⟩ := info_parts info3; have hroom40 : x5_1.length ≤ co8 := (Kd.R_reads' HO_5.out).2.1; have hC40 : Kd.C (Kd.int .i64) _ Ao8 x5_1.length x5_1 := (Kd.R_reads' HO_5.out).2.2; have q040 : (0 : Int) ≤ (x7_2 : Int) := Hof.D; have hcut40 := cut_from (P := Tryz.prog) 28 3 .i64 Tryz.underlying28 hi040 1 hsz40 Ao8 x5_1.length co8 x7_2 q040 q40; have hr40 := Kd.C_drop (m := (x7_2 : Int).toNat) (c := co8) hC40 (by omega) hroom40; obtain ⟨A40, hA40⟩ : ∃ A1, A1 = (if co8 = (x7_2 : Int).toNat then Ao8 else (Ao8 : Option Addr).map (·.add ((x7_2 : Int).toNat * 1))) := ⟨_, rfl⟩; obtain ⟨c40, hc40⟩ : ∃ c1, c1 = co8 - (x7_2 : Int).toNat := ⟨_, rfl⟩; have hy40 : y434.length = x5_1.length - (x7_2 : Int).toNat := (by rw [Ny434.out, List.length_drop] <;> omega); rw [show (x5_1).drop (x7_2 : Int).toNat = y434 from Ny434.out.symm] at hr40; replace hr40 : Kd.C (Kd.int .i64) _ A40 y434.length y434 := (by rw [hA40]; exact hr40); rw [← hy40, ← hA40, ← hc40] at hcut40; have HR437 := Aside0.mk hr40; have HC437 := Aside0.mk (show y434.length ≤ c40 from by rw [hy40, hc40]; exact Nat.sub_le_sub_right hroom40 _); clear hr40 hC40 hroom40 hi040 hsz40 hc40; have KY40 := Aside0.mk hy40; have KA40 := Aside0.mk hA40; clear hy40 hA40; have KL40 := Aside0.mk (show (x7_2 : Int).toNat ≤ x5_1.length from by omega); replace q40 := eq_true q40) | ((with_reducible refine gate_builtin (b := .append) (xs := #[.tmp 43, .tmp 46]) rfl ?_); at_builtin; refine Kd.R_append_rows (Kd.int .i64) (w0 := w) w.heap.size rfl (.tmp 43) (.tmp 46) 28 3 (.int .i64 0) 8 rfl Tryz.underlying28 info3 rfl (by decide) (by omega) v432 y431 y434 _ _ _ (fun k_ => some k_ ≠ (.slice Ao8 x5_1.length co8 : Value).ownBlock) (fun _ => False) rfl rfl (by exact Hof.Rw (Kd.R_mono HO433.out (fun _ hk => hk.2))) (by repeat (first | exact (by repeat (first | (with_reducible exact HR437.out) | (with_reducible refine Kd.C_alloc ?_ _) | (with_reducible refine Kd.C_drewN ?_ _) | (with_reducible refine Kd.C_drew ?_) | exact HR437.out)) | (with_reducible refine Kd.C_alloc ?_ _) | (with_reducible refine Kd.C_drewN ?_ _) | (with_reducible refine Kd.C_drew ?_))) (fun _ _ h => h) (fun _ h => h.elim) (by exact fun k_ hk => Kd.fresh' (Kd.R_lt (Hof.Rw HO_5.out)) k_ hk) (by exact Hof.Lw HB.out) (by exact below_size (Hof.Lw HB.out)) (by have := LMc34.out; omega) ?_; intro v439 w41 ho hb hg hat; rw [← Ny438.out] at ho; have n0_ := Aside0.mk (Kd.R_after (ok := (fun _ => True)) (Hof.Rw HO_5.out) hg hat); have n1_ := Aside0.mk hb; have n2_ := Aside0.mk ((show Kd.C (Kd.int .i64) w41 A40 y434.length y434 from by rw [Ny434.out, KA40.out]; exact Kd.C_drop (m := (x7_2 : Int).toNat) (c := co8) ((Kd.R_reads' (Kd.R_after (ok := (fun _ => True)) (Hof.Rw HO_5.out) hg hat)).2.2) KL40.out ((Kd.R_reads' (Kd.R_after (ok := (fun _ => True)) (Hof.Rw HO_5.out) hg hat)).2.1))); have n3_ := Aside0.mk ho; clear HO_5; clear HB; clear HR437; clear HO433; have HO_5 := n0_; have HB := n1_; have HR437 := n2_; have HO440 := n3_; clear n0_ n1_ n2_ n3_; clear ho hb hg hat; have q42 : (x7_2 : Int) ≤ ((x5_1.length : Int) : Int) := Hof.D; obtain ⟨i042, hi042, _, hsz42, _⟩ := info_parts info3; have hcut42 := cut_to (P := Tryz.prog) 28 3 .i64 Tryz.underlying28 hi042 Ao8 x5_1.length co8 x7_2 (Hof.D) q42 (Kd.R_reads' HO_5.out).2.1; have hr42 := Kd.R_take (m := (x7_2 : Int).toNat) HO_5.out (by omega); have hy42 : y441.length = (x7_2 : Int).toNat := (by rw [Ny441.out, List.length_take]; omega); rw [← Ny441.out] at hr42; rw [← hy42] at hr42 hcut42; clear hy42 hi042 hsz42 HO_5; have HO443 := Aside0.mk hr42; clear hr42; replace q42 := eq_true q42) | ((with_reducible refine gate_builtin (b := .append) (xs := #[.tmp 50, .tmp 52]) rfl ?_); at_builtin; refine Kd.R_append (Kd.int .i64) (w0 := w) w.heap.size rfl (.tmp 50) (.tmp 52) 28 3 (.int .i64 0) 8 rfl Tryz.underlying28 info3 rfl (by decide) (by omega) (.slice Ao8 y441.length co8) y441 x6_1 [.int .i64 x6_1] (fun k_ => some k_ ≠ (v439 : Value).ownBlock) (fun _ => False) rfl rfl (by exact rfl) (fun _ hk => hk.elim) (by exact fun k_ hk => Kd.fresh' (Kd.R_lt (Hof.Rw HO440.out)) k_ hk) (by exact Hof.Rw (Kd.R_mono HO443.out (fun _ hk => hk.2))) (by exact Hof.Lw HB.out) (by exact below_size (Hof.Lw HB.out)) (by have := LMc36.out; omega) ?_; intro v445 w43 ho hb hg hat; rw [← Ny444.out] at ho; have n0_ := Aside0.mk (Kd.R_after (ok := (fun _ => True)) (Hof.Rw (Kd.R_mono HO440.out (fun _ hk => ⟨trivial, (by first | exact hk | (cases Ao31 <;> exact hk) | (cases Ao45 <;> exact hk) | (cases Ao8 <;> exact hk))⟩))) hg hat); have n1_ := Aside0.mk hb; have n2_ := Aside0.mk ho; clear HO440; clear HB; clear HO443; have HO440 := n0_; have HB := n1_; have HO446 := n2_; clear n0_ n1_ n2_; clear ho hb hg hat; obtain ⟨Ao45, co45, eo45⟩ := Kd.R_slice HO440.out; subst eo45) | ((with_reducible refine gate_builtin (b := .append) (xs := #[.tmp 53, .tmp 54]) rfl ?_); at_builtin; refine Kd.R_append_rows (Kd.int .i64) (w0 := w) w.heap.size rfl (.tmp 53) (.tmp 54) 28 3 (.int .i64 0) 8 rfl Tryz.underlying28 info3 rfl (by decide) (by omega) v445 y444 y438 _ _ _ (fun k_ => some k_ ≠ (.slice Ao45 y438.length co45 : Value).ownBlock) (fun _ => False) rfl rfl (by exact Hof.Rw HO446.out) (by repeat (first | exact (Kd.R_reads' HO440.out).2.2 | (with_reducible refine Kd.C_alloc ?_ _) | (with_reducible refine Kd.C_drewN ?_ _) | (with_reducible refine Kd.C_drew ?_))) (fun _ _ h => h) (fun _ h => h.elim) (by exact fun k_ hk => Kd.fresh' (Kd.R_lt (Hof.Rw HO440.out)) k_ hk) (by exact Hof.Lw HB.out) (by exact below_size (Hof.Lw HB.out)) (by have := LMc37.out; omega) ?_; intro v448 w44 ho hb hg hat; rw [← Ny447.out] at ho; have n0_ := Aside0.mk (Kd.R_after (ok := (fun _ => True)) (Hof.Rw HO440.out) hg hat); have n1_ := Aside0.mk hb; have n2_ := Aside0.mk ho; clear HO440; clear HB; clear HO446; have HO440 := n0_; have HB := n1_; have HO449 := n2_; clear n0_ n1_ n2_; clear ho hb hg hat)); try go_wp2_with (first | (refine Hof.lt (Kd.int .i64) 3 43 ?_; intro v432 w38 ho39 hb hg_ hnew_; clear hg_ hnew_; (first | rw [← Ny431.out] at ho39 | (simp only [Int.reduceToNat] at ho39; rw [← Ny431.out] at ho39)); have HO433 := Aside0.mk (Kd.R_lower (Kd.R_new' ho39 (Kd.R_lt (Hof.Rw HO_5.out))) (below_size (Hof.Lw HB.out))); replace HO_5 := Aside0.mk (Kd.R_elder' (Hof.Rw HO_5.out) (Kd.R_base ho39) hb); replace HB := Hof.lb HB hb; clear hb ho39; have q40 : (x7_2 : Int) ≤ ((x5_1.length : Int) : Int) := Hof.D; obtain ⟨i040, hi040, _, hsz40, _⟩ := info_parts info3; have hroom40 : x5_1.length ≤ co8 := (Kd.R_reads' HO_5.out).2.1; have hC40 : Kd.C (Kd.int .i64) _ Ao8 x5_1.length x5_1 := (Kd.R_reads' HO_5.out).2.2; have q040 : (0 : Int) ≤ (x7_2 : Int) := Hof.D; have hcut40 := cut_from (P := Tryz.prog) 28 3 .i64 Tryz.underlying28 hi040 1 hsz40 Ao8 x5_1.length co8 x7_2 q040 q40; have hr40 := Kd.C_drop (m := (x7_2 : Int).toNat) (c := co8) hC40 (by omega) hroom40; obtain ⟨A40, hA40⟩ : ∃ A1, A1 = (if co8 = (x7_2 : Int).toNat then Ao8 else (Ao8 : Option Addr).map (·.add ((x7_2 : Int).toNat * 1))) := ⟨_, rfl⟩; obtain ⟨c40, hc40⟩ : ∃ c1, c1 = co8 - (x7_2 : Int).toNat := ⟨_, rfl⟩; have hy40 : y434.length = x5_1.length - (x7_2 : Int).toNat := (by rw [Ny434.out, List.length_drop] <;> omega); rw [show (x5_1).drop (x7_2 : Int).toNat = y434 from Ny434.out.symm] at hr40; replace hr40 : Kd.C (Kd.int .i64) _ A40 y434.length y434 := (by rw [hA40]; exact hr40); rw [← hy40, ← hA40, ← hc40] at hcut40; have HR437 := Aside0.mk hr40; have HC437 := Aside0.mk (show y434.length ≤ c40 from by rw [hy40, hc40]; exact Nat.sub_le_sub_right hroom40 _); clear hr40 hC40 hroom40 hi040 hsz40 hc40; have KY40 := Aside0.mk hy40; have KA40 := Aside0.mk hA40; clear hy40 hA40; have KL40 := Aside0.mk (show (x7_2 : Int).toNat ≤ x5_1.length from by omega); replace q40 := eq_true q40) | ((with_reducible refine gate_builtin (b := .append) (xs := #[.tmp 43, .tmp 46]) rfl ?_); at_builtin; refine Kd.R_append_rows (Kd.int .i64) (w0 := w) w.heap.size rfl (.tmp 43) (.tmp 46) 28 3 (.int .i64 0) 8 rfl Tryz.underlying28 info3 rfl (by decide) (by omega) v432 y431 y434 _ _ _ (fun k_ => some k_ ≠ (.slice Ao8 x5_1.length co8 : Value).ownBlock) (fun _ => False) rfl rfl (by exact Hof.Rw (Kd.R_mono HO433.out (fun _ hk => hk.2))) (by repeat (first | exact (by repeat (first | (with_reducible exact HR437.out) | (with_reducible refine Kd.C_alloc ?_ _) | (with_reducible refine Kd.C_drewN ?_ _) | (with_reducible refine Kd.C_drew ?_) | exact HR437.out)) | (with_reducible refine Kd.C_alloc ?_ _) | (with_reducible refine Kd.C_drewN ?_ _) | (with_reducible refine Kd.C_drew ?_))) (fun _ _ h => h) (fun _ h => h.elim) (by exact fun k_ hk => Kd.fresh' (Kd.R_lt (Hof.Rw HO_5.out)) k_ hk) (by exact Hof.Lw HB.out) (by exact below_size (Hof.Lw HB.out)) (by have := LMc34.out; omega) ?_; intro v439 w41 ho hb hg hat; rw [← Ny438.out] at ho; have n0_ := Aside0.mk (Kd.R_after (ok := (fun _ => True)) (Hof.Rw HO_5.out) hg hat); have n1_ := Aside0.mk hb; have n2_ := Aside0.mk ((show Kd.C (Kd.int .i64) w41 A40 y434.length y434 from by rw [Ny434.out, KA40.out]; exact Kd.C_drop (m := (x7_2 : Int).toNat) (c := co8) ((Kd.R_reads' (Kd.R_after (ok := (fun _ => True)) (Hof.Rw HO_5.out) hg hat)).2.2) KL40.out ((Kd.R_reads' (Kd.R_after (ok := (fun _ => True)) (Hof.Rw HO_5.out) hg hat)).2.1))); have n3_ := Aside0.mk ho; clear HO_5; clear HB; clear HR437; clear HO433; have HO_5 := n0_; have HB := n1_; have HR437 := n2_; have HO440 := n3_; clear n0_ n1_ n2_ n3_; clear ho hb hg hat; have q42 : (x7_2 : Int) ≤ ((x5_1.length : Int) : Int) := Hof.D; obtain ⟨i042, hi042, _, hsz42, _⟩ := info_parts info3; have hcut42 := cut_to (P := Tryz.prog) 28 3 .i64 Tryz.underlying28 hi042 Ao8 x5_1.length co8 x7_2 (Hof.D) q42 (Kd.R_reads' HO_5.out).2.1; have hr42 := Kd.R_take (m := (x7_2 : Int).toNat) HO_5.out (by omega); have hy42 : y441.length = (x7_2 : Int).toNat := (by rw [Ny441.out, List.length_take]; omega); rw [← Ny441.out] at hr42; rw [← hy42] at hr42 hcut42; clear hy42 hi042 hsz42 HO_5; have HO443 := Aside0.mk hr42; clear hr42; replace q42 := eq_true q42) | ((with_reducible refine gate_builtin (b := .append) (xs := #[.tmp 50, .tmp 52]) rfl ?_); at_builtin; refine Kd.R_append (Kd.int .i64) (w0 := w) w.heap.size rfl (.tmp 50) (.tmp 52) 28 3 (.int .i64 0) 8 rfl Tryz.underlying28 info3 rfl (by decide) (by omega) (.slice Ao8 y441.length co8) y441 x6_1 [.int .i64 x6_1] (fun k_ => some k_ ≠ (v439 : Value).ownBlock) (fun _ => False) rfl rfl (by exact rfl) (fun _ hk => hk.elim) (by exact fun k_ hk => Kd.fresh' (Kd.R_lt (Hof.Rw HO440.out)) k_ hk) (by exact Hof.Rw (Kd.R_mono HO443.out (fun _ hk => hk.2))) (by exact Hof.Lw HB.out) (by exact below_size (Hof.Lw HB.out)) (by have := LMc36.out; omega) ?_; intro v445 w43 ho hb hg hat; rw [← Ny444.out] at ho; have n0_ := Aside0.mk (Kd.R_after (ok := (fun _ => True)) (Hof.Rw (Kd.R_mono HO440.out (fun _ hk => ⟨trivial, (by first | exact hk | (cases Ao31 <;> exact hk) | (cases Ao45 <;> exact hk) | (cases Ao8 <;> exact hk))⟩))) hg hat); have n1_ := Aside0.mk hb; have n2_ := Aside0.mk ho; clear HO440; clear HB; clear HO443; have HO440 := n0_; have HB := n1_; have HO446 := n2_; clear n0_ n1_ n2_; clear ho hb hg hat; obtain ⟨Ao45, co45, eo45⟩ := Kd.R_slice HO440.out; subst eo45) | ((with_reducible refine gate_builtin (b := .append) (xs := #[.tmp 53, .tmp 54]) rfl ?_); at_builtin; refine Kd.R_append_rows (Kd.int .i64) (w0 := w) w.heap.size rfl (.tmp 53) (.tmp 54) 28 3 (.int .i64 0) 8 rfl Tryz.underlying28 info3 rfl (by decide) (by omega) v445 y444 y438 _ _ _ (fun k_ => some k_ ≠ (.slice Ao45 y438.length co45 : Value).ownBlock) (fun _ => False) rfl rfl (by exact Hof.Rw HO446.out) (by repeat (first | exact (Kd.R_reads' HO440.out).2.2 | (with_reducible refine Kd.C_alloc ?_ _) | (with_reducible refine Kd.C_drewN ?_ _) | (with_reducible refine Kd.C_drew ?_))) (fun _ _ h => h) (fun _ h => h.elim) (by exact fun k_ hk => Kd.fresh' (Kd.R_lt (Hof.Rw HO440.out)) k_ hk) (by exact Hof.Lw HB.out) (by exact below_size (Hof.Lw HB.out)) (by have := LMc37.out; omega) ?_; intro v448 w44 ho hb hg hat; rw [← Ny447.out] at ho; have n0_ := Aside0.mk (Kd.R_after (ok := (fun _ => True)) (Hof.Rw HO440.out) hg hat); have n1_ := Aside0.mk hb; have n2_ := Aside0.mk ho; clear HO440; clear HB; clear HO446; have HO440 := n0_; have HB := n1_; have HO449 := n2_; clear n0_ n1_ n2_; clear ho hb hg hat)))
             go_roundg k2
             case measure => have := HK1.out; have := HK2.out; omega
             case rel => exact ⟨(y447), (wrap64 (x6_1 + 1)), Hof.F, H', ⟨by have := HK1.out; have := HK2.out; omega⟩, ⟨Hof.Rw (Kd.R_mono HO449.out (fun _ hk => trivial))⟩, ⟨Hof.Lw HB.out⟩⟩
            ·rw [if_neg c37] at H
             exact absurd H (by simp)
           ·rw [if_neg c36] at H
            exact absurd H (by simp)
          ·rw [if_neg c34] at H
           exact absurd H (by simp)
         ·rw [if_neg c33] at H
          exact absurd H (by simp)
        ·rw [if_neg c32] at H
         exact absurd H (by simp)
    ·replace c7 := Bool.eq_false_iff.mpr c7
     subst c7
     replace H : (spec_l28Order.l0 k1 l0 a1 x5_1 (wrap64 (x6_1 + 1))) = some r := by rw [if_neg (show ¬ (false = true) by decide)] at H; exact H
     have H' := Aside0.mk H
     clear H
     go_wp2_with (first | (go_at_call 89; (with_reducible refine (spec_l2Has.calls a1 x6_1 false _ A6.out).mono ?_); rintro e w' ⟨rfl, ⟨nd, rfl⟩⟩; (try exact Hof.W)))
     repeat (go_quiet (first | (go_at_call 89; (with_reducible refine (spec_l2Has.calls a1 x6_1 false _ A6.out).mono ?_); rintro e w' ⟨rfl, ⟨nd, rfl⟩⟩; (try exact Hof.W))); try go_wp2_with (first | (go_at_call 89; (with_reducible refine (spec_l2Has.calls a1 x6_1 false _ A6.out).mono ?_); rintro e w' ⟨rfl, ⟨nd, rfl⟩⟩; (try exact Hof.W))))
     go_roundg k1
     case measure => have := HK1.out; omega
     case rel => exact ⟨(x5_1), (wrap64 (x6_1 + 1)), Hof.F, H', ⟨by have := HK1.out; omega⟩, ⟨Hof.Rw HO_5.out⟩, ⟨Hof.Lw HB.out⟩⟩
   ·rw [if_neg c5] at H
    have c5b0 : decide (x6_1 < (l0.length : Int)) = false := decide_eq_false c5
    clear c5
    obtain rfl := Option.some.inj H
    go_wp2
    repeat (go_quiet (fail); try go_wp2)
    go_ret
    exact ⟨_, Hof.E, by (with_reducible repeat (first | apply Kd.R_alloc | apply Kd.R_drewN | apply Kd.R_drew)); exact HO_5.out, Hof.L⟩
mutual
def spec_PlanOf.j0 : Nat → List (S74) → Int → Bool → Option (List Int × Bool)
 | 0, _, _, _ => none
 | k + 1, x0, x1, x20 => if x20 = true then (some ((([] : List Int)), false)) else ((spec_l28Order.f k x0 x1).bind fun t455 => (if 0 ≤ (x0.length : Int) then (if ((x0.length : Int) : Int).toNat ≤ 35184372088832 then (spec_PlanOf.l0 k x0 x1 t455 (List.replicate ((x0.length : Int) : Int).toNat 0) 0) else (none)) else (none)))
def spec_PlanOf.l0 : Nat → List (S74) → Int → List Int → List Int → Int → Option (List Int × Bool)
 | 0, _, _, _, _, _ => none
 | k + 1, x0, x1, x6, x7, x8 => if x8 < (x6.length : Int) then (if 0 ≤ x8 then (if 0 ≤ (rd x6 x8) then (if (rd x6 x8) < (x7.length : Int) then (if (rd x6 x8) < (x0.length : Int) then (if (wrap64 (x8 + 1)) > ((rd_T74 x0 (rd x6 x8)).f0) then (some ((([] : List Int)), false)) else (spec_PlanOf.l0 k x0 x1 x6 (x7.set ((rd x6 x8) : Int).toNat (wrap64 (x8 + 1))) (wrap64 (x8 + 1)))) else (none)) else (none)) else (none)) else (none)) else (spec_PlanOf.l1 k x0 x1 x7 (([] : List Int)) 0)
def spec_PlanOf.l1 : Nat → List (S74) → Int → List Int → List Int → Int → Option (List Int × Bool)
 | 0, _, _, _, _, _ => none
 | k + 1, x0, x1, x7, x9, x10 => if x10 < (x0.length : Int) then ((spec_l2Has.f x1 x10).bind fun t471 => (if t471 = true then (if 0 ≤ x10 then (if x10 < (x7.length : Int) then (if x9.length < 17592186044416 then (spec_PlanOf.l1 k x0 x1 x7 (x9 ++ [rd x7 x10]) (wrap64 (x10 + 1))) else (none)) else (none)) else (none)) else (spec_PlanOf.l1 k x0 x1 x7 x9 (wrap64 (x10 + 1))))) else (some (x9, true))
end
def spec_PlanOf.f (k : Nat) (l0 : List (S74)) (a1 : Int) : Option (List Int × Bool) := (spec_AreTasks.f k l0).bind fun t450 => (if t450 = true then ((spec_IsSet.f (l0.length : Int) a1).bind fun t451 => (spec_PlanOf.j0 k l0 a1 (!t451))) else (spec_PlanOf.j0 k l0 a1 true))
set_option maxHeartbeats 8000000 in
set_option maxRecDepth 100000 in
theorem spec_PlanOf.calls (k : Nat) (A0 : Option Addr) (c0 : Nat) (l0 : List (S74)) (a1 : Int) (r1 : List Int) (r2 : Bool) (w : World) (hr0 : Kd.C k74 w A0 l0.length l0) (hc0 : l0.length ≤ c0) (h : spec_PlanOf.f k l0 a1 = some (r1, r2)) :
  Calls Tryz.prog 13 #[.slice A0 l0.length c0, .int .i64 a1] w fun e w' => ∃ v0_ : Value, e = .returned (.tuple #[v0_, .bool r2]) ∧ Kd.R (Kd.int .i64) 3 w' w.heap.size (fun _ => True) v0_ r1 ∧ Below w.heap.size w w' := by
 have HR0 := Aside0.mk hr0
 have HC0 := Aside0.mk hc0
 clear hr0 hc0
 have HB := Aside0.mk (Below.refl w.heap.size w)
 unfold spec_PlanOf.f at h
 have H := h
 clear h
 have HC3 := Aside0.mk H
 clear H
 go_enter Tryz.func13, Tryz.ntmps13
 go_upto_region 1 with (fail)
 go_cut [20] (fun v20 wc => ∃ (kq : Nat) (x20_2 : Bool), v20 = .bool x20_2 ∧ Aside0 (spec_PlanOf.j0 kq l0 a1 x20_2 = some (r1, r2)) ∧ Aside0 (kq ≤ k) ∧ Aside0 (Below w.heap.size w wc))
 case first =>
  have H := HC3.out
  clear HC3
  obtain ⟨t450, A4, H⟩ := Hof.be H
  (try dsimp only at H)
  by_cases c5 : t450 = true
  ·subst c5
   replace H : ((spec_IsSet.f (l0.length : Int) a1).bind fun t451 => (spec_PlanOf.j0 k l0 a1 (!t451))) = some (r1, r2) := by rw [if_pos rfl] at H; exact H
   obtain ⟨t451, A6, H⟩ := Hof.be H
   (try dsimp only at H)
   have H' := Aside0.mk H
   clear H
   go_wp2_with (first | ((with_reducible refine gate_callee (f := 23) rfl ?_); refine Hof.gl (some 12) Tryz.func23 #[.slice A0 l0.length c0] ?_; (with_reducible refine (spec_AreTasks.calls k _ _ l0 true _ ?side1 ?side2 A4.out).mono ?_); (case side1 => exact Hof.Cw (Kd.C_below HR0.out HB.out)); (case side2 => exact HC0.out); rintro e w' ⟨rfl, ⟨nd, rfl⟩⟩; refine ⟨_, rfl, ?_⟩) | (go_at_call 87; (with_reducible refine (spec_IsSet.calls (l0.length : Int) a1 t451 _ A6.out).mono ?_); rintro e w' ⟨rfl, ⟨nd, rfl⟩⟩))
   go_meet
   case rel => exact ⟨_, (!t451), Hof.F, H', ⟨by first | omega | exact Nat.le_refl _⟩, ⟨Hof.Lw HB.out⟩⟩
  ·replace c5 := Bool.eq_false_iff.mpr c5
   subst c5
   replace H : (spec_PlanOf.j0 k l0 a1 true) = some (r1, r2) := by rw [if_neg (show ¬ (false = true) by decide)] at H; exact H
   have H' := Aside0.mk H
   clear H
   go_wp2_with (first | ((with_reducible refine gate_callee (f := 23) rfl ?_); refine Hof.gl (some 12) Tryz.func23 #[.slice A0 l0.length c0] ?_; (with_reducible refine (spec_AreTasks.calls k _ _ l0 false _ ?side1 ?side2 A4.out).mono ?_); (case side1 => exact Hof.Cw (Kd.C_below HR0.out HB.out)); (case side2 => exact HC0.out); rintro e w' ⟨rfl, ⟨nd, rfl⟩⟩; refine ⟨_, rfl, ?_⟩))
   go_meet
   case rel => exact ⟨_, (true), Hof.F, H', ⟨by first | omega | exact Nat.le_refl _⟩, ⟨Hof.Lw HB.out⟩⟩
 case rest =>
  clear HC3
  obtain ⟨kq, x20_2, rfl, HA, HJ2, HB⟩ := hcut
  cases kq with
  | zero => exact absurd HA.out (by simp [spec_PlanOf.j0])
  | succ kj2 =>
   have H := HA.out
   clear HA
   simp only [spec_PlanOf.j0] at H
   by_cases c7 : x20_2 = true
   ·subst c7
    replace H : (some ((([] : List Int)), false)) = some (r1, r2) := by rw [if_pos rfl] at H; exact H
    obtain ⟨y452, hy452⟩ : ∃ y_ : List Int, y_ = (([] : List Int)) := ⟨_, rfl⟩
    replace H : (some (y452, false)) = some (r1, r2) := by (try rw [hy452]); exact Hof.Z
    have Ny452 := Aside0.mk hy452
    clear hy452
    simp only [Option.some.injEq, Prod.mk.injEq] at H
    obtain ⟨rfl, rfl⟩ := H
    go_wp2_with (first | ((with_reducible refine gate_dst (N := 21) rfl ?_); (try (refine gate_guard (by rfl) ?_; dsimp only)); refine Kd.R_lit (Kd.int .i64) _ 3 ?hg (N := 21) ?hd (xs := ([] : List Int)) (inner := []) (ok := fun _ => True) (okp := fun _ => True) ?hr ?hp (fun _ hk => hk) trivial (Below.refl _ _) (Nat.le_refl _) (by simp) ?_; (case hd => rfl); (case hg => rfl); (case hr => first | (go_simp; done) | (go_simp; rfl)); (case hp => exact (Reps.none _ _)); intro v453 w8 ho9 hb hg_ hnew_; clear hg_ hnew_; (first | rw [← Ny452.out] at ho9 | (simp only [Int.reduceToNat] at ho9; rw [← Ny452.out] at ho9)); have HO454 := Aside0.mk (Kd.R_lower ho9 (below_size (Hof.Lw HB.out))); replace HB := Hof.lb HB hb; clear hb ho9))
    go_ret2
    exact ⟨_, Hof.E, by (with_reducible repeat (first | apply Kd.R_alloc | apply Kd.R_drewN | apply Kd.R_drew)); exact HO454.out, Hof.L⟩
   ·replace c7 := Bool.eq_false_iff.mpr c7
    subst c7
    replace H : ((spec_l28Order.f kj2 l0 a1).bind fun t455 => (if 0 ≤ (l0.length : Int) then (if ((l0.length : Int) : Int).toNat ≤ 35184372088832 then (spec_PlanOf.l0 kj2 l0 a1 t455 (List.replicate ((l0.length : Int) : Int).toNat 0) 0) else (none)) else (none))) = some (r1, r2) := by rw [if_neg (show ¬ (false = true) by decide)] at H; exact H
    obtain ⟨t455, A10, H⟩ := Hof.be H
    (try dsimp only at H)
    by_cases c11 : 0 ≤ (l0.length : Int)
    ·rw [if_pos c11] at H
     have c11b0 := eq_true c11
     have c11b1 : decide (0 ≤ (l0.length : Int)) = true := decide_eq_true c11
     clear c11
     by_cases c12 : ((l0.length : Int) : Int).toNat ≤ 35184372088832
     ·rw [if_pos c12] at H
      have c12b0 := eq_true c12
      have c12b1 : decide (((l0.length : Int) : Int).toNat ≤ 35184372088832) = true := decide_eq_true c12
      clear c12
      obtain ⟨y458, hy458⟩ : ∃ y_ : List Int, y_ = (List.replicate ((l0.length : Int) : Int).toNat 0) := ⟨_, rfl⟩
      replace H : (spec_PlanOf.l0 kj2 l0 a1 t455 y458 0) = some (r1, r2) := by (try rw [hy458]); exact Hof.Z
      have Ny458 := Aside0.mk hy458
      clear hy458
      have H' := Aside0.mk H
      clear H
      go_wp2_with (first | ((with_reducible refine gate_callee (f := 88) rfl ?_); refine Hof.gl (some 24) Tryz.func88 #[.slice A0 l0.length c0, .int .i64 a1] ?_; (with_reducible refine (spec_l28Order.calls kj2 _ _ l0 a1 t455 _ ?side1 ?side2 A10.out).mono ?_); (case side1 => exact Hof.Cw (Kd.C_below HR0.out HB.out)); (case side2 => exact HC0.out); rintro e w13 ⟨v456, rfl, ho0, hb⟩; refine ⟨_, rfl, ?_⟩; have HO457 := Aside0.mk (Kd.R_lower ho0 (below_size (Hof.Lw HB.out))); replace HB := Hof.lb HB hb; (try clear hb); (try clear hb2); (try clear hk); (try clear hi); (try clear ho0)) | ((with_reducible refine gate_dst (N := 27) rfl ?_); (try (refine gate_guard (by rfl) ?_; dsimp only)); refine Kd.R_make (Kd.int .i64) _ 3 rfl (N := 27) rfl 28 _ _ rfl (l0.length : Int) rfl rfl Tryz.underlying28 (.int .i64 0) 8 info3 rfl (by decide) (by omega) 0 (ok := fun _ => True) (okp := fun _ => True) rfl (fun _ hk => hk) trivial (Hof.D) (Nat.le_trans (Nat.mul_le_mul_right _ (Hof.D : (l0.length : Int).toNat ≤ 35184372088832)) (by omega)) (Below.refl _ _) (Nat.le_refl _) ?_; intro v459 w14 ho15 hb hg_ hnew_; clear hg_ hnew_; (first | rw [← Ny458.out] at ho15 | (simp only [Int.reduceToNat] at ho15; rw [← Ny458.out] at ho15)); have HO460 := Aside0.mk (Kd.R_lower (Kd.R_new' ho15 (Kd.R_lt (Hof.Rw HO457.out))) (below_size (Hof.Lw HB.out))); replace HO457 := Aside0.mk (Kd.R_elder' (Hof.Rw HO457.out) (Kd.R_base ho15) hb); replace HB := Hof.lb HB hb; clear hb ho15))
      go_loopg [8] kj2 (fun kq v8 w' => ∃ (x7_2 : List Int) (x8_2 : Int), v8 = .int .i64 x8_2 ∧ Aside0 (spec_PlanOf.l0 kq l0 a1 t455 x7_2 x8_2 = some (r1, r2)) ∧ Aside0 (kq ≤ kj2) ∧ Aside0 (Kd.R (Kd.int .i64) 3 w' w.heap.size (fun k_ => some k_ ≠ (v459 : Value).ownBlock) v456 t455) ∧ Aside0 (Kd.R (Kd.int .i64) 3 w' w.heap.size (fun k_ => some k_ ≠ (v456 : Value).ownBlock) v459 x7_2) ∧ Aside0 (Below w.heap.size w w'))
      case atStart => exact ⟨(y458), (0), Hof.F, H', ⟨Nat.le_refl _⟩, ⟨Hof.Rw (Kd.R_mono HO457.out (fun _ hk => hk.2))⟩, ⟨Hof.Rw (Kd.R_mono HO460.out (fun _ hk => hk.2))⟩, ⟨Hof.Lw HB.out⟩⟩
      case round =>
       clear H'
       obtain ⟨x7_2, x8_2, rfl, HA, HK2, HO_6, HO_7, HB⟩ := hrel
       cases gk with
       | zero => exact absurd HA.out (by simp [spec_PlanOf.l0])
       | succ k2 =>
        have H := HA.out
        clear HA
        simp only [spec_PlanOf.l0] at H
        by_cases c16 : x8_2 < (t455.length : Int)
        ·rw [if_pos c16] at H
         have c16b0 := decide_eq_true c16
         clear c16
         by_cases c17 : 0 ≤ x8_2
         ·rw [if_pos c17] at H
          have c17b0 := decide_eq_true c17
          clear c17
          by_cases c18 : 0 ≤ (rd t455 x8_2)
          ·rw [if_pos c18] at H
           have c18b0 := decide_eq_true c18
           clear c18
           by_cases c19 : (rd t455 x8_2) < (x7_2.length : Int)
           ·rw [if_pos c19] at H
            have c19b0 := decide_eq_true c19
            clear c19
            obtain ⟨y462, hy462⟩ : ∃ y_ : List Int, y_ = (x7_2.set ((rd t455 x8_2) : Int).toNat (wrap64 (x8_2 + 1))) := ⟨_, rfl⟩
            replace H : (if (rd t455 x8_2) < (l0.length : Int) then (if (wrap64 (x8_2 + 1)) > ((rd_T74 l0 (rd t455 x8_2)).f0) then (some ((([] : List Int)), false)) else (spec_PlanOf.l0 k2 l0 a1 t455 y462 (wrap64 (x8_2 + 1)))) else (none)) = some (r1, r2) := by (try rw [hy462]); exact Hof.Z
            have Ny462 := Aside0.mk hy462
            clear hy462
            by_cases c21 : (rd t455 x8_2) < (l0.length : Int)
            ·rw [if_pos c21] at H
             have c21b0 := decide_eq_true c21
             clear c21
             by_cases c22 : (wrap64 (x8_2 + 1)) > ((rd_T74 l0 (rd t455 x8_2)).f0)
             ·rw [if_pos c22] at H
              have c22b0 := decide_eq_true c22
              clear c22
              obtain ⟨y465, hy465⟩ : ∃ y_ : List Int, y_ = (([] : List Int)) := ⟨_, rfl⟩
              replace H : (some (y465, false)) = some (r1, r2) := by (try rw [hy465]); exact Hof.Z
              have Ny465 := Aside0.mk hy465
              clear hy465
              simp only [Option.some.injEq, Prod.mk.injEq] at H
              obtain ⟨rfl, rfl⟩ := H
              obtain ⟨Ao23, co23, eo23⟩ := Kd.R_slice HO_6.out
              subst eo23
              have p461 : 0 ≤ (x8_2 : Int) := Hof.D
              have q461 : x8_2 < (t455.length : Int) := Hof.D
              obtain ⟨ad461, e461, hx461_0⟩ := Kd.at_int (Kd.R_reads' HO_6.out).2.2 x8_2 p461 q461
              cases e461
              replace p461 := eq_true p461
              replace q461 := eq_true q461
              have p20 : 0 ≤ ((rd t455 x8_2) : Int) := Hof.D
              have q20 : ((rd t455 x8_2) : Int) < ((x7_2.length : Int) : Int) := Hof.D
              obtain ⟨go20, co20, eo20, gb20, gl20, cl20, HG20⟩ := Kd.R_form HO_7.out (by omega)
              (first | cases eo20 | (injection eo20 with ea_ en_ ec_; (first | subst ea_ | (injection ea_ with ea_; subst ea_)); subst ec_; clear en_))
              have GB20 := Aside0.mk gb20
              have GG20 := Aside0.mk HG20
              clear gb20 gl20 HG20
              obtain ⟨hx20_0, hf20_0⟩ := Kd.R_celln 0 HO_7.out ((rd t455 x8_2) : Int) p20 q20
              replace p20 := eq_true p20
              replace q20 := eq_true q20
              have HP24 := Kd.R_putg HO_7.out ((rd t455 x8_2) : Int) (wrap64 (x8_2 + 1))
              go_wp2_with (first | ((with_reducible refine gate_store (t := 3) (p := 41) rfl ?_); refine store_event (t := 3) (p := 41) (v := ?vo_w25) (w1 := (wr.setCell ⟨go20, ((rd t455 x8_2) : Int).toNat, none⟩ (.int .i64 (wrap64 (x8_2 + 1))))) ?hg ?ho ?hn ?hr ?_; (case ho => rfl); (case hg => rfl); (case hn => rfl); (case hr => first | (go_simp; done) | (go_simp; rfl)); intro w25 hw; have hg : wr.grownBy w25 (some go20) := (by rw [hw]; exact HP24.2); have hp_ : Kd.R (Kd.int .i64) 3 w25 w.heap.size (fun k_ => some k_ ≠ (.slice (some ad461) t455.length co23 : Value).ownBlock) (.slice (some ⟨go20, 0, none⟩) x7_2.length co20) y462 := (by rw [hw, Ny462.out]; exact HP24.1); clear HP24; replace HO_6 := Aside0.mk (Kd.R_after (v := (.slice (some ⟨go20, 0, none⟩) x7_2.length co20)) (v1 := (.slice (some ⟨go20, 0, none⟩) x7_2.length co20)) (ok := (fun _ => True)) (Hof.Rw (Kd.R_mono HO_6.out (fun _ hk => ⟨trivial, hk⟩))) hg (.inl rfl)); replace HO_7 := Aside0.mk hp_; replace HB := Aside0.mk ((by rw [hw]; exact below_set (HB.out) GB20.out : Below w.heap.size w w25)); clear hg hw hp_; have p463 : 0 ≤ (x8_2 : Int) := Hof.D; have q463 : x8_2 < (t455.length : Int) := Hof.D; obtain ⟨ad463, e463, hx463_0⟩ := Kd.at_int (Kd.R_reads' HO_6.out).2.2 x8_2 p463 q463; obtain rfl : ad461 = ad463 := (by injection e463); replace p463 := eq_true p463; replace q463 := eq_true q463; have p464 : 0 ≤ ((rd t455 x8_2) : Int) := Hof.D; have q464 : (rd t455 x8_2) < (l0.length : Int) := Hof.D; obtain ⟨ad464, e464, hx464_0, hx464_1⟩ := at_T74 HR0.out (rd t455 x8_2) p464 q464; cases e464; replace hx464_0 := (HB.out.cell (World.block_lt_of_cell? w _ hx464_0)).trans hx464_0; replace hx464_1 := (HB.out.cell (World.block_lt_of_cell? w _ hx464_1)).trans hx464_1; replace p464 := eq_true p464; replace q464 := eq_true q464) | ((with_reducible refine gate_dst (N := 53) rfl ?_); (try (refine gate_guard (by rfl) ?_; dsimp only)); refine Kd.R_lit (Kd.int .i64) _ 3 ?hg (N := 53) ?hd (xs := ([] : List Int)) (inner := []) (ok := fun _ => True) (okp := fun _ => True) ?hr ?hp (fun _ hk => hk) trivial (Below.refl _ _) (Nat.le_refl _) (by simp) ?_; (case hd => rfl); (case hg => rfl); (case hr => first | (go_simp; done) | (go_simp; rfl)); (case hp => exact (Reps.none _ _)); intro v466 w26 ho27 hb hg_ hnew_; clear hg_ hnew_; (first | rw [← Ny465.out] at ho27 | (simp only [Int.reduceToNat] at ho27; rw [← Ny465.out] at ho27)); have HO467 := Aside0.mk (Kd.R_lower (Kd.R_new' (Kd.R_new' ho27 (Kd.R_lt (Hof.Rw HO_6.out))) (Kd.R_lt (Hof.Rw HO_7.out))) (below_size (Hof.Lw HB.out))); replace HO_6 := Aside0.mk (Kd.R_elder' (Hof.Rw HO_6.out) (Kd.R_base ho27) hb); replace HO_7 := Aside0.mk (Kd.R_elder' (Hof.Rw HO_7.out) (Kd.R_base ho27) hb); replace HB := Hof.lb HB hb; clear hb ho27))
              go_ret2
              exact ⟨_, Hof.E, by (with_reducible repeat (first | apply Kd.R_alloc | apply Kd.R_drewN | apply Kd.R_drew)); exact Kd.R_mono HO467.out (fun _ hk => trivial), Hof.L⟩
             ·rw [if_neg c22] at H
              have c22b0 : decide (((rd_T74 l0 (rd t455 x8_2)).f0) < (wrap64 (x8_2 + 1))) = false := decide_eq_false c22
              clear c22
              have H' := Aside0.mk H
              clear H
              obtain ⟨Ao28, co28, eo28⟩ := Kd.R_slice HO_6.out
              subst eo28
              have p461 : 0 ≤ (x8_2 : Int) := Hof.D
              have q461 : x8_2 < (t455.length : Int) := Hof.D
              obtain ⟨ad461, e461, hx461_0⟩ := Kd.at_int (Kd.R_reads' HO_6.out).2.2 x8_2 p461 q461
              cases e461
              replace p461 := eq_true p461
              replace q461 := eq_true q461
              have p20 : 0 ≤ ((rd t455 x8_2) : Int) := Hof.D
              have q20 : ((rd t455 x8_2) : Int) < ((x7_2.length : Int) : Int) := Hof.D
              obtain ⟨go20, co20, eo20, gb20, gl20, cl20, HG20⟩ := Kd.R_form HO_7.out (by omega)
              (first | cases eo20 | (injection eo20 with ea_ en_ ec_; (first | subst ea_ | (injection ea_ with ea_; subst ea_)); subst ec_; clear en_))
              have GB20 := Aside0.mk gb20
              have GG20 := Aside0.mk HG20
              clear gb20 gl20 HG20
              obtain ⟨hx20_0, hf20_0⟩ := Kd.R_celln 0 HO_7.out ((rd t455 x8_2) : Int) p20 q20
              replace p20 := eq_true p20
              replace q20 := eq_true q20
              have HP29 := Kd.R_putg HO_7.out ((rd t455 x8_2) : Int) (wrap64 (x8_2 + 1))
              go_wp2_with (first | ((with_reducible refine gate_store (t := 3) (p := 41) rfl ?_); refine store_event (t := 3) (p := 41) (v := ?vo_w30) (w1 := (wr.setCell ⟨go20, ((rd t455 x8_2) : Int).toNat, none⟩ (.int .i64 (wrap64 (x8_2 + 1))))) ?hg ?ho ?hn ?hr ?_; (case ho => rfl); (case hg => rfl); (case hn => rfl); (case hr => first | (go_simp; done) | (go_simp; rfl)); intro w30 hw; have hg : wr.grownBy w30 (some go20) := (by rw [hw]; exact HP29.2); have hp_ : Kd.R (Kd.int .i64) 3 w30 w.heap.size (fun k_ => some k_ ≠ (.slice (some ad461) t455.length co28 : Value).ownBlock) (.slice (some ⟨go20, 0, none⟩) x7_2.length co20) y462 := (by rw [hw, Ny462.out]; exact HP29.1); clear HP29; replace HO_6 := Aside0.mk (Kd.R_after (v := (.slice (some ⟨go20, 0, none⟩) x7_2.length co20)) (v1 := (.slice (some ⟨go20, 0, none⟩) x7_2.length co20)) (ok := (fun _ => True)) (Hof.Rw (Kd.R_mono HO_6.out (fun _ hk => ⟨trivial, hk⟩))) hg (.inl rfl)); replace HO_7 := Aside0.mk hp_; replace HB := Aside0.mk ((by rw [hw]; exact below_set (HB.out) GB20.out : Below w.heap.size w w30)); clear hg hw hp_; have p463 : 0 ≤ (x8_2 : Int) := Hof.D; have q463 : x8_2 < (t455.length : Int) := Hof.D; obtain ⟨ad463, e463, hx463_0⟩ := Kd.at_int (Kd.R_reads' HO_6.out).2.2 x8_2 p463 q463; obtain rfl : ad461 = ad463 := (by injection e463); replace p463 := eq_true p463; replace q463 := eq_true q463; have p464 : 0 ≤ ((rd t455 x8_2) : Int) := Hof.D; have q464 : (rd t455 x8_2) < (l0.length : Int) := Hof.D; obtain ⟨ad464, e464, hx464_0, hx464_1⟩ := at_T74 HR0.out (rd t455 x8_2) p464 q464; cases e464; replace hx464_0 := (HB.out.cell (World.block_lt_of_cell? w _ hx464_0)).trans hx464_0; replace hx464_1 := (HB.out.cell (World.block_lt_of_cell? w _ hx464_1)).trans hx464_1; replace p464 := eq_true p464; replace q464 := eq_true q464))
              go_roundg k2
              case measure => have := HJ2.out; have := HK2.out; omega
              case rel => exact ⟨(y462), (wrap64 (x8_2 + 1)), Hof.F, H', ⟨by have := HJ2.out; have := HK2.out; omega⟩, ⟨Hof.Rw (Kd.R_mono HO_6.out (fun _ hk => hk.2))⟩, ⟨Hof.Rw HO_7.out⟩, ⟨Hof.Lw HB.out⟩⟩
            ·rw [if_neg c21] at H
             exact absurd H (by simp)
           ·rw [if_neg c19] at H
            exact absurd H (by simp)
          ·rw [if_neg c18] at H
           exact absurd H (by simp)
         ·rw [if_neg c17] at H
          exact absurd H (by simp)
        ·rw [if_neg c16] at H
         have c16b0 : decide (x8_2 < (t455.length : Int)) = false := decide_eq_false c16
         clear c16
         obtain ⟨y468, hy468⟩ : ∃ y_ : List Int, y_ = (([] : List Int)) := ⟨_, rfl⟩
         replace H : (spec_PlanOf.l1 k2 l0 a1 x7_2 y468 0) = some (r1, r2) := by (try rw [hy468]); exact Hof.Z
         have Ny468 := Aside0.mk hy468
         clear hy468
         have H' := Aside0.mk H
         clear H
         obtain ⟨Ao31, co31, eo31⟩ := Kd.R_slice HO_6.out
         subst eo31
         go_wp2_with (first | ((with_reducible refine gate_dst (N := 54) rfl ?_); (try (refine gate_guard (by rfl) ?_; dsimp only)); refine Kd.R_lit (Kd.int .i64) _ 3 ?hg (N := 54) ?hd (xs := ([] : List Int)) (inner := []) (ok := fun _ => True) (okp := fun _ => True) ?hr ?hp (fun _ hk => hk) trivial (Below.refl _ _) (Nat.le_refl _) (by simp) ?_; (case hd => rfl); (case hg => rfl); (case hr => first | (go_simp; done) | (go_simp; rfl)); (case hp => exact (Reps.none _ _)); intro v469 w32 ho33 hb hg_ hnew_; clear hg_ hnew_; (first | rw [← Ny468.out] at ho33 | (simp only [Int.reduceToNat] at ho33; rw [← Ny468.out] at ho33)); have HO470 := Aside0.mk (Kd.R_lower (Kd.R_new' (Kd.R_new' ho33 (Kd.R_lt (Hof.Rw HO_6.out))) (Kd.R_lt (Hof.Rw HO_7.out))) (below_size (Hof.Lw HB.out))); replace HO_6 := Aside0.mk (Kd.R_elder' (Hof.Rw HO_6.out) (Kd.R_base ho33) hb); replace HO_7 := Aside0.mk (Kd.R_elder' (Hof.Rw HO_7.out) (Kd.R_base ho33) hb); replace HB := Hof.lb HB hb; clear hb ho33))
         go_loopg [9, 10] k2 (fun kq v9 v10 w' => ∃ (x9_3 : List Int) (x10_3 : Int), v10 = .int .i64 x10_3 ∧ Aside0 (spec_PlanOf.l1 kq l0 a1 x7_2 x9_3 x10_3 = some (r1, r2)) ∧ Aside0 (kq ≤ k2) ∧ Aside0 (Kd.R (Kd.int .i64) 3 w' w.heap.size (fun k_ => some k_ ≠ (v9 : Value).ownBlock) v459 x7_2) ∧ Aside0 (Kd.R (Kd.int .i64) 3 w' w.heap.size (fun k_ => some k_ ≠ (v459 : Value).ownBlock) v9 x9_3) ∧ Aside0 (Below w.heap.size w w'))
         case atStart => exact ⟨(y468), (0), Hof.F, H', ⟨Nat.le_refl _⟩, ⟨Hof.Rw (Kd.R_mono HO_7.out (fun _ hk => hk.2))⟩, ⟨Hof.Rw (Kd.R_mono HO470.out (fun _ hk => hk.2))⟩, ⟨Hof.Lw HB.out⟩⟩
         case round =>
          clear H'
          try clear q2
          try clear hx2
          try clear hf2
          try clear q4
          try clear hx4
          try clear q20
          try clear hx20
          try clear hf20
          try clear hx20_0
          try clear hx461_0
          try clear hx463_0
          try clear hx464_0
          try clear hx464_1
          try clear q20
          try clear q461
          try clear q463
          try clear q464
          obtain ⟨x9_3, x10_3, rfl, HA, HK3, HO_7, HO_9, HB⟩ := hrel
          cases gk with
          | zero => exact absurd HA.out (by simp [spec_PlanOf.l1])
          | succ k3 =>
           have H := HA.out
           clear HA
           simp only [spec_PlanOf.l1] at H
           by_cases c34 : x10_3 < (l0.length : Int)
           ·rw [if_pos c34] at H
            have c34b0 := decide_eq_true c34
            clear c34
            obtain ⟨t471, A35, H⟩ := Hof.be H
            (try dsimp only at H)
            by_cases c36 : t471 = true
            ·subst c36
             replace H : (if 0 ≤ x10_3 then (if x10_3 < (x7_2.length : Int) then (if x9_3.length < 17592186044416 then (spec_PlanOf.l1 k3 l0 a1 x7_2 (x9_3 ++ [rd x7_2 x10_3]) (wrap64 (x10_3 + 1))) else (none)) else (none)) else (none)) = some (r1, r2) := by rw [if_pos rfl] at H; exact H
             by_cases c37 : 0 ≤ x10_3
             ·rw [if_pos c37] at H
              have c37b0 := decide_eq_true c37
              clear c37
              by_cases c38 : x10_3 < (x7_2.length : Int)
              ·rw [if_pos c38] at H
               have c38b0 := decide_eq_true c38
               clear c38
               by_cases c39 : x9_3.length < 17592186044416
               ·rw [if_pos c39] at H
                have LMc39 := Aside0.mk c39
                clear c39
                obtain ⟨y473, hy473⟩ : ∃ y_ : List Int, y_ = (x9_3 ++ [rd x7_2 x10_3]) := ⟨_, rfl⟩
                replace H : (spec_PlanOf.l1 k3 l0 a1 x7_2 y473 (wrap64 (x10_3 + 1))) = some (r1, r2) := by (try rw [hy473]); exact Hof.Z
                have Ny473 := Aside0.mk hy473
                clear hy473
                have H' := Aside0.mk H
                clear H
                go_wp2_with (first | ((with_reducible refine gate_callee (f := 89) rfl ?_); refine Hof.gl (some 63) Tryz.func89 #[.int .i64 a1, .int .i64 x10_3] ?_; (with_reducible refine (spec_l2Has.calls a1 x10_3 true _ A35.out).mono ?_); rintro e w' ⟨rfl, ⟨nd, rfl⟩⟩; refine ⟨_, rfl, ?_⟩; obtain ⟨Ao40, co40, eo40⟩ := Kd.R_slice HO_7.out; subst eo40; have p472 : 0 ≤ (x10_3 : Int) := Hof.D; have q472 : x10_3 < (x7_2.length : Int) := Hof.D; obtain ⟨ad472, e472, hx472_0⟩ := Kd.at_int (Kd.R_reads' HO_7.out).2.2 x10_3 p472 q472; cases e472; replace p472 := eq_true p472; replace q472 := eq_true q472) | ((with_reducible refine gate_builtin (b := .append) (xs := #[.tmp 64, .tmp 69]) rfl ?_); (try (refine gate_guard (by rfl) ?_; dsimp only)); at_builtin; refine Kd.R_append (Kd.int .i64) (w0 := w) w.heap.size rfl (.tmp 64) (.tmp 69) 28 3 (.int .i64 0) 8 rfl Tryz.underlying28 info3 rfl (by decide) (by omega) u9 x9_3 (rd x7_2 x10_3) [.int .i64 (rd x7_2 x10_3)] (fun k_ => some k_ ≠ (.slice (some ad472) x7_2.length co40 : Value).ownBlock) (fun _ => False) rfl rfl (by exact rfl) (fun _ hk => hk.elim) (by exact fun k_ hk => Kd.fresh' (Kd.R_lt (Hof.Rw HO_7.out)) k_ hk) (by exact Hof.Rw HO_9.out) (by exact Hof.Lw HB.out) (by exact below_size (Hof.Lw HB.out)) (by have := LMc39.out; omega) ?_; intro v474 w41 ho hb hg hat; rw [← Ny473.out] at ho; have n0_ := Aside0.mk (Kd.R_after (ok := (fun _ => True)) (Hof.Rw (Kd.R_mono HO_7.out (fun _ hk => ⟨trivial, hk⟩))) hg hat); have n1_ := Aside0.mk hb; have n2_ := Aside0.mk ho; clear HO_7; clear HB; clear HO_9; have HO_7 := n0_; have HB := n1_; have HO475 := n2_; clear n0_ n1_ n2_; clear ho hb hg hat))
                go_roundg k3
                case measure => have := HJ2.out; have := HK2.out; have := HK3.out; omega
                case rel => exact ⟨(y473), (wrap64 (x10_3 + 1)), Hof.F, H', ⟨by have := HJ2.out; have := HK2.out; have := HK3.out; omega⟩, ⟨Hof.Rw (Kd.R_mono HO_7.out (fun _ hk => hk.2))⟩, ⟨Hof.Rw HO475.out⟩, ⟨Hof.Lw HB.out⟩⟩
               ·rw [if_neg c39] at H
                exact absurd H (by simp)
              ·rw [if_neg c38] at H
               exact absurd H (by simp)
             ·rw [if_neg c37] at H
              exact absurd H (by simp)
            ·replace c36 := Bool.eq_false_iff.mpr c36
             subst c36
             replace H : (spec_PlanOf.l1 k3 l0 a1 x7_2 x9_3 (wrap64 (x10_3 + 1))) = some (r1, r2) := by rw [if_neg (show ¬ (false = true) by decide)] at H; exact H
             have H' := Aside0.mk H
             clear H
             go_wp2_with (first | ((with_reducible refine gate_callee (f := 89) rfl ?_); refine Hof.gl (some 63) Tryz.func89 #[.int .i64 a1, .int .i64 x10_3] ?_; (with_reducible refine (spec_l2Has.calls a1 x10_3 false _ A35.out).mono ?_); rintro e w' ⟨rfl, ⟨nd, rfl⟩⟩; refine ⟨_, rfl, ?_⟩))
             go_roundg k3
             case measure => have := HJ2.out; have := HK2.out; have := HK3.out; omega
             case rel => exact ⟨(x9_3), (wrap64 (x10_3 + 1)), Hof.F, H', ⟨by have := HJ2.out; have := HK2.out; have := HK3.out; omega⟩, ⟨Hof.Rw HO_7.out⟩, ⟨Hof.Rw HO_9.out⟩, ⟨Hof.Lw HB.out⟩⟩
           ·rw [if_neg c34] at H
            have c34b0 : decide (x10_3 < (l0.length : Int)) = false := decide_eq_false c34
            clear c34
            simp only [Option.some.injEq, Prod.mk.injEq] at H
            obtain ⟨rfl, rfl⟩ := H
            go_wp2
            go_ret2
            exact ⟨_, Hof.E, by (with_reducible repeat (first | apply Kd.R_alloc | apply Kd.R_drewN | apply Kd.R_drew)); exact Kd.R_mono HO_9.out (fun _ hk => trivial), Hof.L⟩
     ·rw [if_neg c12] at H
      exact absurd H (by simp)
    ·rw [if_neg c11] at H
     exact absurd H (by simp)
def spec_FullSet.f (a0 : Int) : Option (Int) := (spec_l1In.f a0 0 8).bind fun t476 => (if t476 = true then (if 0 ≤ (IntKind.u64.wrap (a0)) then (some (wrap64 ((shl .i64 1 (IntKind.u64.wrap (a0))) - 1))) else (none)) else (some 0))
set_option maxHeartbeats 8000000 in
set_option maxRecDepth 100000 in
theorem spec_FullSet.calls (a0 : Int) (r : Int) (w : World) (h : spec_FullSet.f a0 = some r) :
  Calls Tryz.prog 24 #[.int .i64 a0] w fun e w' => e = .returned (.int .i64 r) ∧ Drawn0 w w' := by
 unfold spec_FullSet.f at h
 have H := h
 clear h
 obtain ⟨t476, A2, H⟩ := Hof.be H
 (try dsimp only at H)
 by_cases c3 : t476 = true
 ·subst c3
  replace H : (if 0 ≤ (IntKind.u64.wrap (a0)) then (some (wrap64 ((shl .i64 1 (IntKind.u64.wrap (a0))) - 1))) else (none)) = some r := by rw [if_pos rfl] at H; exact H
  obtain ⟨ji4, hji4⟩ : ∃ j_ : Int, (IntKind.u64.wrap (a0)) = j_ := ⟨_, rfl⟩
  replace H : (if 0 ≤ (ji4) then (some (wrap64 ((shl .i64 1 (ji4)) - 1))) else (none)) = some r := by first | (rw [hji4] at H; exact H) | (simp only [hji4] at H ⊢; exact H)
  (try rw [hji4] at A2)
  by_cases c5 : 0 ≤ (ji4)
  ·rw [if_pos c5] at H
   have c5b0 := eq_true c5
   have c5b1 : decide (0 ≤ (ji4)) = true := decide_eq_true c5
   clear c5
   obtain ⟨ji6, hji6⟩ : ∃ j_ : Int, (shl .i64 1 (ji4)) = j_ := ⟨_, rfl⟩
   replace H : (some (wrap64 ((ji6) - 1))) = some r := by first | (rw [hji6] at H; exact H) | (simp only [hji6] at H ⊢; exact H)
   (try rw [hji6] at A2)
   have hji6_ : (IntKind.i64.wrap (1 * 2 ^ min (ji4).toNat 64)) = ji6 := hji6
   have hji6z : (ji4) ≤ 64 → (IntKind.i64.wrap (1 * 2 ^ (ji4).toNat)) = ji6 := shl_small hji6
   have hji6u : (IntKind.i64.wrap (2 ^ min (ji4).toNat 64)) = ji6 := by have h_ := hji6_; rw [Int.one_mul] at h_; exact h_
   have hji6v : (ji4) ≤ 64 → (IntKind.i64.wrap (2 ^ (ji4).toNat)) = ji6 := fun hle_ => by have h_ := hji6z hle_; rw [Int.one_mul] at h_; exact h_
   have hji6y : (wrap64 (1 * 2 ^ min (ji4).toNat 64)) = ji6 := (i64_w _).symm.trans hji6_
   have hji6x : (ji4) ≤ 64 → (wrap64 (1 * 2 ^ (ji4).toNat)) = ji6 := fun h_ => (i64_w _).symm.trans (hji6z h_)
   obtain rfl := Option.some.inj H
   go_enter Tryz.func24, Tryz.ntmps24
   go_wp2_with (first | (refine Hof.gl (some 4) Tryz.func94 #[.int .i64 a0, .int .i64 0, .int .i64 8] ?_; (with_reducible refine (spec_l1In.calls a0 0 8 true _ A2.out).mono ?_); rintro e w' ⟨rfl, ⟨nd, rfl⟩⟩; refine ⟨_, rfl, ?_⟩))
   go_ret
   exact ⟨by first | rfl | (simp; done) | (simp only [← hji4, ← hji6] <;> (first | rfl | simp)) | (simp [*]; done), Hof.G⟩
  ·rw [if_neg c5] at H
   exact absurd H (by simp)
 ·replace c3 := Bool.eq_false_iff.mpr c3
  subst c3
  replace H : (some 0) = some r := by rw [if_neg (show ¬ (false = true) by decide)] at H; exact H
  obtain rfl := Option.some.inj H
  go_enter Tryz.func24, Tryz.ntmps24
  go_wp2_with (first | (refine Hof.gl (some 4) Tryz.func94 #[.int .i64 a0, .int .i64 0, .int .i64 8] ?_; (with_reducible refine (spec_l1In.calls a0 0 8 false _ A2.out).mono ?_); rintro e w' ⟨rfl, ⟨nd, rfl⟩⟩; refine ⟨_, rfl, ?_⟩))
  go_ret
  exact ⟨Hof.F, Hof.G⟩
def spec_l3Sets.l0 : Nat → Int → List Int → Int → Option (Bool)
 | 0, _, _, _ => none
 | k + 1, x0, x1, x5 => if x5 < (x1.length : Int) then (if 0 ≤ x5 then ((spec_IsSet.f x0 (rd x1 x5)).bind fun t478 => (if t478 = true then (spec_l3Sets.l0 k x0 x1 (wrap64 (x5 + 1))) else (some false))) else (none)) else (some true)
def spec_l3Sets.f (k : Nat) (a0 : Int) (l1 : List Int) : Option (Bool) := spec_l3Sets.l0 k a0 l1 0
set_option maxHeartbeats 8000000 in
set_option maxRecDepth 100000 in
theorem spec_l3Sets.calls (k : Nat) (a0 : Int) (A1 : Option Addr) (c1 : Nat) (l1 : List Int) (r : Bool) (w : World) (hr1 : Kd.C (Kd.int .i64) w A1 l1.length l1) (hc1 : l1.length ≤ c1) (h : spec_l3Sets.f k a0 l1 = some r) :
  Calls Tryz.prog 136 #[.int .i64 a0, .slice A1 l1.length c1] w fun e w' => e = .returned (.bool r) ∧ Drawn0 w w' := by
 have HR1 := Aside0.mk hr1
 have HC1 := Aside0.mk hc1
 clear hr1 hc1
 unfold spec_l3Sets.f at h
 have H := h
 clear h
 have H' := Aside0.mk H
 clear H
 go_enter Tryz.func136, Tryz.ntmps136
 go_wp2
 go_loopg [5] k (fun kq v5 w' => ∃ (x5_1 : Int), v5 = .int .i64 x5_1 ∧ Aside0 (spec_l3Sets.l0 kq a0 l1 x5_1 = some r) ∧ Aside0 (kq ≤ k) ∧ Drawn0 w w')
 case atStart => exact ⟨(0), Hof.F, H', ⟨Nat.le_refl _⟩, Hof.G⟩
 case round =>
  clear H'
  obtain ⟨x5_1, rfl, HA, HK1, ⟨m1, rfl⟩⟩ := hrel
  cases gk with
  | zero => exact absurd HA.out (by simp [spec_l3Sets.l0])
  | succ k1 =>
   have H := HA.out
   clear HA
   simp only [spec_l3Sets.l0] at H
   by_cases c3 : x5_1 < (l1.length : Int)
   ·rw [if_pos c3] at H
    have c3b0 := decide_eq_true c3
    clear c3
    by_cases c4 : 0 ≤ x5_1
    ·rw [if_pos c4] at H
     have c4b0 := decide_eq_true c4
     clear c4
     obtain ⟨t478, A5, H⟩ := Hof.be H
     (try dsimp only at H)
     by_cases c6 : t478 = true
     ·subst c6
      replace H : (spec_l3Sets.l0 k1 a0 l1 (wrap64 (x5_1 + 1))) = some r := by rw [if_pos rfl] at H; exact H
      have H' := Aside0.mk H
      clear H
      have p477 : 0 ≤ (x5_1 : Int) := Hof.D
      have q477 : x5_1 < (l1.length : Int) := Hof.D
      obtain ⟨ad477, e477, hx477_0⟩ := Kd.at_int HR1.out x5_1 p477 q477
      cases e477
      replace p477 := eq_true p477
      replace q477 := eq_true q477
      go_wp2_with (first | (refine Hof.gl (some 17) Tryz.func87 #[.int .i64 a0, .int .i64 (rd l1 x5_1)] ?_; (with_reducible refine (spec_IsSet.calls a0 (rd l1 x5_1) true _ A5.out).mono ?_); rintro e w' ⟨rfl, ⟨nd, rfl⟩⟩; refine ⟨_, rfl, ?_⟩))
      go_roundg k1
      case measure => have := HK1.out; omega
      case rel => exact ⟨(wrap64 (x5_1 + 1)), Hof.F, H', ⟨by have := HK1.out; omega⟩, Hof.G⟩
     ·replace c6 := Bool.eq_false_iff.mpr c6
      subst c6
      replace H : (some false) = some r := by rw [if_neg (show ¬ (false = true) by decide)] at H; exact H
      obtain rfl := Option.some.inj H
      have p477 : 0 ≤ (x5_1 : Int) := Hof.D
      have q477 : x5_1 < (l1.length : Int) := Hof.D
      obtain ⟨ad477, e477, hx477_0⟩ := Kd.at_int HR1.out x5_1 p477 q477
      cases e477
      replace p477 := eq_true p477
      replace q477 := eq_true q477
      go_wp2_with (first | (refine Hof.gl (some 17) Tryz.func87 #[.int .i64 a0, .int .i64 (rd l1 x5_1)] ?_; (with_reducible refine (spec_IsSet.calls a0 (rd l1 x5_1) false _ A5.out).mono ?_); rintro e w' ⟨rfl, ⟨nd, rfl⟩⟩; refine ⟨_, rfl, ?_⟩))
      go_ret
      exact ⟨Hof.F, Hof.G⟩
    ·rw [if_neg c4] at H
     exact absurd H (by simp)
   ·rw [if_neg c3] at H
    have c3b0 : decide (x5_1 < (l1.length : Int)) = false := decide_eq_false c3
    clear c3
    obtain rfl := Option.some.inj H
    go_wp2
    go_ret
    exact ⟨Hof.F, Hof.G⟩
mutual
def spec_SortSets.l0 : Nat → List Int → List Int → Int → Option (List Int)
 | 0, _, _, _ => none
 | k + 1, x0, x3, x4 => if x4 < (x0.length : Int) then (spec_SortSets.l1 k x0 x3 x4 0) else (some x3)
def spec_SortSets.l1 : Nat → List Int → List Int → Int → Int → Option (List Int)
 | 0, _, _, _, _ => none
 | k + 1, x0, x3, x4, x5 => if x5 < (x3.length : Int) then (if 0 ≤ x5 then (if 0 ≤ x4 then (if x4 < (x0.length : Int) then (if (rd x3 x5) < (rd x0 x4) then (spec_SortSets.l1 k x0 x3 x4 (wrap64 (x5 + 1))) else (if (rd x3 x5) = (rd x0 x4) then (spec_SortSets.l0 k x0 x3 (wrap64 (x4 + 1))) else ((some (([] : List Int) : List Int)).bind fun y486 => (if x5 ≤ (x3.length : Int) then ((some (x3.drop (x5 : Int).toNat : List Int)).bind fun y489 => (if y486.length + y489.length < 17592186044416 then ((some (y486 ++ y489 : List Int)).bind fun y493 => ((some (x3.take (x5 : Int).toNat : List Int)).bind fun y496 => (if y496.length < 17592186044416 then ((some (y496 ++ [rd x0 x4] : List Int)).bind fun y500 => (if y500.length + y493.length < 17592186044416 then (spec_SortSets.l0 k x0 (y500 ++ y493) (wrap64 (x4 + 1))) else (none))) else (none)))) else (none))) else (none))))) else (none)) else (none)) else (none)) else ((some (([] : List Int) : List Int)).bind fun y506 => (if 0 ≤ x5 then (if x5 ≤ (x3.length : Int) then ((some (x3.drop (x5 : Int).toNat : List Int)).bind fun y509 => (if y506.length + y509.length < 17592186044416 then ((some (y506 ++ y509 : List Int)).bind fun y513 => ((some (x3.take (x5 : Int).toNat : List Int)).bind fun y516 => (if 0 ≤ x4 then (if x4 < (x0.length : Int) then (if y516.length < 17592186044416 then ((some (y516 ++ [rd x0 x4] : List Int)).bind fun y520 => (if y520.length + y513.length < 17592186044416 then (spec_SortSets.l0 k x0 (y520 ++ y513) (wrap64 (x4 + 1))) else (none))) else (none)) else (none)) else (none)))) else (none))) else (none)) else (none)))
end
def spec_SortSets.f (k : Nat) (l0 : List Int) : Option (List Int) := spec_SortSets.l0 k l0 (([] : List Int)) 0
def spec_SortSets.T6 : Bool × List (List Nat × List Nat) := (true, [([], []), ([], []), ([1], [1]), ([0, 2], [0, 2]), ([3], [3]), ([4], [4]), ([4], [4]), ([5, 6, 4], [4, 5, 6]), ([7, 4], [4, 7]), ([4], [4]), ([4], [4]), ([9, 10, 4], [4, 9, 10]), ([11, 4], [4, 11]), ([8, 12, 4], [4, 8, 12]), ([4, 13], [4, 13])])
def spec_SortSets.B6 : List Nat := [0, 0, 2, 7, 15, 31, 31, 127, 255, 31, 31, 1567, 3615, 8191, 16383]
theorem spec_SortSets.tab6 : rtab .any (opsOf Tryz.f137 6) = spec_SortSets.T6 := by kernel_rfl
theorem spec_SortSets.bits6 : waitsOk spec_SortSets.T6.2 spec_SortSets.B6 = true := by kernel_rfl
def spec_SortSets.T8 : Bool × List (List Nat × List Nat) := (true, [([], []), ([], []), ([1], [1]), ([0, 2], [0, 2]), ([3], [3]), ([4], [4]), ([4], [4]), ([5, 6, 4], [4, 5, 6]), ([7, 4], [4, 7]), ([4], [4]), ([4], [4]), ([9, 10, 4], [4, 9, 10]), ([11, 4], [4, 11]), ([8, 12, 4], [4, 8, 12]), ([4, 13], [4, 13])])
def spec_SortSets.B8 : List Nat := [0, 0, 2, 7, 15, 31, 31, 127, 255, 31, 31, 1567, 3615, 8191, 16383]
theorem spec_SortSets.tab8 : rtab .any (opsOf Tryz.f137 8) = spec_SortSets.T8 := by kernel_rfl
theorem spec_SortSets.bits8 : waitsOk spec_SortSets.T8.2 spec_SortSets.B8 = true := by kernel_rfl
def spec_SortSets.T10 : Bool × List (List Nat × List Nat) := (true, [([], []), ([], []), ([0, 1], [0, 1]), ([], []), ([], []), ([3, 4], [3, 4]), ([5], [5]), ([6], [6]), ([2, 7], [2, 7]), ([], []), ([8, 9, 8], [8, 9]), ([10, 10, 0, 1, 2, 3, 4, 5, 6, 7, 8, 9, 10], [0, 10])])
def spec_SortSets.B10 : List Nat := [0, 0, 3, 0, 0, 24, 56, 120, 255, 0, 1023, 2047]
theorem spec_SortSets.tab10 : rtab .any (opsOf Tryz.f137 10) = spec_SortSets.T10 := by kernel_rfl
theorem spec_SortSets.bits10 : waitsOk spec_SortSets.T10.2 spec_SortSets.B10 = true := by kernel_rfl
set_option maxHeartbeats 8000000 in
set_option maxRecDepth 100000 in
theorem spec_SortSets.calls (k : Nat) (A0 : Option Addr) (c0 : Nat) (l0 : List Int) (r : List Int) (w : World) (hr0 : Kd.C (Kd.int .i64) w A0 l0.length l0) (hc0 : l0.length ≤ c0) (h : spec_SortSets.f k l0 = some r) :
  Calls Tryz.prog 137 #[.slice A0 l0.length c0] w fun e w' => ∃ v0_ : Value, e = .returned (v0_) ∧ Kd.R (Kd.int .i64) 3 w' w.heap.size (fun _ => True) v0_ r ∧ Below w.heap.size w w' := by
 have HR0 := Aside0.mk hr0
 have HC0 := Aside0.mk hc0
 clear hr0 hc0
 have HB := Aside0.mk (Below.refl w.heap.size w)
 unfold spec_SortSets.f at h
 have H := h
 clear h
 obtain ⟨y479, hy479⟩ : ∃ y_ : List Int, y_ = (([] : List Int)) := ⟨_, rfl⟩
 replace H : (spec_SortSets.l0 k l0 y479 0) = some r := by (try rw [hy479]); exact Hof.Z
 have Ny479 := Aside0.mk hy479
 clear hy479
 have H' := Aside0.mk H
 clear H
 go_enter Tryz.func137, Tryz.ntmps137
 go_wp2_with (first | (refine Hof.lt (Kd.int .i64) 3 7 ?_; intro v480 w2 ho3 hb hg_ hnew_; clear hg_ hnew_; (first | rw [← Ny479.out] at ho3 | (simp only [Int.reduceToNat] at ho3; rw [← Ny479.out] at ho3)); have HO481 := Aside0.mk (Kd.R_lower ho3 (below_size (Hof.Lw HB.out))); replace HB := Hof.lb HB hb; clear hb ho3))
 go_loopg [3, 4] k (fun kq v3 v4 w' => ∃ (x3_1 : List Int) (x4_1 : Int), v4 = .int .i64 x4_1 ∧ Aside0 (spec_SortSets.l0 kq l0 x3_1 x4_1 = some r) ∧ Aside0 (kq ≤ k) ∧ Aside0 (Kd.R (Kd.int .i64) 3 w' w.heap.size (fun _ => True) v3 x3_1) ∧ Aside0 (Below w.heap.size w w'))
 case atStart => exact ⟨(y479), (0), Hof.F, H', ⟨Nat.le_refl _⟩, ⟨Hof.Rw HO481.out⟩, ⟨Hof.Lw HB.out⟩⟩
 case round =>
  clear H'
  obtain ⟨x3_1, x4_1, rfl, HA, HK1, HO_3, HB⟩ := hrel
  cases gk with
  | zero => exact absurd HA.out (by simp [spec_SortSets.l0])
  | succ k1 =>
   have H := HA.out
   clear HA
   simp only [spec_SortSets.l0] at H
   by_cases c4 : x4_1 < (l0.length : Int)
   ·rw [if_pos c4] at H
    have c4b0 := decide_eq_true c4
    clear c4
    have H' := Aside0.mk H
    clear H
    go_wp2
    go_loopg [5] k1 (fun kq v5 w' => ∃ (x5_2 : Int), v5 = .int .i64 x5_2 ∧ Aside0 (spec_SortSets.l1 kq l0 x3_1 x4_1 x5_2 = some r) ∧ Aside0 (kq ≤ k1) ∧ Aside0 (Kd.R (Kd.int .i64) 3 w' w.heap.size (fun _ => True) u3 x3_1) ∧ Aside0 (Below w.heap.size w w'))
    case atStart => exact ⟨(0), Hof.F, H', ⟨Nat.le_refl _⟩, ⟨Hof.Rw HO_3.out⟩, ⟨Hof.Lw HB.out⟩⟩
    case round =>
     clear H'
     obtain ⟨x5_2, rfl, HA, HK2, HO_3, HB⟩ := hrel
     cases gk with
     | zero => exact absurd HA.out (by simp [spec_SortSets.l1])
     | succ k2 =>
      have H := HA.out
      clear HA
      simp only [spec_SortSets.l1] at H
      by_cases c5 : x5_2 < (x3_1.length : Int)
      ·rw [if_pos c5] at H
       have c5b0 := decide_eq_true c5
       clear c5
       by_cases c6 : 0 ≤ x5_2
       ·rw [if_pos c6] at H
        have c6b0 := decide_eq_true c6
        clear c6
        by_cases c7 : 0 ≤ x4_1
        ·rw [if_pos c7] at H
         have c7b0 := decide_eq_true c7
         clear c7
         by_cases c8 : x4_1 < (l0.length : Int)
         ·rw [if_pos c8] at H
          have c8b0 := decide_eq_true c8
          clear c8
          by_cases c9 : (rd x3_1 x5_2) < (rd l0 x4_1)
          ·rw [if_pos c9] at H
           have c9b0 := decide_eq_true c9
           clear c9
           have H' := Aside0.mk H
           clear H
           try go_wp2
           have n0_ := Aside0.mk (Kd.R_drew HO_3.out)
           have n1_ := Aside0.mk (below_drew1 HB.out)
           clear HO_3
           clear HB
           have HO_3 := n0_
           have HB := n1_
           clear n0_ n1_
           obtain ⟨Ao11, co11, eo11⟩ := Kd.R_slice HO_3.out
           (first | subst eo11 | (injection eo11 with f1_ f2_ f3_; have f4_ := f1_.symm; have f5_ := f3_.symm; clear f1_ f2_ f3_; subst f4_; subst f5_))
           have p482 : 0 ≤ (x5_2 : Int) := Hof.D
           have q482 : x5_2 < (x3_1.length : Int) := Hof.D
           obtain ⟨ad482, e482, hx482_0⟩ := Kd.at_int (Kd.R_reads' HO_3.out).2.2 x5_2 p482 q482
           cases e482
           replace p482 := eq_true p482
           replace q482 := eq_true q482
           have p483 : 0 ≤ (x4_1 : Int) := Hof.D
           have q483 : x4_1 < (l0.length : Int) := Hof.D
           obtain ⟨ad483, e483, hx483_0⟩ := Kd.at_int HR0.out x4_1 p483 q483
           have hw483_0 := hx483_0
           cases e483
           try replace hx483_0 := (HB.out.cell (World.block_lt_of_cell? w _ hx483_0)).trans hx483_0
           replace p483 := eq_true p483
           replace q483 := eq_true q483
           refine start_ (n := 15) (S := fun w' => w'.cell? (ad482.add (x5_2).toNat) = some (.int .i64 (rd x3_1 x5_2)) ∧ w'.cell? (ad483.add (x4_1).toNat) = some (.int .i64 (rd l0 x4_1))) (ds := []) #[false, false, false, false, false, false, false, false, false, false, false, false, false, false, false] (by kernel_rfl) rfl rfl ⟨hx482_0, ((HB.out.cell (World.block_lt_of_cell? w _ hw483_0)).trans hw483_0)⟩ (fun hHeld => ?_); refine with_tabW spec_SortSets.tab6 spec_SortSets.bits6 (fun HT_ HW_ => ?_)
           generalize wr.drew = w10 at HO_3 HB hx482_0 hx483_0 hHeld ⊢
           refine Hof.pu 0 14 HT_ ?_
           refine Hof.pu 1 15 HT_ ?_
           refine Hof.pu 2 16 HT_ ?_
           refine Hof.pu 3 17 HT_ ?_
           refine Hof.pu 4 18 HT_ ?_
           refine Hof.pu 5 19 HT_ ?_
           refine Hof.pu 6 20 HT_ ?_
           refine Hof.pu 7 21 HT_ ?_
           refine Hof.pu 9 23 HT_ ?_
           refine Hof.pu 10 24 HT_ ?_
           refine Hof.pu 11 25 HT_ ?_
           refine Hof.tk 8 22 HT_ HW_ hHeld ?_
           refine Hof.tk 12 26 HT_ HW_ hHeld ?_
           refine Hof.pu 13 27 HT_ ?_
           refine Hof.pu 14 28 HT_ ?_
           refine done_ (done_of HT_.out (by kernel_rfl)) ?_
           try go_wp2
           go_roundg k2
           case measure => have := HK1.out; have := HK2.out; omega
           case rel => exact ⟨(wrap64 (x5_2 + 1)), Hof.F, H', ⟨by have := HK1.out; have := HK2.out; omega⟩, ⟨Hof.Rw HO_3.out⟩, ⟨Hof.Lw HB.out⟩⟩
          ·rw [if_neg c9] at H
           have c9b0 : decide ((rd x3_1 x5_2) < (rd l0 x4_1)) = false := decide_eq_false c9
           clear c9
           by_cases c12 : (rd x3_1 x5_2) = (rd l0 x4_1)
           ·rw [if_pos c12] at H
            have c12b0 : ((rd x3_1 x5_2) == (rd l0 x4_1)) = true := beq_iff_eq.mpr c12
            have c12b1 : ((rd x3_1 x5_2) != (rd l0 x4_1)) = false := bne_eq_false_iff_eq.mpr c12
            clear c12
            have H' := Aside0.mk H
            clear H
            try go_wp2
            have n0_ := Aside0.mk (Kd.R_drew HO_3.out)
            have n1_ := Aside0.mk (below_drew1 HB.out)
            clear HO_3
            clear HB
            have HO_3 := n0_
            have HB := n1_
            clear n0_ n1_
            obtain ⟨Ao14, co14, eo14⟩ := Kd.R_slice HO_3.out
            (first | subst eo14 | (injection eo14 with f1_ f2_ f3_; have f4_ := f1_.symm; have f5_ := f3_.symm; clear f1_ f2_ f3_; subst f4_; subst f5_))
            have p482 : 0 ≤ (x5_2 : Int) := Hof.D
            have q482 : x5_2 < (x3_1.length : Int) := Hof.D
            obtain ⟨ad482, e482, hx482_0⟩ := Kd.at_int (Kd.R_reads' HO_3.out).2.2 x5_2 p482 q482
            cases e482
            replace p482 := eq_true p482
            replace q482 := eq_true q482
            have p483 : 0 ≤ (x4_1 : Int) := Hof.D
            have q483 : x4_1 < (l0.length : Int) := Hof.D
            obtain ⟨ad483, e483, hx483_0⟩ := Kd.at_int HR0.out x4_1 p483 q483
            have hw483_0 := hx483_0
            cases e483
            try replace hx483_0 := (HB.out.cell (World.block_lt_of_cell? w _ hx483_0)).trans hx483_0
            replace p483 := eq_true p483
            replace q483 := eq_true q483
            refine start_ (n := 15) (S := fun w' => w'.cell? (ad482.add (x5_2).toNat) = some (.int .i64 (rd x3_1 x5_2)) ∧ w'.cell? (ad483.add (x4_1).toNat) = some (.int .i64 (rd l0 x4_1))) (ds := []) #[false, false, false, false, false, false, false, false, false, false, false, false, false, false, false] (by kernel_rfl) rfl rfl ⟨hx482_0, ((HB.out.cell (World.block_lt_of_cell? w _ hw483_0)).trans hw483_0)⟩ (fun hHeld => ?_); refine with_tabW spec_SortSets.tab6 spec_SortSets.bits6 (fun HT_ HW_ => ?_)
            generalize wr.drew = w13 at HO_3 HB hx482_0 hx483_0 hHeld ⊢
            refine Hof.pu 0 14 HT_ ?_
            refine Hof.pu 1 15 HT_ ?_
            refine Hof.pu 2 16 HT_ ?_
            refine Hof.pu 3 17 HT_ ?_
            refine Hof.pu 4 18 HT_ ?_
            refine Hof.pu 5 19 HT_ ?_
            refine Hof.pu 6 20 HT_ ?_
            refine Hof.pu 7 21 HT_ ?_
            refine Hof.pu 9 23 HT_ ?_
            refine Hof.pu 10 24 HT_ ?_
            refine Hof.pu 11 25 HT_ ?_
            refine Hof.tk 8 22 HT_ HW_ hHeld ?_
            refine Hof.tk 12 26 HT_ HW_ hHeld ?_
            refine Hof.pu 13 27 HT_ ?_
            refine Hof.pu 14 28 HT_ ?_
            refine done_ (done_of HT_.out (by kernel_rfl)) ?_
            try go_wp2
            have n0_ := Aside0.mk (Kd.R_drew HO_3.out)
            have n1_ := Aside0.mk (below_drew1 HB.out)
            clear HO_3
            clear HB
            have HO_3 := n0_
            have HB := n1_
            clear n0_ n1_
            have p484 : 0 ≤ (x5_2 : Int) := Hof.D
            have q484 : x5_2 < (x3_1.length : Int) := Hof.D
            obtain ⟨ad484, e484, hx484_0⟩ := Kd.at_int (Kd.R_reads' HO_3.out).2.2 x5_2 p484 q484
            obtain rfl : ad482 = ad484 := (by injection e484)
            replace p484 := eq_true p484
            replace q484 := eq_true q484
            have p485 : 0 ≤ (x4_1 : Int) := Hof.D
            have q485 : x4_1 < (l0.length : Int) := Hof.D
            obtain ⟨ad485, e485, hx485_0⟩ := Kd.at_int HR0.out x4_1 p485 q485
            have hw485_0 := hx485_0
            obtain rfl : ad483 = ad485 := (by injection e485)
            try replace hx485_0 := (HB.out.cell (World.block_lt_of_cell? w _ hx485_0)).trans hx485_0
            replace p485 := eq_true p485
            replace q485 := eq_true q485
            refine start_ (n := 15) (S := fun w' => w'.cell? (ad482.add (x5_2).toNat) = some (.int .i64 (rd x3_1 x5_2)) ∧ w'.cell? (ad483.add (x4_1).toNat) = some (.int .i64 (rd l0 x4_1))) (ds := []) #[false, false, false, false, false, false, false, false, false, false, false, false, false, false, false] (by kernel_rfl) rfl rfl ⟨hx484_0, ((HB.out.cell (World.block_lt_of_cell? w _ hw485_0)).trans hw485_0)⟩ (fun hHeld => ?_); refine with_tabW spec_SortSets.tab8 spec_SortSets.bits8 (fun HT_ HW_ => ?_)
            generalize w13.drew = w15 at HO_3 HB hx484_0 hx485_0 hHeld ⊢
            refine Hof.pu 0 31 HT_ ?_
            refine Hof.pu 1 32 HT_ ?_
            refine Hof.pu 2 33 HT_ ?_
            refine Hof.pu 3 34 HT_ ?_
            refine Hof.pu 4 35 HT_ ?_
            refine Hof.pu 5 36 HT_ ?_
            refine Hof.pu 6 37 HT_ ?_
            refine Hof.pu 7 38 HT_ ?_
            refine Hof.pu 9 40 HT_ ?_
            refine Hof.pu 10 41 HT_ ?_
            refine Hof.pu 11 42 HT_ ?_
            refine Hof.tk 8 39 HT_ HW_ hHeld ?_
            refine Hof.tk 12 43 HT_ HW_ hHeld ?_
            refine Hof.pu 13 44 HT_ ?_
            refine Hof.pu 14 45 HT_ ?_
            refine done_ (done_of HT_.out (by kernel_rfl)) ?_
            try go_wp2
            go_roundg k2
            case measure => have := HK1.out; have := HK2.out; omega
            case rel => exact ⟨(x3_1), (wrap64 (x4_1 + 1)), Hof.F, H', ⟨by have := HK1.out; have := HK2.out; omega⟩, ⟨Hof.Rw HO_3.out⟩, ⟨Hof.Lw HB.out⟩⟩
           ·rw [if_neg c12] at H
            have c12b0 : ((rd x3_1 x5_2) == (rd l0 x4_1)) = false := beq_eq_false_iff_ne.mpr c12
            have c12b1 : ((rd x3_1 x5_2) != (rd l0 x4_1)) = true := bne_iff_ne.mpr c12
            obtain ⟨y486, hy486⟩ : ∃ y_ : List Int, y_ = (([] : List Int)) := ⟨_, rfl⟩
            replace H : (if x5_2 ≤ (x3_1.length : Int) then ((some (x3_1.drop (x5_2 : Int).toNat : List Int)).bind fun y489 => (if y486.length + y489.length < 17592186044416 then ((some (y486 ++ y489 : List Int)).bind fun y493 => ((some (x3_1.take (x5_2 : Int).toNat : List Int)).bind fun y496 => (if y496.length < 17592186044416 then ((some (y496 ++ [rd l0 x4_1] : List Int)).bind fun y500 => (if y500.length + y493.length < 17592186044416 then (spec_SortSets.l0 k2 l0 (y500 ++ y493) (wrap64 (x4_1 + 1))) else (none))) else (none)))) else (none))) else (none)) = some r := by (try rw [hy486]); exact Hof.Z
            have Ny486 := Aside0.mk hy486
            clear hy486
            have c16b0 := eq_true (Hof.D : 0 ≤ x5_2)
            by_cases c17 : x5_2 ≤ (x3_1.length : Int)
            ·rw [if_pos c17] at H
             have c17b0 := eq_true c17
             have c17b1 : decide (x5_2 ≤ (x3_1.length : Int)) = true := decide_eq_true c17
             clear c17
             obtain ⟨y489, hy489⟩ : ∃ y_ : List Int, y_ = (x3_1.drop (x5_2 : Int).toNat) := ⟨_, rfl⟩
             replace H : (if y486.length + y489.length < 17592186044416 then ((some (y486 ++ y489 : List Int)).bind fun y493 => ((some (x3_1.take (x5_2 : Int).toNat : List Int)).bind fun y496 => (if y496.length < 17592186044416 then ((some (y496 ++ [rd l0 x4_1] : List Int)).bind fun y500 => (if y500.length + y493.length < 17592186044416 then (spec_SortSets.l0 k2 l0 (y500 ++ y493) (wrap64 (x4_1 + 1))) else (none))) else (none)))) else (none)) = some r := by (try rw [hy489]); exact Hof.Z
             have Ny489 := Aside0.mk hy489
             clear hy489
             by_cases c18 : y486.length + y489.length < 17592186044416
             ·rw [if_pos c18] at H
              have LMc18 := Aside0.mk c18
              clear c18
              obtain ⟨y493, hy493⟩ : ∃ y_ : List Int, y_ = (y486 ++ y489) := ⟨_, rfl⟩
              replace H : ((some (x3_1.take (x5_2 : Int).toNat : List Int)).bind fun y496 => (if y496.length < 17592186044416 then ((some (y496 ++ [rd l0 x4_1] : List Int)).bind fun y500 => (if y500.length + y493.length < 17592186044416 then (spec_SortSets.l0 k2 l0 (y500 ++ y493) (wrap64 (x4_1 + 1))) else (none))) else (none))) = some r := by (try rw [hy493]); exact Hof.Z
              have Ny493 := Aside0.mk hy493
              clear hy493
              have c19b0 := eq_true (Hof.D : x5_2 ≤ (x3_1.length : Int))
              obtain ⟨y496, hy496⟩ : ∃ y_ : List Int, y_ = (x3_1.take (x5_2 : Int).toNat) := ⟨_, rfl⟩
              replace H : (if y496.length < 17592186044416 then ((some (y496 ++ [rd l0 x4_1] : List Int)).bind fun y500 => (if y500.length + y493.length < 17592186044416 then (spec_SortSets.l0 k2 l0 (y500 ++ y493) (wrap64 (x4_1 + 1))) else (none))) else (none)) = some r := by (try rw [hy496]); exact Hof.Z
              have Ny496 := Aside0.mk hy496
              clear hy496
              by_cases c20 : y496.length < 17592186044416
              ·rw [if_pos c20] at H
               have LMc20 := Aside0.mk c20
               clear c20
               obtain ⟨y500, hy500⟩ : ∃ y_ : List Int, y_ = (y496 ++ [rd l0 x4_1]) := ⟨_, rfl⟩
               replace H : (if y500.length + y493.length < 17592186044416 then (spec_SortSets.l0 k2 l0 (y500 ++ y493) (wrap64 (x4_1 + 1))) else (none)) = some r := by (try rw [hy500]); exact Hof.Z
               have Ny500 := Aside0.mk hy500
               clear hy500
               by_cases c21 : y500.length + y493.length < 17592186044416
               ·rw [if_pos c21] at H
                have LMc21 := Aside0.mk c21
                clear c21
                obtain ⟨y503, hy503⟩ : ∃ y_ : List Int, y_ = (y500 ++ y493) := ⟨_, rfl⟩
                replace H : (spec_SortSets.l0 k2 l0 y503 (wrap64 (x4_1 + 1))) = some r := by (try rw [hy503]); exact Hof.Z
                have Ny503 := Aside0.mk hy503
                clear hy503
                have H' := Aside0.mk H
                clear H
                try go_wp2
                have n0_ := Aside0.mk (Kd.R_drew HO_3.out)
                have n1_ := Aside0.mk (below_drew1 HB.out)
                clear HO_3
                clear HB
                have HO_3 := n0_
                have HB := n1_
                clear n0_ n1_
                obtain ⟨Ao23, co23, eo23⟩ := Kd.R_slice HO_3.out
                (first | subst eo23 | (injection eo23 with f1_ f2_ f3_; have f4_ := f1_.symm; have f5_ := f3_.symm; clear f1_ f2_ f3_; subst f4_; subst f5_))
                have p482 : 0 ≤ (x5_2 : Int) := Hof.D
                have q482 : x5_2 < (x3_1.length : Int) := Hof.D
                obtain ⟨ad482, e482, hx482_0⟩ := Kd.at_int (Kd.R_reads' HO_3.out).2.2 x5_2 p482 q482
                cases e482
                replace p482 := eq_true p482
                replace q482 := eq_true q482
                have p483 : 0 ≤ (x4_1 : Int) := Hof.D
                have q483 : x4_1 < (l0.length : Int) := Hof.D
                obtain ⟨ad483, e483, hx483_0⟩ := Kd.at_int HR0.out x4_1 p483 q483
                have hw483_0 := hx483_0
                cases e483
                try replace hx483_0 := (HB.out.cell (World.block_lt_of_cell? w _ hx483_0)).trans hx483_0
                replace p483 := eq_true p483
                replace q483 := eq_true q483
                refine start_ (n := 15) (S := fun w' => w'.cell? (ad482.add (x5_2).toNat) = some (.int .i64 (rd x3_1 x5_2)) ∧ w'.cell? (ad483.add (x4_1).toNat) = some (.int .i64 (rd l0 x4_1))) (ds := []) #[false, false, false, false, false, false, false, false, false, false, false, false, false, false, false] (by kernel_rfl) rfl rfl ⟨hx482_0, ((HB.out.cell (World.block_lt_of_cell? w _ hw483_0)).trans hw483_0)⟩ (fun hHeld => ?_); refine with_tabW spec_SortSets.tab6 spec_SortSets.bits6 (fun HT_ HW_ => ?_)
                generalize wr.drew = w22 at HO_3 HB hx482_0 hx483_0 hHeld ⊢
                refine Hof.pu 0 14 HT_ ?_
                refine Hof.pu 1 15 HT_ ?_
                refine Hof.pu 2 16 HT_ ?_
                refine Hof.pu 3 17 HT_ ?_
                refine Hof.pu 4 18 HT_ ?_
                refine Hof.pu 5 19 HT_ ?_
                refine Hof.pu 6 20 HT_ ?_
                refine Hof.pu 7 21 HT_ ?_
                refine Hof.pu 9 23 HT_ ?_
                refine Hof.pu 10 24 HT_ ?_
                refine Hof.pu 11 25 HT_ ?_
                refine Hof.tk 8 22 HT_ HW_ hHeld ?_
                refine Hof.tk 12 26 HT_ HW_ hHeld ?_
                refine Hof.pu 13 27 HT_ ?_
                refine Hof.pu 14 28 HT_ ?_
                refine done_ (done_of HT_.out (by kernel_rfl)) ?_
                try go_wp2
                have n0_ := Aside0.mk (Kd.R_drew HO_3.out)
                have n1_ := Aside0.mk (below_drew1 HB.out)
                clear HO_3
                clear HB
                have HO_3 := n0_
                have HB := n1_
                clear n0_ n1_
                have p484 : 0 ≤ (x5_2 : Int) := Hof.D
                have q484 : x5_2 < (x3_1.length : Int) := Hof.D
                obtain ⟨ad484, e484, hx484_0⟩ := Kd.at_int (Kd.R_reads' HO_3.out).2.2 x5_2 p484 q484
                obtain rfl : ad482 = ad484 := (by injection e484)
                replace p484 := eq_true p484
                replace q484 := eq_true q484
                have p485 : 0 ≤ (x4_1 : Int) := Hof.D
                have q485 : x4_1 < (l0.length : Int) := Hof.D
                obtain ⟨ad485, e485, hx485_0⟩ := Kd.at_int HR0.out x4_1 p485 q485
                have hw485_0 := hx485_0
                obtain rfl : ad483 = ad485 := (by injection e485)
                try replace hx485_0 := (HB.out.cell (World.block_lt_of_cell? w _ hx485_0)).trans hx485_0
                replace p485 := eq_true p485
                replace q485 := eq_true q485
                refine start_ (n := 15) (S := fun w' => w'.cell? (ad482.add (x5_2).toNat) = some (.int .i64 (rd x3_1 x5_2)) ∧ w'.cell? (ad483.add (x4_1).toNat) = some (.int .i64 (rd l0 x4_1))) (ds := []) #[false, false, false, false, false, false, false, false, false, false, false, false, false, false, false] (by kernel_rfl) rfl rfl ⟨hx484_0, ((HB.out.cell (World.block_lt_of_cell? w _ hw485_0)).trans hw485_0)⟩ (fun hHeld => ?_); refine with_tabW spec_SortSets.tab8 spec_SortSets.bits8 (fun HT_ HW_ => ?_)
                generalize w22.drew = w24 at HO_3 HB hx484_0 hx485_0 hHeld ⊢
                refine Hof.pu 0 31 HT_ ?_
                refine Hof.pu 1 32 HT_ ?_
                refine Hof.pu 2 33 HT_ ?_
                refine Hof.pu 3 34 HT_ ?_
                refine Hof.pu 4 35 HT_ ?_
                refine Hof.pu 5 36 HT_ ?_
                refine Hof.pu 6 37 HT_ ?_
                refine Hof.pu 7 38 HT_ ?_
                refine Hof.pu 9 40 HT_ ?_
                refine Hof.pu 10 41 HT_ ?_
                refine Hof.pu 11 42 HT_ ?_
                refine Hof.tk 8 39 HT_ HW_ hHeld ?_
                refine Hof.tk 12 43 HT_ HW_ hHeld ?_
                refine Hof.pu 13 44 HT_ ?_
                refine Hof.pu 14 45 HT_ ?_
                refine done_ (done_of HT_.out (by kernel_rfl)) ?_
                try go_wp2_with (first | (refine Hof.lt (Kd.int .i64) 3 46 ?_; intro v487 w25 ho26 hb hg_ hnew_; clear hg_ hnew_; (first | rw [← Ny486.out] at ho26 | (simp only [Int.reduceToNat] at ho26; rw [← Ny486.out] at ho26)); have HO488 := Aside0.mk (Kd.R_lower (Kd.R_new' ho26 (Kd.R_lt (Hof.Rw HO_3.out))) (below_size (Hof.Lw HB.out))); replace HO_3 := Aside0.mk (Kd.R_elder' (Hof.Rw HO_3.out) (Kd.R_base ho26) hb); replace HB := Hof.lb HB hb; clear hb ho26; have q27 : (x5_2 : Int) ≤ ((x3_1.length : Int) : Int) := Hof.D; obtain ⟨i027, hi027, _, hsz27, _⟩ := info_parts info3; have hroom27 : x3_1.length ≤ co23 := (Kd.R_reads' HO_3.out).2.1; have hC27 : Kd.C (Kd.int .i64) _ (some ad482) x3_1.length x3_1 := (Kd.R_reads' HO_3.out).2.2; have q027 : (0 : Int) ≤ (x5_2 : Int) := Hof.D; have hcut27 := cut_from (P := Tryz.prog) 28 3 .i64 Tryz.underlying28 hi027 1 hsz27 (some ad482) x3_1.length co23 x5_2 q027 q27; have hr27 := Kd.C_drop (m := (x5_2 : Int).toNat) (c := co23) hC27 (by omega) hroom27; obtain ⟨A27, hA27⟩ : ∃ A1, A1 = (if co23 = (x5_2 : Int).toNat then (some ad482) else ((some ad482) : Option Addr).map (·.add ((x5_2 : Int).toNat * 1))) := ⟨_, rfl⟩; obtain ⟨c27, hc27⟩ : ∃ c1, c1 = co23 - (x5_2 : Int).toNat := ⟨_, rfl⟩; have hy27 : y489.length = x3_1.length - (x5_2 : Int).toNat := (by rw [Ny489.out, List.length_drop] <;> omega); rw [show (x3_1).drop (x5_2 : Int).toNat = y489 from Ny489.out.symm] at hr27; replace hr27 : Kd.C (Kd.int .i64) _ A27 y489.length y489 := (by rw [hA27]; exact hr27); rw [← hy27, ← hA27, ← hc27] at hcut27; have HR492 := Aside0.mk hr27; have HC492 := Aside0.mk (show y489.length ≤ c27 from by rw [hy27, hc27]; exact Nat.sub_le_sub_right hroom27 _); clear hr27 hC27 hroom27 hi027 hsz27 hc27; have KY27 := Aside0.mk hy27; have KA27 := Aside0.mk hA27; clear hy27 hA27; have KL27 := Aside0.mk (show (x5_2 : Int).toNat ≤ x3_1.length from by omega); replace q27 := eq_true q27) | ((with_reducible refine gate_builtin (b := .append) (xs := #[.tmp 46, .tmp 49]) rfl ?_); at_builtin; refine Kd.R_append_rows (Kd.int .i64) (w0 := w) w.heap.size rfl (.tmp 46) (.tmp 49) 28 3 (.int .i64 0) 8 rfl Tryz.underlying28 info3 rfl (by decide) (by omega) v487 y486 y489 _ _ _ (fun k_ => some k_ ≠ (.slice (some ad482) x3_1.length co23 : Value).ownBlock) (fun _ => False) rfl rfl (by exact Hof.Rw (Kd.R_mono HO488.out (fun _ hk => hk.2))) (by repeat (first | exact (by repeat (first | (with_reducible exact HR492.out) | (with_reducible refine Kd.C_alloc ?_ _) | (with_reducible refine Kd.C_drewN ?_ _) | (with_reducible refine Kd.C_drew ?_) | exact HR492.out)) | (with_reducible refine Kd.C_alloc ?_ _) | (with_reducible refine Kd.C_drewN ?_ _) | (with_reducible refine Kd.C_drew ?_))) (fun _ _ h => h) (fun _ h => h.elim) (by exact fun k_ hk => Kd.fresh' (Kd.R_lt (Hof.Rw HO_3.out)) k_ hk) (by exact Hof.Lw HB.out) (by exact below_size (Hof.Lw HB.out)) (by have := LMc18.out; omega) ?_; intro v494 w28 ho hb hg hat; rw [← Ny493.out] at ho; have n0_ := Aside0.mk (Kd.R_after (ok := (fun _ => True)) (Hof.Rw HO_3.out) hg hat); have n1_ := Aside0.mk hb; have n2_ := Aside0.mk ((show Kd.C (Kd.int .i64) w28 A27 y489.length y489 from by rw [Ny489.out, KA27.out]; exact Kd.C_drop (m := (x5_2 : Int).toNat) (c := co23) ((Kd.R_reads' (Kd.R_after (ok := (fun _ => True)) (Hof.Rw HO_3.out) hg hat)).2.2) KL27.out ((Kd.R_reads' (Kd.R_after (ok := (fun _ => True)) (Hof.Rw HO_3.out) hg hat)).2.1))); have n3_ := Aside0.mk ho; clear HO_3; clear HB; clear HR492; clear HO488; have HO_3 := n0_; have HB := n1_; have HR492 := n2_; have HO495 := n3_; clear n0_ n1_ n2_ n3_; clear ho hb hg hat))
                have n0_ := Aside0.mk (Kd.R_drew HO_3.out)
                have n1_ := Aside0.mk (Kd.R_drew HO495.out)
                have n2_ := Aside0.mk (Kd.C_drew HR492.out)
                have n3_ := Aside0.mk (below_drew1 HB.out)
                clear HO_3
                clear HO495
                clear HR492
                clear HB
                have HO_3 := n0_
                have HO495 := n1_
                have HR492 := n2_
                have HB := n3_
                clear n0_ n1_ n2_ n3_
                have q30 : (x5_2 : Int) ≤ ((x3_1.length : Int) : Int) := Hof.D
                obtain ⟨i030, hi030, _, hsz30, _⟩ := info_parts info3
                have hcut30 := cut_to (P := Tryz.prog) 28 3 .i64 Tryz.underlying28 hi030 (some ad482) x3_1.length co23 x5_2 (Hof.D) q30 (Kd.R_reads' HO_3.out).2.1
                have hr30 := Kd.R_take (m := (x5_2 : Int).toNat) HO_3.out (by omega)
                have hy30 : y496.length = (x5_2 : Int).toNat := (by rw [Ny496.out, List.length_take]; omega)
                rw [← Ny496.out] at hr30
                rw [← hy30] at hr30 hcut30
                clear hy30 hi030 hsz30 HO_3
                have HO498 := Aside0.mk hr30
                clear hr30
                replace q30 := eq_true q30
                have p499 : 0 ≤ (x4_1 : Int) := Hof.D
                have q499 : x4_1 < (l0.length : Int) := Hof.D
                obtain ⟨ad499, e499, hx499_0⟩ := Kd.at_int HR0.out x4_1 p499 q499
                have hw499_0 := hx499_0
                obtain rfl : ad483 = ad499 := (by injection e499)
                try replace hx499_0 := (HB.out.cell (World.block_lt_of_cell? w _ hx499_0)).trans hx499_0
                replace p499 := eq_true p499
                replace q499 := eq_true q499
                refine start_ (n := 12) (S := fun w' => w'.cell? (ad483.add (x4_1).toNat) = some (.int .i64 (rd l0 x4_1))) (ds := []) #[false, false, false, false, false, false, false, false, false, false, false, false] (by kernel_rfl) rfl rfl (((HB.out.cell (World.block_lt_of_cell? w _ hw499_0)).trans hw499_0)) (fun hHeld => ?_); refine with_tabW spec_SortSets.tab10 spec_SortSets.bits10 (fun HT_ HW_ => ?_)
                generalize w28.drew = w29 at HO_3 HO495 HR492 HB HO498 hx499_0 hHeld ⊢
                refine Hof.pu 0 51 HT_ ?_
                refine Hof.pu 1 52 HT_ ?_
                refine Hof.pu 2 53 HT_ ?_
                refine Hof.pu 3 54 HT_ ?_
                refine Hof.pu 4 55 HT_ ?_
                refine Hof.pu 5 56 HT_ ?_
                refine Hof.pu 9 60 HT_ ?_
                refine take_ (i := 6) (N := some 57) (v := ?_) (a' := ?_) #[true, true, true, true, true, true, true, false, false, true, false, false] rfl rfl (take_ofW HT_.out HW_.out (by kernel_rfl)) (fun _ _ _ h => h) (Or.inl ⟨by rfl, ?_⟩) hHeld ?_ ?_
                rotate_left
                ·intro w' s0
                 go_simp
                 with_reducible rfl
                rotate_left
                ·simp only [Act.put, List.setIfInBounds_toArray, List.set_cons_zero, List.set_cons_succ, i64_w, i32_w]
                 rfl
                refine one_ (i := 7) (N := some 58) #[true, true, true, true, true, true, true, true, false, true, false, false] rfl rfl (one_of HT_.out (by kernel_rfl)) (by decide) (fun K hK => ?_)
                refine value_ (w1 := ?_) (v := ?_) (by rfl) rfl ?_ ?_
                rotate_left 2
                ·go_simp
                 constructor
                 ·rfl
                 ·rfl
                refine hK.out _ _ ((World.cell?_alloc_lt _ _ _ (World.block_lt_of_cell? _ _ (((HB.out.cell (World.block_lt_of_cell? w _ hw499_0)).trans hw499_0)))).trans (((HB.out.cell (World.block_lt_of_cell? w _ hw499_0)).trans hw499_0))) (fun hHeld => ?_)
                clear hK K
                refine norm_ (a' := ?_) ?_ ?_
                rotate_left
                ·show Act.put _ (some 58) _ = _
                 simp only [Act.put, List.setIfInBounds_toArray, List.set_cons_zero, List.set_cons_succ, i64_w, i32_w]
                 rfl
                refine one_ (i := 8) (N := some 59) #[true, true, true, true, true, true, true, true, true, true, false, false] rfl rfl (one_of HT_.out (by kernel_rfl)) (by decide) (fun K hK => ?_)
                refine Kd.R_append_step (Kd.int .i64) (w0 := w) w.heap.size (by rfl) (.tmp 53) (.tmp 58) 28 3 (.int .i64 0) 8 rfl Tryz.underlying28 info3 rfl (by decide) (by omega) (.slice (some ad482) y496.length co23) y496 (rd l0 x4_1) [.int .i64 (rd l0 x4_1)] (fun k_ => some k_ ≠ (v494 : Value).ownBlock) (fun _ => False) rfl rfl ?aP (fun _ hk => hk.elim) ?aF ?aO ?aB ?aS ?aL ?_
                (case aP => exact rfl)
                (case aB => exact (Hof.Lw HB.out))
                (case aF => exact (fun k_ hk => Kd.fresh' (Kd.R_lt (Hof.Rw HO495.out)) k_ hk))
                (case aO => exact (Hof.Rw (Kd.R_mono HO498.out (fun _ hk => hk.2))))
                (case aS => exact (below_size (Hof.Lw HB.out)))
                (case aL => have := LMc20.out; omega)
                intro v501 w31 ho hb hg hat
                rw [← Ny500.out] at ho
                have n0_ := Aside0.mk (Kd.R_after (ok := (fun _ => True)) (Hof.Rw (Kd.R_mono HO495.out (fun _ hk => ⟨trivial, (by first | exact hk | (cases Ao11 <;> exact hk) | (cases Ao14 <;> exact hk) | (cases Ao23 <;> exact hk) | (cases Ao33 <;> exact hk) | (cases Ao43 <;> exact hk) | (cases Ao53 <;> exact hk))⟩))) hg hat)
                have n1_ := Aside0.mk hb
                have n2_ := Aside0.mk ho
                clear HO495
                clear HB
                clear HO498
                have HO495 := n0_
                have HB := n1_
                have HO502 := n2_
                clear n0_ n1_ n2_
                clear ho hb hg hat
                obtain ⟨Ao33, co33, eo33⟩ := Kd.R_slice HO495.out
                (first | subst eo33 | (injection eo33 with f1_ f2_ f3_; have f4_ := f1_.symm; have f5_ := f3_.symm; clear f1_ f2_ f3_; subst f4_; subst f5_))
                refine hK.out _ _ (((HB.out.cell (World.block_lt_of_cell? w _ hw499_0)).trans hw499_0)) (fun hHeld => ?_)
                clear hK K
                refine norm_ (a' := ?_) ?_ ?_
                rotate_left
                ·show Act.put _ (some 59) _ = _
                 simp only [Act.put, List.setIfInBounds_toArray, List.set_cons_zero, List.set_cons_succ, i64_w, i32_w]
                 rfl
                refine one_ (i := 10) (N := some 61) #[true, true, true, true, true, true, true, true, true, true, true, false] rfl rfl (one_of HT_.out (by kernel_rfl)) (by decide) (fun K hK => ?_)
                refine Kd.R_append_rows_step (Kd.int .i64) (w0 := w) w.heap.size (by rfl) (.tmp 59) (.tmp 60) 28 3 (.int .i64 0) 8 rfl Tryz.underlying28 info3 rfl (by decide) (by omega) v501 y500 y493 _ _ _ (fun k_ => some k_ ≠ (.slice Ao33 y493.length co33 : Value).ownBlock) (fun _ => False) rfl rfl ?aO ?aR (fun _ _ h => h) (fun _ h => h.elim) ?aF ?aB ?aS ?aL ?_
                (case aR => repeat (first | exact (Kd.R_reads' HO495.out).2.2 | (with_reducible refine Kd.C_alloc ?_ _) | (with_reducible refine Kd.C_drewN ?_ _) | (with_reducible refine Kd.C_drew ?_)))
                (case aB => exact (Hof.Lw HB.out))
                (case aF => exact (fun k_ hk => Kd.fresh' (Kd.R_lt (Hof.Rw HO495.out)) k_ hk))
                (case aO => exact (Hof.Rw HO502.out))
                (case aS => exact (below_size (Hof.Lw HB.out)))
                (case aL => have := LMc21.out; omega)
                intro v504 w32 ho hb hg hat
                rw [← Ny503.out] at ho
                have n0_ := Aside0.mk (Kd.R_after (ok := (fun _ => True)) (Hof.Rw HO495.out) hg hat)
                have n1_ := Aside0.mk hb
                have n2_ := Aside0.mk ho
                clear HO495
                clear HB
                clear HO502
                have HO495 := n0_
                have HB := n1_
                have HO505 := n2_
                clear n0_ n1_ n2_
                clear ho hb hg hat
                refine hK.out _ _ (((HB.out.cell (World.block_lt_of_cell? w _ hw499_0)).trans hw499_0)) (fun hHeld => ?_)
                clear hK K
                refine norm_ (a' := ?_) ?_ ?_
                rotate_left
                ·show Act.put _ (some 61) _ = _
                 simp only [Act.put, List.setIfInBounds_toArray, List.set_cons_zero, List.set_cons_succ, i64_w, i32_w]
                 rfl
                refine Hof.pu 11 3 HT_ ?_
                refine done_ (done_of HT_.out (by kernel_rfl)) ?_
                try go_wp2
                go_roundg k2
                case measure => have := HK1.out; have := HK2.out; omega
                case rel => exact ⟨(y503), (wrap64 (x4_1 + 1)), Hof.F, H', ⟨by have := HK1.out; have := HK2.out; omega⟩, ⟨Hof.Rw (Kd.R_mono HO505.out (fun _ hk => trivial))⟩, ⟨Hof.Lw HB.out⟩⟩
               ·rw [if_neg c21] at H
                exact absurd H (by simp)
              ·rw [if_neg c20] at H
               exact absurd H (by simp)
             ·rw [if_neg c18] at H
              exact absurd H (by simp)
            ·rw [if_neg c17] at H
             exact absurd H (by simp)
         ·rw [if_neg c8] at H
          exact absurd H (by simp)
        ·rw [if_neg c7] at H
         exact absurd H (by simp)
       ·rw [if_neg c6] at H
        exact absurd H (by simp)
      ·rw [if_neg c5] at H
       have c5b0 : decide (x5_2 < (x3_1.length : Int)) = false := decide_eq_false c5
       clear c5
       obtain ⟨y506, hy506⟩ : ∃ y_ : List Int, y_ = (([] : List Int)) := ⟨_, rfl⟩
       replace H : (if 0 ≤ x5_2 then (if x5_2 ≤ (x3_1.length : Int) then ((some (x3_1.drop (x5_2 : Int).toNat : List Int)).bind fun y509 => (if y506.length + y509.length < 17592186044416 then ((some (y506 ++ y509 : List Int)).bind fun y513 => ((some (x3_1.take (x5_2 : Int).toNat : List Int)).bind fun y516 => (if 0 ≤ x4_1 then (if x4_1 < (l0.length : Int) then (if y516.length < 17592186044416 then ((some (y516 ++ [rd l0 x4_1] : List Int)).bind fun y520 => (if y520.length + y513.length < 17592186044416 then (spec_SortSets.l0 k2 l0 (y520 ++ y513) (wrap64 (x4_1 + 1))) else (none))) else (none)) else (none)) else (none)))) else (none))) else (none)) else (none)) = some r := by (try rw [hy506]); exact Hof.Z
       have Ny506 := Aside0.mk hy506
       clear hy506
       by_cases c34 : 0 ≤ x5_2
       ·rw [if_pos c34] at H
        have c34b0 := eq_true c34
        have c34b1 : decide (0 ≤ x5_2) = true := decide_eq_true c34
        clear c34
        by_cases c35 : x5_2 ≤ (x3_1.length : Int)
        ·rw [if_pos c35] at H
         have c35b0 := eq_true c35
         have c35b1 : decide (x5_2 ≤ (x3_1.length : Int)) = true := decide_eq_true c35
         clear c35
         obtain ⟨y509, hy509⟩ : ∃ y_ : List Int, y_ = (x3_1.drop (x5_2 : Int).toNat) := ⟨_, rfl⟩
         replace H : (if y506.length + y509.length < 17592186044416 then ((some (y506 ++ y509 : List Int)).bind fun y513 => ((some (x3_1.take (x5_2 : Int).toNat : List Int)).bind fun y516 => (if 0 ≤ x4_1 then (if x4_1 < (l0.length : Int) then (if y516.length < 17592186044416 then ((some (y516 ++ [rd l0 x4_1] : List Int)).bind fun y520 => (if y520.length + y513.length < 17592186044416 then (spec_SortSets.l0 k2 l0 (y520 ++ y513) (wrap64 (x4_1 + 1))) else (none))) else (none)) else (none)) else (none)))) else (none)) = some r := by (try rw [hy509]); exact Hof.Z
         have Ny509 := Aside0.mk hy509
         clear hy509
         by_cases c36 : y506.length + y509.length < 17592186044416
         ·rw [if_pos c36] at H
          have LMc36 := Aside0.mk c36
          clear c36
          obtain ⟨y513, hy513⟩ : ∃ y_ : List Int, y_ = (y506 ++ y509) := ⟨_, rfl⟩
          replace H : ((some (x3_1.take (x5_2 : Int).toNat : List Int)).bind fun y516 => (if 0 ≤ x4_1 then (if x4_1 < (l0.length : Int) then (if y516.length < 17592186044416 then ((some (y516 ++ [rd l0 x4_1] : List Int)).bind fun y520 => (if y520.length + y513.length < 17592186044416 then (spec_SortSets.l0 k2 l0 (y520 ++ y513) (wrap64 (x4_1 + 1))) else (none))) else (none)) else (none)) else (none))) = some r := by (try rw [hy513]); exact Hof.Z
          have Ny513 := Aside0.mk hy513
          clear hy513
          have c37b0 := eq_true (Hof.D : x5_2 ≤ (x3_1.length : Int))
          obtain ⟨y516, hy516⟩ : ∃ y_ : List Int, y_ = (x3_1.take (x5_2 : Int).toNat) := ⟨_, rfl⟩
          replace H : (if 0 ≤ x4_1 then (if x4_1 < (l0.length : Int) then (if y516.length < 17592186044416 then ((some (y516 ++ [rd l0 x4_1] : List Int)).bind fun y520 => (if y520.length + y513.length < 17592186044416 then (spec_SortSets.l0 k2 l0 (y520 ++ y513) (wrap64 (x4_1 + 1))) else (none))) else (none)) else (none)) else (none)) = some r := by (try rw [hy516]); exact Hof.Z
          have Ny516 := Aside0.mk hy516
          clear hy516
          by_cases c38 : 0 ≤ x4_1
          ·rw [if_pos c38] at H
           have c38b0 := decide_eq_true c38
           clear c38
           by_cases c39 : x4_1 < (l0.length : Int)
           ·rw [if_pos c39] at H
            have c39b0 := decide_eq_true c39
            clear c39
            by_cases c40 : y516.length < 17592186044416
            ·rw [if_pos c40] at H
             have LMc40 := Aside0.mk c40
             clear c40
             obtain ⟨y520, hy520⟩ : ∃ y_ : List Int, y_ = (y516 ++ [rd l0 x4_1]) := ⟨_, rfl⟩
             replace H : (if y520.length + y513.length < 17592186044416 then (spec_SortSets.l0 k2 l0 (y520 ++ y513) (wrap64 (x4_1 + 1))) else (none)) = some r := by (try rw [hy520]); exact Hof.Z
             have Ny520 := Aside0.mk hy520
             clear hy520
             by_cases c41 : y520.length + y513.length < 17592186044416
             ·rw [if_pos c41] at H
              have LMc41 := Aside0.mk c41
              clear c41
              obtain ⟨y523, hy523⟩ : ∃ y_ : List Int, y_ = (y520 ++ y513) := ⟨_, rfl⟩
              replace H : (spec_SortSets.l0 k2 l0 y523 (wrap64 (x4_1 + 1))) = some r := by (try rw [hy523]); exact Hof.Z
              have Ny523 := Aside0.mk hy523
              clear hy523
              have H' := Aside0.mk H
              clear H
              try go_wp2
              have n0_ := Aside0.mk (Kd.R_drew HO_3.out)
              have n1_ := Aside0.mk (below_drew1 HB.out)
              clear HO_3
              clear HB
              have HO_3 := n0_
              have HB := n1_
              clear n0_ n1_
              obtain ⟨Ao43, co43, eo43⟩ := Kd.R_slice HO_3.out
              (first | subst eo43 | (injection eo43 with f1_ f2_ f3_; have f4_ := f1_.symm; have f5_ := f3_.symm; clear f1_ f2_ f3_; subst f4_; subst f5_))
              refine start_ (n := 15) (S := fun w' => True) (ds := []) #[false, false, false, false, false, false, false, false, false, false, false, false, false, false, false] (by kernel_rfl) rfl rfl trivial (fun hHeld => ?_); refine with_tabW spec_SortSets.tab6 spec_SortSets.bits6 (fun HT_ HW_ => ?_)
              generalize wr.drew = w42 at HO_3 HB hHeld ⊢
              refine Hof.pu 0 14 HT_ ?_
              refine Hof.pu 1 15 HT_ ?_
              refine Hof.pu 2 16 HT_ ?_
              refine Hof.pu 3 17 HT_ ?_
              refine Hof.pu 4 18 HT_ ?_
              refine pure_ (i := 5) (N := some 19) (v := undef) (a' := ?_) #[true, true, true, true, true, true, false, false, false, false, false, false, false, false, false] rfl rfl (any_of HT_.out (by kernel_rfl)) (fun _ _ _ h => h) (Or.inr ⟨by rfl, rfl⟩) ?_ ?_
              rotate_left
              ·simp only [Act.put, List.setIfInBounds_toArray, List.set_cons_zero, List.set_cons_succ, i64_w, i32_w]
               rfl
              refine pure_ (i := 6) (N := some 20) (v := undef) (a' := ?_) #[true, true, true, true, true, true, true, false, false, false, false, false, false, false, false] rfl rfl (any_of HT_.out (by kernel_rfl)) (fun _ _ _ h => h) (Or.inr ⟨by rfl, rfl⟩) ?_ ?_
              rotate_left
              ·simp only [Act.put, List.setIfInBounds_toArray, List.set_cons_zero, List.set_cons_succ, i64_w, i32_w]
               rfl
              refine pure_ (i := 7) (N := some 21) (v := undef) (a' := ?_) #[true, true, true, true, true, true, true, true, false, false, false, false, false, false, false] rfl rfl (any_of HT_.out (by kernel_rfl)) (fun _ _ _ h => h) (Or.inr ⟨by rfl, rfl⟩) ?_ ?_
              rotate_left
              ·simp only [Act.put, List.setIfInBounds_toArray, List.set_cons_zero, List.set_cons_succ, i64_w, i32_w]
               rfl
              refine pure_ (i := 8) (N := some 22) (v := undef) (a' := ?_) #[true, true, true, true, true, true, true, true, true, false, false, false, false, false, false] rfl rfl (any_of HT_.out (by kernel_rfl)) (fun _ _ _ h => h) (Or.inr ⟨by rfl, rfl⟩) ?_ ?_
              rotate_left
              ·simp only [Act.put, List.setIfInBounds_toArray, List.set_cons_zero, List.set_cons_succ, i64_w, i32_w]
               rfl
              refine pure_ (i := 9) (N := some 23) (v := undef) (a' := ?_) #[true, true, true, true, true, true, true, true, true, true, false, false, false, false, false] rfl rfl (any_of HT_.out (by kernel_rfl)) (fun _ _ _ h => h) (Or.inr ⟨by rfl, rfl⟩) ?_ ?_
              rotate_left
              ·simp only [Act.put, List.setIfInBounds_toArray, List.set_cons_zero, List.set_cons_succ, i64_w, i32_w]
               rfl
              refine pure_ (i := 10) (N := some 24) (v := undef) (a' := ?_) #[true, true, true, true, true, true, true, true, true, true, true, false, false, false, false] rfl rfl (any_of HT_.out (by kernel_rfl)) (fun _ _ _ h => h) (Or.inr ⟨by rfl, rfl⟩) ?_ ?_
              rotate_left
              ·simp only [Act.put, List.setIfInBounds_toArray, List.set_cons_zero, List.set_cons_succ, i64_w, i32_w]
               rfl
              refine pure_ (i := 11) (N := some 25) (v := undef) (a' := ?_) #[true, true, true, true, true, true, true, true, true, true, true, true, false, false, false] rfl rfl (any_of HT_.out (by kernel_rfl)) (fun _ _ _ h => h) (Or.inr ⟨by rfl, rfl⟩) ?_ ?_
              rotate_left
              ·simp only [Act.put, List.setIfInBounds_toArray, List.set_cons_zero, List.set_cons_succ, i64_w, i32_w]
               rfl
              refine pure_ (i := 12) (N := some 26) (v := undef) (a' := ?_) #[true, true, true, true, true, true, true, true, true, true, true, true, true, false, false] rfl rfl (any_of HT_.out (by kernel_rfl)) (fun _ _ _ h => h) (Or.inr ⟨by rfl, rfl⟩) ?_ ?_
              rotate_left
              ·simp only [Act.put, List.setIfInBounds_toArray, List.set_cons_zero, List.set_cons_succ, i64_w, i32_w]
               rfl
              refine pure_ (i := 13) (N := some 27) (v := undef) (a' := ?_) #[true, true, true, true, true, true, true, true, true, true, true, true, true, true, false] rfl rfl (any_of HT_.out (by kernel_rfl)) (fun _ _ _ h => h) (Or.inr ⟨by rfl, rfl⟩) ?_ ?_
              rotate_left
              ·simp only [Act.put, List.setIfInBounds_toArray, List.set_cons_zero, List.set_cons_succ, i64_w, i32_w]
               rfl
              refine Hof.pu 14 28 HT_ ?_
              refine done_ (done_of HT_.out (by kernel_rfl)) ?_
              try go_wp2
              have n0_ := Aside0.mk (Kd.R_drew HO_3.out)
              have n1_ := Aside0.mk (below_drew1 HB.out)
              clear HO_3
              clear HB
              have HO_3 := n0_
              have HB := n1_
              clear n0_ n1_
              refine start_ (n := 15) (S := fun w' => True) (ds := []) #[false, false, false, false, false, false, false, false, false, false, false, false, false, false, false] (by kernel_rfl) rfl rfl trivial (fun hHeld => ?_); refine with_tabW spec_SortSets.tab8 spec_SortSets.bits8 (fun HT_ HW_ => ?_)
              generalize w42.drew = w44 at HO_3 HB hHeld ⊢
              refine Hof.pu 0 31 HT_ ?_
              refine Hof.pu 1 32 HT_ ?_
              refine Hof.pu 2 33 HT_ ?_
              refine Hof.pu 3 34 HT_ ?_
              refine Hof.pu 4 35 HT_ ?_
              refine pure_ (i := 5) (N := some 36) (v := undef) (a' := ?_) #[true, true, true, true, true, true, false, false, false, false, false, false, false, false, false] rfl rfl (any_of HT_.out (by kernel_rfl)) (fun _ _ _ h => h) (Or.inr ⟨by rfl, rfl⟩) ?_ ?_
              rotate_left
              ·simp only [Act.put, List.setIfInBounds_toArray, List.set_cons_zero, List.set_cons_succ, i64_w, i32_w]
               rfl
              refine pure_ (i := 6) (N := some 37) (v := undef) (a' := ?_) #[true, true, true, true, true, true, true, false, false, false, false, false, false, false, false] rfl rfl (any_of HT_.out (by kernel_rfl)) (fun _ _ _ h => h) (Or.inr ⟨by rfl, rfl⟩) ?_ ?_
              rotate_left
              ·simp only [Act.put, List.setIfInBounds_toArray, List.set_cons_zero, List.set_cons_succ, i64_w, i32_w]
               rfl
              refine pure_ (i := 7) (N := some 38) (v := undef) (a' := ?_) #[true, true, true, true, true, true, true, true, false, false, false, false, false, false, false] rfl rfl (any_of HT_.out (by kernel_rfl)) (fun _ _ _ h => h) (Or.inr ⟨by rfl, rfl⟩) ?_ ?_
              rotate_left
              ·simp only [Act.put, List.setIfInBounds_toArray, List.set_cons_zero, List.set_cons_succ, i64_w, i32_w]
               rfl
              refine pure_ (i := 8) (N := some 39) (v := undef) (a' := ?_) #[true, true, true, true, true, true, true, true, true, false, false, false, false, false, false] rfl rfl (any_of HT_.out (by kernel_rfl)) (fun _ _ _ h => h) (Or.inr ⟨by rfl, rfl⟩) ?_ ?_
              rotate_left
              ·simp only [Act.put, List.setIfInBounds_toArray, List.set_cons_zero, List.set_cons_succ, i64_w, i32_w]
               rfl
              refine pure_ (i := 9) (N := some 40) (v := undef) (a' := ?_) #[true, true, true, true, true, true, true, true, true, true, false, false, false, false, false] rfl rfl (any_of HT_.out (by kernel_rfl)) (fun _ _ _ h => h) (Or.inr ⟨by rfl, rfl⟩) ?_ ?_
              rotate_left
              ·simp only [Act.put, List.setIfInBounds_toArray, List.set_cons_zero, List.set_cons_succ, i64_w, i32_w]
               rfl
              refine pure_ (i := 10) (N := some 41) (v := undef) (a' := ?_) #[true, true, true, true, true, true, true, true, true, true, true, false, false, false, false] rfl rfl (any_of HT_.out (by kernel_rfl)) (fun _ _ _ h => h) (Or.inr ⟨by rfl, rfl⟩) ?_ ?_
              rotate_left
              ·simp only [Act.put, List.setIfInBounds_toArray, List.set_cons_zero, List.set_cons_succ, i64_w, i32_w]
               rfl
              refine pure_ (i := 11) (N := some 42) (v := undef) (a' := ?_) #[true, true, true, true, true, true, true, true, true, true, true, true, false, false, false] rfl rfl (any_of HT_.out (by kernel_rfl)) (fun _ _ _ h => h) (Or.inr ⟨by rfl, rfl⟩) ?_ ?_
              rotate_left
              ·simp only [Act.put, List.setIfInBounds_toArray, List.set_cons_zero, List.set_cons_succ, i64_w, i32_w]
               rfl
              refine pure_ (i := 12) (N := some 43) (v := undef) (a' := ?_) #[true, true, true, true, true, true, true, true, true, true, true, true, true, false, false] rfl rfl (any_of HT_.out (by kernel_rfl)) (fun _ _ _ h => h) (Or.inr ⟨by rfl, rfl⟩) ?_ ?_
              rotate_left
              ·simp only [Act.put, List.setIfInBounds_toArray, List.set_cons_zero, List.set_cons_succ, i64_w, i32_w]
               rfl
              refine pure_ (i := 13) (N := some 44) (v := undef) (a' := ?_) #[true, true, true, true, true, true, true, true, true, true, true, true, true, true, false] rfl rfl (any_of HT_.out (by kernel_rfl)) (fun _ _ _ h => h) (Or.inr ⟨by rfl, rfl⟩) ?_ ?_
              rotate_left
              ·simp only [Act.put, List.setIfInBounds_toArray, List.set_cons_zero, List.set_cons_succ, i64_w, i32_w]
               rfl
              refine Hof.pu 14 45 HT_ ?_
              refine done_ (done_of HT_.out (by kernel_rfl)) ?_
              try go_wp2_with (first | (refine Hof.lt (Kd.int .i64) 3 46 ?_; intro v507 w45 ho46 hb hg_ hnew_; clear hg_ hnew_; (first | rw [← Ny506.out] at ho46 | (simp only [Int.reduceToNat] at ho46; rw [← Ny506.out] at ho46)); have HO508 := Aside0.mk (Kd.R_lower (Kd.R_new' ho46 (Kd.R_lt (Hof.Rw HO_3.out))) (below_size (Hof.Lw HB.out))); replace HO_3 := Aside0.mk (Kd.R_elder' (Hof.Rw HO_3.out) (Kd.R_base ho46) hb); replace HB := Hof.lb HB hb; clear hb ho46; have q47 : (x5_2 : Int) ≤ ((x3_1.length : Int) : Int) := Hof.D; obtain ⟨i047, hi047, _, hsz47, _⟩ := info_parts info3; have hroom47 : x3_1.length ≤ co43 := (Kd.R_reads' HO_3.out).2.1; have hC47 : Kd.C (Kd.int .i64) _ Ao43 x3_1.length x3_1 := (Kd.R_reads' HO_3.out).2.2; have q047 : (0 : Int) ≤ (x5_2 : Int) := Hof.D; have hcut47 := cut_from (P := Tryz.prog) 28 3 .i64 Tryz.underlying28 hi047 1 hsz47 Ao43 x3_1.length co43 x5_2 q047 q47; have hr47 := Kd.C_drop (m := (x5_2 : Int).toNat) (c := co43) hC47 (by omega) hroom47; obtain ⟨A47, hA47⟩ : ∃ A1, A1 = (if co43 = (x5_2 : Int).toNat then Ao43 else (Ao43 : Option Addr).map (·.add ((x5_2 : Int).toNat * 1))) := ⟨_, rfl⟩; obtain ⟨c47, hc47⟩ : ∃ c1, c1 = co43 - (x5_2 : Int).toNat := ⟨_, rfl⟩; have hy47 : y509.length = x3_1.length - (x5_2 : Int).toNat := (by rw [Ny509.out, List.length_drop] <;> omega); rw [show (x3_1).drop (x5_2 : Int).toNat = y509 from Ny509.out.symm] at hr47; replace hr47 : Kd.C (Kd.int .i64) _ A47 y509.length y509 := (by rw [hA47]; exact hr47); rw [← hy47, ← hA47, ← hc47] at hcut47; have HR512 := Aside0.mk hr47; have HC512 := Aside0.mk (show y509.length ≤ c47 from by rw [hy47, hc47]; exact Nat.sub_le_sub_right hroom47 _); clear hr47 hC47 hroom47 hi047 hsz47 hc47; have KY47 := Aside0.mk hy47; have KA47 := Aside0.mk hA47; clear hy47 hA47; have KL47 := Aside0.mk (show (x5_2 : Int).toNat ≤ x3_1.length from by omega); replace q47 := eq_true q47) | ((with_reducible refine gate_builtin (b := .append) (xs := #[.tmp 46, .tmp 49]) rfl ?_); at_builtin; refine Kd.R_append_rows (Kd.int .i64) (w0 := w) w.heap.size rfl (.tmp 46) (.tmp 49) 28 3 (.int .i64 0) 8 rfl Tryz.underlying28 info3 rfl (by decide) (by omega) v507 y506 y509 _ _ _ (fun k_ => some k_ ≠ (.slice Ao43 x3_1.length co43 : Value).ownBlock) (fun _ => False) rfl rfl (by exact Hof.Rw (Kd.R_mono HO508.out (fun _ hk => hk.2))) (by repeat (first | exact (by repeat (first | (with_reducible exact HR512.out) | (with_reducible refine Kd.C_alloc ?_ _) | (with_reducible refine Kd.C_drewN ?_ _) | (with_reducible refine Kd.C_drew ?_) | exact HR512.out)) | (with_reducible refine Kd.C_alloc ?_ _) | (with_reducible refine Kd.C_drewN ?_ _) | (with_reducible refine Kd.C_drew ?_))) (fun _ _ h => h) (fun _ h => h.elim) (by exact fun k_ hk => Kd.fresh' (Kd.R_lt (Hof.Rw HO_3.out)) k_ hk) (by exact Hof.Lw HB.out) (by exact below_size (Hof.Lw HB.out)) (by have := LMc36.out; omega) ?_; intro v514 w48 ho hb hg hat; rw [← Ny513.out] at ho; have n0_ := Aside0.mk (Kd.R_after (ok := (fun _ => True)) (Hof.Rw HO_3.out) hg hat); have n1_ := Aside0.mk hb; have n2_ := Aside0.mk ((show Kd.C (Kd.int .i64) w48 A47 y509.length y509 from by rw [Ny509.out, KA47.out]; exact Kd.C_drop (m := (x5_2 : Int).toNat) (c := co43) ((Kd.R_reads' (Kd.R_after (ok := (fun _ => True)) (Hof.Rw HO_3.out) hg hat)).2.2) KL47.out ((Kd.R_reads' (Kd.R_after (ok := (fun _ => True)) (Hof.Rw HO_3.out) hg hat)).2.1))); have n3_ := Aside0.mk ho; clear HO_3; clear HB; clear HR512; clear HO508; have HO_3 := n0_; have HB := n1_; have HR512 := n2_; have HO515 := n3_; clear n0_ n1_ n2_ n3_; clear ho hb hg hat))
              have n0_ := Aside0.mk (Kd.R_drew HO_3.out)
              have n1_ := Aside0.mk (Kd.R_drew HO515.out)
              have n2_ := Aside0.mk (Kd.C_drew HR512.out)
              have n3_ := Aside0.mk (below_drew1 HB.out)
              clear HO_3
              clear HO515
              clear HR512
              clear HB
              have HO_3 := n0_
              have HO515 := n1_
              have HR512 := n2_
              have HB := n3_
              clear n0_ n1_ n2_ n3_
              have q50 : (x5_2 : Int) ≤ ((x3_1.length : Int) : Int) := Hof.D
              obtain ⟨i050, hi050, _, hsz50, _⟩ := info_parts info3
              have hcut50 := cut_to (P := Tryz.prog) 28 3 .i64 Tryz.underlying28 hi050 Ao43 x3_1.length co43 x5_2 (Hof.D) q50 (Kd.R_reads' HO_3.out).2.1
              have hr50 := Kd.R_take (m := (x5_2 : Int).toNat) HO_3.out (by omega)
              have hy50 : y516.length = (x5_2 : Int).toNat := (by rw [Ny516.out, List.length_take]; omega)
              rw [← Ny516.out] at hr50
              rw [← hy50] at hr50 hcut50
              clear hy50 hi050 hsz50 HO_3
              have HO518 := Aside0.mk hr50
              clear hr50
              replace q50 := eq_true q50
              have p519 : 0 ≤ (x4_1 : Int) := Hof.D
              have q519 : x4_1 < (l0.length : Int) := Hof.D
              obtain ⟨ad519, e519, hx519_0⟩ := Kd.at_int HR0.out x4_1 p519 q519
              have hw519_0 := hx519_0
              cases e519
              try replace hx519_0 := (HB.out.cell (World.block_lt_of_cell? w _ hx519_0)).trans hx519_0
              replace p519 := eq_true p519
              replace q519 := eq_true q519
              refine start_ (n := 12) (S := fun w' => w'.cell? (ad519.add (x4_1).toNat) = some (.int .i64 (rd l0 x4_1))) (ds := []) #[false, false, false, false, false, false, false, false, false, false, false, false] (by kernel_rfl) rfl rfl (((HB.out.cell (World.block_lt_of_cell? w _ hw519_0)).trans hw519_0)) (fun hHeld => ?_); refine with_tabW spec_SortSets.tab10 spec_SortSets.bits10 (fun HT_ HW_ => ?_)
              generalize w48.drew = w49 at HO_3 HO515 HR512 HB HO518 hx519_0 hHeld ⊢
              refine Hof.pu 0 51 HT_ ?_
              refine Hof.pu 1 52 HT_ ?_
              refine Hof.pu 2 53 HT_ ?_
              refine Hof.pu 3 54 HT_ ?_
              refine Hof.pu 4 55 HT_ ?_
              refine Hof.pu 5 56 HT_ ?_
              refine Hof.pu 9 60 HT_ ?_
              refine take_ (i := 6) (N := some 57) (v := ?_) (a' := ?_) #[true, true, true, true, true, true, true, false, false, true, false, false] rfl rfl (take_ofW HT_.out HW_.out (by kernel_rfl)) (fun _ _ _ h => h) (Or.inl ⟨by rfl, ?_⟩) hHeld ?_ ?_
              rotate_left
              ·intro w' s0
               go_simp
               with_reducible rfl
              rotate_left
              ·simp only [Act.put, List.setIfInBounds_toArray, List.set_cons_zero, List.set_cons_succ, i64_w, i32_w]
               rfl
              refine one_ (i := 7) (N := some 58) #[true, true, true, true, true, true, true, true, false, true, false, false] rfl rfl (one_of HT_.out (by kernel_rfl)) (by decide) (fun K hK => ?_)
              refine value_ (w1 := ?_) (v := ?_) (by rfl) rfl ?_ ?_
              rotate_left 2
              ·go_simp
               constructor
               ·rfl
               ·rfl
              refine hK.out _ _ ((World.cell?_alloc_lt _ _ _ (World.block_lt_of_cell? _ _ (((HB.out.cell (World.block_lt_of_cell? w _ hw519_0)).trans hw519_0)))).trans (((HB.out.cell (World.block_lt_of_cell? w _ hw519_0)).trans hw519_0))) (fun hHeld => ?_)
              clear hK K
              refine norm_ (a' := ?_) ?_ ?_
              rotate_left
              ·show Act.put _ (some 58) _ = _
               simp only [Act.put, List.setIfInBounds_toArray, List.set_cons_zero, List.set_cons_succ, i64_w, i32_w]
               rfl
              refine one_ (i := 8) (N := some 59) #[true, true, true, true, true, true, true, true, true, true, false, false] rfl rfl (one_of HT_.out (by kernel_rfl)) (by decide) (fun K hK => ?_)
              refine Kd.R_append_step (Kd.int .i64) (w0 := w) w.heap.size (by rfl) (.tmp 53) (.tmp 58) 28 3 (.int .i64 0) 8 rfl Tryz.underlying28 info3 rfl (by decide) (by omega) (.slice Ao43 y516.length co43) y516 (rd l0 x4_1) [.int .i64 (rd l0 x4_1)] (fun k_ => some k_ ≠ (v514 : Value).ownBlock) (fun _ => False) rfl rfl ?aP (fun _ hk => hk.elim) ?aF ?aO ?aB ?aS ?aL ?_
              (case aP => exact rfl)
              (case aB => exact (Hof.Lw HB.out))
              (case aF => exact (fun k_ hk => Kd.fresh' (Kd.R_lt (Hof.Rw HO515.out)) k_ hk))
              (case aO => exact (Hof.Rw (Kd.R_mono HO518.out (fun _ hk => hk.2))))
              (case aS => exact (below_size (Hof.Lw HB.out)))
              (case aL => have := LMc40.out; omega)
              intro v521 w51 ho hb hg hat
              rw [← Ny520.out] at ho
              have n0_ := Aside0.mk (Kd.R_after (ok := (fun _ => True)) (Hof.Rw (Kd.R_mono HO515.out (fun _ hk => ⟨trivial, (by first | exact hk | (cases Ao11 <;> exact hk) | (cases Ao14 <;> exact hk) | (cases Ao23 <;> exact hk) | (cases Ao33 <;> exact hk) | (cases Ao43 <;> exact hk) | (cases Ao53 <;> exact hk))⟩))) hg hat)
              have n1_ := Aside0.mk hb
              have n2_ := Aside0.mk ho
              clear HO515
              clear HB
              clear HO518
              have HO515 := n0_
              have HB := n1_
              have HO522 := n2_
              clear n0_ n1_ n2_
              clear ho hb hg hat
              obtain ⟨Ao53, co53, eo53⟩ := Kd.R_slice HO515.out
              (first | subst eo53 | (injection eo53 with f1_ f2_ f3_; have f4_ := f1_.symm; have f5_ := f3_.symm; clear f1_ f2_ f3_; subst f4_; subst f5_))
              refine hK.out _ _ (((HB.out.cell (World.block_lt_of_cell? w _ hw519_0)).trans hw519_0)) (fun hHeld => ?_)
              clear hK K
              refine norm_ (a' := ?_) ?_ ?_
              rotate_left
              ·show Act.put _ (some 59) _ = _
               simp only [Act.put, List.setIfInBounds_toArray, List.set_cons_zero, List.set_cons_succ, i64_w, i32_w]
               rfl
              refine one_ (i := 10) (N := some 61) #[true, true, true, true, true, true, true, true, true, true, true, false] rfl rfl (one_of HT_.out (by kernel_rfl)) (by decide) (fun K hK => ?_)
              refine Kd.R_append_rows_step (Kd.int .i64) (w0 := w) w.heap.size (by rfl) (.tmp 59) (.tmp 60) 28 3 (.int .i64 0) 8 rfl Tryz.underlying28 info3 rfl (by decide) (by omega) v521 y520 y513 _ _ _ (fun k_ => some k_ ≠ (.slice Ao53 y513.length co53 : Value).ownBlock) (fun _ => False) rfl rfl ?aO ?aR (fun _ _ h => h) (fun _ h => h.elim) ?aF ?aB ?aS ?aL ?_
              (case aR => repeat (first | exact (Kd.R_reads' HO515.out).2.2 | (with_reducible refine Kd.C_alloc ?_ _) | (with_reducible refine Kd.C_drewN ?_ _) | (with_reducible refine Kd.C_drew ?_)))
              (case aB => exact (Hof.Lw HB.out))
              (case aF => exact (fun k_ hk => Kd.fresh' (Kd.R_lt (Hof.Rw HO515.out)) k_ hk))
              (case aO => exact (Hof.Rw HO522.out))
              (case aS => exact (below_size (Hof.Lw HB.out)))
              (case aL => have := LMc41.out; omega)
              intro v524 w52 ho hb hg hat
              rw [← Ny523.out] at ho
              have n0_ := Aside0.mk (Kd.R_after (ok := (fun _ => True)) (Hof.Rw HO515.out) hg hat)
              have n1_ := Aside0.mk hb
              have n2_ := Aside0.mk ho
              clear HO515
              clear HB
              clear HO522
              have HO515 := n0_
              have HB := n1_
              have HO525 := n2_
              clear n0_ n1_ n2_
              clear ho hb hg hat
              refine hK.out _ _ (((HB.out.cell (World.block_lt_of_cell? w _ hw519_0)).trans hw519_0)) (fun hHeld => ?_)
              clear hK K
              refine norm_ (a' := ?_) ?_ ?_
              rotate_left
              ·show Act.put _ (some 61) _ = _
               simp only [Act.put, List.setIfInBounds_toArray, List.set_cons_zero, List.set_cons_succ, i64_w, i32_w]
               rfl
              refine Hof.pu 11 3 HT_ ?_
              refine done_ (done_of HT_.out (by kernel_rfl)) ?_
              try go_wp2
              go_roundg k2
              case measure => have := HK1.out; have := HK2.out; omega
              case rel => exact ⟨(y523), (wrap64 (x4_1 + 1)), Hof.F, H', ⟨by have := HK1.out; have := HK2.out; omega⟩, ⟨Hof.Rw (Kd.R_mono HO525.out (fun _ hk => trivial))⟩, ⟨Hof.Lw HB.out⟩⟩
             ·rw [if_neg c41] at H
              exact absurd H (by simp)
            ·rw [if_neg c40] at H
             exact absurd H (by simp)
           ·rw [if_neg c39] at H
            exact absurd H (by simp)
          ·rw [if_neg c38] at H
           exact absurd H (by simp)
         ·rw [if_neg c36] at H
          exact absurd H (by simp)
        ·rw [if_neg c35] at H
         exact absurd H (by simp)
       ·rw [if_neg c34] at H
        exact absurd H (by simp)
   ·rw [if_neg c4] at H
    have c4b0 : decide (x4_1 < (l0.length : Int)) = false := decide_eq_false c4
    clear c4
    obtain rfl := Option.some.inj H
    go_wp2
    go_ret
    exact ⟨_, Hof.E, by (with_reducible repeat (first | apply Kd.R_alloc | apply Kd.R_drewN | apply Kd.R_drew)); exact HO_3.out, Hof.L⟩
mutual
def spec_MaximalSets.l0 : Nat → List Int → List Int → Int → Option (List Int)
 | 0, _, _, _ => none
 | k + 1, x0, x3, x4 => if x4 < (x0.length : Int) then (spec_MaximalSets.l1 k x0 x3 x4 true 0) else ((spec_SortSets.f k x3).bind fun t530 => (some t530))
def spec_MaximalSets.l1 : Nat → List Int → List Int → Int → Bool → Int → Option (List Int)
 | 0, _, _, _, _, _ => none
 | k + 1, x0, x3, x4, x5, x6 => if x6 < (x0.length : Int) then (if x5 = true then (if 0 ≤ x6 then (if 0 ≤ x4 then (if x4 < (x0.length : Int) then (if (rd x0 x6) = (rd x0 x4) then (spec_MaximalSets.l1 k x0 x3 x4 true (wrap64 (x6 + 1))) else (spec_MaximalSets.l1 k x0 x3 x4 ((Go.bits .and .i64 (rd x0 x6) (rd x0 x4)) != (rd x0 x4)) (wrap64 (x6 + 1)))) else (none)) else (none)) else (none)) else (spec_MaximalSets.l1 k x0 x3 x4 false (wrap64 (x6 + 1)))) else (if x5 = true then (if 0 ≤ x4 then (if x4 < (x0.length : Int) then (if x3.length < 17592186044416 then (spec_MaximalSets.l0 k x0 (x3 ++ [rd x0 x4]) (wrap64 (x4 + 1))) else (none)) else (none)) else (none)) else (spec_MaximalSets.l0 k x0 x3 (wrap64 (x4 + 1))))
end
def spec_MaximalSets.f (k : Nat) (l0 : List Int) : Option (List Int) := (some (([] : List Int) : List Int)).bind fun y526 => ((spec_l3Sets.f k 8 l0).bind fun t529 => (if t529 = true then (spec_MaximalSets.l0 k l0 y526 0) else (some y526)))
set_option maxHeartbeats 8000000 in
set_option maxRecDepth 100000 in
theorem spec_MaximalSets.calls (k : Nat) (A0 : Option Addr) (c0 : Nat) (l0 : List Int) (r : List Int) (w : World) (hr0 : Kd.C (Kd.int .i64) w A0 l0.length l0) (hc0 : l0.length ≤ c0) (h : spec_MaximalSets.f k l0 = some r) :
  Calls Tryz.prog 91 #[.slice A0 l0.length c0] w fun e w' => ∃ v0_ : Value, e = .returned (v0_) ∧ Kd.R (Kd.int .i64) 3 w' w.heap.size (fun _ => True) v0_ r ∧ Below w.heap.size w w' := by
 have HR0 := Aside0.mk hr0
 have HC0 := Aside0.mk hc0
 clear hr0 hc0
 have HB := Aside0.mk (Below.refl w.heap.size w)
 unfold spec_MaximalSets.f at h
 have H := h
 clear h
 obtain ⟨y526, hy526⟩ : ∃ y_ : List Int, y_ = (([] : List Int)) := ⟨_, rfl⟩
 replace H : ((spec_l3Sets.f k 8 l0).bind fun t529 => (if t529 = true then (spec_MaximalSets.l0 k l0 y526 0) else (some y526))) = some r := by (try rw [hy526]); exact Hof.Z
 have Ny526 := Aside0.mk hy526
 clear hy526
 obtain ⟨t529, A2, H⟩ := Hof.be H
 (try dsimp only at H)
 by_cases c3 : t529 = true
 ·subst c3
  replace H : (spec_MaximalSets.l0 k l0 y526 0) = some r := by rw [if_pos rfl] at H; exact H
  have H' := Aside0.mk H
  clear H
  go_enter Tryz.func91, Tryz.ntmps91
  go_wp2_with (first | (refine Hof.lt (Kd.int .i64) 3 7 ?_; intro v527 w4 ho5 hb hg_ hnew_; clear hg_ hnew_; (first | rw [← Ny526.out] at ho5 | (simp only [Int.reduceToNat] at ho5; rw [← Ny526.out] at ho5)); have HO528 := Aside0.mk (Kd.R_lower ho5 (below_size (Hof.Lw HB.out))); replace HB := Hof.lb HB hb; clear hb ho5) | (go_at_call 136; (with_reducible refine (spec_l3Sets.calls k 8 _ _ l0 true _ ?side1 ?side2 A2.out).mono ?_); (case side1 => exact Hof.Cw (Kd.C_below HR0.out HB.out)); (case side2 => exact HC0.out); rintro e w' ⟨rfl, ⟨nd, rfl⟩⟩; (try exact Hof.W)))
  repeat (go_quiet (first | (refine Hof.lt (Kd.int .i64) 3 7 ?_; intro v527 w4 ho5 hb hg_ hnew_; clear hg_ hnew_; (first | rw [← Ny526.out] at ho5 | (simp only [Int.reduceToNat] at ho5; rw [← Ny526.out] at ho5)); have HO528 := Aside0.mk (Kd.R_lower ho5 (below_size (Hof.Lw HB.out))); replace HB := Hof.lb HB hb; clear hb ho5) | (go_at_call 136; (with_reducible refine (spec_l3Sets.calls k 8 _ _ l0 true _ ?side1 ?side2 A2.out).mono ?_); (case side1 => exact Hof.Cw (Kd.C_below HR0.out HB.out)); (case side2 => exact HC0.out); rintro e w' ⟨rfl, ⟨nd, rfl⟩⟩; (try exact Hof.W))); try go_wp2_with (first | (refine Hof.lt (Kd.int .i64) 3 7 ?_; intro v527 w4 ho5 hb hg_ hnew_; clear hg_ hnew_; (first | rw [← Ny526.out] at ho5 | (simp only [Int.reduceToNat] at ho5; rw [← Ny526.out] at ho5)); have HO528 := Aside0.mk (Kd.R_lower ho5 (below_size (Hof.Lw HB.out))); replace HB := Hof.lb HB hb; clear hb ho5) | (go_at_call 136; (with_reducible refine (spec_l3Sets.calls k 8 _ _ l0 true _ ?side1 ?side2 A2.out).mono ?_); (case side1 => exact Hof.Cw (Kd.C_below HR0.out HB.out)); (case side2 => exact HC0.out); rintro e w' ⟨rfl, ⟨nd, rfl⟩⟩; (try exact Hof.W))))
  go_loopg [3, 4] k (fun kq v3 v4 w' => ∃ (x3_1 : List Int) (x4_1 : Int), v4 = .int .i64 x4_1 ∧ Aside0 (spec_MaximalSets.l0 kq l0 x3_1 x4_1 = some r) ∧ Aside0 (kq ≤ k) ∧ Aside0 (Kd.R (Kd.int .i64) 3 w' w.heap.size (fun _ => True) v3 x3_1) ∧ Aside0 (Below w.heap.size w w'))
  case atStart => exact ⟨(y526), (0), Hof.F, H', ⟨Nat.le_refl _⟩, ⟨Hof.Rw HO528.out⟩, ⟨Hof.Lw HB.out⟩⟩
  case round =>
   clear H'
   obtain ⟨x3_1, x4_1, rfl, HA, HK1, HO_3, HB⟩ := hrel
   cases gk with
   | zero => exact absurd HA.out (by simp [spec_MaximalSets.l0])
   | succ k1 =>
    have H := HA.out
    clear HA
    simp only [spec_MaximalSets.l0] at H
    by_cases c6 : x4_1 < (l0.length : Int)
    ·rw [if_pos c6] at H
     have c6b0 := decide_eq_true c6
     clear c6
     have H' := Aside0.mk H
     clear H
     go_wp2
     repeat (go_quiet (fail); try go_wp2)
     go_loopg [5, 6] k1 (fun kq v5 v6 w' => ∃ (x5_2 : Bool) (x6_2 : Int), v5 = .bool x5_2 ∧ v6 = .int .i64 x6_2 ∧ Aside0 (spec_MaximalSets.l1 kq l0 x3_1 x4_1 x5_2 x6_2 = some r) ∧ Aside0 (kq ≤ k1) ∧ Aside0 (Kd.R (Kd.int .i64) 3 w' w.heap.size (fun _ => True) u3 x3_1) ∧ Aside0 (Below w.heap.size w w'))
     case atStart => exact ⟨(true), (0), Hof.F, Hof.F, H', ⟨Nat.le_refl _⟩, ⟨Hof.Rw HO_3.out⟩, ⟨Hof.Lw HB.out⟩⟩
     case round =>
      clear H'
      obtain ⟨x5_2, x6_2, rfl, rfl, HA, HK2, HO_3, HB⟩ := hrel
      cases gk with
      | zero => exact absurd HA.out (by simp [spec_MaximalSets.l1])
      | succ k2 =>
       have H := HA.out
       clear HA
       simp only [spec_MaximalSets.l1] at H
       by_cases c7 : x6_2 < (l0.length : Int)
       ·rw [if_pos c7] at H
        have c7b0 := decide_eq_true c7
        clear c7
        by_cases c8 : x5_2 = true
        ·subst c8
         replace H : (if 0 ≤ x6_2 then (if 0 ≤ x4_1 then (if x4_1 < (l0.length : Int) then (if (rd l0 x6_2) = (rd l0 x4_1) then (spec_MaximalSets.l1 k2 l0 x3_1 x4_1 true (wrap64 (x6_2 + 1))) else (spec_MaximalSets.l1 k2 l0 x3_1 x4_1 ((Go.bits .and .i64 (rd l0 x6_2) (rd l0 x4_1)) != (rd l0 x4_1)) (wrap64 (x6_2 + 1)))) else (none)) else (none)) else (none)) = some r := by rw [if_pos rfl] at H; exact H
         by_cases c9 : 0 ≤ x6_2
         ·rw [if_pos c9] at H
          have c9b0 := decide_eq_true c9
          clear c9
          by_cases c10 : 0 ≤ x4_1
          ·rw [if_pos c10] at H
           have c10b0 := decide_eq_true c10
           clear c10
           by_cases c11 : x4_1 < (l0.length : Int)
           ·rw [if_pos c11] at H
            have c11b0 := decide_eq_true c11
            clear c11
            by_cases c12 : (rd l0 x6_2) = (rd l0 x4_1)
            ·rw [if_pos c12] at H
             have c12b0 : ((rd l0 x6_2) == (rd l0 x4_1)) = true := beq_iff_eq.mpr c12
             have c12b1 : ((rd l0 x6_2) != (rd l0 x4_1)) = false := bne_eq_false_iff_eq.mpr c12
             clear c12
             have H' := Aside0.mk H
             clear H
             have p533 : 0 ≤ (x6_2 : Int) := Hof.D
             have q533 : x6_2 < (l0.length : Int) := Hof.D
             obtain ⟨ad533, e533, hx533_0⟩ := Kd.at_int HR0.out x6_2 p533 q533
             cases e533
             try replace hx533_0 := (HB.out.cell (World.block_lt_of_cell? w _ hx533_0)).trans hx533_0
             replace p533 := eq_true p533
             replace q533 := eq_true q533
             have p534 : 0 ≤ (x4_1 : Int) := Hof.D
             have q534 : x4_1 < (l0.length : Int) := Hof.D
             obtain ⟨ad534, e534, hx534_0⟩ := Kd.at_int HR0.out x4_1 p534 q534
             obtain rfl : ad533 = ad534 := (by injection e534)
             try replace hx534_0 := (HB.out.cell (World.block_lt_of_cell? w _ hx534_0)).trans hx534_0
             replace p534 := eq_true p534
             replace q534 := eq_true q534
             go_wp2
             repeat (go_quiet (fail); try go_wp2)
             go_roundg k2
             case measure => have := HK1.out; have := HK2.out; omega
             case rel => exact ⟨(true), (wrap64 (x6_2 + 1)), Hof.F, Hof.F, H', ⟨by have := HK1.out; have := HK2.out; omega⟩, ⟨Hof.Rw HO_3.out⟩, ⟨Hof.Lw HB.out⟩⟩
            ·rw [if_neg c12] at H
             have c12b0 : ((rd l0 x6_2) == (rd l0 x4_1)) = false := beq_eq_false_iff_ne.mpr c12
             have c12b1 : ((rd l0 x6_2) != (rd l0 x4_1)) = true := bne_iff_ne.mpr c12
             have H' := Aside0.mk H
             clear H
             have p533 : 0 ≤ (x6_2 : Int) := Hof.D
             have q533 : x6_2 < (l0.length : Int) := Hof.D
             obtain ⟨ad533, e533, hx533_0⟩ := Kd.at_int HR0.out x6_2 p533 q533
             cases e533
             try replace hx533_0 := (HB.out.cell (World.block_lt_of_cell? w _ hx533_0)).trans hx533_0
             replace p533 := eq_true p533
             replace q533 := eq_true q533
             have p534 : 0 ≤ (x4_1 : Int) := Hof.D
             have q534 : x4_1 < (l0.length : Int) := Hof.D
             obtain ⟨ad534, e534, hx534_0⟩ := Kd.at_int HR0.out x4_1 p534 q534
             obtain rfl : ad533 = ad534 := (by injection e534)
             try replace hx534_0 := (HB.out.cell (World.block_lt_of_cell? w _ hx534_0)).trans hx534_0
             replace p534 := eq_true p534
             replace q534 := eq_true q534
             have p535 : 0 ≤ (x6_2 : Int) := Hof.D
             have q535 : x6_2 < (l0.length : Int) := Hof.D
             obtain ⟨ad535, e535, hx535_0⟩ := Kd.at_int HR0.out x6_2 p535 q535
             obtain rfl : ad533 = ad535 := (by injection e535)
             try replace hx535_0 := (HB.out.cell (World.block_lt_of_cell? w _ hx535_0)).trans hx535_0
             replace p535 := eq_true p535
             replace q535 := eq_true q535
             have p536 : 0 ≤ (x4_1 : Int) := Hof.D
             have q536 : x4_1 < (l0.length : Int) := Hof.D
             obtain ⟨ad536, e536, hx536_0⟩ := Kd.at_int HR0.out x4_1 p536 q536
             obtain rfl : ad533 = ad536 := (by injection e536)
             try replace hx536_0 := (HB.out.cell (World.block_lt_of_cell? w _ hx536_0)).trans hx536_0
             replace p536 := eq_true p536
             replace q536 := eq_true q536
             have p537 : 0 ≤ (x4_1 : Int) := Hof.D
             have q537 : x4_1 < (l0.length : Int) := Hof.D
             obtain ⟨ad537, e537, hx537_0⟩ := Kd.at_int HR0.out x4_1 p537 q537
             obtain rfl : ad533 = ad537 := (by injection e537)
             try replace hx537_0 := (HB.out.cell (World.block_lt_of_cell? w _ hx537_0)).trans hx537_0
             replace p537 := eq_true p537
             replace q537 := eq_true q537
             go_wp2
             repeat (go_quiet (fail); try go_wp2)
             go_roundg k2
             case measure => have := HK1.out; have := HK2.out; omega
             case rel => exact ⟨(((Go.bits .and .i64 (rd l0 x6_2) (rd l0 x4_1)) != (rd l0 x4_1))), (wrap64 (x6_2 + 1)), Hof.F, Hof.F, H', ⟨by have := HK1.out; have := HK2.out; omega⟩, ⟨Hof.Rw HO_3.out⟩, ⟨Hof.Lw HB.out⟩⟩
           ·rw [if_neg c11] at H
            exact absurd H (by simp)
          ·rw [if_neg c10] at H
           exact absurd H (by simp)
         ·rw [if_neg c9] at H
          exact absurd H (by simp)
        ·replace c8 := Bool.eq_false_iff.mpr c8
         subst c8
         replace H : (spec_MaximalSets.l1 k2 l0 x3_1 x4_1 false (wrap64 (x6_2 + 1))) = some r := by rw [if_neg (show ¬ (false = true) by decide)] at H; exact H
         have H' := Aside0.mk H
         clear H
         go_wp2
         repeat (go_quiet (fail); try go_wp2)
         go_roundg k2
         case measure => have := HK1.out; have := HK2.out; omega
         case rel => exact ⟨(false), (wrap64 (x6_2 + 1)), Hof.F, Hof.F, H', ⟨by have := HK1.out; have := HK2.out; omega⟩, ⟨Hof.Rw HO_3.out⟩, ⟨Hof.Lw HB.out⟩⟩
       ·rw [if_neg c7] at H
        have c7b0 : decide (x6_2 < (l0.length : Int)) = false := decide_eq_false c7
        clear c7
        by_cases c13 : x5_2 = true
        ·subst c13
         replace H : (if 0 ≤ x4_1 then (if x4_1 < (l0.length : Int) then (if x3_1.length < 17592186044416 then (spec_MaximalSets.l0 k2 l0 (x3_1 ++ [rd l0 x4_1]) (wrap64 (x4_1 + 1))) else (none)) else (none)) else (none)) = some r := by rw [if_pos rfl] at H; exact H
         by_cases c14 : 0 ≤ x4_1
         ·rw [if_pos c14] at H
          have c14b0 := decide_eq_true c14
          clear c14
          by_cases c15 : x4_1 < (l0.length : Int)
          ·rw [if_pos c15] at H
           have c15b0 := decide_eq_true c15
           clear c15
           by_cases c16 : x3_1.length < 17592186044416
           ·rw [if_pos c16] at H
            have LMc16 := Aside0.mk c16
            clear c16
            obtain ⟨y539, hy539⟩ : ∃ y_ : List Int, y_ = (x3_1 ++ [rd l0 x4_1]) := ⟨_, rfl⟩
            replace H : (spec_MaximalSets.l0 k2 l0 y539 (wrap64 (x4_1 + 1))) = some r := by (try rw [hy539]); exact Hof.Z
            have Ny539 := Aside0.mk hy539
            clear hy539
            have H' := Aside0.mk H
            clear H
            have p538 : 0 ≤ (x4_1 : Int) := Hof.D
            have q538 : x4_1 < (l0.length : Int) := Hof.D
            obtain ⟨ad538, e538, hx538_0⟩ := Kd.at_int HR0.out x4_1 p538 q538
            cases e538
            try replace hx538_0 := (HB.out.cell (World.block_lt_of_cell? w _ hx538_0)).trans hx538_0
            replace p538 := eq_true p538
            replace q538 := eq_true q538
            go_wp2_with (first | ((with_reducible refine gate_builtin (b := .append) (xs := #[.tmp 53, .tmp 58]) rfl ?_); at_builtin; refine Kd.R_append (Kd.int .i64) (w0 := w) w.heap.size rfl (.tmp 53) (.tmp 58) 28 3 (.int .i64 0) 8 rfl Tryz.underlying28 info3 rfl (by decide) (by omega) u3 x3_1 (rd l0 x4_1) [.int .i64 (rd l0 x4_1)] (fun _ => True) (fun _ => False) rfl rfl (by exact rfl) (fun _ hk => hk.elim) (by exact fun _ _ => trivial) (by exact Hof.Rw HO_3.out) (by exact Hof.Lw HB.out) (by exact below_size (Hof.Lw HB.out)) (by have := LMc16.out; omega) ?_; intro v540 w17 ho hb hg hat; rw [← Ny539.out] at ho; have n0_ := Aside0.mk hb; have n1_ := Aside0.mk ho; clear HB; clear HO_3; have HB := n0_; have HO541 := n1_; clear n0_ n1_; clear ho hb hg hat))
            repeat (go_quiet (first | ((with_reducible refine gate_builtin (b := .append) (xs := #[.tmp 53, .tmp 58]) rfl ?_); at_builtin; refine Kd.R_append (Kd.int .i64) (w0 := w) w.heap.size rfl (.tmp 53) (.tmp 58) 28 3 (.int .i64 0) 8 rfl Tryz.underlying28 info3 rfl (by decide) (by omega) u3 x3_1 (rd l0 x4_1) [.int .i64 (rd l0 x4_1)] (fun _ => True) (fun _ => False) rfl rfl (by exact rfl) (fun _ hk => hk.elim) (by exact fun _ _ => trivial) (by exact Hof.Rw HO_3.out) (by exact Hof.Lw HB.out) (by exact below_size (Hof.Lw HB.out)) (by have := LMc16.out; omega) ?_; intro v540 w17 ho hb hg hat; rw [← Ny539.out] at ho; have n0_ := Aside0.mk hb; have n1_ := Aside0.mk ho; clear HB; clear HO_3; have HB := n0_; have HO541 := n1_; clear n0_ n1_; clear ho hb hg hat)); try go_wp2_with (first | ((with_reducible refine gate_builtin (b := .append) (xs := #[.tmp 53, .tmp 58]) rfl ?_); at_builtin; refine Kd.R_append (Kd.int .i64) (w0 := w) w.heap.size rfl (.tmp 53) (.tmp 58) 28 3 (.int .i64 0) 8 rfl Tryz.underlying28 info3 rfl (by decide) (by omega) u3 x3_1 (rd l0 x4_1) [.int .i64 (rd l0 x4_1)] (fun _ => True) (fun _ => False) rfl rfl (by exact rfl) (fun _ hk => hk.elim) (by exact fun _ _ => trivial) (by exact Hof.Rw HO_3.out) (by exact Hof.Lw HB.out) (by exact below_size (Hof.Lw HB.out)) (by have := LMc16.out; omega) ?_; intro v540 w17 ho hb hg hat; rw [← Ny539.out] at ho; have n0_ := Aside0.mk hb; have n1_ := Aside0.mk ho; clear HB; clear HO_3; have HB := n0_; have HO541 := n1_; clear n0_ n1_; clear ho hb hg hat)))
            go_roundg k2
            case measure => have := HK1.out; have := HK2.out; omega
            case rel => exact ⟨(y539), (wrap64 (x4_1 + 1)), Hof.F, H', ⟨by have := HK1.out; have := HK2.out; omega⟩, ⟨Hof.Rw HO541.out⟩, ⟨Hof.Lw HB.out⟩⟩
           ·rw [if_neg c16] at H
            exact absurd H (by simp)
          ·rw [if_neg c15] at H
           exact absurd H (by simp)
         ·rw [if_neg c14] at H
          exact absurd H (by simp)
        ·replace c13 := Bool.eq_false_iff.mpr c13
         subst c13
         replace H : (spec_MaximalSets.l0 k2 l0 x3_1 (wrap64 (x4_1 + 1))) = some r := by rw [if_neg (show ¬ (false = true) by decide)] at H; exact H
         have H' := Aside0.mk H
         clear H
         go_wp2
         repeat (go_quiet (fail); try go_wp2)
         go_roundg k2
         case measure => have := HK1.out; have := HK2.out; omega
         case rel => exact ⟨(x3_1), (wrap64 (x4_1 + 1)), Hof.F, H', ⟨by have := HK1.out; have := HK2.out; omega⟩, ⟨Hof.Rw HO_3.out⟩, ⟨Hof.Lw HB.out⟩⟩
    ·rw [if_neg c6] at H
     have c6b0 : decide (x4_1 < (l0.length : Int)) = false := decide_eq_false c6
     clear c6
     obtain ⟨t530, A18, H⟩ := Hof.be H
     (try dsimp only at H)
     obtain rfl := Option.some.inj H
     obtain ⟨Ao19, co19, eo19⟩ := Kd.R_slice HO_3.out
     subst eo19
     go_wp2_with (first | (go_at_call 137; (with_reducible refine (spec_SortSets.calls k1 _ _ x3_1 t530 _ ?side1 ?side2 A18.out).mono ?_); (case side1 => exact Hof.Cw ((Kd.R_reads' HO_3.out).2.2)); (case side2 => exact (Kd.R_reads' HO_3.out).2.1); rintro e w20 ⟨v531, rfl, ho0, hb⟩; have HO532 := Aside0.mk (Kd.R_lower (Kd.R_new' ho0 (Kd.R_lt (Hof.Rw HO_3.out))) (below_size (Hof.Lw HB.out))); replace HO_3 := Aside0.mk (Kd.R_elder' (Hof.Rw HO_3.out) (Kd.R_base ho0) hb); replace HB := Hof.lb HB hb; (try clear hb); (try clear hb2); (try clear hk); (try clear hi); (try clear ho0)))
     repeat (go_quiet (first | (go_at_call 137; (with_reducible refine (spec_SortSets.calls k1 _ _ x3_1 t530 _ ?side1 ?side2 A18.out).mono ?_); (case side1 => exact Hof.Cw ((Kd.R_reads' HO_3.out).2.2)); (case side2 => exact (Kd.R_reads' HO_3.out).2.1); rintro e w20 ⟨v531, rfl, ho0, hb⟩; have HO532 := Aside0.mk (Kd.R_lower (Kd.R_new' ho0 (Kd.R_lt (Hof.Rw HO_3.out))) (below_size (Hof.Lw HB.out))); replace HO_3 := Aside0.mk (Kd.R_elder' (Hof.Rw HO_3.out) (Kd.R_base ho0) hb); replace HB := Hof.lb HB hb; (try clear hb); (try clear hb2); (try clear hk); (try clear hi); (try clear ho0))); try go_wp2_with (first | (go_at_call 137; (with_reducible refine (spec_SortSets.calls k1 _ _ x3_1 t530 _ ?side1 ?side2 A18.out).mono ?_); (case side1 => exact Hof.Cw ((Kd.R_reads' HO_3.out).2.2)); (case side2 => exact (Kd.R_reads' HO_3.out).2.1); rintro e w20 ⟨v531, rfl, ho0, hb⟩; have HO532 := Aside0.mk (Kd.R_lower (Kd.R_new' ho0 (Kd.R_lt (Hof.Rw HO_3.out))) (below_size (Hof.Lw HB.out))); replace HO_3 := Aside0.mk (Kd.R_elder' (Hof.Rw HO_3.out) (Kd.R_base ho0) hb); replace HB := Hof.lb HB hb; (try clear hb); (try clear hb2); (try clear hk); (try clear hi); (try clear ho0))))
     go_ret
     exact ⟨_, Hof.E, by (with_reducible repeat (first | apply Kd.R_alloc | apply Kd.R_drewN | apply Kd.R_drew)); exact Kd.R_mono HO532.out (fun _ hk => trivial), Hof.L⟩
 ·replace c3 := Bool.eq_false_iff.mpr c3
  subst c3
  replace H : (some y526) = some r := by rw [if_neg (show ¬ (false = true) by decide)] at H; exact H
  obtain rfl := Option.some.inj H
  go_enter Tryz.func91, Tryz.ntmps91
  go_wp2_with (first | (refine Hof.lt (Kd.int .i64) 3 7 ?_; intro v527 w21 ho22 hb hg_ hnew_; clear hg_ hnew_; (first | rw [← Ny526.out] at ho22 | (simp only [Int.reduceToNat] at ho22; rw [← Ny526.out] at ho22)); have HO528 := Aside0.mk (Kd.R_lower ho22 (below_size (Hof.Lw HB.out))); replace HB := Hof.lb HB hb; clear hb ho22) | (go_at_call 136; (with_reducible refine (spec_l3Sets.calls k 8 _ _ l0 false _ ?side1 ?side2 A2.out).mono ?_); (case side1 => exact Hof.Cw (Kd.C_below HR0.out HB.out)); (case side2 => exact HC0.out); rintro e w' ⟨rfl, ⟨nd, rfl⟩⟩; (try exact Hof.W)))
  repeat (go_quiet (first | (refine Hof.lt (Kd.int .i64) 3 7 ?_; intro v527 w21 ho22 hb hg_ hnew_; clear hg_ hnew_; (first | rw [← Ny526.out] at ho22 | (simp only [Int.reduceToNat] at ho22; rw [← Ny526.out] at ho22)); have HO528 := Aside0.mk (Kd.R_lower ho22 (below_size (Hof.Lw HB.out))); replace HB := Hof.lb HB hb; clear hb ho22) | (go_at_call 136; (with_reducible refine (spec_l3Sets.calls k 8 _ _ l0 false _ ?side1 ?side2 A2.out).mono ?_); (case side1 => exact Hof.Cw (Kd.C_below HR0.out HB.out)); (case side2 => exact HC0.out); rintro e w' ⟨rfl, ⟨nd, rfl⟩⟩; (try exact Hof.W))); try go_wp2_with (first | (refine Hof.lt (Kd.int .i64) 3 7 ?_; intro v527 w21 ho22 hb hg_ hnew_; clear hg_ hnew_; (first | rw [← Ny526.out] at ho22 | (simp only [Int.reduceToNat] at ho22; rw [← Ny526.out] at ho22)); have HO528 := Aside0.mk (Kd.R_lower ho22 (below_size (Hof.Lw HB.out))); replace HB := Hof.lb HB hb; clear hb ho22) | (go_at_call 136; (with_reducible refine (spec_l3Sets.calls k 8 _ _ l0 false _ ?side1 ?side2 A2.out).mono ?_); (case side1 => exact Hof.Cw (Kd.C_below HR0.out HB.out)); (case side2 => exact HC0.out); rintro e w' ⟨rfl, ⟨nd, rfl⟩⟩; (try exact Hof.W))))
  go_ret
  exact ⟨_, Hof.E, by (with_reducible repeat (first | apply Kd.R_alloc | apply Kd.R_drewN | apply Kd.R_drew)); exact HO528.out, Hof.L⟩
def spec_TaskMatroid.l0 : Nat → List (S74) → List Int → Int → Option (Int × List Int)
 | 0, _, _, _ => none
 | k + 1, x0, x3, x4 => (spec_FullSet.f (x0.length : Int)).bind fun t547 => (if x4 ≤ t547 then ((spec_PlanOf.f k x0 x4).bind fun bt548 => (if bt548.2 = true then (if x3.length < 17592186044416 then (spec_TaskMatroid.l0 k x0 (x3 ++ [x4]) (wrap64 (x4 + 1))) else (none)) else (spec_TaskMatroid.l0 k x0 x3 (wrap64 (x4 + 1))))) else ((spec_MaximalSets.f k x3).bind fun t555 => (some ((x0.length : Int), t555))))
def spec_TaskMatroid.f (k : Nat) (l0 : List (S74)) : Option (Int × List Int) := (spec_AreTasks.f k l0).bind fun t543 => (if t543 = true then (spec_TaskMatroid.l0 k l0 (([] : List Int)) 0) else (some (0, ([] : List Int))))
set_option maxHeartbeats 8000000 in
set_option maxRecDepth 100000 in
theorem spec_TaskMatroid.calls (k : Nat) (A0 : Option Addr) (c0 : Nat) (l0 : List (S74)) (r1 : Int) (r2 : List Int) (w : World) (hr0 : Kd.C k74 w A0 l0.length l0) (hc0 : l0.length ≤ c0) (h : spec_TaskMatroid.f k l0 = some (r1, r2)) :
  Calls Tryz.prog 16 #[.slice A0 l0.length c0] w fun e w' => ∃ v1_ : Value, e = .returned (.agg #[.int .i64 r1, v1_]) ∧ Kd.R (Kd.int .i64) 3 w' w.heap.size (fun _ => True) v1_ r2 ∧ Below w.heap.size w w' := by
 have hu30 := Tryz.underlying30
 have HR0 := Aside0.mk hr0
 have HC0 := Aside0.mk hc0
 clear hr0 hc0
 have HB := Aside0.mk (Below.refl w.heap.size w)
 unfold spec_TaskMatroid.f at h
 have H := h
 clear h
 obtain ⟨t543, A2, H⟩ := Hof.be H
 (try dsimp only at H)
 by_cases c3 : t543 = true
 ·subst c3
  replace H : (spec_TaskMatroid.l0 k l0 (([] : List Int)) 0) = some (r1, r2) := by rw [if_pos rfl] at H; exact H
  obtain ⟨y544, hy544⟩ : ∃ y_ : List Int, y_ = (([] : List Int)) := ⟨_, rfl⟩
  replace H : (spec_TaskMatroid.l0 k l0 y544 0) = some (r1, r2) := by (try rw [hy544]); exact Hof.Z
  have Ny544 := Aside0.mk hy544
  clear hy544
  have H' := Aside0.mk H
  clear H
  go_enter Tryz.func16, Tryz.ntmps16
  go_wp2_with (first | (refine Hof.bx 2 #[.int .i64 0, .slice none 0 0] 30 ?_; intro gb542 hg w4 hbox hb; have BK542 := Aside0.mk hbox; have GW542 := Hof.gw hg HB; have GE542 := Hof.gw hg HB; replace HB := Hof.lb HB hb; clear hb hbox hg) | (refine Hof.gl (some 8) Tryz.func23 #[.slice A0 l0.length c0] ?_; (with_reducible refine (spec_AreTasks.calls k _ _ l0 true _ ?side1 ?side2 A2.out).mono ?_); (case side1 => exact Hof.Cw (Kd.C_below HR0.out HB.out)); (case side2 => exact HC0.out); rintro e w' ⟨rfl, ⟨nd, rfl⟩⟩; refine ⟨_, rfl, ?_⟩) | (refine Hof.lt (Kd.int .i64) 3 11 ?_; intro v545 w5 ho6 hb hg_ hnew_; clear hg_ hnew_; (first | rw [← Ny544.out] at ho6 | (simp only [Int.reduceToNat] at ho6; rw [← Ny544.out] at ho6)); have HO546 := Aside0.mk (Kd.R_lower ho6 (below_size (Hof.Lw HB.out))); replace BK542 := Hof.bb BK542 hb; replace HB := Hof.lb HB hb; clear hb ho6))
  go_loopg [3, 4] k (fun kq v3 v4 w' => ∃ (x3_1 : List Int) (x4_1 : Int), v4 = .int .i64 x4_1 ∧ Aside0 (spec_TaskMatroid.l0 kq l0 x3_1 x4_1 = some (r1, r2)) ∧ Aside0 (kq ≤ k) ∧ Aside0 (Kd.R (Kd.int .i64) 3 w' w.heap.size (fun _ => True) v3 x3_1) ∧ Aside0 (w'.heap[gb542]? = some (.cells #[.int .i64 0, (.slice none 0 0)] 30 (0, 0))) ∧ Aside0 (Below w.heap.size w w'))
  case atStart => exact ⟨(y544), (0), Hof.F, H', ⟨Nat.le_refl _⟩, ⟨Hof.Rw HO546.out⟩, ⟨Hof.Bw BK542.out⟩, ⟨Hof.Lw HB.out⟩⟩
  case round =>
   clear H'
   obtain ⟨x3_1, x4_1, rfl, HA, HK1, HO_3, BK542, HB⟩ := hrel
   cases gk with
   | zero => exact absurd HA.out (by simp [spec_TaskMatroid.l0])
   | succ k1 =>
    have H := HA.out
    clear HA
    simp only [spec_TaskMatroid.l0] at H
    obtain ⟨t547, A7, H⟩ := Hof.be H
    (try dsimp only at H)
    by_cases c8 : x4_1 ≤ t547
    ·rw [if_pos c8] at H
     have c8b0 := decide_eq_true c8
     clear c8
     obtain ⟨⟨t548, t549⟩, A9, H⟩ := Hof.be H
     (try dsimp only at H)
     by_cases c10 : t549 = true
     ·subst c10
      replace H : (if x3_1.length < 17592186044416 then (spec_TaskMatroid.l0 k1 l0 (x3_1 ++ [x4_1]) (wrap64 (x4_1 + 1))) else (none)) = some (r1, r2) := by rw [if_pos rfl] at H; exact H
      by_cases c11 : x3_1.length < 17592186044416
      ·rw [if_pos c11] at H
       have LMc11 := Aside0.mk c11
       clear c11
       obtain ⟨y552, hy552⟩ : ∃ y_ : List Int, y_ = (x3_1 ++ [x4_1]) := ⟨_, rfl⟩
       replace H : (spec_TaskMatroid.l0 k1 l0 y552 (wrap64 (x4_1 + 1))) = some (r1, r2) := by (try rw [hy552]); exact Hof.Z
       have Ny552 := Aside0.mk hy552
       clear hy552
       have H' := Aside0.mk H
       clear H
       go_wp2_with (first | (refine Hof.gl (some 15) Tryz.func24 #[.int .i64 (l0.length : Int)] ?_; (with_reducible refine (spec_FullSet.calls (l0.length : Int) t547 _ A7.out).mono ?_); rintro e w' ⟨rfl, ⟨nd, rfl⟩⟩; refine ⟨_, rfl, ?_⟩) | (refine Hof.gl (some 22) Tryz.func13 #[.slice A0 l0.length c0, .int .i64 x4_1] ?_; (with_reducible refine (spec_PlanOf.calls k1 _ _ l0 x4_1 t548 true _ ?side1 ?side2 A9.out).mono ?_); (case side1 => exact Hof.Cw (Kd.C_below HR0.out HB.out)); (case side2 => exact HC0.out); rintro e w12 ⟨v550, rfl, ho0, hb⟩; refine ⟨_, rfl, ?_⟩; have HO551 := Aside0.mk (Kd.R_lower (Kd.R_new' ho0 (Kd.R_lt (Hof.Rw HO_3.out))) (below_size (Hof.Lw HB.out))); replace HO_3 := Aside0.mk (Kd.R_elder' (Hof.Rw HO_3.out) (Kd.R_base ho0) hb); replace BK542 := Hof.bb BK542 hb; replace HB := Hof.lb HB hb; (try clear hb); (try clear hb2); (try clear hk); (try clear hi); (try clear ho0)) | ((with_reducible refine gate_builtin (b := .append) (xs := #[.tmp 26, .tmp 28]) rfl ?_); at_builtin; refine Kd.R_append (Kd.int .i64) (w0 := w) w.heap.size rfl (.tmp 26) (.tmp 28) 28 3 (.int .i64 0) 8 rfl Tryz.underlying28 info3 rfl (by decide) (by omega) u3 x3_1 x4_1 [.int .i64 x4_1] (fun k_ => some k_ ≠ (v550 : Value).ownBlock) (fun _ => False) rfl rfl (by exact rfl) (fun _ hk => hk.elim) (by exact fun k_ hk => Kd.fresh' (Kd.R_lt (Hof.Rw HO551.out)) k_ hk) (by exact Hof.Rw (Kd.R_mono HO_3.out (fun _ hk => hk.2))) (by exact Hof.Lw HB.out) (by exact below_size (Hof.Lw HB.out)) (by have := LMc11.out; omega) ?_; intro v553 w13 ho hb hg hat; rw [← Ny552.out] at ho; have n0_ := Aside0.mk (blk_grown (g := gb542) (o := .cells #[.int .i64 0, .slice none 0 0] 30 (0, 0)) (Hof.Bw BK542.out) hg (Kd.R_ne HO_3.out BK542.out (by decide))); have n1_ := Aside0.mk (Kd.R_after (ok := (fun _ => True)) (Hof.Rw HO551.out) hg hat); have n2_ := Aside0.mk hb; have n3_ := Aside0.mk ho; clear BK542; clear HO551; clear HB; clear HO_3; have BK542 := n0_; have HO551 := n1_; have HB := n2_; have HO554 := n3_; clear n0_ n1_ n2_ n3_; clear ho hb hg hat))
       go_roundg k1
       case measure => have := HK1.out; omega
       case rel => exact ⟨(y552), (wrap64 (x4_1 + 1)), Hof.F, H', ⟨by have := HK1.out; omega⟩, ⟨Hof.Rw (Kd.R_mono HO554.out (fun _ hk => trivial))⟩, ⟨Hof.Bw BK542.out⟩, ⟨Hof.Lw HB.out⟩⟩
      ·rw [if_neg c11] at H
       exact absurd H (by simp)
     ·replace c10 := Bool.eq_false_iff.mpr c10
      subst c10
      replace H : (spec_TaskMatroid.l0 k1 l0 x3_1 (wrap64 (x4_1 + 1))) = some (r1, r2) := by rw [if_neg (show ¬ (false = true) by decide)] at H; exact H
      have H' := Aside0.mk H
      clear H
      go_wp2_with (first | (refine Hof.gl (some 15) Tryz.func24 #[.int .i64 (l0.length : Int)] ?_; (with_reducible refine (spec_FullSet.calls (l0.length : Int) t547 _ A7.out).mono ?_); rintro e w' ⟨rfl, ⟨nd, rfl⟩⟩; refine ⟨_, rfl, ?_⟩) | (refine Hof.gl (some 22) Tryz.func13 #[.slice A0 l0.length c0, .int .i64 x4_1] ?_; (with_reducible refine (spec_PlanOf.calls k1 _ _ l0 x4_1 t548 false _ ?side1 ?side2 A9.out).mono ?_); (case side1 => exact Hof.Cw (Kd.C_below HR0.out HB.out)); (case side2 => exact HC0.out); rintro e w14 ⟨v550, rfl, ho0, hb⟩; refine ⟨_, rfl, ?_⟩; have HO551 := Aside0.mk (Kd.R_lower (Kd.R_new' ho0 (Kd.R_lt (Hof.Rw HO_3.out))) (below_size (Hof.Lw HB.out))); replace HO_3 := Aside0.mk (Kd.R_elder' (Hof.Rw HO_3.out) (Kd.R_base ho0) hb); replace BK542 := Hof.bb BK542 hb; replace HB := Hof.lb HB hb; (try clear hb); (try clear hb2); (try clear hk); (try clear hi); (try clear ho0)))
      go_roundg k1
      case measure => have := HK1.out; omega
      case rel => exact ⟨(x3_1), (wrap64 (x4_1 + 1)), Hof.F, H', ⟨by have := HK1.out; omega⟩, ⟨Hof.Rw (Kd.R_mono HO_3.out (fun _ hk => trivial))⟩, ⟨Hof.Bw BK542.out⟩, ⟨Hof.Lw HB.out⟩⟩
    ·rw [if_neg c8] at H
     have c8b0 : decide (x4_1 ≤ t547) = false := decide_eq_false c8
     clear c8
     obtain ⟨t555, A15, H⟩ := Hof.be H
     (try dsimp only at H)
     simp only [Option.some.injEq, Prod.mk.injEq] at H
     obtain ⟨rfl, rfl⟩ := H
     go_wp2_with (first | (refine Hof.gl (some 15) Tryz.func24 #[.int .i64 (l0.length : Int)] ?_; (with_reducible refine (spec_FullSet.calls (l0.length : Int) t547 _ A7.out).mono ?_); rintro e w' ⟨rfl, ⟨nd, rfl⟩⟩; refine ⟨_, rfl, ?_⟩; (try (rw [drewN_self wr]; generalize hq_ : World.drewN wr _ = wr; have n0_ : Aside0 (Kd.R (Kd.int .i64) 3 wr w.heap.size (fun _ => True) u3 x3_1) := ⟨by rw [← hq_]; exact (Hof.Rw HO_3.out)⟩; have n1_ : Aside0 (wr.heap[gb542]? = some (.cells #[.int .i64 0, .slice none 0 0] 30 (0, 0))) := ⟨by rw [← hq_]; exact (Hof.Bw BK542.out)⟩; have n2_ : Aside0 (Below w.heap.size w wr) := ⟨by rw [← hq_]; exact (Hof.Lw HB.out)⟩; clear HO_3 BK542 HB hq_; have HO_3 := n0_; have BK542 := n1_; have HB := n2_; clear n0_ n1_ n2_; have hcy542_0 : wr.cell? ⟨gb542, 0, none⟩ = some (.int .i64 0) := (blk_cell BK542.out 0).trans rfl; have hfy542_0 := blk_frozen BK542.out 0; have hcy542_1 : wr.cell? ⟨gb542, 1, none⟩ = some (.slice none 0 0) := (blk_cell BK542.out 1).trans rfl; have hfy542_1 := blk_frozen BK542.out 1)); obtain ⟨Ao16, co16, eo16⟩ := Kd.R_slice HO_3.out; subst eo16) | (refine Hof.gl (some 33) Tryz.func91 #[.slice Ao16 x3_1.length co16] ?_; (with_reducible refine (spec_MaximalSets.calls k1 _ _ x3_1 t555 _ ?side1 ?side2 A15.out).mono ?_); (case side1 => exact Hof.Cw ((Kd.R_reads' HO_3.out).2.2)); (case side2 => exact (Kd.R_reads' HO_3.out).2.1); rintro e w17 ⟨v556, rfl, ho0, hb⟩; refine ⟨_, rfl, ?_⟩; have HO557 := Aside0.mk (Kd.R_lower (Kd.R_new' ho0 (Kd.R_lt (Hof.Rw HO_3.out))) (below_size (Hof.Lw HB.out))); replace HO_3 := Aside0.mk (Kd.R_elder' (Hof.Rw HO_3.out) (Kd.R_base ho0) hb); replace BK542 := Hof.bb BK542 hb; replace HB := Hof.lb HB hb; (try clear hb); (try clear hb2); (try clear hk); (try clear hi); (try clear ho0); obtain ⟨Ao18, co18, eo18⟩ := Kd.R_slice HO557.out; subst eo18; obtain ⟨hcz19_0, hcz19_1, hfz19_0, hfz19_1⟩ := Hof.blk2 BK542.out))
     refine bodyPost_ret (results_cell_row rfl _ _ gb542 30 #[.int .i64 (l0.length : Int), .slice Ao18 t555.length co18] (0, 0) _ rfl Hof.B Tryz.underlying30 rfl (by kernel_rfl)) rfl ?_
     exact ⟨_, Hof.E, by (with_reducible repeat (first | apply Kd.R_alloc | apply Kd.R_drewN | apply Kd.R_drew)); exact Kd.R_mono (Kd.R_far (p := ⟨gb542, 1, none⟩) (Kd.R_far (p := ⟨gb542, 0, none⟩) (Kd.R_types HO557.out BK542.out (by decide)) (fun _ hk => hk.2) (.int .i64 (l0.length : Int))) (fun _ hk => hk.2) (.slice Ao18 t555.length co18)) (fun _ hk => trivial), Hof.L⟩
 ·replace c3 := Bool.eq_false_iff.mpr c3
  subst c3
  replace H : (some (0, ([] : List Int))) = some (r1, r2) := by rw [if_neg (show ¬ (false = true) by decide)] at H; exact H
  simp only [Option.some.injEq, Prod.mk.injEq] at H
  obtain ⟨rfl, rfl⟩ := H
  go_enter Tryz.func16, Tryz.ntmps16
  go_wp2_with (first | (refine Hof.bx 2 #[.int .i64 0, .slice none 0 0] 30 ?_; intro gb542 hg w20 hbox hb; have BK542 := Aside0.mk hbox; have GW542 := Hof.gw hg HB; have GE542 := Hof.gw hg HB; replace HB := Hof.lb HB hb; clear hb hbox hg) | (refine Hof.gl (some 8) Tryz.func23 #[.slice A0 l0.length c0] ?_; (with_reducible refine (spec_AreTasks.calls k _ _ l0 false _ ?side1 ?side2 A2.out).mono ?_); (case side1 => exact Hof.Cw (Kd.C_below HR0.out HB.out)); (case side2 => exact HC0.out); rintro e w' ⟨rfl, ⟨nd, rfl⟩⟩; refine ⟨_, rfl, ?_⟩; (try (rw [drewN_self w20]; generalize hq_ : World.drewN w20 _ = w20; have n0_ : Aside0 (w20.heap[gb542]? = some (.cells #[.int .i64 0, .slice none 0 0] 30 (0, 0))) := ⟨by rw [← hq_]; exact (Hof.Bw BK542.out)⟩; have n1_ : Aside0 (Below w.heap.size w w20) := ⟨by rw [← hq_]; exact (Hof.Lw HB.out)⟩; clear BK542 HB hq_; have BK542 := n0_; have HB := n1_; clear n0_ n1_; have hcy542_0 : w20.cell? ⟨gb542, 0, none⟩ = some (.int .i64 0) := (blk_cell BK542.out 0).trans rfl; have hfy542_0 := blk_frozen BK542.out 0; have hcy542_1 : w20.cell? ⟨gb542, 1, none⟩ = some (.slice none 0 0) := (blk_cell BK542.out 1).trans rfl; have hfy542_1 := blk_frozen BK542.out 1)); obtain ⟨hcz21_0, hcz21_1, hfz21_0, hfz21_1⟩ := Hof.blk2 BK542.out))
  refine bodyPost_ret (results_cell_row rfl _ _ gb542 30 #[.int .i64 0, .slice none 0 0] (0, 0) _ rfl Hof.B Tryz.underlying30 rfl (by kernel_rfl)) rfl ?_
  exact ⟨_, Hof.E, Hof.N, Hof.L⟩
def spec_CountOf.l0 : Nat → Int → Int → Option (Int)
 | 0, _, _ => none
 | k + 1, x0, x3 => if x0 > 0 then (spec_CountOf.l0 k (x0 / 2) (wrap64 (x3 + (Go.bits .and .i64 x0 1)))) else (some x3)
def spec_CountOf.f (k : Nat) (a0 : Int) : Option (Int) := (spec_IsSet.f 8 a0).bind fun t558 => (if t558 = true then (spec_CountOf.l0 k a0 0) else (some 0))
theorem spec_CountOf.mono_l : ∀ k, (∀ y0 y1, LeO (spec_CountOf.l0 k y0 y1) (spec_CountOf.l0 (k + 1) y0 y1))
 | 0 => fun _ _ r h => by simp [spec_CountOf.l0] at h
 | k + 1 => by
  have ih0 := spec_CountOf.mono_l k
  ·intro y0 y1
   unfold spec_CountOf.l0
   repeat' first
   | (with_reducible exact ih0 _ _)
   | (with_reducible exact LeO.refl _)
   | (with_reducible exact LeO.none _)
   | (with_reducible refine LeO.ite ?_ ?_)
   | (with_reducible refine LeO.bind ?_ (fun _ => ?_))
   | exact ih0 _ _
   | exact LeO.none _
   | refine LeO.ite ?_ ?_
   | refine LeO.bind ?_ (fun _ => ?_)
theorem spec_CountOf.mono : ∀ a0 k, LeO (spec_CountOf.f k a0) (spec_CountOf.f (k + 1) a0) := by
 intro a0 k
 have ih0 := spec_CountOf.mono_l k
 unfold spec_CountOf.f
 repeat' first
   | (with_reducible exact ih0 _ _)
   | (with_reducible exact LeO.refl _)
   | (with_reducible exact LeO.none _)
   | (with_reducible refine LeO.ite ?_ ?_)
   | (with_reducible refine LeO.bind ?_ (fun _ => ?_))
   | exact ih0 _ _
   | exact LeO.none _
   | refine LeO.ite ?_ ?_
   | refine LeO.bind ?_ (fun _ => ?_)
set_option maxHeartbeats 8000000 in
set_option maxRecDepth 100000 in
theorem spec_CountOf.calls (k : Nat) (a0 : Int) (r : Int) (w : World) (h : spec_CountOf.f k a0 = some r) :
  Calls Tryz.prog 25 #[.int .i64 a0] w fun e w' => e = .returned (.int .i64 r) ∧ Drawn0 w w' := by
 unfold spec_CountOf.f at h
 have H := h
 clear h
 obtain ⟨t558, A2, H⟩ := Hof.be H
 (try dsimp only at H)
 by_cases c3 : t558 = true
 ·subst c3
  replace H : (spec_CountOf.l0 k a0 0) = some r := by rw [if_pos rfl] at H; exact H
  have H' := Aside0.mk H
  clear H
  go_enter Tryz.func25, Tryz.ntmps25
  go_wp2_with (first | (refine Hof.gl (some 5) Tryz.func87 #[.int .i64 8, .int .i64 a0] ?_; (with_reducible refine (spec_IsSet.calls 8 a0 true _ A2.out).mono ?_); rintro e w' ⟨rfl, ⟨nd, rfl⟩⟩; refine ⟨_, rfl, ?_⟩))
  go_loopg [0, 3] k (fun kq v0 v3 w' => ∃ (x0_1 : Int) (x3_1 : Int), v0 = .int .i64 x0_1 ∧ v3 = .int .i64 x3_1 ∧ Aside0 (spec_CountOf.l0 kq x0_1 x3_1 = some r) ∧ Aside0 (kq ≤ k) ∧ Drawn0 w w')
  case atStart => exact ⟨(a0), (0), Hof.F, Hof.F, H', ⟨Nat.le_refl _⟩, Hof.G⟩
  case round =>
   clear H'
   obtain ⟨x0_1, x3_1, rfl, rfl, HA, HK1, ⟨m1, rfl⟩⟩ := hrel
   cases gk with
   | zero => exact absurd HA.out (by simp [spec_CountOf.l0])
   | succ k1 =>
    have H := HA.out
    clear HA
    simp only [spec_CountOf.l0] at H
    by_cases c4 : x0_1 > 0
    ·rw [if_pos c4] at H
     have c4b0 := decide_eq_true c4
     clear c4
     have H' := Aside0.mk H
     clear H
     go_wp2
     go_roundg k1
     case measure => have := HK1.out; omega
     case rel => exact ⟨(x0_1 / 2), (wrap64 (x3_1 + (Go.bits .and .i64 x0_1 1))), Hof.F, Hof.F, H', ⟨by have := HK1.out; omega⟩, Hof.G⟩
    ·rw [if_neg c4] at H
     have c4b0 : decide (0 < x0_1) = false := decide_eq_false c4
     clear c4
     obtain rfl := Option.some.inj H
     go_wp2
     go_ret
     exact ⟨Hof.F, Hof.G⟩
 ·replace c3 := Bool.eq_false_iff.mpr c3
  subst c3
  replace H : (some 0) = some r := by rw [if_neg (show ¬ (false = true) by decide)] at H; exact H
  obtain rfl := Option.some.inj H
  go_enter Tryz.func25, Tryz.ntmps25
  go_wp2_with (first | (refine Hof.gl (some 5) Tryz.func87 #[.int .i64 8, .int .i64 a0] ?_; (with_reducible refine (spec_IsSet.calls 8 a0 false _ A2.out).mono ?_); rintro e w' ⟨rfl, ⟨nd, rfl⟩⟩; refine ⟨_, rfl, ?_⟩))
  go_ret
  exact ⟨Hof.F, Hof.G⟩
def spec_IsFamily.l0 : Nat → Int → List Int → Int → Option (Bool)
 | 0, _, _, _ => none
 | k + 1, x0, x1, x5 => if x5 < (x1.length : Int) then (if 0 ≤ x5 then ((spec_IsSet.f x0 (rd x1 x5)).bind fun t560 => (if t560 = true then (if x5 > 0 then (if 0 ≤ (wrap64 (x5 - 1)) then (if (wrap64 (x5 - 1)) < (x1.length : Int) then (if (rd x1 (wrap64 (x5 - 1))) ≥ (rd x1 x5) then (some false) else (spec_IsFamily.l0 k x0 x1 (wrap64 (x5 + 1)))) else (none)) else (none)) else (spec_IsFamily.l0 k x0 x1 (wrap64 (x5 + 1)))) else (some false))) else (none)) else ((spec_l1In.f x0 0 8).bind fun t563 => (some t563))
def spec_IsFamily.f (k : Nat) (a0 : Int) (l1 : List Int) : Option (Bool) := spec_IsFamily.l0 k a0 l1 0
set_option maxHeartbeats 8000000 in
set_option maxRecDepth 100000 in
theorem spec_IsFamily.calls (k : Nat) (a0 : Int) (A1 : Option Addr) (c1 : Nat) (l1 : List Int) (r : Bool) (w : World) (hr1 : Kd.C (Kd.int .i64) w A1 l1.length l1) (hc1 : l1.length ≤ c1) (h : spec_IsFamily.f k a0 l1 = some r) :
  Calls Tryz.prog 96 #[.int .i64 a0, .slice A1 l1.length c1] w fun e w' => e = .returned (.bool r) ∧ Drawn0 w w' := by
 have HR1 := Aside0.mk hr1
 have HC1 := Aside0.mk hc1
 clear hr1 hc1
 unfold spec_IsFamily.f at h
 have H := h
 clear h
 have H' := Aside0.mk H
 clear H
 go_enter Tryz.func96, Tryz.ntmps96
 go_wp2
 repeat (go_quiet (fail); try go_wp2)
 go_loopg [5] k (fun kq v5 w' => ∃ (x5_1 : Int), v5 = .int .i64 x5_1 ∧ Aside0 (spec_IsFamily.l0 kq a0 l1 x5_1 = some r) ∧ Aside0 (kq ≤ k) ∧ Drawn0 w w')
 case atStart => exact ⟨(0), Hof.F, H', ⟨Nat.le_refl _⟩, Hof.G⟩
 case round =>
  clear H'
  obtain ⟨x5_1, rfl, HA, HK1, ⟨m1, rfl⟩⟩ := hrel
  cases gk with
  | zero => exact absurd HA.out (by simp [spec_IsFamily.l0])
  | succ k1 =>
   have H := HA.out
   clear HA
   simp only [spec_IsFamily.l0] at H
   by_cases c3 : x5_1 < (l1.length : Int)
   ·rw [if_pos c3] at H
    have c3b0 := decide_eq_true c3
    clear c3
    by_cases c4 : 0 ≤ x5_1
    ·rw [if_pos c4] at H
     have c4b0 := decide_eq_true c4
     clear c4
     obtain ⟨t560, A5, H⟩ := Hof.be H
     (try dsimp only at H)
     by_cases c6 : t560 = true
     ·subst c6
      replace H : (if x5_1 > 0 then (if 0 ≤ (wrap64 (x5_1 - 1)) then (if (wrap64 (x5_1 - 1)) < (l1.length : Int) then (if (rd l1 (wrap64 (x5_1 - 1))) ≥ (rd l1 x5_1) then (some false) else (spec_IsFamily.l0 k1 a0 l1 (wrap64 (x5_1 + 1)))) else (none)) else (none)) else (spec_IsFamily.l0 k1 a0 l1 (wrap64 (x5_1 + 1)))) = some r := by rw [if_pos rfl] at H; exact H
      by_cases c7 : x5_1 > 0
      ·rw [if_pos c7] at H
       have c7b0 := decide_eq_true c7
       clear c7
       obtain ⟨ji8, hji8⟩ : ∃ j_ : Int, (wrap64 (x5_1 - 1)) = j_ := ⟨_, rfl⟩
       replace H : (if 0 ≤ (ji8) then (if (ji8) < (l1.length : Int) then (if (rd l1 (ji8)) ≥ (rd l1 x5_1) then (some false) else (spec_IsFamily.l0 k1 a0 l1 (wrap64 (x5_1 + 1)))) else (none)) else (none)) = some r := by first | (rw [hji8] at H; exact H) | (simp only [hji8] at H ⊢; exact H)
       (try rw [hji8] at A5)
       have hji8w : (IntKind.i64.wrap (x5_1 - 1)) = ji8 := (i64_w _).trans hji8
       by_cases c9 : 0 ≤ (ji8)
       ·rw [if_pos c9] at H
        have c9b0 := decide_eq_true c9
        clear c9
        by_cases c10 : (ji8) < (l1.length : Int)
        ·rw [if_pos c10] at H
         have c10b0 := decide_eq_true c10
         clear c10
         by_cases c11 : (rd l1 (ji8)) ≥ (rd l1 x5_1)
         ·rw [if_pos c11] at H
          have c11b0 := decide_eq_true c11
          clear c11
          obtain rfl := Option.some.inj H
          have p559 : 0 ≤ (x5_1 : Int) := Hof.D
          have q559 : x5_1 < (l1.length : Int) := Hof.D
          obtain ⟨ad559, e559, hx559_0⟩ := Kd.at_int HR1.out x5_1 p559 q559
          cases e559
          replace p559 := eq_true p559
          replace q559 := eq_true q559
          go_wp2_with (first | (go_at_call 87; (with_reducible refine (spec_IsSet.calls a0 (rd l1 x5_1) true _ A5.out).mono ?_); rintro e w' ⟨rfl, ⟨nd, rfl⟩⟩; (try exact Hof.W); have p561 : 0 ≤ ((ji8) : Int) := Hof.D; have q561 : (ji8) < (l1.length : Int) := Hof.D; obtain ⟨ad561, e561, hx561_0⟩ := Kd.at_int HR1.out (ji8) p561 q561; obtain rfl : ad559 = ad561 := (by injection e561); replace p561 := eq_true p561; replace q561 := eq_true q561; have p562 : 0 ≤ (x5_1 : Int) := Hof.D; have q562 : x5_1 < (l1.length : Int) := Hof.D; obtain ⟨ad562, e562, hx562_0⟩ := Kd.at_int HR1.out x5_1 p562 q562; obtain rfl : ad559 = ad562 := (by injection e562); replace p562 := eq_true p562; replace q562 := eq_true q562))
          repeat (go_quiet (first | (go_at_call 87; (with_reducible refine (spec_IsSet.calls a0 (rd l1 x5_1) true _ A5.out).mono ?_); rintro e w' ⟨rfl, ⟨nd, rfl⟩⟩; (try exact Hof.W); have p561 : 0 ≤ ((ji8) : Int) := Hof.D; have q561 : (ji8) < (l1.length : Int) := Hof.D; obtain ⟨ad561, e561, hx561_0⟩ := Kd.at_int HR1.out (ji8) p561 q561; obtain rfl : ad559 = ad561 := (by injection e561); replace p561 := eq_true p561; replace q561 := eq_true q561; have p562 : 0 ≤ (x5_1 : Int) := Hof.D; have q562 : x5_1 < (l1.length : Int) := Hof.D; obtain ⟨ad562, e562, hx562_0⟩ := Kd.at_int HR1.out x5_1 p562 q562; obtain rfl : ad559 = ad562 := (by injection e562); replace p562 := eq_true p562; replace q562 := eq_true q562)); try go_wp2_with (first | (go_at_call 87; (with_reducible refine (spec_IsSet.calls a0 (rd l1 x5_1) true _ A5.out).mono ?_); rintro e w' ⟨rfl, ⟨nd, rfl⟩⟩; (try exact Hof.W); have p561 : 0 ≤ ((ji8) : Int) := Hof.D; have q561 : (ji8) < (l1.length : Int) := Hof.D; obtain ⟨ad561, e561, hx561_0⟩ := Kd.at_int HR1.out (ji8) p561 q561; obtain rfl : ad559 = ad561 := (by injection e561); replace p561 := eq_true p561; replace q561 := eq_true q561; have p562 : 0 ≤ (x5_1 : Int) := Hof.D; have q562 : x5_1 < (l1.length : Int) := Hof.D; obtain ⟨ad562, e562, hx562_0⟩ := Kd.at_int HR1.out x5_1 p562 q562; obtain rfl : ad559 = ad562 := (by injection e562); replace p562 := eq_true p562; replace q562 := eq_true q562)))
          go_ret
          exact ⟨by first | rfl | (simp; done) | (simp only [← hji8] <;> (first | rfl | simp)) | (simp [*]; done), Hof.G⟩
         ·rw [if_neg c11] at H
          have c11b0 : decide ((rd l1 x5_1) ≤ (rd l1 (ji8))) = false := decide_eq_false c11
          clear c11
          have H' := Aside0.mk H
          clear H
          have p559 : 0 ≤ (x5_1 : Int) := Hof.D
          have q559 : x5_1 < (l1.length : Int) := Hof.D
          obtain ⟨ad559, e559, hx559_0⟩ := Kd.at_int HR1.out x5_1 p559 q559
          cases e559
          replace p559 := eq_true p559
          replace q559 := eq_true q559
          go_wp2_with (first | (go_at_call 87; (with_reducible refine (spec_IsSet.calls a0 (rd l1 x5_1) true _ A5.out).mono ?_); rintro e w' ⟨rfl, ⟨nd, rfl⟩⟩; (try exact Hof.W); have p561 : 0 ≤ ((ji8) : Int) := Hof.D; have q561 : (ji8) < (l1.length : Int) := Hof.D; obtain ⟨ad561, e561, hx561_0⟩ := Kd.at_int HR1.out (ji8) p561 q561; obtain rfl : ad559 = ad561 := (by injection e561); replace p561 := eq_true p561; replace q561 := eq_true q561; have p562 : 0 ≤ (x5_1 : Int) := Hof.D; have q562 : x5_1 < (l1.length : Int) := Hof.D; obtain ⟨ad562, e562, hx562_0⟩ := Kd.at_int HR1.out x5_1 p562 q562; obtain rfl : ad559 = ad562 := (by injection e562); replace p562 := eq_true p562; replace q562 := eq_true q562))
          repeat (go_quiet (first | (go_at_call 87; (with_reducible refine (spec_IsSet.calls a0 (rd l1 x5_1) true _ A5.out).mono ?_); rintro e w' ⟨rfl, ⟨nd, rfl⟩⟩; (try exact Hof.W); have p561 : 0 ≤ ((ji8) : Int) := Hof.D; have q561 : (ji8) < (l1.length : Int) := Hof.D; obtain ⟨ad561, e561, hx561_0⟩ := Kd.at_int HR1.out (ji8) p561 q561; obtain rfl : ad559 = ad561 := (by injection e561); replace p561 := eq_true p561; replace q561 := eq_true q561; have p562 : 0 ≤ (x5_1 : Int) := Hof.D; have q562 : x5_1 < (l1.length : Int) := Hof.D; obtain ⟨ad562, e562, hx562_0⟩ := Kd.at_int HR1.out x5_1 p562 q562; obtain rfl : ad559 = ad562 := (by injection e562); replace p562 := eq_true p562; replace q562 := eq_true q562)); try go_wp2_with (first | (go_at_call 87; (with_reducible refine (spec_IsSet.calls a0 (rd l1 x5_1) true _ A5.out).mono ?_); rintro e w' ⟨rfl, ⟨nd, rfl⟩⟩; (try exact Hof.W); have p561 : 0 ≤ ((ji8) : Int) := Hof.D; have q561 : (ji8) < (l1.length : Int) := Hof.D; obtain ⟨ad561, e561, hx561_0⟩ := Kd.at_int HR1.out (ji8) p561 q561; obtain rfl : ad559 = ad561 := (by injection e561); replace p561 := eq_true p561; replace q561 := eq_true q561; have p562 : 0 ≤ (x5_1 : Int) := Hof.D; have q562 : x5_1 < (l1.length : Int) := Hof.D; obtain ⟨ad562, e562, hx562_0⟩ := Kd.at_int HR1.out x5_1 p562 q562; obtain rfl : ad559 = ad562 := (by injection e562); replace p562 := eq_true p562; replace q562 := eq_true q562)))
          go_roundg k1
          case measure => have := HK1.out; omega
          case rel => exact ⟨(wrap64 (x5_1 + 1)), Hof.F, H', ⟨by have := HK1.out; omega⟩, Hof.G⟩
        ·rw [if_neg c10] at H
         exact absurd H (by simp)
       ·rw [if_neg c9] at H
        exact absurd H (by simp)
      ·rw [if_neg c7] at H
       have c7b0 : decide (0 < x5_1) = false := decide_eq_false c7
       clear c7
       have H' := Aside0.mk H
       clear H
       have p559 : 0 ≤ (x5_1 : Int) := Hof.D
       have q559 : x5_1 < (l1.length : Int) := Hof.D
       obtain ⟨ad559, e559, hx559_0⟩ := Kd.at_int HR1.out x5_1 p559 q559
       cases e559
       replace p559 := eq_true p559
       replace q559 := eq_true q559
       go_wp2_with (first | (go_at_call 87; (with_reducible refine (spec_IsSet.calls a0 (rd l1 x5_1) true _ A5.out).mono ?_); rintro e w' ⟨rfl, ⟨nd, rfl⟩⟩; (try exact Hof.W)))
       repeat (go_quiet (first | (go_at_call 87; (with_reducible refine (spec_IsSet.calls a0 (rd l1 x5_1) true _ A5.out).mono ?_); rintro e w' ⟨rfl, ⟨nd, rfl⟩⟩; (try exact Hof.W))); try go_wp2_with (first | (go_at_call 87; (with_reducible refine (spec_IsSet.calls a0 (rd l1 x5_1) true _ A5.out).mono ?_); rintro e w' ⟨rfl, ⟨nd, rfl⟩⟩; (try exact Hof.W))))
       go_roundg k1
       case measure => have := HK1.out; omega
       case rel => exact ⟨(wrap64 (x5_1 + 1)), Hof.F, H', ⟨by have := HK1.out; omega⟩, Hof.G⟩
     ·replace c6 := Bool.eq_false_iff.mpr c6
      subst c6
      replace H : (some false) = some r := by rw [if_neg (show ¬ (false = true) by decide)] at H; exact H
      obtain rfl := Option.some.inj H
      have p559 : 0 ≤ (x5_1 : Int) := Hof.D
      have q559 : x5_1 < (l1.length : Int) := Hof.D
      obtain ⟨ad559, e559, hx559_0⟩ := Kd.at_int HR1.out x5_1 p559 q559
      cases e559
      replace p559 := eq_true p559
      replace q559 := eq_true q559
      go_wp2_with (first | (go_at_call 87; (with_reducible refine (spec_IsSet.calls a0 (rd l1 x5_1) false _ A5.out).mono ?_); rintro e w' ⟨rfl, ⟨nd, rfl⟩⟩; (try exact Hof.W)))
      repeat (go_quiet (first | (go_at_call 87; (with_reducible refine (spec_IsSet.calls a0 (rd l1 x5_1) false _ A5.out).mono ?_); rintro e w' ⟨rfl, ⟨nd, rfl⟩⟩; (try exact Hof.W))); try go_wp2_with (first | (go_at_call 87; (with_reducible refine (spec_IsSet.calls a0 (rd l1 x5_1) false _ A5.out).mono ?_); rintro e w' ⟨rfl, ⟨nd, rfl⟩⟩; (try exact Hof.W))))
      go_ret
      exact ⟨Hof.F, Hof.G⟩
    ·rw [if_neg c4] at H
     exact absurd H (by simp)
   ·rw [if_neg c3] at H
    have c3b0 : decide (x5_1 < (l1.length : Int)) = false := decide_eq_false c3
    clear c3
    obtain ⟨t563, A12, H⟩ := Hof.be H
    (try dsimp only at H)
    obtain rfl := Option.some.inj H
    go_wp2_with (first | (go_at_call 94; (with_reducible refine (spec_l1In.calls a0 0 8 t563 _ A12.out).mono ?_); rintro e w' ⟨rfl, ⟨nd, rfl⟩⟩; (try exact Hof.W)))
    repeat (go_quiet (first | (go_at_call 94; (with_reducible refine (spec_l1In.calls a0 0 8 t563 _ A12.out).mono ?_); rintro e w' ⟨rfl, ⟨nd, rfl⟩⟩; (try exact Hof.W))); try go_wp2_with (first | (go_at_call 94; (with_reducible refine (spec_l1In.calls a0 0 8 t563 _ A12.out).mono ?_); rintro e w' ⟨rfl, ⟨nd, rfl⟩⟩; (try exact Hof.W))))
    go_ret
    exact ⟨Hof.F, Hof.G⟩
def spec_HasSet.l0 : Nat → List Int → Int → Int → Option (Bool)
 | 0, _, _, _ => none
 | k + 1, x0, x1, x5 => if x5 < (x0.length : Int) then (if 0 ≤ x5 then (if (rd x0 x5) = x1 then (some true) else (spec_HasSet.l0 k x0 x1 (wrap64 (x5 + 1)))) else (none)) else (some false)
def spec_HasSet.f (k : Nat) (l0 : List Int) (a1 : Int) : Option (Bool) := spec_HasSet.l0 k l0 a1 0
set_option maxHeartbeats 8000000 in
set_option maxRecDepth 100000 in
theorem spec_HasSet.calls (k : Nat) (A0 : Option Addr) (c0 : Nat) (l0 : List Int) (a1 : Int) (r : Bool) (w : World) (hr0 : Kd.C (Kd.int .i64) w A0 l0.length l0) (hc0 : l0.length ≤ c0) (h : spec_HasSet.f k l0 a1 = some r) :
  Calls Tryz.prog 44 #[.slice A0 l0.length c0, .int .i64 a1] w fun e w' => e = .returned (.bool r) ∧ Drawn0 w w' := by
 have HR0 := Aside0.mk hr0
 have HC0 := Aside0.mk hc0
 clear hr0 hc0
 unfold spec_HasSet.f at h
 have H := h
 clear h
 have H' := Aside0.mk H
 clear H
 go_enter Tryz.func44, Tryz.ntmps44
 go_wp2
 go_loopg [5] k (fun kq v5 w' => ∃ (x5_1 : Int), v5 = .int .i64 x5_1 ∧ Aside0 (spec_HasSet.l0 kq l0 a1 x5_1 = some r) ∧ Aside0 (kq ≤ k) ∧ Drawn0 w w')
 case atStart => exact ⟨(0), Hof.F, H', ⟨Nat.le_refl _⟩, Hof.G⟩
 case round =>
  clear H'
  obtain ⟨x5_1, rfl, HA, HK1, ⟨m1, rfl⟩⟩ := hrel
  cases gk with
  | zero => exact absurd HA.out (by simp [spec_HasSet.l0])
  | succ k1 =>
   have H := HA.out
   clear HA
   simp only [spec_HasSet.l0] at H
   by_cases c3 : x5_1 < (l0.length : Int)
   ·rw [if_pos c3] at H
    have c3b0 := decide_eq_true c3
    clear c3
    by_cases c4 : 0 ≤ x5_1
    ·rw [if_pos c4] at H
     have c4b0 := decide_eq_true c4
     clear c4
     by_cases c5 : (rd l0 x5_1) = a1
     ·rw [if_pos c5] at H
      have c5b0 : ((rd l0 x5_1) == a1) = true := beq_iff_eq.mpr c5
      have c5b1 : ((rd l0 x5_1) != a1) = false := bne_eq_false_iff_eq.mpr c5
      clear c5
      obtain rfl := Option.some.inj H
      have p564 : 0 ≤ (x5_1 : Int) := Hof.D
      have q564 : x5_1 < (l0.length : Int) := Hof.D
      obtain ⟨ad564, e564, hx564_0⟩ := Kd.at_int HR0.out x5_1 p564 q564
      cases e564
      replace p564 := eq_true p564
      replace q564 := eq_true q564
      go_wp2
      go_ret
      exact ⟨Hof.F, Hof.G⟩
     ·rw [if_neg c5] at H
      have c5b0 : ((rd l0 x5_1) == a1) = false := beq_eq_false_iff_ne.mpr c5
      have c5b1 : ((rd l0 x5_1) != a1) = true := bne_iff_ne.mpr c5
      have H' := Aside0.mk H
      clear H
      have p564 : 0 ≤ (x5_1 : Int) := Hof.D
      have q564 : x5_1 < (l0.length : Int) := Hof.D
      obtain ⟨ad564, e564, hx564_0⟩ := Kd.at_int HR0.out x5_1 p564 q564
      cases e564
      replace p564 := eq_true p564
      replace q564 := eq_true q564
      go_wp2
      go_roundg k1
      case measure => have := HK1.out; omega
      case rel => exact ⟨(wrap64 (x5_1 + 1)), Hof.F, H', ⟨by have := HK1.out; omega⟩, Hof.G⟩
    ·rw [if_neg c4] at H
     exact absurd H (by simp)
   ·rw [if_neg c3] at H
    have c3b0 : decide (x5_1 < (l0.length : Int)) = false := decide_eq_false c3
    clear c3
    obtain rfl := Option.some.inj H
    go_wp2
    go_ret
    exact ⟨Hof.F, Hof.G⟩
def spec_l4Exchange.l0 : Nat → Int → Int → Int → Int → Int → List Int → Option (Bool)
 | 0, _, _, _, _, _, _ => none
 | k + 1, x1, x2, x3, x9, x566000, x566001 => if x9 < x566000 then ((spec_l2Has.f x2 x9).bind fun t566 => (if t566 = true then ((spec_l2Has.f x1 x9).bind fun t567 => (if t567 = true then (spec_l4Exchange.l0 k x1 x2 x3 (wrap64 (x9 + 1)) x566000 x566001) else (if 0 ≤ (IntKind.u64.wrap (x3)) then (if 0 ≤ (IntKind.u64.wrap (x9)) then ((spec_HasSet.f k x566001 (wrap64 ((wrap64 (x1 - (shl .i64 1 (IntKind.u64.wrap (x3))))) + (shl .i64 1 (IntKind.u64.wrap (x9)))))).bind fun t568 => (if t568 = true then (some true) else (spec_l4Exchange.l0 k x1 x2 x3 (wrap64 (x9 + 1)) x566000 x566001))) else (none)) else (none)))) else (spec_l4Exchange.l0 k x1 x2 x3 (wrap64 (x9 + 1)) x566000 x566001))) else (some false)
def spec_l4Exchange.f (k : Nat) (a0_0 : Int) (l0_1 : List Int) (a1 : Int) (a2 : Int) (a3 : Int) : Option (Bool) := spec_l4Exchange.l0 k a1 a2 a3 0 a0_0 l0_1
set_option maxHeartbeats 8000000 in
set_option maxRecDepth 100000 in
theorem spec_l4Exchange.calls (k : Nat) (a0_0 : Int) (A0_1 : Option Addr) (c0_1 : Nat) (l0_1 : List Int) (a1 : Int) (a2 : Int) (a3 : Int) (r : Bool) (w : World) (hr0_1 : Kd.C (Kd.int .i64) w A0_1 l0_1.length l0_1) (hc0_1 : l0_1.length ≤ c0_1) (h : spec_l4Exchange.f k a0_0 l0_1 a1 a2 a3 = some r) :
  Calls Tryz.prog 138 #[.agg #[.int .i64 a0_0, .slice A0_1 l0_1.length c0_1], .int .i64 a1, .int .i64 a2, .int .i64 a3] w fun e w' => e = .returned (.bool r) ∧ Below w.heap.size w w' := by
 have hu30 := Tryz.underlying30
 have HR0_1 := Aside0.mk hr0_1
 have HC0_1 := Aside0.mk hc0_1
 clear hr0_1 hc0_1
 have HB := Aside0.mk (Below.refl w.heap.size w)
 unfold spec_l4Exchange.f at h
 have H := h
 clear h
 have H' := Aside0.mk H
 clear H
 go_enter Tryz.func138, Tryz.ntmps138
 go_wp2_with (first | ((with_reducible refine gate_dst (N := 4) rfl ?_); refine Hof.bx 4 #[.int .i64 a0_0, .slice A0_1 l0_1.length c0_1] 30 ?_; intro gb565 hg w5 hbox hb; have BK565 := Aside0.mk hbox; have GW565 := Hof.gw hg HB; have GE565 := Hof.gw hg HB; replace HB := Hof.lb HB hb; clear hb hbox hg))
 go_loopg [9] k (fun kq v9 w' => ∃ (x9_1 : Int), v9 = .int .i64 x9_1 ∧ Aside0 (spec_l4Exchange.l0 kq a1 a2 a3 x9_1 a0_0 l0_1 = some r) ∧ Aside0 (kq ≤ k) ∧ Aside0 (w'.heap[gb565]? = some (.cells #[.int .i64 a0_0, (.slice A0_1 l0_1.length c0_1)] 30 (0, 0))) ∧ Aside0 (Below w.heap.size w w'))
 case atStart => exact ⟨(0), Hof.F, H', ⟨Nat.le_refl _⟩, ⟨Hof.Bw BK565.out⟩, ⟨Hof.Lw HB.out⟩⟩
 case round =>
  clear H'
  obtain ⟨x9_1, rfl, HA, HK1, BK565, HB⟩ := hrel
  cases gk with
  | zero => exact absurd HA.out (by simp [spec_l4Exchange.l0])
  | succ k1 =>
   have H := HA.out
   clear HA
   simp only [spec_l4Exchange.l0] at H
   by_cases c6 : x9_1 < a0_0
   ·rw [if_pos c6] at H
    have c6b0 := decide_eq_true c6
    clear c6
    obtain ⟨t566, A7, H⟩ := Hof.be H
    (try dsimp only at H)
    by_cases c8 : t566 = true
    ·subst c8
     replace H : ((spec_l2Has.f a1 x9_1).bind fun t567 => (if t567 = true then (spec_l4Exchange.l0 k1 a1 a2 a3 (wrap64 (x9_1 + 1)) a0_0 l0_1) else (if 0 ≤ (IntKind.u64.wrap (a3)) then (if 0 ≤ (IntKind.u64.wrap (x9_1)) then ((spec_HasSet.f k1 l0_1 (wrap64 ((wrap64 (a1 - (shl .i64 1 (IntKind.u64.wrap (a3))))) + (shl .i64 1 (IntKind.u64.wrap (x9_1)))))).bind fun t568 => (if t568 = true then (some true) else (spec_l4Exchange.l0 k1 a1 a2 a3 (wrap64 (x9_1 + 1)) a0_0 l0_1))) else (none)) else (none)))) = some r := by rw [if_pos rfl] at H; exact H
     obtain ⟨t567, A9, H⟩ := Hof.be H
     (try dsimp only at H)
     by_cases c10 : t567 = true
     ·subst c10
      replace H : (spec_l4Exchange.l0 k1 a1 a2 a3 (wrap64 (x9_1 + 1)) a0_0 l0_1) = some r := by rw [if_pos rfl] at H; exact H
      have H' := Aside0.mk H
      clear H
      obtain ⟨hcz11_0, hcz11_1, hfz11_0, hfz11_1⟩ := Hof.blk2 BK565.out
      go_wp2_with (first | ((with_reducible refine gate_callee (f := 89) rfl ?_); refine Hof.gl (some 18) Tryz.func89 #[.int .i64 a2, .int .i64 x9_1] ?_; (with_reducible refine (spec_l2Has.calls a2 x9_1 true _ A7.out).mono ?_); rintro e w' ⟨rfl, ⟨nd, rfl⟩⟩; refine ⟨_, rfl, ?_⟩) | (go_at_call 89; (with_reducible refine (spec_l2Has.calls a1 x9_1 true _ A9.out).mono ?_); rintro e w' ⟨rfl, ⟨nd, rfl⟩⟩))
      go_roundg k1
      case measure => have := HK1.out; omega
      case rel => exact ⟨(wrap64 (x9_1 + 1)), Hof.F, H', ⟨by have := HK1.out; omega⟩, ⟨Hof.Bw BK565.out⟩, ⟨Hof.Lw HB.out⟩⟩
     ·replace c10 := Bool.eq_false_iff.mpr c10
      subst c10
      replace H : (if 0 ≤ (IntKind.u64.wrap (a3)) then (if 0 ≤ (IntKind.u64.wrap (x9_1)) then ((spec_HasSet.f k1 l0_1 (wrap64 ((wrap64 (a1 - (shl .i64 1 (IntKind.u64.wrap (a3))))) + (shl .i64 1 (IntKind.u64.wrap (x9_1)))))).bind fun t568 => (if t568 = true then (some true) else (spec_l4Exchange.l0 k1 a1 a2 a3 (wrap64 (x9_1 + 1)) a0_0 l0_1))) else (none)) else (none)) = some r := by rw [if_neg (show ¬ (false = true) by decide)] at H; exact H
      obtain ⟨ji12, hji12⟩ : ∃ j_ : Int, (IntKind.u64.wrap (a3)) = j_ := ⟨_, rfl⟩
      replace H : (if 0 ≤ (ji12) then (if 0 ≤ (IntKind.u64.wrap (x9_1)) then ((spec_HasSet.f k1 l0_1 (wrap64 ((wrap64 (a1 - (shl .i64 1 (ji12)))) + (shl .i64 1 (IntKind.u64.wrap (x9_1)))))).bind fun t568 => (if t568 = true then (some true) else (spec_l4Exchange.l0 k1 a1 a2 a3 (wrap64 (x9_1 + 1)) a0_0 l0_1))) else (none)) else (none)) = some r := by first | (rw [hji12] at H; exact H) | (simp only [hji12] at H ⊢; exact H)
      (try rw [hji12] at A7)
      (try rw [hji12] at A9)
      by_cases c13 : 0 ≤ (ji12)
      ·rw [if_pos c13] at H
       have c13b0 := eq_true c13
       have c13b1 : decide (0 ≤ (ji12)) = true := decide_eq_true c13
       clear c13
       obtain ⟨ji14, hji14⟩ : ∃ j_ : Int, (shl .i64 1 (ji12)) = j_ := ⟨_, rfl⟩
       replace H : (if 0 ≤ (IntKind.u64.wrap (x9_1)) then ((spec_HasSet.f k1 l0_1 (wrap64 ((wrap64 (a1 - (ji14))) + (shl .i64 1 (IntKind.u64.wrap (x9_1)))))).bind fun t568 => (if t568 = true then (some true) else (spec_l4Exchange.l0 k1 a1 a2 a3 (wrap64 (x9_1 + 1)) a0_0 l0_1))) else (none)) = some r := by first | (rw [hji14] at H; exact H) | (simp only [hji14] at H ⊢; exact H)
       (try rw [hji14] at A7)
       (try rw [hji14] at A9)
       have hji14_ : (IntKind.i64.wrap (1 * 2 ^ min (ji12).toNat 64)) = ji14 := hji14
       have hji14z : (ji12) ≤ 64 → (IntKind.i64.wrap (1 * 2 ^ (ji12).toNat)) = ji14 := shl_small hji14
       have hji14u : (IntKind.i64.wrap (2 ^ min (ji12).toNat 64)) = ji14 := by have h_ := hji14_; rw [Int.one_mul] at h_; exact h_
       have hji14v : (ji12) ≤ 64 → (IntKind.i64.wrap (2 ^ (ji12).toNat)) = ji14 := fun hle_ => by have h_ := hji14z hle_; rw [Int.one_mul] at h_; exact h_
       have hji14y : (wrap64 (1 * 2 ^ min (ji12).toNat 64)) = ji14 := (i64_w _).symm.trans hji14_
       have hji14x : (ji12) ≤ 64 → (wrap64 (1 * 2 ^ (ji12).toNat)) = ji14 := fun h_ => (i64_w _).symm.trans (hji14z h_)
       obtain ⟨ji15, hji15⟩ : ∃ j_ : Int, (IntKind.u64.wrap (x9_1)) = j_ := ⟨_, rfl⟩
       replace H : (if 0 ≤ (ji15) then ((spec_HasSet.f k1 l0_1 (wrap64 ((wrap64 (a1 - (ji14))) + (shl .i64 1 (ji15))))).bind fun t568 => (if t568 = true then (some true) else (spec_l4Exchange.l0 k1 a1 a2 a3 (wrap64 (x9_1 + 1)) a0_0 l0_1))) else (none)) = some r := by first | (rw [hji15] at H; exact H) | (simp only [hji15] at H ⊢; exact H)
       (try rw [hji15] at A7)
       (try rw [hji15] at A9)
       by_cases c16 : 0 ≤ (ji15)
       ·rw [if_pos c16] at H
        have c16b0 := eq_true c16
        have c16b1 : decide (0 ≤ (ji15)) = true := decide_eq_true c16
        clear c16
        obtain ⟨ji17, hji17⟩ : ∃ j_ : Int, (shl .i64 1 (ji15)) = j_ := ⟨_, rfl⟩
        replace H : ((spec_HasSet.f k1 l0_1 (wrap64 ((wrap64 (a1 - (ji14))) + (ji17)))).bind fun t568 => (if t568 = true then (some true) else (spec_l4Exchange.l0 k1 a1 a2 a3 (wrap64 (x9_1 + 1)) a0_0 l0_1))) = some r := by first | (rw [hji17] at H; exact H) | (simp only [hji17] at H ⊢; exact H)
        (try rw [hji17] at A7)
        (try rw [hji17] at A9)
        have hji17_ : (IntKind.i64.wrap (1 * 2 ^ min (ji15).toNat 64)) = ji17 := hji17
        have hji17z : (ji15) ≤ 64 → (IntKind.i64.wrap (1 * 2 ^ (ji15).toNat)) = ji17 := shl_small hji17
        have hji17u : (IntKind.i64.wrap (2 ^ min (ji15).toNat 64)) = ji17 := by have h_ := hji17_; rw [Int.one_mul] at h_; exact h_
        have hji17v : (ji15) ≤ 64 → (IntKind.i64.wrap (2 ^ (ji15).toNat)) = ji17 := fun hle_ => by have h_ := hji17z hle_; rw [Int.one_mul] at h_; exact h_
        have hji17y : (wrap64 (1 * 2 ^ min (ji15).toNat 64)) = ji17 := (i64_w _).symm.trans hji17_
        have hji17x : (ji15) ≤ 64 → (wrap64 (1 * 2 ^ (ji15).toNat)) = ji17 := fun h_ => (i64_w _).symm.trans (hji17z h_)
        obtain ⟨t568, A18, H⟩ := Hof.be H
        (try dsimp only at H)
        by_cases c19 : t568 = true
        ·subst c19
         replace H : (some true) = some r := by rw [if_pos rfl] at H; exact H
         obtain rfl := Option.some.inj H
         obtain ⟨hcz20_0, hcz20_1, hfz20_0, hfz20_1⟩ := Hof.blk2 BK565.out
         go_wp2_with (first | ((with_reducible refine gate_callee (f := 89) rfl ?_); refine Hof.gl (some 18) Tryz.func89 #[.int .i64 a2, .int .i64 x9_1] ?_; (with_reducible refine (spec_l2Has.calls a2 x9_1 true _ A7.out).mono ?_); rintro e w' ⟨rfl, ⟨nd, rfl⟩⟩; refine ⟨_, rfl, ?_⟩) | (go_at_call 89; (with_reducible refine (spec_l2Has.calls a1 x9_1 false _ A9.out).mono ?_); rintro e w' ⟨rfl, ⟨nd, rfl⟩⟩) | (go_at_call 44; (with_reducible refine (spec_HasSet.calls k1 _ _ l0_1 (wrap64 ((wrap64 (a1 - (ji14))) + (ji17))) true _ ?side1 ?side2 A18.out).mono ?_); (case side1 => exact Hof.Cw (Kd.C_below HR0_1.out HB.out)); (case side2 => exact HC0_1.out); rintro e w' ⟨rfl, ⟨nd, rfl⟩⟩))
         go_ret
         exact ⟨by first | rfl | (simp [errW_none, errW_some] <;> rfl) | (simp only [← hji12, ← hji14, ← hji15, ← hji17]; first | rfl | (simp [errW_none, errW_some] <;> rfl)) | (simp [*, errW_none, errW_some] <;> rfl), Hof.L⟩
        ·replace c19 := Bool.eq_false_iff.mpr c19
         subst c19
         replace H : (spec_l4Exchange.l0 k1 a1 a2 a3 (wrap64 (x9_1 + 1)) a0_0 l0_1) = some r := by rw [if_neg (show ¬ (false = true) by decide)] at H; exact H
         have H' := Aside0.mk H
         clear H
         obtain ⟨hcz21_0, hcz21_1, hfz21_0, hfz21_1⟩ := Hof.blk2 BK565.out
         go_wp2_with (first | ((with_reducible refine gate_callee (f := 89) rfl ?_); refine Hof.gl (some 18) Tryz.func89 #[.int .i64 a2, .int .i64 x9_1] ?_; (with_reducible refine (spec_l2Has.calls a2 x9_1 true _ A7.out).mono ?_); rintro e w' ⟨rfl, ⟨nd, rfl⟩⟩; refine ⟨_, rfl, ?_⟩) | (go_at_call 89; (with_reducible refine (spec_l2Has.calls a1 x9_1 false _ A9.out).mono ?_); rintro e w' ⟨rfl, ⟨nd, rfl⟩⟩) | (go_at_call 44; (with_reducible refine (spec_HasSet.calls k1 _ _ l0_1 (wrap64 ((wrap64 (a1 - (ji14))) + (ji17))) false _ ?side1 ?side2 A18.out).mono ?_); (case side1 => exact Hof.Cw (Kd.C_below HR0_1.out HB.out)); (case side2 => exact HC0_1.out); rintro e w' ⟨rfl, ⟨nd, rfl⟩⟩))
         go_roundg k1
         case measure => have := HK1.out; omega
         case rel => exact ⟨(wrap64 (x9_1 + 1)), Hof.F, H', ⟨by have := HK1.out; omega⟩, ⟨Hof.Bw BK565.out⟩, ⟨Hof.Lw HB.out⟩⟩
       ·rw [if_neg c16] at H
        exact absurd H (by simp)
      ·rw [if_neg c13] at H
       exact absurd H (by simp)
    ·replace c8 := Bool.eq_false_iff.mpr c8
     subst c8
     replace H : (spec_l4Exchange.l0 k1 a1 a2 a3 (wrap64 (x9_1 + 1)) a0_0 l0_1) = some r := by rw [if_neg (show ¬ (false = true) by decide)] at H; exact H
     have H' := Aside0.mk H
     clear H
     obtain ⟨hcz22_0, hcz22_1, hfz22_0, hfz22_1⟩ := Hof.blk2 BK565.out
     go_wp2_with (first | ((with_reducible refine gate_callee (f := 89) rfl ?_); refine Hof.gl (some 18) Tryz.func89 #[.int .i64 a2, .int .i64 x9_1] ?_; (with_reducible refine (spec_l2Has.calls a2 x9_1 false _ A7.out).mono ?_); rintro e w' ⟨rfl, ⟨nd, rfl⟩⟩; refine ⟨_, rfl, ?_⟩))
     go_roundg k1
     case measure => have := HK1.out; omega
     case rel => exact ⟨(wrap64 (x9_1 + 1)), Hof.F, H', ⟨by have := HK1.out; omega⟩, ⟨Hof.Bw BK565.out⟩, ⟨Hof.Lw HB.out⟩⟩
   ·rw [if_neg c6] at H
    have c6b0 : decide (x9_1 < a0_0) = false := decide_eq_false c6
    clear c6
    obtain rfl := Option.some.inj H
    obtain ⟨hcz23_0, hcz23_1, hfz23_0, hfz23_1⟩ := Hof.blk2 BK565.out
    go_wp2
    go_ret
    exact ⟨Hof.E, Hof.L⟩
mutual
def spec_FirstFailure.l0 : Nat → Int → Int → List Int → Option (Int × Int × Int × Bool)
 | 0, _, _, _ => none
 | k + 1, x4, x570000, x570001 => if x4 < (x570001.length : Int) then (spec_FirstFailure.l1 k x4 0 x570000 x570001) else (some (0, 0, 0, false))
def spec_FirstFailure.l1 : Nat → Int → Int → Int → List Int → Option (Int × Int × Int × Bool)
 | 0, _, _, _, _ => none
 | k + 1, x4, x5, x570000, x570001 => if x5 < (x570001.length : Int) then (spec_FirstFailure.l2 k x4 x5 0 x570000 x570001) else (spec_FirstFailure.l0 k (wrap64 (x4 + 1)) x570000 x570001)
def spec_FirstFailure.l2 : Nat → Int → Int → Int → Int → List Int → Option (Int × Int × Int × Bool)
 | 0, _, _, _, _, _ => none
 | k + 1, x4, x5, x6, x570000, x570001 => if x6 < x570000 then (if 0 ≤ x4 then (if x4 < (x570001.length : Int) then (if 0 ≤ x5 then (if x5 < (x570001.length : Int) then ((spec_l2Has.f (rd x570001 x4) x6).bind fun t574 => (if t574 = true then ((spec_l2Has.f (rd x570001 x5) x6).bind fun t575 => (if t575 = true then (spec_FirstFailure.l2 k x4 x5 (wrap64 (x6 + 1)) x570000 x570001) else ((spec_l4Exchange.f k x570000 x570001 (rd x570001 x4) (rd x570001 x5) x6).bind fun t576 => (if t576 = true then (spec_FirstFailure.l2 k x4 x5 (wrap64 (x6 + 1)) x570000 x570001) else (some (rd x570001 x4, rd x570001 x5, x6, true)))))) else (spec_FirstFailure.l2 k x4 x5 (wrap64 (x6 + 1)) x570000 x570001))) else (none)) else (none)) else (none)) else (none)) else (spec_FirstFailure.l1 k x4 (wrap64 (x5 + 1)) x570000 x570001)
end
def spec_FirstFailure.f (k : Nat) (a0_0 : Int) (l0_1 : List Int) : Option (Int × Int × Int × Bool) := (spec_IsFamily.f k a0_0 l0_1).bind fun t571 => (if t571 = true then (spec_FirstFailure.l0 k 0 a0_0 l0_1) else (some (0, 0, 0, false)))
set_option maxHeartbeats 8000000 in
set_option maxRecDepth 100000 in
theorem spec_FirstFailure.calls (k : Nat) (a0_0 : Int) (A0_1 : Option Addr) (c0_1 : Nat) (l0_1 : List Int) (r1 : Int) (r2 : Int) (r3 : Int) (r4 : Bool) (w : World) (hr0_1 : Kd.C (Kd.int .i64) w A0_1 l0_1.length l0_1) (hc0_1 : l0_1.length ≤ c0_1) (h : spec_FirstFailure.f k a0_0 l0_1 = some (r1, r2, r3, r4)) :
  Calls Tryz.prog 95 #[.agg #[.int .i64 a0_0, .slice A0_1 l0_1.length c0_1]] w fun e w' => e = .returned (.tuple #[.agg #[.int .i64 r1, .int .i64 r2, .int .i64 r3], .bool r4]) ∧ Below w.heap.size w w' := by
 have hu30 := Tryz.underlying30
 have hu89 := Tryz.underlying89
 have HR0_1 := Aside0.mk hr0_1
 have HC0_1 := Aside0.mk hc0_1
 clear hr0_1 hc0_1
 have HB := Aside0.mk (Below.refl w.heap.size w)
 unfold spec_FirstFailure.f at h
 have H := h
 clear h
 obtain ⟨t571, A2, H⟩ := Hof.be H
 (try dsimp only at H)
 by_cases c3 : t571 = true
 ·subst c3
  replace H : (spec_FirstFailure.l0 k 0 a0_0 l0_1) = some (r1, r2, r3, r4) := by rw [if_pos rfl] at H; exact H
  have H' := Aside0.mk H
  clear H
  go_enter Tryz.func95, Tryz.ntmps95
  go_wp2_with (first | ((with_reducible refine gate_dst (N := 1) rfl ?_); refine Hof.bx 1 #[.int .i64 a0_0, .slice A0_1 l0_1.length c0_1] 30 ?_; intro gb569 hg w4 hbox hb; have BK569 := Aside0.mk hbox; have GW569 := Hof.gw hg HB; have GE569 := Hof.gw hg HB; replace HB := Hof.lb HB hb; clear hb hbox hg) | ((with_reducible refine gate_dst (N := 2) rfl ?_); refine Hof.bx 2 #[.int .i64 0, .int .i64 0, .int .i64 0] 89 ?_; intro gb570 hg w5 hbox hb; have BK570 := Aside0.mk hbox; have GW570 := Hof.gw hg HB; have GE570 := Hof.gw hg HB; replace HB := Hof.lb HB hb; have NB569_570 := Hof.nl hg BK569; have NB570_569 := Hof.ng hg BK569; replace BK569 := Hof.bb BK569 hb; clear hb hbox hg; have hnb6 := NB569_570.out; have hnc6 := NB570_569.out; obtain ⟨hcz7_0, hcz7_1, hfz7_0, hfz7_1⟩ := Hof.blk2 BK569.out) | ((with_reducible refine gate_callee (f := 96) rfl ?_); refine Hof.gl (some 13) Tryz.func96 #[.int .i64 a0_0, .slice A0_1 l0_1.length c0_1] ?_; (with_reducible refine (spec_IsFamily.calls k a0_0 _ _ l0_1 true _ ?side1 ?side2 A2.out).mono ?_); (case side1 => exact Hof.Cw (Kd.C_below HR0_1.out HB.out)); (case side2 => exact HC0_1.out); rintro e w' ⟨rfl, ⟨nd, rfl⟩⟩; refine ⟨_, rfl, ?_⟩))
  go_loopg [4] k (fun kq v4 w' => ∃ (x4_1 : Int) (x571000_1 : Int) (x571001_1 : Int) (x571002_1 : Int), v4 = .int .i64 x4_1 ∧ Aside0 (spec_FirstFailure.l0 kq x4_1 a0_0 l0_1 = some (r1, r2, r3, r4)) ∧ Aside0 (kq ≤ k) ∧ Aside0 (w'.heap[gb569]? = some (.cells #[.int .i64 a0_0, (.slice A0_1 l0_1.length c0_1)] 30 (0, 0))) ∧ Aside0 (w'.heap[gb570]? = some (.cells #[.int .i64 x571000_1, .int .i64 x571001_1, .int .i64 x571002_1] 89 (0, 0))) ∧ Aside0 (Below w.heap.size w w'))
  case atStart => exact ⟨(0), (0), (0), (0), Hof.F, H', ⟨Nat.le_refl _⟩, ⟨Hof.Bw BK569.out⟩, ⟨Hof.Bw BK570.out⟩, ⟨Hof.Lw HB.out⟩⟩
  case round =>
   clear H'
   obtain ⟨x4_1, x571000_1, x571001_1, x571002_1, rfl, HA, HK1, BK569, BK570, HB⟩ := hrel
   cases gk with
   | zero => exact absurd HA.out (by simp [spec_FirstFailure.l0])
   | succ k1 =>
    have H := HA.out
    clear HA
    simp only [spec_FirstFailure.l0] at H
    by_cases c8 : x4_1 < (l0_1.length : Int)
    ·rw [if_pos c8] at H
     have c8b0 := decide_eq_true c8
     clear c8
     have H' := Aside0.mk H
     clear H
     have hnb9 := NB569_570.out
     have hnc9 := NB570_569.out
     obtain ⟨hcz10_0, hcz10_1, hfz10_0, hfz10_1⟩ := Hof.blk2 BK569.out
     go_wp2
     go_loopg [5] k1 (fun kq v5 w' => ∃ (x5_2 : Int) (x571000_2 : Int) (x571001_2 : Int) (x571002_2 : Int), v5 = .int .i64 x5_2 ∧ Aside0 (spec_FirstFailure.l1 kq x4_1 x5_2 a0_0 l0_1 = some (r1, r2, r3, r4)) ∧ Aside0 (kq ≤ k1) ∧ Aside0 (w'.heap[gb569]? = some (.cells #[.int .i64 a0_0, (.slice A0_1 l0_1.length c0_1)] 30 (0, 0))) ∧ Aside0 (w'.heap[gb570]? = some (.cells #[.int .i64 x571000_2, .int .i64 x571001_2, .int .i64 x571002_2] 89 (0, 0))) ∧ Aside0 (Below w.heap.size w w'))
     case atStart => exact ⟨(0), (x571000_1), (x571001_1), (x571002_1), Hof.F, H', ⟨Nat.le_refl _⟩, ⟨Hof.Bw BK569.out⟩, ⟨Hof.Bw BK570.out⟩, ⟨Hof.Lw HB.out⟩⟩
     case round =>
      clear H'
      obtain ⟨x5_2, x571000_2, x571001_2, x571002_2, rfl, HA, HK2, BK569, BK570, HB⟩ := hrel
      cases gk with
      | zero => exact absurd HA.out (by simp [spec_FirstFailure.l1])
      | succ k2 =>
       have H := HA.out
       clear HA
       simp only [spec_FirstFailure.l1] at H
       by_cases c11 : x5_2 < (l0_1.length : Int)
       ·rw [if_pos c11] at H
        have c11b0 := decide_eq_true c11
        clear c11
        have H' := Aside0.mk H
        clear H
        have hnb12 := NB569_570.out
        have hnc12 := NB570_569.out
        obtain ⟨hcz13_0, hcz13_1, hfz13_0, hfz13_1⟩ := Hof.blk2 BK569.out
        go_wp2
        go_loopg [6] k2 (fun kq v6 w' => ∃ (x6_3 : Int) (x571000_3 : Int) (x571001_3 : Int) (x571002_3 : Int), v6 = .int .i64 x6_3 ∧ Aside0 (spec_FirstFailure.l2 kq x4_1 x5_2 x6_3 a0_0 l0_1 = some (r1, r2, r3, r4)) ∧ Aside0 (kq ≤ k2) ∧ Aside0 (w'.heap[gb569]? = some (.cells #[.int .i64 a0_0, (.slice A0_1 l0_1.length c0_1)] 30 (0, 0))) ∧ Aside0 (w'.heap[gb570]? = some (.cells #[.int .i64 x571000_3, .int .i64 x571001_3, .int .i64 x571002_3] 89 (0, 0))) ∧ Aside0 (Below w.heap.size w w'))
        case atStart => exact ⟨(0), (x571000_2), (x571001_2), (x571002_2), Hof.F, H', ⟨Nat.le_refl _⟩, ⟨Hof.Bw BK569.out⟩, ⟨Hof.Bw BK570.out⟩, ⟨Hof.Lw HB.out⟩⟩
        case round =>
         clear H'
         obtain ⟨x6_3, x571000_3, x571001_3, x571002_3, rfl, HA, HK3, BK569, BK570, HB⟩ := hrel
         cases gk with
         | zero => exact absurd HA.out (by simp [spec_FirstFailure.l2])
         | succ k3 =>
          have H := HA.out
          clear HA
          simp only [spec_FirstFailure.l2] at H
          by_cases c14 : x6_3 < a0_0
          ·rw [if_pos c14] at H
           have c14b0 := decide_eq_true c14
           clear c14
           by_cases c15 : 0 ≤ x4_1
           ·rw [if_pos c15] at H
            have c15b0 := decide_eq_true c15
            clear c15
            by_cases c16 : x4_1 < (l0_1.length : Int)
            ·rw [if_pos c16] at H
             have c16b0 := decide_eq_true c16
             clear c16
             by_cases c17 : 0 ≤ x5_2
             ·rw [if_pos c17] at H
              have c17b0 := decide_eq_true c17
              clear c17
              by_cases c18 : x5_2 < (l0_1.length : Int)
              ·rw [if_pos c18] at H
               have c18b0 := decide_eq_true c18
               clear c18
               obtain ⟨t574, A19, H⟩ := Hof.be H
               (try dsimp only at H)
               by_cases c20 : t574 = true
               ·subst c20
                replace H : ((spec_l2Has.f (rd l0_1 x5_2) x6_3).bind fun t575 => (if t575 = true then (spec_FirstFailure.l2 k3 x4_1 x5_2 (wrap64 (x6_3 + 1)) a0_0 l0_1) else ((spec_l4Exchange.f k3 a0_0 l0_1 (rd l0_1 x4_1) (rd l0_1 x5_2) x6_3).bind fun t576 => (if t576 = true then (spec_FirstFailure.l2 k3 x4_1 x5_2 (wrap64 (x6_3 + 1)) a0_0 l0_1) else (some (rd l0_1 x4_1, rd l0_1 x5_2, x6_3, true)))))) = some (r1, r2, r3, r4) := by rw [if_pos rfl] at H; exact H
                obtain ⟨t575, A21, H⟩ := Hof.be H
                (try dsimp only at H)
                by_cases c22 : t575 = true
                ·subst c22
                 replace H : (spec_FirstFailure.l2 k3 x4_1 x5_2 (wrap64 (x6_3 + 1)) a0_0 l0_1) = some (r1, r2, r3, r4) := by rw [if_pos rfl] at H; exact H
                 have H' := Aside0.mk H
                 clear H
                 have hnb23 := NB569_570.out
                 have hnc23 := NB570_569.out
                 obtain ⟨hcz24_0, hcz24_1, hfz24_0, hfz24_1⟩ := Hof.blk2 BK569.out
                 have p572 : 0 ≤ (x4_1 : Int) := Hof.D
                 have q572 : x4_1 < (l0_1.length : Int) := Hof.D
                 obtain ⟨ad572, e572, hx572_0⟩ := Kd.at_int HR0_1.out x4_1 p572 q572
                 cases e572
                 try replace hx572_0 := (HB.out.cell (World.block_lt_of_cell? w _ hx572_0)).trans hx572_0
                 replace p572 := eq_true p572
                 replace q572 := eq_true q572
                 have p573 : 0 ≤ (x5_2 : Int) := Hof.D
                 have q573 : x5_2 < (l0_1.length : Int) := Hof.D
                 obtain ⟨ad573, e573, hx573_0⟩ := Kd.at_int HR0_1.out x5_2 p573 q573
                 obtain rfl : ad572 = ad573 := (by injection e573)
                 try replace hx573_0 := (HB.out.cell (World.block_lt_of_cell? w _ hx573_0)).trans hx573_0
                 replace p573 := eq_true p573
                 replace q573 := eq_true q573
                 go_wp2_with (first | ((with_reducible refine gate_callee (f := 89) rfl ?_); refine Hof.gl (some 48) Tryz.func89 #[.int .i64 (rd l0_1 x4_1), .int .i64 x6_3] ?_; (with_reducible refine (spec_l2Has.calls (rd l0_1 x4_1) x6_3 true _ A19.out).mono ?_); rintro e w' ⟨rfl, ⟨nd, rfl⟩⟩; refine ⟨_, rfl, ?_⟩) | (go_at_call 89; (with_reducible refine (spec_l2Has.calls (rd l0_1 x5_2) x6_3 true _ A21.out).mono ?_); rintro e w' ⟨rfl, ⟨nd, rfl⟩⟩))
                 go_roundg k3
                 case measure => have := HK1.out; have := HK2.out; have := HK3.out; omega
                 case rel => exact ⟨(wrap64 (x6_3 + 1)), (x571000_3), (x571001_3), (x571002_3), Hof.F, H', ⟨by have := HK1.out; have := HK2.out; have := HK3.out; omega⟩, ⟨Hof.Bw BK569.out⟩, ⟨Hof.Bw BK570.out⟩, ⟨Hof.Lw HB.out⟩⟩
                ·replace c22 := Bool.eq_false_iff.mpr c22
                 subst c22
                 replace H : ((spec_l4Exchange.f k3 a0_0 l0_1 (rd l0_1 x4_1) (rd l0_1 x5_2) x6_3).bind fun t576 => (if t576 = true then (spec_FirstFailure.l2 k3 x4_1 x5_2 (wrap64 (x6_3 + 1)) a0_0 l0_1) else (some (rd l0_1 x4_1, rd l0_1 x5_2, x6_3, true)))) = some (r1, r2, r3, r4) := by rw [if_neg (show ¬ (false = true) by decide)] at H; exact H
                 obtain ⟨t576, A25, H⟩ := Hof.be H
                 (try dsimp only at H)
                 by_cases c26 : t576 = true
                 ·subst c26
                  replace H : (spec_FirstFailure.l2 k3 x4_1 x5_2 (wrap64 (x6_3 + 1)) a0_0 l0_1) = some (r1, r2, r3, r4) := by rw [if_pos rfl] at H; exact H
                  have H' := Aside0.mk H
                  clear H
                  have hnb27 := NB569_570.out
                  have hnc27 := NB570_569.out
                  obtain ⟨hcz28_0, hcz28_1, hfz28_0, hfz28_1⟩ := Hof.blk2 BK569.out
                  have p572 : 0 ≤ (x4_1 : Int) := Hof.D
                  have q572 : x4_1 < (l0_1.length : Int) := Hof.D
                  obtain ⟨ad572, e572, hx572_0⟩ := Kd.at_int HR0_1.out x4_1 p572 q572
                  cases e572
                  try replace hx572_0 := (HB.out.cell (World.block_lt_of_cell? w _ hx572_0)).trans hx572_0
                  replace p572 := eq_true p572
                  replace q572 := eq_true q572
                  have p573 : 0 ≤ (x5_2 : Int) := Hof.D
                  have q573 : x5_2 < (l0_1.length : Int) := Hof.D
                  obtain ⟨ad573, e573, hx573_0⟩ := Kd.at_int HR0_1.out x5_2 p573 q573
                  obtain rfl : ad572 = ad573 := (by injection e573)
                  try replace hx573_0 := (HB.out.cell (World.block_lt_of_cell? w _ hx573_0)).trans hx573_0
                  replace p573 := eq_true p573
                  replace q573 := eq_true q573
                  go_wp2_with (first | ((with_reducible refine gate_callee (f := 89) rfl ?_); refine Hof.gl (some 48) Tryz.func89 #[.int .i64 (rd l0_1 x4_1), .int .i64 x6_3] ?_; (with_reducible refine (spec_l2Has.calls (rd l0_1 x4_1) x6_3 true _ A19.out).mono ?_); rintro e w' ⟨rfl, ⟨nd, rfl⟩⟩; refine ⟨_, rfl, ?_⟩) | (go_at_call 89; (with_reducible refine (spec_l2Has.calls (rd l0_1 x5_2) x6_3 false _ A21.out).mono ?_); rintro e w' ⟨rfl, ⟨nd, rfl⟩⟩) | (go_at_call 138; (with_reducible refine (spec_l4Exchange.calls k3 a0_0 _ _ l0_1 (rd l0_1 x4_1) (rd l0_1 x5_2) x6_3 true _ ?side1 ?side2 A25.out).mono ?_); (case side1 => exact Hof.Cw (Kd.C_below HR0_1.out HB.out)); (case side2 => exact HC0_1.out); rintro e w29 ⟨rfl, hb⟩; replace BK569 := Hof.bb BK569 hb; replace BK570 := Hof.bb BK570 hb; replace HB := Hof.lb HB hb; (try clear hb); (try clear hb2); (try clear hk); (try clear hi)))
                  go_roundg k3
                  case measure => have := HK1.out; have := HK2.out; have := HK3.out; omega
                  case rel => exact ⟨(wrap64 (x6_3 + 1)), (x571000_3), (x571001_3), (x571002_3), Hof.F, H', ⟨by have := HK1.out; have := HK2.out; have := HK3.out; omega⟩, ⟨Hof.Bw BK569.out⟩, ⟨Hof.Bw BK570.out⟩, ⟨Hof.Lw HB.out⟩⟩
                 ·replace c26 := Bool.eq_false_iff.mpr c26
                  subst c26
                  replace H : (some (rd l0_1 x4_1, rd l0_1 x5_2, x6_3, true)) = some (r1, r2, r3, r4) := by rw [if_neg (show ¬ (false = true) by decide)] at H; exact H
                  simp only [Option.some.injEq, Prod.mk.injEq] at H
                  obtain ⟨rfl, rfl, rfl, rfl⟩ := H
                  have hnb30 := NB569_570.out
                  have hnc30 := NB570_569.out
                  obtain ⟨hcz31_0, hcz31_1, hfz31_0, hfz31_1⟩ := Hof.blk2 BK569.out
                  have p572 : 0 ≤ (x4_1 : Int) := Hof.D
                  have q572 : x4_1 < (l0_1.length : Int) := Hof.D
                  obtain ⟨ad572, e572, hx572_0⟩ := Kd.at_int HR0_1.out x4_1 p572 q572
                  cases e572
                  try replace hx572_0 := (HB.out.cell (World.block_lt_of_cell? w _ hx572_0)).trans hx572_0
                  replace p572 := eq_true p572
                  replace q572 := eq_true q572
                  have p573 : 0 ≤ (x5_2 : Int) := Hof.D
                  have q573 : x5_2 < (l0_1.length : Int) := Hof.D
                  obtain ⟨ad573, e573, hx573_0⟩ := Kd.at_int HR0_1.out x5_2 p573 q573
                  obtain rfl : ad572 = ad573 := (by injection e573)
                  try replace hx573_0 := (HB.out.cell (World.block_lt_of_cell? w _ hx573_0)).trans hx573_0
                  replace p573 := eq_true p573
                  replace q573 := eq_true q573
                  go_wp2_with (first | ((with_reducible refine gate_callee (f := 89) rfl ?_); refine Hof.gl (some 48) Tryz.func89 #[.int .i64 (rd l0_1 x4_1), .int .i64 x6_3] ?_; (with_reducible refine (spec_l2Has.calls (rd l0_1 x4_1) x6_3 true _ A19.out).mono ?_); rintro e w' ⟨rfl, ⟨nd, rfl⟩⟩; refine ⟨_, rfl, ?_⟩; (try (rw [drewN_self wr]; generalize hq_ : World.drewN wr _ = wr; have n0_ : Aside0 (wr.heap[gb569]? = some (.cells #[.int .i64 a0_0, .slice (some ad572) l0_1.length c0_1] 30 (0, 0))) := ⟨by rw [← hq_]; exact (Hof.Bw BK569.out)⟩; have n1_ : Aside0 (wr.heap[gb570]? = some (.cells #[.int .i64 x571000_3, .int .i64 x571001_3, .int .i64 x571002_3] 89 (0, 0))) := ⟨by rw [← hq_]; exact (Hof.Bw BK570.out)⟩; have n2_ : Aside0 (Below w.heap.size w wr) := ⟨by rw [← hq_]; exact (Hof.Lw HB.out)⟩; clear BK569 BK570 HB hq_; have BK569 := n0_; have BK570 := n1_; have HB := n2_; clear n0_ n1_ n2_; have hcy569_0 : wr.cell? ⟨gb569, 0, none⟩ = some (.int .i64 a0_0) := (blk_cell BK569.out 0).trans rfl; have hfy569_0 := blk_frozen BK569.out 0; have hcy569_1 : wr.cell? ⟨gb569, 1, none⟩ = some (.slice (some ad572) l0_1.length c0_1) := (blk_cell BK569.out 1).trans rfl; have hfy569_1 := blk_frozen BK569.out 1; have hcy570_0 : wr.cell? ⟨gb570, 0, none⟩ = some (.int .i64 x571000_3) := (blk_cell BK570.out 0).trans rfl; have hfy570_0 := blk_frozen BK570.out 0; have hcy570_1 : wr.cell? ⟨gb570, 1, none⟩ = some (.int .i64 x571001_3) := (blk_cell BK570.out 1).trans rfl; have hfy570_1 := blk_frozen BK570.out 1; have hcy570_2 : wr.cell? ⟨gb570, 2, none⟩ = some (.int .i64 x571002_3) := (blk_cell BK570.out 2).trans rfl; have hfy570_2 := blk_frozen BK570.out 2))) | (go_at_call 89; (with_reducible refine (spec_l2Has.calls (rd l0_1 x5_2) x6_3 false _ A21.out).mono ?_); rintro e w' ⟨rfl, ⟨nd, rfl⟩⟩; (try (rw [drewN_self wr]; generalize hq_ : World.drewN wr _ = wr; have n0_ : Aside0 (wr.heap[gb569]? = some (.cells #[.int .i64 a0_0, .slice (some ad572) l0_1.length c0_1] 30 (0, 0))) := ⟨by rw [← hq_]; exact (Hof.Bw BK569.out)⟩; have n1_ : Aside0 (wr.heap[gb570]? = some (.cells #[.int .i64 x571000_3, .int .i64 x571001_3, .int .i64 x571002_3] 89 (0, 0))) := ⟨by rw [← hq_]; exact (Hof.Bw BK570.out)⟩; have n2_ : Aside0 (Below w.heap.size w wr) := ⟨by rw [← hq_]; exact (Hof.Lw HB.out)⟩; clear BK569 BK570 HB hq_; have BK569 := n0_; have BK570 := n1_; have HB := n2_; clear n0_ n1_ n2_; have hcy569_0 : wr.cell? ⟨gb569, 0, none⟩ = some (.int .i64 a0_0) := (blk_cell BK569.out 0).trans rfl; have hfy569_0 := blk_frozen BK569.out 0; have hcy569_1 : wr.cell? ⟨gb569, 1, none⟩ = some (.slice (some ad572) l0_1.length c0_1) := (blk_cell BK569.out 1).trans rfl; have hfy569_1 := blk_frozen BK569.out 1; have hcy570_0 : wr.cell? ⟨gb570, 0, none⟩ = some (.int .i64 x571000_3) := (blk_cell BK570.out 0).trans rfl; have hfy570_0 := blk_frozen BK570.out 0; have hcy570_1 : wr.cell? ⟨gb570, 1, none⟩ = some (.int .i64 x571001_3) := (blk_cell BK570.out 1).trans rfl; have hfy570_1 := blk_frozen BK570.out 1; have hcy570_2 : wr.cell? ⟨gb570, 2, none⟩ = some (.int .i64 x571002_3) := (blk_cell BK570.out 2).trans rfl; have hfy570_2 := blk_frozen BK570.out 2))) | (go_at_call 138; (with_reducible refine (spec_l4Exchange.calls k3 a0_0 _ _ l0_1 (rd l0_1 x4_1) (rd l0_1 x5_2) x6_3 false _ ?side1 ?side2 A25.out).mono ?_); (case side1 => exact Hof.Cw (Kd.C_below HR0_1.out HB.out)); (case side2 => exact HC0_1.out); rintro e w32 ⟨rfl, hb⟩; replace BK569 := Hof.bb BK569 hb; replace BK570 := Hof.bb BK570 hb; replace HB := Hof.lb HB hb; (try clear hb); (try clear hb2); (try clear hk); (try clear hi); obtain ⟨hcz33_0, hcz33_1, hcz33_2, hfz33_0, hfz33_1, hfz33_2⟩ := Hof.blk3 BK570.out))
                  refine bodyPost_ret (results_ct rfl _ _ gb570 89 #[.int .i64 (rd l0_1 x4_1), .int .i64 (rd l0_1 x5_2), .int .i64 x6_3] (0, 0) _ rfl Hof.B Tryz.underlying89 rfl (by kernel_rfl)) rfl ?_
                  exact ⟨Hof.E, Hof.L⟩
               ·replace c20 := Bool.eq_false_iff.mpr c20
                subst c20
                replace H : (spec_FirstFailure.l2 k3 x4_1 x5_2 (wrap64 (x6_3 + 1)) a0_0 l0_1) = some (r1, r2, r3, r4) := by rw [if_neg (show ¬ (false = true) by decide)] at H; exact H
                have H' := Aside0.mk H
                clear H
                have hnb34 := NB569_570.out
                have hnc34 := NB570_569.out
                obtain ⟨hcz35_0, hcz35_1, hfz35_0, hfz35_1⟩ := Hof.blk2 BK569.out
                have p572 : 0 ≤ (x4_1 : Int) := Hof.D
                have q572 : x4_1 < (l0_1.length : Int) := Hof.D
                obtain ⟨ad572, e572, hx572_0⟩ := Kd.at_int HR0_1.out x4_1 p572 q572
                cases e572
                try replace hx572_0 := (HB.out.cell (World.block_lt_of_cell? w _ hx572_0)).trans hx572_0
                replace p572 := eq_true p572
                replace q572 := eq_true q572
                have p573 : 0 ≤ (x5_2 : Int) := Hof.D
                have q573 : x5_2 < (l0_1.length : Int) := Hof.D
                obtain ⟨ad573, e573, hx573_0⟩ := Kd.at_int HR0_1.out x5_2 p573 q573
                obtain rfl : ad572 = ad573 := (by injection e573)
                try replace hx573_0 := (HB.out.cell (World.block_lt_of_cell? w _ hx573_0)).trans hx573_0
                replace p573 := eq_true p573
                replace q573 := eq_true q573
                go_wp2_with (first | ((with_reducible refine gate_callee (f := 89) rfl ?_); refine Hof.gl (some 48) Tryz.func89 #[.int .i64 (rd l0_1 x4_1), .int .i64 x6_3] ?_; (with_reducible refine (spec_l2Has.calls (rd l0_1 x4_1) x6_3 false _ A19.out).mono ?_); rintro e w' ⟨rfl, ⟨nd, rfl⟩⟩; refine ⟨_, rfl, ?_⟩))
                go_roundg k3
                case measure => have := HK1.out; have := HK2.out; have := HK3.out; omega
                case rel => exact ⟨(wrap64 (x6_3 + 1)), (x571000_3), (x571001_3), (x571002_3), Hof.F, H', ⟨by have := HK1.out; have := HK2.out; have := HK3.out; omega⟩, ⟨Hof.Bw BK569.out⟩, ⟨Hof.Bw BK570.out⟩, ⟨Hof.Lw HB.out⟩⟩
              ·rw [if_neg c18] at H
               exact absurd H (by simp)
             ·rw [if_neg c17] at H
              exact absurd H (by simp)
            ·rw [if_neg c16] at H
             exact absurd H (by simp)
           ·rw [if_neg c15] at H
            exact absurd H (by simp)
          ·rw [if_neg c14] at H
           have c14b0 : decide (x6_3 < a0_0) = false := decide_eq_false c14
           clear c14
           have H' := Aside0.mk H
           clear H
           have hnb36 := NB569_570.out
           have hnc36 := NB570_569.out
           obtain ⟨hcz37_0, hcz37_1, hfz37_0, hfz37_1⟩ := Hof.blk2 BK569.out
           go_wp2
           go_roundg k3
           case measure => have := HK1.out; have := HK2.out; have := HK3.out; omega
           case rel => exact ⟨(wrap64 (x5_2 + 1)), (x571000_3), (x571001_3), (x571002_3), Hof.F, H', ⟨by have := HK1.out; have := HK2.out; have := HK3.out; omega⟩, ⟨Hof.Bw BK569.out⟩, ⟨Hof.Bw BK570.out⟩, ⟨Hof.Lw HB.out⟩⟩
       ·rw [if_neg c11] at H
        have c11b0 : decide (x5_2 < (l0_1.length : Int)) = false := decide_eq_false c11
        clear c11
        have H' := Aside0.mk H
        clear H
        have hnb38 := NB569_570.out
        have hnc38 := NB570_569.out
        obtain ⟨hcz39_0, hcz39_1, hfz39_0, hfz39_1⟩ := Hof.blk2 BK569.out
        go_wp2
        go_roundg k2
        case measure => have := HK1.out; have := HK2.out; omega
        case rel => exact ⟨(wrap64 (x4_1 + 1)), (x571000_2), (x571001_2), (x571002_2), Hof.F, H', ⟨by have := HK1.out; have := HK2.out; omega⟩, ⟨Hof.Bw BK569.out⟩, ⟨Hof.Bw BK570.out⟩, ⟨Hof.Lw HB.out⟩⟩
    ·rw [if_neg c8] at H
     have c8b0 : decide (x4_1 < (l0_1.length : Int)) = false := decide_eq_false c8
     clear c8
     simp only [Option.some.injEq, Prod.mk.injEq] at H
     obtain ⟨rfl, rfl, rfl, rfl⟩ := H
     have hnb40 := NB569_570.out
     have hnc40 := NB570_569.out
     obtain ⟨hcz41_0, hcz41_1, hfz41_0, hfz41_1⟩ := Hof.blk2 BK569.out
     obtain ⟨hcz42_0, hcz42_1, hcz42_2, hfz42_0, hfz42_1, hfz42_2⟩ := Hof.blk3 BK570.out
     go_wp2
     refine bodyPost_ret (results_ct rfl _ _ gb570 89 #[.int .i64 0, .int .i64 0, .int .i64 0] (0, 0) _ rfl Hof.B Tryz.underlying89 rfl (by kernel_rfl)) rfl ?_
     exact ⟨Hof.E, Hof.L⟩
 ·replace c3 := Bool.eq_false_iff.mpr c3
  subst c3
  replace H : (some (0, 0, 0, false)) = some (r1, r2, r3, r4) := by rw [if_neg (show ¬ (false = true) by decide)] at H; exact H
  simp only [Option.some.injEq, Prod.mk.injEq] at H
  obtain ⟨rfl, rfl, rfl, rfl⟩ := H
  go_enter Tryz.func95, Tryz.ntmps95
  go_wp2_with (first | ((with_reducible refine gate_dst (N := 1) rfl ?_); refine Hof.bx 1 #[.int .i64 a0_0, .slice A0_1 l0_1.length c0_1] 30 ?_; intro gb569 hg w43 hbox hb; have BK569 := Aside0.mk hbox; have GW569 := Hof.gw hg HB; have GE569 := Hof.gw hg HB; replace HB := Hof.lb HB hb; clear hb hbox hg) | ((with_reducible refine gate_dst (N := 2) rfl ?_); refine Hof.bx 2 #[.int .i64 0, .int .i64 0, .int .i64 0] 89 ?_; intro gb570 hg w44 hbox hb; have BK570 := Aside0.mk hbox; have GW570 := Hof.gw hg HB; have GE570 := Hof.gw hg HB; replace HB := Hof.lb HB hb; have NB569_570 := Hof.nl hg BK569; have NB570_569 := Hof.ng hg BK569; replace BK569 := Hof.bb BK569 hb; clear hb hbox hg; have hnb45 := NB569_570.out; have hnc45 := NB570_569.out; obtain ⟨hcz46_0, hcz46_1, hfz46_0, hfz46_1⟩ := Hof.blk2 BK569.out) | ((with_reducible refine gate_callee (f := 96) rfl ?_); refine Hof.gl (some 13) Tryz.func96 #[.int .i64 a0_0, .slice A0_1 l0_1.length c0_1] ?_; (with_reducible refine (spec_IsFamily.calls k a0_0 _ _ l0_1 false _ ?side1 ?side2 A2.out).mono ?_); (case side1 => exact Hof.Cw (Kd.C_below HR0_1.out HB.out)); (case side2 => exact HC0_1.out); rintro e w' ⟨rfl, ⟨nd, rfl⟩⟩; refine ⟨_, rfl, ?_⟩; (try (rw [drewN_self w44]; generalize hq_ : World.drewN w44 _ = w44; have n0_ : Aside0 (w44.heap[gb569]? = some (.cells #[.int .i64 a0_0, .slice A0_1 l0_1.length c0_1] 30 (0, 0))) := ⟨by rw [← hq_]; exact (Hof.Bw BK569.out)⟩; have n1_ : Aside0 (w44.heap[gb570]? = some (.cells #[.int .i64 0, .int .i64 0, .int .i64 0] 89 (0, 0))) := ⟨by rw [← hq_]; exact (Hof.Bw BK570.out)⟩; have n2_ : Aside0 (Below w.heap.size w w44) := ⟨by rw [← hq_]; exact (Hof.Lw HB.out)⟩; clear BK569 BK570 HB hq_; have BK569 := n0_; have BK570 := n1_; have HB := n2_; clear n0_ n1_ n2_; have hcy569_0 : w44.cell? ⟨gb569, 0, none⟩ = some (.int .i64 a0_0) := (blk_cell BK569.out 0).trans rfl; have hfy569_0 := blk_frozen BK569.out 0; have hcy569_1 : w44.cell? ⟨gb569, 1, none⟩ = some (.slice A0_1 l0_1.length c0_1) := (blk_cell BK569.out 1).trans rfl; have hfy569_1 := blk_frozen BK569.out 1; have hcy570_0 : w44.cell? ⟨gb570, 0, none⟩ = some (.int .i64 0) := (blk_cell BK570.out 0).trans rfl; have hfy570_0 := blk_frozen BK570.out 0; have hcy570_1 : w44.cell? ⟨gb570, 1, none⟩ = some (.int .i64 0) := (blk_cell BK570.out 1).trans rfl; have hfy570_1 := blk_frozen BK570.out 1; have hcy570_2 : w44.cell? ⟨gb570, 2, none⟩ = some (.int .i64 0) := (blk_cell BK570.out 2).trans rfl; have hfy570_2 := blk_frozen BK570.out 2)); obtain ⟨hcz47_0, hcz47_1, hcz47_2, hfz47_0, hfz47_1, hfz47_2⟩ := Hof.blk3 BK570.out))
  refine bodyPost_ret (results_ct rfl _ _ gb570 89 #[.int .i64 0, .int .i64 0, .int .i64 0] (0, 0) _ rfl Hof.B Tryz.underlying89 rfl (by kernel_rfl)) rfl ?_
  exact ⟨Hof.E, Hof.L⟩
end Go.Proofs.YtmpodackojmojaaGreat.Pr
end
