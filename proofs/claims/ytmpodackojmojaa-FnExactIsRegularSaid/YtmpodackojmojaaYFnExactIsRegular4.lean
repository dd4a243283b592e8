/- The claim FnExactIsRegular: every text that its row comes to, laid together by slim.py (the words of the kit's print, the printed walks, the pure law, the row). -/
import Derived.Test.YtmpodackojmojaaYFnExactIsRegular3
section
namespace Go.Proofs.Ytmpodackojmojaa.Pr
open Go.RowKit Go.Proofs.YtmpodackojmojaaW.PrintWords Go.Proofs.YtmpodackojmojaaW.PrintLast Go.Proofs.YtmpodackojmojaaW.PrintMore
attribute [local go_sem] max2_int min2_int max_two min_two max_three min_three max_four min_four
set_option linter.unusedVariables false
set_option linter.unusedSimpArgs false
mutual
def impl_FindMatrix.j0 : Nat → Int → Bool → Int → List Int → Option (Int × Int × Int × List Int × Bool)
 | 0, _, _, _, _ => none
 | k + 1, x1, x28, x953000, x953001 => if x28 = true then (some (0, 0, 0, ([] : List Int), false)) else (if 0 < (x953001.length : Int) then ((impl_ElementsOf.f k (rd x953001 0)).bind fun t956 => (if 0 ≤ (wrap64 ((t956.length : Int) * x953000)) then (if (wrap64 ((t956.length : Int) * x953000) : Int).toNat ≤ 35184372088832 then (impl_FindMatrix.l0 k (rd x953001 0) (([] : List Int)) t956 (t956.length : Int) 0 x953000 x953001 x1 (t956.length : Int) x953000 (List.replicate (wrap64 ((t956.length : Int) * x953000) : Int).toNat 0)) else (none)) else (none))) else (none))
def impl_FindMatrix.l0 : Nat → Int → List Int → List Int → Int → Int → Int → List Int → Int → Int → Int → List Int → Option (Int × Int × Int × List Int × Bool)
 | 0, _, _, _, _, _, _, _, _, _, _, _ => none
 | k + 1, x6, x9, x49, x50, x51, x953000, x953001, x963000, x963001, x963002, x963003 => if x51 < x50 then (if 0 ≤ x51 then (if x51 < (x49.length : Int) then (impl_FindMatrix.l1 k x6 x9 x51 (rd x49 x51) 0 x49 x50 x51 x953000 x953001 x963000 x963001 x963002 x963003) else (none)) else (none)) else ((impl_fillCells.f k x953000 x953001 x963000 x963001 x963002 x963003 x9).bind fun bt966 => (if bt966.1 = true then (some (x963000, x963001, x963002, bt966.2, true)) else (some (0, 0, 0, ([] : List Int), false))))
def impl_FindMatrix.l1 : Nat → Int → List Int → Int → Int → Int → List Int → Int → Int → Int → List Int → Int → Int → Int → List Int → Option (Int × Int × Int × List Int × Bool)
 | 0, _, _, _, _, _, _, _, _, _, _, _, _, _, _ => none
 | k + 1, x6, x9, x10, x11, x12, x49, x50, x51, x953000, x953001, x963000, x963001, x963002, x963003 => if x12 < x953000 then (if x12 = x11 then (if 0 ≤ (wrap64 ((wrap64 (x10 * x953000)) + x12)) then (if (wrap64 ((wrap64 (x10 * x953000)) + x12)) < (x963003.length : Int) then (impl_FindMatrix.l1 k x6 x9 x10 x11 (wrap64 (x12 + 1)) x49 x50 x51 x953000 x953001 x963000 x963001 x963002 (x963003.set ((wrap64 ((wrap64 (x10 * x953000)) + x12)) : Int).toNat 1)) else (none)) else (none)) else ((impl_HasElement.f x6 x12).bind fun t970 => (if t970 = true then (impl_FindMatrix.l1 k x6 x9 x10 x11 (wrap64 (x12 + 1)) x49 x50 x51 x953000 x953001 x963000 x963001 x963002 x963003) else ((impl_circuit.f k x953000 x953001 x6 x12).bind fun t971 => ((impl_HasElement.f t971 x11).bind fun t972 => (if t972 = true then (if x9.length < 17592186044416 then (impl_FindMatrix.l1 k x6 (x9 ++ [wrap64 ((wrap64 (x10 * x953000)) + x12)]) x10 x11 (wrap64 (x12 + 1)) x49 x50 x51 x953000 x953001 x963000 x963001 x963002 x963003) else (none)) else (impl_FindMatrix.l1 k x6 x9 x10 x11 (wrap64 (x12 + 1)) x49 x50 x51 x953000 x953001 x963000 x963001 x963002 x963003))))))) else (impl_FindMatrix.l0 k x6 x9 x49 x50 (wrap64 (x51 + 1)) x953000 x953001 x963000 x963001 x963002 x963003)
end
def impl_FindMatrix.f (k : Nat) (a0_0 : Int) (l0_1 : List Int) (a1 : Int) : Option (Int × Int × Int × List Int × Bool) := (impl_IsMatroid.f k a0_0 l0_1).bind fun t954 => (if t954 = true then (if a0_0 > 6 then (impl_FindMatrix.j0 k a1 true a0_0 l0_1) else (if a1 = 2 then (impl_FindMatrix.j0 k a1 false a0_0 l0_1) else (impl_FindMatrix.j0 k a1 (a1 != 3) a0_0 l0_1))) else (impl_FindMatrix.j0 k a1 true a0_0 l0_1))
def impl_FindMatrix.T5 : Bool × List (List Nat × List Nat) := (true, [([], []), ([], []), ([1], [1]), ([], []), ([3], [3]), ([], []), ([5], [5]), ([], []), ([7], [7]), ([6, 8], [6, 8]), ([9, 9], [9]), ([0, 2, 4, 10], [0, 2, 4, 10]), ([], []), ([12, 11, 0, 1, 2, 3, 4, 5, 6, 7, 8, 9, 10, 11, 12], [11, 12])])
def impl_FindMatrix.B5 : List Nat := [0, 0, 2, 0, 8, 0, 32, 0, 128, 480, 992, 2047, 0, 8191]
theorem impl_FindMatrix.tab5 : rtab .any (opsOf Try.f39 5) = impl_FindMatrix.T5 := by kernel_rfl
theorem impl_FindMatrix.bits5 : waitsOk impl_FindMatrix.T5.2 impl_FindMatrix.B5 = true := by kernel_rfl
set_option maxHeartbeats 8000000 in
set_option maxRecDepth 100000 in
theorem impl_FindMatrix.calls (k : Nat) (a0_0 : Int) (A0_1 : Option Addr) (c0_1 : Nat) (l0_1 : List Int) (a1 : Int) (r1 : Int) (r2 : Int) (r3 : Int) (r4 : List Int) (r5 : Bool) (w : World) (hr0_1 : Kd.C (Kd.int .i64) w A0_1 l0_1.length l0_1) (hc0_1 : l0_1.length ≤ c0_1) (h : impl_FindMatrix.f k a0_0 l0_1 a1 = some (r1, r2, r3, r4, r5)) :
  Calls Try.prog 39 #[.agg #[.int .i64 a0_0, .slice A0_1 l0_1.length c0_1], .int .i64 a1] w fun e w' => ∃ v3_ : Value, e = .returned (.tuple #[.agg #[.int .i64 r1, .int .i64 r2, .int .i64 r3, v3_], .bool r5]) ∧ Kd.R (Kd.int .i64) 3 w' w.heap.size (fun _ => True) v3_ r4 ∧ Below w.heap.size w w' := by
 have hu35 := Try.underlying35
 have hu49 := Try.underlying49
 have HR0_1 := Aside0.mk hr0_1
 have HC0_1 := Aside0.mk hc0_1
 clear hr0_1 hc0_1
 have HB := Aside0.mk (Below.refl w.heap.size w)
 unfold impl_FindMatrix.f at h
 have H := h
 clear h
 have HC3 := Aside0.mk H
 clear H
 go_enter Try.func39, Try.ntmps39
 go_upto_region 1 with (first | ((with_reducible refine gate_dst (N := 2) rfl ?_); refine Hof.bx 2 #[.int .i64 a0_0, .slice A0_1 l0_1.length c0_1] 35 ?_; intro gb952 hg w4 hbox hb; have BK952 := Aside0.mk hbox; have GW952 := Hof.gw hg HB; have GE952 := Hof.gw hg HB; replace HB := Hof.lb HB hb; clear hb hbox hg) | ((with_reducible refine gate_dst (N := 4) rfl ?_); refine Hof.bx 4 #[.int .i64 0, .int .i64 0, .int .i64 0, .slice none 0 0] 49 ?_; intro gb953 hg w5 hbox hb; have BK953 := Aside0.mk hbox; have GW953 := Hof.gL (w := w) hg Hof.L; have GE953 := Hof.gL (w := w) hg Hof.L; replace HB := Aside0.mk (below_step Hof.L hb); have NB952_953 := Hof.nl hg BK952; have NB953_952 := Hof.ng hg BK952; replace BK952 := Hof.bb BK952 hb; clear hb hbox hg))
 (try simp only [Act.put, List.setIfInBounds_toArray, List.set_cons_zero, List.set_cons_succ])
 go_cut [28] (fun v28 wc => ∃ (kq : Nat) (x28_2 : Bool), v28 = .bool x28_2 ∧ Aside0 (impl_FindMatrix.j0 kq a1 x28_2 a0_0 l0_1 = some (r1, r2, r3, r4, r5)) ∧ Aside0 (kq ≤ k) ∧ Aside0 (wc.heap[gb952]? = some (.cells #[.int .i64 a0_0, (.slice A0_1 l0_1.length c0_1)] 35 (0, 0))) ∧ Aside0 (wc.heap[gb953]? = some (.cells #[.int .i64 0, .int .i64 0, .int .i64 0, (.slice none 0 0)] 49 (0, 0))) ∧ Aside0 (Below w.heap.size w wc))
 case first =>
  have H := HC3.out
  clear HC3
  obtain ⟨t954, A6, H⟩ := Hof.be H
  (try dsimp only at H)
  by_cases c7 : t954 = true
  ·subst c7
   replace H : (if a0_0 > 6 then (impl_FindMatrix.j0 k a1 true a0_0 l0_1) else (if a1 = 2 then (impl_FindMatrix.j0 k a1 false a0_0 l0_1) else (impl_FindMatrix.j0 k a1 (a1 != 3) a0_0 l0_1))) = some (r1, r2, r3, r4, r5) := by rw [if_pos rfl] at H; exact H
   by_cases c8 : a0_0 > 6
   ·rw [if_pos c8] at H
    have c8b0 := decide_eq_true c8
    clear c8
    (first | rw [c8b0] | (simp only [i64_w, i32_w]; rw [c8b0]) | skip)
    have H' := Aside0.mk H
    clear H
    have hnb9 := NB952_953.out
    have hnc9 := NB953_952.out
    obtain ⟨hcz10_0, hcz10_1, hfz10_0, hfz10_1⟩ := Hof.blk2 BK952.out
    go_wp2_with (first | ((with_reducible refine gate_callee (f := 81) rfl ?_); refine Hof.gl (some 14) Try.func81 #[.agg #[.int .i64 a0_0, .slice A0_1 l0_1.length c0_1]] ?_; (with_reducible refine (impl_IsMatroid.calls k a0_0 _ _ l0_1 true _ ?side1 ?side2 A6.out).mono ?_); (case side1 => exact Hof.Cw (Kd.C_below HR0_1.out HB.out)); (case side2 => exact HC0_1.out); rintro e w11 ⟨rfl, hb⟩; refine ⟨_, rfl, ?_⟩; replace BK952 := Hof.bb BK952 hb; replace BK953 := Hof.bb BK953 hb; replace HB := Aside0.mk (below_step Hof.L hb); (try clear hb); (try clear hb2); (try clear hk); (try clear hi); obtain ⟨hcz12_0, hcz12_1, hfz12_0, hfz12_1⟩ := Hof.blk2 BK952.out))
    go_meet
    case rel => exact ⟨_, (true), Hof.F, H', ⟨by first | omega | exact Nat.le_refl _⟩, ⟨Hof.Bw BK952.out⟩, ⟨Hof.Bw BK953.out⟩, ⟨Hof.L⟩⟩
   ·rw [if_neg c8] at H
    have c8b0 : decide (6 < a0_0) = false := decide_eq_false c8
    clear c8
    (first | rw [c8b0] | (simp only [i64_w, i32_w]; rw [c8b0]) | skip)
    by_cases c13 : a1 = 2
    ·rw [if_pos c13] at H
     have c13b0 : (a1 == 2) = true := beq_iff_eq.mpr c13
     have c13b1 : (a1 != 2) = false := bne_eq_false_iff_eq.mpr c13
     clear c13
     have H' := Aside0.mk H
     clear H
     have hnb14 := NB952_953.out
     have hnc14 := NB953_952.out
     obtain ⟨hcz15_0, hcz15_1, hfz15_0, hfz15_1⟩ := Hof.blk2 BK952.out
     go_wp2_with (first | ((with_reducible refine gate_callee (f := 81) rfl ?_); refine Hof.gl (some 14) Try.func81 #[.agg #[.int .i64 a0_0, .slice A0_1 l0_1.length c0_1]] ?_; (with_reducible refine (impl_IsMatroid.calls k a0_0 _ _ l0_1 true _ ?side1 ?side2 A6.out).mono ?_); (case side1 => exact Hof.Cw (Kd.C_below HR0_1.out HB.out)); (case side2 => exact HC0_1.out); rintro e w16 ⟨rfl, hb⟩; refine ⟨_, rfl, ?_⟩; replace BK952 := Hof.bb BK952 hb; replace BK953 := Hof.bb BK953 hb; replace HB := Aside0.mk (below_step Hof.L hb); (try clear hb); (try clear hb2); (try clear hk); (try clear hi); obtain ⟨hcz17_0, hcz17_1, hfz17_0, hfz17_1⟩ := Hof.blk2 BK952.out))
     go_meet
     case rel => exact ⟨_, (false), Hof.F, H', ⟨by first | omega | exact Nat.le_refl _⟩, ⟨Hof.Bw BK952.out⟩, ⟨Hof.Bw BK953.out⟩, ⟨Hof.L⟩⟩
    ·rw [if_neg c13] at H
     have c13b0 : (a1 == 2) = false := beq_eq_false_iff_ne.mpr c13
     have c13b1 : (a1 != 2) = true := bne_iff_ne.mpr c13
     have H' := Aside0.mk H
     clear H
     have hnb18 := NB952_953.out
     have hnc18 := NB953_952.out
     obtain ⟨hcz19_0, hcz19_1, hfz19_0, hfz19_1⟩ := Hof.blk2 BK952.out
     go_wp2_with (first | ((with_reducible refine gate_callee (f := 81) rfl ?_); refine Hof.gl (some 14) Try.func81 #[.agg #[.int .i64 a0_0, .slice A0_1 l0_1.length c0_1]] ?_; (with_reducible refine (impl_IsMatroid.calls k a0_0 _ _ l0_1 true _ ?side1 ?side2 A6.out).mono ?_); (case side1 => exact Hof.Cw (Kd.C_below HR0_1.out HB.out)); (case side2 => exact HC0_1.out); rintro e w20 ⟨rfl, hb⟩; refine ⟨_, rfl, ?_⟩; replace BK952 := Hof.bb BK952 hb; replace BK953 := Hof.bb BK953 hb; replace HB := Aside0.mk (below_step Hof.L hb); (try clear hb); (try clear hb2); (try clear hk); (try clear hi); obtain ⟨hcz21_0, hcz21_1, hfz21_0, hfz21_1⟩ := Hof.blk2 BK952.out))
     go_meet
     case rel => exact ⟨_, ((a1 != 3)), Hof.F, H', ⟨by first | omega | exact Nat.le_refl _⟩, ⟨Hof.Bw BK952.out⟩, ⟨Hof.Bw BK953.out⟩, ⟨Hof.L⟩⟩
  ·replace c7 := Bool.eq_false_iff.mpr c7
   subst c7
   replace H : (impl_FindMatrix.j0 k a1 true a0_0 l0_1) = some (r1, r2, r3, r4, r5) := by rw [if_neg (show ¬ (false = true) by decide)] at H; exact H
   have H' := Aside0.mk H
   clear H
   have hnb22 := NB952_953.out
   have hnc22 := NB953_952.out
   obtain ⟨hcz23_0, hcz23_1, hfz23_0, hfz23_1⟩ := Hof.blk2 BK952.out
   go_wp2_with (first | ((with_reducible refine gate_callee (f := 81) rfl ?_); refine Hof.gl (some 14) Try.func81 #[.agg #[.int .i64 a0_0, .slice A0_1 l0_1.length c0_1]] ?_; (with_reducible refine (impl_IsMatroid.calls k a0_0 _ _ l0_1 false _ ?side1 ?side2 A6.out).mono ?_); (case side1 => exact Hof.Cw (Kd.C_below HR0_1.out HB.out)); (case side2 => exact HC0_1.out); rintro e w24 ⟨rfl, hb⟩; refine ⟨_, rfl, ?_⟩; replace BK952 := Hof.bb BK952 hb; replace BK953 := Hof.bb BK953 hb; replace HB := Aside0.mk (below_step Hof.L hb); (try clear hb); (try clear hb2); (try clear hk); (try clear hi)))
   go_meet
   case rel => exact ⟨_, (true), Hof.F, H', ⟨by first | omega | exact Nat.le_refl _⟩, ⟨Hof.Bw BK952.out⟩, ⟨Hof.Bw BK953.out⟩, ⟨Hof.L⟩⟩
 case rest =>
  clear HC3
  obtain ⟨kq, x28_2, rfl, HA, HJ2, BK952, BK953, HB⟩ := hcut
  cases kq with
  | zero => exact absurd HA.out (by simp [impl_FindMatrix.j0])
  | succ kj2 =>
   have H := HA.out
   clear HA
   simp only [impl_FindMatrix.j0] at H
   by_cases c25 : x28_2 = true
   ·subst c25
    replace H : (some (0, 0, 0, ([] : List Int), false)) = some (r1, r2, r3, r4, r5) := by rw [if_pos rfl] at H; exact H
    simp only [Option.some.injEq, Prod.mk.injEq] at H
    obtain ⟨rfl, rfl, rfl, rfl, rfl⟩ := H
    have hnb26 := NB953_952.out
    have hnc26 := NB952_953.out
    obtain ⟨hcz27_0, hcz27_1, hcz27_2, hcz27_3, hfz27_0, hfz27_1, hfz27_2, hfz27_3⟩ := Hof.blk4 BK953.out
    go_wp2
    refine bodyPost_ret (results_ct rfl _ _ gb953 49 #[.int .i64 0, .int .i64 0, .int .i64 0, .slice none 0 0] (0, 0) _ rfl Hof.B Try.underlying49 rfl (by kernel_rfl)) rfl ?_
    exact ⟨_, Hof.E, Hof.N, Hof.L⟩
   ·replace c25 := Bool.eq_false_iff.mpr c25
    subst c25
    replace H : (if 0 < (l0_1.length : Int) then ((impl_ElementsOf.f kj2 (rd l0_1 0)).bind fun t956 => (if 0 ≤ (wrap64 ((t956.length : Int) * a0_0)) then (if (wrap64 ((t956.length : Int) * a0_0) : Int).toNat ≤ 35184372088832 then (impl_FindMatrix.l0 kj2 (rd l0_1 0) (([] : List Int)) t956 (t956.length : Int) 0 a0_0 l0_1 a1 (t956.length : Int) a0_0 (List.replicate (wrap64 ((t956.length : Int) * a0_0) : Int).toNat 0)) else (none)) else (none))) else (none)) = some (r1, r2, r3, r4, r5) := by rw [if_neg (show ¬ (false = true) by decide)] at H; exact H
    by_cases c28 : 0 < (l0_1.length : Int)
    ·rw [if_pos c28] at H
     have c28b0 := decide_eq_true c28
     have c28b1 : decide (0 < l0_1.length) = true := decide_eq_true (by omega)
     clear c28
     obtain ⟨t956, A29, H⟩ := Hof.be H
     (try dsimp only at H)
     obtain ⟨ji30, hji30⟩ : ∃ j_ : Int, (wrap64 ((t956.length : Int) * a0_0)) = j_ := ⟨_, rfl⟩
     replace H : (if 0 ≤ (ji30) then (if (ji30 : Int).toNat ≤ 35184372088832 then (impl_FindMatrix.l0 kj2 (rd l0_1 0) (([] : List Int)) t956 (t956.length : Int) 0 a0_0 l0_1 a1 (t956.length : Int) a0_0 (List.replicate (ji30 : Int).toNat 0)) else (none)) else (none)) = some (r1, r2, r3, r4, r5) := by first | (rw [hji30] at H; exact H) | (simp only [hji30] at H ⊢; exact H)
     (try rw [hji30] at A29)
     have hji30w : (IntKind.i64.wrap ((t956.length : Int) * a0_0)) = ji30 := (i64_w _).trans hji30
     by_cases c31 : 0 ≤ (ji30)
     ·rw [if_pos c31] at H
      have c31b0 := eq_true c31
      have c31b1 : decide (0 ≤ (ji30)) = true := decide_eq_true c31
      clear c31
      by_cases c32 : (ji30 : Int).toNat ≤ 35184372088832
      ·rw [if_pos c32] at H
       have c32b0 := eq_true c32
       have c32b1 : decide ((ji30 : Int).toNat ≤ 35184372088832) = true := decide_eq_true c32
       clear c32
       obtain ⟨y959, hy959⟩ : ∃ y_ : List Int, y_ = (List.replicate (ji30 : Int).toNat 0) := ⟨_, rfl⟩
       replace H : (impl_FindMatrix.l0 kj2 (rd l0_1 0) (([] : List Int)) t956 (t956.length : Int) 0 a0_0 l0_1 a1 (t956.length : Int) a0_0 y959) = some (r1, r2, r3, r4, r5) := by (try rw [hy959]); exact Hof.Z
       have Ny959 := Aside0.mk hy959
       clear hy959
       obtain ⟨y963, hy963⟩ : ∃ y_ : List Int, y_ = (([] : List Int)) := ⟨_, rfl⟩
       replace H : (impl_FindMatrix.l0 kj2 (rd l0_1 0) y963 t956 (t956.length : Int) 0 a0_0 l0_1 a1 (t956.length : Int) a0_0 y959) = some (r1, r2, r3, r4, r5) := by (try rw [hy963]); exact Hof.Z
       have Ny963 := Aside0.mk hy963
       clear hy963
       have H' := Aside0.mk H
       clear H
       have hnb33 := NB952_953.out
       have hnc33 := NB953_952.out
       obtain ⟨hcz34_0, hcz34_1, hfz34_0, hfz34_1⟩ := Hof.blk2 BK952.out
       have p955 : 0 ≤ (0 : Int) := (by omega)
       have q955 : 0 < (l0_1.length : Int) := Hof.D
       obtain ⟨ad955, e955, hx955_0⟩ := Kd.at_int HR0_1.out 0 p955 q955
       cases e955
       have qi955 : (0 < l0_1.length) = True := eq_true (by omega)
       (try rw [show ((0 : Int)).toNat = 0 from rfl] at hx955_0)
       (try rw [Addr.add_zero'] at hx955_0)
       try replace hx955_0 := (HB.out.cell (World.block_lt_of_cell? w _ hx955_0)).trans hx955_0
       replace p955 := eq_true p955
       replace q955 := eq_true q955
       try go_wp2_with (first | ((with_reducible refine gate_callee (f := 62) rfl ?_); refine Hof.gl (some 35) Try.func62 #[.int .i64 (rd l0_1 0)] ?_; (with_reducible refine (impl_ElementsOf.calls kj2 (rd l0_1 0) t956 _ A29.out).mono ?_); rintro e w35 ⟨v957, rfl, ho0, hb⟩; refine ⟨_, rfl, ?_⟩; have HO958 := Aside0.mk (Kd.R_lower ho0 (below_size Hof.L)); replace BK952 := Hof.bb BK952 hb; replace BK953 := Hof.bb BK953 hb; replace HB := Aside0.mk (below_step Hof.L hb); (try clear hb); (try clear hb2); (try clear hk); (try clear hi); (try clear ho0)))
       have n0_ := Aside0.mk (Kd.R_drew HO958.out)
       have n1_ := Aside0.mk (blk_drew BK952.out)
       have n2_ := Aside0.mk (blk_drew BK953.out)
       have n3_ := Aside0.mk (below_drew1 HB.out)
       clear HO958
       clear BK952
       clear BK953
       clear HB
       have HO958 := n0_
       have BK952 := n1_
       have BK953 := n2_
       have HB := n3_
       clear n0_ n1_ n2_ n3_
       obtain ⟨Ao37, co37, eo37⟩ := Kd.R_slice HO958.out
       (first | subst eo37 | (injection eo37 with f1_ f2_ f3_; have f4_ := f1_.symm; have f5_ := f3_.symm; clear f1_ f2_ f3_; subst f4_; subst f5_))
       refine start_ (n := 14) (S := fun w' => w'.cell? ⟨gb952, 0, none⟩ = some (.int .i64 a0_0) ∧ w'.cell? ⟨gb952, 1, none⟩ = some (.slice (some ad955) l0_1.length c0_1)) (ds := []) #[false, false, false, false, false, false, false, false, false, false, false, false, false, false] (by kernel_rfl) rfl rfl ⟨(blk_cell BK952.out 0).trans rfl, (blk_cell BK952.out 1).trans rfl⟩ (fun hHeld => ?_); refine with_tabW impl_FindMatrix.tab5 impl_FindMatrix.bits5 (fun HT_ HW_ => ?_)
       generalize w35.drew = w36 at HO958 BK952 BK953 HB hHeld ⊢
       refine Hof.pu 0 36 HT_ ?_
       refine Hof.pu 1 37 HT_ ?_
       refine Hof.pu 2 38 HT_ ?_
       refine Hof.pu 3 39 HT_ ?_
       refine Hof.pu 5 41 HT_ ?_
       refine Hof.pu 6 42 HT_ ?_
       refine Hof.pu 7 43 HT_ ?_
       refine Hof.tk 4 40 HT_ HW_ hHeld ?_
       refine Hof.tk 8 44 HT_ HW_ hHeld ?_
       refine Hof.pu 9 45 HT_ ?_
       refine join_ (σ := Value × Nat) 1 #[true, true, true, true, true, true, true, true, true, true, true, true, true, false] (fun s_ => [(46, s_.1), (8, .pointer (some ⟨s_.2, 0, none⟩)), (47, .agg #[.int .i64 a1, .int .i64 (t956.length : Int), .int .i64 a0_0, s_.1])]) (fun s_ w' => (w'.cell? ⟨gb952, 0, none⟩ = some (.int .i64 a0_0) ∧ w'.cell? ⟨gb952, 1, none⟩ = some (.slice (some ad955) l0_1.length c0_1)) ∧ (Kd.R (Kd.int .i64) 3 w' w.heap.size (fun k_ => some k_ ≠ (s_.1 : Value).ownBlock) (.slice Ao37 t956.length co37) t956) ∧ (Kd.R (Kd.int .i64) 3 w' w.heap.size (fun k_ => some k_ ≠ (.slice Ao37 t956.length co37 : Value).ownBlock) s_.1 y959) ∧ (w'.heap[gb952]? = some (.cells #[.int .i64 a0_0, .slice (some ad955) l0_1.length c0_1] 35 (0, 0))) ∧ (w'.heap[gb953]? = some (.cells #[.int .i64 0, .int .i64 0, .int .i64 0, .slice none 0 0] 49 (0, 0))) ∧ (w'.heap[s_.2]? = some (.cells #[.int .i64 0, .int .i64 0, .int .i64 0, .slice none 0 0] 49 (0, 0))) ∧ (w.heap.size ≤ s_.2) ∧ (w.heap.size ≤ s_.2) ∧ (gb952 ≠ s_.2) ∧ (s_.2 ≠ gb952) ∧ (gb953 ≠ s_.2) ∧ (s_.2 ≠ gb953) ∧ (Below w.heap.size w w')) ?_ ?_
       rotate_left
       ·intro hCont
        refine two_ (i := 10) (j := 12) (Ni := some 46) (Nj := some 8) #[true, true, true, true, true, true, true, true, true, true, true, false, false, false] #[true, true, true, true, true, true, true, true, true, true, false, false, true, false] rfl rfl rfl rfl (two_of HT_.out (by kernel_rfl)) (by decide) (by decide) (fun K hK => ?_) (fun K hK => ?_)
        ·skip
         refine Kd.R_make_step (Kd.int .i64) _ 3 (by rfl) (N := 46) rfl 24 _ _ rfl ji30 rfl rfl Try.underlying24 (.int .i64 0) 8 info3 rfl (by decide) (by omega) 0 (ok := fun _ => True) (okp := fun _ => True) rfl (fun _ hk => hk) trivial (Hof.D) (Nat.le_trans (Nat.mul_le_mul_right _ (Hof.D : ji30.toNat ≤ 35184372088832)) (by omega)) (Below.refl _ _) (Nat.le_refl _) ?_
         intro v960 w38 ho39 hb hg_ hnew_
         clear hg_ hnew_
         (first | rw [← Ny959.out] at ho39 | (simp only [Int.reduceToNat] at ho39; rw [← Ny959.out] at ho39))
         have n0_ := Aside0.mk (Kd.R_elder' (Hof.Rw HO958.out) (Kd.R_base ho39) hb)
         have n1_ := Aside0.mk (Kd.R_lower (Kd.R_new' ho39 (Kd.R_lt (Hof.Rw HO958.out))) (below_size Hof.L))
         have n2_ := Hof.bb BK952 hb
         have n3_ := Hof.bb BK953 hb
         have n4_ := Aside0.mk (below_step Hof.L hb)
         clear HO958
         clear BK952
         clear BK953
         clear HB
         have HO958 := n0_
         have HO961 := n1_
         have BK952 := n2_
         have BK953 := n3_
         have HB := n4_
         clear n0_ n1_ n2_ n3_ n4_
         clear hb ho39
         obtain ⟨Ao40, co40, eo40⟩ := Kd.R_slice HO961.out
         (first | subst eo40 | (injection eo40 with f1_ f2_ f3_; have f4_ := f1_.symm; have f5_ := f3_.symm; clear f1_ f2_ f3_; subst f4_; subst f5_))
         refine hK.out _ _ ⟨(blk_cell BK952.out 0).trans rfl, (blk_cell BK952.out 1).trans rfl⟩ (fun hHeld => ?_)
         clear hK K
         refine norm_ (a' := ?_) ?_ ?_
         rotate_left
         ·show Act.put _ (some 46) _ = _
          simp only [Act.put, List.setIfInBounds_toArray, List.set_cons_zero, List.set_cons_succ, i64_w, i32_w]
          rfl
         refine Hof.pu 11 47 HT_ ?_
         refine one_ (i := 12) (N := some 8) #[true, true, true, true, true, true, true, true, true, true, true, true, true, false] rfl rfl (one_of HT_.out (by kernel_rfl)) (by decide) (fun K hK => ?_)
         refine box_step ?hg (N := 8) ?hd (cs := #[.int .i64 0, .int .i64 0, .int .i64 0, .slice none 0 0]) (t := 49) ?hr ?_; (case hd => rfl); (case hg => rfl); (case hr => first | (go_simp; done) | (go_simp; rfl))
         intro gb962 hg w41 hbox hb
         have n0_ := Hof.rb HO958 hb
         have n1_ := Hof.rb HO961 hb
         have n2_ := Hof.bb BK952 hb
         have n3_ := Hof.bb BK953 hb
         have n4_ := Aside0.mk (below_step Hof.L hb)
         have n5_ := Aside0.mk hbox
         have n6_ := Hof.gL (w := w) hg Hof.L
         have n7_ := Hof.gL (w := w) hg Hof.L
         have n8_ := Hof.nl hg BK952
         have n9_ := Hof.ng hg BK952
         have n10_ := Hof.nl hg BK953
         have n11_ := Hof.ng hg BK953
         clear HO958
         clear HO961
         clear BK952
         clear BK953
         clear HB
         have HO958 := n0_
         have HO961 := n1_
         have BK952 := n2_
         have BK953 := n3_
         have HB := n4_
         have BK962 := n5_
         have GW962 := n6_
         have GE962 := n7_
         have NB952_962 := n8_
         have NB962_952 := n9_
         have NB953_962 := n10_
         have NB962_953 := n11_
         clear n0_ n1_ n2_ n3_ n4_ n5_ n6_ n7_ n8_ n9_ n10_ n11_
         clear hb hbox hg
         refine hK.out _ _ ⟨(blk_cell BK952.out 0).trans rfl, (blk_cell BK952.out 1).trans rfl⟩ (fun hHeld => ?_)
         clear hK K
         refine norm_ (a' := ?_) ?_ ?_
         rotate_left
         ·show Act.put _ (some 8) _ = _
          simp only [Act.put, List.setIfInBounds_toArray, List.set_cons_zero, List.set_cons_succ, i64_w, i32_w]
          rfl
         exact norm_ (by simp only [putAll, Act.put, List.setIfInBounds_toArray, List.set_cons_zero, List.set_cons_succ]) (hCont (.slice Ao40 y959.length co40, gb962) _ ⟨hHeld, (Hof.Rw (Kd.R_mono HO958.out (fun _ hk => hk.2))), (Hof.Rw (Kd.R_mono HO961.out (fun _ hk => hk.2))), (Hof.Bw BK952.out), (Hof.Bw BK953.out), (Hof.Bw BK962.out), GW962.out, GE962.out, NB952_962.out, NB962_952.out, NB953_962.out, NB962_953.out, Hof.L⟩)
        ·skip
         refine box_step ?hg (N := 8) ?hd (cs := #[.int .i64 0, .int .i64 0, .int .i64 0, .slice none 0 0]) (t := 49) ?hr ?_; (case hd => rfl); (case hg => rfl); (case hr => first | (go_simp; done) | (go_simp; rfl))
         intro gb962 hg w38 hbox hb
         have n0_ := Hof.rb HO958 hb
         have n1_ := Hof.bb BK952 hb
         have n2_ := Hof.bb BK953 hb
         have n3_ := Aside0.mk (below_step Hof.L hb)
         have n4_ := Aside0.mk hbox
         have n5_ := Hof.gL (w := w) hg Hof.L
         have n6_ := Hof.gL (w := w) hg Hof.L
         have n7_ := Hof.nl hg BK952
         have n8_ := Hof.ng hg BK952
         have n9_ := Hof.nl hg BK953
         have n10_ := Hof.ng hg BK953
         clear HO958
         clear BK952
         clear BK953
         clear HB
         have HO958 := n0_
         have BK952 := n1_
         have BK953 := n2_
         have HB := n3_
         have BK962 := n4_
         have GW962 := n5_
         have GE962 := n6_
         have NB952_962 := n7_
         have NB962_952 := n8_
         have NB953_962 := n9_
         have NB962_953 := n10_
         clear n0_ n1_ n2_ n3_ n4_ n5_ n6_ n7_ n8_ n9_ n10_
         clear hb hbox hg
         refine hK.out _ _ ⟨(blk_cell BK952.out 0).trans rfl, (blk_cell BK952.out 1).trans rfl⟩ (fun hHeld => ?_)
         clear hK K
         refine norm_ (a' := ?_) ?_ ?_
         rotate_left
         ·show Act.put _ (some 8) _ = _
          simp only [Act.put, List.setIfInBounds_toArray, List.set_cons_zero, List.set_cons_succ, i64_w, i32_w]
          rfl
         refine one_ (i := 10) (N := some 46) #[true, true, true, true, true, true, true, true, true, true, true, false, true, false] rfl rfl (one_of HT_.out (by kernel_rfl)) (by decide) (fun K hK => ?_)
         refine Kd.R_make_step (Kd.int .i64) _ 3 (by rfl) (N := 46) rfl 24 _ _ rfl ji30 rfl rfl Try.underlying24 (.int .i64 0) 8 info3 rfl (by decide) (by omega) 0 (ok := fun _ => True) (okp := fun _ => True) rfl (fun _ hk => hk) trivial (Hof.D) (Nat.le_trans (Nat.mul_le_mul_right _ (Hof.D : ji30.toNat ≤ 35184372088832)) (by omega)) (Below.refl _ _) (Nat.le_refl _) ?_
         intro v960 w39 ho40 hb hg_ hnew_
         clear hg_ hnew_
         (first | rw [← Ny959.out] at ho40 | (simp only [Int.reduceToNat] at ho40; rw [← Ny959.out] at ho40))
         have n0_ := Aside0.mk (Kd.R_elder' (Hof.Rw HO958.out) (Kd.R_base ho40) hb)
         have n1_ := Aside0.mk (Kd.R_lower (Kd.R_new' ho40 (Kd.R_lt (Hof.Rw HO958.out))) (below_size Hof.L))
         have n2_ := Hof.bb BK952 hb
         have n3_ := Hof.bb BK953 hb
         have n4_ := Hof.bb BK962 hb
         have n5_ := Aside0.mk (below_step Hof.L hb)
         clear HO958
         clear BK952
         clear BK953
         clear BK962
         clear HB
         have HO958 := n0_
         have HO961 := n1_
         have BK952 := n2_
         have BK953 := n3_
         have BK962 := n4_
         have HB := n5_
         clear n0_ n1_ n2_ n3_ n4_ n5_
         clear hb ho40
         obtain ⟨Ao41, co41, eo41⟩ := Kd.R_slice HO961.out
         (first | subst eo41 | (injection eo41 with f1_ f2_ f3_; have f4_ := f1_.symm; have f5_ := f3_.symm; clear f1_ f2_ f3_; subst f4_; subst f5_))
         refine hK.out _ _ ⟨(blk_cell BK952.out 0).trans rfl, (blk_cell BK952.out 1).trans rfl⟩ (fun hHeld => ?_)
         clear hK K
         refine norm_ (a' := ?_) ?_ ?_
         rotate_left
         ·show Act.put _ (some 46) _ = _
          simp only [Act.put, List.setIfInBounds_toArray, List.set_cons_zero, List.set_cons_succ, i64_w, i32_w]
          rfl
         refine Hof.pu 11 47 HT_ ?_
         exact norm_ (by simp only [putAll, Act.put, List.setIfInBounds_toArray, List.set_cons_zero, List.set_cons_succ]) (hCont (.slice Ao41 y959.length co41, gb962) _ ⟨hHeld, (Hof.Rw (Kd.R_mono HO958.out (fun _ hk => hk.2))), (Hof.Rw (Kd.R_mono HO961.out (fun _ hk => hk.2))), (Hof.Bw BK952.out), (Hof.Bw BK953.out), (Hof.Bw BK962.out), GW962.out, GE962.out, NB952_962.out, NB962_952.out, NB953_962.out, NB962_953.out, Hof.L⟩)
       rintro ⟨v960, gb962⟩ w42 ⟨hS_, h0_, h1_, h2_, h3_, h4_, h5_, h6_, h7_, h8_, h9_, h10_, h11_⟩
       have n0_ : Aside0 (Kd.R (Kd.int .i64) 3 w42 w.heap.size (fun k_ => some k_ ≠ (v960 : Value).ownBlock) (.slice Ao37 t956.length co37) t956) := ⟨h0_⟩
       have n1_ : Aside0 (Kd.R (Kd.int .i64) 3 w42 w.heap.size (fun k_ => some k_ ≠ (.slice Ao37 t956.length co37 : Value).ownBlock) v960 y959) := ⟨h1_⟩
       have n2_ : Aside0 (w42.heap[gb952]? = some (.cells #[.int .i64 a0_0, .slice (some ad955) l0_1.length c0_1] 35 (0, 0))) := ⟨h2_⟩
       have n3_ : Aside0 (w42.heap[gb953]? = some (.cells #[.int .i64 0, .int .i64 0, .int .i64 0, .slice none 0 0] 49 (0, 0))) := ⟨h3_⟩
       have n4_ : Aside0 (w42.heap[gb962]? = some (.cells #[.int .i64 0, .int .i64 0, .int .i64 0, .slice none 0 0] 49 (0, 0))) := ⟨h4_⟩
       have n5_ : Aside0 (w.heap.size ≤ gb962) := ⟨h5_⟩
       have n6_ : Aside0 (w.heap.size ≤ gb962) := ⟨h6_⟩
       have n7_ : Aside0 (gb952 ≠ gb962) := ⟨h7_⟩
       have n8_ : Aside0 (gb962 ≠ gb952) := ⟨h8_⟩
       have n9_ : Aside0 (gb953 ≠ gb962) := ⟨h9_⟩
       have n10_ : Aside0 (gb962 ≠ gb953) := ⟨h10_⟩
       have n11_ : Aside0 (Below w.heap.size w w42) := ⟨h11_⟩
       clear HO958
       clear BK952
       clear BK953
       clear HB
       clear h0_ h1_ h2_ h3_ h4_ h5_ h6_ h7_ h8_ h9_ h10_ h11_
       have HO958 := n0_
       have HO961 := n1_
       have BK952 := n2_
       have BK953 := n3_
       have BK962 := n4_
       have GW962 := n5_
       have GE962 := n6_
       have NB952_962 := n7_
       have NB962_952 := n8_
       have NB953_962 := n9_
       have NB962_953 := n10_
       have HB := n11_
       clear n0_ n1_ n2_ n3_ n4_ n5_ n6_ n7_ n8_ n9_ n10_ n11_
       have hHeld : w42.cell? ⟨gb952, 0, none⟩ = some (.int .i64 a0_0) ∧ w42.cell? ⟨gb952, 1, none⟩ = some (.slice (some ad955) l0_1.length c0_1) := hS_
       obtain ⟨Ao43, co43, eo43⟩ := Kd.R_slice HO961.out
       (first | subst eo43 | (injection eo43 with f1_ f2_ f3_; have f4_ := f1_.symm; have f5_ := f3_.symm; clear f1_ f2_ f3_; subst f4_; subst f5_))
       refine norm_ (a' := ?_) ?_ ?_
       rotate_left
       ·simp only [putAll, Act.put, List.setIfInBounds_toArray, List.set_cons_zero, List.set_cons_succ]
        rfl
       refine one_ (i := 13) (N := none) #[true, true, true, true, true, true, true, true, true, true, true, true, true, true] rfl rfl (one_of HT_.out (by kernel_rfl)) (by decide) (fun K hK => ?_)
       have hs44 : w42.cell? ⟨gb962, 0, none⟩ = some (.int .i64 0) := (blk_cell BK962.out 0).trans rfl
       have hfs44 := blk_frozen BK962.out 0
       have hns44_0 := NB952_962.out
       have hns44_1 := NB953_962.out
       have hms44_0 := NB962_952.out
       have hms44_1 := NB962_953.out
       have hs45 : w42.cell? ⟨gb962, 1, none⟩ = some (.int .i64 0) := (blk_cell BK962.out 1).trans rfl
       have hfs45 := blk_frozen BK962.out 1
       have hns45_0 := NB952_962.out
       have hns45_1 := NB953_962.out
       have hms45_0 := NB962_952.out
       have hms45_1 := NB962_953.out
       have hs46 : w42.cell? ⟨gb962, 2, none⟩ = some (.int .i64 0) := (blk_cell BK962.out 2).trans rfl
       have hfs46 := blk_frozen BK962.out 2
       have hns46_0 := NB952_962.out
       have hns46_1 := NB953_962.out
       have hms46_0 := NB962_952.out
       have hms46_1 := NB962_953.out
       have hs47 : w42.cell? ⟨gb962, 3, none⟩ = some (.slice none 0 0) := (blk_cell BK962.out 3).trans rfl
       have hfs47 := blk_frozen BK962.out 3
       have hns47_0 := NB952_962.out
       have hns47_1 := NB953_962.out
       have hms47_0 := NB962_952.out
       have hms47_1 := NB962_953.out
       refine skip_ (w1 := ?_) (by rfl) rfl ?_ ?_
       rotate_left
       ·go_simp
        rfl
       refine hK.out _ _ ⟨((cell_far (p := ⟨gb962, _, none⟩) NB952_962.out _).trans (((cell_far (p := ⟨gb962, _, none⟩) NB952_962.out _).trans (((cell_far (p := ⟨gb962, _, none⟩) NB952_962.out _).trans (((cell_far (p := ⟨gb962, _, none⟩) NB952_962.out _).trans (hHeld.1)))))))), ((cell_far (p := ⟨gb962, _, none⟩) NB952_962.out _).trans (((cell_far (p := ⟨gb962, _, none⟩) NB952_962.out _).trans (((cell_far (p := ⟨gb962, _, none⟩) NB952_962.out _).trans (((cell_far (p := ⟨gb962, _, none⟩) NB952_962.out _).trans (hHeld.2))))))))⟩ (fun hHeld => ?_)
       clear hK K
       refine done_ (done_of HT_.out (by kernel_rfl)) ?_
       try go_wp2_with (first | (refine Hof.lt (Kd.int .i64) 3 48 ?_; intro v964 w48 ho49 hb hg_ hnew_; clear hg_ hnew_; (first | rw [← Ny963.out] at ho49 | (simp only [Int.reduceToNat] at ho49; rw [← Ny963.out] at ho49)); have HO965 := Aside0.mk (Kd.R_lower (Kd.R_new' (Kd.R_new' ho49 (Kd.R_lt (Hof.Rw ((Kd.R_mono (Kd.R_far (p := ⟨gb962, 3, none⟩) (Kd.R_far (p := ⟨gb962, 2, none⟩) (Kd.R_far (p := ⟨gb962, 1, none⟩) (Kd.R_far (p := ⟨gb962, 0, none⟩) (Kd.R_types HO958.out BK962.out (by decide)) (fun _ hk => hk.2) (.int .i64 a1)) (fun _ hk => hk.2) (.int .i64 (t956.length : Int))) (fun _ hk => hk.2) (.int .i64 a0_0)) (fun _ hk => hk.2) (.slice Ao43 y959.length co43)) (fun _ h_ => h_.1)))))) (Kd.R_lt (Hof.Rw ((Kd.R_mono (Kd.R_far (p := ⟨gb962, 3, none⟩) (Kd.R_far (p := ⟨gb962, 2, none⟩) (Kd.R_far (p := ⟨gb962, 1, none⟩) (Kd.R_far (p := ⟨gb962, 0, none⟩) (Kd.R_types HO961.out BK962.out (by decide)) (fun _ hk => hk.2) (.int .i64 a1)) (fun _ hk => hk.2) (.int .i64 (t956.length : Int))) (fun _ hk => hk.2) (.int .i64 a0_0)) (fun _ hk => hk.2) (.slice Ao43 y959.length co43)) (fun _ h_ => h_.1)))))) (below_size Hof.L)); replace HO958 := Aside0.mk (Kd.R_elder' (Hof.Rw ((Kd.R_mono (Kd.R_far (p := ⟨gb962, 3, none⟩) (Kd.R_far (p := ⟨gb962, 2, none⟩) (Kd.R_far (p := ⟨gb962, 1, none⟩) (Kd.R_far (p := ⟨gb962, 0, none⟩) (Kd.R_types HO958.out BK962.out (by decide)) (fun _ hk => hk.2) (.int .i64 a1)) (fun _ hk => hk.2) (.int .i64 (t956.length : Int))) (fun _ hk => hk.2) (.int .i64 a0_0)) (fun _ hk => hk.2) (.slice Ao43 y959.length co43)) (fun _ h_ => h_.1)))) (Kd.R_base ho49) hb); replace HO961 := Aside0.mk (Kd.R_elder' (Hof.Rw ((Kd.R_mono (Kd.R_far (p := ⟨gb962, 3, none⟩) (Kd.R_far (p := ⟨gb962, 2, none⟩) (Kd.R_far (p := ⟨gb962, 1, none⟩) (Kd.R_far (p := ⟨gb962, 0, none⟩) (Kd.R_types HO961.out BK962.out (by decide)) (fun _ hk => hk.2) (.int .i64 a1)) (fun _ hk => hk.2) (.int .i64 (t956.length : Int))) (fun _ hk => hk.2) (.int .i64 a0_0)) (fun _ hk => hk.2) (.slice Ao43 y959.length co43)) (fun _ h_ => h_.1)))) (Kd.R_base ho49) hb); replace BK952 := Aside0.mk (blk_below (g := gb952) (o := .cells #[.int .i64 a0_0, .slice (some ad955) l0_1.length c0_1] 35 (0, 0)) Hof.B hb); replace BK953 := Aside0.mk (blk_below (g := gb953) (o := .cells #[.int .i64 0, .int .i64 0, .int .i64 0, .slice none 0 0] 49 (0, 0)) Hof.B hb); replace BK962 := Aside0.mk (blk_below (g := gb962) (o := .cells #[.int .i64 a1, .int .i64 (t956.length : Int), .int .i64 a0_0, .slice Ao43 y959.length co43] 49 (0, 0)) Hof.B hb); replace HB := Aside0.mk (below_step Hof.L hb); clear hb ho49))
       go_loopg [9, 51] kj2 (fun kq v9 v51 w' => ∃ (x9_2 : List Int) (x51_2 : Int) (x963003_2 : List Int) (u963003 : Value), v51 = .int .i64 x51_2 ∧ Aside0 (impl_FindMatrix.l0 kq (rd l0_1 0) x9_2 t956 (t956.length : Int) x51_2 a0_0 l0_1 a1 (t956.length : Int) a0_0 x963003_2 = some (r1, r2, r3, r4, r5)) ∧ Aside0 (kq ≤ kj2) ∧ Aside0 (Kd.R (Kd.int .i64) 3 w' w.heap.size (fun k_ => some k_ ≠ ((.slice Ao37 t956.length co37) : Value).ownBlock ∧ some k_ ≠ (u963003 : Value).ownBlock) v9 x9_2) ∧ Aside0 (Kd.R (Kd.int .i64) 3 w' w.heap.size (fun k_ => some k_ ≠ (v9 : Value).ownBlock ∧ some k_ ≠ (u963003 : Value).ownBlock) (.slice Ao37 t956.length co37) t956) ∧ Aside0 (Kd.R (Kd.int .i64) 3 w' w.heap.size (fun k_ => some k_ ≠ (v9 : Value).ownBlock ∧ some k_ ≠ ((.slice Ao37 t956.length co37) : Value).ownBlock) u963003 x963003_2) ∧ Aside0 (w'.heap[gb952]? = some (.cells #[.int .i64 a0_0, (.slice (some ad955) l0_1.length c0_1)] 35 (0, 0))) ∧ Aside0 (w'.heap[gb953]? = some (.cells #[.int .i64 0, .int .i64 0, .int .i64 0, (.slice none 0 0)] 49 (0, 0))) ∧ Aside0 (w'.heap[gb962]? = some (.cells #[.int .i64 a1, .int .i64 (t956.length : Int), .int .i64 a0_0, u963003] 49 (0, 0))) ∧ Aside0 (Below w.heap.size w w'))
       case atStart => exact ⟨(y963), (0), (y959), (.slice Ao43 y959.length co43), Hof.F, H', ⟨Nat.le_refl _⟩, ⟨Hof.Rw (Kd.R_mono HO965.out (fun _ hk => (by first | exact ⟨hk.1.2, hk.2⟩ | (simp_all; done))))⟩, ⟨Hof.Rw (Kd.R_mono HO958.out (fun _ hk => (by first | exact ⟨hk.2, hk.1⟩ | (simp_all; done))))⟩, ⟨Hof.Rw (Kd.R_mono HO961.out (fun _ hk => (by first | exact ⟨hk.2, hk.1⟩ | (simp_all; done))))⟩, ⟨Hof.Bw BK952.out⟩, ⟨Hof.Bw BK953.out⟩, ⟨Hof.Bw BK962.out⟩, ⟨Hof.L⟩⟩
       case round =>
        clear H'
        try clear q9
        try clear hx9
        try clear qi9
        try clear hx955_0
        try clear q955
        obtain ⟨x9_2, x51_2, x963003_2, u963003, rfl, HA, HK2, HO_9, HO_49, HO_963003, BK952, BK953, BK962, HB⟩ := hrel
        cases gk with
        | zero => exact absurd HA.out (by simp [impl_FindMatrix.l0])
        | succ k2 =>
         have H := HA.out
         clear HA
         simp only [impl_FindMatrix.l0] at H
         by_cases c50 : x51_2 < (t956.length : Int)
         ·rw [if_pos c50] at H
          have c50b0 := decide_eq_true c50
          clear c50
          by_cases c51 : 0 ≤ x51_2
          ·rw [if_pos c51] at H
           have c51b0 := decide_eq_true c51
           clear c51
           by_cases c52 : x51_2 < (t956.length : Int)
           ·rw [if_pos c52] at H
            have c52b0 := decide_eq_true c52
            clear c52
            have H' := Aside0.mk H
            clear H
            have p968 : 0 ≤ (x51_2 : Int) := Hof.D
            have q968 : x51_2 < (t956.length : Int) := Hof.D
            obtain ⟨ad968, e968, hx968_0⟩ := Kd.at_int (Kd.R_reads' HO_49.out).2.2 x51_2 p968 q968
            cases e968
            replace p968 := eq_true p968
            replace q968 := eq_true q968
            go_wp2
            go_loopg [9, 12] k2 (fun kq v9 v12 w' => ∃ (x9_3 : List Int) (x12_3 : Int) (x963003_3 : List Int) (u963003 : Value), v12 = .int .i64 x12_3 ∧ Aside0 (impl_FindMatrix.l1 kq (rd l0_1 0) x9_3 x51_2 (rd t956 x51_2) x12_3 t956 (t956.length : Int) x51_2 a0_0 l0_1 a1 (t956.length : Int) a0_0 x963003_3 = some (r1, r2, r3, r4, r5)) ∧ Aside0 (kq ≤ k2) ∧ Aside0 (Kd.R (Kd.int .i64) 3 w' w.heap.size (fun k_ => some k_ ≠ ((.slice (some ad968) t956.length co37) : Value).ownBlock ∧ some k_ ≠ (u963003 : Value).ownBlock) v9 x9_3) ∧ Aside0 (Kd.R (Kd.int .i64) 3 w' w.heap.size (fun k_ => some k_ ≠ (v9 : Value).ownBlock ∧ some k_ ≠ (u963003 : Value).ownBlock) (.slice (some ad968) t956.length co37) t956) ∧ Aside0 (Kd.R (Kd.int .i64) 3 w' w.heap.size (fun k_ => some k_ ≠ (v9 : Value).ownBlock ∧ some k_ ≠ ((.slice (some ad968) t956.length co37) : Value).ownBlock) u963003 x963003_3) ∧ Aside0 (w'.heap[gb952]? = some (.cells #[.int .i64 a0_0, (.slice (some ad955) l0_1.length c0_1)] 35 (0, 0))) ∧ Aside0 (w'.heap[gb953]? = some (.cells #[.int .i64 0, .int .i64 0, .int .i64 0, (.slice none 0 0)] 49 (0, 0))) ∧ Aside0 (w'.heap[gb962]? = some (.cells #[.int .i64 a1, .int .i64 (t956.length : Int), .int .i64 a0_0, u963003] 49 (0, 0))) ∧ Aside0 (Below w.heap.size w w'))
            case atStart => exact ⟨(x9_2), (0), (x963003_2), (u963003), Hof.F, H', ⟨Nat.le_refl _⟩, ⟨by (with_reducible repeat (first | apply Kd.R_alloc | apply Kd.R_drewN | apply Kd.R_drew)); exact HO_9.out⟩, ⟨by (with_reducible repeat (first | apply Kd.R_alloc | apply Kd.R_drewN | apply Kd.R_drew)); exact HO_49.out⟩, ⟨by (with_reducible repeat (first | apply Kd.R_alloc | apply Kd.R_drewN | apply Kd.R_drew)); exact HO_963003.out⟩, ⟨Hof.B⟩, ⟨Hof.B⟩, ⟨Hof.B⟩, ⟨Hof.L⟩⟩
            case round =>
             clear H'
             try clear q9
             try clear hx9
             try clear qi9
             try clear hx955_0
             try clear hx968_0
             try clear q9
             try clear q955
             try clear q968
             obtain ⟨x9_3, x12_3, x963003_3, u963003, rfl, HA, HK3, HO_9, HO_49, HO_963003, BK952, BK953, BK962, HB⟩ := hrel
             cases gk with
             | zero => exact absurd HA.out (by simp [impl_FindMatrix.l1])
             | succ k3 =>
              have H := HA.out
              clear HA
              simp only [impl_FindMatrix.l1] at H
              by_cases c53 : x12_3 < a0_0
              ·rw [if_pos c53] at H
               have c53b0 := decide_eq_true c53
               clear c53
               by_cases c54 : x12_3 = (rd t956 x51_2)
               ·rw [if_pos c54] at H
                have c54b0 : (x12_3 == (rd t956 x51_2)) = true := beq_iff_eq.mpr c54
                have c54b1 : (x12_3 != (rd t956 x51_2)) = false := bne_eq_false_iff_eq.mpr c54
                clear c54
                obtain ⟨ji55, hji55⟩ : ∃ j_ : Int, (wrap64 ((wrap64 (x51_2 * a0_0)) + x12_3)) = j_ := ⟨_, rfl⟩
                replace H : (if 0 ≤ (ji55) then (if (ji55) < (x963003_3.length : Int) then (impl_FindMatrix.l1 k3 (rd l0_1 0) x9_3 x51_2 (rd t956 x51_2) (wrap64 (x12_3 + 1)) t956 (t956.length : Int) x51_2 a0_0 l0_1 a1 (t956.length : Int) a0_0 (x963003_3.set ((ji55) : Int).toNat 1)) else (none)) else (none)) = some (r1, r2, r3, r4, r5) := by first | (rw [hji55] at H; exact H) | (simp only [hji55] at H ⊢; exact H)
                have hji55w : (IntKind.i64.wrap ((wrap64 (x51_2 * a0_0)) + x12_3)) = ji55 := (i64_w _).trans hji55
                by_cases c56 : 0 ≤ (ji55)
                ·rw [if_pos c56] at H
                 have c56b0 := decide_eq_true c56
                 clear c56
                 by_cases c57 : (ji55) < (x963003_3.length : Int)
                 ·rw [if_pos c57] at H
                  have c57b0 := decide_eq_true c57
                  clear c57
                  obtain ⟨y969, hy969⟩ : ∃ y_ : List Int, y_ = (x963003_3.set ((ji55) : Int).toNat 1) := ⟨_, rfl⟩
                  replace H : (impl_FindMatrix.l1 k3 (rd l0_1 0) x9_3 x51_2 (rd t956 x51_2) (wrap64 (x12_3 + 1)) t956 (t956.length : Int) x51_2 a0_0 l0_1 a1 (t956.length : Int) a0_0 y969) = some (r1, r2, r3, r4, r5) := by (try rw [hy969]); exact Hof.Z
                  have Ny969 := Aside0.mk hy969
                  clear hy969
                  have H' := Aside0.mk H
                  clear H
                  have hnb59 := NB952_953.out
                  have hnc59 := NB953_952.out
                  have hnb60 := NB952_962.out
                  have hnc60 := NB962_952.out
                  obtain ⟨hcz61_0, hcz61_1, hfz61_0, hfz61_1⟩ := Hof.blk2 BK952.out
                  have hnb62 := NB962_953.out
                  have hnc62 := NB953_962.out
                  obtain ⟨hcz63_0, hcz63_1, hcz63_2, hcz63_3, hfz63_0, hfz63_1, hfz63_2, hfz63_3⟩ := Hof.blk4 BK962.out
                  have p58 : 0 ≤ ((ji55) : Int) := Hof.D
                  have q58 : ((ji55) : Int) < ((x963003_3.length : Int) : Int) := Hof.D
                  obtain ⟨go58, co58, eo58, gb58, gl58, cl58, HG58⟩ := Kd.R_form HO_963003.out (by omega)
                  (first | cases eo58 | (injection eo58 with ea_ en_ ec_; (first | subst ea_ | (injection ea_ with ea_; subst ea_)); subst ec_; clear en_))
                  have GB58 := Aside0.mk gb58
                  have GG58 := Aside0.mk HG58
                  clear gb58 gl58 HG58
                  obtain ⟨hx58_0, hf58_0⟩ := Kd.R_celln 0 HO_963003.out ((ji55) : Int) p58 q58
                  replace p58 := eq_true p58
                  replace q58 := eq_true q58
                  have HP64 := Kd.R_putg HO_963003.out ((ji55) : Int) 1
                  go_wp2_with (first | ((with_reducible refine gate_store (t := 3) (p := 74) rfl ?_); refine store_event (t := 3) (p := 74) (v := ?vo_w65) (w1 := (wr.setCell ⟨go58, ((ji55) : Int).toNat, none⟩ (.int .i64 1))) ?hg ?ho ?hn ?hr ?_; (case ho => rfl); (case hg => rfl); (case hn => rfl); (case hr => first | (go_simp; done) | (go_simp; rfl)); intro w65 hw; have hg : wr.grownBy w65 (some go58) := (by rw [hw]; exact HP64.2); have hp_ : Kd.R (Kd.int .i64) 3 w65 w.heap.size (fun k_ => some k_ ≠ (u9 : Value).ownBlock ∧ some k_ ≠ (.slice (some ad968) t956.length co37 : Value).ownBlock) (.slice (some ⟨go58, 0, none⟩) x963003_3.length co58) y969 := (by rw [hw, Ny969.out]; exact HP64.1); clear HP64; replace HO_9 := Aside0.mk (Kd.R_after (v := (.slice (some ⟨go58, 0, none⟩) x963003_3.length co58)) (v1 := (.slice (some ⟨go58, 0, none⟩) x963003_3.length co58)) (ok := (fun k_ => some k_ ≠ (.slice (some ad968) t956.length co37 : Value).ownBlock)) (Hof.Rw HO_9.out) hg (.inl rfl)); replace HO_49 := Aside0.mk (Kd.R_after (v := (.slice (some ⟨go58, 0, none⟩) x963003_3.length co58)) (v1 := (.slice (some ⟨go58, 0, none⟩) x963003_3.length co58)) (ok := (fun k_ => some k_ ≠ (u9 : Value).ownBlock)) (Hof.Rw HO_49.out) hg (.inl rfl)); replace BK952 := Aside0.mk (blk_grown (g := gb952) (o := .cells #[.int .i64 a0_0, .slice (some ad955) l0_1.length c0_1] 35 (0, 0)) (Hof.Bw BK952.out) hg (Kd.R_ne HO_963003.out BK952.out (by decide))); replace BK953 := Aside0.mk (blk_grown (g := gb953) (o := .cells #[.int .i64 0, .int .i64 0, .int .i64 0, .slice none 0 0] 49 (0, 0)) (Hof.Bw BK953.out) hg (Kd.R_ne HO_963003.out BK953.out (by decide))); replace BK962 := Aside0.mk (blk_grown (g := gb962) (o := .cells #[.int .i64 a1, .int .i64 (t956.length : Int), .int .i64 a0_0, .slice (some ⟨go58, 0, none⟩) x963003_3.length co58] 49 (0, 0)) (Hof.Bw BK962.out) hg (Kd.R_ne HO_963003.out BK962.out (by decide))); replace HO_963003 := Aside0.mk hp_; replace HB := Aside0.mk ((by rw [hw]; exact below_set (HB.out) GB58.out : Below w.heap.size w w65)); clear hg hw hp_))
                  go_roundg k3
                  case measure => have := HJ2.out; have := HK2.out; have := HK3.out; omega
                  case rel => exact ⟨(x9_3), (wrap64 (x12_3 + 1)), (y969), (.slice (some ⟨go58, 0, none⟩) x963003_3.length co58), Hof.F, H', ⟨by have := HJ2.out; have := HK2.out; have := HK3.out; omega⟩, ⟨by (with_reducible repeat (first | apply Kd.R_alloc | apply Kd.R_drewN | apply Kd.R_drew)); exact HO_9.out⟩, ⟨by (with_reducible repeat (first | apply Kd.R_alloc | apply Kd.R_drewN | apply Kd.R_drew)); exact HO_49.out⟩, ⟨by (with_reducible repeat (first | apply Kd.R_alloc | apply Kd.R_drewN | apply Kd.R_drew)); exact HO_963003.out⟩, ⟨Hof.B⟩, ⟨Hof.B⟩, ⟨Hof.B⟩, ⟨Hof.L⟩⟩
                 ·rw [if_neg c57] at H
                  exact absurd H (by simp)
                ·rw [if_neg c56] at H
                 exact absurd H (by simp)
               ·rw [if_neg c54] at H
                have c54b0 : (x12_3 == (rd t956 x51_2)) = false := beq_eq_false_iff_ne.mpr c54
                have c54b1 : (x12_3 != (rd t956 x51_2)) = true := bne_iff_ne.mpr c54
                obtain ⟨t970, A66, H⟩ := Hof.be H
                (try dsimp only at H)
                by_cases c67 : t970 = true
                ·subst c67
                 replace H : (impl_FindMatrix.l1 k3 (rd l0_1 0) x9_3 x51_2 (rd t956 x51_2) (wrap64 (x12_3 + 1)) t956 (t956.length : Int) x51_2 a0_0 l0_1 a1 (t956.length : Int) a0_0 x963003_3) = some (r1, r2, r3, r4, r5) := by rw [if_pos rfl] at H; exact H
                 have H' := Aside0.mk H
                 clear H
                 have hnb68 := NB952_953.out
                 have hnc68 := NB953_952.out
                 have hnb69 := NB952_962.out
                 have hnc69 := NB962_952.out
                 obtain ⟨hcz70_0, hcz70_1, hfz70_0, hfz70_1⟩ := Hof.blk2 BK952.out
                 go_wp2_with (first | ((with_reducible refine gate_callee (f := 82) rfl ?_); refine Hof.gl (some 78) Try.func82 #[.int .i64 (rd l0_1 0), .int .i64 x12_3] ?_; (with_reducible refine (impl_HasElement.calls (rd l0_1 0) x12_3 true _ A66.out).mono ?_); rintro e w' ⟨rfl, ⟨nd, rfl⟩⟩; refine ⟨_, rfl, ?_⟩))
                 go_roundg k3
                 case measure => have := HJ2.out; have := HK2.out; have := HK3.out; omega
                 case rel => exact ⟨(x9_3), (wrap64 (x12_3 + 1)), (x963003_3), (u963003), Hof.F, H', ⟨by have := HJ2.out; have := HK2.out; have := HK3.out; omega⟩, ⟨by (with_reducible repeat (first | apply Kd.R_alloc | apply Kd.R_drewN | apply Kd.R_drew)); exact HO_9.out⟩, ⟨by (with_reducible repeat (first | apply Kd.R_alloc | apply Kd.R_drewN | apply Kd.R_drew)); exact HO_49.out⟩, ⟨by (with_reducible repeat (first | apply Kd.R_alloc | apply Kd.R_drewN | apply Kd.R_drew)); exact HO_963003.out⟩, ⟨Hof.B⟩, ⟨Hof.B⟩, ⟨Hof.B⟩, ⟨Hof.L⟩⟩
                ·replace c67 := Bool.eq_false_iff.mpr c67
                 subst c67
                 replace H : ((impl_circuit.f k3 a0_0 l0_1 (rd l0_1 0) x12_3).bind fun t971 => ((impl_HasElement.f t971 (rd t956 x51_2)).bind fun t972 => (if t972 = true then (if x9_3.length < 17592186044416 then (impl_FindMatrix.l1 k3 (rd l0_1 0) (x9_3 ++ [wrap64 ((wrap64 (x51_2 * a0_0)) + x12_3)]) x51_2 (rd t956 x51_2) (wrap64 (x12_3 + 1)) t956 (t956.length : Int) x51_2 a0_0 l0_1 a1 (t956.length : Int) a0_0 x963003_3) else (none)) else (impl_FindMatrix.l1 k3 (rd l0_1 0) x9_3 x51_2 (rd t956 x51_2) (wrap64 (x12_3 + 1)) t956 (t956.length : Int) x51_2 a0_0 l0_1 a1 (t956.length : Int) a0_0 x963003_3)))) = some (r1, r2, r3, r4, r5) := by rw [if_neg (show ¬ (false = true) by decide)] at H; exact H
                 obtain ⟨t971, A71, H⟩ := Hof.be H
                 (try dsimp only at H)
                 obtain ⟨t972, A72, H⟩ := Hof.be H
                 (try dsimp only at H)
                 by_cases c73 : t972 = true
                 ·subst c73
                  replace H : (if x9_3.length < 17592186044416 then (impl_FindMatrix.l1 k3 (rd l0_1 0) (x9_3 ++ [wrap64 ((wrap64 (x51_2 * a0_0)) + x12_3)]) x51_2 (rd t956 x51_2) (wrap64 (x12_3 + 1)) t956 (t956.length : Int) x51_2 a0_0 l0_1 a1 (t956.length : Int) a0_0 x963003_3) else (none)) = some (r1, r2, r3, r4, r5) := by rw [if_pos rfl] at H; exact H
                  by_cases c74 : x9_3.length < 17592186044416
                  ·rw [if_pos c74] at H
                   have LMc74 := Aside0.mk c74
                   clear c74
                   obtain ⟨y973, hy973⟩ : ∃ y_ : List Int, y_ = (x9_3 ++ [wrap64 ((wrap64 (x51_2 * a0_0)) + x12_3)]) := ⟨_, rfl⟩
                   replace H : (impl_FindMatrix.l1 k3 (rd l0_1 0) y973 x51_2 (rd t956 x51_2) (wrap64 (x12_3 + 1)) t956 (t956.length : Int) x51_2 a0_0 l0_1 a1 (t956.length : Int) a0_0 x963003_3) = some (r1, r2, r3, r4, r5) := by (try rw [hy973]); exact Hof.Z
                   have Ny973 := Aside0.mk hy973
                   clear hy973
                   have H' := Aside0.mk H
                   clear H
                   have hnb75 := NB952_953.out
                   have hnc75 := NB953_952.out
                   have hnb76 := NB952_962.out
                   have hnc76 := NB962_952.out
                   obtain ⟨hcz77_0, hcz77_1, hfz77_0, hfz77_1⟩ := Hof.blk2 BK952.out
                   go_wp2_with (first | ((with_reducible refine gate_callee (f := 82) rfl ?_); refine Hof.gl (some 78) Try.func82 #[.int .i64 (rd l0_1 0), .int .i64 x12_3] ?_; (with_reducible refine (impl_HasElement.calls (rd l0_1 0) x12_3 false _ A66.out).mono ?_); rintro e w' ⟨rfl, ⟨nd, rfl⟩⟩; refine ⟨_, rfl, ?_⟩) | (go_at_call 83; (with_reducible refine (impl_circuit.calls k3 a0_0 _ _ l0_1 (rd l0_1 0) x12_3 t971 _ ?side1 ?side2 A71.out).mono ?_); (case side1 => exact Hof.Cw (Kd.C_below HR0_1.out Hof.L)); (case side2 => exact HC0_1.out); rintro e w78 ⟨rfl, hb⟩; replace HO_9 := Hof.rb HO_9 hb; replace HO_49 := Hof.rb HO_49 hb; replace HO_963003 := Hof.rb HO_963003 hb; replace BK952 := Hof.bb BK952 hb; replace BK953 := Hof.bb BK953 hb; replace BK962 := Hof.bb BK962 hb; replace HB := Aside0.mk (below_step Hof.L hb); (try clear hb); (try clear hb2); (try clear hk); (try clear hi)) | (go_at_call 82; (with_reducible refine (impl_HasElement.calls t971 (rd t956 x51_2) true _ A72.out).mono ?_); rintro e w' ⟨rfl, ⟨nd, rfl⟩⟩; obtain ⟨hcz79_0, hcz79_1, hfz79_0, hfz79_1⟩ := Hof.blk2 BK952.out) | ((with_reducible refine gate_builtin (b := .append) (xs := #[.tmp 88, .tmp 95]) rfl ?_); at_builtin; refine Kd.R_append (Kd.int .i64) (w0 := w) w.heap.size rfl (.tmp 88) (.tmp 95) 24 3 (.int .i64 0) 8 rfl Try.underlying24 info3 rfl (by decide) (by omega) u9 x9_3 (wrap64 ((wrap64 (x51_2 * a0_0)) + x12_3)) [.int .i64 (wrap64 ((wrap64 (x51_2 * a0_0)) + x12_3))] (fun k_ => some k_ ≠ (.slice (some ad968) t956.length co37 : Value).ownBlock ∧ some k_ ≠ (u963003 : Value).ownBlock) (fun _ => False) rfl rfl (by exact rfl) (fun _ hk => hk.elim) (by exact fun k_ hk => ⟨Kd.fresh' (Kd.R_lt (Hof.Rw HO_49.out)) k_ hk, Kd.fresh' (Kd.R_lt (Hof.Rw HO_963003.out)) k_ hk⟩) (by exact Hof.Rw HO_9.out) (by exact Hof.L) (by exact below_size Hof.L) (by have := LMc74.out; omega) ?_; intro v974 w80 ho hb hg hat; rw [← Ny973.out] at ho; have n0_ := Aside0.mk (Kd.R_after (ok := (fun k_ => some k_ ≠ (u963003 : Value).ownBlock)) (Hof.Rw (Kd.R_mono HO_49.out (fun _ hk => (by first | exact ⟨hk.2, hk.1⟩ | (simp_all; done))))) hg hat); have n1_ := Aside0.mk (Kd.R_after (ok := (fun k_ => some k_ ≠ (.slice (some ad968) t956.length co37 : Value).ownBlock)) (Hof.Rw (Kd.R_mono HO_963003.out (fun _ hk => (by first | exact ⟨hk.2, hk.1⟩ | (simp_all; done))))) hg hat); have n2_ := Aside0.mk (blk_grown (g := gb952) (o := .cells #[.int .i64 a0_0, .slice (some ad955) l0_1.length c0_1] 35 (0, 0)) (Hof.Bw BK952.out) hg (Kd.R_ne HO_9.out BK952.out (by decide))); have n3_ := Aside0.mk (blk_grown (g := gb953) (o := .cells #[.int .i64 0, .int .i64 0, .int .i64 0, .slice none 0 0] 49 (0, 0)) (Hof.Bw BK953.out) hg (Kd.R_ne HO_9.out BK953.out (by decide))); have n4_ := Aside0.mk (blk_grown (g := gb962) (o := .cells #[.int .i64 a1, .int .i64 (t956.length : Int), .int .i64 a0_0, u963003] 49 (0, 0)) (Hof.Bw BK962.out) hg (Kd.R_ne HO_9.out BK962.out (by decide))); have n5_ := Aside0.mk hb; have n6_ := Aside0.mk ho; clear HO_49; clear HO_963003; clear BK952; clear BK953; clear BK962; clear HB; clear HO_9; have HO_49 := n0_; have HO_963003 := n1_; have BK952 := n2_; have BK953 := n3_; have BK962 := n4_; have HB := n5_; have HO975 := n6_; clear n0_ n1_ n2_ n3_ n4_ n5_ n6_; clear ho hb hg hat))
                   go_roundg k3
                   case measure => have := HJ2.out; have := HK2.out; have := HK3.out; omega
                   case rel => exact ⟨(y973), (wrap64 (x12_3 + 1)), (x963003_3), (u963003), Hof.F, H', ⟨by have := HJ2.out; have := HK2.out; have := HK3.out; omega⟩, ⟨by (with_reducible repeat (first | apply Kd.R_alloc | apply Kd.R_drewN | apply Kd.R_drew)); exact HO975.out⟩, ⟨by (with_reducible repeat (first | apply Kd.R_alloc | apply Kd.R_drewN | apply Kd.R_drew)); exact Kd.R_mono HO_49.out (fun _ hk => (by first | exact ⟨hk.2, hk.1⟩ | (simp_all; done)))⟩, ⟨by (with_reducible repeat (first | apply Kd.R_alloc | apply Kd.R_drewN | apply Kd.R_drew)); exact Kd.R_mono HO_963003.out (fun _ hk => (by first | exact ⟨hk.2, hk.1⟩ | (simp_all; done)))⟩, ⟨Hof.B⟩, ⟨Hof.B⟩, ⟨Hof.B⟩, ⟨Hof.L⟩⟩
                  ·rw [if_neg c74] at H
                   exact absurd H (by simp)
                 ·replace c73 := Bool.eq_false_iff.mpr c73
                  subst c73
                  replace H : (impl_FindMatrix.l1 k3 (rd l0_1 0) x9_3 x51_2 (rd t956 x51_2) (wrap64 (x12_3 + 1)) t956 (t956.length : Int) x51_2 a0_0 l0_1 a1 (t956.length : Int) a0_0 x963003_3) = some (r1, r2, r3, r4, r5) := by rw [if_neg (show ¬ (false = true) by decide)] at H; exact H
                  have H' := Aside0.mk H
                  clear H
                  have hnb81 := NB952_953.out
                  have hnc81 := NB953_952.out
                  have hnb82 := NB952_962.out
                  have hnc82 := NB962_952.out
                  obtain ⟨hcz83_0, hcz83_1, hfz83_0, hfz83_1⟩ := Hof.blk2 BK952.out
                  go_wp2_with (first | ((with_reducible refine gate_callee (f := 82) rfl ?_); refine Hof.gl (some 78) Try.func82 #[.int .i64 (rd l0_1 0), .int .i64 x12_3] ?_; (with_reducible refine (impl_HasElement.calls (rd l0_1 0) x12_3 false _ A66.out).mono ?_); rintro e w' ⟨rfl, ⟨nd, rfl⟩⟩; refine ⟨_, rfl, ?_⟩) | (go_at_call 83; (with_reducible refine (impl_circuit.calls k3 a0_0 _ _ l0_1 (rd l0_1 0) x12_3 t971 _ ?side1 ?side2 A71.out).mono ?_); (case side1 => exact Hof.Cw (Kd.C_below HR0_1.out Hof.L)); (case side2 => exact HC0_1.out); rintro e w84 ⟨rfl, hb⟩; replace HO_9 := Hof.rb HO_9 hb; replace HO_49 := Hof.rb HO_49 hb; replace HO_963003 := Hof.rb HO_963003 hb; replace BK952 := Hof.bb BK952 hb; replace BK953 := Hof.bb BK953 hb; replace BK962 := Hof.bb BK962 hb; replace HB := Aside0.mk (below_step Hof.L hb); (try clear hb); (try clear hb2); (try clear hk); (try clear hi)) | (go_at_call 82; (with_reducible refine (impl_HasElement.calls t971 (rd t956 x51_2) false _ A72.out).mono ?_); rintro e w' ⟨rfl, ⟨nd, rfl⟩⟩))
                  go_roundg k3
                  case measure => have := HJ2.out; have := HK2.out; have := HK3.out; omega
                  case rel => exact ⟨(x9_3), (wrap64 (x12_3 + 1)), (x963003_3), (u963003), Hof.F, H', ⟨by have := HJ2.out; have := HK2.out; have := HK3.out; omega⟩, ⟨by (with_reducible repeat (first | apply Kd.R_alloc | apply Kd.R_drewN | apply Kd.R_drew)); exact HO_9.out⟩, ⟨by (with_reducible repeat (first | apply Kd.R_alloc | apply Kd.R_drewN | apply Kd.R_drew)); exact HO_49.out⟩, ⟨by (with_reducible repeat (first | apply Kd.R_alloc | apply Kd.R_drewN | apply Kd.R_drew)); exact HO_963003.out⟩, ⟨Hof.B⟩, ⟨Hof.B⟩, ⟨Hof.B⟩, ⟨Hof.L⟩⟩
              ·rw [if_neg c53] at H
               have c53b0 : decide (x12_3 < a0_0) = false := decide_eq_false c53
               clear c53
               have H' := Aside0.mk H
               clear H
               have hnb85 := NB952_953.out
               have hnc85 := NB953_952.out
               have hnb86 := NB952_962.out
               have hnc86 := NB962_952.out
               obtain ⟨hcz87_0, hcz87_1, hfz87_0, hfz87_1⟩ := Hof.blk2 BK952.out
               go_wp2
               (try simp only [← hl49_2, ← hl49_3])
               go_roundg k3
               case measure => have := HJ2.out; have := HK2.out; have := HK3.out; omega
               case rel => exact ⟨(x9_3), (wrap64 (x51_2 + 1)), (x963003_3), (u963003), Hof.F, H', ⟨by have := HJ2.out; have := HK2.out; have := HK3.out; omega⟩, ⟨by (with_reducible repeat (first | apply Kd.R_alloc | apply Kd.R_drewN | apply Kd.R_drew)); exact HO_9.out⟩, ⟨by (with_reducible repeat (first | apply Kd.R_alloc | apply Kd.R_drewN | apply Kd.R_drew)); exact HO_49.out⟩, ⟨by (with_reducible repeat (first | apply Kd.R_alloc | apply Kd.R_drewN | apply Kd.R_drew)); exact HO_963003.out⟩, ⟨Hof.B⟩, ⟨Hof.B⟩, ⟨Hof.B⟩, ⟨Hof.L⟩⟩
           ·rw [if_neg c52] at H
            exact absurd H (by simp)
          ·rw [if_neg c51] at H
           exact absurd H (by simp)
         ·rw [if_neg c50] at H
          have c50b0 : decide (x51_2 < (t956.length : Int)) = false := decide_eq_false c50
          clear c50
          obtain ⟨⟨t966, t967⟩, A88, H⟩ := Hof.be H
          (try dsimp only at H)
          by_cases c89 : t966 = true
          ·subst c89
           replace H : (some (a1, (t956.length : Int), a0_0, t967, true)) = some (r1, r2, r3, r4, r5) := by rw [if_pos rfl] at H; exact H
           simp only [Option.some.injEq, Prod.mk.injEq] at H
           obtain ⟨rfl, rfl, rfl, rfl, rfl⟩ := H
           have hnb90 := NB952_953.out
           have hnc90 := NB953_952.out
           have hnb91 := NB952_962.out
           have hnc91 := NB962_952.out
           obtain ⟨hcz92_0, hcz92_1, hfz92_0, hfz92_1⟩ := Hof.blk2 BK952.out
           have hnb93 := NB962_953.out
           have hnc93 := NB953_962.out
           obtain ⟨hcz94_0, hcz94_1, hcz94_2, hcz94_3, hfz94_0, hfz94_1, hfz94_2, hfz94_3⟩ := Hof.blk4 BK962.out
           obtain ⟨Ao95, co95, eo95⟩ := Kd.R_slice HO_963003.out
           subst eo95
           obtain ⟨Ao96, co96, eo96⟩ := Kd.R_slice HO_9.out
           subst eo96
           go_wp2_with (first | ((with_reducible refine gate_callee (f := 84) rfl ?_); refine Hof.gl (some 101) Try.func84 #[.agg #[.int .i64 a0_0, .slice (some ad955) l0_1.length c0_1], .agg #[.int .i64 a1, .int .i64 (t956.length : Int), .int .i64 a0_0, .slice Ao95 x963003_2.length co95], .slice Ao96 x9_2.length co96] ?_; (with_reducible refine (impl_fillCells.calls k2 a0_0 _ _ l0_1 a1 (t956.length : Int) a0_0 (fun k_ => some k_ = (.slice Ao95 x963003_2.length co95 : Value).ownBlock) (.slice Ao95 x963003_2.length co95) x963003_2 _ _ x9_2 true t967 w _ ?side1 ?side2 ?side3 ?side4 ?side5 ?side6 A88.out).mono ?_); (case side1 => repeat (first | (with_reducible first | exact HB.out | apply below_alloc | apply pw_below_drewN | apply below_drew1 | refine below_set ?_ GE952.out | refine below_set ?_ GE953.out | refine below_set ?_ GE962.out) | exact HB.out)); (case side2 => exact Kd.C_kept_came (Kd.heap_int .i64) HR0_1.out Hof.L (fun k_ hs_ => (fun e_ => Kd.R_base HO_963003.out k_ e_.symm) hs_)); (case side3 => exact HC0_1.out); (case side4 => exact Kd.R_tight rfl HO_963003.out); (case side5 => exact Kd.C_kept_own (HO_9.out) (fun k_ hk_ hs_ => (by first | exact (hk_.2) hs_ | (simp_all; done)))); (case side6 => exact (Kd.R_reads' HO_9.out).2.1); rintro e w97 ⟨rfl, hy0, hb, hkp⟩; refine ⟨_, rfl, ?_⟩; replace HO_9 := Aside0.mk (Kd.R_mono (ok' := fun k_ => some k_ ≠ (.slice Ao37 t956.length co37 : Value).ownBlock ∧ some k_ ≠ (.slice Ao95 x963003_2.length co95 : Value).ownBlock) (Kd.R_keptB (HO_9.out) hkp (fun k_ hk_ hs_ => (by first | exact (hk_.2) hs_ | (simp_all; done)))) (fun k_ hk_ => (by first | exact ⟨hk_.1.1, hk_.1.2⟩ | (simp_all; done)))); replace HO_49 := Aside0.mk (Kd.R_mono (ok' := fun k_ => some k_ ≠ (.slice Ao96 x9_2.length co96 : Value).ownBlock ∧ some k_ ≠ (.slice Ao95 x963003_2.length co95 : Value).ownBlock) (Kd.R_keptB (HO_49.out) hkp (fun k_ hk_ hs_ => (by first | exact (hk_.2) hs_ | (simp_all; done)))) (fun k_ hk_ => (by first | exact ⟨hk_.1.1, hk_.1.2⟩ | (simp_all; done)))); replace BK952 := Aside0.mk (blk_kept (Hof.Bw BK952.out) hkp (fun hs_ => (fun e_ => (Kd.R_ne HO_963003.out BK952.out (by decide)) e_) hs_)); replace BK953 := Aside0.mk (blk_kept (Hof.Bw BK953.out) hkp (fun hs_ => (fun e_ => (Kd.R_ne HO_963003.out BK953.out (by decide)) e_) hs_)); replace BK962 := Aside0.mk (blk_kept (Hof.Bw BK962.out) hkp (fun hs_ => (fun e_ => (Kd.R_ne HO_963003.out BK962.out (by decide)) e_) hs_)); replace HO_963003 := Aside0.mk (Kd.R_reok rfl hy0 (fun k_ e_ => HO_963003.out.1 k_ e_)); replace HB := Aside0.mk hb; (try clear hb); (try clear hkp); (try clear hy0); obtain ⟨hcz98_0, hcz98_1, hcz98_2, hcz98_3, hfz98_0, hfz98_1, hfz98_2, hfz98_3⟩ := Hof.blk4 BK962.out; obtain ⟨hcz99_0, hcz99_1, hcz99_2, hcz99_3, hfz99_0, hfz99_1, hfz99_2, hfz99_3⟩ := Hof.blk4 BK953.out))
           refine bodyPost_ret (results_ct rfl _ _ gb953 49 #[.int .i64 a1, .int .i64 (t956.length : Int), .int .i64 a0_0, .slice Ao95 x963003_2.length co95] (0, 0) _ rfl Hof.B Try.underlying49 rfl (by kernel_rfl)) rfl ?_
           exact ⟨_, by first | rfl | (simp [errW_none, errW_some] <;> rfl) | (simp only [← hji30]; first | rfl | (simp [errW_none, errW_some] <;> rfl)) | (simp [*, errW_none, errW_some] <;> rfl), by (with_reducible repeat (first | apply Kd.R_alloc | apply Kd.R_drewN | apply Kd.R_drew)); exact Kd.R_mono (Kd.R_far (p := ⟨gb953, 3, none⟩) (Kd.R_far (p := ⟨gb953, 2, none⟩) (Kd.R_far (p := ⟨gb953, 1, none⟩) (Kd.R_far (p := ⟨gb953, 0, none⟩) (Kd.R_types HO_963003.out BK953.out (by decide)) (fun _ hk => hk.2) (.int .i64 a1)) (fun _ hk => hk.2) (.int .i64 (t956.length : Int))) (fun _ hk => hk.2) (.int .i64 a0_0)) (fun _ hk => hk.2) (.slice Ao95 x963003_2.length co95)) (fun _ hk => trivial), Hof.L⟩
          ·replace c89 := Bool.eq_false_iff.mpr c89
           subst c89
           replace H : (some (0, 0, 0, ([] : List Int), false)) = some (r1, r2, r3, r4, r5) := by rw [if_neg (show ¬ (false = true) by decide)] at H; exact H
           simp only [Option.some.injEq, Prod.mk.injEq] at H
           obtain ⟨rfl, rfl, rfl, rfl, rfl⟩ := H
           have hnb100 := NB952_953.out
           have hnc100 := NB953_952.out
           have hnb101 := NB952_962.out
           have hnc101 := NB962_952.out
           obtain ⟨hcz102_0, hcz102_1, hfz102_0, hfz102_1⟩ := Hof.blk2 BK952.out
           have hnb103 := NB962_953.out
           have hnc103 := NB953_962.out
           obtain ⟨hcz104_0, hcz104_1, hcz104_2, hcz104_3, hfz104_0, hfz104_1, hfz104_2, hfz104_3⟩ := Hof.blk4 BK962.out
           obtain ⟨Ao105, co105, eo105⟩ := Kd.R_slice HO_963003.out
           subst eo105
           obtain ⟨Ao106, co106, eo106⟩ := Kd.R_slice HO_9.out
           subst eo106
           go_wp2_with (first | ((with_reducible refine gate_callee (f := 84) rfl ?_); refine Hof.gl (some 101) Try.func84 #[.agg #[.int .i64 a0_0, .slice (some ad955) l0_1.length c0_1], .agg #[.int .i64 a1, .int .i64 (t956.length : Int), .int .i64 a0_0, .slice Ao105 x963003_2.length co105], .slice Ao106 x9_2.length co106] ?_; (with_reducible refine (impl_fillCells.calls k2 a0_0 _ _ l0_1 a1 (t956.length : Int) a0_0 (fun k_ => some k_ = (.slice Ao105 x963003_2.length co105 : Value).ownBlock) (.slice Ao105 x963003_2.length co105) x963003_2 _ _ x9_2 false t967 w _ ?side1 ?side2 ?side3 ?side4 ?side5 ?side6 A88.out).mono ?_); (case side1 => repeat (first | (with_reducible first | exact HB.out | apply below_alloc | apply pw_below_drewN | apply below_drew1 | refine below_set ?_ GE952.out | refine below_set ?_ GE953.out | refine below_set ?_ GE962.out) | exact HB.out)); (case side2 => exact Kd.C_kept_came (Kd.heap_int .i64) HR0_1.out Hof.L (fun k_ hs_ => (fun e_ => Kd.R_base HO_963003.out k_ e_.symm) hs_)); (case side3 => exact HC0_1.out); (case side4 => exact Kd.R_tight rfl HO_963003.out); (case side5 => exact Kd.C_kept_own (HO_9.out) (fun k_ hk_ hs_ => (by first | exact (hk_.2) hs_ | (simp_all; done)))); (case side6 => exact (Kd.R_reads' HO_9.out).2.1); rintro e w107 ⟨rfl, hy0, hb, hkp⟩; refine ⟨_, rfl, ?_⟩; replace HO_9 := Aside0.mk (Kd.R_mono (ok' := fun k_ => some k_ ≠ (.slice Ao37 t956.length co37 : Value).ownBlock ∧ some k_ ≠ (.slice Ao105 x963003_2.length co105 : Value).ownBlock) (Kd.R_keptB (HO_9.out) hkp (fun k_ hk_ hs_ => (by first | exact (hk_.2) hs_ | (simp_all; done)))) (fun k_ hk_ => (by first | exact ⟨hk_.1.1, hk_.1.2⟩ | (simp_all; done)))); replace HO_49 := Aside0.mk (Kd.R_mono (ok' := fun k_ => some k_ ≠ (.slice Ao106 x9_2.length co106 : Value).ownBlock ∧ some k_ ≠ (.slice Ao105 x963003_2.length co105 : Value).ownBlock) (Kd.R_keptB (HO_49.out) hkp (fun k_ hk_ hs_ => (by first | exact (hk_.2) hs_ | (simp_all; done)))) (fun k_ hk_ => (by first | exact ⟨hk_.1.1, hk_.1.2⟩ | (simp_all; done)))); replace BK952 := Aside0.mk (blk_kept (Hof.Bw BK952.out) hkp (fun hs_ => (fun e_ => (Kd.R_ne HO_963003.out BK952.out (by decide)) e_) hs_)); replace BK953 := Aside0.mk (blk_kept (Hof.Bw BK953.out) hkp (fun hs_ => (fun e_ => (Kd.R_ne HO_963003.out BK953.out (by decide)) e_) hs_)); replace BK962 := Aside0.mk (blk_kept (Hof.Bw BK962.out) hkp (fun hs_ => (fun e_ => (Kd.R_ne HO_963003.out BK962.out (by decide)) e_) hs_)); replace HO_963003 := Aside0.mk (Kd.R_reok rfl hy0 (fun k_ e_ => HO_963003.out.1 k_ e_)); replace HB := Aside0.mk hb; (try clear hb); (try clear hkp); (try clear hy0); obtain ⟨hcz108_0, hcz108_1, hcz108_2, hcz108_3, hfz108_0, hfz108_1, hfz108_2, hfz108_3⟩ := Hof.blk4 BK953.out))
           refine bodyPost_ret (results_ct rfl _ _ gb953 49 #[.int .i64 0, .int .i64 0, .int .i64 0, .slice none 0 0] (0, 0) _ rfl Hof.B Try.underlying49 rfl (by kernel_rfl)) rfl ?_
           exact ⟨_, by first | rfl | (simp [errW_none, errW_some] <;> rfl) | (simp only [← hji30]; first | rfl | (simp [errW_none, errW_some] <;> rfl)) | (simp [*, errW_none, errW_some] <;> rfl), Hof.N, Hof.L⟩
      ·rw [if_neg c32] at H
       exact absurd H (by simp)
     ·rw [if_neg c31] at H
      exact absurd H (by simp)
    ·rw [if_neg c28] at H
     exact absurd H (by simp)
def impl_IsBinary.f (k : Nat) (a0_0 : Int) (l0_1 : List Int) : Option (Bool) := (impl_FindMatrix.f k a0_0 l0_1 2).bind fun bt977 => (some bt977.2.2.2.2)
set_option maxHeartbeats 8000000 in
set_option maxRecDepth 100000 in
theorem impl_IsBinary.calls (k : Nat) (a0_0 : Int) (A0_1 : Option Addr) (c0_1 : Nat) (l0_1 : List Int) (r : Bool) (w : World) (hr0_1 : Kd.C (Kd.int .i64) w A0_1 l0_1.length l0_1) (hc0_1 : l0_1.length ≤ c0_1) (h : impl_IsBinary.f k a0_0 l0_1 = some r) :
  Calls Try.prog 33 #[.agg #[.int .i64 a0_0, .slice A0_1 l0_1.length c0_1]] w fun e w' => e = .returned (.bool r) ∧ Below w.heap.size w w' := by
 have hu35 := Try.underlying35
 have hu49 := Try.underlying49
 have HR0_1 := Aside0.mk hr0_1
 have HC0_1 := Aside0.mk hc0_1
 clear hr0_1 hc0_1
 have HB := Aside0.mk (Below.refl w.heap.size w)
 unfold impl_IsBinary.f at h
 have H := h
 clear h
 obtain ⟨⟨t977, t978, t979, t980, t983⟩, A2, H⟩ := Hof.be H
 (try dsimp only at H)
 obtain rfl := Option.some.inj H
 go_enter Try.func33, Try.ntmps33
 go_wp2_with (first | (refine Hof.bx 1 #[.int .i64 a0_0, .slice A0_1 l0_1.length c0_1] 35 ?_; intro gb976 hg w3 hbox hb; have BK976 := Aside0.mk hbox; have GW976 := Hof.gw hg HB; have GE976 := Hof.gw hg HB; replace HB := Hof.lb HB hb; clear hb hbox hg; obtain ⟨hcz4_0, hcz4_1, hfz4_0, hfz4_1⟩ := Hof.blk2 BK976.out) | (refine Hof.gl (some 7) Try.func39 #[.agg #[.int .i64 a0_0, .slice A0_1 l0_1.length c0_1], .int .i64 2] ?_; (with_reducible refine (impl_FindMatrix.calls k a0_0 _ _ l0_1 2 t977 t978 t979 t980 t983 _ ?side1 ?side2 A2.out).mono ?_); (case side1 => exact Hof.Cw (Kd.C_below HR0_1.out HB.out)); (case side2 => exact HC0_1.out); rintro e w5 ⟨v981, rfl, ho0, hb⟩; refine ⟨_, rfl, ?_⟩; have HO982 := Aside0.mk (Kd.R_lower ho0 (below_size (Hof.Lw HB.out))); replace BK976 := Hof.bb BK976 hb; replace HB := Hof.lb HB hb; (try clear hb); (try clear hb2); (try clear hk); (try clear hi); (try clear ho0)) | (refine Hof.bx 3 #[.int .i64 0, .int .i64 0, .int .i64 0, .slice none 0 0] 49 ?_; intro gb984 hg w6 hbox hb; replace HO982 := Hof.rb HO982 hb; have BK984 := Aside0.mk hbox; have GW984 := Hof.gw hg HB; have GE984 := Hof.gw hg HB; replace HB := Hof.lb HB hb; have NB976_984 := Hof.nl hg BK976; have NB984_976 := Hof.ng hg BK976; replace BK976 := Hof.bb BK976 hb; clear hb hbox hg; have hnb7 := NB984_976.out; have hnc7 := NB976_984.out; obtain ⟨hcz8_0, hcz8_1, hcz8_2, hcz8_3, hfz8_0, hfz8_1, hfz8_2, hfz8_3⟩ := Hof.blk4 BK984.out; obtain ⟨Ao9, co9, eo9⟩ := Kd.R_slice HO982.out; subst eo9))
 go_ret
 exact ⟨Hof.E, Hof.L⟩
def impl_IsTernary.f (k : Nat) (a0_0 : Int) (l0_1 : List Int) : Option (Bool) := (impl_FindMatrix.f k a0_0 l0_1 3).bind fun bt1013 => (some bt1013.2.2.2.2)
set_option maxHeartbeats 8000000 in
set_option maxRecDepth 100000 in
theorem impl_IsTernary.calls (k : Nat) (a0_0 : Int) (A0_1 : Option Addr) (c0_1 : Nat) (l0_1 : List Int) (r : Bool) (w : World) (hr0_1 : Kd.C (Kd.int .i64) w A0_1 l0_1.length l0_1) (hc0_1 : l0_1.length ≤ c0_1) (h : impl_IsTernary.f k a0_0 l0_1 = some r) :
  Calls Try.prog 35 #[.agg #[.int .i64 a0_0, .slice A0_1 l0_1.length c0_1]] w fun e w' => e = .returned (.bool r) ∧ Below w.heap.size w w' := by
 have hu35 := Try.underlying35
 have hu49 := Try.underlying49
 have HR0_1 := Aside0.mk hr0_1
 have HC0_1 := Aside0.mk hc0_1
 clear hr0_1 hc0_1
 have HB := Aside0.mk (Below.refl w.heap.size w)
 unfold impl_IsTernary.f at h
 have H := h
 clear h
 obtain ⟨⟨t1013, t1014, t1015, t1016, t1019⟩, A2, H⟩ := Hof.be H
 (try dsimp only at H)
 obtain rfl := Option.some.inj H
 go_enter Try.func35, Try.ntmps35
 go_wp2_with (first | (refine Hof.bx 1 #[.int .i64 a0_0, .slice A0_1 l0_1.length c0_1] 35 ?_; intro gb1012 hg w3 hbox hb; have BK1012 := Aside0.mk hbox; have GW1012 := Hof.gw hg HB; have GE1012 := Hof.gw hg HB; replace HB := Hof.lb HB hb; clear hb hbox hg; obtain ⟨hcz4_0, hcz4_1, hfz4_0, hfz4_1⟩ := Hof.blk2 BK1012.out) | (refine Hof.gl (some 7) Try.func39 #[.agg #[.int .i64 a0_0, .slice A0_1 l0_1.length c0_1], .int .i64 3] ?_; (with_reducible refine (impl_FindMatrix.calls k a0_0 _ _ l0_1 3 t1013 t1014 t1015 t1016 t1019 _ ?side1 ?side2 A2.out).mono ?_); (case side1 => exact Hof.Cw (Kd.C_below HR0_1.out HB.out)); (case side2 => exact HC0_1.out); rintro e w5 ⟨v1017, rfl, ho0, hb⟩; refine ⟨_, rfl, ?_⟩; have HO1018 := Aside0.mk (Kd.R_lower ho0 (below_size (Hof.Lw HB.out))); replace BK1012 := Hof.bb BK1012 hb; replace HB := Hof.lb HB hb; (try clear hb); (try clear hb2); (try clear hk); (try clear hi); (try clear ho0)) | (refine Hof.bx 3 #[.int .i64 0, .int .i64 0, .int .i64 0, .slice none 0 0] 49 ?_; intro gb1020 hg w6 hbox hb; replace HO1018 := Hof.rb HO1018 hb; have BK1020 := Aside0.mk hbox; have GW1020 := Hof.gw hg HB; have GE1020 := Hof.gw hg HB; replace HB := Hof.lb HB hb; have NB1012_1020 := Hof.nl hg BK1012; have NB1020_1012 := Hof.ng hg BK1012; replace BK1012 := Hof.bb BK1012 hb; clear hb hbox hg; have hnb7 := NB1020_1012.out; have hnc7 := NB1012_1020.out; obtain ⟨hcz8_0, hcz8_1, hcz8_2, hcz8_3, hfz8_0, hfz8_1, hfz8_2, hfz8_3⟩ := Hof.blk4 BK1020.out; obtain ⟨Ao9, co9, eo9⟩ := Kd.R_slice HO1018.out; subst eo9))
 go_ret
 exact ⟨Hof.E, Hof.L⟩
def impl_IsRegular.f (k : Nat) (a0_0 : Int) (l0_1 : List Int) : Option (Bool) := (impl_IsBinary.f k a0_0 l0_1).bind fun t1043 => (if t1043 = true then ((impl_IsTernary.f k a0_0 l0_1).bind fun t1044 => (some t1044)) else (some false))
set_option maxHeartbeats 8000000 in
set_option maxRecDepth 100000 in
theorem impl_IsRegular.calls (k : Nat) (a0_0 : Int) (A0_1 : Option Addr) (c0_1 : Nat) (l0_1 : List Int) (r : Bool) (w : World) (hr0_1 : Kd.C (Kd.int .i64) w A0_1 l0_1.length l0_1) (hc0_1 : l0_1.length ≤ c0_1) (h : impl_IsRegular.f k a0_0 l0_1 = some r) :
  Calls Try.prog 37 #[.agg #[.int .i64 a0_0, .slice A0_1 l0_1.length c0_1]] w fun e w' => e = .returned (.bool r) ∧ Below w.heap.size w w' := by
 have hu35 := Try.underlying35
 have HR0_1 := Aside0.mk hr0_1
 have HC0_1 := Aside0.mk hc0_1
 clear hr0_1 hc0_1
 have HB := Aside0.mk (Below.refl w.heap.size w)
 unfold impl_IsRegular.f at h
 have H := h
 clear h
 obtain ⟨t1043, A2, H⟩ := Hof.be H
 (try dsimp only at H)
 by_cases c3 : t1043 = true
 ·subst c3
  replace H : ((impl_IsTernary.f k a0_0 l0_1).bind fun t1044 => (some t1044)) = some r := by rw [if_pos rfl] at H; exact H
  obtain ⟨t1044, A4, H⟩ := Hof.be H
  (try dsimp only at H)
  obtain rfl := Option.some.inj H
  go_enter Try.func37, Try.ntmps37
  go_wp2_with (first | ((with_reducible refine gate_dst (N := 1) rfl ?_); refine Hof.bx 1 #[.int .i64 a0_0, .slice A0_1 l0_1.length c0_1] 35 ?_; intro gb1042 hg w5 hbox hb; have BK1042 := Aside0.mk hbox; have GW1042 := Hof.gw hg HB; have GE1042 := Hof.gw hg HB; replace HB := Hof.lb HB hb; clear hb hbox hg; obtain ⟨hcz6_0, hcz6_1, hfz6_0, hfz6_1⟩ := Hof.blk2 BK1042.out) | ((with_reducible refine gate_callee (f := 33) rfl ?_); refine Hof.gl (some 4) Try.func33 #[.agg #[.int .i64 a0_0, .slice A0_1 l0_1.length c0_1]] ?_; (with_reducible refine (impl_IsBinary.calls k a0_0 _ _ l0_1 true _ ?side1 ?side2 A2.out).mono ?_); (case side1 => exact Hof.Cw (Kd.C_below HR0_1.out HB.out)); (case side2 => exact HC0_1.out); rintro e w7 ⟨rfl, hb⟩; refine ⟨_, rfl, ?_⟩; replace BK1042 := Hof.bb BK1042 hb; replace HB := Hof.lb HB hb; (try clear hb); (try clear hb2); (try clear hk); (try clear hi); obtain ⟨hcz8_0, hcz8_1, hfz8_0, hfz8_1⟩ := Hof.blk2 BK1042.out) | (go_at_call 35; (with_reducible refine (impl_IsTernary.calls k a0_0 _ _ l0_1 t1044 _ ?side1 ?side2 A4.out).mono ?_); (case side1 => exact Hof.Cw (Kd.C_below HR0_1.out HB.out)); (case side2 => exact HC0_1.out); rintro e w9 ⟨rfl, hb⟩; replace BK1042 := Hof.bb BK1042 hb; replace HB := Hof.lb HB hb; (try clear hb); (try clear hb2); (try clear hk); (try clear hi)))
  go_ret
  exact ⟨Hof.E, Hof.L⟩
 ·replace c3 := Bool.eq_false_iff.mpr c3
  subst c3
  replace H : (some false) = some r := by rw [if_neg (show ¬ (false = true) by decide)] at H; exact H
  obtain rfl := Option.some.inj H
  go_enter Try.func37, Try.ntmps37
  go_wp2_with (first | ((with_reducible refine gate_dst (N := 1) rfl ?_); refine Hof.bx 1 #[.int .i64 a0_0, .slice A0_1 l0_1.length c0_1] 35 ?_; intro gb1042 hg w10 hbox hb; have BK1042 := Aside0.mk hbox; have GW1042 := Hof.gw hg HB; have GE1042 := Hof.gw hg HB; replace HB := Hof.lb HB hb; clear hb hbox hg; obtain ⟨hcz11_0, hcz11_1, hfz11_0, hfz11_1⟩ := Hof.blk2 BK1042.out) | ((with_reducible refine gate_callee (f := 33) rfl ?_); refine Hof.gl (some 4) Try.func33 #[.agg #[.int .i64 a0_0, .slice A0_1 l0_1.length c0_1]] ?_; (with_reducible refine (impl_IsBinary.calls k a0_0 _ _ l0_1 false _ ?side1 ?side2 A2.out).mono ?_); (case side1 => exact Hof.Cw (Kd.C_below HR0_1.out HB.out)); (case side2 => exact HC0_1.out); rintro e w12 ⟨rfl, hb⟩; refine ⟨_, rfl, ?_⟩; replace BK1042 := Hof.bb BK1042 hb; replace HB := Hof.lb HB hb; (try clear hb); (try clear hb2); (try clear hk); (try clear hi)))
  go_ret
  exact ⟨Hof.E, Hof.L⟩
def laws_FnExactIsRegular.f (k : Nat) (a0_0 : Int) (l0_1 : List Int) : Option (Bool) := (laws_szMatroid.f a0_0 l0_1 1048576).bind fun t1046 => (if t1046 < 0 then (some true) else ((laws_toMatroid.f k a0_0 l0_1).bind fun bt1047 => ((spec_IsRegular.f k bt1047.1 bt1047.2).bind fun t1051 => ((laws_toMatroid.f k a0_0 l0_1).bind fun bt1052 => ((impl_IsRegular.f k bt1052.1 bt1052.2).bind fun t1057 => (if (t1057 != t1051) = true then (some false) else ((laws_toMatroid.f k a0_0 l0_1).bind fun bt1058 => ((laws_eqMatroid.f k bt1052.1 bt1052.2 bt1058.1 bt1058.2).bind fun t1062 => (if t1062 = true then (some true) else (some false))))))))))
set_option maxHeartbeats 8000000 in
set_option maxRecDepth 100000 in
theorem laws_FnExactIsRegular.calls (k : Nat) (a0_0 : Int) (A0_1 : Option Addr) (c0_1 : Nat) (l0_1 : List Int) (r : Bool) (w : World) (hr0_1 : Kd.C (Kd.int .i64) w A0_1 l0_1.length l0_1) (hc0_1 : l0_1.length ≤ c0_1) (hT : Aside0 (r = true)) (h : laws_FnExactIsRegular.f k a0_0 l0_1 = some r) :
  Calls Try.prog 9 #[.agg #[.int .i64 a0_0, .slice A0_1 l0_1.length c0_1]] w fun e w' => e = .returned (.bool r) ∧ Below w.heap.size w w' := by
 have hu43 := Try.underlying43
 have hu35 := Try.underlying35
 have HR0_1 := Aside0.mk hr0_1
 have HC0_1 := Aside0.mk hc0_1
 clear hr0_1 hc0_1
 have HB := Aside0.mk (Below.refl w.heap.size w)
 unfold laws_FnExactIsRegular.f at h
 have H := h
 clear h
 obtain ⟨t1046, A2, H⟩ := Hof.be H
 (try dsimp only at H)
 by_cases c3 : t1046 < 0
 ·rw [if_pos c3] at H
  have c3b0 := decide_eq_true c3
  clear c3
  obtain rfl := Option.some.inj H
  go_enter Try.func9, Try.ntmps9
  go_wp2_with (first | (refine Hof.bx 1 #[.int .i64 a0_0, .slice A0_1 l0_1.length c0_1] 43 ?_; intro gb1045 hg w4 hbox hb; have BK1045 := Aside0.mk hbox; have GW1045 := Hof.gw hg HB; have GE1045 := Hof.gw hg HB; replace HB := Hof.lb HB hb; clear hb hbox hg; obtain ⟨hcz5_0, hcz5_1, hfz5_0, hfz5_1⟩ := Hof.blk2 BK1045.out) | (refine Hof.gl (some 9) Try.func30 #[.agg #[.int .i64 a0_0, .slice A0_1 l0_1.length c0_1], .int .i64 1048576] ?_; (with_reducible refine (laws_szMatroid.calls a0_0 _ _ l0_1 1048576 t1046 _ ?side1 ?side2 A2.out).mono ?_); (case side1 => exact Hof.Cw (Kd.C_below HR0_1.out HB.out)); (case side2 => exact HC0_1.out); rintro e w6 ⟨rfl, hb⟩; refine ⟨_, rfl, ?_⟩; replace BK1045 := Hof.bb BK1045 hb; replace HB := Aside0.mk (below_step Hof.L hb); (try clear hb); (try clear hb2); (try clear hk); (try clear hi)))
  go_ret
  exact ⟨Hof.E, Hof.L⟩
 ·rw [if_neg c3] at H
  have c3b0 : decide (t1046 < 0) = false := decide_eq_false c3
  clear c3
  obtain ⟨⟨t1047, t1048⟩, A7, H⟩ := Hof.be H
  (try dsimp only at H)
  obtain ⟨t1051, A8, H⟩ := Hof.be H
  (try dsimp only at H)
  obtain ⟨⟨t1052, t1053⟩, A9, H⟩ := Hof.be H
  (try dsimp only at H)
  obtain ⟨t1057, A10, H⟩ := Hof.be H
  (try dsimp only at H)
  by_cases c11 : (t1057 != t1051) = true
  ·rw [if_pos c11] at H
   have c11b0 : (t1057 != t1051) = true := c11
   (try (have c11b1 : decide (t1057 = t1051) = false := by simpa using c11))
   (try (have c11b2 : (t1057 == t1051) = false := by simpa using c11))
   (try (have c11b3 : ¬ (t1057 = t1051) := by simpa using c11))
   clear c11
   obtain rfl := Option.some.inj H
   exact absurd hT.out (by decide)
  ·rw [if_neg c11] at H
   have c11b0 : (t1057 != t1051) = false := by simpa using c11
   (try (have c11b1 : decide (t1057 = t1051) = true := by simpa using c11))
   (try (have c11b2 : (t1057 == t1051) = true := by simpa using c11))
   clear c11
   obtain ⟨⟨t1058, t1059⟩, A12, H⟩ := Hof.be H
   (try dsimp only at H)
   obtain ⟨t1062, A13, H⟩ := Hof.be H
   (try dsimp only at H)
   by_cases c14 : t1062 = true
   ·subst c14
    replace H : (some true) = some r := by rw [if_pos rfl] at H; exact H
    obtain rfl := Option.some.inj H
    go_enter Try.func9, Try.ntmps9
    try go_wp2_with (first | (refine Hof.bx 1 #[.int .i64 a0_0, .slice A0_1 l0_1.length c0_1] 43 ?_; intro gb1045 hg w15 hbox hb; have BK1045 := Aside0.mk hbox; have GW1045 := Hof.gw hg HB; have GE1045 := Hof.gw hg HB; replace HB := Hof.lb HB hb; clear hb hbox hg; obtain ⟨hcz16_0, hcz16_1, hfz16_0, hfz16_1⟩ := Hof.blk2 BK1045.out) | (refine Hof.gl (some 9) Try.func30 #[.agg #[.int .i64 a0_0, .slice A0_1 l0_1.length c0_1], .int .i64 1048576] ?_; (with_reducible refine (laws_szMatroid.calls a0_0 _ _ l0_1 1048576 t1046 _ ?side1 ?side2 A2.out).mono ?_); (case side1 => exact Hof.Cw (Kd.C_below HR0_1.out HB.out)); (case side2 => exact HC0_1.out); rintro e w17 ⟨rfl, hb⟩; refine ⟨_, rfl, ?_⟩; replace BK1045 := Hof.bb BK1045 hb; replace HB := Aside0.mk (below_step Hof.L hb); (try clear hb); (try clear hb2); (try clear hk); (try clear hi); obtain ⟨hcz18_0, hcz18_1, hfz18_0, hfz18_1⟩ := Hof.blk2 BK1045.out) | (refine Hof.gl (some 13) Try.func32 #[.agg #[.int .i64 a0_0, .slice A0_1 l0_1.length c0_1]] ?_; (with_reducible refine (laws_toMatroid.calls k a0_0 _ _ l0_1 t1047 t1048 _ ?side1 ?side2 A7.out).mono ?_); (case side1 => exact Hof.Cw (Kd.C_below HR0_1.out HB.out)); (case side2 => exact HC0_1.out); rintro e w19 ⟨v1049, rfl, ho0, hb⟩; refine ⟨_, rfl, ?_⟩; have HO1050 := Aside0.mk (Kd.R_lower ho0 (below_size Hof.L)); replace BK1045 := Hof.bb BK1045 hb; replace HB := Aside0.mk (below_step Hof.L hb); (try clear hb); (try clear hb2); (try clear hk); (try clear hi); (try clear ho0); obtain ⟨Ao20, co20, eo20⟩ := Kd.R_slice HO1050.out; subst eo20) | (refine Hof.gl (some 14) Try.func36 #[.agg #[.int .i64 t1047, .slice Ao20 t1048.length co20]] ?_; (with_reducible refine (spec_IsRegular.calls k t1047 _ _ t1048 t1051 _ ?side1 ?side2 A8.out).mono ?_); (case side1 => exact Hof.Cw ((Kd.R_reads' HO1050.out).2.2)); (case side2 => exact (Kd.R_reads' HO1050.out).2.1); rintro e w21 ⟨rfl, hb⟩; refine ⟨_, rfl, ?_⟩; replace HO1050 := Hof.rb HO1050 hb; replace BK1045 := Hof.bb BK1045 hb; replace HB := Aside0.mk (below_step Hof.L hb); (try clear hb); (try clear hb2); (try clear hk); (try clear hi); obtain ⟨hcz22_0, hcz22_1, hfz22_0, hfz22_1⟩ := Hof.blk2 BK1045.out) | (refine Hof.gl (some 16) Try.func32 #[.agg #[.int .i64 a0_0, .slice A0_1 l0_1.length c0_1]] ?_; (with_reducible refine (laws_toMatroid.calls k a0_0 _ _ l0_1 t1052 t1053 _ ?side1 ?side2 A9.out).mono ?_); (case side1 => exact Hof.Cw (Kd.C_below HR0_1.out HB.out)); (case side2 => exact HC0_1.out); rintro e w23 ⟨v1054, rfl, ho0, hb⟩; refine ⟨_, rfl, ?_⟩; have HO1055 := Aside0.mk (Kd.R_lower (Kd.R_new' ho0 (Kd.R_lt (Hof.Rw HO1050.out))) (below_size Hof.L)); replace HO1050 := Aside0.mk (Kd.R_elder' (Hof.Rw HO1050.out) (Kd.R_base ho0) hb); replace BK1045 := Hof.bb BK1045 hb; replace HB := Aside0.mk (below_step Hof.L hb); (try clear hb); (try clear hb2); (try clear hk); (try clear hi); (try clear ho0)) | (refine Hof.bx 5 #[.int .i64 0, .slice none 0 0] 35 ?_; intro gb1056 hg w24 hbox hb; replace HO1050 := Hof.rb HO1050 hb; replace HO1055 := Hof.rb HO1055 hb; have BK1056 := Aside0.mk hbox; have GW1056 := Hof.gL (w := w) hg Hof.L; have GE1056 := Hof.gL (w := w) hg Hof.L; replace HB := Aside0.mk (below_step Hof.L hb); have NB1045_1056 := Hof.nl hg BK1045; have NB1056_1045 := Hof.ng hg BK1045; replace BK1045 := Hof.bb BK1045 hb; clear hb hbox hg; have hnb25 := NB1056_1045.out; have hnc25 := NB1045_1056.out; obtain ⟨hcz26_0, hcz26_1, hfz26_0, hfz26_1⟩ := Hof.blk2 BK1056.out; obtain ⟨Ao27, co27, eo27⟩ := Kd.R_slice HO1055.out; subst eo27) | (refine Hof.gl (some 18) Try.func37 #[.agg #[.int .i64 t1052, .slice Ao27 t1053.length co27]] ?_; (with_reducible refine (impl_IsRegular.calls k t1052 _ _ t1053 t1057 _ ?side1 ?side2 A10.out).mono ?_); (case side1 => refine (Kd.R_reads' (e := 3) (base := w.heap.size) (ok := fun k_ => (True ∧ some k_ ≠ (.slice Ao20 t1048.length co20 : Value).ownBlock)) (n := t1053.length) (c := co27) ?_).2.2; exact (Hof.Rw ((Kd.R_mono (Kd.R_far (p := ⟨gb1056, 1, none⟩) (Kd.R_far (p := ⟨gb1056, 0, none⟩) (Kd.R_types HO1055.out BK1056.out (by decide)) (fun _ hk => hk.2) (.int .i64 t1052)) (fun _ hk => hk.2) (.slice Ao27 t1053.length co27)) (fun _ h_ => h_.1))))); (case side2 => exact (Kd.R_reads' HO1055.out).2.1); rintro e w28 ⟨rfl, hb⟩; refine ⟨_, rfl, ?_⟩; replace HO1050 := Aside0.mk (Kd.R_below (Hof.Rw ((Kd.R_mono (Kd.R_far (p := ⟨gb1056, 1, none⟩) (Kd.R_far (p := ⟨gb1056, 0, none⟩) (Kd.R_types HO1050.out BK1056.out (by decide)) (fun _ hk => hk.2) (.int .i64 t1052)) (fun _ hk => hk.2) (.slice Ao27 t1053.length co27)) (fun _ h_ => h_.1)))) hb); replace HO1055 := Aside0.mk (Kd.R_below (Hof.Rw ((Kd.R_mono (Kd.R_far (p := ⟨gb1056, 1, none⟩) (Kd.R_far (p := ⟨gb1056, 0, none⟩) (Kd.R_types HO1055.out BK1056.out (by decide)) (fun _ hk => hk.2) (.int .i64 t1052)) (fun _ hk => hk.2) (.slice Ao27 t1053.length co27)) (fun _ h_ => h_.1)))) hb); replace BK1045 := Aside0.mk (blk_below (g := gb1045) (o := .cells #[.int .i64 a0_0, .slice A0_1 l0_1.length c0_1] 43 (0, 0)) Hof.B hb); replace BK1056 := Aside0.mk (blk_below (g := gb1056) (o := .cells #[.int .i64 t1052, .slice Ao27 t1053.length co27] 35 (0, 0)) Hof.B hb); replace HB := Aside0.mk (below_step Hof.L hb); (try clear hb); (try clear hb2); (try clear hk); (try clear hi)))
    have n0_ := Aside0.mk (Kd.R_drew HO1050.out)
    have n1_ := Aside0.mk (Kd.R_drew HO1055.out)
    have n2_ := Aside0.mk (blk_drew BK1045.out)
    have n3_ := Aside0.mk (blk_drew BK1056.out)
    have n4_ := Aside0.mk (below_drew1 HB.out)
    clear HO1050
    clear HO1055
    clear BK1045
    clear BK1056
    clear HB
    have HO1050 := n0_
    have HO1055 := n1_
    have BK1045 := n2_
    have BK1056 := n3_
    have HB := n4_
    clear n0_ n1_ n2_ n3_ n4_
    refine start_ (n := 5) (S := fun w' => w'.cell? ⟨gb1056, 0, none⟩ = some (.int .i64 t1052) ∧ w'.cell? ⟨gb1056, 1, none⟩ = some (.slice Ao27 t1053.length co27) ∧ w'.cell? ⟨gb1045, 0, none⟩ = some (.int .i64 a0_0) ∧ w'.cell? ⟨gb1045, 1, none⟩ = some (.slice A0_1 l0_1.length c0_1)) (ds := []) #[false, false, false, false, false] (by kernel_rfl) rfl rfl ⟨(blk_cell BK1056.out 0).trans rfl, (blk_cell BK1056.out 1).trans rfl, (blk_cell BK1045.out 0).trans rfl, (blk_cell BK1045.out 1).trans rfl⟩ (fun hHeld => ?_)
    generalize w28.drew = w29 at HO1050 HO1055 BK1045 BK1056 HB hHeld ⊢
    refine take_ (i := 0) (N := some 22) (v := ?_) (a' := ?_) #[true, false, false, false, false] rfl rfl (by kernel_rfl) (fun _ _ _ h => h) (Or.inl ⟨by rfl, ?_⟩) hHeld ?_ ?_
    rotate_left
    ·rintro w' ⟨s0, s1, s2, s3⟩
     go_simp
     with_reducible rfl
    rotate_left
    ·simp only [Act.put, List.setIfInBounds_toArray, List.set_cons_zero, List.set_cons_succ, i64_w, i32_w]
     rfl
    refine take_ (i := 1) (N := some 23) (v := ?_) (a' := ?_) #[true, true, false, false, false] rfl rfl (by kernel_rfl) (fun _ _ _ h => h) (Or.inl ⟨by rfl, ?_⟩) hHeld ?_ ?_
    rotate_left
    ·rintro w' ⟨s0, s1, s2, s3⟩
     go_simp
     with_reducible rfl
    rotate_left
    ·simp only [Act.put, List.setIfInBounds_toArray, List.set_cons_zero, List.set_cons_succ, i64_w, i32_w]
     rfl
    refine one_ (i := 2) (N := some 24) #[true, true, true, false, false] rfl rfl (by kernel_rfl) (by decide) (fun K hK => ?_)
    refine goes_ Try.func32 (by kernel_rfl) rfl #[.agg #[.int .i64 a0_0, .slice A0_1 l0_1.length c0_1]] (by rfl) rfl rfl (by (try simp only [List.map_toArray, List.map_cons, List.map_nil]); first | done | rfl) ?_
    with_reducible refine (laws_toMatroid.calls k a0_0 _ _ l0_1 t1058 t1059 _ ?side1 ?side2 A12.out).mono ?_
    (case side1 => exact Hof.Cw (Kd.C_below HR0_1.out HB.out))
    (case side2 => exact HC0_1.out)
    rintro e w30 ⟨v1060, rfl, ho0, hb⟩
    refine ⟨_, rfl, ?_⟩
    have n0_ := Aside0.mk (Kd.R_elder' (Hof.Rw HO1050.out) (Kd.R_base ho0) hb)
    have n1_ := Aside0.mk (Kd.R_elder' (Hof.Rw HO1055.out) (Kd.R_base ho0) hb)
    have n2_ := Aside0.mk (Kd.R_lower (Kd.R_new' (Kd.R_new' ho0 (Kd.R_lt (Hof.Rw HO1050.out))) (Kd.R_lt (Hof.Rw HO1055.out))) (below_size Hof.L))
    have n3_ := Hof.bb BK1045 hb
    have n4_ := Hof.bb BK1056 hb
    have n5_ := Aside0.mk (below_step Hof.L hb)
    clear HO1050
    clear HO1055
    clear BK1045
    clear BK1056
    clear HB
    have HO1050 := n0_
    have HO1055 := n1_
    have HO1061 := n2_
    have BK1045 := n3_
    have BK1056 := n4_
    have HB := n5_
    clear n0_ n1_ n2_ n3_ n4_ n5_
    (try clear hb)
    (try clear hb2)
    (try clear hk)
    (try clear hi)
    (try clear ho0)
    obtain ⟨Ao31, co31, eo31⟩ := Kd.R_slice HO1061.out
    (first | subst eo31 | (injection eo31 with f1_ f2_ f3_; have f4_ := f1_.symm; have f5_ := f3_.symm; clear f1_ f2_ f3_; subst f4_; subst f5_))
    refine hK.out _ _ ⟨(blk_cell BK1056.out 0).trans rfl, (blk_cell BK1056.out 1).trans rfl, (blk_cell BK1045.out 0).trans rfl, (blk_cell BK1045.out 1).trans rfl⟩ (fun hHeld => ?_)
    clear hK K
    refine norm_ (a' := ?_) ?_ ?_
    rotate_left
    ·show Act.put _ (some 24) _ = _
     simp only [Act.put, List.setIfInBounds_toArray, List.set_cons_zero, List.set_cons_succ, i64_w, i32_w]
     rfl
    refine one_ (i := 3) (N := some 25) #[true, true, true, true, false] rfl rfl (by kernel_rfl) (by decide) (fun K hK => ?_)
    refine goes_ Try.func23 (by kernel_rfl) rfl #[.agg #[.int .i64 t1052, .slice Ao27 t1053.length co27], .agg #[.int .i64 t1058, .slice Ao31 t1059.length co31]] (by rfl) rfl rfl (by (try simp only [List.map_toArray, List.map_cons, List.map_nil]); first | done | rfl) ?_
    with_reducible refine (laws_eqMatroid.calls k t1052 _ _ t1053 t1058 _ _ t1059 true _ ?side1 ?side2 ?side3 ?side4 A13.out).mono ?_
    (case side1 => exact Hof.Cw ((Kd.R_reads' HO1055.out).2.2))
    (case side2 => exact (Kd.R_reads' HO1055.out).2.1)
    (case side3 => exact Hof.Cw ((Kd.R_reads' HO1061.out).2.2))
    (case side4 => exact (Kd.R_reads' HO1061.out).2.1)
    rintro e w32 ⟨rfl, hb⟩
    refine ⟨_, rfl, ?_⟩
    have n0_ := Hof.rb HO1050 hb
    have n1_ := Hof.rb HO1055 hb
    have n2_ := Hof.rb HO1061 hb
    have n3_ := Hof.bb BK1045 hb
    have n4_ := Hof.bb BK1056 hb
    have n5_ := Aside0.mk (below_step Hof.L hb)
    clear HO1050
    clear HO1055
    clear HO1061
    clear BK1045
    clear BK1056
    clear HB
    have HO1050 := n0_
    have HO1055 := n1_
    have HO1061 := n2_
    have BK1045 := n3_
    have BK1056 := n4_
    have HB := n5_
    clear n0_ n1_ n2_ n3_ n4_ n5_
    (try clear hb)
    (try clear hb2)
    (try clear hk)
    (try clear hi)
    refine hK.out _ _ ⟨(blk_cell BK1056.out 0).trans rfl, (blk_cell BK1056.out 1).trans rfl, (blk_cell BK1045.out 0).trans rfl, (blk_cell BK1045.out 1).trans rfl⟩ (fun hHeld => ?_)
    clear hK K
    refine norm_ (a' := ?_) ?_ ?_
    rotate_left
    ·show Act.put _ (some 25) _ = _
     simp only [Act.put, List.setIfInBounds_toArray, List.set_cons_zero, List.set_cons_succ, i64_w, i32_w]
     rfl
    refine pure_ (i := 4) (N := some 26) (v := ?_) (a' := ?_) #[true, true, true, true, true] rfl rfl (by kernel_rfl) (fun _ _ _ h => h) (Or.inl ⟨by rfl, ?_⟩) ?_ ?_
    rotate_left
    ·intro w'
     go_simp
     with_reducible rfl
    rotate_left
    ·simp only [Act.put, List.setIfInBounds_toArray, List.set_cons_zero, List.set_cons_succ, i64_w, i32_w]
     rfl
    refine done_ (by kernel_rfl) ?_
    try go_wp2
    go_ret
    exact ⟨Hof.E, Hof.L⟩
   ·replace c14 := Bool.eq_false_iff.mpr c14
    subst c14
    replace H : (some false) = some r := by rw [if_neg (show ¬ (false = true) by decide)] at H; exact H
    obtain rfl := Option.some.inj H
    exact absurd hT.out (by decide)
end Go.Proofs.Ytmpodackojmojaa.Pr
end
section
namespace Go.Proofs.Ytmpodackojmojaa.Gen
open Go.RowKit Go.Proofs.YtmpodackojmojaaW.PrintWords Go.Proofs.YtmpodackojmojaaW.PrintMore
theorem w64 {i : Int} (h0 : -9223372036854775808 ≤ i) (h1 : i ≤ 9223372036854775807) : wrap64 i = i := by
 unfold wrap64
 omega
theorem w64s (i : Nat) (h1 : i < 9223372036854775807) : wrap64 ((i : Int) + 1) = ((i + 1 : Nat) : Int) := by
 unfold wrap64
 omega
theorem rd_nat (xs : List Int) (i : Nat) : rd xs (i : Int) = xs.getD i 0 := rfl
theorem count_loop {σ γ : Type} (L : Nat → σ → Int → Option γ) (n : Nat) (step : Nat → σ → σ) (P : Nat → σ → Prop) (K : Nat)
  (hstep : ∀ k i s, K ≤ k → i < n → P i s → L (k + 1) s (i : Int) = L k (step i s) ((i + 1 : Nat) : Int) ∧ P (i + 1) (step i s)) :
  ∀ (d i : Nat) (s : σ) (k : Nat), i + d = n → K + d ≤ k → P i s → ∃ s', L k s (i : Int) = L (k - d) s' (n : Int) ∧ P n s' ∧ s' = (List.range' i d).foldl (fun s j => step j s) s := by
 intro d
 induction d with
 | zero =>
  intro i s k hi hk hP
  obtain rfl : i = n := by omega
  exact ⟨s, by simp, hP, by simp⟩
 | succ d ih =>
  intro i s k hi hk hP
  obtain ⟨k, rfl⟩ : ∃ m, k = m + 1 := ⟨k - 1, by omega⟩
  obtain ⟨h1, h2⟩ := hstep k i s (by omega) (by omega) hP
  obtain ⟨s', h3, h4, h5⟩ := ih (i + 1) (step i s) k (by omega) (by omega) h2
  refine ⟨s', ?_, h4, ?_⟩
  ·rw [h1, h3]
   congr 1
   omega
  ·rw [h5, List.range'_succ]
   rfl
theorem fill_loop {β γ : Type} (L : Nat → List β → Int → Option γ) (f : Nat → β) (K n : Nat)
  (hstep : ∀ k i ys, K ≤ k → i < n → ys.length = n → L (k + 1) ys (i : Int) = L k (ys.set i (f i)) ((i + 1 : Nat) : Int))
  (ys : List β) (hy : ys.length = n) (k : Nat) (hk : K + n ≤ k) : L k ys 0 = L (k - n) ((List.range n).map f) (n : Int) := by
 obtain ⟨s', h1, h2, _⟩ := count_loop L n (fun i s => s.set i (f i)) (fun i s => s.length = n ∧ ∀ j, j < i → s[j]? = some (f j)) K
  (fun k i s hK hi hP => ⟨hstep k i s hK hi hP.1, by simpa using hP.1, fun j hj => by
   rw [List.getElem?_set]
   by_cases e : i = j
   ·subst e
    rw [if_pos rfl, if_pos (by omega)]
   ·rw [if_neg e]
    exact hP.2 j (by omega)⟩) n 0 ys k (by omega) hk ⟨hy, fun j hj => by omega⟩
 refine h1.trans ?_
 congr 1
 apply List.ext_getElem?
 intro j
 by_cases hj : j < n
 ·rw [h2.2 j hj]
  simp [hj]
 ·rw [List.getElem?_eq_none (by omega), List.getElem?_eq_none (by simp; omega)]
theorem map_getD {α β : Type} (xs : List α) (d : α) (g : α → β) : (List.range xs.length).map (fun i => g (xs.getD i d)) = xs.map g := by
 apply List.ext_getElem?
 intro j
 by_cases hj : j < xs.length
 ·simp [hj, List.getD]
 ·simp [hj]
theorem map_getD' {α : Type} (xs : List α) (d : α) : (List.range xs.length).map (fun i => xs.getD i d) = xs := by
 have := map_getD xs d id
 simpa using this
theorem all_loop (L : Nat → Int → Option Bool) (n : Nat) (p : Nat → Bool) (K : Nat) (last : Bool)
  (hstep : ∀ k i, K ≤ k → i < n → L (k + 1) (i : Int) = if p i = true then L k ((i + 1 : Nat) : Int) else some false)
  (hend : ∀ k, K ≤ k → L (k + 1) (n : Int) = some last) :
  ∀ (d i k : Nat), i + d = n → K + d < k → L k (i : Int) = some ((List.range' i d).all p && last) := by
 intro d
 induction d with
 | zero =>
  intro i k hi hk
  obtain rfl : i = n := by omega
  obtain ⟨k, rfl⟩ : ∃ m, k = m + 1 := ⟨k - 1, by omega⟩
  simp [hend k (by omega)]
 | succ d ih =>
  intro i k hi hk
  obtain ⟨k, rfl⟩ : ∃ m, k = m + 1 := ⟨k - 1, by omega⟩
  rw [hstep k i (by omega) (by omega), List.range'_succ]
  by_cases h : p i = true
  ·rw [if_pos h, ih (i + 1) k (by omega) (by omega)]
   simp [h]
  ·rw [if_neg h]
   simp [h]
theorem ev_loop {σ γ : Type} (L : Nat → σ → Int → Option γ) (n : Nat) (step : Nat → σ → σ) (P : Nat → σ → Prop) (r : γ)
  (hround : ∀ i s, i < n → P i s → P (i + 1) (step i s) ∧ (Ev (fun k => L k (step i s) ((i + 1 : Nat) : Int)) r → Ev (fun k => L k s (i : Int)) r)) :
  ∀ (d i : Nat) (s : σ), i + d = n → P i s → (P n ((List.range' i d).foldl (fun s j => step j s) s) → Ev (fun k => L k ((List.range' i d).foldl (fun s j => step j s) s) (n : Int)) r) → Ev (fun k => L k s (i : Int)) r := by
 intro d
 induction d with
 | zero =>
  intro i s hi hP h
  obtain rfl : i = n := by omega
  exact h (by simpa using hP)
 | succ d ih =>
  intro i s hi hP h
  obtain ⟨h1, h2⟩ := hround i s (by omega) hP
  refine h2 (ih (i + 1) (step i s) (by omega) h1 ?_)
  rw [List.range'_succ] at h
  exact h
theorem ev_at {γ : Type} {g : Nat → Option γ} {r : γ} (K : Nat) (h : ∀ k, K ≤ k → g k = some r) : Ev g r := ⟨K, h⟩
theorem foldl_append (p : Nat → Bool) (l : List Nat) (acc : List Int) : l.foldl (fun s j => if p j = true then s ++ [(j : Int)] else s) acc = acc ++ (l.filter p).map (fun j : Nat => (j : Int)) := by
 induction l generalizing acc with
 | nil => simp
 | cons a l ih =>
  rw [List.foldl_cons, ih]
  by_cases h : p a = true
  ·simp [h]
  ·simp [h]
theorem foldl_id {σ : Type} (f : σ → Nat → σ) (l : List Nat) (s : σ) (h : ∀ j ∈ l, ∀ s, f s j = s) : l.foldl f s = s := by
 induction l generalizing s with
 | nil => rfl
 | cons a l ih =>
  rw [List.foldl_cons, h a (by simp), ih _ (fun j hj => h j (by simp [hj]))]
theorem foldl_more {σ : Type} (f : σ → Nat → σ) (m d : Nat) (s : σ) (h : ∀ j, m ≤ j → ∀ s, f s j = s) : (List.range' 0 (m + d)).foldl f s = (List.range' 0 m).foldl f s := by
 rw [← List.range'_append_1, List.foldl_append]
 refine foldl_id _ _ _ fun j hj => h j ?_
 have := List.mem_range'_1.1 hj
 omega
theorem all_yes (l : List Nat) : (l.all fun _ => true) = true := List.all_eq_true.2 (fun _ _ => rfl)
end Go.Proofs.Ytmpodackojmojaa.Gen
end
section
namespace Go.Proofs.Ytmpodackojmojaa.Base
open Go.RowKit Go.Proofs.Ytmpodackojmojaa.Pr Go.Proofs.YtmpodackojmojaaW.PrintWords Go.Proofs.YtmpodackojmojaaW.PrintLast Go.Proofs.YtmpodackojmojaaW.PrintMore
theorem toIntS (xs : List Int) (hn : xs.length ≤ 1048576) (k : Nat) (hk : xs.length < k) : laws_toIntS.f k xs = some xs := by
 unfold laws_toIntS.f
 rw [if_pos (by omega), if_pos (by omega)]
 rw [Gen.fill_loop (fun k ys i => laws_toIntS.l0 k xs ys i) (fun i => xs.getD i 0) 0 xs.length (fun k i ys _ hi hy => by
  simp only [laws_toIntS.l0]
  rw [if_pos (by omega), if_pos (by omega), if_pos (by omega), Gen.w64s i (by omega), Gen.rd_nat]
  simp) _ (by simp) k (by omega), Gen.map_getD']
 obtain ⟨m, hm⟩ : ∃ m, k - xs.length = m + 1 := ⟨k - xs.length - 1, by omega⟩
 rw [hm]
 simp only [laws_toIntS.l0]
 rw [if_neg (by omega)]
theorem eqIntS (xs : List Int) (hn : xs.length ≤ 1048576) (k : Nat) (hk : xs.length < k) : laws_eqIntS.f k xs xs = some true := by
 unfold laws_eqIntS.f
 rw [if_pos rfl]
 have := Gen.all_loop (fun k i => laws_eqIntS.l0 k xs xs i) xs.length (fun _ => true) 0 true (fun k i _ hi => by
  simp only [laws_eqIntS.l0]
  rw [if_pos (by omega), if_pos (by omega), if_pos (by omega), if_pos (by trivial), Gen.w64s i (by omega), if_pos (by trivial)]) (fun k _ => by
  simp only [laws_eqIntS.l0]
  rw [if_neg (by omega)]) xs.length 0 k (by omega) (by omega)
 simpa [Gen.all_yes] using this
theorem szIntS (xs : List Int) (left : Int) (hm : xs.length ≤ maxLen) (h1 : left ≤ 1048576) (h0 : 0 ≤ left) : ∃ z, laws_szIntS.f xs left = some z ∧ (z < 0 ∨ (xs.length ≤ 1048576 ∧ 0 ≤ z ∧ z ≤ left)) := by
 unfold maxLen at hm
 unfold laws_szIntS.f
 rw [Gen.w64 (by omega) (by omega)]
 by_cases h : left - (xs.length : Int) < 0
 ·exact ⟨-1, by rw [if_pos h], .inl (by omega)⟩
 ·exact ⟨_, by rw [if_neg h], .inr ⟨by omega, by omega, by omega⟩⟩
theorem szMatroid (n : Int) (xs : List Int) (left : Int) (hm : xs.length ≤ maxLen) (h1 : left ≤ 1048576) (h0 : 0 ≤ left) : ∃ z, laws_szMatroid.f n xs left = some z ∧ (z < 0 ∨ (xs.length ≤ 1048576 ∧ 0 ≤ z ∧ z ≤ left)) := by
 obtain ⟨z, hz, h⟩ := szIntS xs left hm h1 h0
 unfold laws_szMatroid.f
 rw [hz]
 simp only [Option.bind_some]
 by_cases hn : z < 0
 ·exact ⟨-1, by rw [if_pos hn], .inl (by omega)⟩
 ·exact ⟨z, by rw [if_neg hn], h⟩
theorem toIntSE (xs : List Int) (hn : xs.length ≤ 1048576) : Ev (fun k => laws_toIntS.f k xs) xs := Gen.ev_at (xs.length + 1) (fun k hk => toIntS xs hn k (by omega))
theorem eqIntSE (xs : List Int) (hn : xs.length ≤ 1048576) : Ev (fun k => laws_eqIntS.f k xs xs) true := Gen.ev_at (xs.length + 1) (fun k hk => eqIntS xs hn k (by omega))
theorem toMatroid (n : Int) (xs : List Int) (hn : xs.length ≤ 1048576) : Ev (fun k => laws_toMatroid.f k n xs) (n, xs) := by
 unfold laws_toMatroid.f
 exact Ev.bind (toIntSE xs hn) (Ev.now _)
theorem eqMatroid (n : Int) (xs : List Int) (hn : xs.length ≤ 1048576) : Ev (fun k => laws_eqMatroid.f k n xs n xs) true := by
 unfold laws_eqMatroid.f
 simp only [if_true]
 exact Ev.bind (eqIntSE xs hn) (Ev.now _)
end Go.Proofs.Ytmpodackojmojaa.Base
end
section
namespace Go.Proofs.Ytmpodackojmojaa.Lin
def sm (f : Nat → Int) : Nat → Int
 | 0 => 0
 | n + 1 => sm f n + f n
theorem sm_congr {f g : Nat → Int} : ∀ n, (∀ j, j < n → f j = g j) → sm f n = sm g n
 | 0, _ => rfl
 | n + 1, h => by
  show sm f n + f n = sm g n + g n
  rw [sm_congr n (fun j hj => h j (by omega)), h n (by omega)]
theorem sm_add (f g : Nat → Int) : ∀ n, sm (fun j => f j + g j) n = sm f n + sm g n
 | 0 => rfl
 | n + 1 => by
  show sm (fun j => f j + g j) n + (f n + g n) = sm f n + f n + (sm g n + g n)
  rw [sm_add f g n]
  omega
theorem sm_mul (a : Int) (f : Nat → Int) : ∀ n, sm (fun j => a * f j) n = a * sm f n
 | 0 => by simp [sm]
 | n + 1 => by
  show sm (fun j => a * f j) n + a * f n = a * (sm f n + f n)
  rw [sm_mul a f n, Int.mul_add]
theorem sm_sub (f g : Nat → Int) : ∀ n, sm (fun j => f j - g j) n = sm f n - sm g n
 | 0 => rfl
 | n + 1 => by
  show sm (fun j => f j - g j) n + (f n - g n) = sm f n + f n - (sm g n + g n)
  rw [sm_sub f g n]
  omega
theorem sm_zero : ∀ n, sm (fun _ => 0) n = 0
 | 0 => rfl
 | n + 1 => by
  show sm (fun _ => 0) n + 0 = 0
  rw [sm_zero n]
  rfl
theorem sm_at (k : Nat) (v : Int) : ∀ n, sm (fun j => if j = k then v else 0) n = if k < n then v else 0
 | 0 => by simp [sm]
 | n + 1 => by
  show sm (fun j => if j = k then v else 0) n + (if n = k then v else 0) = _
  rw [sm_at k v n]
  by_cases h : k < n
  ·rw [if_pos h, if_neg (by omega), if_pos (by omega), Int.add_zero]
  ·rw [if_neg h]
   by_cases e : n = k
   ·rw [if_pos e, if_pos (by omega), Int.zero_add]
   ·rw [if_neg e, if_neg (by omega), Int.zero_add]
theorem sm_swap (f : Nat → Nat → Int) (n : Nat) : ∀ m, sm (fun e => sm (fun i => f i e) n) m = sm (fun i => sm (fun e => f i e) m) n
 | 0 => (sm_zero n).symm
 | m + 1 => by
  show sm (fun e => sm (fun i => f i e) n) m + sm (fun i => f i m) n = sm (fun i => sm (fun e => f i e) m + f i m) n
  rw [sm_swap f n m, sm_add]
theorem sm_dvd {p : Int} {f : Nat → Int} : ∀ n, (∀ j, j < n → p ∣ f j) → p ∣ sm f n
 | 0, _ => Int.dvd_zero p
 | n + 1, h => Int.dvd_add (sm_dvd n fun j hj => h j (by omega)) (h n (by omega))
def cd (S : Nat → Bool) : Nat → Nat
 | 0 => 0
 | n + 1 => cd S n + if S n = true then 1 else 0
theorem cd_congr {S T : Nat → Bool} : ∀ n, (∀ j, j < n → S j = T j) → cd S n = cd T n
 | 0, _ => rfl
 | n + 1, h => by
  show cd S n + _ = cd T n + _
  rw [cd_congr n (fun j hj => h j (by omega)), h n (by omega)]
theorem cd_pos {S : Nat → Bool} : ∀ n, 0 < cd S n → ∃ j, j < n ∧ S j = true
 | 0, h => absurd h (Nat.lt_irrefl 0)
 | n + 1, h => by
  by_cases e : S n = true
  ·exact ⟨n, by omega, e⟩
  ·have h' : 0 < cd S n := by
    have h2 : 0 < cd S n + if S n = true then 1 else 0 := h
    rw [if_neg e] at h2
    exact h2
   obtain ⟨j, hj, hs⟩ := cd_pos n h'
   exact ⟨j, by omega, hs⟩
theorem cd_less {S : Nat → Bool} (k : Nat) (hk : S k = true) : ∀ n, cd (fun j => S j && !decide (j = k)) n + (if k < n then 1 else 0) = cd S n
 | 0 => by simp [cd]
 | n + 1 => by
  have ih := cd_less k hk n
  show cd _ n + (if (S n && !decide (n = k)) = true then 1 else 0) + (if k < n + 1 then 1 else 0) = cd S n + if S n = true then 1 else 0
  by_cases e : n = k
  ·subst e
   rw [if_neg (show ¬ n < n by omega)] at ih
   rw [hk, if_neg (by simp), if_pos (by omega), if_pos rfl]
   omega
  ·have e1 : (S n && !decide (n = k)) = S n := by simp [e]
   rw [e1]
   by_cases h : k < n
   ·rw [if_pos h] at ih
    rw [if_pos (show k < n + 1 by omega)]
    omega
   ·rw [if_neg h] at ih
    rw [if_neg (show ¬ k < n + 1 by omega)]
    omega
structure Pr (p : Int) : Prop where
 mul : ∀ a b : Int, p ∣ a * b → p ∣ a ∨ p ∣ b
 one : ¬ p ∣ 1
theorem pr2 : Pr 2 := by
 refine ⟨fun a b h => ?_, by decide⟩
 have h' := Int.emod_eq_zero_of_dvd h
 rw [Int.mul_emod] at h'
 rcases Int.emod_two_eq a with e | e <;> rcases Int.emod_two_eq b with f | f <;> rw [e, f] at h' <;> simp at h' <;> first | exact .inl (Int.dvd_of_emod_eq_zero e) | exact .inr (Int.dvd_of_emod_eq_zero f)
theorem pr3 : Pr 3 := by
 refine ⟨fun a b h => ?_, by decide⟩
 have h' := Int.emod_eq_zero_of_dvd h
 rw [Int.mul_emod] at h'
 have ea : a % 3 = 0 ∨ a % 3 = 1 ∨ a % 3 = 2 := by omega
 have eb : b % 3 = 0 ∨ b % 3 = 1 ∨ b % 3 = 2 := by omega
 rcases ea with e | e | e <;> rcases eb with f | f | f <;> rw [e, f] at h' <;> simp at h' <;> first | exact .inl (Int.dvd_of_emod_eq_zero e) | exact .inr (Int.dvd_of_emod_eq_zero f)
def Zr (p : Int) (N n : Nat) (R : Nat → Bool) (A : Nat → Nat → Int) (c : Nat → Int) : Prop := ∀ i, i < N → R i = true → p ∣ sm (fun j => A i j * c j) n
theorem solve {p : Int} (hp : Pr p) (n : Nat) : ∀ (N : Nat) (R S : Nat → Bool) (A : Nat → Nat → Int), cd R N < cd S n →
  ∃ c : Nat → Int, (∀ j, S j = false → c j = 0) ∧ Zr p N n R A c ∧ ∃ j, j < n ∧ S j = true ∧ ¬ p ∣ c j := by
 intro N
 induction N with
 | zero =>
  intro R S A h
  obtain ⟨j, hj, hs⟩ := cd_pos n (Nat.lt_of_le_of_lt (Nat.zero_le _) h)
  refine ⟨fun i => if i = j then 1 else 0, fun i hi => ?_, fun i hi => absurd hi (by omega), j, hj, hs, ?_⟩
  ·by_cases e : i = j
   ·subst e
    rw [hs] at hi
    cases hi
   ·exact if_neg e
  ·simp only [if_true]
   exact hp.one
 | succ N ih =>
  intro R S A h
  have h1 : cd R N + (if R N = true then 1 else 0) < cd S n := h
  by_cases hR : R N = true
  ·rw [if_pos hR] at h1
   by_cases hall : ∀ j, j < n → S j = true → p ∣ A N j
   ·obtain ⟨c, hc1, hc2, hc3⟩ := ih R S A (by omega)
    refine ⟨c, hc1, fun i hi hr => ?_, hc3⟩
    by_cases e : i = N
    ·subst e
     refine sm_dvd n fun j hj => ?_
     by_cases hs : S j = true
     ·exact Int.dvd_mul_of_dvd_left (hall j hj hs)
     ·rw [hc1 j (by simpa using hs), Int.mul_zero]
      exact Int.dvd_zero p
    ·exact hc2 i (by omega) hr
   ·have hex : ∃ k, k < n ∧ S k = true ∧ ¬ p ∣ A N k := Classical.byContradiction fun hn => hall fun j hj hs => Classical.byContradiction fun hd => hn ⟨j, hj, hs, hd⟩
    obtain ⟨k, hk, hS, hA⟩ := hex
    have hcd := cd_less k hS n
    rw [if_pos hk] at hcd
    obtain ⟨y, hy1, hy2, j0, hj0, hs0, hy3⟩ := ih R (fun j => S j && !decide (j = k)) (fun i j => A i j * A N k - A i k * A N j) (by omega)
    have hyk : y k = 0 := hy1 k (by simp)
    have key : ∀ i, sm (fun j => A i j * (if j = k then - sm (fun j => A N j * y j) n else A N k * y j)) n = A N k * sm (fun j => A i j * y j) n - A i k * sm (fun j => A N j * y j) n := by
     intro i
     have e1 : sm (fun j => A i j * (if j = k then - sm (fun j => A N j * y j) n else A N k * y j)) n = sm (fun j => A N k * (A i j * y j) + (if j = k then - (A i k * sm (fun j => A N j * y j) n) else 0)) n := by
      refine sm_congr n fun j hj => ?_
      by_cases e : j = k
      ·subst e
       rw [if_pos rfl, if_pos rfl, hyk, Int.mul_neg]
       simp
      ·rw [if_neg e, if_neg e, Int.add_zero, Int.mul_left_comm]
     rw [e1, sm_add, sm_mul, sm_at, if_pos hk]
     omega
    refine ⟨fun j => if j = k then - sm (fun j => A N j * y j) n else A N k * y j, fun j hj => ?_, fun i hi hr => ?_, j0, hj0, ?_, ?_⟩
    ·by_cases e : j = k
     ·subst e
      rw [hS] at hj
      cases hj
     ·show (if j = k then _ else A N k * y j) = 0
      rw [if_neg e, hy1 j (by simp [hj]), Int.mul_zero]
    ·rw [key i]
     by_cases e : i = N
     ·subst e
      rw [Int.sub_self]
      exact Int.dvd_zero p
     ·have h2 := hy2 i (by omega) hr
      have e2 : sm (fun j => (A i j * A N k - A i k * A N j) * y j) n = A N k * sm (fun j => A i j * y j) n - A i k * sm (fun j => A N j * y j) n := by
       rw [← sm_mul, ← sm_mul, Int.sub_eq_add_neg, ← Int.neg_one_mul, ← sm_mul, ← sm_add]
       refine sm_congr n fun j _ => ?_
       grind
      rw [← e2]
      exact h2
    ·simp only [Bool.and_eq_true] at hs0
     exact hs0.1
    ·have e : j0 ≠ k := by
      rintro rfl
      simp at hs0
     simp only [if_neg e]
     intro hd
     rcases hp.mul _ _ hd with h3 | h3
     ·exact hA h3
     ·exact hy3 h3
  ·rw [if_neg hR] at h1
   obtain ⟨c, hc1, hc2, hc3⟩ := ih R S A (by omega)
   refine ⟨c, hc1, fun i hi hr => ?_, hc3⟩
   by_cases e : i = N
   ·subst e
    exact absurd hr hR
   ·exact hc2 i (by omega) hr
def Indep (p : Int) (N n : Nat) (A : Nat → Nat → Int) (S : Nat → Bool) : Prop := ∀ c : Nat → Int, (∀ j, S j = false → c j = 0) → Zr p N n (fun _ => true) A c → ∀ j, j < n → p ∣ c j
theorem Indep.sub {p : Int} {N n : Nat} {A : Nat → Nat → Int} {S T : Nat → Bool} (h : Indep p N n A T) (hs : ∀ j, S j = true → T j = true) : Indep p N n A S := fun c h1 h2 => h c (fun j hj => h1 j (by
 cases e : S j with
 | false => rfl
 | true => rw [hs j e] at hj; cases hj)) h2
theorem Indep.dep {p : Int} {N n : Nat} {A : Nat → Nat → Int} {S : Nat → Bool} (h : Indep p N n A S) {e : Nat} (he : e < n) (hS : S e = false) (hn : ¬ Indep p N n A (fun j => S j || decide (j = e))) :
  ∃ (D : Int) (C : Nat → Int), ¬ p ∣ D ∧ (∀ j, S j = false → C j = 0) ∧ ∀ i, i < N → p ∣ A i e * D + sm (fun j => A i j * C j) n := by
 unfold Indep at hn
 have hex : ∃ c : Nat → Int, (∀ j, (S j || decide (j = e)) = false → c j = 0) ∧ Zr p N n (fun _ => true) A c ∧ ¬ ∀ j, j < n → p ∣ c j := Classical.byContradiction fun hx => hn fun c h1 h2 => Classical.byContradiction fun h3 => hx ⟨c, h1, h2, h3⟩
 obtain ⟨c, h1, h2, h3⟩ := hex
 have hc1 : ∀ j, S j = false → (fun j => if j = e then 0 else c j) j = 0 := fun j hj => by
  show (if j = e then 0 else c j) = 0
  by_cases ej : j = e
  ·exact if_pos ej
  ·rw [if_neg ej]
   exact h1 j (by simp [hj, ej])
 have hsum : ∀ i, sm (fun j => A i j * c j) n = A i e * c e + sm (fun j => A i j * (if j = e then 0 else c j)) n := fun i => by
  have e1 : sm (fun j => A i j * c j) n = sm (fun j => (if j = e then A i e * c e else 0) + A i j * (if j = e then 0 else c j)) n := by
   refine sm_congr n fun j _ => ?_
   by_cases ej : j = e
   ·subst ej
    simp
   ·simp [ej]
  rw [e1, sm_add, sm_at, if_pos he]
 refine ⟨c e, fun j => if j = e then 0 else c j, fun hd => h3 ?_, hc1, fun i hi => ?_⟩
 ·have hz : Zr p N n (fun _ => true) A (fun j => if j = e then 0 else c j) := fun i hi _ => by
   have h4 := h2 i hi rfl
   rw [hsum i] at h4
   exact (Int.dvd_add_right (Int.dvd_mul_of_dvd_right hd)).1 h4
  intro j hj
  have := h _ hc1 hz j hj
  by_cases ej : j = e
  ·subst ej
   exact hd
  ·simpa [ej] using this
 ·rw [← hsum i]
  exact h2 i hi rfl
theorem Indep.aug {p : Int} (hp : Pr p) {N n : Nat} {A : Nat → Nat → Int} {S T : Nat → Bool} (hS : Indep p N n A S) (hT : Indep p N n A T) (hlt : cd S n < cd T n) :
  ∃ e, e < n ∧ T e = true ∧ S e = false ∧ Indep p N n A (fun j => S j || decide (j = e)) := by
 refine Classical.byContradiction fun hno => ?_
 have hdep : ∀ e, ∃ (D : Int) (C : Nat → Int), ¬ p ∣ D ∧ (∀ j, S j = false → C j = 0) ∧ (e < n → T e = true → ∀ i, i < N → p ∣ A i e * D + sm (fun j => A i j * C j) n) := by
  intro e
  by_cases he : e < n ∧ T e = true
  ·by_cases hs : S e = true
   ·refine ⟨1, fun j => if j = e then -1 else 0, hp.one, fun j hj => ?_, fun _ _ i _ => ?_⟩
    ·by_cases ej : j = e
     ·subst ej
      rw [hs] at hj
      cases hj
     ·exact if_neg ej
    ·have e1 : sm (fun j => A i j * (if j = e then -1 else 0)) n = sm (fun j => if j = e then - A i e else 0) n := by
      refine sm_congr n fun j _ => ?_
      by_cases ej : j = e
      ·subst ej
       simp
      ·simp [ej]
     rw [e1, sm_at, if_pos he.1, Int.mul_one, Int.add_right_neg]
     exact Int.dvd_zero p
   ·have hs' : S e = false := by simpa using hs
    obtain ⟨D, C, h1, h2, h3⟩ := hS.dep he.1 hs' (fun hi => hno ⟨e, he.1, he.2, hs', hi⟩)
    exact ⟨D, C, h1, h2, fun _ _ => h3⟩
  ·exact ⟨1, fun _ => 0, hp.one, fun _ _ => rfl, fun h1 h2 => absurd ⟨h1, h2⟩ he⟩
 obtain ⟨D, hdep⟩ := Classical.axiomOfChoice hdep
 obtain ⟨C, hdep⟩ := Classical.axiomOfChoice hdep
 obtain ⟨x, hx1, hx2, e0, he0, ht0, hx3⟩ := solve hp n n S T (fun i e => C e i) hlt
 have hz : Zr p N n (fun _ => true) A (fun e => D e * x e) := by
  intro i hi _
  have h1 : p ∣ sm (fun e => (A i e * D e + sm (fun j => A i j * C e j) n) * x e) n := by
   refine sm_dvd n fun e he => ?_
   by_cases ht : T e = true
   ·exact Int.dvd_mul_of_dvd_left ((hdep e).2.2 he ht i hi)
   ·rw [hx1 e (by simpa using ht), Int.mul_zero]
    exact Int.dvd_zero p
  have h2 : p ∣ sm (fun e => sm (fun j => A i j * C e j * x e) n) n := by
   rw [sm_swap]
   refine sm_dvd n fun j hj => ?_
   have e1 : sm (fun e => A i j * C e j * x e) n = A i j * sm (fun e => C e j * x e) n := by
    rw [← sm_mul]
    exact sm_congr n fun e _ => Int.mul_assoc _ _ _
   rw [e1]
   by_cases hs : S j = true
   ·exact Int.dvd_mul_of_dvd_right (hx2 j hj hs)
   ·have : sm (fun e => C e j * x e) n = 0 := by
     rw [← sm_zero n]
     refine sm_congr n fun e _ => ?_
     rw [(hdep e).2.1 j (by simpa using hs), Int.zero_mul]
    rw [this, Int.mul_zero]
    exact Int.dvd_zero p
  have e3 : sm (fun e => (A i e * D e + sm (fun j => A i j * C e j) n) * x e) n = sm (fun e => A i e * (D e * x e)) n + sm (fun e => sm (fun j => A i j * C e j * x e) n) n := by
   rw [← sm_add]
   refine sm_congr n fun e _ => ?_
   rw [Int.add_mul, Int.mul_assoc, Int.mul_comm (sm _ n) (x e), ← sm_mul]
   congr 1
   exact sm_congr n fun j _ => Int.mul_comm _ _
  rw [e3] at h1
  exact (Int.dvd_add_left h2).1 h1
 have := hT _ (fun j hj => by rw [hx1 j hj, Int.mul_zero]) hz e0 he0
 rcases hp.mul _ _ this with h4 | h4
 ·exact (hdep e0).1 h4
 ·exact hx3 h4
structure Elim (p : Int) (N n : Nat) (A : Nat → Nat → Int) (S : Nat → Bool) (j : Nat) (M : Nat → Nat → Int) (r : Nat) (PV : Nat → Bool) : Prop where
 rows : r ≤ N
 same : ∀ c, Zr p N n (fun _ => true) M c ↔ Zr p N n (fun _ => true) A c
 count : cd PV j = r
 late : ∀ c, j ≤ c → PV c = false
 piv : ∀ c, c < j → PV c = true → S c = true ∧ ¬ p ∣ M (cd PV c) c ∧ ∀ i, cd PV c < i → i < N → p ∣ M i c
 low : ∀ c, c < j → S c = true → ∀ i, r ≤ i → i < N → p ∣ M i c
theorem cd_mono {S : Nat → Bool} {a b : Nat} (h : a ≤ b) : cd S a ≤ cd S b := by
 induction b with
 | zero => rw [Nat.le_zero.1 h]; exact Nat.le_refl _
 | succ b ih =>
  by_cases e : a = b + 1
  ·rw [e]; exact Nat.le_refl _
  ·exact Nat.le_trans (ih (by omega)) (Nat.le_add_right _ _)
theorem cd_step {S : Nat → Bool} {a b : Nat} (h : a < b) (hs : S a = true) : cd S a < cd S b := by
 have h1 : cd S (a + 1) ≤ cd S b := cd_mono h
 have h2 : cd S (a + 1) = cd S a + 1 := by
  show cd S a + (if S a = true then 1 else 0) = _
  rw [if_pos hs]
 omega
theorem cd_sub {S T : Nat → Bool} (h : ∀ j, S j = true → T j = true) : ∀ n, cd S n ≤ cd T n
 | 0 => Nat.le_refl _
 | n + 1 => by
  have ih := cd_sub h n
  show cd S n + _ ≤ cd T n + _
  by_cases e : S n = true
  ·rw [if_pos e, if_pos (h n e)]
   omega
  ·rw [if_neg e]
   omega
theorem cd_eq {S T : Nat → Bool} (h : ∀ j, S j = true → T j = true) : ∀ n, cd S n = cd T n → ∀ j, j < n → T j = true → S j = true
 | 0, _, j, hj, _ => absurd hj (Nat.not_lt_zero _)
 | n + 1, hc, j, hj, ht => by
  have h1 := cd_sub h n
  have hc' : cd S n + (if S n = true then 1 else 0) = cd T n + (if T n = true then 1 else 0) := hc
  by_cases e : S n = true
  ·rw [if_pos e, if_pos (h n e)] at hc'
   by_cases ej : j = n
   ·rw [ej]; exact e
   ·exact cd_eq h n (by omega) j (by omega) ht
  ·rw [if_neg e] at hc'
   by_cases et : T n = true
   ·rw [if_pos et] at hc'
    omega
   ·rw [if_neg et] at hc'
    by_cases ej : j = n
    ·rw [ej] at ht; exact absurd ht et
    ·exact cd_eq h n (by omega) j (by omega) ht
theorem Elim.indep {p : Int} (hp : Pr p) {N n : Nat} {A : Nat → Nat → Int} {S : Nat → Bool} {M : Nat → Nat → Int} {r : Nat} {PV : Nat → Bool} (h : Elim p N n A S n M r PV) : Indep p N n A PV := by
 intro c hc hz
 have hzM := (h.same c).2 hz
 have key : ∀ d x, x + d = n → ∀ j, x ≤ j → j < n → p ∣ c j := by
  intro d
  induction d with
  | zero => intro x hx j h1 h2; omega
  | succ d ih =>
   intro x hx j h1 h2
   have ih' := ih (x + 1) (by omega)
   by_cases e : j = x
   ·subst e
    by_cases hv : PV j = true
    ·obtain ⟨_, hne, hbelow⟩ := h.piv j h2 hv
     have hlt : cd PV j < r := by rw [← h.count]; exact cd_step h2 hv
     have hr := hzM (cd PV j) (Nat.lt_of_lt_of_le hlt h.rows) rfl
     have hs : sm (fun i => M (cd PV j) i * c i) n = sm (fun i => (if i = j then M (cd PV j) j * c j else 0) + (if i = j then 0 else M (cd PV j) i * c i)) n := by
      refine sm_congr n fun i _ => ?_
      by_cases ei : i = j
      ·subst ei; simp
      ·simp [ei]
     rw [hs, sm_add, sm_at, if_pos h2] at hr
     have hrest : p ∣ sm (fun i => if i = j then 0 else M (cd PV j) i * c i) n := by
      refine sm_dvd n fun i hi => ?_
      by_cases ei : i = j
      ·rw [if_pos ei]; exact Int.dvd_zero p
      ·rw [if_neg ei]
       by_cases hvi : PV i = true
       ·by_cases hij : i < j
        ·exact Int.dvd_mul_of_dvd_left ((h.piv i hi hvi).2.2 _ (cd_step hij hvi) (Nat.lt_of_lt_of_le hlt h.rows))
        ·exact Int.dvd_mul_of_dvd_right (ih' i (by omega) hi)
       ·rw [hc i (by simpa using hvi), Int.mul_zero]; exact Int.dvd_zero p
     rcases hp.mul _ _ ((Int.dvd_add_left hrest).1 hr) with h3 | h3
     ·exact absurd h3 hne
     ·exact h3
    ·rw [hc j (by simpa using hv)]; exact Int.dvd_zero p
   ·exact ih' j (by omega) h2
 exact fun j hj => key n 0 (by omega) j (by omega) hj
theorem Elim.most {p : Int} (hp : Pr p) {N n : Nat} {A : Nat → Nat → Int} {S : Nat → Bool} {M : Nat → Nat → Int} {r : Nat} {PV : Nat → Bool} (h : Elim p N n A S n M r PV) {T : Nat → Bool} (hT : ∀ j, T j = true → S j = true) (hI : Indep p N n A T) : cd T n ≤ r := by
 refine Classical.byContradiction fun hlt => ?_
 have hN : cd (fun i => decide (i < r)) N ≤ r := by
  have : ∀ m, cd (fun i => decide (i < r)) m ≤ r ∧ cd (fun i => decide (i < r)) m ≤ m := by
   intro m
   induction m with
   | zero => exact ⟨Nat.zero_le _, Nat.le_refl _⟩
   | succ m ih =>
    have e : cd (fun i => decide (i < r)) (m + 1) = cd (fun i => decide (i < r)) m + if decide (m < r) = true then 1 else 0 := rfl
    by_cases hm : m < r
    ·rw [if_pos (decide_eq_true hm)] at e
     omega
    ·rw [if_neg (by simpa using hm)] at e
     omega
  exact (this N).1
 obtain ⟨c, hc1, hc2, j, hj, hs, hd⟩ := solve hp n N (fun i => decide (i < r)) T M (by omega)
 refine hd (hI c hc1 ((h.same c).1 fun i hi _ => ?_) j hj)
 by_cases hr : i < r
 ·exact hc2 i hi (decide_eq_true hr)
 ·refine sm_dvd n fun k hk => ?_
  by_cases ht : T k = true
  ·exact Int.dvd_mul_of_dvd_left (h.low k hk (hT k ht) i (by omega) hi)
  ·rw [hc1 k (by simpa using ht), Int.mul_zero]; exact Int.dvd_zero p
theorem Elim.start {p : Int} {N n : Nat} {A : Nat → Nat → Int} {S : Nat → Bool} : Elim p N n A S 0 A 0 (fun _ => false) :=
 ⟨Nat.zero_le _, fun _ => Iff.rfl, rfl, fun _ _ => rfl, fun _ hc => absurd hc (Nat.not_lt_zero _), fun _ hc => absurd hc (Nat.not_lt_zero _)⟩
theorem Elim.pass {p : Int} {N n : Nat} {A : Nat → Nat → Int} {S : Nat → Bool} {j : Nat} {M : Nat → Nat → Int} {r : Nat} {PV : Nat → Bool} (h : Elim p N n A S j M r PV) (hn : S j = true → ∀ i, r ≤ i → i < N → p ∣ M i j) : Elim p N n A S (j + 1) M r PV := by
 refine ⟨h.rows, h.same, ?_, fun c hc => h.late c (by omega), fun c hc hv => ?_, fun c hc hs i hi hN => ?_⟩
 ·show cd PV j + (if PV j = true then 1 else 0) = r
  rw [h.late j (Nat.le_refl _), if_neg (by decide), h.count]
  rfl
 ·by_cases e : c = j
  ·subst e
   rw [h.late c (Nat.le_refl _)] at hv
   cases hv
  ·exact h.piv c (by omega) hv
 ·by_cases e : c = j
  ·subst e
   exact hn hs i hi hN
  ·exact h.low c (by omega) hs i hi hN
def swapr (M : Nat → Nat → Int) (a b : Nat) : Nat → Nat → Int := fun i k => if i = a then M b k else if i = b then M a k else M i k
theorem swapr_zr {p : Int} {N n : Nat} {M : Nat → Nat → Int} {a b : Nat} (ha : a < N) (hb : b < N) (c : Nat → Int) : Zr p N n (fun _ => true) (swapr M a b) c ↔ Zr p N n (fun _ => true) M c := by
 have one : ∀ i, sm (fun k => swapr M a b i k * c k) n = if i = a then sm (fun k => M b k * c k) n else if i = b then sm (fun k => M a k * c k) n else sm (fun k => M i k * c k) n := by
  intro i
  unfold swapr
  by_cases e : i = a
  ·simp [e]
  ·by_cases e2 : i = b
   ·subst e2
    simp [e]
   ·simp [e, e2]
 constructor
 ·intro h i hi _
  by_cases e : i = a
  ·have := h b hb rfl
   rw [one] at this
   by_cases e2 : b = a
   ·rw [if_pos e2] at this
    rw [e, ← e2]; exact this
   ·rw [if_neg e2, if_pos rfl] at this
    rw [e]; exact this
  ·by_cases e2 : i = b
   ·have := h a ha rfl
    rw [one, if_pos rfl] at this
    rw [e2]; exact this
   ·have := h i hi rfl
    rw [one, if_neg e, if_neg e2] at this
    exact this
 ·intro h i hi _
  rw [one]
  by_cases e : i = a
  ·rw [if_pos e]; exact h b hb rfl
  ·rw [if_neg e]
   by_cases e2 : i = b
   ·rw [if_pos e2]; exact h a ha rfl
   ·rw [if_neg e2]; exact h i hi rfl
structure Used (p : Int) (N n : Nat) (r j : Nat) (M M' : Nat → Nat → Int) : Prop where
 keep : ∀ i k, i ≤ r → k < n → M' i k = M i k
 comb : ∀ i k, r < i → i < N → k < n → p ∣ M' i k - (M i k * M r j - M r k * M i j)
theorem Used.zr {p : Int} (hp : Pr p) {N n r j : Nat} {M M' : Nat → Nat → Int} (h : Used p N n r j M M') (hr : r < N) (hne : ¬ p ∣ M r j) (c : Nat → Int) : Zr p N n (fun _ => true) M' c ↔ Zr p N n (fun _ => true) M c := by
 have hup : ∀ i, i ≤ r → sm (fun k => M' i k * c k) n = sm (fun k => M i k * c k) n := fun i hi => sm_congr n fun k hk => by rw [h.keep i k hi hk]
 have hlow : ∀ i, r < i → i < N → p ∣ sm (fun k => M' i k * c k) n - (M r j * sm (fun k => M i k * c k) n - M i j * sm (fun k => M r k * c k) n) := by
  intro i h1 h2
  have e : sm (fun k => M' i k * c k) n = sm (fun k => (M' i k - (M i k * M r j - M r k * M i j)) * c k) n + (M r j * sm (fun k => M i k * c k) n - M i j * sm (fun k => M r k * c k) n) := by
   rw [← sm_mul, ← sm_mul, ← sm_sub, ← sm_add]
   refine sm_congr n fun k _ => ?_
   grind
  rw [e, Int.add_sub_cancel]
  exact sm_dvd n fun k hk => Int.dvd_mul_of_dvd_left (h.comb i k h1 h2 hk)
 constructor
 ·intro hz i hi _
  have hrow : p ∣ sm (fun k => M r k * c k) n := by rw [← hup r (Nat.le_refl _)]; exact hz r hr rfl
  by_cases hir : i ≤ r
  ·rw [← hup i hir]; exact hz i hi rfl
  ·have h1 := hlow i (by omega) hi
   have h2 := hz i hi rfl
   have h3 : p ∣ M r j * sm (fun k => M i k * c k) n := by
    have h4 := Int.dvd_sub h2 h1
    rw [Int.sub_sub_self] at h4
    have h5 := Int.dvd_add h4 (show p ∣ M i j * sm (fun k => M r k * c k) n from Int.dvd_mul_of_dvd_right hrow)
    rwa [Int.sub_add_cancel] at h5
   rcases hp.mul _ _ h3 with h6 | h6
   ·exact absurd h6 hne
   ·exact h6
 ·intro hz i hi _
  by_cases hir : i ≤ r
  ·rw [hup i hir]; exact hz i hi rfl
  ·have h1 := hlow i (by omega) hi
   have h2 : p ∣ M r j * sm (fun k => M i k * c k) n - M i j * sm (fun k => M r k * c k) n := Int.dvd_sub (Int.dvd_mul_of_dvd_right (hz i hi rfl)) (Int.dvd_mul_of_dvd_right (hz r hr rfl))
   have h5 := Int.dvd_add h1 h2
   rwa [Int.sub_add_cancel] at h5
theorem Elim.pivot {p : Int} (hp : Pr p) {N n : Nat} {A : Nat → Nat → Int} {S : Nat → Bool} {j : Nat} {M M' : Nat → Nat → Int} {r : Nat} {PV : Nat → Bool} (h : Elim p N n A S j M r PV) (hj : j < n) (hS : S j = true) {b : Nat} (hb : b < N) (hrb : r ≤ b) (hne : ¬ p ∣ M b j) (hu : Used p N n r j (swapr M r b) M') :
  Elim p N n A S (j + 1) M' (r + 1) (fun c => PV c || decide (c = j)) := by
 have hr : r < N := by omega
 have hsw : swapr M r b r j = M b j := by unfold swapr; rw [if_pos rfl]
 have hne' : ¬ p ∣ swapr M r b r j := by rw [hsw]; exact hne
 have hcd : ∀ c, c ≤ j → cd (fun c => PV c || decide (c = j)) c = cd PV c := fun c hc => cd_congr c fun i hi => by
  rw [decide_eq_false (show ¬ i = j by omega), Bool.or_false]
 have hz0 : ∀ c, c < j → S c = true → ∀ i, r ≤ i → i < N → p ∣ swapr M r b i c := by
  intro c hc hs i h1 h2
  unfold swapr
  by_cases e : i = r
  ·rw [if_pos e]; exact h.low c hc hs b hrb hb
  ·rw [if_neg e]
   by_cases e2 : i = b
   ·rw [if_pos e2]; exact h.low c hc hs r (Nat.le_refl _) hr
   ·rw [if_neg e2]; exact h.low c hc hs i h1 h2
 have hz1 : ∀ c, c < j → S c = true → ∀ i, r ≤ i → i < N → p ∣ M' i c := by
  intro c hc hs i h1 h2
  by_cases e : i = r
  ·rw [hu.keep i c (by omega) (by omega)]; exact hz0 c hc hs i h1 h2
  ·have h3 := hu.comb i c (by omega) h2 (by omega)
   have h4 : p ∣ swapr M r b i c * swapr M r b r j - swapr M r b r c * swapr M r b i j := Int.dvd_sub (Int.dvd_mul_of_dvd_left (hz0 c hc hs i h1 h2)) (Int.dvd_mul_of_dvd_left (hz0 c hc hs r (Nat.le_refl _) hr))
   have h5 := Int.dvd_add h3 h4
   rwa [Int.sub_add_cancel] at h5
 have hold : ∀ i k, i < r → k < n → M' i k = M i k := by
  intro i k h1 h2
  rw [hu.keep i k (by omega) h2]
  unfold swapr
  rw [if_neg (by omega), if_neg (by omega)]
 have hcol : ∀ i, r < i → i < N → p ∣ M' i j := by
  intro i h1 h2
  have h3 := hu.comb i j h1 h2 hj
  have e : swapr M r b i j * swapr M r b r j - swapr M r b r j * swapr M r b i j = 0 := by rw [Int.mul_comm, Int.sub_self]
  rw [e, Int.sub_zero] at h3
  exact h3
 refine ⟨hr, fun c => (hu.zr hp hr hne' c).trans ((swapr_zr hr hb c).trans (h.same c)), ?_, fun c hc => ?_, fun c hc hv => ?_, fun c hc hs i hi hN => ?_⟩
 ·show cd _ j + (if (PV j || decide (j = j)) = true then 1 else 0) = r + 1
  rw [hcd j (Nat.le_refl _), if_pos (by simp), h.count]
 ·show (PV c || decide (c = j)) = false
  rw [h.late c (by omega), decide_eq_false (show ¬ c = j by omega)]
  rfl
 ·rw [hcd c (by omega)]
  by_cases e : c = j
  ·subst e
   rw [h.count]
   refine ⟨hS, ?_, fun i h1 h2 => hcol i h1 h2⟩
   rw [hu.keep r c (Nat.le_refl _) hj]
   exact hne'
  ·have hv' : PV c = true := by
    have : (PV c || decide (c = j)) = true := hv
    rwa [decide_eq_false e, Bool.or_false] at this
   obtain ⟨h1, h2, h3⟩ := h.piv c (by omega) hv'
   have hlt : cd PV c < r := by rw [← h.count]; exact cd_step (by omega) hv'
   refine ⟨h1, by rw [hold _ c hlt (by omega)]; exact h2, fun i h4 h5 => ?_⟩
   by_cases hir : i < r
   ·rw [hold i c hir (by omega)]; exact h3 i h4 h5
   ·exact hz1 c (by omega) h1 i (by omega) h5
 ·by_cases e : c = j
  ·subst e
   exact hcol i (by omega) hN
  ·exact hz1 c (by omega) hs i (by omega) hN
end Go.Proofs.Ytmpodackojmojaa.Lin
end
section
namespace Go.Proofs.Ytmpodackojmojaa.Grid
open Go.RowKit Go.Proofs.YtmpodackojmojaaW.PrintWords Go.Proofs.YtmpodackojmojaaW.PrintMore
def lst (R C : Nat) (f : Nat → Nat → Int) : List Int := (List.range (R * C)).map fun t => f (t / C) (t % C)
theorem lst_length (R C : Nat) (f : Nat → Nat → Int) : (lst R C f).length = R * C := by simp [lst]
theorem lt_ix {R C i c : Nat} (hi : i < R) (hc : c < C) : i * C + c < R * C := by
 have h1 : (i + 1) * C ≤ R * C := Nat.mul_le_mul_right C hi
 rw [Nat.succ_mul] at h1
 omega
theorem div_ix {C i c : Nat} (hc : c < C) : (i * C + c) / C = i ∧ (i * C + c) % C = c := by
 constructor
 ·rw [Nat.mul_comm, Nat.mul_add_div (by omega), Nat.div_eq_of_lt hc, Nat.add_zero]
 ·rw [Nat.mul_comm, Nat.mul_add_mod, Nat.mod_eq_of_lt hc]
theorem rd_lst {R C i c : Nat} (f : Nat → Nat → Int) (hi : i < R) (hc : c < C) : rd (lst R C f) ((i * C + c : Nat) : Int) = f i c := by
 rw [Gen.rd_nat]
 simp [lst, List.getD_eq_getElem?_getD, lt_ix hi hc, (div_ix (i := i) hc).1, (div_ix (i := i) hc).2]
theorem lst_congr {R C : Nat} {f g : Nat → Nat → Int} (h : ∀ i c, i < R → c < C → f i c = g i c) : lst R C f = lst R C g := by
 refine List.map_congr_left fun t ht => ?_
 have ht := List.mem_range.1 ht
 have hC : 0 < C := by
  rcases Nat.eq_zero_or_pos C with e | e
  ·subst e; simp at ht
  ·exact e
 exact h _ _ (Nat.div_lt_of_lt_mul (by rw [Nat.mul_comm]; exact ht)) (Nat.mod_lt _ hC)
theorem set_lst {R C i c : Nat} (f : Nat → Nat → Int) (hi : i < R) (hc : c < C) (v : Int) : (lst R C f).set (i * C + c) v = lst R C (fun i' c' => if i' = i ∧ c' = c then v else f i' c') := by
 apply List.ext_getElem?
 intro t
 rw [List.getElem?_set]
 have hl := lt_ix hi hc
 by_cases e : i * C + c = t
 ·subst e
  rw [if_pos rfl, if_pos (by rw [lst_length]; exact hl)]
  simp [lst, hl, (div_ix (i := i) hc).1, (div_ix (i := i) hc).2]
 ·rw [if_neg e]
  by_cases ht : t < R * C
  ·have : ¬ (t / C = i ∧ t % C = c) := fun ⟨h1, h2⟩ => e (by rw [← h1, ← h2, Nat.mul_comm]; exact Nat.div_add_mod t C)
   simp [lst, ht, this]
  ·rw [List.getElem?_eq_none (by rw [lst_length]; omega), List.getElem?_eq_none (by rw [lst_length]; omega)]
theorem lst_of {R C : Nat} {l : List Int} (h : l.length = R * C) : l = lst R C (fun i c => l.getD (i * C + c) 0) := by
 apply List.ext_getElem?
 intro t
 by_cases ht : t < R * C
 ·have e : t / C * C + t % C = t := by rw [Nat.mul_comm]; exact Nat.div_add_mod t C
  simp [lst, ht, e, h]
 ·rw [List.getElem?_eq_none (by omega), List.getElem?_eq_none (by rw [lst_length]; omega)]
theorem ix {i C c : Nat} (hi : i ≤ 100) (hC : C ≤ 100) (hc : c ≤ 100) : wrap64 (wrap64 ((i : Int) * (C : Int)) + (c : Int)) = ((i * C + c : Nat) : Int) := by
 have h : i * C ≤ 10000 := Nat.mul_le_mul hi hC
 rw [← Int.natCast_mul]
 obtain ⟨m, hm⟩ : ∃ m, m = i * C := ⟨_, rfl⟩
 rw [← hm] at h ⊢
 rw [Gen.w64 (i := (m : Int)) (by omega) (by omega), Gen.w64 (by omega) (by omega)]
 rfl
def Ok (p : Int) (R C : Nat) (f : Nat → Nat → Int) : Prop := ∀ i c, i < R → c < C → 0 ≤ f i c ∧ f i c < p
theorem tm {p x : Int} (hp : p = 2 ∨ p = 3) : (x.tmod p = x % p) ∨ (x < 0 ∧ x.tmod p = x % p - p ∧ x % p ≠ 0) := by
 rw [Int.tmod_eq_emod]
 by_cases h : 0 ≤ x ∨ p ∣ x
 ·rw [if_pos h]; left; omega
 ·rw [if_neg h]
  right
  have : x < 0 := by omega
  refine ⟨this, by rcases hp with rfl | rfl <;> rfl, fun e => h (.inr (Int.dvd_of_emod_eq_zero e))⟩
theorem modp {p x : Int} (hp : p = 2 ∨ p = 3) : Int.tmod (Int.tmod x p + p) p = x % p := by
 have h0 := Int.emod_nonneg x (show p ≠ 0 by omega)
 have h1 := Int.emod_lt_of_pos x (show 0 < p by omega)
 rcases tm (p := p) (x := x) hp with e | ⟨_, e, e2⟩
 ·rw [e, Int.tmod_eq_emod_of_nonneg (by omega), Int.add_emod_right, Int.emod_emod]
 ·rw [e, Int.sub_add_cancel, Int.tmod_eq_emod_of_nonneg h0, Int.emod_emod]
theorem tmn {p x : Int} (h : 0 ≤ x) : Int.tmod x p = x % p := Int.tmod_eq_emod_of_nonneg h
theorem dvd_mod (p x : Int) : p ∣ x % p - x := by
 rw [Int.emod_def]
 exact ⟨-(x / p), by grind⟩
theorem ok_mod {p : Int} (hp : p = 2 ∨ p = 3) (x : Int) : 0 ≤ x % p ∧ x % p < p := ⟨Int.emod_nonneg x (by omega), Int.emod_lt_of_pos x (by omega)⟩
theorem ok_dvd {p x : Int} (h : 0 ≤ x ∧ x < p) : p ∣ x ↔ x = 0 := by
 constructor
 ·intro hd
  have := Int.emod_eq_zero_of_dvd hd
  rwa [Int.emod_eq_of_lt h.1 h.2] at this
 ·rintro rfl
  exact Int.dvd_zero p
theorem pr {p : Int} (hp : p = 2 ∨ p = 3) : Lin.Pr p := by
 rcases hp with rfl | rfl
 ·exact Lin.pr2
 ·exact Lin.pr3
end Go.Proofs.Ytmpodackojmojaa.Grid
end
section
namespace Go.Proofs.Ytmpodackojmojaa.Lin
structure Norm (p : Int) (N n : Nat) (r j : Nat) (M M' : Nat → Nat → Int) : Prop where
 unit : ∃ u, ¬ p ∣ u ∧ ∀ k, k < n → p ∣ M' r k - u * M r k
 one : p ∣ M' r j - 1
 comb : ∀ i k, i ≠ r → i < N → k < n → p ∣ M' i k - (M i k - M i j * M' r k)
theorem dvd_of_sub {p a b : Int} (h : p ∣ a - b) (hb : p ∣ b) : p ∣ a := by
 have := Int.dvd_add h hb
 rwa [Int.sub_add_cancel] at this
theorem dvd_of_sub' {p a b : Int} (h : p ∣ a - b) (ha : p ∣ a) : p ∣ b := by
 have := Int.dvd_sub ha h
 rwa [Int.sub_sub_self] at this
theorem sm_near {p : Int} {f g : Nat → Int} (n : Nat) (h : ∀ k, k < n → p ∣ f k - g k) : p ∣ sm f n - sm g n := by
 rw [← sm_sub]
 exact sm_dvd n h
theorem Norm.zr {p : Int} (hp : Pr p) {N n r j : Nat} {M M' : Nat → Nat → Int} (h : Norm p N n r j M M') (hr : r < N) (c : Nat → Int) : Zr p N n (fun _ => true) M' c ↔ Zr p N n (fun _ => true) M c := by
 obtain ⟨u, hu, hk⟩ := h.unit
 have hrow : p ∣ sm (fun k => M' r k * c k) n - u * sm (fun k => M r k * c k) n := by
  rw [← sm_mul]
  refine sm_near n fun k hkn => ?_
  rw [show M' r k * c k - u * (M r k * c k) = (M' r k - u * M r k) * c k by grind]
  exact Int.dvd_mul_of_dvd_left (hk k hkn)
 have hoth : ∀ i, i ≠ r → i < N → p ∣ sm (fun k => M' i k * c k) n - (sm (fun k => M i k * c k) n - M i j * sm (fun k => M' r k * c k) n) := by
  intro i h1 h2
  rw [← sm_mul, ← sm_sub]
  refine sm_near n fun k hkn => ?_
  rw [show M' i k * c k - (M i k * c k - M i j * (M' r k * c k)) = (M' i k - (M i k - M i j * M' r k)) * c k by grind]
  exact Int.dvd_mul_of_dvd_left (h.comb i k h1 h2 hkn)
 constructor
 ·intro hz i hi _
  have h0 := hz r hr rfl
  by_cases e : i = r
  ·subst e
   rcases hp.mul _ _ (dvd_of_sub' hrow h0) with h1 | h1
   ·exact absurd h1 hu
   ·exact h1
  ·have h1 := dvd_of_sub' (hoth i e hi) (hz i hi rfl)
   exact dvd_of_sub h1 (Int.dvd_mul_of_dvd_right h0)
 ·intro hz i hi _
  have h0 := dvd_of_sub hrow (Int.dvd_mul_of_dvd_right (hz r hr rfl))
  by_cases e : i = r
  ·subst e
   exact h0
  ·exact dvd_of_sub (hoth i e hi) (Int.dvd_sub (hz i hi rfl) (Int.dvd_mul_of_dvd_right h0))
theorem Elim.norm {p : Int} (hp : Pr p) {N n : Nat} {A : Nat → Nat → Int} {S : Nat → Bool} {j : Nat} {M M' : Nat → Nat → Int} {r : Nat} {PV : Nat → Bool} (h : Elim p N n A S j M r PV) (hj : j < n) (hS : S j = true) {b : Nat} (hb : b < N) (hrb : r ≤ b) (hu : Norm p N n r j (swapr M r b) M') :
  Elim p N n A S (j + 1) M' (r + 1) (fun c => PV c || decide (c = j)) := by
 have hr : r < N := by omega
 have hcd : ∀ c, c ≤ j → cd (fun c => PV c || decide (c = j)) c = cd PV c := fun c hc => cd_congr c fun i hi => by
  rw [decide_eq_false (show ¬ i = j by omega), Bool.or_false]
 have hz0 : ∀ c, c < j → S c = true → ∀ i, r ≤ i → i < N → p ∣ swapr M r b i c := by
  intro c hc hs i h1 h2
  unfold swapr
  by_cases e : i = r
  ·rw [if_pos e]; exact h.low c hc hs b hrb hb
  ·rw [if_neg e]
   by_cases e2 : i = b
   ·rw [if_pos e2]; exact h.low c hc hs r (Nat.le_refl _) hr
   ·rw [if_neg e2]; exact h.low c hc hs i h1 h2
 have hr0 : ∀ c, c < j → S c = true → p ∣ M' r c := by
  intro c hc hs
  obtain ⟨u, _, hk⟩ := hu.unit
  exact dvd_of_sub (hk c (by omega)) (Int.dvd_mul_of_dvd_right (hz0 c hc hs r (Nat.le_refl _) hr))
 have hsame : ∀ c, c < j → S c = true → ∀ i, i ≠ r → i < N → (p ∣ M' i c ↔ p ∣ swapr M r b i c) := by
  intro c hc hs i h1 h2
  have h3 := hu.comb i c h1 h2 (by omega)
  have h4 : p ∣ swapr M r b i j * M' r c := Int.dvd_mul_of_dvd_right (hr0 c hc hs)
  constructor
  ·intro h5
   exact dvd_of_sub (dvd_of_sub' h3 h5) h4
  ·intro h5
   exact dvd_of_sub h3 (Int.dvd_sub h5 h4)
 have hz1 : ∀ c, c < j → S c = true → ∀ i, r ≤ i → i < N → p ∣ M' i c := by
  intro c hc hs i h1 h2
  by_cases e : i = r
  ·rw [e]; exact hr0 c hc hs
  ·exact (hsame c hc hs i e h2).2 (hz0 c hc hs i h1 h2)
 have hold : ∀ i k, i < r → swapr M r b i k = M i k := by
  intro i k h1
  unfold swapr
  rw [if_neg (by omega), if_neg (by omega)]
 have hcol : ∀ i, i ≠ r → i < N → p ∣ M' i j := by
  intro i h1 h2
  have h3 := hu.comb i j h1 h2 hj
  refine dvd_of_sub h3 ?_
  rw [show swapr M r b i j - swapr M r b i j * M' r j = - (swapr M r b i j * (M' r j - 1)) by grind]
  exact (Int.dvd_neg).2 (Int.dvd_mul_of_dvd_right hu.one)
 have hne : ¬ p ∣ M' r j := fun hd => hp.one (dvd_of_sub' hu.one hd)
 refine ⟨hr, fun c => (hu.zr hp hr c).trans ((swapr_zr hr hb c).trans (h.same c)), ?_, fun c hc => ?_, fun c hc hv => ?_, fun c hc hs i hi hN => ?_⟩
 ·show cd _ j + (if (PV j || decide (j = j)) = true then 1 else 0) = r + 1
  rw [hcd j (Nat.le_refl _), if_pos (by simp), h.count]
 ·show (PV c || decide (c = j)) = false
  rw [h.late c (by omega), decide_eq_false (show ¬ c = j by omega)]
  rfl
 ·rw [hcd c (by omega)]
  by_cases e : c = j
  ·subst e
   rw [h.count]
   exact ⟨hS, hne, fun i h1 h2 => hcol i (by omega) h2⟩
  ·have hv' : PV c = true := by
    have : (PV c || decide (c = j)) = true := hv
    rwa [decide_eq_false e, Bool.or_false] at this
   obtain ⟨h1, h2, h3⟩ := h.piv c (by omega) hv'
   have hlt : cd PV c < r := by rw [← h.count]; exact cd_step (by omega) hv'
   refine ⟨h1, fun hd => h2 ?_, fun i h4 h5 => ?_⟩
   ·have := (hsame c (by omega) h1 (cd PV c) (by omega) (by omega)).1 hd
    rwa [hold _ c hlt] at this
   ·by_cases hir : i < r
    ·refine (hsame c (by omega) h1 i (by omega) h5).2 ?_
     rw [hold i c hir]
     exact h3 i h4 h5
    ·exact hz1 c (by omega) h1 i (by omega) h5
 ·by_cases e : c = j
  ·subst e
   exact hcol i (by omega) hN
  ·exact hz1 c (by omega) hs i (by omega) hN
def Rank (p : Int) (N n : Nat) (A : Nat → Nat → Int) (S : Nat → Bool) (r : Nat) : Prop :=
 (∃ PV : Nat → Bool, (∀ j, PV j = true → S j = true) ∧ Indep p N n A PV ∧ cd PV n = r) ∧ ∀ T : Nat → Bool, (∀ j, T j = true → S j = true) → Indep p N n A T → cd T n ≤ r
theorem Elim.rank {p : Int} (hp : Pr p) {N n : Nat} {A : Nat → Nat → Int} {S : Nat → Bool} {M : Nat → Nat → Int} {r : Nat} {PV : Nat → Bool} (h : Elim p N n A S n M r PV) : Rank p N n A S r := by
 refine ⟨⟨PV, fun j hj => ?_, h.indep hp, h.count⟩, fun T hT hI => h.most hp hT hI⟩
 by_cases e : j < n
 ·exact (h.piv j e hj).1
 ·rw [h.late j (by omega)] at hj
  cases hj
theorem Rank.full {p : Int} {N n : Nat} {A : Nat → Nat → Int} {S : Nat → Bool} {r : Nat} (h : Rank p N n A S r) : r = cd S n ↔ Indep p N n A S := by
 obtain ⟨⟨P, h1, h2, h3⟩, h4⟩ := h
 constructor
 ·intro e c hc hz k hk
  have hz' : Zr p N n (fun _ => true) A (fun j => if j < n then c j else 0) := fun i hi hr => by
   rw [sm_congr (g := fun j => A i j * c j) n fun j hj => by simp only [if_pos hj]]
   exact hz i hi hr
  have := h2 (fun j => if j < n then c j else 0) (fun j hj => ?_) hz' k hk
  ·simpa only [if_pos hk] using this
  ·show (if j < n then c j else 0) = 0
   by_cases hjn : j < n
   ·rw [if_pos hjn]
    refine hc j ?_
    cases hs : S j with
    | false => rfl
    | true =>
     have := cd_eq h1 n (by omega) j hjn hs
     rw [hj] at this
     cases this
   ·rw [if_neg hjn]
 ·intro hi
  have h5 := h4 S (fun _ h => h) hi
  have h6 := cd_sub h1 n
  omega
end Go.Proofs.Ytmpodackojmojaa.Lin
end
section
namespace Go.Proofs.Ytmpodackojmojaa.Sets
open Go.RowKit Go.Proofs.YtmpodackojmojaaW.PrintWords Go.Proofs.YtmpodackojmojaaW.PrintMore
theorem ev_search {γ : Type} (L : Nat → Int → Option γ) (n : Nat) (p : Nat → Bool) (S : γ → Prop)
  (hyes : ∀ i, i < n → p i = true → ∃ r, S r ∧ Ev (fun k => L k (i : Int)) r)
  (hno : ∀ i, i < n → p i = false → ∀ r, Ev (fun k => L k ((i + 1 : Nat) : Int)) r → Ev (fun k => L k (i : Int)) r) :
  ∀ d i : Nat, i + d = n → ((List.range' i d).any p = true → ∃ r, S r ∧ Ev (fun k => L k (i : Int)) r) ∧ ((List.range' i d).any p = false → ∀ r, Ev (fun k => L k (n : Int)) r → Ev (fun k => L k (i : Int)) r) := by
 intro d
 induction d with
 | zero =>
  intro i hi
  obtain rfl : i = n := by omega
  exact ⟨fun h => by simp at h, fun _ r h => h⟩
 | succ d ih =>
  intro i hi
  obtain ⟨h1, h2⟩ := ih (i + 1) (by omega)
  rw [List.range'_succ, List.any_cons]
  cases hp : p i with
  | true => exact ⟨fun _ => hyes i (by omega) hp, fun h => by simp at h⟩
  | false =>
   refine ⟨fun h => ?_, fun h r hr => hno i (by omega) hp r (h2 (by simpa using h) r hr)⟩
   obtain ⟨r, hr, hE⟩ := h1 (by simpa using h)
   exact ⟨r, hr, hno i (by omega) hp r hE⟩
theorem wraps_i64 (n : Int) (h0 : 0 ≤ n) (h1 : n < 2 ^ 62) : IntKind.i64.wrap n = n := by
 rw [IntKind.wrap_i64]
 omega
theorem and_nat (a b : Nat) (ha : a < 2 ^ 62) (hb : b < 2 ^ 62) : Go.bits .and .i64 (a : Int) (b : Int) = ((a &&& b : Nat) : Int) := (bits_nat .i64 62 (by decide) wraps_i64 a b ha hb).1
theorem or_nat (a b : Nat) (ha : a < 2 ^ 62) (hb : b < 2 ^ 62) : Go.bits .or .i64 (a : Int) (b : Int) = ((a ||| b : Nat) : Int) := (bits_nat .i64 62 (by decide) wraps_i64 a b ha hb).2
def diff (a b : Nat) : Nat := a ^^^ (a &&& b)
theorem diff_bit (a b i : Nat) : (diff a b).testBit i = (a.testBit i && !b.testBit i) := by
 unfold diff
 rw [Nat.testBit_xor, Nat.testBit_and]
 cases a.testBit i <;> cases b.testBit i <;> rfl
theorem diff_lt {a b : Nat} {n : Nat} (ha : a < 2 ^ n) : diff a b < 2 ^ n := by
 apply Nat.lt_pow_two_of_testBit
 intro i hi
 rw [diff_bit, Nat.testBit_lt_two_pow (Nat.lt_of_lt_of_le ha (Nat.pow_le_pow_right (by decide) hi))]
 rfl
theorem andNot_nat (a b : Nat) (ha : a < 2 ^ 62) : Go.bits .andNot .i64 (a : Int) (b : Int) = ((diff a b : Nat) : Int) := by
 have h64 : (2 : Nat) ^ 62 ≤ 2 ^ 64 := by decide
 have key : (BitVec.ofNat 64 a &&& ~~~(BitVec.ofNat 64 b)).toNat = diff a b := by
  apply Nat.eq_of_testBit_eq
  intro i
  rw [diff_bit, BitVec.testBit_toNat, BitVec.getLsbD_and, BitVec.getLsbD_not, BitVec.getLsbD_ofNat, BitVec.getLsbD_ofNat]
  by_cases hi : i < 64
  ·simp [hi]
  ·have : a.testBit i = false := Nat.testBit_lt_two_pow (Nat.lt_of_lt_of_le ha (Nat.pow_le_pow_right (by decide) (by omega)))
   simp [hi, this]
 show IntKind.i64.wrap ((BitVec.ofInt 64 (a : Int) &&& ~~~(BitVec.ofInt 64 (b : Int))).toNat : Int) = _
 have e1 : BitVec.ofInt 64 (a : Int) = BitVec.ofNat 64 a := by simp
 have e2 : BitVec.ofInt 64 (b : Int) = BitVec.ofNat 64 b := by simp
 rw [e1, e2, key]
 have := diff_lt (b := b) ha
 exact wraps_i64 _ (by omega) (by exact_mod_cast this)
theorem shl_nat (e : Nat) (he : e < 62) : shl .i64 1 (e : Int) = ((2 ^ e : Nat) : Int) := by
 unfold shl
 have h1 : min ((e : Int)).toNat IntKind.i64.bits = e := by
  show min e 64 = e
  omega
 rw [h1, Int.one_mul]
 have h2 : (2 : Nat) ^ e < 2 ^ 62 := Nat.pow_lt_pow_right (by decide) he
 rw [wraps_i64 _ (by exact_mod_cast Nat.zero_le _) (by exact_mod_cast h2)]
 push_cast
 rfl
theorem shr_bit (a e : Nat) (he : e < 62) (ha : a < 2 ^ 62) : ((Go.bits .and .i64 (shr .i64 (a : Int) (e : Int)) 1) == 1) = a.testBit e := by
 unfold shr
 have h1 : min ((e : Int)).toNat IntKind.i64.bits = e := by
  show min e 64 = e
  omega
 rw [h1]
 have h2 : ((a : Int) / 2 ^ e) = ((a / 2 ^ e : Nat) : Int) := by push_cast; rfl
 have h3 : a / 2 ^ e < 2 ^ 62 := Nat.lt_of_le_of_lt (Nat.div_le_self _ _) ha
 rw [h2, show (1 : Int) = ((1 : Nat) : Int) from rfl, and_nat _ 1 h3 (by decide), Nat.testBit_eq_decide_div_mod_eq, Nat.and_one_is_mod]
 by_cases h : a / 2 ^ e % 2 = 1
 ·simp [h]
 ·have h4 : a / 2 ^ e % 2 = 0 := by omega
  simp [h4]
theorem bit_far {a n e : Nat} (ha : a < 2 ^ n) (he : n ≤ e) : a.testBit e = false := Nat.testBit_lt_two_pow (Nat.lt_of_lt_of_le ha (Nat.pow_le_pow_right (by decide) he))
theorem swap_eq : ∀ a, a < 256 → ∀ e, e < 8 → ∀ f, f < 8 → a.testBit e = true → a.testBit f = false → diff a (2 ^ e) ||| 2 ^ f = a - 2 ^ e + 2 ^ f := by decide +kernel
theorem bit_le : ∀ a, a < 256 → ∀ e, e < 8 → a.testBit e = true → 2 ^ e ≤ a := by decide +kernel
def elems (s : Nat) : List Nat := (List.range' 0 8).filter fun j => s.testBit j
def exch (l : List Nat) (a b e : Nat) : Bool := (List.range' 0 8).any fun f => b.testBit f && !a.testBit f && l.contains (a - 2 ^ e + 2 ^ f)
def fails (l : List Nat) : Bool := l.any fun a => l.any fun b => (List.range' 0 8).any fun e => a.testBit e && !b.testBit e && !exch l a b e
def ints (l : List Nat) : List Int := l.map fun j : Nat => (j : Int)
theorem ints_length (l : List Nat) : (ints l).length = l.length := by simp [ints]
theorem ints_getD (l : List Nat) (i : Nat) : (ints l).getD i 0 = ((l.getD i 0 : Nat) : Int) := by
 by_cases h : i < l.length
 ·simp [ints, List.getD, h]
 ·simp [ints, List.getD, h]
theorem ints_rd (l : List Nat) (i : Nat) : rd (ints l) (i : Int) = ((l.getD i 0 : Nat) : Int) := by rw [Gen.rd_nat, ints_getD]
theorem ints_contains (l : List Nat) (x : Nat) : (ints l).contains (x : Int) = l.contains x := by
 rw [Bool.eq_iff_iff]
 simp only [ints, List.contains_eq_mem, List.mem_map, decide_eq_true_eq]
 constructor
 ·rintro ⟨a, h, e⟩
  obtain rfl : a = x := by omega
  exact h
 ·exact fun h => ⟨x, h, rfl⟩
theorem any_index {α : Type} (l : List α) (d : α) (p : α → Bool) : ((List.range' 0 l.length).any fun i => p (l.getD i d)) = l.any p := by
 rw [Bool.eq_iff_iff]
 simp only [List.any_eq_true]
 constructor
 ·rintro ⟨i, hi, hp⟩
  have hlt : i < l.length := by have := List.mem_range'_1.1 hi; omega
  refine ⟨l[i], List.getElem_mem hlt, ?_⟩
  simpa [List.getD, hlt] using hp
 ·rintro ⟨x, hx, hp⟩
  obtain ⟨i, hi, rfl⟩ := List.getElem_of_mem hx
  exact ⟨i, List.mem_range'_1.2 (by omega), by simpa [List.getD, hi] using hp⟩
theorem any_more (p : Nat → Bool) (m d : Nat) (h : ∀ j, m ≤ j → p j = false) : (List.range' 0 (m + d)).any p = (List.range' 0 m).any p := by
 rw [← List.range'_append_1, List.any_append]
 have : (List.range' (0 + m) d).any p = false := by
  rw [List.any_eq_false]
  intro j hj
  have := List.mem_range'_1.1 hj
  rw [h j (by omega)]
  decide
 rw [this, Bool.or_false]
theorem range8 (m : Nat) (hm : m ≤ 8) (p : Nat → Bool) (h : ∀ j, m ≤ j → p j = false) : (List.range' 0 m).any p = (List.range' 0 8).any p := by
 have := any_more p m (8 - m) h
 rw [show m + (8 - m) = 8 by omega] at this
 exact this.symm
theorem elems_any (s : Nat) (q : Nat → Bool) : (elems s).any q = (List.range' 0 8).any fun j => s.testBit j && q j := by
 unfold elems
 rw [List.any_filter]
theorem elems_lt {s j : Nat} (h : j ∈ elems s) : j < 8 ∧ s.testBit j = true := by
 unfold elems at h
 obtain ⟨h1, h2⟩ := List.mem_filter.1 h
 have := List.mem_range'_1.1 h1
 exact ⟨by omega, h2⟩
theorem elems_length (s : Nat) : (elems s).length ≤ 8 := by
 unfold elems
 exact Nat.le_trans (List.length_filter_le _ _) (by simp)
theorem pow_le_256 {m : Nat} (hm : m ≤ 8) : (2 : Nat) ^ m ≤ 256 := Nat.pow_le_pow_right (n := 2) (by decide) hm
theorem swap_le : ∀ a, a < 256 → ∀ e, e < 8 → ∀ f, f < 8 → a.testBit e = true → a.testBit f = false → a - 2 ^ e + 2 ^ f < 256 := by decide +kernel
theorem getD_mem {α : Type} (l : List α) (d : α) (i : Nat) (h : i < l.length) : l.getD i d ∈ l := by
 have : l.getD i d = l[i] := by simp [List.getD, h]
 rw [this]
 exact List.getElem_mem h
end Go.Proofs.Ytmpodackojmojaa.Sets
end
section
namespace Go.Proofs.Ytmpodackojmojaa.Mat
open Go.RowKit Go.Proofs.Ytmpodackojmojaa.Pr Go.Proofs.Ytmpodackojmojaa.Sets Go.Proofs.YtmpodackojmojaaW.PrintWords Go.Proofs.YtmpodackojmojaaW.PrintLast Go.Proofs.YtmpodackojmojaaW.PrintMore
set_option linter.unusedVariables false
def isSet (n s : Int) : Bool := decide (0 ≤ n ∧ n ≤ 8 ∧ 0 ≤ s ∧ s < 2 ^ n.toNat)
theorem implIsSet (n s : Int) : impl_IsSet.f n s = some (isSet n s) := by
 unfold impl_IsSet.f impl_isSize.f isSet
 by_cases h0 : n ≥ 0
 ·rw [if_pos h0]
  simp only [Option.bind_some]
  by_cases h1 : n ≤ 8
  ·rw [if_pos (decide_eq_true h1)]
   obtain ⟨m, rfl⟩ : ∃ m : Nat, n = m := ⟨n.toNat, by omega⟩
   by_cases h2 : s ≥ 0
   ·rw [if_pos h2, if_pos h0, shl_nat m (by omega)]
    congr 1
    rw [decide_eq_decide]
    simp only [Int.toNat_natCast]
    push_cast
    omega
   ·rw [if_neg h2, decide_eq_false (by omega)]
  ·rw [if_neg (by rw [decide_eq_true_eq]; exact h1), decide_eq_false (by omega)]
 ·rw [if_neg h0]
  simp only [Option.bind_some]
  rw [if_neg (by decide), decide_eq_false (by omega)]
theorem specIsSet (n s : Int) : spec_IsSet.f n s = some (isSet n s) := by
 unfold spec_IsSet.f spec_l1In.f isSet
 by_cases h0 : n ≥ 0
 ·rw [if_pos h0]
  simp only [Option.bind_some]
  by_cases h1 : n ≤ 8
  ·rw [if_pos (decide_eq_true h1)]
   obtain ⟨m, rfl⟩ : ∃ m : Nat, n = m := ⟨n.toNat, by omega⟩
   have hu : IntKind.u64.wrap (m : Int) = m := by
    have : m = 0 ∨ m = 1 ∨ m = 2 ∨ m = 3 ∨ m = 4 ∨ m = 5 ∨ m = 6 ∨ m = 7 ∨ m = 8 := by omega
    rcases this with rfl | rfl | rfl | rfl | rfl | rfl | rfl | rfl | rfl <;> decide +kernel
   have hp := pow_le_256 (m := m) (by omega)
   have hp1 : 1 ≤ 2 ^ m := Nat.one_le_two_pow
   rw [hu, if_pos h0, shl_nat m (by omega), Gen.w64 (by omega) (by omega)]
   by_cases h2 : s ≥ 0
   ·rw [if_pos h2]
    simp only [Option.bind_some]
    congr 1
    rw [decide_eq_decide]
    simp only [Int.toNat_natCast]
    have : ((2 : Int) ^ m) = ((2 ^ m : Nat) : Int) := by push_cast; rfl
    rw [this]
    omega
   ·rw [if_neg h2]
    simp only [Option.bind_some]
    rw [decide_eq_false (by omega)]
  ·rw [if_neg (by rw [decide_eq_true_eq]; exact h1), decide_eq_false (by omega)]
 ·rw [if_neg h0]
  simp only [Option.bind_some]
  rw [if_neg (by decide), decide_eq_false (by omega)]
def fam (n : Int) (l : List Int) : Bool := ((List.range' 0 l.length).all fun i => isSet n (l.getD i 0) && (decide (i = 0) || decide (l.getD (i - 1) 0 < l.getD i 0))) && decide (0 ≤ n ∧ n ≤ 8)
theorem implFamily (n : Int) (l : List Int) (hn : l.length ≤ 1048576) (k : Nat) (hk : l.length < k) : impl_IsFamily.f k n l = some (fam n l) := by
 unfold impl_IsFamily.f fam
 refine Gen.all_loop (fun k i => impl_IsFamily.l0 k n l l (l.length : Int) i) l.length (fun i => isSet n (l.getD i 0) && (decide (i = 0) || decide (l.getD (i - 1) 0 < l.getD i 0))) 0 (decide (0 ≤ n ∧ n ≤ 8)) (fun k i _ hi => ?_) (fun k _ => ?_) l.length 0 k (by omega) (by omega)
 ·simp only [impl_IsFamily.l0]
  rw [if_pos (by omega), if_pos (by omega), if_pos (by omega), implIsSet, Gen.rd_nat]
  simp only [Option.bind_some]
  cases isSet n (l.getD i 0) with
  | false => rfl
  | true =>
   rw [if_pos rfl, Gen.w64s i (by omega)]
   by_cases h0 : i = 0
   ·subst h0
    rw [if_neg (by decide), if_pos (by rfl)]
   ·rw [if_pos (by omega), Gen.w64 (by omega) (by omega), show (i : Int) - 1 = ((i - 1 : Nat) : Int) by omega, if_pos (by omega), if_pos (by omega), Gen.rd_nat]
    by_cases h1 : l.getD i 0 ≤ l.getD (i - 1) 0
    ·rw [if_pos h1, decide_eq_false h0, decide_eq_false (by omega)]
     rfl
    ·rw [if_neg h1, decide_eq_false h0, decide_eq_true (by omega)]
     rfl
 ·simp only [impl_IsFamily.l0]
  rw [if_neg (by omega)]
  unfold impl_isSize.f
  by_cases h0 : n ≥ 0
  ·rw [if_pos h0]
   simp only [Option.bind_some]
   congr 1
   rw [decide_eq_decide]
   omega
  ·rw [if_neg h0, decide_eq_false (by omega)]
   rfl
theorem specFamily (n : Int) (l : List Int) (hn : l.length ≤ 1048576) (k : Nat) (hk : l.length < k) : spec_IsFamily.f k n l = some (fam n l) := by
 unfold spec_IsFamily.f fam
 refine Gen.all_loop (fun k i => spec_IsFamily.l0 k n l i) l.length (fun i => isSet n (l.getD i 0) && (decide (i = 0) || decide (l.getD (i - 1) 0 < l.getD i 0))) 0 (decide (0 ≤ n ∧ n ≤ 8)) (fun k i _ hi => ?_) (fun k _ => ?_) l.length 0 k (by omega) (by omega)
 ·simp only [spec_IsFamily.l0]
  rw [if_pos (by omega), if_pos (by omega), specIsSet, Gen.rd_nat]
  simp only [Option.bind_some]
  cases isSet n (l.getD i 0) with
  | false => rfl
  | true =>
   rw [if_pos rfl, Gen.w64s i (by omega)]
   by_cases h0 : i = 0
   ·subst h0
    rw [if_neg (by decide), if_pos (by rfl)]
   ·rw [if_pos (by omega), Gen.w64 (by omega) (by omega), show (i : Int) - 1 = ((i - 1 : Nat) : Int) by omega, if_pos (by omega), if_pos (by omega), Gen.rd_nat]
    by_cases h1 : l.getD (i - 1) 0 ≥ l.getD i 0
    ·rw [if_pos h1, decide_eq_false h0, decide_eq_false (by omega)]
     rfl
    ·rw [if_neg h1, decide_eq_false h0, decide_eq_true (by omega)]
     rfl
 ·simp only [spec_IsFamily.l0]
  rw [if_neg (by omega)]
  unfold spec_l1In.f
  by_cases h0 : n ≥ 0
  ·rw [if_pos h0]
   simp only [Option.bind_some]
   congr 1
   rw [decide_eq_decide]
   omega
  ·rw [if_neg h0, decide_eq_false (by omega)]
   rfl
theorem fam_nat {n : Int} {l : List Int} (h : fam n l = true) : ∃ (m : Nat) (lN : List Nat), n = m ∧ m ≤ 8 ∧ l = ints lN ∧ ∀ s ∈ lN, s < 2 ^ m := by
 unfold fam at h
 rw [Bool.and_eq_true, decide_eq_true_eq] at h
 obtain ⟨hl, h0, h8⟩ := h
 have key : ∀ s ∈ l, 0 ≤ s ∧ s < 2 ^ n.toNat := fun s hs => by
  obtain ⟨i, hi, rfl⟩ := List.getElem_of_mem hs
  have := List.all_eq_true.1 hl i (List.mem_range'_1.2 (by omega))
  rw [Bool.and_eq_true] at this
  have h1 := this.1
  unfold isSet at h1
  rw [decide_eq_true_eq] at h1
  have e : l.getD i 0 = l[i] := by simp [List.getD, hi]
  rw [e] at h1
  exact ⟨h1.2.2.1, h1.2.2.2⟩
 refine ⟨n.toNat, l.map Int.toNat, by omega, by omega, ?_, fun s hs => ?_⟩
 ·unfold ints
  rw [List.map_map]
  conv => lhs; rw [← List.map_id l]
  refine List.map_congr_left fun s hs => ?_
  have := (key s hs).1
  show s = ((s.toNat : Nat) : Int)
  omega
 ·obtain ⟨x, hx, rfl⟩ := List.mem_map.1 hs
  obtain ⟨h1, h2⟩ := key x hx
  have e : ((2 : Int) ^ n.toNat) = ((2 ^ n.toNat : Nat) : Int) := by push_cast; rfl
  rw [e] at h2
  omega
theorem index (l : List Nat) (x : Nat) (hn : l.length ≤ 1048576) : ∀ (d i k : Nat), i + d = l.length → d < k → ∃ r, slices_Index_int_int.l0 k (ints l) (x : Int) ((ints l).length : Int) (i : Int) = some r ∧ decide (r ≥ 0) = (l.drop i).contains x := by
 intro d
 induction d with
 | zero =>
  intro i k hi hk
  obtain ⟨k, rfl⟩ : ∃ m, k = m + 1 := ⟨k - 1, by omega⟩
  refine ⟨-1, ?_, ?_⟩
  ·simp only [slices_Index_int_int.l0]
   rw [if_neg (by rw [ints_length]; omega)]
  ·rw [List.drop_of_length_le (by omega)]
   rfl
 | succ d ih =>
  intro i k hi hk
  obtain ⟨k, rfl⟩ : ∃ m, k = m + 1 := ⟨k - 1, by omega⟩
  have hlt : i < l.length := by omega
  simp only [slices_Index_int_int.l0]
  rw [if_pos (by rw [ints_length]; omega), if_pos (by omega), if_pos (by rw [ints_length]; omega), ints_rd, Gen.w64s i (by omega)]
  have hd : l.drop i = l.getD i 0 :: l.drop (i + 1) := by
   rw [List.drop_eq_getElem_cons hlt]
   simp [List.getD, hlt]
  rw [hd]
  by_cases h : x = l.getD i 0
  ·refine ⟨i, by rw [if_pos (by omega)], ?_⟩
   rw [← h, List.contains_cons, beq_self_eq_true, Bool.true_or, decide_eq_true (by omega)]
  ·obtain ⟨r, h1, h2⟩ := ih (i + 1) k (by omega) (by omega)
   refine ⟨r, by rw [if_neg (by omega)]; exact h1, ?_⟩
   rw [h2, List.contains_cons, beq_eq_false_iff_ne.2 h, Bool.false_or]
theorem implHas (l : List Nat) (x : Nat) (hn : l.length ≤ 1048576) (k : Nat) (hk : l.length < k) : impl_HasSet.f k (ints l) (x : Int) = some (l.contains x) := by
 unfold impl_HasSet.f slices_Contains_int_int.f slices_Index_int_int.f
 obtain ⟨r, h1, h2⟩ := index l x hn l.length 0 k (by omega) hk
 rw [show (0 : Int) = ((0 : Nat) : Int) from rfl, h1]
 simp only [Option.bind_some]
 rw [show ((0 : Nat) : Int) = (0 : Int) from rfl, h2, List.drop_zero]
theorem specHas (l : List Nat) (x : Nat) (hn : l.length ≤ 1048576) (k : Nat) (hk : l.length < k) : spec_HasSet.f k (ints l) (x : Int) = some (l.contains x) := by
 unfold spec_HasSet.f
 have key : ∀ (d i k : Nat), i + d = l.length → d < k → spec_HasSet.l0 k (ints l) (x : Int) (i : Int) = some ((l.drop i).contains x) := by
  intro d
  induction d with
  | zero =>
   intro i k hi hk
   obtain ⟨k, rfl⟩ : ∃ m, k = m + 1 := ⟨k - 1, by omega⟩
   simp only [spec_HasSet.l0]
   rw [if_neg (by rw [ints_length]; omega), List.drop_of_length_le (by omega)]
   rfl
  | succ d ih =>
   intro i k hi hk
   obtain ⟨k, rfl⟩ : ∃ m, k = m + 1 := ⟨k - 1, by omega⟩
   have hlt : i < l.length := by omega
   simp only [spec_HasSet.l0]
   rw [if_pos (by rw [ints_length]; omega), if_pos (by omega), ints_rd, Gen.w64s i (by omega)]
   have hd : l.drop i = l.getD i 0 :: l.drop (i + 1) := by
    rw [List.drop_eq_getElem_cons hlt]
    simp [List.getD, hlt]
   rw [hd, List.contains_cons]
   by_cases h : l.getD i 0 = x
   ·rw [if_pos (by omega), ← h, beq_self_eq_true, Bool.true_or]
   ·rw [if_neg (by omega), ih (i + 1) k (by omega) (by omega), beq_eq_false_iff_ne.2 (Ne.symm h), Bool.false_or]
 have := key l.length 0 k (by omega) hk
 rw [List.drop_zero] at this
 exact this
theorem implElem (s : Nat) (j : Nat) (hs : s < 256) (hj : j < 8) : impl_HasElement.f (s : Int) (j : Int) = some (s.testBit j) := by
 unfold impl_HasElement.f impl_isAny.f
 rw [if_pos (by omega)]
 simp only [Option.bind_some]
 rw [if_pos (decide_eq_true (by omega)), if_pos (by omega), if_pos (by omega), if_pos (by omega), shr_bit s j (by omega) (by omega)]
theorem foldl_elems (s : Nat) : ((List.range' 0 8).foldl (fun (acc : List Int) (j : Nat) => if s.testBit j = true then acc ++ [(j : Int)] else acc) []) = ints (elems s) := by
 rw [Gen.foldl_append (fun j => s.testBit j)]
 rfl
theorem implElements (s : Nat) (hs : s < 256) : Ev (fun k => impl_ElementsOf.f k (s : Int)) (ints (elems s)) := by
 unfold impl_ElementsOf.f
 refine Gen.ev_loop (fun k s3 i => impl_ElementsOf.l0 k (s : Int) s3 i) 8 (fun j s3 => if s.testBit j = true then s3 ++ [(j : Int)] else s3) (fun i s3 => s3.length ≤ i) _ (fun i s3 hi hP => ⟨?_, fun h => Ev.step (fun k => ?_) h⟩) 8 0 [] rfl (by simp) (fun _ => Gen.ev_at 1 (fun k hk => ?_))
 ·by_cases hh : s.testBit i = true
  ·rw [if_pos hh]; simp; omega
  ·rw [if_neg hh]; omega
 ·simp only [impl_ElementsOf.l0]
  rw [if_pos (by omega), implElem s i hs hi]
  simp only [Option.bind_some]
  rw [Gen.w64s i (by omega)]
  by_cases hh : s.testBit i = true
  ·rw [if_pos hh, if_pos (by omega), if_pos hh]
  ·rw [if_neg hh, if_neg hh]
 ·obtain ⟨m, rfl⟩ : ∃ m, k = m + 1 := ⟨k - 1, by omega⟩
  simp only [impl_ElementsOf.l0]
  rw [if_neg (by omega), foldl_elems]
theorem indexFunc (g : Int → Option Bool) (fs : List Nat) (v : Nat → Bool) (hn : fs.length ≤ 1048576) (hg : ∀ f ∈ fs, g (f : Int) = some (v f)) :
  ∀ (d i k : Nat), i + d = fs.length → d < k → ∃ r, slices_IndexFunc_int_int.l0 g k (ints fs) (i : Int) = some r ∧ decide (r ≥ 0) = (fs.drop i).any v := by
 intro d
 induction d with
 | zero =>
  intro i k hi hk
  obtain ⟨k, rfl⟩ : ∃ m, k = m + 1 := ⟨k - 1, by omega⟩
  refine ⟨-1, ?_, ?_⟩
  ·simp only [slices_IndexFunc_int_int.l0]
   rw [if_neg (by rw [ints_length]; omega)]
  ·rw [List.drop_of_length_le (by omega)]
   rfl
 | succ d ih =>
  intro i k hi hk
  obtain ⟨k, rfl⟩ : ∃ m, k = m + 1 := ⟨k - 1, by omega⟩
  have hlt : i < fs.length := by omega
  simp only [slices_IndexFunc_int_int.l0]
  rw [if_pos (by rw [ints_length]; omega), if_pos (by omega), ints_rd, hg _ (getD_mem fs 0 i hlt), Gen.w64s i (by omega)]
  simp only [Option.bind_some]
  have hd : fs.drop i = fs.getD i 0 :: fs.drop (i + 1) := by
   rw [List.drop_eq_getElem_cons hlt]
   simp [List.getD, hlt]
  rw [hd, List.any_cons]
  cases hv : v (fs.getD i 0) with
  | true => exact ⟨i, by rw [if_pos rfl], by rw [decide_eq_true (by omega), Bool.true_or]⟩
  | false =>
   obtain ⟨r, h1, h2⟩ := ih (i + 1) k (by omega) (by omega)
   exact ⟨r, by rw [if_neg (by decide)]; exact h1, by rw [h2, Bool.false_or]⟩
theorem containsFunc (g : Int → Option Bool) (fs : List Nat) (v : Nat → Bool) (hn : fs.length ≤ 1048576) (hg : ∀ f ∈ fs, g (f : Int) = some (v f)) (k : Nat) (hk : fs.length < k) :
  slices_ContainsFunc_int_int.f k (ints fs) g = some (fs.any v) := by
 unfold slices_ContainsFunc_int_int.f slices_IndexFunc_int_int.f
 obtain ⟨r, h1, h2⟩ := indexFunc g fs v hn hg fs.length 0 k (by omega) hk
 rw [show (0 : Int) = ((0 : Nat) : Int) from rfl, h1]
 simp only [Option.bind_some]
 rw [show ((0 : Nat) : Int) = (0 : Int) from rfl, h2, List.drop_zero]
theorem swapImpl (l : List Nat) (a e f : Nat) (hn : l.length ≤ 1048576) (ha : a < 256) (he : e < 8) (hf : f < 8) (hae : a.testBit e = true) (haf : a.testBit f = false) (k : Nat) (hk : l.length < k) :
  impl_FirstFailure_1.f k (ints l) (a : Int) (e : Int) (f : Int) = some (l.contains (a - 2 ^ e + 2 ^ f)) := by
 unfold impl_FirstFailure_1.f
 have h1 : (2 : Nat) ^ e < 2 ^ 62 := Nat.pow_lt_pow_right (by decide) (by omega)
 have h2 : (2 : Nat) ^ f < 2 ^ 62 := Nat.pow_lt_pow_right (by decide) (by omega)
 have h3 : diff a (2 ^ e) < 2 ^ 8 := diff_lt (n := 8) (by omega)
 rw [if_pos (by omega), if_pos (by omega), shl_nat e (by omega), shl_nat f (by omega), andNot_nat a _ (by omega), or_nat _ _ (by omega) h2, swap_eq a ha e he f hf hae haf]
 exact implHas l _ hn k hk
theorem exch_elems (l : List Nat) (a b e : Nat) : exch l a b e = (elems (diff b a)).any fun f => l.contains (a - 2 ^ e + 2 ^ f) := by
 rw [elems_any]
 unfold exch
 congr 1
 funext f
 rw [diff_bit]
theorem fails_elems (l : List Nat) : fails l = l.any fun a => l.any fun b => (elems (diff a b)).any fun e => !exch l a b e := by
 unfold fails
 congr 1
 funext a
 congr 1
 funext b
 rw [elems_any]
 congr 1
 funext e
 rw [diff_bit]
theorem implFirst (m : Nat) (hm : m ≤ 8) (l : List Nat) (hl : ∀ s ∈ l, s < 2 ^ m) (hn : l.length ≤ 1048576) (hf : fam (m : Int) (ints l) = true) :
  ∃ x y z, Ev (fun k => impl_FirstFailure.f k (m : Int) (ints l)) (x, y, z, fails l) := by
 have h256 := pow_le_256 hm
 have hlt : ∀ i, i < l.length → l.getD i 0 < 256 := fun i hi => Nat.lt_of_lt_of_le (hl _ (getD_mem l 0 i hi)) h256
 have inner : ∀ x y : Nat, x < l.length → y < l.length → ∀ d i : Nat, i + d = (elems (diff (l.getD x 0) (l.getD y 0))).length → _ := fun x y hx hy =>
  ev_search (fun k z => impl_FirstFailure.l2 k (m : Int) (ints l) (x : Int) ((l.getD x 0 : Nat) : Int) (y : Int) ((l.getD y 0 : Nat) : Int) (ints (elems (diff (l.getD x 0) (l.getD y 0)))) z) (elems (diff (l.getD x 0) (l.getD y 0))).length
   (fun z => !exch l (l.getD x 0) (l.getD y 0) ((elems (diff (l.getD x 0) (l.getD y 0))).getD z 0)) (fun r => r.2.2.2 = true)
   (by
    intro z hz hp
    have ha := hlt x hx
    have hb := hlt y hy
    obtain ⟨he, hbit⟩ := elems_lt (getD_mem _ 0 z hz)
    rw [diff_bit, Bool.and_eq_true] at hbit
    have hl8 := elems_length (diff (l.getD x 0) (l.getD y 0))
    have hd : diff (l.getD y 0) (l.getD x 0) < 2 ^ 8 := diff_lt (n := 8) (by omega)
    refine ⟨(((l.getD x 0 : Nat) : Int), ((l.getD y 0 : Nat) : Int), (((elems (diff (l.getD x 0) (l.getD y 0))).getD z 0 : Nat) : Int), true), rfl, ?_⟩
    refine Ev.step (f := fun k => (impl_ElementsOf.f k (Go.bits .andNot .i64 ((l.getD y 0 : Nat) : Int) ((l.getD x 0 : Nat) : Int))).bind fun fs => ((slices_ContainsFunc_int_int.f k fs (fun f => impl_FirstFailure_1.f k (ints l) ((l.getD x 0 : Nat) : Int) (((elems (diff (l.getD x 0) (l.getD y 0))).getD z 0 : Nat) : Int) f)).bind fun t => (if t = true then (impl_FirstFailure.l2 k (m : Int) (ints l) (x : Int) ((l.getD x 0 : Nat) : Int) (y : Int) ((l.getD y 0 : Nat) : Int) (ints (elems (diff (l.getD x 0) (l.getD y 0)))) ((z + 1 : Nat) : Int)) else (some (((l.getD x 0 : Nat) : Int), ((l.getD y 0 : Nat) : Int), (((elems (diff (l.getD x 0) (l.getD y 0))).getD z 0 : Nat) : Int), true))))) (fun k => ?_) ?_
    ·simp only [impl_FirstFailure.l2]
     rw [if_pos (by rw [ints_length]; omega), if_pos (by omega), ints_rd, Gen.w64s z (by omega)]
    ·rw [andNot_nat _ _ (by omega)]
     refine Ev.bind (implElements _ (by omega)) ?_
     refine Ev.bind (a := exch l (l.getD x 0) (l.getD y 0) ((elems (diff (l.getD x 0) (l.getD y 0))).getD z 0)) (Gen.ev_at (1048577 + 8) (fun k hk => ?_)) ?_
     ·rw [exch_elems]
      refine containsFunc _ _ _ (by have := elems_length (diff (l.getD y 0) (l.getD x 0)); omega) (fun f hf => ?_) k (by have := elems_length (diff (l.getD y 0) (l.getD x 0)); omega)
      obtain ⟨hf8, hfb⟩ := elems_lt hf
      rw [diff_bit, Bool.and_eq_true] at hfb
      exact swapImpl l _ _ _ hn ha he hf8 hbit.1 (by simpa using hfb.2) k (by omega)
     ·have hp' : exch l (l.getD x 0) (l.getD y 0) ((elems (diff (l.getD x 0) (l.getD y 0))).getD z 0) = false := by simpa using hp
      rw [hp']
      exact Ev.now _)
   (by
    intro z hz hp r hr
    have ha := hlt x hx
    have hb := hlt y hy
    obtain ⟨he, hbit⟩ := elems_lt (getD_mem _ 0 z hz)
    rw [diff_bit, Bool.and_eq_true] at hbit
    have hl8 := elems_length (diff (l.getD x 0) (l.getD y 0))
    have hd : diff (l.getD y 0) (l.getD x 0) < 2 ^ 8 := diff_lt (n := 8) (by omega)
    refine Ev.step (f := fun k => (impl_ElementsOf.f k (Go.bits .andNot .i64 ((l.getD y 0 : Nat) : Int) ((l.getD x 0 : Nat) : Int))).bind fun fs => ((slices_ContainsFunc_int_int.f k fs (fun f => impl_FirstFailure_1.f k (ints l) ((l.getD x 0 : Nat) : Int) (((elems (diff (l.getD x 0) (l.getD y 0))).getD z 0 : Nat) : Int) f)).bind fun t => (if t = true then (impl_FirstFailure.l2 k (m : Int) (ints l) (x : Int) ((l.getD x 0 : Nat) : Int) (y : Int) ((l.getD y 0 : Nat) : Int) (ints (elems (diff (l.getD x 0) (l.getD y 0)))) ((z + 1 : Nat) : Int)) else (some (((l.getD x 0 : Nat) : Int), ((l.getD y 0 : Nat) : Int), (((elems (diff (l.getD x 0) (l.getD y 0))).getD z 0 : Nat) : Int), true))))) (fun k => ?_) ?_
    ·simp only [impl_FirstFailure.l2]
     rw [if_pos (by rw [ints_length]; omega), if_pos (by omega), ints_rd, Gen.w64s z (by omega)]
    ·rw [andNot_nat _ _ (by omega)]
     refine Ev.bind (implElements _ (by omega)) ?_
     refine Ev.bind (a := exch l (l.getD x 0) (l.getD y 0) ((elems (diff (l.getD x 0) (l.getD y 0))).getD z 0)) (Gen.ev_at (1048577 + 8) (fun k hk => ?_)) ?_
     ·rw [exch_elems]
      refine containsFunc _ _ _ (by have := elems_length (diff (l.getD y 0) (l.getD x 0)); omega) (fun f hf => ?_) k (by have := elems_length (diff (l.getD y 0) (l.getD x 0)); omega)
      obtain ⟨hf8, hfb⟩ := elems_lt hf
      rw [diff_bit, Bool.and_eq_true] at hfb
      exact swapImpl l _ _ _ hn ha he hf8 hbit.1 (by simpa using hfb.2) k (by omega)
     ·have hp' : exch l (l.getD x 0) (l.getD y 0) ((elems (diff (l.getD x 0) (l.getD y 0))).getD z 0) = true := by simpa using hp
      rw [hp']
      simp only [if_true]
      exact hr)
 have innerAny : ∀ x y : Nat, ((List.range' 0 (elems (diff (l.getD x 0) (l.getD y 0))).length).any fun z => !exch l (l.getD x 0) (l.getD y 0) ((elems (diff (l.getD x 0) (l.getD y 0))).getD z 0)) = (elems (diff (l.getD x 0) (l.getD y 0))).any fun e => !exch l (l.getD x 0) (l.getD y 0) e := fun x y => any_index (elems (diff (l.getD x 0) (l.getD y 0))) 0 (fun e => !exch l (l.getD x 0) (l.getD y 0) e)
 have middle : ∀ x : Nat, x < l.length → ∀ d i : Nat, i + d = l.length → _ := fun x hx =>
  ev_search (fun k y => impl_FirstFailure.l1 k (m : Int) (ints l) (x : Int) ((l.getD x 0 : Nat) : Int) y) l.length
   (fun y => (elems (diff (l.getD x 0) (l.getD y 0))).any fun e => !exch l (l.getD x 0) (l.getD y 0) e) (fun r => r.2.2.2 = true)
   (by
    intro y hy hp
    have ha := hlt x hx
    obtain ⟨h1, _⟩ := inner x y hx hy (elems (diff (l.getD x 0) (l.getD y 0))).length 0 (by omega)
    rw [innerAny] at h1
    obtain ⟨r, hr, hE⟩ := h1 hp
    refine ⟨r, hr, Ev.step (f := fun k => (impl_ElementsOf.f k (Go.bits .andNot .i64 ((l.getD x 0 : Nat) : Int) ((l.getD y 0 : Nat) : Int))).bind fun es => (impl_FirstFailure.l2 k (m : Int) (ints l) (x : Int) ((l.getD x 0 : Nat) : Int) (y : Int) ((l.getD y 0 : Nat) : Int) es 0)) (fun k => ?_) ?_⟩
    ·simp only [impl_FirstFailure.l1]
     rw [if_pos (by rw [ints_length]; omega), if_pos (by omega), ints_rd]
    ·rw [andNot_nat _ _ (by omega)]
     have hd : diff (l.getD x 0) (l.getD y 0) < 2 ^ 8 := diff_lt (n := 8) (by omega)
     exact Ev.bind (implElements _ (by omega)) hE)
   (by
    intro y hy hp r hr
    have ha := hlt x hx
    obtain ⟨_, h2⟩ := inner x y hx hy (elems (diff (l.getD x 0) (l.getD y 0))).length 0 (by omega)
    rw [innerAny] at h2
    refine Ev.step (f := fun k => (impl_ElementsOf.f k (Go.bits .andNot .i64 ((l.getD x 0 : Nat) : Int) ((l.getD y 0 : Nat) : Int))).bind fun es => (impl_FirstFailure.l2 k (m : Int) (ints l) (x : Int) ((l.getD x 0 : Nat) : Int) (y : Int) ((l.getD y 0 : Nat) : Int) es 0)) (fun k => ?_) ?_
    ·simp only [impl_FirstFailure.l1]
     rw [if_pos (by rw [ints_length]; omega), if_pos (by omega), ints_rd]
    ·rw [andNot_nat _ _ (by omega)]
     have hd : diff (l.getD x 0) (l.getD y 0) < 2 ^ 8 := diff_lt (n := 8) (by omega)
     refine Ev.bind (implElements _ (by omega)) (h2 hp r (Ev.step (fun k => ?_) hr))
     simp only [impl_FirstFailure.l2]
     rw [if_neg (by rw [ints_length]; omega), Gen.w64s y (by omega)])
 have middleAny : ∀ x : Nat, ((List.range' 0 l.length).any fun y => (elems (diff (l.getD x 0) (l.getD y 0))).any fun e => !exch l (l.getD x 0) (l.getD y 0) e) = l.any fun b => (elems (diff (l.getD x 0) b)).any fun e => !exch l (l.getD x 0) b e := fun x => any_index l 0 (fun b => (elems (diff (l.getD x 0) b)).any fun e => !exch l (l.getD x 0) b e)
 obtain ⟨o1, o2⟩ := ev_search (fun k x => impl_FirstFailure.l0 k (m : Int) (ints l) x) l.length
   (fun x => l.any fun b => (elems (diff (l.getD x 0) b)).any fun e => !exch l (l.getD x 0) b e) (fun r => r.2.2.2 = true)
   (by
    intro x hx hp
    obtain ⟨h1, _⟩ := middle x hx l.length 0 (by omega)
    rw [middleAny] at h1
    obtain ⟨r, hr, hE⟩ := h1 hp
    refine ⟨r, hr, Ev.step (fun k => ?_) hE⟩
    simp only [impl_FirstFailure.l0]
    rw [if_pos (by rw [ints_length]; omega), if_pos (by omega), ints_rd]
    rfl)
   (by
    intro x hx hp r hr
    obtain ⟨_, h2⟩ := middle x hx l.length 0 (by omega)
    rw [middleAny] at h2
    have h3 := h2 hp r (Ev.step (fun k => by
     simp only [impl_FirstFailure.l1]
     rw [if_neg (by rw [ints_length]; omega), Gen.w64s x (by omega)]) hr)
    refine Ev.step (fun k => ?_) h3
    simp only [impl_FirstFailure.l0]
    rw [if_pos (by rw [ints_length]; omega), if_pos (by omega), ints_rd]
    rfl) l.length 0 (by omega)
 have outerAny : ((List.range' 0 l.length).any fun x => l.any fun b => (elems (diff (l.getD x 0) b)).any fun e => !exch l (l.getD x 0) b e) = fails l := by
  rw [fails_elems]
  exact any_index l 0 (fun a => l.any fun b => (elems (diff a b)).any fun e => !exch l a b e)
 rw [outerAny] at o1 o2
 have start : ∀ r, Ev (fun k => impl_FirstFailure.l0 k (m : Int) (ints l) 0) r → Ev (fun k => impl_FirstFailure.f k (m : Int) (ints l)) r := fun r hr => by
  unfold impl_FirstFailure.f
  refine Ev.bind (Gen.ev_at (l.length + 1) (fun k hk => implFamily (m : Int) (ints l) (by rw [ints_length]; exact hn) k (by rw [ints_length]; omega))) ?_
  rw [hf]
  simp only [if_true]
  exact hr
 cases hfl : fails l with
 | true =>
  obtain ⟨⟨x, y, z, b⟩, hb, hE⟩ := o1 hfl
  simp only at hb
  subst hb
  exact ⟨x, y, z, start _ hE⟩
 | false =>
  refine ⟨0, 0, 0, start _ (o2 hfl _ (Gen.ev_at 1 (fun k hk => ?_)))⟩
  obtain ⟨q, rfl⟩ : ∃ q, k = q + 1 := ⟨k - 1, by omega⟩
  simp only [impl_FirstFailure.l0]
  rw [if_neg (by rw [ints_length]; omega)]
theorem u64_small (e : Nat) (he : e < 62) : IntKind.u64.wrap (e : Int) = e := by
 unfold IntKind.wrap
 simp only [IntKind.bits, IntKind.signed, Bool.false_and, Bool.false_eq_true, if_false]
 omega
theorem l2Has (s e : Nat) (hs : s < 256) (he : e < 8) : spec_l2Has.f (s : Int) (e : Int) = some (s.testBit e) := by
 unfold spec_l2Has.f
 rw [u64_small e (by omega), if_pos (by omega), shr_bit s e (by omega) (by omega)]
theorem specExchange (m : Nat) (hm : m ≤ 8) (l : List Nat) (hn : l.length ≤ 1048576) (a b e : Nat) (ha : a < 256) (hb : b < 2 ^ m) (he : e < 8) (hae : a.testBit e = true) : Ev (fun k => spec_l4Exchange.f k (m : Int) (ints l) (a : Int) (b : Int) (e : Int)) (exch l a b e) := by
 have h256 := pow_le_256 hm
 unfold spec_l4Exchange.f
 have hle := bit_le a ha e he hae
 have key : ∀ f : Nat, f < m → a.testBit f = false → wrap64 ((wrap64 ((a : Int) - ((2 ^ e : Nat) : Int))) + ((2 ^ f : Nat) : Int)) = ((a - 2 ^ e + 2 ^ f : Nat) : Int) := fun f hf haf => by
  have h1 := swap_le a ha e he f (by omega) hae haf
  have h2 : 2 ^ f ≤ 256 := pow_le_256 (by omega)
  clear hae
  generalize (2 : Nat) ^ e = P at *
  generalize (2 : Nat) ^ f = Q at *
  rw [Gen.w64 (i := (a : Int) - (P : Int)) (by omega) (by omega), Gen.w64 (by omega) (by omega)]
  omega
 obtain ⟨o1, o2⟩ := ev_search (fun k f => spec_l4Exchange.l0 k (a : Int) (b : Int) (e : Int) f (m : Int) (ints l)) m (fun f => b.testBit f && !a.testBit f && l.contains (a - 2 ^ e + 2 ^ f)) (fun r => r = true)
  (by
   intro f hf hp
   rw [Bool.and_eq_true, Bool.and_eq_true] at hp
   obtain ⟨⟨h1, h2⟩, h3⟩ := hp
   have h2' : a.testBit f = false := by simpa using h2
   refine ⟨true, rfl, Gen.ev_at (l.length + 2) (fun k hk => ?_)⟩
   obtain ⟨q, rfl⟩ : ∃ q, k = q + 1 := ⟨k - 1, by omega⟩
   simp only [spec_l4Exchange.l0]
   rw [if_pos (by omega), l2Has b f (by omega) (by omega), h1]
   simp only [Option.bind_some, if_true]
   rw [l2Has a f ha (by omega), h2']
   simp only [Option.bind_some, Bool.false_eq_true, if_false]
   rw [u64_small e (by omega), u64_small f (by omega), if_pos (by omega), if_pos (by omega), shl_nat e (by omega), shl_nat f (by omega), key f hf h2', specHas l _ hn q (by omega), h3]
   rfl)
  (by
   intro f hf hp r hr
   by_cases h1 : b.testBit f = true
   ·by_cases h2 : a.testBit f = true
    ·refine Ev.step (fun k => ?_) hr
     simp only [spec_l4Exchange.l0]
     rw [if_pos (by omega), l2Has b f (by omega) (by omega), h1]
     simp only [Option.bind_some, if_true]
     rw [l2Has a f ha (by omega), h2]
     simp only [Option.bind_some, if_true]
     rw [Gen.w64s f (by omega)]
    ·have h2' : a.testBit f = false := by simpa using h2
     have h3 : l.contains (a - 2 ^ e + 2 ^ f) = false := by
      rw [h1, h2'] at hp
      simpa using hp
     refine Ev.step (f := fun k => (spec_HasSet.f k (ints l) ((a - 2 ^ e + 2 ^ f : Nat) : Int)).bind fun t => (if t = true then (some true) else (spec_l4Exchange.l0 k (a : Int) (b : Int) (e : Int) ((f + 1 : Nat) : Int) (m : Int) (ints l)))) (fun k => ?_) ?_
     ·simp only [spec_l4Exchange.l0]
      rw [if_pos (by omega), l2Has b f (by omega) (by omega), h1]
      simp only [Option.bind_some, if_true]
      rw [l2Has a f ha (by omega), h2']
      simp only [Option.bind_some, Bool.false_eq_true, if_false]
      rw [u64_small e (by omega), u64_small f (by omega), if_pos (by omega), if_pos (by omega), shl_nat e (by omega), shl_nat f (by omega), key f hf h2', Gen.w64s f (by omega)]
     ·refine Ev.bind (Gen.ev_at (l.length + 1) (fun k hk => specHas l _ hn k (by omega))) ?_
      rw [h3]
      exact hr
   ·have h1' : b.testBit f = false := by simpa using h1
    refine Ev.step (fun k => ?_) hr
    simp only [spec_l4Exchange.l0]
    rw [if_pos (by omega), l2Has b f (by omega) (by omega), h1']
    simp only [Option.bind_some, Bool.false_eq_true, if_false]
    rw [Gen.w64s f (by omega)]) m 0 (by omega)
 have e8 : ((List.range' 0 m).any fun f => b.testBit f && !a.testBit f && l.contains (a - 2 ^ e + 2 ^ f)) = exch l a b e := range8 m hm _ (fun j hj => by rw [bit_far hb hj]; rfl)
 rw [e8] at o1 o2
 cases hx : exch l a b e with
 | true =>
  obtain ⟨r, rfl, hE⟩ := o1 hx
  exact hE
 | false =>
  refine o2 hx _ (Gen.ev_at 1 (fun k hk => ?_))
  obtain ⟨q, rfl⟩ : ∃ q, k = q + 1 := ⟨k - 1, by omega⟩
  simp only [spec_l4Exchange.l0]
  rw [if_neg (by omega)]
theorem specFirst (m : Nat) (hm : m ≤ 8) (l : List Nat) (hl : ∀ s ∈ l, s < 2 ^ m) (hn : l.length ≤ 1048576) (hf : fam (m : Int) (ints l) = true) :
  ∃ x y z, Ev (fun k => spec_FirstFailure.f k (m : Int) (ints l)) (x, y, z, fails l) := by
 have h256 := pow_le_256 hm
 have hlt : ∀ i, i < l.length → l.getD i 0 < 256 := fun i hi => Nat.lt_of_lt_of_le (hl _ (getD_mem l 0 i hi)) h256
 have hltm : ∀ i, i < l.length → l.getD i 0 < 2 ^ m := fun i hi => hl _ (getD_mem l 0 i hi)
 have round : ∀ x y z : Nat, x < l.length → y < l.length → z < m → ∀ r, (((l.getD x 0).testBit z && !(l.getD y 0).testBit z && !exch l (l.getD x 0) (l.getD y 0) z) = true → r.2.2.2 = true → r = (((l.getD x 0 : Nat) : Int), ((l.getD y 0 : Nat) : Int), (z : Int), true) → Ev (fun k => spec_FirstFailure.l2 k (x : Int) (y : Int) (z : Int) (m : Int) (ints l)) r) ∧
   (((l.getD x 0).testBit z && !(l.getD y 0).testBit z && !exch l (l.getD x 0) (l.getD y 0) z) = false → Ev (fun k => spec_FirstFailure.l2 k (x : Int) (y : Int) ((z + 1 : Nat) : Int) (m : Int) (ints l)) r → Ev (fun k => spec_FirstFailure.l2 k (x : Int) (y : Int) (z : Int) (m : Int) (ints l)) r) := by
  intro x y z hx hy hz r
  have ha := hlt x hx
  have hb := hlt y hy
  have unf : ∀ k, spec_FirstFailure.l2 (k + 1) (x : Int) (y : Int) (z : Int) (m : Int) (ints l) = (if (l.getD x 0).testBit z = true then (if (l.getD y 0).testBit z = true then spec_FirstFailure.l2 k (x : Int) (y : Int) ((z + 1 : Nat) : Int) (m : Int) (ints l) else ((spec_l4Exchange.f k (m : Int) (ints l) ((l.getD x 0 : Nat) : Int) ((l.getD y 0 : Nat) : Int) (z : Int)).bind fun t => (if t = true then spec_FirstFailure.l2 k (x : Int) (y : Int) ((z + 1 : Nat) : Int) (m : Int) (ints l) else some (((l.getD x 0 : Nat) : Int), ((l.getD y 0 : Nat) : Int), (z : Int), true)))) else spec_FirstFailure.l2 k (x : Int) (y : Int) ((z + 1 : Nat) : Int) (m : Int) (ints l)) := fun k => by
   simp only [spec_FirstFailure.l2]
   rw [if_pos (by omega), if_pos (by omega), if_pos (by rw [ints_length]; omega), if_pos (by omega), if_pos (by rw [ints_length]; omega), ints_rd, ints_rd, l2Has _ z ha (by omega)]
   simp only [Option.bind_some]
   rw [l2Has _ z hb (by omega)]
   simp only [Option.bind_some]
   rw [Gen.w64s z (by omega)]
  cases h1 : (l.getD x 0).testBit z with
  | false =>
   refine ⟨fun h => by simp at h, fun _ hr => Ev.step (fun k => ?_) hr⟩
   rw [unf, h1, if_neg (by decide)]
  | true =>
   cases h2 : (l.getD y 0).testBit z with
   | true =>
    refine ⟨fun h => by simp at h, fun _ hr => Ev.step (fun k => ?_) hr⟩
    rw [unf, h1, h2, if_pos rfl, if_pos rfl]
   | false =>
    have hE := specExchange m hm l hn (l.getD x 0) (l.getD y 0) z ha (hltm y hy) (by omega) h1
    cases h3 : exch l (l.getD x 0) (l.getD y 0) z with
    | true =>
     rw [h3] at hE
     refine ⟨fun h => by simp at h, fun _ hr => Ev.step (fun k => ?_) (Ev.bind hE (f := fun k t => (if t = true then spec_FirstFailure.l2 k (x : Int) (y : Int) ((z + 1 : Nat) : Int) (m : Int) (ints l) else some (((l.getD x 0 : Nat) : Int), ((l.getD y 0 : Nat) : Int), (z : Int), true))) (by simp only [if_true]; exact hr))⟩
     rw [unf, h1, h2, if_pos rfl, if_neg (by decide)]
    | false =>
     rw [h3] at hE
     refine ⟨fun _ _ e => ?_, fun h => by simp at h⟩
     subst e
     refine Ev.step (fun k => ?_) (Ev.bind hE (f := fun k t => (if t = true then spec_FirstFailure.l2 k (x : Int) (y : Int) ((z + 1 : Nat) : Int) (m : Int) (ints l) else some (((l.getD x 0 : Nat) : Int), ((l.getD y 0 : Nat) : Int), (z : Int), true))) (by simp only [Bool.false_eq_true, if_false]; exact Ev.now _))
     rw [unf, h1, h2, if_pos rfl, if_neg (by decide)]
 have inner : ∀ x y : Nat, x < l.length → y < l.length → ∀ d i : Nat, i + d = m → _ := fun x y hx hy =>
  ev_search (fun k z => spec_FirstFailure.l2 k (x : Int) (y : Int) z (m : Int) (ints l)) m
   (fun z => (l.getD x 0).testBit z && !(l.getD y 0).testBit z && !exch l (l.getD x 0) (l.getD y 0) z) (fun r => r.2.2.2 = true)
   (fun z hz hp => ⟨_, rfl, (round x y z hx hy hz (((l.getD x 0 : Nat) : Int), ((l.getD y 0 : Nat) : Int), (z : Int), true)).1 hp rfl rfl⟩)
   (fun z hz hp r hr => (round x y z hx hy hz r).2 hp hr)
 have innerAny : ∀ x y : Nat, x < l.length → ((List.range' 0 m).any fun z => (l.getD x 0).testBit z && !(l.getD y 0).testBit z && !exch l (l.getD x 0) (l.getD y 0) z) = (List.range' 0 8).any fun e => (l.getD x 0).testBit e && !(l.getD y 0).testBit e && !exch l (l.getD x 0) (l.getD y 0) e := fun x y hx => range8 m hm _ (fun j hj => by rw [bit_far (hltm x hx) hj]; rfl)
 have middle : ∀ x : Nat, x < l.length → ∀ d i : Nat, i + d = l.length → _ := fun x hx =>
  ev_search (fun k y => spec_FirstFailure.l1 k (x : Int) y (m : Int) (ints l)) l.length
   (fun y => (List.range' 0 8).any fun e => (l.getD x 0).testBit e && !(l.getD y 0).testBit e && !exch l (l.getD x 0) (l.getD y 0) e) (fun r => r.2.2.2 = true)
   (by
    intro y hy hp
    obtain ⟨h1, _⟩ := inner x y hx hy m 0 (by omega)
    rw [innerAny x y hx] at h1
    obtain ⟨r, hr, hE⟩ := h1 hp
    refine ⟨r, hr, Ev.step (fun k => ?_) hE⟩
    simp only [spec_FirstFailure.l1]
    rw [if_pos (by rw [ints_length]; omega)]
    rfl)
   (by
    intro y hy hp r hr
    obtain ⟨_, h2⟩ := inner x y hx hy m 0 (by omega)
    rw [innerAny x y hx] at h2
    refine Ev.step (fun k => ?_) (h2 hp r (Ev.step (fun k => by
     simp only [spec_FirstFailure.l2]
     rw [if_neg (by omega), Gen.w64s y (by omega)]) hr))
    simp only [spec_FirstFailure.l1]
    rw [if_pos (by rw [ints_length]; omega)]
    rfl)
 have middleAny : ∀ x : Nat, ((List.range' 0 l.length).any fun y => (List.range' 0 8).any fun e => (l.getD x 0).testBit e && !(l.getD y 0).testBit e && !exch l (l.getD x 0) (l.getD y 0) e) = l.any fun b => (List.range' 0 8).any fun e => (l.getD x 0).testBit e && !b.testBit e && !exch l (l.getD x 0) b e := fun x => any_index l 0 (fun b => (List.range' 0 8).any fun e => (l.getD x 0).testBit e && !b.testBit e && !exch l (l.getD x 0) b e)
 obtain ⟨o1, o2⟩ := ev_search (fun k x => spec_FirstFailure.l0 k x (m : Int) (ints l)) l.length
   (fun x => l.any fun b => (List.range' 0 8).any fun e => (l.getD x 0).testBit e && !b.testBit e && !exch l (l.getD x 0) b e) (fun r => r.2.2.2 = true)
   (by
    intro x hx hp
    obtain ⟨h1, _⟩ := middle x hx l.length 0 (by omega)
    rw [middleAny] at h1
    obtain ⟨r, hr, hE⟩ := h1 hp
    refine ⟨r, hr, Ev.step (fun k => ?_) hE⟩
    simp only [spec_FirstFailure.l0]
    rw [if_pos (by rw [ints_length]; omega)]
    rfl)
   (by
    intro x hx hp r hr
    obtain ⟨_, h2⟩ := middle x hx l.length 0 (by omega)
    rw [middleAny] at h2
    refine Ev.step (fun k => ?_) (h2 hp r (Ev.step (fun k => by
     simp only [spec_FirstFailure.l1]
     rw [if_neg (by rw [ints_length]; omega), Gen.w64s x (by omega)]) hr))
    simp only [spec_FirstFailure.l0]
    rw [if_pos (by rw [ints_length]; omega)]
    rfl) l.length 0 (by omega)
 have outerAny : ((List.range' 0 l.length).any fun x => l.any fun b => (List.range' 0 8).any fun e => (l.getD x 0).testBit e && !b.testBit e && !exch l (l.getD x 0) b e) = fails l := by
  unfold fails
  exact any_index l 0 (fun a => l.any fun b => (List.range' 0 8).any fun e => a.testBit e && !b.testBit e && !exch l a b e)
 rw [outerAny] at o1 o2
 have start : ∀ r, Ev (fun k => spec_FirstFailure.l0 k 0 (m : Int) (ints l)) r → Ev (fun k => spec_FirstFailure.f k (m : Int) (ints l)) r := fun r hr => by
  unfold spec_FirstFailure.f
  refine Ev.bind (Gen.ev_at (l.length + 1) (fun k hk => specFamily (m : Int) (ints l) (by rw [ints_length]; exact hn) k (by rw [ints_length]; omega))) ?_
  rw [hf]
  simp only [if_true]
  exact hr
 cases hfl : fails l with
 | true =>
  obtain ⟨⟨x, y, z, b⟩, hb, hE⟩ := o1 hfl
  simp only at hb
  subst hb
  exact ⟨x, y, z, start _ hE⟩
 | false =>
  refine ⟨0, 0, 0, start _ (o2 hfl _ (Gen.ev_at 1 (fun k hk => ?_)))⟩
  obtain ⟨q, rfl⟩ : ∃ q, k = q + 1 := ⟨k - 1, by omega⟩
  simp only [spec_FirstFailure.l0]
  rw [if_neg (by rw [ints_length]; omega)]
def isMat (n : Int) (l : List Int) : Bool := fam n l && decide (0 < l.length) && !fails (l.map Int.toNat)
theorem toNat_ints (l : List Nat) : (ints l).map Int.toNat = l := by
 unfold ints
 rw [List.map_map]
 conv => rhs; rw [← List.map_id l]
 exact List.map_congr_left fun x _ => by simp
theorem implMat (n : Int) (l : List Int) (hn : l.length ≤ 1048576) : Ev (fun k => impl_IsMatroid.f k n l) (isMat n l) := by
 unfold impl_IsMatroid.f isMat
 have hF : Ev (fun k => impl_IsFamily.f k n l) (fam n l) := Gen.ev_at (l.length + 1) (fun k hk => implFamily n l hn k (by omega))
 cases hf : fam n l with
 | false =>
  rw [hf] at hF
  refine Ev.bind (a := (0, 0, 0, false)) ?_ (Ev.bind hF (by simp only [Bool.false_eq_true, if_false]; exact Ev.now _))
  unfold impl_FirstFailure.f
  exact Ev.bind hF (by simp only [Bool.false_eq_true, if_false]; exact Ev.now _)
 | true =>
  rw [hf] at hF
  obtain ⟨m, lN, rfl, hm, rfl, hl⟩ := fam_nat hf
  rw [toNat_ints]
  rw [ints_length] at hn
  obtain ⟨x, y, z, hE⟩ := implFirst m hm lN hl hn hf
  refine Ev.bind hE (Ev.bind hF ?_)
  simp only [if_true, ints_length]
  by_cases h0 : 0 < lN.length
  ·simp only [if_pos (show (lN.length : Int) > 0 by omega), decide_eq_true h0, Bool.true_and]
   exact Ev.now _
  ·simp only [if_neg (show ¬ (lN.length : Int) > 0 by omega), decide_eq_false h0, Bool.true_and, Bool.false_and]
   exact Ev.now _
theorem specMat (n : Int) (l : List Int) (hn : l.length ≤ 1048576) : Ev (fun k => spec_IsMatroid.f k n l) (isMat n l) := by
 unfold spec_IsMatroid.f isMat
 have hF : Ev (fun k => spec_IsFamily.f k n l) (fam n l) := Gen.ev_at (l.length + 1) (fun k hk => specFamily n l hn k (by omega))
 cases hf : fam n l with
 | false =>
  rw [hf] at hF
  refine Ev.bind (a := (0, 0, 0, false)) ?_ (Ev.bind hF (by simp only [Bool.false_eq_true, if_false]; exact Ev.now _))
  unfold spec_FirstFailure.f
  exact Ev.bind hF (by simp only [Bool.false_eq_true, if_false]; exact Ev.now _)
 | true =>
  rw [hf] at hF
  obtain ⟨m, lN, rfl, hm, rfl, hl⟩ := fam_nat hf
  rw [toNat_ints]
  rw [ints_length] at hn
  obtain ⟨x, y, z, hE⟩ := specFirst m hm lN hl hn hf
  refine Ev.bind hE (Ev.bind hF ?_)
  simp only [if_true, ints_length]
  by_cases h0 : 0 < lN.length
  ·simp only [if_pos (show (lN.length : Int) > 0 by omega), decide_eq_true h0, Bool.true_and]
   exact Ev.now _
  ·simp only [if_neg (show ¬ (lN.length : Int) > 0 by omega), decide_eq_false h0, Bool.true_and, Bool.false_and]
   exact Ev.now _
end Go.Proofs.Ytmpodackojmojaa.Mat
end
section
namespace Go.Proofs.Ytmpodackojmojaa.RankS
open Go.RowKit Go.Proofs.Ytmpodackojmojaa.Pr Go.Proofs.Ytmpodackojmojaa.Gen Go.Proofs.Ytmpodackojmojaa.Grid Go.Proofs.Ytmpodackojmojaa.Lin Go.Proofs.YtmpodackojmojaaW.PrintWords Go.Proofs.YtmpodackojmojaaW.PrintLast Go.Proofs.YtmpodackojmojaaW.PrintMore
set_option linter.unusedVariables false
theorem mulb {a b : Int} (ha : 0 ≤ a ∧ a < 3) (hb : 0 ≤ b ∧ b < 3) : 0 ≤ a * b ∧ a * b ≤ 4 := by
 have h1 : a = 0 ∨ a = 1 ∨ a = 2 := by omega
 have h2 : b = 0 ∨ b = 1 ∨ b = 2 := by omega
 rcases h1 with rfl | rfl | rfl <;> rcases h2 with rfl | rfl | rfl <;> decide
theorem val {p x y : Int} (hp : p = 2 ∨ p = 3) (hx : 0 ≤ x ∧ x ≤ 9) (hy : 0 ≤ y ∧ y ≤ 9) : Int.tmod (wrap64 ((Int.tmod (wrap64 ((wrap64 x) - (wrap64 y))) p) + p)) p = (x - y) % p := by
 rw [w64 (i := x) (by omega) (by omega), w64 (i := y) (by omega) (by omega), w64 (i := x - y) (by omega) (by omega)]
 have h0 := Int.emod_nonneg (x - y) (show p ≠ 0 by omega)
 have h1 := Int.emod_lt_of_pos (x - y) (show 0 < p by omega)
 rw [w64 (i := Int.tmod (x - y) p + p) (by rcases tm (p := p) (x := x - y) hp with e | ⟨_, e, _⟩ <;> omega) (by rcases tm (p := p) (x := x - y) hp with e | ⟨_, e, _⟩ <;> omega)]
 exact modp hp
def row (p : Int) (f : Nat → Nat → Int) (r j i c : Nat) : Int := (f i c * f r j - f r c * f i j) % p
theorem l4_run {p : Int} (hp : p = 2 ∨ p = 3) {R C : Nat} (hR : R ≤ 8) (hC : C ≤ 8) {f : Nat → Nat → Int} (hf : Ok p R C f) {r j i : Nat} (hr : r < R) (hj : j < C) (hi : i < R) (hir : i ≠ r) {v : Int} (s : Int)
  (h : Ev (fun k => spec_l4Rank.l3 k p R C s (lst R C (fun i' c' => if i' = i then row p f r j i c' else f i' c')) r j ((i + 1 : Nat) : Int)) v) :
  ∀ d c : Nat, c + d = C → Ev (fun k => spec_l4Rank.l4 k p R C s (lst R C (fun i' c' => if i' = i ∧ c' < c then row p f r j i c' else f i' c')) r j i (f i j) (f r j) c) v := by
 intro d
 induction d with
 | zero =>
  intro c hc
  obtain rfl : c = C := by omega
  refine Ev.step (fun k => ?_) h
  simp only [spec_l4Rank.l4]
  rw [if_neg (by omega), w64s i (by omega)]
  rw [lst_congr (g := fun i' c' => if i' = i then row p f r j i c' else f i' c') fun i' c' h1 h2 => by simp only [h2, and_true]]
 | succ d ih =>
  intro c hc
  have hcC : c < C := by omega
  refine Ev.step (fun k => ?_) (ih (c + 1) (by omega))
  simp only [spec_l4Rank.l4]
  have hl1 := lt_ix (R := R) hi hcC
  have hl2 := lt_ix (R := R) hr hcC
  rw [if_pos (by omega), ix (by omega) (by omega) (by omega), ix (by omega) (by omega) (by omega), if_pos (by omega), if_pos (by rw [lst_length]; omega), if_pos (by omega), if_pos (by rw [lst_length]; omega), if_neg (by omega)]
  rw [rd_lst _ hi hcC, rd_lst _ hr hcC, Int.toNat_natCast, set_lst _ hi hcC, w64s c (by omega)]
  have b1 := hf i c hi hcC
  have b2 := hf r c hr hcC
  have b3 := hf i j hi hj
  have b4 := hf r j hr hj
  have m1 := mulb (a := f i c) (b := f r j) (by omega) (by omega)
  have m2 := mulb (a := f r c) (b := f i j) (by omega) (by omega)
  rw [if_neg (show ¬ (i = i ∧ c < c) by omega), if_neg (show ¬ (r = i ∧ c < c) by omega), val hp (by omega) (by omega)]
  congr 1
  refine lst_congr fun i' c' h1 h2 => ?_
  by_cases e : i' = i
  ·subst e
   by_cases e2 : c' = c
   ·subst e2
    rw [if_pos ⟨rfl, rfl⟩, if_pos ⟨rfl, by omega⟩]
    rfl
   ·by_cases e3 : c' < c
    ·rw [if_neg (fun h => e2 h.2), if_pos ⟨rfl, e3⟩, if_pos ⟨rfl, by omega⟩]
    ·rw [if_neg (fun h => e2 h.2), if_neg (fun h => e3 h.2), if_neg (by omega)]
  ·rw [if_neg (fun h => e h.1), if_neg (fun h => e h.1), if_neg (fun h => e h.1)]
theorem l3_run {p : Int} (hp : p = 2 ∨ p = 3) {R C : Nat} (hR : R ≤ 8) (hC : C ≤ 8) {f : Nat → Nat → Int} (hf : Ok p R C f) {r j : Nat} (hr : r < R) (hj : j < C) {v : Int} (s : Int)
  (h : Ev (fun k => spec_l4Rank.l0 k p R C s (lst R C (fun i' c' => if r < i' then row p f r j i' c' else f i' c')) ((r + 1 : Nat) : Int) ((j + 1 : Nat) : Int)) v) :
  ∀ d i : Nat, i + d = R → r < i → Ev (fun k => spec_l4Rank.l3 k p R C s (lst R C (fun i' c' => if r < i' ∧ i' < i then row p f r j i' c' else f i' c')) r j i) v := by
 intro d
 induction d with
 | zero =>
  intro i hi _
  obtain rfl : i = R := by omega
  refine Ev.step (fun k => ?_) h
  simp only [spec_l4Rank.l3]
  rw [if_neg (by omega), w64s r (by omega), w64s j (by omega)]
  rw [lst_congr (g := fun i' c' => if r < i' then row p f r j i' c' else f i' c') fun i' c' h1 h2 => by simp only [h1, and_true]]
 | succ d ih =>
  intro i hi hri
  have hiR : i < R := by omega
  obtain ⟨g, hg⟩ : ∃ g : Nat → Nat → Int, g = fun i' c' => if r < i' ∧ i' < i then row p f r j i' c' else f i' c' := ⟨_, rfl⟩
  have g1 : ∀ c, g i c = f i c := fun c => by rw [hg]; exact if_neg (by omega)
  have g2 : ∀ c, g r c = f r c := fun c => by rw [hg]; exact if_neg (by omega)
  have hgk : Ok p R C g := by
   intro i' c' h1 h2
   rw [hg]
   show 0 ≤ (if r < i' ∧ i' < i then row p f r j i' c' else f i' c') ∧ (if r < i' ∧ i' < i then row p f r j i' c' else f i' c') < p
   by_cases e : r < i' ∧ i' < i
   ·rw [if_pos e]; exact ok_mod hp _
   ·rw [if_neg e]; exact hf i' c' h1 h2
  have e1 : lst R C (fun i' c' => if i' = i then row p g r j i c' else g i' c') = lst R C (fun i' c' => if r < i' ∧ i' < i + 1 then row p f r j i' c' else f i' c') := by
   refine lst_congr fun i' c' h1 h2 => ?_
   by_cases e : i' = i
   ·subst e
    rw [if_pos rfl, if_pos (by omega)]
    show (g i' c' * g r j - g r c' * g i' j) % p = _
    rw [g1, g2, g2, g1]
    rfl
   ·rw [if_neg e, hg]
    show (if r < i' ∧ i' < i then row p f r j i' c' else f i' c') = _
    by_cases e3 : r < i' ∧ i' < i
    ·rw [if_pos e3, if_pos (by omega)]
    ·rw [if_neg e3, if_neg (by omega)]
  have h2 := ih (i + 1) (by omega) (by omega)
  rw [← e1] at h2
  have h3 := l4_run hp hR hC hgk hr hj hiR (by omega) s h2 C 0 (by omega)
  rw [← hg]
  refine Ev.step (fun k => ?_) h3
  simp only [spec_l4Rank.l3]
  have hl1 := lt_ix (R := R) hiR hj
  have hl2 := lt_ix (R := R) hr hj
  rw [if_pos (by omega), ix (by omega) (by omega) (by omega), ix (by omega) (by omega) (by omega), if_pos (by omega), if_pos (by rw [lst_length]; omega), if_pos (by omega), if_pos (by rw [lst_length]; omega), rd_lst _ hiR hj, rd_lst _ hr hj]
  rw [lst_congr (f := fun i' c' => if i' = i ∧ c' < 0 then row p g r j i c' else g i' c') (g := g) fun i' c' h1 h2 => if_neg (by omega)]
  rfl
theorem l2_run {p : Int} {R C : Nat} (hR : R ≤ 8) (hC : C ≤ 8) {f : Nat → Nat → Int} {r j b : Nat} (hr : r < R) (hb : b < R) {v : Int} (s : Int)
  (h : Ev (fun k => spec_l4Rank.l3 k p R C s (lst R C (swapr f r b)) r j ((r + 1 : Nat) : Int)) v) :
  ∀ d c : Nat, c + d = C → Ev (fun k => spec_l4Rank.l2 k p R C s (lst R C (fun i' c' => if c' < c then swapr f r b i' c' else f i' c')) r j b c) v := by
 intro d
 induction d with
 | zero =>
  intro c hc
  obtain rfl : c = C := by omega
  refine Ev.step (fun k => ?_) h
  simp only [spec_l4Rank.l2]
  rw [if_neg (by omega), w64s r (by omega)]
  rw [lst_congr (g := swapr f r b) fun i' c' h1 h2 => if_pos h2]
 | succ d ih =>
  intro c hc
  have hcC : c < C := by omega
  refine Ev.step (fun k => ?_) (ih (c + 1) (by omega))
  simp only [spec_l4Rank.l2]
  have hl1 := lt_ix (R := R) hb hcC
  have hl2 := lt_ix (R := R) hr hcC
  rw [if_pos (by omega), ix (by omega) (by omega) (by omega), ix (by omega) (by omega) (by omega), if_pos (by omega), if_pos (by rw [lst_length]; omega), if_pos (by omega), if_pos (by rw [lst_length]; omega)]
  rw [rd_lst _ hb hcC, rd_lst _ hr hcC, Int.toNat_natCast, Int.toNat_natCast, set_lst _ hb hcC, set_lst _ hr hcC, w64s c (by omega)]
  rw [if_neg (show ¬ c < c by omega), if_neg (show ¬ c < c by omega)]
  congr 1
  refine lst_congr fun i' c' h1 h2 => ?_
  by_cases e2 : c' = c
  ·subst e2
   rw [if_pos (show c' < c' + 1 by omega)]
   unfold swapr
   by_cases e : i' = r
   ·rw [if_pos ⟨e, rfl⟩, if_pos e]
   ·rw [if_neg (fun h => e h.1), if_neg e]
    by_cases e3 : i' = b
    ·rw [if_pos ⟨e3, rfl⟩, if_pos e3]
    ·rw [if_neg (fun h => e3 h.1), if_neg e3, if_neg (by omega)]
  ·rw [if_neg (fun h => e2 h.2), if_neg (fun h => e2 h.2)]
   by_cases e3 : c' < c
   ·rw [if_pos e3, if_pos (by omega)]
   ·rw [if_neg e3, if_neg (by omega)]
theorem l1_run {p : Int} {R C : Nat} (hR : R ≤ 8) (hC : C ≤ 8) {f : Nat → Nat → Int} {r j : Nat} (hj : j < C) (s : Int) :
  ∀ d i : Nat, i + d = R → r ≤ i → (∀ i', r ≤ i' → i' < i → f i' j = 0) → ∃ b, r ≤ b ∧ ((b < R ∧ f b j ≠ 0) ∨ (b = R ∧ ∀ i', r ≤ i' → i' < R → f i' j = 0)) ∧
   ∀ v : Int, Ev (fun k => spec_l4Rank.j2 k p R C s (lst R C f) r j b) v → Ev (fun k => spec_l4Rank.l1 k p R C s (lst R C f) r j i) v := by
 intro d
 induction d with
 | zero =>
  intro i hi hri hz
  obtain rfl : i = R := by omega
  refine ⟨i, hri, .inr ⟨rfl, hz⟩, fun v h => Ev.step (fun k => ?_) h⟩
  simp only [spec_l4Rank.l1]
  rw [if_neg (by omega)]
 | succ d ih =>
  intro i hi hri hz
  have hiR : i < R := by omega
  have hl1 := lt_ix (R := R) hiR hj
  by_cases e : f i j = 0
  ·obtain ⟨b, h1, h2, h3⟩ := ih (i + 1) (by omega) (by omega) (fun i' h4 h5 => by
    by_cases e2 : i' = i
    ·rw [e2]; exact e
    ·exact hz i' h4 (by omega))
   refine ⟨b, h1, h2, fun v h => Ev.step (fun k => ?_) (h3 v h)⟩
   simp only [spec_l4Rank.l1]
   rw [if_pos (by omega), ix (by omega) (by omega) (by omega), if_pos (by omega), if_pos (by rw [lst_length]; omega), rd_lst _ hiR hj, if_pos e, w64s i (by omega)]
  ·refine ⟨i, hri, .inl ⟨hiR, e⟩, fun v h => Ev.step (fun k => ?_) h⟩
   simp only [spec_l4Rank.l1]
   rw [if_pos (by omega), ix (by omega) (by omega) (by omega), if_pos (by omega), if_pos (by rw [lst_length]; omega), rd_lst _ hiR hj, if_neg e]
theorem l0_run {p : Int} (hp : p = 2 ∨ p = 3) {R C s : Nat} (hR : R ≤ 8) (hC : C ≤ 8) (hs : s < 256) {A : Nat → Nat → Int} :
  ∀ d j r : Nat, j + d = C → ∀ (f : Nat → Nat → Int) (PV : Nat → Bool), Ok p R C f → Elim p R C A (fun j => s.testBit j) j f r PV → ∃ r' : Nat, Rank p R C A (fun j => s.testBit j) r' ∧ Ev (fun k => spec_l4Rank.l0 k p R C (s : Int) (lst R C f) r j) (r' : Int) := by
 intro d
 induction d with
 | zero =>
  intro j r hj f PV hf hE
  obtain rfl : j = C := by omega
  refine ⟨r, hE.rank (pr hp), Ev.step (f := fun _ => some (r : Int)) (fun k => ?_) (Ev.now _)⟩
  simp only [spec_l4Rank.l0]
  rw [if_neg (by omega)]
 | succ d ih =>
  intro j r hj f PV hf hE
  have hjC : j < C := by omega
  have hrR := hE.rows
  cases hb : s.testBit j with
  | false =>
   obtain ⟨r', h1, h2⟩ := ih (j + 1) r (by omega) f PV hf (hE.pass fun h => by rw [hb] at h; cases h)
   refine ⟨r', h1, Ev.step (fun k => ?_) h2⟩
   simp only [spec_l4Rank.l0]
   rw [if_pos (by omega), Mat.l2Has s j hs (by omega), Option.bind_some, hb, if_neg (by decide), w64s j (by omega)]
  | true =>
   obtain ⟨b, h1, h2, h3⟩ := l1_run (p := p) hR hC (f := f) (r := r) hjC (s : Int) (R - r) r (by omega) (Nat.le_refl _) (fun i' h4 h5 => by omega)
   have hstep : ∀ v : Int, Ev (fun k => spec_l4Rank.j2 k p R C (s : Int) (lst R C f) r j b) v → Ev (fun k => spec_l4Rank.l0 k p R C (s : Int) (lst R C f) r j) v := fun v h => by
    refine Ev.step (fun k => ?_) (h3 v h)
    simp only [spec_l4Rank.l0]
    rw [if_pos (by omega), Mat.l2Has s j hs (by omega), Option.bind_some, hb, if_pos rfl]
   rcases h2 with ⟨hbR, hne⟩ | ⟨rfl, hz⟩
   ·have hr : r < R := by omega
    obtain ⟨g, hg⟩ : ∃ g, g = swapr f r b := ⟨_, rfl⟩
    have hgk : Ok p R C g := by
     intro i' c' h4 h5
     rw [hg]
     unfold swapr
     by_cases e : i' = r
     ·rw [if_pos e]; exact hf b c' hbR h5
     ·rw [if_neg e]
      by_cases e2 : i' = b
      ·rw [if_pos e2]; exact hf r c' hr h5
      ·rw [if_neg e2]; exact hf i' c' h4 h5
    obtain ⟨M', hM'⟩ : ∃ M' : Nat → Nat → Int, M' = fun i' c' => if r < i' then row p g r j i' c' else g i' c' := ⟨_, rfl⟩
    have hMk : Ok p R C M' := by
     intro i' c' h4 h5
     rw [hM']
     show 0 ≤ (if r < i' then row p g r j i' c' else g i' c') ∧ (if r < i' then row p g r j i' c' else g i' c') < p
     by_cases e : r < i'
     ·rw [if_pos e]; exact ok_mod hp _
     ·rw [if_neg e]; exact hgk i' c' h4 h5
    have hU : Used p R C r j (swapr f r b) M' := by
     rw [← hg]
     refine ⟨fun i k h4 h5 => by rw [hM']; exact if_neg (by omega), fun i k h4 h5 h6 => ?_⟩
     rw [hM']
     show p ∣ (if r < i then row p g r j i k else g i k) - _
     rw [if_pos h4]
     exact dvd_mod p _
    have hE2 := hE.pivot (pr hp) hjC hb hbR h1 (fun h => hne ((ok_dvd (hf b j hbR hjC)).1 h)) hU
    obtain ⟨r', h4, h5⟩ := ih (j + 1) (r + 1) (by omega) M' _ hMk hE2
    refine ⟨r', h4, hstep _ ?_⟩
    rw [hM'] at h5
    have h6 := l3_run hp hR hC hgk hr hjC (s : Int) h5 (R - (r + 1)) (r + 1) (by omega) (by omega)
    rw [lst_congr (g := swapr f r b) fun i' c' h1 h2 => by rw [if_neg (by omega), hg]] at h6
    have h7 := l2_run (C := C) hR hC hr hbR (s : Int) h6 C 0 (by omega)
    rw [lst_congr (g := f) fun i' c' h1 h2 => if_neg (by omega)] at h7
    refine Ev.step (fun k => ?_) h7
    simp only [spec_l4Rank.j2]
    rw [if_neg (by omega)]
    rfl
   ·obtain ⟨r', h4, h5⟩ := ih (j + 1) r (by omega) f PV hf (hE.pass fun _ i h6 h7 => by rw [hz i h6 h7]; exact Int.dvd_zero p)
    refine ⟨r', h4, hstep _ (Ev.step (fun k => ?_) h5)⟩
    simp only [spec_l4Rank.j2]
    rw [if_pos (by omega), w64s j (by omega)]
theorem specRank {p : Int} (hp : p = 2 ∨ p = 3) {R C s : Nat} (hR : R ≤ 8) (hC : C ≤ 8) (hs : s < 256) {f : Nat → Nat → Int} (hf : Ok p R C f) :
  ∃ r : Nat, Rank p R C f (fun j => s.testBit j) r ∧ Ev (fun k => spec_l4Rank.f k p R C (lst R C f) (s : Int)) (r : Int) := by
 obtain ⟨r, h1, h2⟩ := l0_run hp hR hC hs (A := f) C 0 0 (by omega) f _ hf Elim.start
 refine ⟨r, h1, ?_⟩
 unfold spec_l4Rank.f
 have hl := lst_length R C f
 have hb : R * C ≤ 64 := Nat.le_trans (Nat.mul_le_mul hR hC) (by decide)
 refine Ev.congr (fun k => ?_) h2
 simp only [Option.bind_some, List.nil_append, List.length_nil]
 rw [if_pos (by omega)]
 rfl
end Go.Proofs.Ytmpodackojmojaa.RankS
end
section
namespace Go.Proofs.Ytmpodackojmojaa.RankI
open Go.RowKit Go.Proofs.Ytmpodackojmojaa.Pr Go.Proofs.Ytmpodackojmojaa.Gen Go.Proofs.Ytmpodackojmojaa.Grid Go.Proofs.Ytmpodackojmojaa.Lin Go.Proofs.Ytmpodackojmojaa.RowsW Go.Proofs.YtmpodackojmojaaW.PrintWords Go.Proofs.YtmpodackojmojaaW.PrintLast Go.Proofs.YtmpodackojmojaaW.PrintMore
set_option linter.unusedVariables false
def rw_ (C : Nat) (f : Nat → Nat → Int) (i : Nat) : List Int := (List.range C).map (f i)
def rws (R C : Nat) (f : Nat → Nat → Int) : List (List Int) := (List.range R).map (rw_ C f)
theorem rw_length (C : Nat) (f : Nat → Nat → Int) (i : Nat) : (rw_ C f i).length = C := by simp [rw_]
theorem rws_length (R C : Nat) (f : Nat → Nat → Int) : (rws R C f).length = R := by simp [rws]
theorem rd_rw {C c : Nat} (f : Nat → Nat → Int) (i : Nat) (h : c < C) : rd (rw_ C f i) (c : Int) = f i c := by
 rw [rd_nat]
 simp [rw_, List.getD_eq_getElem?_getD, h]
theorem rd_rws {R C i : Nat} (f : Nat → Nat → Int) (h : i < R) : rd_L3 (rws R C f) (i : Int) = rw_ C f i := by
 show (rws R C f).getD i [] = _
 simp [rws, List.getD_eq_getElem?_getD, h]
theorem rws_congr {R C : Nat} {f g : Nat → Nat → Int} (h : ∀ i c, i < R → c < C → f i c = g i c) : rws R C f = rws R C g := by
 refine List.map_congr_left fun i hi => ?_
 refine List.map_congr_left fun c hc => ?_
 exact h i c (List.mem_range.1 hi) (List.mem_range.1 hc)
theorem set_row {R C i : Nat} (f : Nat → Nat → Int) (l : List Int) (g : Nat → Nat → Int) (h : i < R) (hl : l = rw_ C g i) (ho : ∀ i' c', i' ≠ i → g i' c' = f i' c') : (rws R C f).set i l = rws R C g := by
 apply List.ext_getElem?
 intro t
 rw [List.getElem?_set]
 by_cases e : i = t
 ·subst e
  rw [if_pos rfl, if_pos (by rw [rws_length]; exact h), hl]
  simp [rws, h]
 ·rw [if_neg e]
  by_cases ht : t < R
  ·simp only [rws, List.getElem?_map, List.getElem?_range ht, Option.map_some]
   congr 1
   exact List.map_congr_left fun c _ => (ho t c (Ne.symm e)).symm
  ·rw [List.getElem?_eq_none (by rw [rws_length]; omega), List.getElem?_eq_none (by rw [rws_length]; omega)]
theorem set_rw {C c : Nat} (f : Nat → Nat → Int) (i : Nat) (h : c < C) (v : Int) : (rw_ C f i).set c v = rw_ C (fun i' c' => if i' = i ∧ c' = c then v else f i' c') i := by
 apply List.ext_getElem?
 intro t
 rw [List.getElem?_set]
 by_cases e : c = t
 ·subst e
  rw [if_pos rfl, if_pos (by rw [rw_length]; exact h)]
  simp [rw_, h]
 ·rw [if_neg e]
  by_cases ht : t < C
  ·simp [rw_, ht, Ne.symm e]
  ·rw [List.getElem?_eq_none (by rw [rw_length]; omega), List.getElem?_eq_none (by rw [rw_length]; omega)]
theorem put_rws {R C i c : Nat} (f : Nat → Nat → Int) (hi : i < R) (hc : c < C) (v : Int) : impl_reduce.put (rws R C f) (i : Int) (c : Int) v = some (rws R C (fun i' c' => if i' = i ∧ c' = c then v else f i' c')) := by
 unfold impl_reduce.put
 rw [rd_rws f hi, Int.toNat_natCast, Int.toNat_natCast, set_rw f i hc, set_row f _ _ hi rfl (fun i' c' h => if_neg (fun h2 => h h2.1))]
theorem swap_rws {R C a b : Nat} (f : Nat → Nat → Int) (ha : a < R) (hb : b < R) : impl_reduce.swap (rws R C f) (a : Int) (b : Int) = some (rws R C (swapr f a b)) := by
 unfold impl_reduce.swap
 rw [rws_length, if_pos ⟨by omega, by omega, by omega, by omega⟩, rd_rws f hb, rd_rws f ha, Int.toNat_natCast, Int.toNat_natCast]
 congr 1
 rw [set_row f (rw_ C f b) (fun i c => if i = a then f b c else f i c) ha (List.map_congr_left fun c _ => (if_pos rfl).symm) (fun i' c' h => if_neg h)]
 refine set_row _ _ _ hb (List.map_congr_left fun c _ => ?_) (fun i' c' h => ?_)
 ·unfold swapr
  by_cases e : b = a
  ·subst e; rw [if_pos rfl]
  ·rw [if_neg e, if_pos rfl]
 ·unfold swapr
  by_cases e : i' = a
  ·rw [if_pos e, if_pos e]
  ·rw [if_neg e, if_neg h, if_neg e]
theorem implInv {p a : Int} (hp : p = 2 ∨ p = 3) (ha : 0 < a ∧ a < p) : Ev (fun k => impl_InverseIn.f k p a) a := by
 rcases hp with rfl | rfl
 ·obtain rfl : a = 1 := by omega
  exact Ev.of (fun k => impl_InverseIn.mono _ _ k) (k := 10) (by decide +kernel)
 ·rcases (show a = 1 ∨ a = 2 by omega) with rfl | rfl
  ·exact Ev.of (fun k => impl_InverseIn.mono _ _ k) (k := 10) (by decide +kernel)
  ·exact Ev.of (fun k => impl_InverseIn.mono _ _ k) (k := 10) (by decide +kernel)
theorem val1 {p x y : Int} (hp : p = 2 ∨ p = 3) (hx : 0 ≤ x ∧ x < p) (hy : 0 ≤ y ∧ y < p) : Int.tmod (wrap64 (x * y)) p = (x * y) % p := by
 have := RankS.mulb (a := x) (b := y) (by omega) (by omega)
 rw [w64 (by omega) (by omega), tmn this.1]
theorem val2 {p x f y : Int} (hp : p = 2 ∨ p = 3) (hx : 0 ≤ x ∧ x < p) (hf : 0 ≤ f ∧ f < p) (hy : 0 ≤ y ∧ y < p) : Int.tmod (wrap64 (x + wrap64 (wrap64 (p - f) * y))) p = (x + (p - f) * y) % p := by
 have h : 0 ≤ (p - f) * y ∧ (p - f) * y ≤ 9 := by
  have h1 : p - f = 1 ∨ p - f = 2 ∨ p - f = 3 := by omega
  have h2 : y = 0 ∨ y = 1 ∨ y = 2 := by omega
  rcases h1 with e | e | e <;> rcases h2 with e2 | e2 | e2 <;> rw [e, e2] <;> decide
 rw [w64 (i := p - f) (by omega) (by omega), w64 (i := (p - f) * y) (by omega) (by omega), w64 (by omega) (by omega), tmn (by omega)]
abbrev Res := Int × Int × Int × List Int × List Int
theorem l3_run {p : Int} (hp : p = 2 ∨ p = 3) {R C : Nat} (hR : R ≤ 8) (hC : C ≤ 8) {f : Nat → Nat → Int} (hf : Ok p R C f) {r j : Nat} (hr : r < R) (ps : List Int) (cl : List Int) {a : Int} (ha : 0 ≤ a ∧ a < p) {v : Res}
  (h : Ev (fun k => impl_reduce.l4 k (rws R C (fun i' c' => if i' = r then (f r c' * a) % p else f i' c')) ps j r R 0 p R C cl) v) :
  ∀ d c : Nat, c + d = C → Ev (fun k => impl_reduce.l3 k (rws R C (fun i' c' => if i' = r ∧ c' < c then (f r c' * a) % p else f i' c')) ps j r a C c p R C cl) v := by
 intro d
 induction d with
 | zero =>
  intro c hc
  obtain rfl : c = C := by omega
  refine Ev.step (fun k => ?_) h
  simp only [impl_reduce.l3]
  rw [if_neg (by omega), rws_length, rws_congr (g := fun i' c' => if i' = r then (f r c' * a) % p else f i' c') fun i' c' h1 h2 => by simp only [h2, and_true]]
 | succ d ih =>
  intro c hc
  have hcC : c < C := by omega
  refine Ev.step (fun k => ?_) (ih (c + 1) (by omega))
  simp only [impl_reduce.l3]
  rw [rws_length, rd_rws _ hr, rw_length, if_pos (by omega), if_pos (by omega), if_pos (by omega), if_pos (by omega), if_pos (by omega), if_neg (by omega), rd_rw _ _ hcC, if_neg (show ¬ (r = r ∧ c < c) by omega), val1 hp (hf r c hr hcC) ha, put_rws _ hr hcC, Option.bind_some, w64s c (by omega)]
  congr 1
  refine rws_congr fun i' c' h1 h2 => ?_
  by_cases e : i' = r
  ·subst e
   by_cases e2 : c' = c
   ·subst e2
    rw [if_pos ⟨rfl, rfl⟩, if_pos ⟨rfl, by omega⟩]
   ·by_cases e3 : c' < c
    ·rw [if_neg (fun h => e2 h.2), if_pos ⟨rfl, e3⟩, if_pos ⟨rfl, by omega⟩]
    ·rw [if_neg (fun h => e2 h.2), if_neg (fun h => e3 h.2), if_neg (by omega)]
  ·rw [if_neg (fun h => e h.1), if_neg (fun h => e h.1), if_neg (fun h => e h.1)]
def row (p : Int) (f : Nat → Nat → Int) (r j i c : Nat) : Int := (f i c + (p - f i j) * f r c) % p
theorem l5_run {p : Int} (hp : p = 2 ∨ p = 3) {R C : Nat} (hR : R ≤ 8) (hC : C ≤ 8) {f : Nat → Nat → Int} (hf : Ok p R C f) {r j i : Nat} (hr : r < R) (hj : j < C) (hi : i < R) (hir : i ≠ r) (ps : List Int) (cl : List Int) {v : Res}
  (h : Ev (fun k => impl_reduce.l4 k (rws R C (fun i' c' => if i' = i then row p f r j i c' else f i' c')) ps j r R ((i + 1 : Nat) : Int) p R C cl) v) :
  ∀ d c : Nat, c + d = C → Ev (fun k => impl_reduce.l5 k (rws R C (fun i' c' => if i' = i ∧ c' < c then row p f r j i c' else f i' c')) ps j r i (f i j) c R i p R C cl) v := by
 intro d
 induction d with
 | zero =>
  intro c hc
  obtain rfl : c = C := by omega
  refine Ev.step (fun k => ?_) h
  simp only [impl_reduce.l5]
  rw [if_neg (by omega), w64s i (by omega), rws_congr (g := fun i' c' => if i' = i then row p f r j i c' else f i' c') fun i' c' h1 h2 => by simp only [h2, and_true]]
 | succ d ih =>
  intro c hc
  have hcC : c < C := by omega
  refine Ev.step (fun k => ?_) (ih (c + 1) (by omega))
  simp only [impl_reduce.l5]
  rw [rws_length, rd_rws _ hr, rd_rws _ hi, rw_length, rw_length, if_pos (by omega), if_neg (by omega), if_pos (by omega), if_pos (by omega), if_pos (by omega), if_pos (by omega), if_pos (by omega), if_pos (by omega), if_pos (by omega), if_neg (by omega), rd_rw _ _ hcC, rd_rw _ _ hcC]
  rw [if_neg (show ¬ (i = i ∧ c < c) by omega), if_neg (show ¬ (r = i ∧ c < c) by omega), val2 hp (hf i c hi hcC) (hf i j hi hj) (hf r c hr hcC), put_rws _ hi hcC, Option.bind_some, w64s c (by omega)]
  congr 1
  refine rws_congr fun i' c' h1 h2 => ?_
  by_cases e : i' = i
  ·subst e
   by_cases e2 : c' = c
   ·subst e2
    rw [if_pos ⟨rfl, rfl⟩, if_pos ⟨rfl, by omega⟩]
    rfl
   ·by_cases e3 : c' < c
    ·rw [if_neg (fun h => e2 h.2), if_pos ⟨rfl, e3⟩, if_pos ⟨rfl, by omega⟩]
    ·rw [if_neg (fun h => e2 h.2), if_neg (fun h => e3 h.2), if_neg (by omega)]
  ·rw [if_neg (fun h => e h.1), if_neg (fun h => e h.1), if_neg (fun h => e h.1)]
theorem l4_run {p : Int} (hp : p = 2 ∨ p = 3) {R C : Nat} (hR : R ≤ 8) (hC : C ≤ 8) {f : Nat → Nat → Int} (hf : Ok p R C f) {r j : Nat} (hr : r < R) (hj : j < C) (ps : List Int) (hps : ps.length ≤ 8) (cl : List Int) {v : Res}
  (h : Ev (fun k => impl_reduce.l1 k (rws R C (fun i' c' => if i' ≠ r then row p f r j i' c' else f i' c')) (ps ++ [(j : Int)]) ((j + 1 : Nat) : Int) p R C cl) v) :
  ∀ d i : Nat, i + d = R → Ev (fun k => impl_reduce.l4 k (rws R C (fun i' c' => if i' ≠ r ∧ i' < i then row p f r j i' c' else f i' c')) ps j r R i p R C cl) v := by
 intro d
 induction d with
 | zero =>
  intro i hi
  obtain rfl : i = R := by omega
  refine Ev.step (fun k => ?_) h
  simp only [impl_reduce.l4]
  rw [if_neg (by omega), if_pos (by omega), w64s j (by omega), rws_congr (g := fun i' c' => if i' ≠ r then row p f r j i' c' else f i' c') fun i' c' h1 h2 => by simp only [h1, and_true]]
 | succ d ih =>
  intro i hi
  have hiR : i < R := by omega
  have h2 := ih (i + 1) (by omega)
  obtain ⟨g, hg⟩ : ∃ g : Nat → Nat → Int, g = fun i' c' => if i' ≠ r ∧ i' < i then row p f r j i' c' else f i' c' := ⟨_, rfl⟩
  have g1 : ∀ c, g i c = f i c := fun c => by rw [hg]; exact if_neg (by omega)
  have g2 : ∀ c, g r c = f r c := fun c => by rw [hg]; exact if_neg (by omega)
  have hgk : Ok p R C g := by
   intro i' c' h1 h2
   rw [hg]
   show 0 ≤ (if i' ≠ r ∧ i' < i then row p f r j i' c' else f i' c') ∧ (if i' ≠ r ∧ i' < i then row p f r j i' c' else f i' c') < p
   by_cases e : i' ≠ r ∧ i' < i
   ·rw [if_pos e]; exact ok_mod hp _
   ·rw [if_neg e]; exact hf i' c' h1 h2
  rw [← hg]
  have h4 : Ev (fun k => impl_reduce.l5 k (rws R C g) ps j r i (g i j) 0 R i p R C cl) v := by
   by_cases e : i = r
   ·subst e
    have e1 : rws R C (fun i' c' => if i' ≠ i ∧ i' < i + 1 then row p f i j i' c' else f i' c') = rws R C g := by
     refine rws_congr fun i' c' h1 h2 => ?_
     rw [hg]
     show (if i' ≠ i ∧ i' < i + 1 then row p f i j i' c' else f i' c') = if i' ≠ i ∧ i' < i then row p f i j i' c' else f i' c'
     by_cases e : i' ≠ i ∧ i' < i + 1
     ·rw [if_pos e, if_pos (by omega)]
     ·rw [if_neg e, if_neg (by omega)]
    rw [e1] at h2
    refine Ev.step (fun k => ?_) h2
    simp only [impl_reduce.l5]
    rw [if_pos (by omega), if_pos (by first | trivial | rfl), w64s i (by omega)]
   ·have e1 : rws R C (fun i' c' => if i' = i then row p g r j i c' else g i' c') = rws R C (fun i' c' => if i' ≠ r ∧ i' < i + 1 then row p f r j i' c' else f i' c') := by
     refine rws_congr fun i' c' h1 h2 => ?_
     by_cases e2 : i' = i
     ·subst e2
      rw [if_pos rfl, if_pos (by omega)]
      show (g i' c' + (p - g i' j) * g r c') % p = _
      rw [g1, g1, g2]
      rfl
     ·rw [if_neg e2, hg]
      show (if i' ≠ r ∧ i' < i then row p f r j i' c' else f i' c') = _
      by_cases e3 : i' ≠ r ∧ i' < i
      ·rw [if_pos e3, if_pos (by omega)]
      ·rw [if_neg e3, if_neg (by omega)]
    rw [← e1] at h2
    have h5 := l5_run hp hR hC hgk hr hj hiR e ps cl h2 C 0 (by omega)
    rwa [rws_congr (f := fun i' c' => if i' = i ∧ c' < 0 then row p g r j i c' else g i' c') (g := g) fun i' c' h1 h2 => if_neg (by omega)] at h5
  refine Ev.step (fun k => ?_) h4
  simp only [impl_reduce.l4]
  rw [rws_length, rd_rws _ hiR, rw_length, if_pos (by omega), if_pos (by omega), if_pos (by omega), if_pos (by omega), if_pos (by omega), rd_rw _ _ hj]
  try rfl
theorem l2_run {p : Int} {R C : Nat} (hR : R ≤ 8) (hC : C ≤ 8) {f : Nat → Nat → Int} {r j : Nat} (hj : j < C) (ps : List Int) (cl : List Int) :
  ∀ d i : Nat, i + d = R → r ≤ i → (∀ i', r ≤ i' → i' < i → f i' j = 0) → ∃ b, r ≤ b ∧ ((b < R ∧ f b j ≠ 0) ∨ (b = R ∧ ∀ i', r ≤ i' → i' < R → f i' j = 0)) ∧
   ∀ v : Res, Ev (fun k => impl_reduce.j3 k (rws R C f) ps j r b p R C cl) v → Ev (fun k => impl_reduce.l2 k (rws R C f) ps j r i p R C cl) v := by
 intro d
 induction d with
 | zero =>
  intro i hi hri hz
  obtain rfl : i = R := by omega
  refine ⟨i, hri, .inr ⟨rfl, hz⟩, fun v h => Ev.step (fun k => ?_) h⟩
  simp only [impl_reduce.l2]
  rw [rws_length, if_neg (by omega)]
 | succ d ih =>
  intro i hi hri hz
  have hiR : i < R := by omega
  by_cases e : f i j = 0
  ·obtain ⟨b, h1, h2, h3⟩ := ih (i + 1) (by omega) (by omega) (fun i' h4 h5 => by
    by_cases e2 : i' = i
    ·rw [e2]; exact e
    ·exact hz i' h4 (by omega))
   refine ⟨b, h1, h2, fun v h => Ev.step (fun k => ?_) (h3 v h)⟩
   simp only [impl_reduce.l2]
   rw [rws_length, rd_rws _ hiR, rw_length, if_pos (by omega), if_pos (by omega), if_pos (by omega), if_pos (by omega), rd_rw _ _ hj, if_pos e, w64s i (by omega)]
  ·refine ⟨i, hri, .inl ⟨hiR, e⟩, fun v h => Ev.step (fun k => ?_) h⟩
   simp only [impl_reduce.l2]
   rw [rws_length, rd_rws _ hiR, rw_length, if_pos (by omega), if_pos (by omega), if_pos (by omega), if_pos (by omega), rd_rw _ _ hj, if_neg e]
theorem l6_run {R C : Nat} (hR : R ≤ 8) (hC : C ≤ 8) (f : Nat → Nat → Int) (ps : List Int) (x y z : Int) :
  ∀ d i : Nat, i + d = R → ∀ out : List Int, out.length ≤ 8 * i → ∃ o2, Ev (fun k => impl_reduce.l6 k ps (rws R C f) R i x y z out) (x, y, z, o2, ps) := by
 intro d
 induction d with
 | zero =>
  intro i hi out _
  obtain rfl : i = R := by omega
  refine ⟨out, Ev.step (f := fun _ => some (x, y, z, out, ps)) (fun k => ?_) (Ev.now _)⟩
  simp only [impl_reduce.l6]
  rw [if_neg (by omega)]
 | succ d ih =>
  intro i hi out ho
  have hiR : i < R := by omega
  have hl := rw_length C f i
  obtain ⟨o2, h2⟩ := ih (i + 1) (by omega) (out ++ rw_ C f i) (by rw [List.length_append]; omega)
  refine ⟨o2, Ev.step (fun k => ?_) h2⟩
  simp only [impl_reduce.l6]
  rw [rws_length, rd_rws _ hiR, if_pos (by omega), if_pos (by omega), if_pos (by omega), if_pos (by omega), w64s i (by omega)]
theorem l1_run {p : Int} (hp : p = 2 ∨ p = 3) {R C : Nat} (hR : R ≤ 8) (hC : C ≤ 8) {A : Nat → Nat → Int} (cl : List Int) :
  ∀ d j : Nat, j + d = C → ∀ (f : Nat → Nat → Int) (PV : Nat → Bool) (ps : List Int), Ok p R C f → Elim p R C A (fun _ => true) j f ps.length PV →
   ∃ (r' : Nat) (o qs : List Int), Rank p R C A (fun _ => true) r' ∧ qs.length = r' ∧ Ev (fun k => impl_reduce.l1 k (rws R C f) ps j p R C cl) (p, (r' : Int), (C : Int), o, qs) := by
 intro d
 induction d with
 | zero =>
  intro j hj f PV ps hf hE
  obtain rfl : j = C := by omega
  have hrR := hE.rows
  obtain ⟨o2, h2⟩ := l6_run (R := ps.length) (C := j) (by omega) hC f ps p (ps.length : Int) (j : Int) ps.length 0 (by omega) [] (by simp)
  refine ⟨ps.length, o2, ps, hE.rank (pr hp), rfl, Ev.step (fun k => ?_) h2⟩
  simp only [impl_reduce.l1]
  rw [if_neg (by omega), rws_length, if_pos (by omega), if_pos (by omega), Option.bind_some, Int.toNat_natCast]
  have e : (rws R j f).take ps.length = rws ps.length j f := by
   unfold rws
   rw [← List.map_take, List.take_range, Nat.min_eq_left hrR]
  rw [e, rws_length]
  rfl
 | succ d ih =>
  intro j hj f PV ps hf hE
  have hjC : j < C := by omega
  have hrR := hE.rows
  obtain ⟨r, hr_⟩ : ∃ r, r = ps.length := ⟨_, rfl⟩
  rw [← hr_] at hE hrR
  obtain ⟨b, h1, h2, h3⟩ := l2_run (p := p) hR hC (f := f) (r := r) hjC ps cl (R - r) r (by omega) (Nat.le_refl _) (fun i' h4 h5 => by omega)
  have hstep : ∀ v : Res, Ev (fun k => impl_reduce.j3 k (rws R C f) ps j r b p R C cl) v → Ev (fun k => impl_reduce.l1 k (rws R C f) ps j p R C cl) v := fun v h => by
   refine Ev.step (fun k => ?_) (h3 v h)
   simp only [impl_reduce.l1]
   rw [if_pos (by omega), ← hr_]
  rcases h2 with ⟨hbR, hne⟩ | ⟨rfl, hz⟩
  ·have hr : r < R := by omega
   obtain ⟨g, hg⟩ : ∃ g, g = swapr f r b := ⟨_, rfl⟩
   have hgk : Ok p R C g := by
    intro i' c' h4 h5
    rw [hg]
    unfold swapr
    by_cases e : i' = r
    ·rw [if_pos e]; exact hf b c' hbR h5
    ·rw [if_neg e]
     by_cases e2 : i' = b
     ·rw [if_pos e2]; exact hf r c' hr h5
     ·rw [if_neg e2]; exact hf i' c' h4 h5
   have ea : g r j = f b j := by rw [hg]; exact if_pos rfl
   obtain ⟨a, hadef⟩ : ∃ a, a = g r j := ⟨_, rfl⟩
   have ha : 0 < a ∧ a < p := by
    have := hf b j hbR hjC
    rw [hadef, ea]
    omega
   obtain ⟨g1, hg1⟩ : ∃ g1 : Nat → Nat → Int, g1 = fun i' c' => if i' = r then (g r c' * a) % p else g i' c' := ⟨_, rfl⟩
   have hg1k : Ok p R C g1 := by
    intro i' c' h4 h5
    rw [hg1]
    show 0 ≤ (if i' = r then (g r c' * a) % p else g i' c') ∧ (if i' = r then (g r c' * a) % p else g i' c') < p
    by_cases e : i' = r
    ·rw [if_pos e]; exact ok_mod hp _
    ·rw [if_neg e]; exact hgk i' c' h4 h5
   obtain ⟨M', hM'⟩ : ∃ M' : Nat → Nat → Int, M' = fun i' c' => if i' ≠ r then row p g1 r j i' c' else g1 i' c' := ⟨_, rfl⟩
   have hMk : Ok p R C M' := by
    intro i' c' h4 h5
    rw [hM']
    show 0 ≤ (if i' ≠ r then row p g1 r j i' c' else g1 i' c') ∧ (if i' ≠ r then row p g1 r j i' c' else g1 i' c') < p
    by_cases e : i' ≠ r
    ·rw [if_pos e]; exact ok_mod hp _
    ·rw [if_neg e]; exact hg1k i' c' h4 h5
   have er : ∀ c, M' r c = (g r c * a) % p := fun c => by
    rw [hM']
    show (if r ≠ r then row p g1 r j r c else g1 r c) = _
    rw [if_neg (fun h => h rfl), hg1]
    exact if_pos rfl
   have eo : ∀ i c, i ≠ r → M' i c = (g i c + (p - g i j) * M' r c) % p := fun i c hi => by
    rw [er]
    rw [hM']
    show (if i ≠ r then row p g1 r j i c else g1 i c) = _
    rw [if_pos hi]
    unfold row
    rw [hg1]
    show ((if i = r then (g r c * a) % p else g i c) + (p - (if i = r then (g r j * a) % p else g i j)) * (if r = r then (g r c * a) % p else g r c)) % p = _
    rw [if_neg hi, if_neg hi, if_pos rfl]
   have hU : Norm p R C r j (swapr f r b) M' := by
    rw [← hg]
    refine ⟨⟨a, fun h => ?_, fun k hk => ?_⟩, ?_, fun i k h4 h5 h6 => ?_⟩
    ·have := (ok_dvd ⟨by omega, ha.2⟩).1 h
     omega
    ·rw [er, Int.mul_comm a]
     exact dvd_mod p _
    ·rw [er, ← hadef]
     rcases hp with rfl | rfl
     ·obtain rfl : a = 1 := by omega
      decide
     ·rcases (show a = 1 ∨ a = 2 by omega) with e | e <;> rw [e] <;> decide
    ·rw [eo i k h4]
     have h7 := dvd_mod p (g i k + (p - g i j) * M' r k)
     have h8 : p ∣ p * M' r k := Int.dvd_mul_right p _
     have h9 := Int.dvd_add h7 h8
     have e : (g i k + (p - g i j) * M' r k) % p - (g i k + (p - g i j) * M' r k) + p * M' r k = (g i k + (p - g i j) * M' r k) % p - (g i k - g i j * M' r k) := by grind
     rwa [e] at h9
   have hE2 := hE.norm (pr hp) hjC rfl hbR h1 hU
   obtain ⟨r', o, qs, h4, h4', h5⟩ := ih (j + 1) (by omega) M' _ (ps ++ [(j : Int)]) hMk (by rw [List.length_append, ← hr_]; exact hE2)
   refine ⟨r', o, qs, h4, h4', hstep _ ?_⟩
   rw [hM'] at h5
   have h6 := l4_run hp hR hC hg1k hr hjC ps (by omega) cl h5 R 0 (by omega)
   rw [rws_congr (f := fun i' c' => if i' ≠ r ∧ i' < 0 then row p g1 r j i' c' else g1 i' c') (g := g1) fun i' c' h1 h2 => if_neg (by omega), hg1] at h6
   have h7 := l3_run hp hR hC hgk (j := j) hr ps cl (a := a) ⟨by omega, ha.2⟩ h6 C 0 (by omega)
   rw [rws_congr (f := fun i' c' => if i' = r ∧ c' < 0 then (g r c' * a) % p else g i' c') (g := g) fun i' c' h1 h2 => if_neg (by omega)] at h7
   refine Ev.step (f := fun k => (impl_InverseIn.f k p a).bind fun t => impl_reduce.l3 k (rws R C g) ps j r t C 0 p R C cl) (fun k => ?_) (Ev.bind (implInv hp ha) h7)
   simp only [impl_reduce.j3]
   rw [rws_length, if_neg (by omega), swap_rws f hr hbR, Option.bind_some, ← hg, rws_length, rd_rws _ hr, rw_length, if_pos (by omega), if_pos (by omega), if_pos (by omega), if_pos (by omega), rd_rw _ _ hjC, ← hadef]
  ·obtain ⟨r', o, qs, h4, h4', h5⟩ := ih (j + 1) (by omega) f PV ps hf (by rw [← hr_]; exact hE.pass fun _ i h6 h7 => by rw [hz i h6 h7]; exact Int.dvd_zero p)
   refine ⟨r', o, qs, h4, h4', hstep _ (Ev.step (fun k => ?_) h5)⟩
   simp only [impl_reduce.j3]
   rw [rws_length, if_pos (by omega), w64s j (by omega)]
end Go.Proofs.Ytmpodackojmojaa.RankI
end
section
namespace Go.Proofs.Ytmpodackojmojaa.RankJ
open Go.RowKit Go.Proofs.Ytmpodackojmojaa.Pr Go.Proofs.Ytmpodackojmojaa.Gen Go.Proofs.Ytmpodackojmojaa.Grid Go.Proofs.Ytmpodackojmojaa.Lin Go.Proofs.Ytmpodackojmojaa.RowsW Go.Proofs.Ytmpodackojmojaa.RankI Go.Proofs.YtmpodackojmojaaW.PrintWords Go.Proofs.YtmpodackojmojaaW.PrintLast Go.Proofs.YtmpodackojmojaaW.PrintMore
set_option linter.unusedVariables false
theorem cut_row {R C i : Nat} (f : Nat → Nat → Int) (hi : i < R) : ((lst R C f).take ((i + 1) * C)).drop (i * C) = rw_ C f i := by
 have hm : (i + 1) * C ≤ R * C := Nat.mul_le_mul_right C hi
 rw [Nat.succ_mul] at hm
 apply List.ext_getElem?
 intro t
 rw [List.getElem?_drop]
 by_cases ht : t < C
 ·rw [List.getElem?_take_of_lt (by rw [Nat.succ_mul]; omega)]
  simp [lst, rw_, ht, lt_ix hi ht, (div_ix (i := i) ht).1, (div_ix (i := i) ht).2]
 ·rw [List.getElem?_eq_none (by rw [List.length_take, Nat.succ_mul]; omega), List.getElem?_eq_none (by rw [rw_length]; omega)]
theorem mulw {i C : Nat} (hi : i ≤ 100) (hC : C ≤ 100) : wrap64 ((i : Int) * (C : Int)) = ((i * C : Nat) : Int) := by
 have h : i * C ≤ 10000 := Nat.mul_le_mul hi hC
 rw [← Int.natCast_mul]
 obtain ⟨m, hm⟩ : ∃ m, m = i * C := ⟨_, rfl⟩
 rw [← hm] at h ⊢
 exact w64 (by omega) (by omega)
theorem l0_run {p : Int} {R C : Nat} (hR : R ≤ 8) (hC : C ≤ 8) (f : Nat → Nat → Int) {v : Res} (h : Ev (fun k => impl_reduce.l1 k (rws R C f) [] 0 p R C (lst R C f)) v) :
  ∀ d i : Nat, i + d = R → Ev (fun k => impl_reduce.l0 k (rws i C f) i p R C (lst R C f)) v := by
 intro d
 induction d with
 | zero =>
  intro i hi
  obtain rfl : i = R := by omega
  refine Ev.step (fun k => ?_) h
  simp only [impl_reduce.l0]
  rw [if_neg (by omega)]
 | succ d ih =>
  intro i hi
  have hiR : i < R := by omega
  refine Ev.step (fun k => ?_) (ih (i + 1) (by omega))
  have hm : (i + 1) * C ≤ R * C := Nat.mul_le_mul_right C hiR
  have hm2 : i * C ≤ (i + 1) * C := Nat.mul_le_mul_right C (by omega)
  have c1 : (i : Int) < (R : Int) := by omega
  have c2 : (0 : Int) ≤ ((i * C : Nat) : Int) := by omega
  have c3 : ((i * C : Nat) : Int) ≤ (((i + 1) * C : Nat) : Int) := by omega
  have c4 : (((i + 1) * C : Nat) : Int) ≤ ((lst R C f).length : Int) := by rw [lst_length]; omega
  have c5 : ([] : List Int).length + (rw_ C f i).length < 17592186044416 := by rw [rw_length, List.length_nil]; omega
  have c6 : (rws i C f).length < 5864062014805 := by rw [rws_length]; omega
  rw [impl_reduce.l0, if_pos c1, Option.bind_some, w64s i (by omega), mulw (by omega) (by omega), mulw (by omega) (by omega), if_pos c2, if_pos c3, if_pos c4, Int.toNat_natCast, Int.toNat_natCast, cut_row f hiR, if_pos c5, if_pos c6, List.nil_append]
  congr 1
  unfold rws
  rw [List.range_succ, List.map_append]
  rfl
theorem implReduce {p : Int} (hp : p = 2 ∨ p = 3) {R C : Nat} (hR : R ≤ 8) (hC : C ≤ 8) {f : Nat → Nat → Int} (hf : Ok p R C f) :
  ∃ (r : Nat) (o qs : List Int), Rank p R C f (fun _ => true) r ∧ qs.length = r ∧ Ev (fun k => impl_reduce.f k p R C (lst R C f)) (p, (r : Int), (C : Int), o, qs) := by
 obtain ⟨r, o, qs, h1, h2, h3⟩ := l1_run hp hR hC (A := f) (lst R C f) C 0 (by omega) f _ [] hf Elim.start
 exact ⟨r, o, qs, h1, h2, l0_run hR hC f h3 R 0 (by omega)⟩
end Go.Proofs.Ytmpodackojmojaa.RankJ
end
section
namespace Go.Proofs.Ytmpodackojmojaa.Lin
def El (S : Nat → Bool) : Nat → List Nat
 | 0 => []
 | n + 1 => if S n = true then El S n ++ [n] else El S n
theorem El_length (S : Nat → Bool) : ∀ n, (El S n).length = cd S n
 | 0 => rfl
 | n + 1 => by
  show (if S n = true then El S n ++ [n] else El S n).length = cd S n + (if S n = true then 1 else 0)
  rw [← El_length S n]
  by_cases h : S n = true
  ·rw [if_pos h, if_pos h, List.length_append]; rfl
  ·rw [if_neg h, if_neg h]; rfl
theorem sm_El (S : Nat → Bool) (g : Nat → Int) : ∀ n, sm (fun q => g ((El S n).getD q 0)) (El S n).length = sm (fun j => if S j = true then g j else 0) n
 | 0 => rfl
 | n + 1 => by
  have ih := sm_El S g n
  show sm (fun q => g ((El S (n + 1)).getD q 0)) (El S (n + 1)).length = sm (fun j => if S j = true then g j else 0) n + (if S n = true then g n else 0)
  by_cases h : S n = true
  ·have e : El S (n + 1) = El S n ++ [n] := if_pos h
   rw [e, List.length_append, if_pos h, ← ih]
   show sm (fun q => g ((El S n ++ [n]).getD q 0)) (El S n).length + g ((El S n ++ [n]).getD (El S n).length 0) = _
   congr 1
   ·exact sm_congr _ fun q hq => by rw [List.getD_eq_getElem?_getD, List.getElem?_append_left hq, List.getD_eq_getElem?_getD]
   ·simp
  ·have e : El S (n + 1) = El S n := if_neg h
   rw [e, if_neg h, ih, Int.add_zero]
theorem cd_El (S T : Nat → Bool) : ∀ n, cd (fun q => T ((El S n).getD q 0)) (El S n).length = cd (fun j => S j && T j) n
 | 0 => rfl
 | n + 1 => by
  have ih := cd_El S T n
  show cd (fun q => T ((El S (n + 1)).getD q 0)) (El S (n + 1)).length = cd (fun j => S j && T j) n + (if (S n && T n) = true then 1 else 0)
  by_cases h : S n = true
  ·have e : El S (n + 1) = El S n ++ [n] := if_pos h
   rw [e, List.length_append, ← ih, h, Bool.true_and]
   show cd (fun q => T ((El S n ++ [n]).getD q 0)) (El S n).length + (if T ((El S n ++ [n]).getD (El S n).length 0) = true then 1 else 0) = _
   congr 1
   ·exact cd_congr _ fun q hq => by rw [List.getD_eq_getElem?_getD, List.getElem?_append_left hq, List.getD_eq_getElem?_getD]
   ·simp
  ·have e : El S (n + 1) = El S n := if_neg h
   rw [e, ih, Bool.eq_false_iff.mpr h, Bool.false_and]
   simp
theorem El_at (S : Nat → Bool) : ∀ n j, j < n → S j = true → (El S n).getD (cd S j) 0 = j
 | 0, j, h, _ => absurd h (Nat.not_lt_zero _)
 | n + 1, j, h, hs => by
  by_cases e : j = n
  ·subst e
   have e : El S (j + 1) = El S j ++ [j] := if_pos hs
   rw [e, ← El_length S j]
   simp
  ·have ih := El_at S n j (by omega) hs
   have hl : cd S j < (El S n).length := by rw [El_length]; exact cd_step (by omega) hs
   by_cases h' : S n = true
   ·have e : El S (n + 1) = El S n ++ [n] := if_pos h'
    rw [e, List.getD_eq_getElem?_getD, List.getElem?_append_left hl, ← List.getD_eq_getElem?_getD]
    exact ih
   ·have e : El S (n + 1) = El S n := if_neg h'
    rw [e]
    exact ih
theorem El_of (S : Nat → Bool) : ∀ n q, q < (El S n).length → (El S n).getD q 0 < n ∧ S ((El S n).getD q 0) = true ∧ cd S ((El S n).getD q 0) = q
 | 0, q, h => absurd h (Nat.not_lt_zero _)
 | n + 1, q, h => by
  by_cases h' : S n = true
  ·have e : El S (n + 1) = El S n ++ [n] := if_pos h'
   rw [e] at h ⊢
   rw [List.length_append] at h
   by_cases hq : q < (El S n).length
   ·rw [List.getD_eq_getElem?_getD, List.getElem?_append_left hq, ← List.getD_eq_getElem?_getD]
    obtain ⟨h1, h2, h3⟩ := El_of S n q hq
    exact ⟨by omega, h2, h3⟩
   ·have : q = (El S n).length := by simp at h; omega
    subst this
    have e2 : (El S n ++ [n]).getD (El S n).length 0 = n := by simp
    rw [e2]
    exact ⟨by omega, h', (El_length S n).symm⟩
  ·have e : El S (n + 1) = El S n := if_neg h'
   rw [e] at h ⊢
   obtain ⟨h1, h2, h3⟩ := El_of S n q h
   exact ⟨by omega, h2, h3⟩
theorem Rank.sub {p : Int} {N n : Nat} {A : Nat → Nat → Int} {S : Nat → Bool} {r : Nat} (h : Rank p N (El S n).length (fun i q => A i ((El S n).getD q 0)) (fun _ => true) r) : Rank p N n A S r := by
 obtain ⟨⟨P', _, h2, h3⟩, h4⟩ := h
 refine ⟨⟨fun j => S j && (decide (j < n) && P' (cd S j)), fun j hj => ?_, ?_, ?_⟩, ?_⟩
 ·exact (Bool.and_eq_true_iff.1 hj).1
 ·intro c hc hz j hj
  have hS : ∀ j, S j = false → c j = 0 := fun j hj => hc j (by show (S j && (decide (j < n) && P' (cd S j))) = false; rw [hj]; rfl)
  have hc' : ∀ q, P' q = false → (if q < (El S n).length then c ((El S n).getD q 0) else 0) = 0 := by
   intro q hq
   by_cases hl : q < (El S n).length
   ·rw [if_pos hl]
    obtain ⟨_, h6, h7⟩ := El_of S n q hl
    refine hc _ ?_
    show (S ((El S n).getD q 0) && (decide ((El S n).getD q 0 < n) && P' (cd S ((El S n).getD q 0)))) = false
    rw [h7, hq, Bool.and_false, Bool.and_false]
   ·rw [if_neg hl]
  have hz' : Zr p N (El S n).length (fun _ => true) (fun i q => A i ((El S n).getD q 0)) (fun q => if q < (El S n).length then c ((El S n).getD q 0) else 0) := by
   intro i hi hr
   rw [sm_congr (g := fun q => (fun j => A i j * c j) ((El S n).getD q 0)) _ fun q hq => by simp only [if_pos hq], sm_El S (fun j => A i j * c j) n]
   rw [sm_congr (g := fun j => A i j * c j) n fun j _ => ?_]
   ·exact hz i hi hr
   ·by_cases hs : S j = true
    ·rw [if_pos hs]
    ·rw [if_neg hs, hS j (Bool.eq_false_iff.mpr hs), Int.mul_zero]
  by_cases hs : S j = true
  ·have hl : cd S j < (El S n).length := by rw [El_length]; exact cd_step hj hs
   have := h2 _ hc' hz' (cd S j) hl
   simp only [if_pos hl] at this
   rwa [El_at S n j hj hs] at this
  ·rw [hS j (Bool.eq_false_iff.mpr hs)]
   exact Int.dvd_zero _
 ·rw [← h3, ← cd_El S (fun j => decide (j < n) && P' (cd S j)) n]
  refine cd_congr _ fun q hq => ?_
  obtain ⟨h5, _, h7⟩ := El_of S n q hq
  rw [h7, decide_eq_true h5, Bool.true_and]
 ·intro T hT hI
  have e : cd T n = cd (fun q => T ((El S n).getD q 0)) (El S n).length := by
   rw [cd_El]
   refine cd_congr n fun j _ => ?_
   cases ht : T j with
   | false => rw [Bool.and_false]
   | true => rw [hT j ht, Bool.and_true]
  rw [e]
  refine h4 _ (fun _ _ => rfl) ?_
  intro c hc hz q hq
  have hz' : Zr p N n (fun _ => true) A (fun j => if S j = true then (if j < n then c (cd S j) else 0) else 0) := by
   intro i hi hr
   have := hz i hi hr
   rw [sm_congr (g := fun q => (fun j => A i j * (if j < n then c (cd S j) else 0)) ((El S n).getD q 0)) _ fun q hq => ?_, sm_El S (fun j => A i j * (if j < n then c (cd S j) else 0)) n] at this
   ·rw [sm_congr (g := fun j => if S j = true then A i j * (if j < n then c (cd S j) else 0) else 0) n fun j _ => ?_]
    ·exact this
    ·by_cases hs : S j = true
     ·simp only [if_pos hs]
     ·simp only [if_neg hs, Int.mul_zero]
   ·obtain ⟨h5, _, h7⟩ := El_of S n q hq
    simp only [h7, if_pos h5]
  obtain ⟨h5, h6, h7⟩ := El_of S n q hq
  have := hI _ (fun j hj => ?_) hz' ((El S n).getD q 0) h5
  ·simpa only [if_pos h6, if_pos h5, h7] using this
  ·show (if S j = true then (if j < n then c (cd S j) else 0) else 0) = 0
   by_cases hs : S j = true
   ·rw [if_pos hs]
    by_cases hjn : j < n
    ·rw [if_pos hjn]
     refine hc _ ?_
     show T ((El S n).getD (cd S j) 0) = false
     rw [El_at S n j hjn hs]
     exact hj
    ·rw [if_neg hjn]
   ·rw [if_neg hs]
end Go.Proofs.Ytmpodackojmojaa.Lin
end
section
namespace Go.Proofs.Ytmpodackojmojaa.Base
open Go.RowKit Go.Proofs.Ytmpodackojmojaa.Pr Go.Proofs.YtmpodackojmojaaW.PrintWords Go.Proofs.YtmpodackojmojaaW.PrintLast Go.Proofs.YtmpodackojmojaaW.PrintMore
def has (s e : Int) : Bool := decide (0 ≤ s ∧ s < 256 ∧ 0 ≤ e ∧ e < 8) && ((Go.bits .and .i64 (shr .i64 s e) 1) == 1)
theorem specHas (s e : Int) : spec_HasElement.f s e = some (has s e) := by
 unfold spec_HasElement.f spec_IsSet.f has
 have h8 : spec_l1In.f 8 0 8 = some true := by decide +kernel
 have hw : wrap64 ((shl .i64 1 (IntKind.u64.wrap 8)) - 1) = 255 := by decide +kernel
 have hu : (0 : Int) ≤ IntKind.u64.wrap 8 := by decide +kernel
 rw [h8]
 simp only [Option.bind_some, if_true]
 rw [if_pos hu, hw]
 unfold spec_l1In.f
 by_cases h0 : s ≥ 0
 ·rw [if_pos h0]
  simp only [Option.bind_some]
  by_cases h1 : s ≤ 255
  ·rw [if_pos (by simpa using h1)]
   by_cases h2 : e ≥ 0
   ·rw [if_pos h2]
    simp only [Option.bind_some]
    by_cases h3 : e ≤ 7
    ·rw [if_pos (by simpa using h3)]
     unfold spec_l2Has.f
     have he : IntKind.u64.wrap e = e := by
      have : e = 0 ∨ e = 1 ∨ e = 2 ∨ e = 3 ∨ e = 4 ∨ e = 5 ∨ e = 6 ∨ e = 7 := by omega
      rcases this with rfl | rfl | rfl | rfl | rfl | rfl | rfl | rfl <;> decide +kernel
     rw [he, if_pos h2]
     simp only [Option.bind_some]
     congr 1
     rw [decide_eq_true (by omega), Bool.true_and]
    ·rw [if_neg (by simpa using h3), decide_eq_false (by omega)]
     rfl
   ·rw [if_neg h2]
    simp only [Option.bind_some]
    rw [if_neg (by simp), decide_eq_false (by omega)]
    rfl
  ·rw [if_neg (by simpa using h1), decide_eq_false (by omega)]
   rfl
 ·rw [if_neg h0]
  simp only [Option.bind_some]
  rw [if_neg (by simp), decide_eq_false (by omega)]
  rfl
theorem implHas (s e : Int) : impl_HasElement.f s e = some (has s e) := by
 unfold impl_HasElement.f impl_isAny.f has
 by_cases h0 : s ≥ 0
 ·rw [if_pos h0]
  simp only [Option.bind_some]
  by_cases h1 : s < 256
  ·rw [if_pos (by simpa using h1)]
   by_cases h2 : e ≥ 0
   ·rw [if_pos h2]
    by_cases h3 : e < 8
    ·rw [if_pos h3, if_pos h2, decide_eq_true (by omega), Bool.true_and]
    ·rw [if_neg h3, decide_eq_false (by omega)]
     rfl
   ·rw [if_neg h2, decide_eq_false (by omega)]
    rfl
  ·rw [if_neg (by simpa using h1), decide_eq_false (by omega)]
   rfl
 ·rw [if_neg h0]
  simp only [Option.bind_some]
  rw [if_neg (by simp), decide_eq_false (by omega)]
  rfl
end Go.Proofs.Ytmpodackojmojaa.Base
end
section
namespace Go.Proofs.Ytmpodackojmojaa.Pr
open Go.RowKit Go.Proofs.YtmpodackojmojaaW.PrintWords Go.Proofs.YtmpodackojmojaaW.PrintLast Go.Proofs.YtmpodackojmojaaW.PrintMore
attribute [local go_sem] max2_int min2_int max_two min_two max_three min_three max_four min_four
set_option linter.unusedVariables false
set_option linter.unusedSimpArgs false
def spec_l1Max.f (a0 : Int) (a1 : Int) : Option (Int) := if a0 > a1 then (some a0) else (some a1)
def spec_l5Rank.l0 : Nat → Int → Int → Int → Int → List Int → Option (Int)
 | 0, _, _, _, _, _ => none
 | k + 1, x1, x5, x6, x663000, x663001 => if x6 < (x663001.length : Int) then (if 0 ≤ x6 then ((spec_CountOf.f k (Go.bits .and .i64 (rd x663001 x6) x1)).bind fun t664 => ((spec_l1Max.f x5 t664).bind fun t665 => (spec_l5Rank.l0 k x1 t665 (wrap64 (x6 + 1)) x663000 x663001))) else (none)) else (some x5)
def spec_l5Rank.f (k : Nat) (a0_0 : Int) (l0_1 : List Int) (a1 : Int) : Option (Int) := spec_l5Rank.l0 k a1 0 0 a0_0 l0_1
end Go.Proofs.Ytmpodackojmojaa.Pr
end
section
namespace Go.Proofs.Ytmpodackojmojaa.Rank
open Go.RowKit Go.Proofs.Ytmpodackojmojaa.Pr Go.Proofs.Ytmpodackojmojaa.Sets Go.Proofs.Ytmpodackojmojaa.Mat Go.Proofs.YtmpodackojmojaaW.PrintWords Go.Proofs.YtmpodackojmojaaW.PrintLast Go.Proofs.YtmpodackojmojaaW.PrintMore
set_option linter.unusedVariables false
def cnt (s : Nat) : Nat := (elems s).length
theorem cnt_le (s : Nat) : cnt s ≤ 8 := elems_length s
set_option maxRecDepth 100000 in
theorem implCountB : ∀ s : Nat, s < 256 → impl_CountOf.f (s : Int) = some (cnt s : Int) := by decide +kernel
theorem implCount (s : Nat) (h : s < 256) : impl_CountOf.f (s : Int) = some (cnt s : Int) := implCountB s h
set_option maxRecDepth 100000 in
theorem specCountB : ∀ s : Nat, s < 256 → spec_CountOf.f 10 (s : Int) = some (cnt s : Int) := by decide +kernel
theorem specCount (s : Nat) (h : s < 256) (k : Nat) (hk : 10 ≤ k) : spec_CountOf.f k (s : Int) = some (cnt s : Int) := by
 induction k with
 | zero => omega
 | succ k ih =>
  by_cases e : 10 ≤ k
  ·exact spec_CountOf.mono _ _ _ (ih e)
  ·obtain rfl : k = 9 := by omega
   exact specCountB s h
theorem specCountE (s : Nat) (h : s < 256) : Ev (fun k => spec_CountOf.f k (s : Int)) (cnt s : Int) := Gen.ev_at 10 (fun k hk => specCount s h k hk)
def rank (l : List Nat) (s : Nat) : Nat := l.foldl (fun m b => max m (cnt (s &&& b))) 0
theorem foldl_index {σ : Type} (l : List Nat) (f : σ → Nat → σ) (s : σ) : (List.range' 0 l.length).foldl (fun s i => f s (l.getD i 0)) s = l.foldl f s := by
 have e : l = (List.range' 0 l.length).map fun i => l.getD i 0 := by
  rw [← List.range_eq_range', Gen.map_getD']
 conv => rhs; rw [e]
 rw [List.foldl_map]
theorem and_lt {a b n : Nat} (ha : a < 2 ^ n) : a &&& b < 2 ^ n := Nat.lt_of_le_of_lt Nat.and_le_left ha
theorem specRank (m : Nat) (l : List Nat) (s : Nat) (hs : s < 256) (hl : ∀ b ∈ l, b < 256) (hn : l.length ≤ 1048576) : Ev (fun k => spec_l5Rank.f k (m : Int) (ints l) (s : Int)) (rank l s : Int) := by
 unfold spec_l5Rank.f
 have e : rank l s = (List.range' 0 l.length).foldl (fun o i => max o (cnt (s &&& l.getD i 0))) 0 := (foldl_index l (fun o b => max o (cnt (s &&& b))) 0).symm
 rw [e]
 have key := Gen.ev_loop (fun k (o : Nat) i => spec_l5Rank.l0 k (s : Int) (o : Int) i (m : Int) (ints l)) l.length (fun i o => max o (cnt (s &&& l.getD i 0))) (fun _ _ => True) (((List.range' 0 l.length).foldl (fun o i => max o (cnt (s &&& l.getD i 0))) 0 : Nat) : Int) (fun i o hi _ => ⟨trivial, fun h => ?_⟩) l.length 0 0 (by omega) trivial (fun _ => Gen.ev_at 1 (fun k hk => ?_))
 ·exact key
 ·have hb := hl _ (getD_mem l 0 i hi)
  refine Ev.step (f := fun k => (spec_CountOf.f k (Go.bits .and .i64 (rd (ints l) (i : Int)) (s : Int))).bind fun t278 => ((spec_l1Max.f (o : Int) t278).bind fun t279 => (spec_l5Rank.l0 k (s : Int) t279 (wrap64 ((i : Int) + 1)) (m : Int) (ints l)))) (fun k => ?_) ?_
  ·simp only [spec_l5Rank.l0]
   rw [if_pos (by rw [ints_length]; omega), if_pos (by omega)]
  ·rw [ints_rd, and_nat _ s (by omega) (by omega), Nat.and_comm, Gen.w64s i (by omega)]
   refine Ev.bind (specCountE _ (and_lt (n := 8) hs)) ?_
   have hx : spec_l1Max.f (o : Int) (cnt (s &&& l.getD i 0) : Int) = some ((max o (cnt (s &&& l.getD i 0)) : Nat) : Int) := by
    unfold spec_l1Max.f
    split <;> · congr 1; omega
   rw [hx]
   exact h
 ·obtain ⟨q, rfl⟩ : ∃ q, k = q + 1 := ⟨k - 1, by omega⟩
  simp only [spec_l5Rank.l0]
  rw [if_neg (by rw [ints_length]; omega)]
theorem or_lt {a b n : Nat} (ha : a < 2 ^ n) (hb : b < 2 ^ n) : a ||| b < 2 ^ n := Nat.or_lt_two_pow ha hb
theorem pow_lt {e m : Nat} (h : e < m) : 2 ^ e < 2 ^ m := Nat.pow_lt_pow_right (by decide) h
theorem u64_nat (m : Nat) (h : m < 2 ^ 62) : IntKind.u64.wrap (m : Int) = m := by
 rw [IntKind.wrap_u64]
 omega
end Go.Proofs.Ytmpodackojmojaa.Rank
end
section
namespace Go.Proofs.Ytmpodackojmojaa.MatRank
open Go.RowKit Go.Proofs.Ytmpodackojmojaa.Pr Go.Proofs.Ytmpodackojmojaa.Base Go.Proofs.Ytmpodackojmojaa.Sets Go.Proofs.Ytmpodackojmojaa.Mat Go.Proofs.Ytmpodackojmojaa.Rank Go.Proofs.Ytmpodackojmojaa.Gen Go.Proofs.Ytmpodackojmojaa.Grid Go.Proofs.Ytmpodackojmojaa.Lin Go.Proofs.Ytmpodackojmojaa.RankI Go.Proofs.YtmpodackojmojaaW.PrintWords Go.Proofs.YtmpodackojmojaaW.PrintLast Go.Proofs.YtmpodackojmojaaW.PrintMore
set_option linter.unusedVariables false
theorem El_filter (S : Nat → Bool) : ∀ n, El S n = (List.range' 0 n).filter S
 | 0 => rfl
 | n + 1 => by
  show (if S n = true then El S n ++ [n] else El S n) = _
  rw [List.range'_1_concat, List.filter_append, El_filter S n, Nat.zero_add]
  by_cases h : S n = true
  ·rw [if_pos h]; simp [h]
  ·rw [if_neg h]; simp [h]
theorem bit_high {s n j : Nat} (hs : s < 2 ^ n) (hj : n ≤ j) : s.testBit j = false := Nat.testBit_lt_two_pow (Nat.lt_of_lt_of_le hs (Nat.pow_le_pow_right (by decide) hj))
theorem elems_El {s n : Nat} (hn : n ≤ 8) (hs : s < 2 ^ n) : elems s = El (fun j => s.testBit j) n := by
 rw [El_filter]
 unfold elems
 have e : List.range' 0 8 = List.range' 0 n ++ List.range' n (8 - n) := by
  have := List.range'_append_1 (s := 0) (m := n) (n := 8 - n)
  rw [Nat.zero_add, show n + (8 - n) = 8 by omega] at this
  exact this.symm
 rw [e, List.filter_append]
 have : (List.range' n (8 - n)).filter (fun j => s.testBit j) = [] := by
  rw [List.filter_eq_nil_iff]
  intro j hj
  rw [bit_high hs (List.mem_range'_1.1 hj).1]
  decide
 rw [this, List.append_nil]
theorem isSet_ok {m s : Nat} (hm : m ≤ 8) (hs : s < 2 ^ m) : isSet (m : Int) (s : Int) = true := by
 unfold isSet
 refine decide_eq_true ⟨by omega, by omega, by omega, ?_⟩
 rw [Int.toNat_natCast]
 exact_mod_cast hs
theorem loopI {p : Int} {R C : Nat} (hRC : R * C ≤ 64) {f : Nat → Nat → Int} (h : ∀ t : Nat, t < R * C → 0 ≤ rd (lst R C f) t ∧ rd (lst R C f) t < p) :
  ∀ d t : Nat, t + d = R * C → Ev (fun k => impl_IsMatrix.l0 k (lst R C f) ((lst R C f).length : Int) t p R C (lst R C f)) true := by
 intro d
 induction d with
 | zero =>
  intro t ht
  refine Ev.step (f := fun _ => some true) (fun k => ?_) (Ev.now _)
  simp only [impl_IsMatrix.l0]
  rw [lst_length, if_neg (by omega)]
 | succ d ih =>
  intro t ht
  refine Ev.step (fun k => ?_) (ih (t + 1) (by omega))
  have := h t (by omega)
  simp only [impl_IsMatrix.l0]
  rw [lst_length, if_pos (by omega), if_pos (by omega), if_pos (by omega), if_neg (by omega), if_neg (by omega), w64s t (by omega)]
theorem rd_ok {p : Int} {R C : Nat} {f : Nat → Nat → Int} (hf : Ok p R C f) : ∀ t : Nat, t < R * C → 0 ≤ rd (lst R C f) t ∧ rd (lst R C f) t < p := by
 intro t ht
 have hC : 0 < C := by
  rcases Nat.eq_zero_or_pos C with e | e
  ·subst e; simp at ht
  ·exact e
 have hq := Nat.mod_lt t hC
 have hi : t / C < R := Nat.div_lt_of_lt_mul (by rw [Nat.mul_comm]; exact ht)
 have e : t / C * C + t % C = t := by rw [Nat.mul_comm]; exact Nat.div_add_mod t C
 have h := rd_lst f hi hq
 rw [e] at h
 rw [h]
 exact hf _ _ hi hq
theorem implIsMatrix {p : Int} (hp : p = 2 ∨ p = 3) {R C : Nat} (hR : R ≤ 8) (hC : C ≤ 8) {f : Nat → Nat → Int} (hf : Ok p R C f) : Ev (fun k => impl_IsMatrix.f k p R C (lst R C f)) true := by
 have hb : R * C ≤ 64 := Nat.le_trans (Nat.mul_le_mul hR hC) (by decide)
 have h0 := loopI hb (rd_ok hf) (R * C) 0 (by omega)
 have e1 : impl_isField.f p = some true := by rcases hp with rfl | rfl <;> rfl
 have e2 : ∀ n : Nat, n ≤ 8 → impl_isSize.f (n : Int) = some true := fun n hn => by
  unfold impl_isSize.f
  rw [if_pos (by omega), decide_eq_true (by omega)]
 have e3 : ((((lst R C f).length : Int)) != wrap64 ((R : Int) * (C : Int))) = false := by
  rw [lst_length, RankJ.mulw (by omega) (by omega)]
  simp
 unfold impl_IsMatrix.f
 simp only [e1, e2 R hR, e2 C hC, e3, Option.bind_some, if_true]
 refine Ev.step (fun k => ?_) h0
 simp only [impl_IsMatrix.j0, Bool.false_eq_true, if_false]
 rfl
theorem loopS {p : Int} (hp : p = 2 ∨ p = 3) {R C : Nat} (hRC : R * C ≤ 64) {f : Nat → Nat → Int} (h : ∀ t : Nat, t < R * C → 0 ≤ rd (lst R C f) t ∧ rd (lst R C f) t < p) :
  ∀ d t : Nat, t + d = R * C → Ev (fun k => spec_IsMatrix.l0 k t p R C (lst R C f)) true := by
 intro d
 induction d with
 | zero =>
  intro t ht
  refine Ev.step (f := fun _ => some true) (fun k => ?_) (Ev.now _)
  simp only [spec_IsMatrix.l0]
  rw [lst_length, if_neg (by omega)]
 | succ d ih =>
  intro t ht
  refine Ev.step (fun k => ?_) (ih (t + 1) (by omega))
  have := h t (by omega)
  simp only [spec_IsMatrix.l0, spec_l1In.f]
  rw [lst_length, if_pos (by omega), if_pos (by omega), if_pos (by omega), Option.bind_some, w64 (i := p - 1) (by omega) (by omega), decide_eq_true (by omega), if_pos rfl, w64s t (by omega)]
theorem specIsMatrix {p : Int} (hp : p = 2 ∨ p = 3) {R C : Nat} (hR : R ≤ 8) (hC : C ≤ 8) {f : Nat → Nat → Int} (hf : Ok p R C f) : Ev (fun k => spec_IsMatrix.f k p R C (lst R C f)) true := by
 have hb : R * C ≤ 64 := Nat.le_trans (Nat.mul_le_mul hR hC) (by decide)
 have h0 := loopS hp hb (rd_ok hf) (R * C) 0 (by omega)
 have e1 : spec_l12Prime.f p = some true := by rcases hp with rfl | rfl <;> rfl
 have e2 : ∀ n : Nat, n ≤ 8 → spec_l1In.f (n : Int) 0 8 = some true := fun n hn => by
  unfold spec_l1In.f
  rw [if_pos (by omega), decide_eq_true (by omega)]
 have e3 : ((((lst R C f).length : Int)) != wrap64 ((R : Int) * (C : Int))) = false := by
  rw [lst_length, RankJ.mulw (by omega) (by omega)]
  simp
 unfold spec_IsMatrix.f
 simp only [e1, e2 R hR, e2 C hC, e3, Option.bind_some, if_true]
 refine Ev.step (fun k => ?_) h0
 simp only [spec_IsMatrix.j0, Bool.false_eq_true, if_false]
 rfl
theorem lst_succ (i m : Nat) (g : Nat → Nat → Int) : lst (i + 1) m g = lst i m g ++ rw_ m g i := by
 apply List.ext_getElem?
 intro t
 have e : (i + 1) * m = i * m + m := Nat.succ_mul i m
 by_cases h1 : t < i * m
 ·rw [List.getElem?_append_left (by rw [lst_length]; exact h1)]
  simp [lst, h1, show t < (i + 1) * m by omega]
 ·rw [List.getElem?_append_right (by rw [lst_length]; omega), lst_length]
  by_cases h2 : t < i * m + m
  ·have hq : t - i * m < m := by omega
   have e3 : i * m + (t - i * m) = t := by omega
   have h4 := div_ix (i := i) hq
   rw [e3] at h4
   simp [lst, rw_, hq, show t < (i + 1) * m by omega, h4.1, h4.2]
  ·rw [List.getElem?_eq_none (by rw [lst_length]; omega), List.getElem?_eq_none (by rw [rw_length]; omega)]
theorem col1 {p : Int} {R C i : Nat} (hR : R ≤ 8) (hC : C ≤ 8) {f : Nat → Nat → Int} (es : List Nat) (hes : ∀ e ∈ es, e < C) (hl : es.length ≤ 8) (hi : i < R) {v : Int × Int × Int × List Int} (a b c : Int)
  (h : Ev (fun k => impl_columnsOf.l0 k (ints es) ((i + 1 : Nat) : Int) p R C (lst R C f) a b c (lst (i + 1) es.length (fun i q => f i (es.getD q 0)))) v) :
  ∀ d q : Nat, q + d = es.length → Ev (fun k => impl_columnsOf.l1 k (ints es) i (ints es) ((ints es).length : Int) q p R C (lst R C f) a b c (lst i es.length (fun i q => f i (es.getD q 0)) ++ rw_ q (fun i q => f i (es.getD q 0)) i)) v := by
 intro d
 induction d with
 | zero =>
  intro q hq
  obtain rfl : q = es.length := by omega
  refine Ev.step (fun k => ?_) h
  simp only [impl_columnsOf.l1]
  rw [ints_length, if_neg (by omega), w64s i (by omega), lst_succ]
 | succ d ih =>
  intro q hq
  have hql : q < es.length := by omega
  have hlt : es.getD q 0 < C := by
   rw [List.getD_eq_getElem?_getD, List.getElem?_eq_getElem hql]
   exact hes _ (List.getElem_mem hql)
  have hx := lt_ix hi hlt
  have hm : i * es.length ≤ 64 := Nat.le_trans (Nat.mul_le_mul (by omega : i ≤ 8) hl) (by decide)
  have hrd : rd (ints es) (q : Int) = ((es.getD q 0 : Nat) : Int) := by
   rw [rd_nat]
   simp [ints, List.getD_eq_getElem?_getD, hql]
  have hc : (lst i es.length (fun i q => f i (es.getD q 0)) ++ rw_ q (fun i q => f i (es.getD q 0)) i).length < 17592186044416 := by
   rw [List.length_append, lst_length, rw_length]
   omega
  refine Ev.step (fun k => ?_) (ih (q + 1) (by omega))
  have c1 : (q : Int) < ((ints es).length : Int) := by rw [ints_length]; omega
  have c2 : (0 : Int) ≤ (q : Int) := by omega
  have e0 : impl_Matrix_at.f p R C (lst R C f) (i : Int) ((es.getD q 0 : Nat) : Int) = some (f i (es.getD q 0)) := by
   unfold impl_Matrix_at.f
   rw [ix (by omega) (by omega) (by omega), if_pos (by omega), if_pos (by rw [lst_length]; omega), rd_lst f hi hlt]
  rw [impl_columnsOf.l1, if_pos c1, if_pos c2, if_pos c1, hrd, e0, Option.bind_some, if_pos hc, w64s q (by omega), List.append_assoc]
  congr 2
  unfold rw_
  rw [List.range_succ, List.map_append]
  rfl
theorem col0 {p : Int} {R C : Nat} (hR : R ≤ 8) (hC : C ≤ 8) {f : Nat → Nat → Int} (es : List Nat) (hes : ∀ e ∈ es, e < C) (hl : es.length ≤ 8) (a b c : Int) :
  ∀ d i : Nat, i + d = R → Ev (fun k => impl_columnsOf.l0 k (ints es) i p R C (lst R C f) a b c (lst i es.length (fun i q => f i (es.getD q 0)))) (a, b, c, lst R es.length (fun i q => f i (es.getD q 0))) := by
 intro d
 induction d with
 | zero =>
  intro i hi
  obtain rfl : i = R := by omega
  refine Ev.step (f := fun _ => some (a, b, c, lst i es.length (fun i q => f i (es.getD q 0)))) (fun k => ?_) (Ev.now _)
  simp only [impl_columnsOf.l0]
  rw [if_neg (by omega)]
 | succ d ih =>
  intro i hi
  have h := col1 (p := p) hR hC (f := f) es hes hl (show i < R by omega) a b c (ih (i + 1) (by omega)) es.length 0 (by omega)
  refine Ev.step (fun k => ?_) h
  rw [impl_columnsOf.l0, if_pos (show (i : Int) < (R : Int) by omega)]
  congr 1
  simp [rw_]
theorem implMRank {p : Int} (hp : p = 2 ∨ p = 3) {R C s : Nat} (hR : R ≤ 8) (hC : C ≤ 8) (hs : s < 2 ^ C) {f : Nat → Nat → Int} (hf : Ok p R C f) :
  ∃ r : Nat, Rank p R C f (fun j => s.testBit j) r ∧ Ev (fun k => impl_MatrixRank.f k p R C (lst R C f) (s : Int)) (r : Int) := by
 have h256 : s < 256 := Nat.lt_of_lt_of_le hs (Nat.pow_le_pow_right (by decide) hC : 2 ^ C ≤ 2 ^ 8)
 obtain ⟨es, hes⟩ : ∃ es, es = elems s := ⟨_, rfl⟩
 have hE := elems_El hC hs
 have hlt : ∀ e ∈ es, e < C := fun e he => by
  rw [hes, hE, El_filter] at he
  have := List.mem_range'_1.1 (List.mem_filter.1 he).1
  omega
 have hl : es.length ≤ 8 := by rw [hes]; exact elems_length s
 have hg : Ok p R es.length (fun i q => f i (es.getD q 0)) := fun i q hi hq => hf i _ hi (by
  rw [List.getD_eq_getElem?_getD, List.getElem?_eq_getElem hq]
  exact hlt _ (List.getElem_mem hq))
 obtain ⟨r, o, qs, h1, h2, h3⟩ := RankJ.implReduce hp hR hl hg
 refine ⟨r, ?_, ?_⟩
 ·rw [hes, hE] at h1
  exact h1.sub
 ·unfold impl_MatrixRank.f
  refine Ev.bind (implIsMatrix hp hR hC hf) ?_
  simp only [if_true]
  rw [implIsSet, isSet_ok hC hs]
  simp only [Option.bind_some, Bool.not_true]
  refine Ev.step (f := fun k => (impl_columnsOf.f k p R C (lst R C f) (s : Int)).bind fun bt925 => ((impl_reduce.f k bt925.1 bt925.2.1 bt925.2.2.1 bt925.2.2.2).bind fun bt931 => (some (bt931.2.2.2.2.length : Int)))) (fun k => ?_) ?_
  ·simp only [impl_MatrixRank.j0, Bool.false_eq_true, if_false]
  ·have hcol : Ev (fun k => impl_columnsOf.f k p R C (lst R C f) (s : Int)) (p, (R : Int), (es.length : Int), lst R es.length (fun i q => f i (es.getD q 0))) := by
    unfold impl_columnsOf.f
    refine Ev.bind (implElements s h256) ?_
    rw [← hes, ints_length]
    have h := col0 (p := p) hR hC (f := f) es hlt hl p R es.length R 0 (by omega)
    exact Ev.congr (fun k => by congr 1; simp [lst]) h
   refine Ev.bind hcol (Ev.bind h3 ?_)
   rw [h2]
   exact Ev.now _
end Go.Proofs.Ytmpodackojmojaa.MatRank
end
section
namespace Go.Proofs.Ytmpodackojmojaa.Size
open Go.RowKit Go.Proofs.Ytmpodackojmojaa.Sets Go.Proofs.Ytmpodackojmojaa.Rank
set_option linter.unusedVariables false
theorem cnt_count (s : Nat) : cnt s = (List.range' 0 8).countP fun j => s.testBit j := by
 unfold cnt elems
 rw [List.countP_eq_length_filter]
theorem cnt_swap : ∀ a, a < 256 → ∀ e, e < 8 → ∀ f, f < 8 → a.testBit e = true → a.testBit f = false → cnt (diff a (2 ^ e) ||| 2 ^ f) = cnt a := by decide +kernel
theorem cnt_zero_bit : ∀ a, a < 256 → cnt a = 0 → a = 0 := by decide +kernel
end Go.Proofs.Ytmpodackojmojaa.Size
end
section
namespace Go.Proofs.Ytmpodackojmojaa.Indep
open Go.RowKit Go.Proofs.Ytmpodackojmojaa.Sets Go.Proofs.Ytmpodackojmojaa.Rank Go.Proofs.Ytmpodackojmojaa.Size
set_option linter.unusedVariables false
def indep (l : List Nat) (s : Nat) : Bool := l.any fun b => decide (s &&& b = s)
end Go.Proofs.Ytmpodackojmojaa.Indep
end
section
namespace Go.Proofs.Ytmpodackojmojaa.Aug
open Go.RowKit Go.Proofs.Ytmpodackojmojaa.Sets Go.Proofs.Ytmpodackojmojaa.Rank Go.Proofs.Ytmpodackojmojaa.Size Go.Proofs.Ytmpodackojmojaa.Indep
set_option linter.unusedVariables false
def Sub (a b : Nat) : Prop := ∀ j, a.testBit j = true → b.testBit j = true
theorem sub_and {a b : Nat} : a &&& b = a ↔ Sub a b := by
 constructor
 ·intro h j hj
  rw [← h, Nat.testBit_and, Bool.and_eq_true] at hj
  exact hj.2
 ·intro h
  apply Nat.eq_of_testBit_eq
  intro j
  rw [Nat.testBit_and]
  cases ha : a.testBit j with
  | false => rfl
  | true => rw [h j ha]; rfl
theorem Sub.refl (a : Nat) : Sub a a := fun _ h => h
theorem Sub.trans {a b c : Nat} (h : Sub a b) (k : Sub b c) : Sub a c := fun j hj => k j (h j hj)
theorem sub_zero (a : Nat) : Sub 0 a := fun j h => by rw [Nat.zero_testBit] at h; exact Bool.noConfusion h
theorem sub_antisymm {a b : Nat} (h : Sub a b) (k : Sub b a) : a = b := by
 apply Nat.eq_of_testBit_eq
 intro j
 cases ha : a.testBit j with
 | true => exact (h j ha).symm
 | false =>
  cases hb : b.testBit j with
  | false => rfl
  | true => rw [k j hb] at ha; exact Bool.noConfusion ha
theorem sub_or_left (a b : Nat) : Sub a (a ||| b) := fun j h => by rw [Nat.testBit_or, h]; rfl
theorem sub_and_right (a b : Nat) : Sub (a &&& b) b := fun j h => by rw [Nat.testBit_and, Bool.and_eq_true] at h; exact h.2
theorem sub_diff (a b : Nat) : Sub (diff a b) a := fun j h => by rw [diff_bit, Bool.and_eq_true] at h; exact h.1
theorem sub_and_of {a b c : Nat} (h : Sub c a) (k : Sub c b) : Sub c (a &&& b) := fun j hj => by
 rw [Nat.testBit_and, h j hj, k j hj]; rfl
theorem bit_lt8 {a e : Nat} (ha : a < 256) (h : a.testBit e = true) : e < 8 := by
 refine Nat.lt_of_not_le fun hle => ?_
 rw [bit_far (n := 8) ha hle] at h
 exact Bool.noConfusion h
theorem bit_ltn {a e n : Nat} (ha : a < 2 ^ n) (h : a.testBit e = true) : e < n := by
 refine Nat.lt_of_not_le fun hle => ?_
 rw [bit_far ha hle] at h
 exact Bool.noConfusion h
theorem pow_bit (e j : Nat) : (2 ^ e).testBit j = decide (e = j) := Nat.testBit_two_pow
theorem or_one (a e j : Nat) : (a ||| 2 ^ e).testBit j = (a.testBit j || decide (e = j)) := by rw [Nat.testBit_or, pow_bit]
theorem or_self_bit (a e : Nat) : (a ||| 2 ^ e).testBit e = true := by rw [or_one, decide_eq_true rfl, Bool.or_true]
theorem less_one (a e j : Nat) : (diff a (2 ^ e)).testBit j = (a.testBit j && !decide (e = j)) := by rw [diff_bit, pow_bit]
theorem countP_split {α : Type} (p q : α → Bool) (l : List α) : l.countP p = l.countP (fun x => p x && q x) + l.countP (fun x => p x && !q x) := by
 induction l with
 | nil => rfl
 | cons a l ih =>
  rw [List.countP_cons, List.countP_cons, List.countP_cons, ih]
  cases p a <;> cases q a <;> simp <;> omega
theorem cnt_split (a b : Nat) : cnt a = cnt (a &&& b) + cnt (diff a b) := by
 rw [cnt_count, cnt_count, cnt_count, countP_split (fun j => a.testBit j) (fun j => b.testBit j)]
 congr 1
 ·refine List.countP_congr fun j _ => ?_
  rw [Nat.testBit_and]
 ·refine List.countP_congr fun j _ => ?_
  rw [diff_bit]
theorem cnt_bitB : ∀ e, e < 8 → cnt (2 ^ e) = 1 := by decide +kernel
theorem cnt_disj {a b : Nat} (h : ∀ j, a.testBit j = true → b.testBit j = false) : cnt (a ||| b) = cnt a + cnt b := by
 rw [cnt_split (a ||| b) a]
 congr 1
 ·congr 1
  exact sub_antisymm (fun j hj => (sub_and_right _ _) j hj) (sub_and_of (sub_or_left _ _) (Sub.refl _))
 ·congr 1
  apply Nat.eq_of_testBit_eq
  intro j
  rw [diff_bit, Nat.testBit_or]
  cases ha : a.testBit j with
  | false => simp
  | true => rw [h j ha]; rfl
theorem cnt_or_bit {a e : Nat} (he : e < 8) (h : a.testBit e = false) : cnt (a ||| 2 ^ e) = cnt a + 1 := by
 rw [cnt_disj fun j hj => ?_, cnt_bitB e he]
 rw [pow_bit, decide_eq_false_iff_not]
 rintro rfl
 rw [h] at hj
 exact Bool.noConfusion hj
theorem cnt_less_bit {a e : Nat} (ha : a < 256) (h : a.testBit e = true) : cnt a = cnt (diff a (2 ^ e)) + 1 := by
 rw [← cnt_or_bit (bit_lt8 ha h) (a := diff a (2 ^ e)) (by rw [less_one, decide_eq_true rfl]; simp)]
 congr 1
 apply Nat.eq_of_testBit_eq
 intro j
 rw [or_one, less_one]
 by_cases e' : e = j
 ·subst e'
  simp [h]
 ·simp [e']
theorem eq_of_cnt {a b : Nat} (hb : b < 256) (h : Sub a b) (hc : cnt b ≤ cnt a) : a = b := by
 have hs := cnt_split b a
 have hba : b &&& a = a := by
  rw [Nat.and_comm]
  exact sub_and.2 h
 rw [hba] at hs
 have hz : diff b a = 0 := cnt_zero_bit _ (diff_lt (n := 8) hb) (by omega)
 refine sub_antisymm h fun j hj => ?_
 have := diff_bit b a j
 rw [hz, Nat.zero_testBit, hj] at this
 simpa using this.symm
structure Ind (m : Nat) (P : Nat → Bool) : Prop where
 zero : P 0 = true
 down : ∀ a b, b < 2 ^ m → Sub a b → P b = true → P a = true
 aug : ∀ a b, a < 2 ^ m → b < 2 ^ m → P a = true → P b = true → cnt a < cnt b → ∃ e, b.testBit e = true ∧ a.testBit e = false ∧ P (a ||| 2 ^ e) = true
theorem indep_iff {l : List Nat} {s : Nat} : indep l s = true ↔ ∃ b ∈ l, Sub s b := by
 unfold indep
 rw [List.any_eq_true]
 constructor
 ·rintro ⟨b, hb, h⟩
  exact ⟨b, hb, sub_and.1 (by simpa using h)⟩
 ·rintro ⟨b, hb, h⟩
  exact ⟨b, hb, by simpa using sub_and.2 h⟩
def maxes (m : Nat) (P : Nat → Bool) : List Nat := (List.range' 0 (2 ^ m)).filter fun s => P s && (List.range' 0 (2 ^ m)).all fun t => !(P t && !decide (t = s) && decide (s &&& t = s))
theorem mem_maxes {m : Nat} {P : Nat → Bool} {s : Nat} : s ∈ maxes m P ↔ s < 2 ^ m ∧ P s = true ∧ ∀ t, t < 2 ^ m → P t = true → Sub s t → t = s := by
 unfold maxes
 rw [List.mem_filter, Bool.and_eq_true, List.all_eq_true]
 constructor
 ·rintro ⟨h1, h2, h3⟩
  refine ⟨by have := List.mem_range'_1.1 h1; omega, h2, fun t ht hp hs => ?_⟩
  have := h3 t (List.mem_range'_1.2 (by omega))
  rw [hp, sub_and.2 hs] at this
  simpa using this
 ·rintro ⟨h1, h2, h3⟩
  refine ⟨List.mem_range'_1.2 (by omega), h2, fun t ht => ?_⟩
  cases hp : P t with
  | false => rfl
  | true =>
   by_cases hs : s &&& t = s
   ·have := h3 t (by have := List.mem_range'_1.1 ht; omega) hp (sub_and.1 hs)
    simp [this]
   ·simp [hs]
section
variable {m : Nat} {P : Nat → Bool}
theorem Ind.max_ge (h : Ind m P) (hm : m ≤ 8) {s t : Nat} (hs : s ∈ maxes m P) (ht : t < 2 ^ m) (hp : P t = true) : cnt t ≤ cnt s := by
 obtain ⟨h1, h2, h3⟩ := mem_maxes.1 hs
 refine Nat.le_of_not_lt fun hlt => ?_
 obtain ⟨e, h4, h5, h6⟩ := h.aug s t h1 ht h2 hp hlt
 have hlt' : s ||| 2 ^ e < 2 ^ m := or_lt h1 (pow_lt (bit_ltn ht h4))
 have := h3 _ hlt' h6 (sub_or_left _ _)
 have h7 := or_self_bit s e
 rw [this, h5] at h7
 exact Bool.noConfusion h7
theorem Ind.max_of (h : Ind m P) (hm : m ≤ 8) {s : Nat} (hs : s < 2 ^ m) (hp : P s = true) (hmax : ∀ t, t < 2 ^ m → P t = true → cnt t ≤ cnt s) : s ∈ maxes m P := by
 have h256 := pow_le_256 hm
 refine mem_maxes.2 ⟨hs, hp, fun t ht hpt hst => (eq_of_cnt (by omega) hst (hmax t ht hpt)).symm⟩
theorem Ind.ext (h : Ind m P) (hm : m ≤ 8) : ∀ n s, s < 2 ^ m → P s = true → 8 ≤ cnt s + n → ∃ t ∈ maxes m P, Sub s t := by
 have h256 := pow_le_256 hm
 intro n
 induction n with
 | zero =>
  intro s hs hp hn
  exact ⟨s, h.max_of hm hs hp (fun t _ _ => Nat.le_trans (cnt_le t) (by omega)), Sub.refl s⟩
 | succ n ih =>
  intro s hs hp hn
  by_cases hmx : ∃ t, t < 2 ^ m ∧ P t = true ∧ cnt s < cnt t
  ·obtain ⟨t, ht, hpt, hlt⟩ := hmx
   obtain ⟨e, h4, h5, h6⟩ := h.aug s t hs ht hp hpt hlt
   have hlt' : s ||| 2 ^ e < 2 ^ m := or_lt hs (pow_lt (bit_ltn ht h4))
   have := cnt_or_bit (bit_lt8 (by omega) h4) h5
   obtain ⟨u, hu, hsub⟩ := ih _ hlt' h6 (by omega)
   exact ⟨u, hu, (sub_or_left _ _).trans hsub⟩
  ·exact ⟨s, h.max_of hm hs hp (fun t ht hpt => Nat.le_of_not_lt fun hlt => hmx ⟨t, ht, hpt, hlt⟩), Sub.refl s⟩
theorem Ind.some (h : Ind m P) (hm : m ≤ 8) : 0 < (maxes m P).length := by
 obtain ⟨t, ht, _⟩ := h.ext hm 8 0 (Nat.pow_pos (by decide)) h.zero (by omega)
 exact List.length_pos_of_mem ht
theorem Ind.indep (h : Ind m P) (hm : m ≤ 8) {s : Nat} (hs : s < 2 ^ m) : indep (maxes m P) s = P s := by
 cases hp : P s with
 | true =>
  obtain ⟨t, ht, hst⟩ := h.ext hm 8 s hs hp (by omega)
  exact indep_iff.2 ⟨t, ht, hst⟩
 | false =>
  cases hi : Indep.indep (maxes m P) s with
  | false => rfl
  | true =>
   obtain ⟨t, ht, hst⟩ := indep_iff.1 hi
   obtain ⟨h1, h2, _⟩ := mem_maxes.1 ht
   rw [h.down s t h1 hst h2] at hp
   exact Bool.noConfusion hp
theorem Ind.exch (h : Ind m P) (hm : m ≤ 8) : fails (maxes m P) = false := by
 have h256 := pow_le_256 hm
 unfold fails
 rw [List.any_eq_false]
 intro a ha
 rw [Bool.not_eq_true, List.any_eq_false]
 intro b hb
 rw [Bool.not_eq_true, List.any_eq_false]
 intro e he
 have he8 : e < 8 := by have := List.mem_range'_1.1 he; omega
 obtain ⟨a1, a2, a3⟩ := mem_maxes.1 ha
 obtain ⟨b1, b2, b3⟩ := mem_maxes.1 hb
 cases hae : a.testBit e with
 | false => simp
 | true =>
  cases hbe : b.testBit e with
  | true => simp
  | false =>
   have hx : Sets.exch (maxes m P) a b e = true := by
    have hsame : cnt a ≤ cnt b := h.max_ge hm hb a1 a2
    have hsame' : cnt b ≤ cnt a := h.max_ge hm ha b1 b2
    have hless := cnt_less_bit (a := a) (e := e) (by omega) hae
    have hd : diff a (2 ^ e) < 2 ^ m := diff_lt a1
    obtain ⟨f, h4, h5, h6⟩ := h.aug (diff a (2 ^ e)) b hd b1 (h.down _ a a1 (sub_diff _ _) a2) b2 (by omega)
    have hef : e ≠ f := fun e' => by
     subst e'
     rw [hbe] at h4
     exact Bool.noConfusion h4
    rw [less_one] at h5
    have haf : a.testBit f = false := by simpa [hef] using h5
    have hf8 : f < 8 := bit_lt8 (by omega) h4
    have hlt' : diff a (2 ^ e) ||| 2 ^ f < 2 ^ m := or_lt hd (pow_lt (bit_ltn b1 h4))
    have hc : cnt (diff a (2 ^ e) ||| 2 ^ f) = cnt a := cnt_swap a (by omega) e he8 f hf8 hae haf
    unfold Sets.exch
    rw [List.any_eq_true]
    refine ⟨f, List.mem_range'_1.2 (by omega), ?_⟩
    rw [h4, haf, ← swap_eq a (by omega) e he8 f hf8 hae haf, List.contains_iff_mem.2 (h.max_of hm hlt' h6 (fun t ht hpt => by rw [hc]; exact h.max_ge hm ha ht hpt))]
    rfl
   rw [hx]
   simp
end
end Go.Proofs.Ytmpodackojmojaa.Aug
end
