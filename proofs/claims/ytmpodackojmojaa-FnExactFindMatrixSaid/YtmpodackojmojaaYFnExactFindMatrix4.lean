/- The claim FnExactFindMatrix: every text that its row comes to, laid together by slim.py (the words of the kit's print, the printed walks, the pure law, the row). -/
import Derived.Test.YtmpodackojmojaaYFnExactFindMatrix3
section
namespace Go.Proofs.Ytmpodackojmojaa.Pr
open Go.RowKit Go.Proofs.YtmpodackojmojaaW.PrintWords Go.Proofs.YtmpodackojmojaaW.PrintLast Go.Proofs.YtmpodackojmojaaW.PrintMore
attribute [local go_sem] max2_int min2_int max_two min_two max_three min_three max_four min_four
set_option linter.unusedVariables false
set_option linter.unusedSimpArgs false
mutual
def impl_FindMatrix.j0 : Nat → Int → Bool → Int → List Int → Option (Int × Int × Int × List Int × Bool)
 | 0, _, _, _, _ => none
 | k + 1, x1, x28, x953000, x953001 => if x28 = true then (some (0, 0, 0, ([] : List Int), false)) else (if 0 < (x953001.length : Int) then ((impl_ElementsOf.f k (rd x953001 0)).bind fun t956 => (if 0 ≤ (wrap64 ((t956.length : Int) * x953000)) then (if (wrap64 ((t956.length : Int) * x953000) : Int).toNat ≤ 35184372088832 then (impl_FindMatrix.l0 k (rd x953001 0) (([] : List Int)) t956 (t956.length : Int) 0 x953000 x953001 x1 (t956.length : Int) x953000 (List.replicate (wrap64 ((t956.length : Int) * x953000) : Int).toNat 0)) else (none)) else (none))) else (none))
def impl_FindMatrix.l0 : Nat → Int → List Int → List Int → Int → Int → Int → List Int → Int → Int → Int → List Int → Option (Int × Int × Int × List Int × Bool)
 | 0, _, _, _, _, _, _, _, _, _, _, _ => none
 | k + 1, x6, x9, x49, x50, x51, x953000, x953001, x963000, x963001, x963002, x963003 => if x51 < x50 then (if 0 ≤ x51 then (if x51 < (x49.length : Int) then (impl_FindMatrix.l1 k x6 x9 x51 (rd x49 x51) 0 x49 x50 x51 x953000 x953001 x963000 x963001 x963002 x963003) else (none)) else (none)) else ((impl_fillCells.f k x953000 x953001 x963000 x963001 x963002 x963003 x9).bind fun bt966 => (if bt966.1 = true then (some (x963000, x963001, x963002, bt966.2, true)) else (some (0, 0, 0, ([] : List Int), false))))
def impl_FindMatrix.l1 : Nat → Int → List Int → Int → Int → Int → List Int → Int → Int → Int → List Int → Int → Int → Int → List Int → Option (Int × Int × Int × List Int × Bool)
 | 0, _, _, _, _, _, _, _, _, _, _, _, _, _, _ => none
 | k + 1, x6, x9, x10, x11, x12, x49, x50, x51, x953000, x953001, x963000, x963001, x963002, x963003 => if x12 < x953000 then (if x12 = x11 then (if 0 ≤ (wrap64 ((wrap64 (x10 * x953000)) + x12)) then (if (wrap64 ((wrap64 (x10 * x953000)) + x12)) < (x963003.length : Int) then (impl_FindMatrix.l1 k x6 x9 x10 x11 (wrap64 (x12 + 1)) x49 x50 x51 x953000 x953001 x963000 x963001 x963002 (x963003.set ((wrap64 ((wrap64 (x10 * x953000)) + x12)) : Int).toNat 1)) else (none)) else (none)) else ((impl_HasElement.f x6 x12).bind fun t970 => (if t970 = true then (impl_FindMatrix.l1 k x6 x9 x10 x11 (wrap64 (x12 + 1)) x49 x50 x51 x953000 x953001 x963000 x963001 x963002 x963003) else ((impl_circuit.f k x953000 x953001 x6 x12).bind fun t971 => ((impl_HasElement.f t971 x11).bind fun t972 => (if t972 = true then (if x9.length < 17592186044416 then (impl_FindMatrix.l1 k x6 (x9 ++ [wrap64 ((wrap64 (x10 * x953000)) + x12)]) x10 x11 (wrap64 (x12 + 1)) x49 x50 x51 x953000 x953001 x963000 x963001 x963002 x963003) else (none)) else (impl_FindMatrix.l1 k x6 x9 x10 x11 (wrap64 (x12 + 1)) x49 x50 x51 x953000 x953001 x963000 x963001 x963002 x963003))))))) else (impl_FindMatrix.l0 k x6 x9 x49 x50 (wrap64 (x51 + 1)) x953000 x953001 x963000 x963001 x963002 x963003)
end
def impl_FindMatrix.f (k : Nat) (a0_0 : Int) (l0_1 : List Int) (a1 : Int) : Option (Int × Int × Int × List Int × Bool) := (impl_IsMatroid.f k a0_0 l0_1).bind fun t954 => (if t954 = true then (if a0_0 > 6 then (impl_FindMatrix.j0 k a1 true a0_0 l0_1) else (if a1 = 2 then (impl_FindMatrix.j0 k a1 false a0_0 l0_1) else (impl_FindMatrix.j0 k a1 (a1 != 3) a0_0 l0_1))) else (impl_FindMatrix.j0 k a1 true a0_0 l0_1))
def impl_FindMatrix.T5 : Bool × List (List Nat × List Nat) := (true, [([], []), ([], []), ([1], [1]), ([], []), ([3], [3]), ([], []), ([5], [5]), ([], []), ([7], [7]), ([6, 8], [6, 8]), ([9, 9], [9]), ([0, 2, 4, 10], [0, 2, 4, 10]), ([], []), ([12, 11, 0, 1, 2, 3, 4, 5, 6, 7, 8, 9, 10, 11, 12], [11, 12])])
def impl_FindMatrix.B5 : List Nat := [0, 0, 2, 0, 8, 0, 32, 0, 128, 480, 992, 2047, 0, 8191]
theorem impl_FindMatrix.tab5 : rtab .any (opsOf Try.f39 5) = impl_FindMatrix.T5 := by kernel_rfl
theorem impl_FindMatrix.bits5 : waitsOk impl_FindMatrix.T5.2 impl_FindMatrix.B5 = true := by kernel_rfl
set_option maxHeartbeats 8000000 in
set_option maxRecDepth 100000 in
theorem impl_FindMatrix.calls (k : Nat) (a0_0 : Int) (A0_1 : Option Addr) (c0_1 : Nat) (l0_1 : List Int) (a1 : Int) (r1 : Int) (r2 : Int) (r3 : Int) (r4 : List Int) (r5 : Bool) (w : World) (hr0_1 : Kd.C (Kd.int .i64) w A0_1 l0_1.length l0_1) (hc0_1 : l0_1.length ≤ c0_1) (h : impl_FindMatrix.f k a0_0 l0_1 a1 = some (r1, r2, r3, r4, r5)) :
  Calls Try.prog 39 #[.agg #[.int .i64 a0_0, .slice A0_1 l0_1.length c0_1], .int .i64 a1] w fun e w' => ∃ v3_ : Value, e = .returned (.tuple #[.agg #[.int .i64 r1, .int .i64 r2, .int .i64 r3, v3_], .bool r5]) ∧ Kd.R (Kd.int .i64) 3 w' w.heap.size (fun _ => True) v3_ r4 ∧ Below w.heap.size w w' := by
 have hu35 := Try.underlying35
 have hu49 := Try.underlying49
 have HR0_1 := Aside0.mk hr0_1
 have HC0_1 := Aside0.mk hc0_1
 clear hr0_1 hc0_1
 have HB := Aside0.mk (Below.refl w.heap.size w)
 unfold impl_FindMatrix.f at h
 have H := h
 clear h
 have HC3 := Aside0.mk H
 clear H
 go_enter Try.func39, Try.ntmps39
 go_upto_region 1 with (first | ((with_reducible refine gate_dst (N := 2) rfl ?_); refine Hof.bx 2 #[.int .i64 a0_0, .slice A0_1 l0_1.length c0_1] 35 ?_; intro gb952 hg w4 hbox hb; have BK952 := Aside0.mk hbox; have GW952 := Hof.gw hg HB; have GE952 := Hof.gw hg HB; replace HB := Hof.lb HB hb; clear hb hbox hg) | ((with_reducible refine gate_dst (N := 4) rfl ?_); refine Hof.bx 4 #[.int .i64 0, .int .i64 0, .int .i64 0, .slice none 0 0] 49 ?_; intro gb953 hg w5 hbox hb; have BK953 := Aside0.mk hbox; have GW953 := Hof.gL (w := w) hg Hof.L; have GE953 := Hof.gL (w := w) hg Hof.L; replace HB := Aside0.mk (below_step Hof.L hb); have NB952_953 := Hof.nl hg BK952; have NB953_952 := Hof.ng hg BK952; replace BK952 := Hof.bb BK952 hb; clear hb hbox hg))
 (try simp only [Act.put, List.setIfInBounds_toArray, List.set_cons_zero, List.set_cons_succ])
 go_cut [28] (fun v28 wc => ∃ (kq : Nat) (x28_2 : Bool), v28 = .bool x28_2 ∧ Aside0 (impl_FindMatrix.j0 kq a1 x28_2 a0_0 l0_1 = some (r1, r2, r3, r4, r5)) ∧ Aside0 (kq ≤ k) ∧ Aside0 (wc.heap[gb952]? = some (.cells #[.int .i64 a0_0, (.slice A0_1 l0_1.length c0_1)] 35 (0, 0))) ∧ Aside0 (wc.heap[gb953]? = some (.cells #[.int .i64 0, .int .i64 0, .int .i64 0, (.slice none 0 0)] 49 (0, 0))) ∧ Aside0 (Below w.heap.size w wc))
 case first =>
  have H := HC3.out
  clear HC3
  obtain ⟨t954, A6, H⟩ := Hof.be H
  (try dsimp only at H)
  by_cases c7 : t954 = true
  ·subst c7
   replace H : (if a0_0 > 6 then (impl_FindMatrix.j0 k a1 true a0_0 l0_1) else (if a1 = 2 then (impl_FindMatrix.j0 k a1 false a0_0 l0_1) else (impl_FindMatrix.j0 k a1 (a1 != 3) a0_0 l0_1))) = some (r1, r2, r3, r4, r5) := by rw [if_pos rfl] at H; exact H
   by_cases c8 : a0_0 > 6
   ·rw [if_pos c8] at H
    have c8b0 := decide_eq_true c8
    clear c8
    (first | rw [c8b0] | (simp only [i64_w, i32_w]; rw [c8b0]) | skip)
    have H' := Aside0.mk H
    clear H
    have hnb9 := NB952_953.out
    have hnc9 := NB953_952.out
    obtain ⟨hcz10_0, hcz10_1, hfz10_0, hfz10_1⟩ := Hof.blk2 BK952.out
    go_wp2_with (first | ((with_reducible refine gate_callee (f := 81) rfl ?_); refine Hof.gl (some 14) Try.func81 #[.agg #[.int .i64 a0_0, .slice A0_1 l0_1.length c0_1]] ?_; (with_reducible refine (impl_IsMatroid.calls k a0_0 _ _ l0_1 true _ ?side1 ?side2 A6.out).mono ?_); (case side1 => exact Hof.Cw (Kd.C_below HR0_1.out HB.out)); (case side2 => exact HC0_1.out); rintro e w11 ⟨rfl, hb⟩; refine ⟨_, rfl, ?_⟩; replace BK952 := Hof.bb BK952 hb; replace BK953 := Hof.bb BK953 hb; replace HB := Aside0.mk (below_step Hof.L hb); (try clear hb); (try clear hb2); (try clear hk); (try clear hi); obtain ⟨hcz12_0, hcz12_1, hfz12_0, hfz12_1⟩ := Hof.blk2 BK952.out))
    go_meet
    case rel => exact ⟨_, (true), Hof.F, H', ⟨by first | omega | exact Nat.le_refl _⟩, ⟨Hof.Bw BK952.out⟩, ⟨Hof.Bw BK953.out⟩, ⟨Hof.L⟩⟩
   ·rw [if_neg c8] at H
    have c8b0 : decide (6 < a0_0) = false := decide_eq_false c8
    clear c8
    (first | rw [c8b0] | (simp only [i64_w, i32_w]; rw [c8b0]) | skip)
    by_cases c13 : a1 = 2
    ·rw [if_pos c13] at H
     have c13b0 : (a1 == 2) = true := beq_iff_eq.mpr c13
     have c13b1 : (a1 != 2) = false := bne_eq_false_iff_eq.mpr c13
     clear c13
     have H' := Aside0.mk H
     clear H
     have hnb14 := NB952_953.out
     have hnc14 := NB953_952.out
     obtain ⟨hcz15_0, hcz15_1, hfz15_0, hfz15_1⟩ := Hof.blk2 BK952.out
     go_wp2_with (first | ((with_reducible refine gate_callee (f := 81) rfl ?_); refine Hof.gl (some 14) Try.func81 #[.agg #[.int .i64 a0_0, .slice A0_1 l0_1.length c0_1]] ?_; (with_reducible refine (impl_IsMatroid.calls k a0_0 _ _ l0_1 true _ ?side1 ?side2 A6.out).mono ?_); (case side1 => exact Hof.Cw (Kd.C_below HR0_1.out HB.out)); (case side2 => exact HC0_1.out); rintro e w16 ⟨rfl, hb⟩; refine ⟨_, rfl, ?_⟩; replace BK952 := Hof.bb BK952 hb; replace BK953 := Hof.bb BK953 hb; replace HB := Aside0.mk (below_step Hof.L hb); (try clear hb); (try clear hb2); (try clear hk); (try clear hi); obtain ⟨hcz17_0, hcz17_1, hfz17_0, hfz17_1⟩ := Hof.blk2 BK952.out))
     go_meet
     case rel => exact ⟨_, (false), Hof.F, H', ⟨by first | omega | exact Nat.le_refl _⟩, ⟨Hof.Bw BK952.out⟩, ⟨Hof.Bw BK953.out⟩, ⟨Hof.L⟩⟩
    ·rw [if_neg c13] at H
     have c13b0 : (a1 == 2) = false := beq_eq_false_iff_ne.mpr c13
     have c13b1 : (a1 != 2) = true := bne_iff_ne.mpr c13
     have H' := Aside0.mk H
     clear H
     have hnb18 := NB952_953.out
     have hnc18 := NB953_952.out
     obtain ⟨hcz19_0, hcz19_1, hfz19_0, hfz19_1⟩ := Hof.blk2 BK952.out
     go_wp2_with (first | ((with_reducible refine gate_callee (f := 81) rfl ?_); refine Hof.gl (some 14) Try.func81 #[.agg #[.int .i64 a0_0, .slice A0_1 l0_1.length c0_1]] ?_; (with_reducible refine (impl_IsMatroid.calls k a0_0 _ _ l0_1 true _ ?side1 ?side2 A6.out).mono ?_); (case side1 => exact Hof.Cw (Kd.C_below HR0_1.out HB.out)); (case side2 => exact HC0_1.out); rintro e w20 ⟨rfl, hb⟩; refine ⟨_, rfl, ?_⟩; replace BK952 := Hof.bb BK952 hb; replace BK953 := Hof.bb BK953 hb; replace HB := Aside0.mk (below_step Hof.L hb); (try clear hb); (try clear hb2); (try clear hk); (try clear hi); obtain ⟨hcz21_0, hcz21_1, hfz21_0, hfz21_1⟩ := Hof.blk2 BK952.out))
     go_meet
     case rel => exact ⟨_, ((a1 != 3)), Hof.F, H', ⟨by first | omega | exact Nat.le_refl _⟩, ⟨Hof.Bw BK952.out⟩, ⟨Hof.Bw BK953.out⟩, ⟨Hof.L⟩⟩
  ·replace c7 := Bool.eq_false_iff.mpr c7
   subst c7
   replace H : (impl_FindMatrix.j0 k a1 true a0_0 l0_1) = some (r1, r2, r3, r4, r5) := by rw [if_neg (show ¬ (false = true) by decide)] at H; exact H
   have H' := Aside0.mk H
   clear H
   have hnb22 := NB952_953.out
   have hnc22 := NB953_952.out
   obtain ⟨hcz23_0, hcz23_1, hfz23_0, hfz23_1⟩ := Hof.blk2 BK952.out
   go_wp2_with (first | ((with_reducible refine gate_callee (f := 81) rfl ?_); refine Hof.gl (some 14) Try.func81 #[.agg #[.int .i64 a0_0, .slice A0_1 l0_1.length c0_1]] ?_; (with_reducible refine (impl_IsMatroid.calls k a0_0 _ _ l0_1 false _ ?side1 ?side2 A6.out).mono ?_); (case side1 => exact Hof.Cw (Kd.C_below HR0_1.out HB.out)); (case side2 => exact HC0_1.out); rintro e w24 ⟨rfl, hb⟩; refine ⟨_, rfl, ?_⟩; replace BK952 := Hof.bb BK952 hb; replace BK953 := Hof.bb BK953 hb; replace HB := Aside0.mk (below_step Hof.L hb); (try clear hb); (try clear hb2); (try clear hk); (try clear hi)))
   go_meet
   case rel => exact ⟨_, (true), Hof.F, H', ⟨by first | omega | exact Nat.le_refl _⟩, ⟨Hof.Bw BK952.out⟩, ⟨Hof.Bw BK953.out⟩, ⟨Hof.L⟩⟩
 case rest =>
  clear HC3
  obtain ⟨kq, x28_2, rfl, HA, HJ2, BK952, BK953, HB⟩ := hcut
  cases kq with
  | zero => exact absurd HA.out (by simp [impl_FindMatrix.j0])
  | succ kj2 =>
   have H := HA.out
   clear HA
   simp only [impl_FindMatrix.j0] at H
   by_cases c25 : x28_2 = true
   ·subst c25
    replace H : (some (0, 0, 0, ([] : List Int), false)) = some (r1, r2, r3, r4, r5) := by rw [if_pos rfl] at H; exact H
    simp only [Option.some.injEq, Prod.mk.injEq] at H
    obtain ⟨rfl, rfl, rfl, rfl, rfl⟩ := H
    have hnb26 := NB953_952.out
    have hnc26 := NB952_953.out
    obtain ⟨hcz27_0, hcz27_1, hcz27_2, hcz27_3, hfz27_0, hfz27_1, hfz27_2, hfz27_3⟩ := Hof.blk4 BK953.out
    go_wp2
    refine bodyPost_ret (results_ct rfl _ _ gb953 49 #[.int .i64 0, .int .i64 0, .int .i64 0, .slice none 0 0] (0, 0) _ rfl Hof.B Try.underlying49 rfl (by kernel_rfl)) rfl ?_
    exact ⟨_, Hof.E, Hof.N, Hof.L⟩
   ·replace c25 := Bool.eq_false_iff.mpr c25
    subst c25
    replace H : (if 0 < (l0_1.length : Int) then ((impl_ElementsOf.f kj2 (rd l0_1 0)).bind fun t956 => (if 0 ≤ (wrap64 ((t956.length : Int) * a0_0)) then (if (wrap64 ((t956.length : Int) * a0_0) : Int).toNat ≤ 35184372088832 then (impl_FindMatrix.l0 kj2 (rd l0_1 0) (([] : List Int)) t956 (t956.length : Int) 0 a0_0 l0_1 a1 (t956.length : Int) a0_0 (List.replicate (wrap64 ((t956.length : Int) * a0_0) : Int).toNat 0)) else (none)) else (none))) else (none)) = some (r1, r2, r3, r4, r5) := by rw [if_neg (show ¬ (false = true) by decide)] at H; exact H
    by_cases c28 : 0 < (l0_1.length : Int)
    ·rw [if_pos c28] at H
     have c28b0 := decide_eq_true c28
     have c28b1 : decide (0 < l0_1.length) = true := decide_eq_true (by omega)
     clear c28
     obtain ⟨t956, A29, H⟩ := Hof.be H
     (try dsimp only at H)
     obtain ⟨ji30, hji30⟩ : ∃ j_ : Int, (wrap64 ((t956.length : Int) * a0_0)) = j_ := ⟨_, rfl⟩
     replace H : (if 0 ≤ (ji30) then (if (ji30 : Int).toNat ≤ 35184372088832 then (impl_FindMatrix.l0 kj2 (rd l0_1 0) (([] : List Int)) t956 (t956.length : Int) 0 a0_0 l0_1 a1 (t956.length : Int) a0_0 (List.replicate (ji30 : Int).toNat 0)) else (none)) else (none)) = some (r1, r2, r3, r4, r5) := by first | (rw [hji30] at H; exact H) | (simp only [hji30] at H ⊢; exact H)
     (try rw [hji30] at A29)
     have hji30w : (IntKind.i64.wrap ((t956.length : Int) * a0_0)) = ji30 := (i64_w _).trans hji30
     by_cases c31 : 0 ≤ (ji30)
     ·rw [if_pos c31] at H
      have c31b0 := eq_true c31
      have c31b1 : decide (0 ≤ (ji30)) = true := decide_eq_true c31
      clear c31
      by_cases c32 : (ji30 : Int).toNat ≤ 35184372088832
      ·rw [if_pos c32] at H
       have c32b0 := eq_true c32
       have c32b1 : decide ((ji30 : Int).toNat ≤ 35184372088832) = true := decide_eq_true c32
       clear c32
       obtain ⟨y959, hy959⟩ : ∃ y_ : List Int, y_ = (List.replicate (ji30 : Int).toNat 0) := ⟨_, rfl⟩
       replace H : (impl_FindMatrix.l0 kj2 (rd l0_1 0) (([] : List Int)) t956 (t956.length : Int) 0 a0_0 l0_1 a1 (t956.length : Int) a0_0 y959) = some (r1, r2, r3, r4, r5) := by (try rw [hy959]); exact Hof.Z
       have Ny959 := Aside0.mk hy959
       clear hy959
       obtain ⟨y963, hy963⟩ : ∃ y_ : List Int, y_ = (([] : List Int)) := ⟨_, rfl⟩
       replace H : (impl_FindMatrix.l0 kj2 (rd l0_1 0) y963 t956 (t956.length : Int) 0 a0_0 l0_1 a1 (t956.length : Int) a0_0 y959) = some (r1, r2, r3, r4, r5) := by (try rw [hy963]); exact Hof.Z
       have Ny963 := Aside0.mk hy963
       clear hy963
       have H' := Aside0.mk H
       clear H
       have hnb33 := NB952_953.out
       have hnc33 := NB953_952.out
       obtain ⟨hcz34_0, hcz34_1, hfz34_0, hfz34_1⟩ := Hof.blk2 BK952.out
       have p955 : 0 ≤ (0 : Int) := (by omega)
       have q955 : 0 < (l0_1.length : Int) := Hof.D
       obtain ⟨ad955, e955, hx955_0⟩ := Kd.at_int HR0_1.out 0 p955 q955
       cases e955
       have qi955 : (0 < l0_1.length) = True := eq_true (by omega)
       (try rw [show ((0 : Int)).toNat = 0 from rfl] at hx955_0)
       (try rw [Addr.add_zero'] at hx955_0)
       try replace hx955_0 := (HB.out.cell (World.block_lt_of_cell? w _ hx955_0)).trans hx955_0
       replace p955 := eq_true p955
       replace q955 := eq_true q955
       try go_wp2_with (first | ((with_reducible refine gate_callee (f := 62) rfl ?_); refine Hof.gl (some 35) Try.func62 #[.int .i64 (rd l0_1 0)] ?_; (with_reducible refine (impl_ElementsOf.calls kj2 (rd l0_1 0) t956 _ A29.out).mono ?_); rintro e w35 ⟨v957, rfl, ho0, hb⟩; refine ⟨_, rfl, ?_⟩; have HO958 := Aside0.mk (Kd.R_lower ho0 (below_size Hof.L)); replace BK952 := Hof.bb BK952 hb; replace BK953 := Hof.bb BK953 hb; replace HB := Aside0.mk (below_step Hof.L hb); (try clear hb); (try clear hb2); (try clear hk); (try clear hi); (try clear ho0)))
       have n0_ := Aside0.mk (Kd.R_drew HO958.out)
       have n1_ := Aside0.mk (blk_drew BK952.out)
       have n2_ := Aside0.mk (blk_drew BK953.out)
       have n3_ := Aside0.mk (below_drew1 HB.out)
       clear HO958
       clear BK952
       clear BK953
       clear HB
       have HO958 := n0_
       have BK952 := n1_
       have BK953 := n2_
       have HB := n3_
       clear n0_ n1_ n2_ n3_
       obtain ⟨Ao37, co37, eo37⟩ := Kd.R_slice HO958.out
       (first | subst eo37 | (injection eo37 with f1_ f2_ f3_; have f4_ := f1_.symm; have f5_ := f3_.symm; clear f1_ f2_ f3_; subst f4_; subst f5_))
       refine start_ (n := 14) (S := fun w' => w'.cell? ⟨gb952, 0, none⟩ = some (.int .i64 a0_0) ∧ w'.cell? ⟨gb952, 1, none⟩ = some (.slice (some ad955) l0_1.length c0_1)) (ds := []) #[false, false, false, false, false, false, false, false, false, false, false, false, false, false] (by kernel_rfl) rfl rfl ⟨(blk_cell BK952.out 0).trans rfl, (blk_cell BK952.out 1).trans rfl⟩ (fun hHeld => ?_); refine with_tabW impl_FindMatrix.tab5 impl_FindMatrix.bits5 (fun HT_ HW_ => ?_)
       generalize w35.drew = w36 at HO958 BK952 BK953 HB hHeld ⊢
       refine Hof.pu 0 36 HT_ ?_
       refine Hof.pu 1 37 HT_ ?_
       refine Hof.pu 2 38 HT_ ?_
       refine Hof.pu 3 39 HT_ ?_
       refine Hof.pu 5 41 HT_ ?_
       refine Hof.pu 6 42 HT_ ?_
       refine Hof.pu 7 43 HT_ ?_
       refine Hof.tk 4 40 HT_ HW_ hHeld ?_
       refine Hof.tk 8 44 HT_ HW_ hHeld ?_
       refine Hof.pu 9 45 HT_ ?_
       refine join_ (σ := Value × Nat) 1 #[true, true, true, true, true, true, true, true, true, true, true, true, true, false] (fun s_ => [(46, s_.1), (8, .pointer (some ⟨s_.2, 0, none⟩)), (47, .agg #[.int .i64 a1, .int .i64 (t956.length : Int), .int .i64 a0_0, s_.1])]) (fun s_ w' => (w'.cell? ⟨gb952, 0, none⟩ = some (.int .i64 a0_0) ∧ w'.cell? ⟨gb952, 1, none⟩ = some (.slice (some ad955) l0_1.length c0_1)) ∧ (Kd.R (Kd.int .i64) 3 w' w.heap.size (fun k_ => some k_ ≠ (s_.1 : Value).ownBlock) (.slice Ao37 t956.length co37) t956) ∧ (Kd.R (Kd.int .i64) 3 w' w.heap.size (fun k_ => some k_ ≠ (.slice Ao37 t956.length co37 : Value).ownBlock) s_.1 y959) ∧ (w'.heap[gb952]? = some (.cells #[.int .i64 a0_0, .slice (some ad955) l0_1.length c0_1] 35 (0, 0))) ∧ (w'.heap[gb953]? = some (.cells #[.int .i64 0, .int .i64 0, .int .i64 0, .slice none 0 0] 49 (0, 0))) ∧ (w'.heap[s_.2]? = some (.cells #[.int .i64 0, .int .i64 0, .int .i64 0, .slice none 0 0] 49 (0, 0))) ∧ (w.heap.size ≤ s_.2) ∧ (w.heap.size ≤ s_.2) ∧ (gb952 ≠ s_.2) ∧ (s_.2 ≠ gb952) ∧ (gb953 ≠ s_.2) ∧ (s_.2 ≠ gb953) ∧ (Below w.heap.size w w')) ?_ ?_
       rotate_left
       ·intro hCont
        refine two_ (i := 10) (j := 12) (Ni := some 46) (Nj := some 8) #[true, true, true, true, true, true, true, true, true, true, true, false, false, false] #[true, true, true, true, true, true, true, true, true, true, false, false, true, false] rfl rfl rfl rfl (two_of HT_.out (by kernel_rfl)) (by decide) (by decide) (fun K hK => ?_) (fun K hK => ?_)
        ·skip
         refine Kd.R_make_step (Kd.int .i64) _ 3 (by rfl) (N := 46) rfl 24 _ _ rfl ji30 rfl rfl Try.underlying24 (.int .i64 0) 8 info3 rfl (by decide) (by omega) 0 (ok := fun _ => True) (okp := fun _ => True) rfl (fun _ hk => hk) trivial (Hof.D) (Nat.le_trans (Nat.mul_le_mul_right _ (Hof.D : ji30.toNat ≤ 35184372088832)) (by omega)) (Below.refl _ _) (Nat.le_refl _) ?_
         intro v960 w38 ho39 hb hg_ hnew_
         clear hg_ hnew_
         (first | rw [← Ny959.out] at ho39 | (simp only [Int.reduceToNat] at ho39; rw [← Ny959.out] at ho39))
         have n0_ := Aside0.mk (Kd.R_elder' (Hof.Rw HO958.out) (Kd.R_base ho39) hb)
         have n1_ := Aside0.mk (Kd.R_lower (Kd.R_new' ho39 (Kd.R_lt (Hof.Rw HO958.out))) (below_size Hof.L))
         have n2_ := Hof.bb BK952 hb
         have n3_ := Hof.bb BK953 hb
         have n4_ := Aside0.mk (below_step Hof.L hb)
         clear HO958
         clear BK952
         clear BK953
         clear HB
         have HO958 := n0_
         have HO961 := n1_
         have BK952 := n2_
         have BK953 := n3_
         have HB := n4_
         clear n0_ n1_ n2_ n3_ n4_
         clear hb ho39
         obtain ⟨Ao40, co40, eo40⟩ := Kd.R_slice HO961.out
         (first | subst eo40 | (injection eo40 with f1_ f2_ f3_; have f4_ := f1_.symm; have f5_ := f3_.symm; clear f1_ f2_ f3_; subst f4_; subst f5_))
         refine hK.out _ _ ⟨(blk_cell BK952.out 0).trans rfl, (blk_cell BK952.out 1).trans rfl⟩ (fun hHeld => ?_)
         clear hK K
         refine norm_ (a' := ?_) ?_ ?_
         rotate_left
         ·show Act.put _ (some 46) _ = _
          simp only [Act.put, List.setIfInBounds_toArray, List.set_cons_zero, List.set_cons_succ, i64_w, i32_w]
          rfl
         refine Hof.pu 11 47 HT_ ?_
         refine one_ (i := 12) (N := some 8) #[true, true, true, true, true, true, true, true, true, true, true, true, true, false] rfl rfl (one_of HT_.out (by kernel_rfl)) (by decide) (fun K hK => ?_)
         refine box_step ?hg (N := 8) ?hd (cs := #[.int .i64 0, .int .i64 0, .int .i64 0, .slice none 0 0]) (t := 49) ?hr ?_; (case hd => rfl); (case hg => rfl); (case hr => first | (go_simp; done) | (go_simp; rfl))
         intro gb962 hg w41 hbox hb
         have n0_ := Hof.rb HO958 hb
         have n1_ := Hof.rb HO961 hb
         have n2_ := Hof.bb BK952 hb
         have n3_ := Hof.bb BK953 hb
         have n4_ := Aside0.mk (below_step Hof.L hb)
         have n5_ := Aside0.mk hbox
         have n6_ := Hof.gL (w := w) hg Hof.L
         have n7_ := Hof.gL (w := w) hg Hof.L
         have n8_ := Hof.nl hg BK952
         have n9_ := Hof.ng hg BK952
         have n10_ := Hof.nl hg BK953
         have n11_ := Hof.ng hg BK953
         clear HO958
         clear HO961
         clear BK952
         clear BK953
         clear HB
         have HO958 := n0_
         have HO961 := n1_
         have BK952 := n2_
         have BK953 := n3_
         have HB := n4_
         have BK962 := n5_
         have GW962 := n6_
         have GE962 := n7_
         have NB952_962 := n8_
         have NB962_952 := n9_
         have NB953_962 := n10_
         have NB962_953 := n11_
         clear n0_ n1_ n2_ n3_ n4_ n5_ n6_ n7_ n8_ n9_ n10_ n11_
         clear hb hbox hg
         refine hK.out _ _ ⟨(blk_cell BK952.out 0).trans rfl, (blk_cell BK952.out 1).trans rfl⟩ (fun hHeld => ?_)
         clear hK K
         refine norm_ (a' := ?_) ?_ ?_
         rotate_left
         ·show Act.put _ (some 8) _ = _
          simp only [Act.put, List.setIfInBounds_toArray, List.set_cons_zero, List.set_cons_succ, i64_w, i32_w]
          rfl
         exact norm_ (by simp only [putAll, Act.put, List.setIfInBounds_toArray, List.set_cons_zero, List.set_cons_succ]) (hCont (.slice Ao40 y959.length co40, gb962) _ ⟨hHeld, (Hof.Rw (Kd.R_mono HO958.out (fun _ hk => hk.2))), (Hof.Rw (Kd.R_mono HO961.out (fun _ hk => hk.2))), (Hof.Bw BK952.out), (Hof.Bw BK953.out), (Hof.Bw BK962.out), GW962.out, GE962.out, NB952_962.out, NB962_952.out, NB953_962.out, NB962_953.out, Hof.L⟩)
        ·skip
         refine box_step ?hg (N := 8) ?hd (cs := #[.int .i64 0, .int .i64 0, .int .i64 0, .slice none 0 0]) (t := 49) ?hr ?_; (case hd => rfl); (case hg => rfl); (case hr => first | (go_simp; done) | (go_simp; rfl))
         intro gb962 hg w38 hbox hb
         have n0_ := Hof.rb HO958 hb
         have n1_ := Hof.bb BK952 hb
         have n2_ := Hof.bb BK953 hb
         have n3_ := Aside0.mk (below_step Hof.L hb)
         have n4_ := Aside0.mk hbox
         have n5_ := Hof.gL (w := w) hg Hof.L
         have n6_ := Hof.gL (w := w) hg Hof.L
         have n7_ := Hof.nl hg BK952
         have n8_ := Hof.ng hg BK952
         have n9_ := Hof.nl hg BK953
         have n10_ := Hof.ng hg BK953
         clear HO958
         clear BK952
         clear BK953
         clear HB
         have HO958 := n0_
         have BK952 := n1_
         have BK953 := n2_
         have HB := n3_
         have BK962 := n4_
         have GW962 := n5_
         have GE962 := n6_
         have NB952_962 := n7_
         have NB962_952 := n8_
         have NB953_962 := n9_
         have NB962_953 := n10_
         clear n0_ n1_ n2_ n3_ n4_ n5_ n6_ n7_ n8_ n9_ n10_
         clear hb hbox hg
         refine hK.out _ _ ⟨(blk_cell BK952.out 0).trans rfl, (blk_cell BK952.out 1).trans rfl⟩ (fun hHeld => ?_)
         clear hK K
         refine norm_ (a' := ?_) ?_ ?_
         rotate_left
         ·show Act.put _ (some 8) _ = _
          simp only [Act.put, List.setIfInBounds_toArray, List.set_cons_zero, List.set_cons_succ, i64_w, i32_w]
          rfl
         refine one_ (i := 10) (N := some 46) #[true, true, true, true, true, true, true, true, true, true, true, false, true, false] rfl rfl (one_of HT_.out (by kernel_rfl)) (by decide) (fun K hK => ?_)
         refine Kd.R_make_step (Kd.int .i64) _ 3 (by rfl) (N := 46) rfl 24 _ _ rfl ji30 rfl rfl Try.underlying24 (.int .i64 0) 8 info3 rfl (by decide) (by omega) 0 (ok := fun _ => True) (okp := fun _ => True) rfl (fun _ hk => hk) trivial (Hof.D) (Nat.le_trans (Nat.mul_le_mul_right _ (Hof.D : ji30.toNat ≤ 35184372088832)) (by omega)) (Below.refl _ _) (Nat.le_refl _) ?_
         intro v960 w39 ho40 hb hg_ hnew_
         clear hg_ hnew_
         (first | rw [← Ny959.out] at ho40 | (simp only [Int.reduceToNat] at ho40; rw [← Ny959.out] at ho40))
         have n0_ := Aside0.mk (Kd.R_elder' (Hof.Rw HO958.out) (Kd.R_base ho40) hb)
         have n1_ := Aside0.mk (Kd.R_lower (Kd.R_new' ho40 (Kd.R_lt (Hof.Rw HO958.out))) (below_size Hof.L))
         have n2_ := Hof.bb BK952 hb
         have n3_ := Hof.bb BK953 hb
         have n4_ := Hof.bb BK962 hb
         have n5_ := Aside0.mk (below_step Hof.L hb)
         clear HO958
         clear BK952
         clear BK953
         clear BK962
         clear HB
         have HO958 := n0_
         have HO961 := n1_
         have BK952 := n2_
         have BK953 := n3_
         have BK962 := n4_
         have HB := n5_
         clear n0_ n1_ n2_ n3_ n4_ n5_
         clear hb ho40
         obtain ⟨Ao41, co41, eo41⟩ := Kd.R_slice HO961.out
         (first | subst eo41 | (injection eo41 with f1_ f2_ f3_; have f4_ := f1_.symm; have f5_ := f3_.symm; clear f1_ f2_ f3_; subst f4_; subst f5_))
         refine hK.out _ _ ⟨(blk_cell BK952.out 0).trans rfl, (blk_cell BK952.out 1).trans rfl⟩ (fun hHeld => ?_)
         clear hK K
         refine norm_ (a' := ?_) ?_ ?_
         rotate_left
         ·show Act.put _ (some 46) _ = _
          simp only [Act.put, List.setIfInBounds_toArray, List.set_cons_zero, List.set_cons_succ, i64_w, i32_w]
          rfl
         refine Hof.pu 11 47 HT_ ?_
         exact norm_ (by simp only [putAll, Act.put, List.setIfInBounds_toArray, List.set_cons_zero, List.set_cons_succ]) (hCont (.slice Ao41 y959.length co41, gb962) _ ⟨hHeld, (Hof.Rw (Kd.R_mono HO958.out (fun _ hk => hk.2))), (Hof.Rw (Kd.R_mono HO961.out (fun _ hk => hk.2))), (Hof.Bw BK952.out), (Hof.Bw BK953.out), (Hof.Bw BK962.out), GW962.out, GE962.out, NB952_962.out, NB962_952.out, NB953_962.out, NB962_953.out, Hof.L⟩)
       rintro ⟨v960, gb962⟩ w42 ⟨hS_, h0_, h1_, h2_, h3_, h4_, h5_, h6_, h7_, h8_, h9_, h10_, h11_⟩
       have n0_ : Aside0 (Kd.R (Kd.int .i64) 3 w42 w.heap.size (fun k_ => some k_ ≠ (v960 : Value).ownBlock) (.slice Ao37 t956.length co37) t956) := ⟨h0_⟩
       have n1_ : Aside0 (Kd.R (Kd.int .i64) 3 w42 w.heap.size (fun k_ => some k_ ≠ (.slice Ao37 t956.length co37 : Value).ownBlock) v960 y959) := ⟨h1_⟩
       have n2_ : Aside0 (w42.heap[gb952]? = some (.cells #[.int .i64 a0_0, .slice (some ad955) l0_1.length c0_1] 35 (0, 0))) := ⟨h2_⟩
       have n3_ : Aside0 (w42.heap[gb953]? = some (.cells #[.int .i64 0, .int .i64 0, .int .i64 0, .slice none 0 0] 49 (0, 0))) := ⟨h3_⟩
       have n4_ : Aside0 (w42.heap[gb962]? = some (.cells #[.int .i64 0, .int .i64 0, .int .i64 0, .slice none 0 0] 49 (0, 0))) := ⟨h4_⟩
       have n5_ : Aside0 (w.heap.size ≤ gb962) := ⟨h5_⟩
       have n6_ : Aside0 (w.heap.size ≤ gb962) := ⟨h6_⟩
       have n7_ : Aside0 (gb952 ≠ gb962) := ⟨h7_⟩
       have n8_ : Aside0 (gb962 ≠ gb952) := ⟨h8_⟩
       have n9_ : Aside0 (gb953 ≠ gb962) := ⟨h9_⟩
       have n10_ : Aside0 (gb962 ≠ gb953) := ⟨h10_⟩
       have n11_ : Aside0 (Below w.heap.size w w42) := ⟨h11_⟩
       clear HO958
       clear BK952
       clear BK953
       clear HB
       clear h0_ h1_ h2_ h3_ h4_ h5_ h6_ h7_ h8_ h9_ h10_ h11_
       have HO958 := n0_
       have HO961 := n1_
       have BK952 := n2_
       have BK953 := n3_
       have BK962 := n4_
       have GW962 := n5_
       have GE962 := n6_
       have NB952_962 := n7_
       have NB962_952 := n8_
       have NB953_962 := n9_
       have NB962_953 := n10_
       have HB := n11_
       clear n0_ n1_ n2_ n3_ n4_ n5_ n6_ n7_ n8_ n9_ n10_ n11_
       have hHeld : w42.cell? ⟨gb952, 0, none⟩ = some (.int .i64 a0_0) ∧ w42.cell? ⟨gb952, 1, none⟩ = some (.slice (some ad955) l0_1.length c0_1) := hS_
       obtain ⟨Ao43, co43, eo43⟩ := Kd.R_slice HO961.out
       (first | subst eo43 | (injection eo43 with f1_ f2_ f3_; have f4_ := f1_.symm; have f5_ := f3_.symm; clear f1_ f2_ f3_; subst f4_; subst f5_))
       refine norm_ (a' := ?_) ?_ ?_
       rotate_left
       ·simp only [putAll, Act.put, List.setIfInBounds_toArray, List.set_cons_zero, List.set_cons_succ]
        rfl
       refine one_ (i := 13) (N := none) #[true, true, true, true, true, true, true, true, true, true, true, true, true, true] rfl rfl (one_of HT_.out (by kernel_rfl)) (by decide) (fun K hK => ?_)
       have hs44 : w42.cell? ⟨gb962, 0, none⟩ = some (.int .i64 0) := (blk_cell BK962.out 0).trans rfl
       have hfs44 := blk_frozen BK962.out 0
       have hns44_0 := NB952_962.out
       have hns44_1 := NB953_962.out
       have hms44_0 := NB962_952.out
       have hms44_1 := NB962_953.out
       have hs45 : w42.cell? ⟨gb962, 1, none⟩ = some (.int .i64 0) := (blk_cell BK962.out 1).trans rfl
       have hfs45 := blk_frozen BK962.out 1
       have hns45_0 := NB952_962.out
       have hns45_1 := NB953_962.out
       have hms45_0 := NB962_952.out
       have hms45_1 := NB962_953.out
       have hs46 : w42.cell? ⟨gb962, 2, none⟩ = some (.int .i64 0) := (blk_cell BK962.out 2).trans rfl
       have hfs46 := blk_frozen BK962.out 2
       have hns46_0 := NB952_962.out
       have hns46_1 := NB953_962.out
       have hms46_0 := NB962_952.out
       have hms46_1 := NB962_953.out
       have hs47 : w42.cell? ⟨gb962, 3, none⟩ = some (.slice none 0 0) := (blk_cell BK962.out 3).trans rfl
       have hfs47 := blk_frozen BK962.out 3
       have hns47_0 := NB952_962.out
       have hns47_1 := NB953_962.out
       have hms47_0 := NB962_952.out
       have hms47_1 := NB962_953.out
       refine skip_ (w1 := ?_) (by rfl) rfl ?_ ?_
       rotate_left
       ·go_simp
        rfl
       refine hK.out _ _ ⟨((cell_far (p := ⟨gb962, _, none⟩) NB952_962.out _).trans (((cell_far (p := ⟨gb962, _, none⟩) NB952_962.out _).trans (((cell_far (p := ⟨gb962, _, none⟩) NB952_962.out _).trans (((cell_far (p := ⟨gb962, _, none⟩) NB952_962.out _).trans (hHeld.1)))))))), ((cell_far (p := ⟨gb962, _, none⟩) NB952_962.out _).trans (((cell_far (p := ⟨gb962, _, none⟩) NB952_962.out _).trans (((cell_far (p := ⟨gb962, _, none⟩) NB952_962.out _).trans (((cell_far (p := ⟨gb962, _, none⟩) NB952_962.out _).trans (hHeld.2))))))))⟩ (fun hHeld => ?_)
       clear hK K
       refine done_ (done_of HT_.out (by kernel_rfl)) ?_
       try go_wp2_with (first | (refine Hof.lt (Kd.int .i64) 3 48 ?_; intro v964 w48 ho49 hb hg_ hnew_; clear hg_ hnew_; (first | rw [← Ny963.out] at ho49 | (simp only [Int.reduceToNat] at ho49; rw [← Ny963.out] at ho49)); have HO965 := Aside0.mk (Kd.R_lower (Kd.R_new' (Kd.R_new' ho49 (Kd.R_lt (Hof.Rw ((Kd.R_mono (Kd.R_far (p := ⟨gb962, 3, none⟩) (Kd.R_far (p := ⟨gb962, 2, none⟩) (Kd.R_far (p := ⟨gb962, 1, none⟩) (Kd.R_far (p := ⟨gb962, 0, none⟩) (Kd.R_types HO958.out BK962.out (by decide)) (fun _ hk => hk.2) (.int .i64 a1)) (fun _ hk => hk.2) (.int .i64 (t956.length : Int))) (fun _ hk => hk.2) (.int .i64 a0_0)) (fun _ hk => hk.2) (.slice Ao43 y959.length co43)) (fun _ h_ => h_.1)))))) (Kd.R_lt (Hof.Rw ((Kd.R_mono (Kd.R_far (p := ⟨gb962, 3, none⟩) (Kd.R_far (p := ⟨gb962, 2, none⟩) (Kd.R_far (p := ⟨gb962, 1, none⟩) (Kd.R_far (p := ⟨gb962, 0, none⟩) (Kd.R_types HO961.out BK962.out (by decide)) (fun _ hk => hk.2) (.int .i64 a1)) (fun _ hk => hk.2) (.int .i64 (t956.length : Int))) (fun _ hk => hk.2) (.int .i64 a0_0)) (fun _ hk => hk.2) (.slice Ao43 y959.length co43)) (fun _ h_ => h_.1)))))) (below_size Hof.L)); replace HO958 := Aside0.mk (Kd.R_elder' (Hof.Rw ((Kd.R_mono (Kd.R_far (p := ⟨gb962, 3, none⟩) (Kd.R_far (p := ⟨gb962, 2, none⟩) (Kd.R_far (p := ⟨gb962, 1, none⟩) (Kd.R_far (p := ⟨gb962, 0, none⟩) (Kd.R_types HO958.out BK962.out (by decide)) (fun _ hk => hk.2) (.int .i64 a1)) (fun _ hk => hk.2) (.int .i64 (t956.length : Int))) (fun _ hk => hk.2) (.int .i64 a0_0)) (fun _ hk => hk.2) (.slice Ao43 y959.length co43)) (fun _ h_ => h_.1)))) (Kd.R_base ho49) hb); replace HO961 := Aside0.mk (Kd.R_elder' (Hof.Rw ((Kd.R_mono (Kd.R_far (p := ⟨gb962, 3, none⟩) (Kd.R_far (p := ⟨gb962, 2, none⟩) (Kd.R_far (p := ⟨gb962, 1, none⟩) (Kd.R_far (p := ⟨gb962, 0, none⟩) (Kd.R_types HO961.out BK962.out (by decide)) (fun _ hk => hk.2) (.int .i64 a1)) (fun _ hk => hk.2) (.int .i64 (t956.length : Int))) (fun _ hk => hk.2) (.int .i64 a0_0)) (fun _ hk => hk.2) (.slice Ao43 y959.length co43)) (fun _ h_ => h_.1)))) (Kd.R_base ho49) hb); replace BK952 := Aside0.mk (blk_below (g := gb952) (o := .cells #[.int .i64 a0_0, .slice (some ad955) l0_1.length c0_1] 35 (0, 0)) Hof.B hb); replace BK953 := Aside0.mk (blk_below (g := gb953) (o := .cells #[.int .i64 0, .int .i64 0, .int .i64 0, .slice none 0 0] 49 (0, 0)) Hof.B hb); replace BK962 := Aside0.mk (blk_below (g := gb962) (o := .cells #[.int .i64 a1, .int .i64 (t956.length : Int), .int .i64 a0_0, .slice Ao43 y959.length co43] 49 (0, 0)) Hof.B hb); replace HB := Aside0.mk (below_step Hof.L hb); clear hb ho49))
       go_loopg [9, 51] kj2 (fun kq v9 v51 w' => ∃ (x9_2 : List Int) (x51_2 : Int) (x963003_2 : List Int) (u963003 : Value), v51 = .int .i64 x51_2 ∧ Aside0 (impl_FindMatrix.l0 kq (rd l0_1 0) x9_2 t956 (t956.length : Int) x51_2 a0_0 l0_1 a1 (t956.length : Int) a0_0 x963003_2 = some (r1, r2, r3, r4, r5)) ∧ Aside0 (kq ≤ kj2) ∧ Aside0 (Kd.R (Kd.int .i64) 3 w' w.heap.size (fun k_ => some k_ ≠ ((.slice Ao37 t956.length co37) : Value).ownBlock ∧ some k_ ≠ (u963003 : Value).ownBlock) v9 x9_2) ∧ Aside0 (Kd.R (Kd.int .i64) 3 w' w.heap.size (fun k_ => some k_ ≠ (v9 : Value).ownBlock ∧ some k_ ≠ (u963003 : Value).ownBlock) (.slice Ao37 t956.length co37) t956) ∧ Aside0 (Kd.R (Kd.int .i64) 3 w' w.heap.size (fun k_ => some k_ ≠ (v9 : Value).ownBlock ∧ some k_ ≠ ((.slice Ao37 t956.length co37) : Value).ownBlock) u963003 x963003_2) ∧ Aside0 (w'.heap[gb952]? = some (.cells #[.int .i64 a0_0, (.slice (some ad955) l0_1.length c0_1)] 35 (0, 0))) ∧ Aside0 (w'.heap[gb953]? = some (.cells #[.int .i64 0, .int .i64 0, .int .i64 0, (.slice none 0 0)] 49 (0, 0))) ∧ Aside0 (w'.heap[gb962]? = some (.cells #[.int .i64 a1, .int .i64 (t956.length : Int), .int .i64 a0_0, u963003] 49 (0, 0))) ∧ Aside0 (Below w.heap.size w w'))
       case atStart => exact ⟨(y963), (0), (y959), (.slice Ao43 y959.length co43), Hof.F, H', ⟨Nat.le_refl _⟩, ⟨Hof.Rw (Kd.R_mono HO965.out (fun _ hk => (by first | exact ⟨hk.1.2, hk.2⟩ | (simp_all; done))))⟩, ⟨Hof.Rw (Kd.R_mono HO958.out (fun _ hk => (by first | exact ⟨hk.2, hk.1⟩ | (simp_all; done))))⟩, ⟨Hof.Rw (Kd.R_mono HO961.out (fun _ hk => (by first | exact ⟨hk.2, hk.1⟩ | (simp_all; done))))⟩, ⟨Hof.Bw BK952.out⟩, ⟨Hof.Bw BK953.out⟩, ⟨Hof.Bw BK962.out⟩, ⟨Hof.L⟩⟩
       case round =>
        clear H'
        try clear q9
        try clear hx9
        try clear qi9
        try clear hx955_0
        try clear q955
        obtain ⟨x9_2, x51_2, x963003_2, u963003, rfl, HA, HK2, HO_9, HO_49, HO_963003, BK952, BK953, BK962, HB⟩ := hrel
        cases gk with
        | zero => exact absurd HA.out (by simp [impl_FindMatrix.l0])
        | succ k2 =>
         have H := HA.out
         clear HA
         simp only [impl_FindMatrix.l0] at H
         by_cases c50 : x51_2 < (t956.length : Int)
         ·rw [if_pos c50] at H
          have c50b0 := decide_eq_true c50
          clear c50
          by_cases c51 : 0 ≤ x51_2
          ·rw [if_pos c51] at H
           have c51b0 := decide_eq_true c51
           clear c51
           by_cases c52 : x51_2 < (t956.length : Int)
           ·rw [if_pos c52] at H
            have c52b0 := decide_eq_true c52
            clear c52
            have H' := Aside0.mk H
            clear H
            have p968 : 0 ≤ (x51_2 : Int) := Hof.D
            have q968 : x51_2 < (t956.length : Int) := Hof.D
            obtain ⟨ad968, e968, hx968_0⟩ := Kd.at_int (Kd.R_reads' HO_49.out).2.2 x51_2 p968 q968
            cases e968
            replace p968 := eq_true p968
            replace q968 := eq_true q968
            go_wp2
            go_loopg [9, 12] k2 (fun kq v9 v12 w' => ∃ (x9_3 : List Int) (x12_3 : Int) (x963003_3 : List Int) (u963003 : Value), v12 = .int .i64 x12_3 ∧ Aside0 (impl_FindMatrix.l1 kq (rd l0_1 0) x9_3 x51_2 (rd t956 x51_2) x12_3 t956 (t956.length : Int) x51_2 a0_0 l0_1 a1 (t956.length : Int) a0_0 x963003_3 = some (r1, r2, r3, r4, r5)) ∧ Aside0 (kq ≤ k2) ∧ Aside0 (Kd.R (Kd.int .i64) 3 w' w.heap.size (fun k_ => some k_ ≠ ((.slice (some ad968) t956.length co37) : Value).ownBlock ∧ some k_ ≠ (u963003 : Value).ownBlock) v9 x9_3) ∧ Aside0 (Kd.R (Kd.int .i64) 3 w' w.heap.size (fun k_ => some k_ ≠ (v9 : Value).ownBlock ∧ some k_ ≠ (u963003 : Value).ownBlock) (.slice (some ad968) t956.length co37) t956) ∧ Aside0 (Kd.R (Kd.int .i64) 3 w' w.heap.size (fun k_ => some k_ ≠ (v9 : Value).ownBlock ∧ some k_ ≠ ((.slice (some ad968) t956.length co37) : Value).ownBlock) u963003 x963003_3) ∧ Aside0 (w'.heap[gb952]? = some (.cells #[.int .i64 a0_0, (.slice (some ad955) l0_1.length c0_1)] 35 (0, 0))) ∧ Aside0 (w'.heap[gb953]? = some (.cells #[.int .i64 0, .int .i64 0, .int .i64 0, (.slice none 0 0)] 49 (0, 0))) ∧ Aside0 (w'.heap[gb962]? = some (.cells #[.int .i64 a1, .int .i64 (t956.length : Int), .int .i64 a0_0, u963003] 49 (0, 0))) ∧ Aside0 (Below w.heap.size w w'))
            case atStart => exact ⟨(x9_2), (0), (x963003_2), (u963003), Hof.F, H', ⟨Nat.le_refl _⟩, ⟨by (with_reducible repeat (first | apply Kd.R_alloc | apply Kd.R_drewN | apply Kd.R_drew)); exact HO_9.out⟩, ⟨by (with_reducible repeat (first | apply Kd.R_alloc | apply Kd.R_drewN | apply Kd.R_drew)); exact HO_49.out⟩, ⟨by (with_reducible repeat (first | apply Kd.R_alloc | apply Kd.R_drewN | apply Kd.R_drew)); exact HO_963003.out⟩, ⟨Hof.B⟩, ⟨Hof.B⟩, ⟨Hof.B⟩, ⟨Hof.L⟩⟩
            case round =>
             clear H'
             try clear q9
             try clear hx9
             try clear qi9
             try clear hx955_0
             try clear hx968_0
             try clear q9
             try clear q955
             try clear q968
             obtain ⟨x9_3, x12_3, x963003_3, u963003, rfl, HA, HK3, HO_9, HO_49, HO_963003, BK952, BK953, BK962, HB⟩ := hrel
             cases gk with
             | zero => exact absurd HA.out (by simp [impl_FindMatrix.l1])
             | succ k3 =>
              have H := HA.out
              clear HA
              simp only [impl_FindMatrix.l1] at H
              by_cases c53 : x12_3 < a0_0
              ·rw [if_pos c53] at H
               have c53b0 := decide_eq_true c53
               clear c53
               by_cases c54 : x12_3 = (rd t956 x51_2)
               ·rw [if_pos c54] at H
                have c54b0 : (x12_3 == (rd t956 x51_2)) = true := beq_iff_eq.mpr c54
                have c54b1 : (x12_3 != (rd t956 x51_2)) = false := bne_eq_false_iff_eq.mpr c54
                clear c54
                obtain ⟨ji55, hji55⟩ : ∃ j_ : Int, (wrap64 ((wrap64 (x51_2 * a0_0)) + x12_3)) = j_ := ⟨_, rfl⟩
                replace H : (if 0 ≤ (ji55) then (if (ji55) < (x963003_3.length : Int) then (impl_FindMatrix.l1 k3 (rd l0_1 0) x9_3 x51_2 (rd t956 x51_2) (wrap64 (x12_3 + 1)) t956 (t956.length : Int) x51_2 a0_0 l0_1 a1 (t956.length : Int) a0_0 (x963003_3.set ((ji55) : Int).toNat 1)) else (none)) else (none)) = some (r1, r2, r3, r4, r5) := by first | (rw [hji55] at H; exact H) | (simp only [hji55] at H ⊢; exact H)
                have hji55w : (IntKind.i64.wrap ((wrap64 (x51_2 * a0_0)) + x12_3)) = ji55 := (i64_w _).trans hji55
                by_cases c56 : 0 ≤ (ji55)
                ·rw [if_pos c56] at H
                 have c56b0 := decide_eq_true c56
                 clear c56
                 by_cases c57 : (ji55) < (x963003_3.length : Int)
                 ·rw [if_pos c57] at H
                  have c57b0 := decide_eq_true c57
                  clear c57
                  obtain ⟨y969, hy969⟩ : ∃ y_ : List Int, y_ = (x963003_3.set ((ji55) : Int).toNat 1) := ⟨_, rfl⟩
                  replace H : (impl_FindMatrix.l1 k3 (rd l0_1 0) x9_3 x51_2 (rd t956 x51_2) (wrap64 (x12_3 + 1)) t956 (t956.length : Int) x51_2 a0_0 l0_1 a1 (t956.length : Int) a0_0 y969) = some (r1, r2, r3, r4, r5) := by (try rw [hy969]); exact Hof.Z
                  have Ny969 := Aside0.mk hy969
                  clear hy969
                  have H' := Aside0.mk H
                  clear H
                  have hnb59 := NB952_953.out
                  have hnc59 := NB953_952.out
                  have hnb60 := NB952_962.out
                  have hnc60 := NB962_952.out
                  obtain ⟨hcz61_0, hcz61_1, hfz61_0, hfz61_1⟩ := Hof.blk2 BK952.out
                  have hnb62 := NB962_953.out
                  have hnc62 := NB953_962.out
                  obtain ⟨hcz63_0, hcz63_1, hcz63_2, hcz63_3, hfz63_0, hfz63_1, hfz63_2, hfz63_3⟩ := Hof.blk4 BK962.out
                  have p58 : 0 ≤ ((ji55) : Int) := Hof.D
                  have q58 : ((ji55) : Int) < ((x963003_3.length : Int) : Int) := Hof.D
                  obtain ⟨go58, co58, eo58, gb58, gl58, cl58, HG58⟩ := Kd.R_form HO_963003.out (by omega)
                  (first | cases eo58 | (injection eo58 with ea_ en_ ec_; (first | subst ea_ | (injection ea_ with ea_; subst ea_)); subst ec_; clear en_))
                  have GB58 := Aside0.mk gb58
                  have GG58 := Aside0.mk HG58
                  clear gb58 gl58 HG58
                  obtain ⟨hx58_0, hf58_0⟩ := Kd.R_celln 0 HO_963003.out ((ji55) : Int) p58 q58
                  replace p58 := eq_true p58
                  replace q58 := eq_true q58
                  have HP64 := Kd.R_putg HO_963003.out ((ji55) : Int) 1
                  go_wp2_with (first | ((with_reducible refine gate_store (t := 3) (p := 74) rfl ?_); refine store_event (t := 3) (p := 74) (v := ?vo_w65) (w1 := (wr.setCell ⟨go58, ((ji55) : Int).toNat, none⟩ (.int .i64 1))) ?hg ?ho ?hn ?hr ?_; (case ho => rfl); (case hg => rfl); (case hn => rfl); (case hr => first | (go_simp; done) | (go_simp; rfl)); intro w65 hw; have hg : wr.grownBy w65 (some go58) := (by rw [hw]; exact HP64.2); have hp_ : Kd.R (Kd.int .i64) 3 w65 w.heap.size (fun k_ => some k_ ≠ (u9 : Value).ownBlock ∧ some k_ ≠ (.slice (some ad968) t956.length co37 : Value).ownBlock) (.slice (some ⟨go58, 0, none⟩) x963003_3.length co58) y969 := (by rw [hw, Ny969.out]; exact HP64.1); clear HP64; replace HO_9 := Aside0.mk (Kd.R_after (v := (.slice (some ⟨go58, 0, none⟩) x963003_3.length co58)) (v1 := (.slice (some ⟨go58, 0, none⟩) x963003_3.length co58)) (ok := (fun k_ => some k_ ≠ (.slice (some ad968) t956.length co37 : Value).ownBlock)) (Hof.Rw HO_9.out) hg (.inl rfl)); replace HO_49 := Aside0.mk (Kd.R_after (v := (.slice (some ⟨go58, 0, none⟩) x963003_3.length co58)) (v1 := (.slice (some ⟨go58, 0, none⟩) x963003_3.length co58)) (ok := (fun k_ => some k_ ≠ (u9 : Value).ownBlock)) (Hof.Rw HO_49.out) hg (.inl rfl)); replace BK952 := Aside0.mk (blk_grown (g := gb952) (o := .cells #[.int .i64 a0_0, .slice (some ad955) l0_1.length c0_1] 35 (0, 0)) (Hof.Bw BK952.out) hg (Kd.R_ne HO_963003.out BK952.out (by decide))); replace BK953 := Aside0.mk (blk_grown (g := gb953) (o := .cells #[.int .i64 0, .int .i64 0, .int .i64 0, .slice none 0 0] 49 (0, 0)) (Hof.Bw BK953.out) hg (Kd.R_ne HO_963003.out BK953.out (by decide))); replace BK962 := Aside0.mk (blk_grown (g := gb962) (o := .cells #[.int .i64 a1, .int .i64 (t956.length : Int), .int .i64 a0_0, .slice (some ⟨go58, 0, none⟩) x963003_3.length co58] 49 (0, 0)) (Hof.Bw BK962.out) hg (Kd.R_ne HO_963003.out BK962.out (by decide))); replace HO_963003 := Aside0.mk hp_; replace HB := Aside0.mk ((by rw [hw]; exact below_set (HB.out) GB58.out : Below w.heap.size w w65)); clear hg hw hp_))
                  go_roundg k3
                  case measure => have := HJ2.out; have := HK2.out; have := HK3.out; omega
                  case rel => exact ⟨(x9_3), (wrap64 (x12_3 + 1)), (y969), (.slice (some ⟨go58, 0, none⟩) x963003_3.length co58), Hof.F, H', ⟨by have := HJ2.out; have := HK2.out; have := HK3.out; omega⟩, ⟨by (with_reducible repeat (first | apply Kd.R_alloc | apply Kd.R_drewN | apply Kd.R_drew)); exact HO_9.out⟩, ⟨by (with_reducible repeat (first | apply Kd.R_alloc | apply Kd.R_drewN | apply Kd.R_drew)); exact HO_49.out⟩, ⟨by (with_reducible repeat (first | apply Kd.R_alloc | apply Kd.R_drewN | apply Kd.R_drew)); exact HO_963003.out⟩, ⟨Hof.B⟩, ⟨Hof.B⟩, ⟨Hof.B⟩, ⟨Hof.L⟩⟩
                 ·rw [if_neg c57] at H
                  exact absurd H (by simp)
                ·rw [if_neg c56] at H
                 exact absurd H (by simp)
               ·rw [if_neg c54] at H
                have c54b0 : (x12_3 == (rd t956 x51_2)) = false := beq_eq_false_iff_ne.mpr c54
                have c54b1 : (x12_3 != (rd t956 x51_2)) = true := bne_iff_ne.mpr c54
                obtain ⟨t970, A66, H⟩ := Hof.be H
                (try dsimp only at H)
                by_cases c67 : t970 = true
                ·subst c67
                 replace H : (impl_FindMatrix.l1 k3 (rd l0_1 0) x9_3 x51_2 (rd t956 x51_2) (wrap64 (x12_3 + 1)) t956 (t956.length : Int) x51_2 a0_0 l0_1 a1 (t956.length : Int) a0_0 x963003_3) = some (r1, r2, r3, r4, r5) := by rw [if_pos rfl] at H; exact H
                 have H' := Aside0.mk H
                 clear H
                 have hnb68 := NB952_953.out
                 have hnc68 := NB953_952.out
                 have hnb69 := NB952_962.out
                 have hnc69 := NB962_952.out
                 obtain ⟨hcz70_0, hcz70_1, hfz70_0, hfz70_1⟩ := Hof.blk2 BK952.out
                 go_wp2_with (first | ((with_reducible refine gate_callee (f := 82) rfl ?_); refine Hof.gl (some 78) Try.func82 #[.int .i64 (rd l0_1 0), .int .i64 x12_3] ?_; (with_reducible refine (impl_HasElement.calls (rd l0_1 0) x12_3 true _ A66.out).mono ?_); rintro e w' ⟨rfl, ⟨nd, rfl⟩⟩; refine ⟨_, rfl, ?_⟩))
                 go_roundg k3
                 case measure => have := HJ2.out; have := HK2.out; have := HK3.out; omega
                 case rel => exact ⟨(x9_3), (wrap64 (x12_3 + 1)), (x963003_3), (u963003), Hof.F, H', ⟨by have := HJ2.out; have := HK2.out; have := HK3.out; omega⟩, ⟨by (with_reducible repeat (first | apply Kd.R_alloc | apply Kd.R_drewN | apply Kd.R_drew)); exact HO_9.out⟩, ⟨by (with_reducible repeat (first | apply Kd.R_alloc | apply Kd.R_drewN | apply Kd.R_drew)); exact HO_49.out⟩, ⟨by (with_reducible repeat (first | apply Kd.R_alloc | apply Kd.R_drewN | apply Kd.R_drew)); exact HO_963003.out⟩, ⟨Hof.B⟩, ⟨Hof.B⟩, ⟨Hof.B⟩, ⟨Hof.L⟩⟩
                ·replace c67 := Bool.eq_false_iff.mpr c67
                 subst c67
                 replace H : ((impl_circuit.f k3 a0_0 l0_1 (rd l0_1 0) x12_3).bind fun t971 => ((impl_HasElement.f t971 (rd t956 x51_2)).bind fun t972 => (if t972 = true then (if x9_3.length < 17592186044416 then (impl_FindMatrix.l1 k3 (rd l0_1 0) (x9_3 ++ [wrap64 ((wrap64 (x51_2 * a0_0)) + x12_3)]) x51_2 (rd t956 x51_2) (wrap64 (x12_3 + 1)) t956 (t956.length : Int) x51_2 a0_0 l0_1 a1 (t956.length : Int) a0_0 x963003_3) else (none)) else (impl_FindMatrix.l1 k3 (rd l0_1 0) x9_3 x51_2 (rd t956 x51_2) (wrap64 (x12_3 + 1)) t956 (t956.length : Int) x51_2 a0_0 l0_1 a1 (t956.length : Int) a0_0 x963003_3)))) = some (r1, r2, r3, r4, r5) := by rw [if_neg (show ¬ (false = true) by decide)] at H; exact H
                 obtain ⟨t971, A71, H⟩ := Hof.be H
                 (try dsimp only at H)
                 obtain ⟨t972, A72, H⟩ := Hof.be H
                 (try dsimp only at H)
                 by_cases c73 : t972 = true
                 ·subst c73
                  replace H : (if x9_3.length < 17592186044416 then (impl_FindMatrix.l1 k3 (rd l0_1 0) (x9_3 ++ [wrap64 ((wrap64 (x51_2 * a0_0)) + x12_3)]) x51_2 (rd t956 x51_2) (wrap64 (x12_3 + 1)) t956 (t956.length : Int) x51_2 a0_0 l0_1 a1 (t956.length : Int) a0_0 x963003_3) else (none)) = some (r1, r2, r3, r4, r5) := by rw [if_pos rfl] at H; exact H
                  by_cases c74 : x9_3.length < 17592186044416
                  ·rw [if_pos c74] at H
                   have LMc74 := Aside0.mk c74
                   clear c74
                   obtain ⟨y973, hy973⟩ : ∃ y_ : List Int, y_ = (x9_3 ++ [wrap64 ((wrap64 (x51_2 * a0_0)) + x12_3)]) := ⟨_, rfl⟩
                   replace H : (impl_FindMatrix.l1 k3 (rd l0_1 0) y973 x51_2 (rd t956 x51_2) (wrap64 (x12_3 + 1)) t956 (t956.length : Int) x51_2 a0_0 l0_1 a1 (t956.length : Int) a0_0 x963003_3) = some (r1, r2, r3, r4, r5) := by (try rw [hy973]); exact Hof.Z
                   have Ny973 := Aside0.mk hy973
                   clear hy973
                   have H' := Aside0.mk H
                   clear H
                   have hnb75 := NB952_953.out
                   have hnc75 := NB953_952.out
                   have hnb76 := NB952_962.out
                   have hnc76 := NB962_952.out
                   obtain ⟨hcz77_0, hcz77_1, hfz77_0, hfz77_1⟩ := Hof.blk2 BK952.out
                   go_wp2_with (first | ((with_reducible refine gate_callee (f := 82) rfl ?_); refine Hof.gl (some 78) Try.func82 #[.int .i64 (rd l0_1 0), .int .i64 x12_3] ?_; (with_reducible refine (impl_HasElement.calls (rd l0_1 0) x12_3 false _ A66.out).mono ?_); rintro e w' ⟨rfl, ⟨nd, rfl⟩⟩; refine ⟨_, rfl, ?_⟩) | (go_at_call 83; (with_reducible refine (impl_circuit.calls k3 a0_0 _ _ l0_1 (rd l0_1 0) x12_3 t971 _ ?side1 ?side2 A71.out).mono ?_); (case side1 => exact Hof.Cw (Kd.C_below HR0_1.out Hof.L)); (case side2 => exact HC0_1.out); rintro e w78 ⟨rfl, hb⟩; replace HO_9 := Hof.rb HO_9 hb; replace HO_49 := Hof.rb HO_49 hb; replace HO_963003 := Hof.rb HO_963003 hb; replace BK952 := Hof.bb BK952 hb; replace BK953 := Hof.bb BK953 hb; replace BK962 := Hof.bb BK962 hb; replace HB := Aside0.mk (below_step Hof.L hb); (try clear hb); (try clear hb2); (try clear hk); (try clear hi)) | (go_at_call 82; (with_reducible refine (impl_HasElement.calls t971 (rd t956 x51_2) true _ A72.out).mono ?_); rintro e w' ⟨rfl, ⟨nd, rfl⟩⟩; obtain ⟨hcz79_0, hcz79_1, hfz79_0, hfz79_1⟩ := Hof.blk2 BK952.out) | ((with_reducible refine gate_builtin (b := .append) (xs := #[.tmp 88, .tmp 95]) rfl ?_); at_builtin; refine Kd.R_append (Kd.int .i64) (w0 := w) w.heap.size rfl (.tmp 88) (.tmp 95) 24 3 (.int .i64 0) 8 rfl Try.underlying24 info3 rfl (by decide) (by omega) u9 x9_3 (wrap64 ((wrap64 (x51_2 * a0_0)) + x12_3)) [.int .i64 (wrap64 ((wrap64 (x51_2 * a0_0)) + x12_3))] (fun k_ => some k_ ≠ (.slice (some ad968) t956.length co37 : Value).ownBlock ∧ some k_ ≠ (u963003 : Value).ownBlock) (fun _ => False) rfl rfl (by exact rfl) (fun _ hk => hk.elim) (by exact fun k_ hk => ⟨Kd.fresh' (Kd.R_lt (Hof.Rw HO_49.out)) k_ hk, Kd.fresh' (Kd.R_lt (Hof.Rw HO_963003.out)) k_ hk⟩) (by exact Hof.Rw HO_9.out) (by exact Hof.L) (by exact below_size Hof.L) (by have := LMc74.out; omega) ?_; intro v974 w80 ho hb hg hat; rw [← Ny973.out] at ho; have n0_ := Aside0.mk (Kd.R_after (ok := (fun k_ => some k_ ≠ (u963003 : Value).ownBlock)) (Hof.Rw (Kd.R_mono HO_49.out (fun _ hk => (by first | exact ⟨hk.2, hk.1⟩ | (simp_all; done))))) hg hat); have n1_ := Aside0.mk (Kd.R_after (ok := (fun k_ => some k_ ≠ (.slice (some ad968) t956.length co37 : Value).ownBlock)) (Hof.Rw (Kd.R_mono HO_963003.out (fun _ hk => (by first | exact ⟨hk.2, hk.1⟩ | (simp_all; done))))) hg hat); have n2_ := Aside0.mk (blk_grown (g := gb952) (o := .cells #[.int .i64 a0_0, .slice (some ad955) l0_1.length c0_1] 35 (0, 0)) (Hof.Bw BK952.out) hg (Kd.R_ne HO_9.out BK952.out (by decide))); have n3_ := Aside0.mk (blk_grown (g := gb953) (o := .cells #[.int .i64 0, .int .i64 0, .int .i64 0, .slice none 0 0] 49 (0, 0)) (Hof.Bw BK953.out) hg (Kd.R_ne HO_9.out BK953.out (by decide))); have n4_ := Aside0.mk (blk_grown (g := gb962) (o := .cells #[.int .i64 a1, .int .i64 (t956.length : Int), .int .i64 a0_0, u963003] 49 (0, 0)) (Hof.Bw BK962.out) hg (Kd.R_ne HO_9.out BK962.out (by decide))); have n5_ := Aside0.mk hb; have n6_ := Aside0.mk ho; clear HO_49; clear HO_963003; clear BK952; clear BK953; clear BK962; clear HB; clear HO_9; have HO_49 := n0_; have HO_963003 := n1_; have BK952 := n2_; have BK953 := n3_; have BK962 := n4_; have HB := n5_; have HO975 := n6_; clear n0_ n1_ n2_ n3_ n4_ n5_ n6_; clear ho hb hg hat))
                   go_roundg k3
                   case measure => have := HJ2.out; have := HK2.out; have := HK3.out; omega
                   case rel => exact ⟨(y973), (wrap64 (x12_3 + 1)), (x963003_3), (u963003), Hof.F, H', ⟨by have := HJ2.out; have := HK2.out; have := HK3.out; omega⟩, ⟨by (with_reducible repeat (first | apply Kd.R_alloc | apply Kd.R_drewN | apply Kd.R_drew)); exact HO975.out⟩, ⟨by (with_reducible repeat (first | apply Kd.R_alloc | apply Kd.R_drewN | apply Kd.R_drew)); exact Kd.R_mono HO_49.out (fun _ hk => (by first | exact ⟨hk.2, hk.1⟩ | (simp_all; done)))⟩, ⟨by (with_reducible repeat (first | apply Kd.R_alloc | apply Kd.R_drewN | apply Kd.R_drew)); exact Kd.R_mono HO_963003.out (fun _ hk => (by first | exact ⟨hk.2, hk.1⟩ | (simp_all; done)))⟩, ⟨Hof.B⟩, ⟨Hof.B⟩, ⟨Hof.B⟩, ⟨Hof.L⟩⟩
                  ·rw [if_neg c74] at H
                   exact absurd H (by simp)
                 ·replace c73 := Bool.eq_false_iff.mpr c73
                  subst c73
                  replace H : (impl_FindMatrix.l1 k3 (rd l0_1 0) x9_3 x51_2 (rd t956 x51_2) (wrap64 (x12_3 + 1)) t956 (t956.length : Int) x51_2 a0_0 l0_1 a1 (t956.length : Int) a0_0 x963003_3) = some (r1, r2, r3, r4, r5) := by rw [if_neg (show ¬ (false = true) by decide)] at H; exact H
                  have H' := Aside0.mk H
                  clear H
                  have hnb81 := NB952_953.out
                  have hnc81 := NB953_952.out
                  have hnb82 := NB952_962.out
                  have hnc82 := NB962_952.out
                  obtain ⟨hcz83_0, hcz83_1, hfz83_0, hfz83_1⟩ := Hof.blk2 BK952.out
                  go_wp2_with (first | ((with_reducible refine gate_callee (f := 82) rfl ?_); refine Hof.gl (some 78) Try.func82 #[.int .i64 (rd l0_1 0), .int .i64 x12_3] ?_; (with_reducible refine (impl_HasElement.calls (rd l0_1 0) x12_3 false _ A66.out).mono ?_); rintro e w' ⟨rfl, ⟨nd, rfl⟩⟩; refine ⟨_, rfl, ?_⟩) | (go_at_call 83; (with_reducible refine (impl_circuit.calls k3 a0_0 _ _ l0_1 (rd l0_1 0) x12_3 t971 _ ?side1 ?side2 A71.out).mono ?_); (case side1 => exact Hof.Cw (Kd.C_below HR0_1.out Hof.L)); (case side2 => exact HC0_1.out); rintro e w84 ⟨rfl, hb⟩; replace HO_9 := Hof.rb HO_9 hb; replace HO_49 := Hof.rb HO_49 hb; replace HO_963003 := Hof.rb HO_963003 hb; replace BK952 := Hof.bb BK952 hb; replace BK953 := Hof.bb BK953 hb; replace BK962 := Hof.bb BK962 hb; replace HB := Aside0.mk (below_step Hof.L hb); (try clear hb); (try clear hb2); (try clear hk); (try clear hi)) | (go_at_call 82; (with_reducible refine (impl_HasElement.calls t971 (rd t956 x51_2) false _ A72.out).mono ?_); rintro e w' ⟨rfl, ⟨nd, rfl⟩⟩))
                  go_roundg k3
                  case measure => have := HJ2.out; have := HK2.out; have := HK3.out; omega
                  case rel => exact ⟨(x9_3), (wrap64 (x12_3 + 1)), (x963003_3), (u963003), Hof.F, H', ⟨by have := HJ2.out; have := HK2.out; have := HK3.out; omega⟩, ⟨by (with_reducible repeat (first | apply Kd.R_alloc | apply Kd.R_drewN | apply Kd.R_drew)); exact HO_9.out⟩, ⟨by (with_reducible repeat (first | apply Kd.R_alloc | apply Kd.R_drewN | apply Kd.R_drew)); exact HO_49.out⟩, ⟨by (with_reducible repeat (first | apply Kd.R_alloc | apply Kd.R_drewN | apply Kd.R_drew)); exact HO_963003.out⟩, ⟨Hof.B⟩, ⟨Hof.B⟩, ⟨Hof.B⟩, ⟨Hof.L⟩⟩
              ·rw [if_neg c53] at H
               have c53b0 : decide (x12_3 < a0_0) = false := decide_eq_false c53
               clear c53
               have H' := Aside0.mk H
               clear H
               have hnb85 := NB952_953.out
               have hnc85 := NB953_952.out
               have hnb86 := NB952_962.out
               have hnc86 := NB962_952.out
               obtain ⟨hcz87_0, hcz87_1, hfz87_0, hfz87_1⟩ := Hof.blk2 BK952.out
               go_wp2
               (try simp only [← hl49_2, ← hl49_3])
               go_roundg k3
               case measure => have := HJ2.out; have := HK2.out; have := HK3.out; omega
               case rel => exact ⟨(x9_3), (wrap64 (x51_2 + 1)), (x963003_3), (u963003), Hof.F, H', ⟨by have := HJ2.out; have := HK2.out; have := HK3.out; omega⟩, ⟨by (with_reducible repeat (first | apply Kd.R_alloc | apply Kd.R_drewN | apply Kd.R_drew)); exact HO_9.out⟩, ⟨by (with_reducible repeat (first | apply Kd.R_alloc | apply Kd.R_drewN | apply Kd.R_drew)); exact HO_49.out⟩, ⟨by (with_reducible repeat (first | apply Kd.R_alloc | apply Kd.R_drewN | apply Kd.R_drew)); exact HO_963003.out⟩, ⟨Hof.B⟩, ⟨Hof.B⟩, ⟨Hof.B⟩, ⟨Hof.L⟩⟩
           ·rw [if_neg c52] at H
            exact absurd H (by simp)
          ·rw [if_neg c51] at H
           exact absurd H (by simp)
         ·rw [if_neg c50] at H
          have c50b0 : decide (x51_2 < (t956.length : Int)) = false := decide_eq_false c50
          clear c50
          obtain ⟨⟨t966, t967⟩, A88, H⟩ := Hof.be H
          (try dsimp only at H)
          by_cases c89 : t966 = true
          ·subst c89
           replace H : (some (a1, (t956.length : Int), a0_0, t967, true)) = some (r1, r2, r3, r4, r5) := by rw [if_pos rfl] at H; exact H
           simp only [Option.some.injEq, Prod.mk.injEq] at H
           obtain ⟨rfl, rfl, rfl, rfl, rfl⟩ := H
           have hnb90 := NB952_953.out
           have hnc90 := NB953_952.out
           have hnb91 := NB952_962.out
           have hnc91 := NB962_952.out
           obtain ⟨hcz92_0, hcz92_1, hfz92_0, hfz92_1⟩ := Hof.blk2 BK952.out
           have hnb93 := NB962_953.out
           have hnc93 := NB953_962.out
           obtain ⟨hcz94_0, hcz94_1, hcz94_2, hcz94_3, hfz94_0, hfz94_1, hfz94_2, hfz94_3⟩ := Hof.blk4 BK962.out
           obtain ⟨Ao95, co95, eo95⟩ := Kd.R_slice HO_963003.out
           subst eo95
           obtain ⟨Ao96, co96, eo96⟩ := Kd.R_slice HO_9.out
           subst eo96
           go_wp2_with (first | ((with_reducible refine gate_callee (f := 84) rfl ?_); refine Hof.gl (some 101) Try.func84 #[.agg #[.int .i64 a0_0, .slice (some ad955) l0_1.length c0_1], .agg #[.int .i64 a1, .int .i64 (t956.length : Int), .int .i64 a0_0, .slice Ao95 x963003_2.length co95], .slice Ao96 x9_2.length co96] ?_; (with_reducible refine (impl_fillCells.calls k2 a0_0 _ _ l0_1 a1 (t956.length : Int) a0_0 (fun k_ => some k_ = (.slice Ao95 x963003_2.length co95 : Value).ownBlock) (.slice Ao95 x963003_2.length co95) x963003_2 _ _ x9_2 true t967 w _ ?side1 ?side2 ?side3 ?side4 ?side5 ?side6 A88.out).mono ?_); (case side1 => repeat (first | (with_reducible first | exact HB.out | apply below_alloc | apply pw_below_drewN | apply below_drew1 | refine below_set ?_ GE952.out | refine below_set ?_ GE953.out | refine below_set ?_ GE962.out) | exact HB.out)); (case side2 => exact Kd.C_kept_came (Kd.heap_int .i64) HR0_1.out Hof.L (fun k_ hs_ => (fun e_ => Kd.R_base HO_963003.out k_ e_.symm) hs_)); (case side3 => exact HC0_1.out); (case side4 => exact Kd.R_tight rfl HO_963003.out); (case side5 => exact Kd.C_kept_own (HO_9.out) (fun k_ hk_ hs_ => (by first | exact (hk_.2) hs_ | (simp_all; done)))); (case side6 => exact (Kd.R_reads' HO_9.out).2.1); rintro e w97 ⟨rfl, hy0, hb, hkp⟩; refine ⟨_, rfl, ?_⟩; replace HO_9 := Aside0.mk (Kd.R_mono (ok' := fun k_ => some k_ ≠ (.slice Ao37 t956.length co37 : Value).ownBlock ∧ some k_ ≠ (.slice Ao95 x963003_2.length co95 : Value).ownBlock) (Kd.R_keptB (HO_9.out) hkp (fun k_ hk_ hs_ => (by first | exact (hk_.2) hs_ | (simp_all; done)))) (fun k_ hk_ => (by first | exact ⟨hk_.1.1, hk_.1.2⟩ | (simp_all; done)))); replace HO_49 := Aside0.mk (Kd.R_mono (ok' := fun k_ => some k_ ≠ (.slice Ao96 x9_2.length co96 : Value).ownBlock ∧ some k_ ≠ (.slice Ao95 x963003_2.length co95 : Value).ownBlock) (Kd.R_keptB (HO_49.out) hkp (fun k_ hk_ hs_ => (by first | exact (hk_.2) hs_ | (simp_all; done)))) (fun k_ hk_ => (by first | exact ⟨hk_.1.1, hk_.1.2⟩ | (simp_all; done)))); replace BK952 := Aside0.mk (blk_kept (Hof.Bw BK952.out) hkp (fun hs_ => (fun e_ => (Kd.R_ne HO_963003.out BK952.out (by decide)) e_) hs_)); replace BK953 := Aside0.mk (blk_kept (Hof.Bw BK953.out) hkp (fun hs_ => (fun e_ => (Kd.R_ne HO_963003.out BK953.out (by decide)) e_) hs_)); replace BK962 := Aside0.mk (blk_kept (Hof.Bw BK962.out) hkp (fun hs_ => (fun e_ => (Kd.R_ne HO_963003.out BK962.out (by decide)) e_) hs_)); replace HO_963003 := Aside0.mk (Kd.R_reok rfl hy0 (fun k_ e_ => HO_963003.out.1 k_ e_)); replace HB := Aside0.mk hb; (try clear hb); (try clear hkp); (try clear hy0); obtain ⟨hcz98_0, hcz98_1, hcz98_2, hcz98_3, hfz98_0, hfz98_1, hfz98_2, hfz98_3⟩ := Hof.blk4 BK962.out; obtain ⟨hcz99_0, hcz99_1, hcz99_2, hcz99_3, hfz99_0, hfz99_1, hfz99_2, hfz99_3⟩ := Hof.blk4 BK953.out))
           refine bodyPost_ret (results_ct rfl _ _ gb953 49 #[.int .i64 a1, .int .i64 (t956.length : Int), .int .i64 a0_0, .slice Ao95 x963003_2.length co95] (0, 0) _ rfl Hof.B Try.underlying49 rfl (by kernel_rfl)) rfl ?_
           exact ⟨_, by first | rfl | (simp [errW_none, errW_some] <;> rfl) | (simp only [← hji30]; first | rfl | (simp [errW_none, errW_some] <;> rfl)) | (simp [*, errW_none, errW_some] <;> rfl), by (with_reducible repeat (first | apply Kd.R_alloc | apply Kd.R_drewN | apply Kd.R_drew)); exact Kd.R_mono (Kd.R_far (p := ⟨gb953, 3, none⟩) (Kd.R_far (p := ⟨gb953, 2, none⟩) (Kd.R_far (p := ⟨gb953, 1, none⟩) (Kd.R_far (p := ⟨gb953, 0, none⟩) (Kd.R_types HO_963003.out BK953.out (by decide)) (fun _ hk => hk.2) (.int .i64 a1)) (fun _ hk => hk.2) (.int .i64 (t956.length : Int))) (fun _ hk => hk.2) (.int .i64 a0_0)) (fun _ hk => hk.2) (.slice Ao95 x963003_2.length co95)) (fun _ hk => trivial), Hof.L⟩
          ·replace c89 := Bool.eq_false_iff.mpr c89
           subst c89
           replace H : (some (0, 0, 0, ([] : List Int), false)) = some (r1, r2, r3, r4, r5) := by rw [if_neg (show ¬ (false = true) by decide)] at H; exact H
           simp only [Option.some.injEq, Prod.mk.injEq] at H
           obtain ⟨rfl, rfl, rfl, rfl, rfl⟩ := H
           have hnb100 := NB952_953.out
           have hnc100 := NB953_952.out
           have hnb101 := NB952_962.out
           have hnc101 := NB962_952.out
           obtain ⟨hcz102_0, hcz102_1, hfz102_0, hfz102_1⟩ := Hof.blk2 BK952.out
           have hnb103 := NB962_953.out
           have hnc103 := NB953_962.out
           obtain ⟨hcz104_0, hcz104_1, hcz104_2, hcz104_3, hfz104_0, hfz104_1, hfz104_2, hfz104_3⟩ := Hof.blk4 BK962.out
           obtain ⟨Ao105, co105, eo105⟩ := Kd.R_slice HO_963003.out
           subst eo105
           obtain ⟨Ao106, co106, eo106⟩ := Kd.R_slice HO_9.out
           subst eo106
           go_wp2_with (first | ((with_reducible refine gate_callee (f := 84) rfl ?_); refine Hof.gl (some 101) Try.func84 #[.agg #[.int .i64 a0_0, .slice (some ad955) l0_1.length c0_1], .agg #[.int .i64 a1, .int .i64 (t956.length : Int), .int .i64 a0_0, .slice Ao105 x963003_2.length co105], .slice Ao106 x9_2.length co106] ?_; (with_reducible refine (impl_fillCells.calls k2 a0_0 _ _ l0_1 a1 (t956.length : Int) a0_0 (fun k_ => some k_ = (.slice Ao105 x963003_2.length co105 : Value).ownBlock) (.slice Ao105 x963003_2.length co105) x963003_2 _ _ x9_2 false t967 w _ ?side1 ?side2 ?side3 ?side4 ?side5 ?side6 A88.out).mono ?_); (case side1 => repeat (first | (with_reducible first | exact HB.out | apply below_alloc | apply pw_below_drewN | apply below_drew1 | refine below_set ?_ GE952.out | refine below_set ?_ GE953.out | refine below_set ?_ GE962.out) | exact HB.out)); (case side2 => exact Kd.C_kept_came (Kd.heap_int .i64) HR0_1.out Hof.L (fun k_ hs_ => (fun e_ => Kd.R_base HO_963003.out k_ e_.symm) hs_)); (case side3 => exact HC0_1.out); (case side4 => exact Kd.R_tight rfl HO_963003.out); (case side5 => exact Kd.C_kept_own (HO_9.out) (fun k_ hk_ hs_ => (by first | exact (hk_.2) hs_ | (simp_all; done)))); (case side6 => exact (Kd.R_reads' HO_9.out).2.1); rintro e w107 ⟨rfl, hy0, hb, hkp⟩; refine ⟨_, rfl, ?_⟩; replace HO_9 := Aside0.mk (Kd.R_mono (ok' := fun k_ => some k_ ≠ (.slice Ao37 t956.length co37 : Value).ownBlock ∧ some k_ ≠ (.slice Ao105 x963003_2.length co105 : Value).ownBlock) (Kd.R_keptB (HO_9.out) hkp (fun k_ hk_ hs_ => (by first | exact (hk_.2) hs_ | (simp_all; done)))) (fun k_ hk_ => (by first | exact ⟨hk_.1.1, hk_.1.2⟩ | (simp_all; done)))); replace HO_49 := Aside0.mk (Kd.R_mono (ok' := fun k_ => some k_ ≠ (.slice Ao106 x9_2.length co106 : Value).ownBlock ∧ some k_ ≠ (.slice Ao105 x963003_2.length co105 : Value).ownBlock) (Kd.R_keptB (HO_49.out) hkp (fun k_ hk_ hs_ => (by first | exact (hk_.2) hs_ | (simp_all; done)))) (fun k_ hk_ => (by first | exact ⟨hk_.1.1, hk_.1.2⟩ | (simp_all; done)))); replace BK952 := Aside0.mk (blk_kept (Hof.Bw BK952.out) hkp (fun hs_ => (fun e_ => (Kd.R_ne HO_963003.out BK952.out (by decide)) e_) hs_)); replace BK953 := Aside0.mk (blk_kept (Hof.Bw BK953.out) hkp (fun hs_ => (fun e_ => (Kd.R_ne HO_963003.out BK953.out (by decide)) e_) hs_)); replace BK962 := Aside0.mk (blk_kept (Hof.Bw BK962.out) hkp (fun hs_ => (fun e_ => (Kd.R_ne HO_963003.out BK962.out (by decide)) e_) hs_)); replace HO_963003 := Aside0.mk (Kd.R_reok rfl hy0 (fun k_ e_ => HO_963003.out.1 k_ e_)); replace HB := Aside0.mk hb; (try clear hb); (try clear hkp); (try clear hy0); obtain ⟨hcz108_0, hcz108_1, hcz108_2, hcz108_3, hfz108_0, hfz108_1, hfz108_2, hfz108_3⟩ := Hof.blk4 BK953.out))
           refine bodyPost_ret (results_ct rfl _ _ gb953 49 #[.int .i64 0, .int .i64 0, .int .i64 0, .slice none 0 0] (0, 0) _ rfl Hof.B Try.underlying49 rfl (by kernel_rfl)) rfl ?_
           exact ⟨_, by first | rfl | (simp [errW_none, errW_some] <;> rfl) | (simp only [← hji30]; first | rfl | (simp [errW_none, errW_some] <;> rfl)) | (simp [*, errW_none, errW_some] <;> rfl), Hof.N, Hof.L⟩
      ·rw [if_neg c32] at H
       exact absurd H (by simp)
     ·rw [if_neg c31] at H
      exact absurd H (by simp)
    ·rw [if_neg c28] at H
     exact absurd H (by simp)
def laws_eqMatrix.f (k : Nat) (a0_0 : Int) (a0_1 : Int) (a0_2 : Int) (l0_3 : List Int) (a1_0 : Int) (a1_1 : Int) (a1_2 : Int) (l1_3 : List Int) : Option (Bool) := if a0_0 = a1_0 then (if a0_1 = a1_1 then (if a0_2 = a1_2 then ((laws_eqIntS.f k l0_3 l1_3).bind fun t1065 => (if t1065 = true then (some true) else (some false))) else (some false)) else (some false)) else (some false)
set_option maxHeartbeats 8000000 in
set_option maxRecDepth 100000 in
theorem laws_eqMatrix.calls (k : Nat) (a0_0 : Int) (a0_1 : Int) (a0_2 : Int) (A0_3 : Option Addr) (c0_3 : Nat) (l0_3 : List Int) (a1_0 : Int) (a1_1 : Int) (a1_2 : Int) (A1_3 : Option Addr) (c1_3 : Nat) (l1_3 : List Int) (r : Bool) (w : World) (hr0_3 : Kd.C (Kd.int .i64) w A0_3 l0_3.length l0_3) (hc0_3 : l0_3.length ≤ c0_3) (hr1_3 : Kd.C (Kd.int .i64) w A1_3 l1_3.length l1_3) (hc1_3 : l1_3.length ≤ c1_3) (h : laws_eqMatrix.f k a0_0 a0_1 a0_2 l0_3 a1_0 a1_1 a1_2 l1_3 = some r) :
  Calls Try.prog 40 #[.agg #[.int .i64 a0_0, .int .i64 a0_1, .int .i64 a0_2, .slice A0_3 l0_3.length c0_3], .agg #[.int .i64 a1_0, .int .i64 a1_1, .int .i64 a1_2, .slice A1_3 l1_3.length c1_3]] w fun e w' => e = .returned (.bool r) ∧ Below w.heap.size w w' := by
 have hu49 := Try.underlying49
 have HR0_3 := Aside0.mk hr0_3
 have HC0_3 := Aside0.mk hc0_3
 clear hr0_3 hc0_3
 have HR1_3 := Aside0.mk hr1_3
 have HC1_3 := Aside0.mk hc1_3
 clear hr1_3 hc1_3
 have HB := Aside0.mk (Below.refl w.heap.size w)
 unfold laws_eqMatrix.f at h
 have H := h
 clear h
 by_cases c3 : a0_0 = a1_0
 ·rw [if_pos c3] at H
  have c3b0 : (a0_0 == a1_0) = true := beq_iff_eq.mpr c3
  have c3b1 : (a0_0 != a1_0) = false := bne_eq_false_iff_eq.mpr c3
  clear c3
  by_cases c4 : a0_1 = a1_1
  ·rw [if_pos c4] at H
   have c4b0 : (a0_1 == a1_1) = true := beq_iff_eq.mpr c4
   have c4b1 : (a0_1 != a1_1) = false := bne_eq_false_iff_eq.mpr c4
   clear c4
   by_cases c5 : a0_2 = a1_2
   ·rw [if_pos c5] at H
    have c5b0 : (a0_2 == a1_2) = true := beq_iff_eq.mpr c5
    have c5b1 : (a0_2 != a1_2) = false := bne_eq_false_iff_eq.mpr c5
    clear c5
    obtain ⟨t1065, A6, H⟩ := Hof.be H
    (try dsimp only at H)
    by_cases c7 : t1065 = true
    ·subst c7
     replace H : (some true) = some r := by rw [if_pos rfl] at H; exact H
     obtain rfl := Option.some.inj H
     go_enter Try.func40, Try.ntmps40
     go_wp2_with (first | (refine Hof.bx 2 #[.int .i64 a0_0, .int .i64 a0_1, .int .i64 a0_2, .slice A0_3 l0_3.length c0_3] 49 ?_; intro gb1063 hg w8 hbox hb; have BK1063 := Aside0.mk hbox; have GW1063 := Hof.gw hg HB; have GE1063 := Hof.gw hg HB; replace HB := Hof.lb HB hb; clear hb hbox hg) | (refine Hof.bx 3 #[.int .i64 a1_0, .int .i64 a1_1, .int .i64 a1_2, .slice A1_3 l1_3.length c1_3] 49 ?_; intro gb1064 hg w9 hbox hb; have BK1064 := Aside0.mk hbox; have GW1064 := Hof.gw hg HB; have GE1064 := Hof.gw hg HB; replace HB := Hof.lb HB hb; have NB1063_1064 := Hof.nl hg BK1063; have NB1064_1063 := Hof.ng hg BK1063; replace BK1063 := Hof.bb BK1063 hb; clear hb hbox hg; have hnb10 := NB1063_1064.out; have hnc10 := NB1064_1063.out; obtain ⟨hcz11_0, hcz11_1, hcz11_2, hcz11_3, hfz11_0, hfz11_1, hfz11_2, hfz11_3⟩ := Hof.blk4 BK1063.out; obtain ⟨hcz12_0, hcz12_1, hcz12_2, hcz12_3, hfz12_0, hfz12_1, hfz12_2, hfz12_3⟩ := Hof.blk4 BK1064.out) | (refine Hof.gl (some 24) Try.func16 #[.slice A0_3 l0_3.length c0_3, .slice A1_3 l1_3.length c1_3] ?_; (with_reducible refine (laws_eqIntS.calls k _ _ l0_3 _ _ l1_3 true _ ?side1 ?side2 ?side3 ?side4 A6.out).mono ?_); (case side1 => exact Hof.Cw (Kd.C_below HR0_3.out HB.out)); (case side2 => exact HC0_3.out); (case side3 => exact Hof.Cw (Kd.C_below HR1_3.out HB.out)); (case side4 => exact HC1_3.out); rintro e w' ⟨rfl, ⟨nd, rfl⟩⟩; refine ⟨_, rfl, ?_⟩))
     go_ret
     exact ⟨Hof.E, Hof.L⟩
    ·replace c7 := Bool.eq_false_iff.mpr c7
     subst c7
     replace H : (some false) = some r := by rw [if_neg (show ¬ (false = true) by decide)] at H; exact H
     obtain rfl := Option.some.inj H
     go_enter Try.func40, Try.ntmps40
     go_wp2_with (first | (refine Hof.bx 2 #[.int .i64 a0_0, .int .i64 a0_1, .int .i64 a0_2, .slice A0_3 l0_3.length c0_3] 49 ?_; intro gb1063 hg w13 hbox hb; have BK1063 := Aside0.mk hbox; have GW1063 := Hof.gw hg HB; have GE1063 := Hof.gw hg HB; replace HB := Hof.lb HB hb; clear hb hbox hg) | (refine Hof.bx 3 #[.int .i64 a1_0, .int .i64 a1_1, .int .i64 a1_2, .slice A1_3 l1_3.length c1_3] 49 ?_; intro gb1064 hg w14 hbox hb; have BK1064 := Aside0.mk hbox; have GW1064 := Hof.gw hg HB; have GE1064 := Hof.gw hg HB; replace HB := Hof.lb HB hb; have NB1063_1064 := Hof.nl hg BK1063; have NB1064_1063 := Hof.ng hg BK1063; replace BK1063 := Hof.bb BK1063 hb; clear hb hbox hg; have hnb15 := NB1063_1064.out; have hnc15 := NB1064_1063.out; obtain ⟨hcz16_0, hcz16_1, hcz16_2, hcz16_3, hfz16_0, hfz16_1, hfz16_2, hfz16_3⟩ := Hof.blk4 BK1063.out; obtain ⟨hcz17_0, hcz17_1, hcz17_2, hcz17_3, hfz17_0, hfz17_1, hfz17_2, hfz17_3⟩ := Hof.blk4 BK1064.out) | (refine Hof.gl (some 24) Try.func16 #[.slice A0_3 l0_3.length c0_3, .slice A1_3 l1_3.length c1_3] ?_; (with_reducible refine (laws_eqIntS.calls k _ _ l0_3 _ _ l1_3 false _ ?side1 ?side2 ?side3 ?side4 A6.out).mono ?_); (case side1 => exact Hof.Cw (Kd.C_below HR0_3.out HB.out)); (case side2 => exact HC0_3.out); (case side3 => exact Hof.Cw (Kd.C_below HR1_3.out HB.out)); (case side4 => exact HC1_3.out); rintro e w' ⟨rfl, ⟨nd, rfl⟩⟩; refine ⟨_, rfl, ?_⟩))
     go_ret
     exact ⟨Hof.E, Hof.L⟩
   ·rw [if_neg c5] at H
    have c5b0 : (a0_2 == a1_2) = false := beq_eq_false_iff_ne.mpr c5
    have c5b1 : (a0_2 != a1_2) = true := bne_iff_ne.mpr c5
    obtain rfl := Option.some.inj H
    go_enter Try.func40, Try.ntmps40
    go_wp2_with (first | (refine Hof.bx 2 #[.int .i64 a0_0, .int .i64 a0_1, .int .i64 a0_2, .slice A0_3 l0_3.length c0_3] 49 ?_; intro gb1063 hg w18 hbox hb; have BK1063 := Aside0.mk hbox; have GW1063 := Hof.gw hg HB; have GE1063 := Hof.gw hg HB; replace HB := Hof.lb HB hb; clear hb hbox hg) | (refine Hof.bx 3 #[.int .i64 a1_0, .int .i64 a1_1, .int .i64 a1_2, .slice A1_3 l1_3.length c1_3] 49 ?_; intro gb1064 hg w19 hbox hb; have BK1064 := Aside0.mk hbox; have GW1064 := Hof.gw hg HB; have GE1064 := Hof.gw hg HB; replace HB := Hof.lb HB hb; have NB1063_1064 := Hof.nl hg BK1063; have NB1064_1063 := Hof.ng hg BK1063; replace BK1063 := Hof.bb BK1063 hb; clear hb hbox hg; have hnb20 := NB1063_1064.out; have hnc20 := NB1064_1063.out; obtain ⟨hcz21_0, hcz21_1, hcz21_2, hcz21_3, hfz21_0, hfz21_1, hfz21_2, hfz21_3⟩ := Hof.blk4 BK1063.out; obtain ⟨hcz22_0, hcz22_1, hcz22_2, hcz22_3, hfz22_0, hfz22_1, hfz22_2, hfz22_3⟩ := Hof.blk4 BK1064.out))
    go_ret
    exact ⟨Hof.E, Hof.L⟩
  ·rw [if_neg c4] at H
   have c4b0 : (a0_1 == a1_1) = false := beq_eq_false_iff_ne.mpr c4
   have c4b1 : (a0_1 != a1_1) = true := bne_iff_ne.mpr c4
   obtain rfl := Option.some.inj H
   go_enter Try.func40, Try.ntmps40
   go_wp2_with (first | (refine Hof.bx 2 #[.int .i64 a0_0, .int .i64 a0_1, .int .i64 a0_2, .slice A0_3 l0_3.length c0_3] 49 ?_; intro gb1063 hg w23 hbox hb; have BK1063 := Aside0.mk hbox; have GW1063 := Hof.gw hg HB; have GE1063 := Hof.gw hg HB; replace HB := Hof.lb HB hb; clear hb hbox hg) | (refine Hof.bx 3 #[.int .i64 a1_0, .int .i64 a1_1, .int .i64 a1_2, .slice A1_3 l1_3.length c1_3] 49 ?_; intro gb1064 hg w24 hbox hb; have BK1064 := Aside0.mk hbox; have GW1064 := Hof.gw hg HB; have GE1064 := Hof.gw hg HB; replace HB := Hof.lb HB hb; have NB1063_1064 := Hof.nl hg BK1063; have NB1064_1063 := Hof.ng hg BK1063; replace BK1063 := Hof.bb BK1063 hb; clear hb hbox hg; have hnb25 := NB1063_1064.out; have hnc25 := NB1064_1063.out; obtain ⟨hcz26_0, hcz26_1, hcz26_2, hcz26_3, hfz26_0, hfz26_1, hfz26_2, hfz26_3⟩ := Hof.blk4 BK1063.out; obtain ⟨hcz27_0, hcz27_1, hcz27_2, hcz27_3, hfz27_0, hfz27_1, hfz27_2, hfz27_3⟩ := Hof.blk4 BK1064.out))
   go_ret
   exact ⟨Hof.E, Hof.L⟩
 ·rw [if_neg c3] at H
  have c3b0 : (a0_0 == a1_0) = false := beq_eq_false_iff_ne.mpr c3
  have c3b1 : (a0_0 != a1_0) = true := bne_iff_ne.mpr c3
  obtain rfl := Option.some.inj H
  go_enter Try.func40, Try.ntmps40
  go_wp2_with (first | (refine Hof.bx 2 #[.int .i64 a0_0, .int .i64 a0_1, .int .i64 a0_2, .slice A0_3 l0_3.length c0_3] 49 ?_; intro gb1063 hg w28 hbox hb; have BK1063 := Aside0.mk hbox; have GW1063 := Hof.gw hg HB; have GE1063 := Hof.gw hg HB; replace HB := Hof.lb HB hb; clear hb hbox hg) | (refine Hof.bx 3 #[.int .i64 a1_0, .int .i64 a1_1, .int .i64 a1_2, .slice A1_3 l1_3.length c1_3] 49 ?_; intro gb1064 hg w29 hbox hb; have BK1064 := Aside0.mk hbox; have GW1064 := Hof.gw hg HB; have GE1064 := Hof.gw hg HB; replace HB := Hof.lb HB hb; have NB1063_1064 := Hof.nl hg BK1063; have NB1064_1063 := Hof.ng hg BK1063; replace BK1063 := Hof.bb BK1063 hb; clear hb hbox hg; have hnb30 := NB1063_1064.out; have hnc30 := NB1064_1063.out; obtain ⟨hcz31_0, hcz31_1, hcz31_2, hcz31_3, hfz31_0, hfz31_1, hfz31_2, hfz31_3⟩ := Hof.blk4 BK1063.out; obtain ⟨hcz32_0, hcz32_1, hcz32_2, hcz32_3, hfz32_0, hfz32_1, hfz32_2, hfz32_3⟩ := Hof.blk4 BK1064.out))
  go_ret
  exact ⟨Hof.E, Hof.L⟩
def laws_markMatrix.f (k : Nat) (a0_0 : Int) (a0_1 : Int) (a0_2 : Int) (l0_3 : List Int) (a1 : Int) : Option (Int × List Int) := (laws_markIntS.f k l0_3 a1).bind fun bt1067 => (some (bt1067.1, bt1067.2))
set_option maxHeartbeats 8000000 in
set_option maxRecDepth 100000 in
theorem laws_markMatrix.calls (k : Nat) (a0_0 : Int) (a0_1 : Int) (a0_2 : Int) (P0_3_ : Nat → Prop) (u9000_ : Value) (l0_3 : List Int) (a1 : Int) (r1 : Int) (r2 : List Int) (w0 w : World) (hB : Below w0.heap.size w0 w) (ho0_3 : Kd.R (Kd.int .i64) 3 w w0.heap.size P0_3_ u9000_ l0_3) (h : laws_markMatrix.f k a0_0 a0_1 a0_2 l0_3 a1 = some (r1, r2)) :
  Calls Try.prog 41 #[.agg #[.int .i64 a0_0, .int .i64 a0_1, .int .i64 a0_2, u9000_], .int .i64 a1] w fun e w' => e = .returned (.int .i64 r1) ∧ Kd.R (Kd.int .i64) 3 w' w0.heap.size (fun k_ => (P0_3_ k_ ∨ w.heap.size ≤ k_)) u9000_ r2 ∧ Below w0.heap.size w0 w' ∧ Kept w w' (fun k_ => P0_3_ k_) := by
 have hu49 := Try.underlying49
 have HO0_3 := Aside0.mk (show Kd.R (Kd.int .i64) 3 w w0.heap.size (fun k_ => (P0_3_ k_ ∨ w.heap.size ≤ k_)) u9000_ l0_3 from Kd.R_mono ho0_3 (fun k_ hk => (.inl hk)))
 have HK := Aside0.mk (Kept.refl w (fun k_ => P0_3_ k_))
 have HW0 := Aside0.mk hB.size
 have HB := Aside0.mk hB
 clear hB
 unfold laws_markMatrix.f at h
 have H := h
 clear h
 obtain ⟨⟨t1067, t1068⟩, A3, H⟩ := Hof.be H
 (try dsimp only at H)
 simp only [Option.some.injEq, Prod.mk.injEq] at H
 obtain ⟨rfl, rfl⟩ := H
 obtain ⟨Ao4, co4, eo4⟩ := Kd.R_slice HO0_3.out
 subst eo4
 go_enter Try.func41, Try.ntmps41
 go_wp2_with (first | (refine Hof.bx 2 #[.int .i64 a0_0, .int .i64 a0_1, .int .i64 a0_2, .slice Ao4 l0_3.length co4] 49 ?_; intro gb1066 hg w5 hbox hb; replace HO0_3 := Hof.rb HO0_3 hb; have BK1066 := Aside0.mk hbox; have GW1066 := Aside0.mk ((by rw [hg]; exact (by first | exact HK.out.1 | exact (show Kept w _ (fun k_ => P0_3_ k_) from by repeat (first | (with_reducible first | exact HK.out | apply Kept.alloc | apply Kept.drewN | apply Kept.drew) | exact HK.out)).1) : w.heap.size ≤ gb1066)); replace HK := Aside0.mk (Kept.below (S := (fun k_ => P0_3_ k_)) (by repeat (first | (with_reducible first | exact HK.out | apply Kept.alloc | apply Kept.drewN | apply Kept.drew) | exact HK.out)) hb); have GE1066 := Hof.gw hg HB; replace HB := Hof.lb HB hb; clear hb hbox hg; obtain ⟨hcz6_0, hcz6_1, hcz6_2, hcz6_3, hfz6_0, hfz6_1, hfz6_2, hfz6_3⟩ := Hof.blk4 BK1066.out) | (refine Hof.gl (some 8) Try.func19 #[.slice Ao4 l0_3.length co4, .int .i64 a1] ?_; (with_reducible refine (laws_markIntS.calls k (fun k_ => some k_ = (.slice Ao4 l0_3.length co4 : Value).ownBlock) (.slice Ao4 l0_3.length co4) l0_3 a1 t1067 t1068 w0 _ ?side1 ?side2 A3.out).mono ?_); (case side1 => repeat (first | (with_reducible first | exact HB.out | apply below_alloc | apply pw_below_drewN | apply below_drew1 | refine below_set ?_ GE1066.out) | exact HB.out)); (case side2 => exact Kd.R_tight rfl HO0_3.out); rintro e w7 ⟨rfl, hy0, hb, hkp⟩; refine ⟨_, rfl, ?_⟩; replace BK1066 := Aside0.mk (blk_kept (Hof.Bw BK1066.out) hkp (fun hs_ => (fun e_ => (Kd.R_ne HO0_3.out BK1066.out (by decide)) e_) hs_)); replace HK := Aside0.mk (Kept.then_ (S := (fun k_ => P0_3_ k_)) (by repeat (first | (with_reducible first | exact HK.out | apply Kept.alloc | apply Kept.drewN | apply Kept.drew | refine Kept.setCell ?_ (.inr GW1066.out) _) | exact HK.out)) hkp (fun k_ hs_ => (fun e_ => (HO0_3.out.1 k_ e_.symm)) hs_)); replace HO0_3 := Aside0.mk (Kd.R_reok rfl hy0 (fun k_ e_ => HO0_3.out.1 k_ e_)); replace HB := Aside0.mk hb; (try clear hb); (try clear hkp); (try clear hy0)))
 go_ret
 exact ⟨Hof.E, by (with_reducible repeat (first | apply Kd.R_alloc | apply Kd.R_drewN | apply Kd.R_drew)); exact HO0_3.out, Hof.L, by repeat (first | (with_reducible first | exact HK.out | apply Kept.alloc | apply Kept.drewN | apply Kept.drew | refine Kept.setCell ?_ (.inr GW1066.out) _) | exact HK.out)⟩
def laws_heldIntS.l0 : Nat → List Int → Int → Int → Option (Int)
 | 0, _, _, _ => none
 | k + 1, x0, x1, x5 => if x5 < (x0.length : Int) then (if 0 ≤ x5 then (if (rd x0 x5) = x1 then (laws_heldIntS.l0 k x0 (wrap64 (x1 + 1)) (wrap64 (x5 + 1))) else (some (-1))) else (none)) else (some x1)
def laws_heldIntS.f (k : Nat) (l0 : List Int) (a1 : Int) : Option (Int) := laws_heldIntS.l0 k l0 a1 0
set_option maxHeartbeats 8000000 in
set_option maxRecDepth 100000 in
theorem laws_heldIntS.calls (k : Nat) (A0 : Option Addr) (c0 : Nat) (l0 : List Int) (a1 : Int) (r : Int) (w : World) (hr0 : Kd.C (Kd.int .i64) w A0 l0.length l0) (hc0 : l0.length ≤ c0) (h : laws_heldIntS.f k l0 a1 = some r) :
  Calls Try.prog 20 #[.slice A0 l0.length c0, .int .i64 a1] w fun e w' => e = .returned (.int .i64 r) ∧ Drawn0 w w' := by
 have HR0 := Aside0.mk hr0
 have HC0 := Aside0.mk hc0
 clear hr0 hc0
 unfold laws_heldIntS.f at h
 have H := h
 clear h
 have H' := Aside0.mk H
 clear H
 go_enter Try.func20, Try.ntmps20
 go_wp2
 go_loopg [1, 5] k (fun kq v1 v5 w' => ∃ (x1_1 : Int) (x5_1 : Int), v1 = .int .i64 x1_1 ∧ v5 = .int .i64 x5_1 ∧ Aside0 (laws_heldIntS.l0 kq l0 x1_1 x5_1 = some r) ∧ Aside0 (kq ≤ k) ∧ Drawn0 w w')
 case atStart => exact ⟨(a1), (0), Hof.F, Hof.F, H', ⟨Nat.le_refl _⟩, Hof.G⟩
 case round =>
  clear H'
  obtain ⟨x1_1, x5_1, rfl, rfl, HA, HK1, ⟨m1, rfl⟩⟩ := hrel
  cases gk with
  | zero => exact absurd HA.out (by simp [laws_heldIntS.l0])
  | succ k1 =>
   have H := HA.out
   clear HA
   simp only [laws_heldIntS.l0] at H
   by_cases c3 : x5_1 < (l0.length : Int)
   ·rw [if_pos c3] at H
    have c3b0 := decide_eq_true c3
    clear c3
    by_cases c4 : 0 ≤ x5_1
    ·rw [if_pos c4] at H
     have c4b0 := decide_eq_true c4
     clear c4
     by_cases c5 : (rd l0 x5_1) = x1_1
     ·rw [if_pos c5] at H
      have c5b0 : ((rd l0 x5_1) == x1_1) = true := beq_iff_eq.mpr c5
      have c5b1 : ((rd l0 x5_1) != x1_1) = false := bne_eq_false_iff_eq.mpr c5
      clear c5
      have H' := Aside0.mk H
      clear H
      have p365 : 0 ≤ (x5_1 : Int) := Hof.D
      have q365 : x5_1 < (l0.length : Int) := Hof.D
      obtain ⟨ad365, e365, hx365_0⟩ := Kd.at_int HR0.out x5_1 p365 q365
      cases e365
      replace p365 := eq_true p365
      replace q365 := eq_true q365
      go_wp2
      go_roundg k1
      case measure => have := HK1.out; omega
      case rel => exact ⟨(wrap64 (x1_1 + 1)), (wrap64 (x5_1 + 1)), Hof.F, Hof.F, H', ⟨by have := HK1.out; omega⟩, Hof.G⟩
     ·rw [if_neg c5] at H
      have c5b0 : ((rd l0 x5_1) == x1_1) = false := beq_eq_false_iff_ne.mpr c5
      have c5b1 : ((rd l0 x5_1) != x1_1) = true := bne_iff_ne.mpr c5
      obtain rfl := Option.some.inj H
      have p365 : 0 ≤ (x5_1 : Int) := Hof.D
      have q365 : x5_1 < (l0.length : Int) := Hof.D
      obtain ⟨ad365, e365, hx365_0⟩ := Kd.at_int HR0.out x5_1 p365 q365
      cases e365
      replace p365 := eq_true p365
      replace q365 := eq_true q365
      go_wp2
      go_ret
      exact ⟨Hof.F, Hof.G⟩
    ·rw [if_neg c4] at H
     exact absurd H (by simp)
   ·rw [if_neg c3] at H
    have c3b0 : decide (x5_1 < (l0.length : Int)) = false := decide_eq_false c3
    clear c3
    obtain rfl := Option.some.inj H
    go_wp2
    go_ret
    exact ⟨Hof.F, Hof.G⟩
def laws_heldMatrix.f (k : Nat) (a0_0 : Int) (a0_1 : Int) (a0_2 : Int) (l0_3 : List Int) (a1 : Int) : Option (Int) := (laws_heldIntS.f k l0_3 a1).bind fun t1070 => (if t1070 < 0 then (some (-1)) else (some t1070))
set_option maxHeartbeats 8000000 in
set_option maxRecDepth 100000 in
theorem laws_heldMatrix.calls (k : Nat) (a0_0 : Int) (a0_1 : Int) (a0_2 : Int) (A0_3 : Option Addr) (c0_3 : Nat) (l0_3 : List Int) (a1 : Int) (r : Int) (w : World) (hr0_3 : Kd.C (Kd.int .i64) w A0_3 l0_3.length l0_3) (hc0_3 : l0_3.length ≤ c0_3) (h : laws_heldMatrix.f k a0_0 a0_1 a0_2 l0_3 a1 = some r) :
  Calls Try.prog 42 #[.agg #[.int .i64 a0_0, .int .i64 a0_1, .int .i64 a0_2, .slice A0_3 l0_3.length c0_3], .int .i64 a1] w fun e w' => e = .returned (.int .i64 r) ∧ Below w.heap.size w w' := by
 have hu49 := Try.underlying49
 have HR0_3 := Aside0.mk hr0_3
 have HC0_3 := Aside0.mk hc0_3
 clear hr0_3 hc0_3
 have HB := Aside0.mk (Below.refl w.heap.size w)
 unfold laws_heldMatrix.f at h
 have H := h
 clear h
 obtain ⟨t1070, A3, H⟩ := Hof.be H
 (try dsimp only at H)
 by_cases c4 : t1070 < 0
 ·rw [if_pos c4] at H
  have c4b0 := decide_eq_true c4
  clear c4
  obtain rfl := Option.some.inj H
  go_enter Try.func42, Try.ntmps42
  go_wp2_with (first | (refine Hof.bx 2 #[.int .i64 a0_0, .int .i64 a0_1, .int .i64 a0_2, .slice A0_3 l0_3.length c0_3] 49 ?_; intro gb1069 hg w5 hbox hb; have BK1069 := Aside0.mk hbox; have GW1069 := Hof.gw hg HB; have GE1069 := Hof.gw hg HB; replace HB := Hof.lb HB hb; clear hb hbox hg; obtain ⟨hcz6_0, hcz6_1, hcz6_2, hcz6_3, hfz6_0, hfz6_1, hfz6_2, hfz6_3⟩ := Hof.blk4 BK1069.out) | (refine Hof.gl (some 8) Try.func20 #[.slice A0_3 l0_3.length c0_3, .int .i64 a1] ?_; (with_reducible refine (laws_heldIntS.calls k _ _ l0_3 a1 t1070 _ ?side1 ?side2 A3.out).mono ?_); (case side1 => exact Hof.Cw (Kd.C_below HR0_3.out HB.out)); (case side2 => exact HC0_3.out); rintro e w' ⟨rfl, ⟨nd, rfl⟩⟩; refine ⟨_, rfl, ?_⟩))
  go_ret
  exact ⟨Hof.E, Hof.L⟩
 ·rw [if_neg c4] at H
  have c4b0 : decide (t1070 < 0) = false := decide_eq_false c4
  clear c4
  obtain rfl := Option.some.inj H
  go_enter Try.func42, Try.ntmps42
  go_wp2_with (first | (refine Hof.bx 2 #[.int .i64 a0_0, .int .i64 a0_1, .int .i64 a0_2, .slice A0_3 l0_3.length c0_3] 49 ?_; intro gb1069 hg w7 hbox hb; have BK1069 := Aside0.mk hbox; have GW1069 := Hof.gw hg HB; have GE1069 := Hof.gw hg HB; replace HB := Hof.lb HB hb; clear hb hbox hg; obtain ⟨hcz8_0, hcz8_1, hcz8_2, hcz8_3, hfz8_0, hfz8_1, hfz8_2, hfz8_3⟩ := Hof.blk4 BK1069.out) | (refine Hof.gl (some 8) Try.func20 #[.slice A0_3 l0_3.length c0_3, .int .i64 a1] ?_; (with_reducible refine (laws_heldIntS.calls k _ _ l0_3 a1 t1070 _ ?side1 ?side2 A3.out).mono ?_); (case side1 => exact Hof.Cw (Kd.C_below HR0_3.out HB.out)); (case side2 => exact HC0_3.out); rintro e w' ⟨rfl, ⟨nd, rfl⟩⟩; refine ⟨_, rfl, ?_⟩))
  go_ret
  exact ⟨Hof.E, Hof.L⟩
mutual
def laws_FnExactFindMatrix.j0 : Nat → Int → Bool → Bool → Bool → Int → List Int → Int → Int → Int → List Int → Int → List Int → Int → Int → Int → List Int → Option (Bool)
 | 0, _, _, _, _, _, _, _, _, _, _, _, _, _, _, _, _ => none
 | k + 1, x1, x7, x10, x44, x1072000, x1072001, x1085000, x1085001, x1085002, x1085003, x1090000, x1090001, x1098000, x1098001, x1098002, x1098003 => if x44 = true then (some false) else ((laws_toMatroid.f k x1072000 x1072001).bind fun bt1099 => ((laws_eqMatroid.f k x1090000 x1090001 bt1099.1 bt1099.2).bind fun t1103 => (if t1103 = true then ((laws_markMatroid.f k x1090000 x1090001 1).bind fun bt1104 => (if bt1104.1 < 0 then (laws_FnExactFindMatrix.j1 k x1 x7 true x1072000 x1072001 x1085000 x1085001 x1085002 x1085003 x1098000 x1098001 x1098002 x1098003) else ((laws_eqMatrix.f k x1098000 x1098001 x1098002 x1098003 x1085000 x1085001 x1085002 x1085003).bind fun t1106 => (if t1106 = true then (laws_FnExactFindMatrix.j1 k x1 x7 (x10 != x7) x1072000 x1072001 x1085000 x1085001 x1085002 x1085003 x1098000 x1098001 x1098002 x1098003) else (laws_FnExactFindMatrix.j1 k x1 x7 true x1072000 x1072001 x1085000 x1085001 x1085002 x1085003 x1098000 x1098001 x1098002 x1098003))))) else (some false))))
def laws_FnExactFindMatrix.j1 : Nat → Int → Bool → Bool → Int → List Int → Int → Int → Int → List Int → Int → Int → Int → List Int → Option (Bool)
 | 0, _, _, _, _, _, _, _, _, _, _, _, _, _ => none
 | k + 1, x1, x7, x65, x1072000, x1072001, x1085000, x1085001, x1085002, x1085003, x1098000, x1098001, x1098002, x1098003 => if x65 = true then (some false) else ((laws_markMatrix.f k x1098000 x1098001 x1098002 x1098003 1).bind fun bt1107 => ((laws_heldMatrix.f k x1098000 x1098001 x1098002 bt1107.2 1).bind fun t1109 => (if t1109 < 0 then (some false) else (if t1109 = bt1107.1 then ((laws_toMatroid.f k x1072000 x1072001).bind fun bt1110 => ((impl_FindMatrix.f k bt1110.1 bt1110.2 x1).bind fun bt1114 => ((laws_eqMatrix.f k bt1114.1 bt1114.2.1 bt1114.2.2.1 bt1114.2.2.2.1 x1085000 x1085001 x1085002 x1085003).bind fun t1122 => (if t1122 = true then (laws_FnExactFindMatrix.j2 k bt1107.1 (bt1114.2.2.2.2 != x7) x1098000 x1098001 x1098002 bt1107.2) else (laws_FnExactFindMatrix.j2 k bt1107.1 true x1098000 x1098001 x1098002 bt1107.2))))) else (some false)))))
def laws_FnExactFindMatrix.j2 : Nat → Int → Bool → Int → Int → Int → List Int → Option (Bool)
 | 0, _, _, _, _, _, _ => none
 | k + 1, x12, x92, x1098000, x1098001, x1098002, x1098003 => if x92 = true then (some false) else ((laws_heldMatrix.f k x1098000 x1098001 x1098002 x1098003 1).bind fun t1123 => (if t1123 < 0 then (some false) else (if t1123 = x12 then (some true) else (some false))))
end
def laws_FnExactFindMatrix.f (k : Nat) (a0_0 : Int) (l0_1 : List Int) (a1 : Int) : Option (Bool) := (laws_szMatroid.f a0_0 l0_1 1048576).bind fun t1072 => (if t1072 < 0 then (some true) else ((laws_toMatroid.f k a0_0 l0_1).bind fun bt1073 => ((spec_FindMatrix.f k bt1073.1 bt1073.2 a1).bind fun bt1077 => ((laws_toMatroid.f k a0_0 l0_1).bind fun bt1085 => ((impl_FindMatrix.f k bt1085.1 bt1085.2 a1).bind fun bt1090 => ((laws_eqMatrix.f k bt1090.1 bt1090.2.1 bt1090.2.2.1 bt1090.2.2.2.1 bt1077.1 bt1077.2.1 bt1077.2.2.1 bt1077.2.2.2.1).bind fun t1098 => (if t1098 = true then (laws_FnExactFindMatrix.j0 k a1 bt1077.2.2.2.2 bt1090.2.2.2.2 (bt1090.2.2.2.2 != bt1077.2.2.2.2) a0_0 l0_1 bt1077.1 bt1077.2.1 bt1077.2.2.1 bt1077.2.2.2.1 bt1085.1 bt1085.2 bt1090.1 bt1090.2.1 bt1090.2.2.1 bt1090.2.2.2.1) else (laws_FnExactFindMatrix.j0 k a1 bt1077.2.2.2.2 bt1090.2.2.2.2 true a0_0 l0_1 bt1077.1 bt1077.2.1 bt1077.2.2.1 bt1077.2.2.2.1 bt1085.1 bt1085.2 bt1090.1 bt1090.2.1 bt1090.2.2.1 bt1090.2.2.2.1))))))))
set_option maxHeartbeats 8000000 in
set_option maxRecDepth 100000 in
theorem laws_FnExactFindMatrix.calls (k : Nat) (a0_0 : Int) (A0_1 : Option Addr) (c0_1 : Nat) (l0_1 : List Int) (a1 : Int) (r : Bool) (w : World) (hr0_1 : Kd.C (Kd.int .i64) w A0_1 l0_1.length l0_1) (hc0_1 : l0_1.length ≤ c0_1) (hT : Aside0 (r = true)) (h : laws_FnExactFindMatrix.f k a0_0 l0_1 a1 = some r) :
  Calls Try.prog 10 #[.agg #[.int .i64 a0_0, .slice A0_1 l0_1.length c0_1], .int .i64 a1] w fun e w' => e = .returned (.bool r) ∧ Below w.heap.size w w' := by
 have hu43 := Try.underlying43
 have hu49 := Try.underlying49
 have hu35 := Try.underlying35
 have HR0_1 := Aside0.mk hr0_1
 have HC0_1 := Aside0.mk hc0_1
 clear hr0_1 hc0_1
 have HB := Aside0.mk (Below.refl w.heap.size w)
 unfold laws_FnExactFindMatrix.f at h
 have H := h
 clear h
 obtain ⟨t1072, A3, H⟩ := Hof.be H
 (try dsimp only at H)
 by_cases c4 : t1072 < 0
 ·rw [if_pos c4] at H
  have c4b0 := decide_eq_true c4
  clear c4
  obtain rfl := Option.some.inj H
  go_enter Try.func10, Try.ntmps10
  go_wp2_with (first | ((with_reducible refine gate_dst (N := 2) rfl ?_); refine Hof.bx 2 #[.int .i64 a0_0, .slice A0_1 l0_1.length c0_1] 43 ?_; intro gb1071 hg w5 hbox hb; have BK1071 := Aside0.mk hbox; have GW1071 := Hof.gw hg HB; have GE1071 := Hof.gw hg HB; replace HB := Hof.lb HB hb; clear hb hbox hg; obtain ⟨hcz6_0, hcz6_1, hfz6_0, hfz6_1⟩ := Hof.blk2 BK1071.out) | ((with_reducible refine gate_callee (f := 30) rfl ?_); refine Hof.gl (some 18) Try.func30 #[.agg #[.int .i64 a0_0, .slice A0_1 l0_1.length c0_1], .int .i64 1048576] ?_; (with_reducible refine (laws_szMatroid.calls a0_0 _ _ l0_1 1048576 t1072 _ ?side1 ?side2 A3.out).mono ?_); (case side1 => exact Hof.Cw (Kd.C_below HR0_1.out HB.out)); (case side2 => exact HC0_1.out); rintro e w7 ⟨rfl, hb⟩; refine ⟨_, rfl, ?_⟩; replace BK1071 := Hof.bb BK1071 hb; replace HB := Aside0.mk (below_step Hof.L hb); (try clear hb); (try clear hb2); (try clear hk); (try clear hi)))
  go_ret
  exact ⟨Hof.E, Hof.L⟩
 ·rw [if_neg c4] at H
  have c4b0 : decide (t1072 < 0) = false := decide_eq_false c4
  clear c4
  obtain ⟨⟨t1073, t1074⟩, A8, H⟩ := Hof.be H
  (try dsimp only at H)
  obtain ⟨⟨t1077, t1078, t1079, t1080, t1083⟩, A9, H⟩ := Hof.be H
  (try dsimp only at H)
  obtain ⟨⟨t1085, t1086⟩, A10, H⟩ := Hof.be H
  (try dsimp only at H)
  obtain ⟨⟨t1090, t1091, t1092, t1093, t1096⟩, A11, H⟩ := Hof.be H
  (try dsimp only at H)
  have HC12 := Aside0.mk H
  clear H
  go_enter Try.func10, Try.ntmps10
  go_upto_region 8 with (first | ((with_reducible refine gate_dst (N := 2) rfl ?_); refine Hof.bx 2 #[.int .i64 a0_0, .slice A0_1 l0_1.length c0_1] 43 ?_; intro gb1071 hg w13 hbox hb; have BK1071 := Aside0.mk hbox; have GW1071 := Hof.gw hg HB; have GE1071 := Hof.gw hg HB; replace HB := Hof.lb HB hb; clear hb hbox hg; obtain ⟨hcz14_0, hcz14_1, hfz14_0, hfz14_1⟩ := Hof.blk2 BK1071.out) | ((with_reducible refine gate_callee (f := 30) rfl ?_); refine Hof.gl (some 18) Try.func30 #[.agg #[.int .i64 a0_0, .slice A0_1 l0_1.length c0_1], .int .i64 1048576] ?_; (with_reducible refine (laws_szMatroid.calls a0_0 _ _ l0_1 1048576 t1072 _ ?side1 ?side2 A3.out).mono ?_); (case side1 => exact Hof.Cw (Kd.C_below HR0_1.out HB.out)); (case side2 => exact HC0_1.out); rintro e w15 ⟨rfl, hb⟩; refine ⟨_, rfl, ?_⟩; replace BK1071 := Hof.bb BK1071 hb; replace HB := Aside0.mk (below_step Hof.L hb); (try clear hb); (try clear hb2); (try clear hk); (try clear hi); obtain ⟨hcz16_0, hcz16_1, hfz16_0, hfz16_1⟩ := Hof.blk2 BK1071.out) | ((with_reducible refine gate_callee (f := 32) rfl ?_); refine Hof.gl (some 23) Try.func32 #[.agg #[.int .i64 a0_0, .slice A0_1 l0_1.length c0_1]] ?_; (with_reducible refine (laws_toMatroid.calls k a0_0 _ _ l0_1 t1073 t1074 _ ?side1 ?side2 A8.out).mono ?_); (case side1 => exact Hof.Cw (Kd.C_below HR0_1.out HB.out)); (case side2 => exact HC0_1.out); rintro e w17 ⟨v1075, rfl, ho0, hb⟩; refine ⟨_, rfl, ?_⟩; have HO1076 := Aside0.mk (Kd.R_lower ho0 (below_size Hof.L)); replace BK1071 := Hof.bb BK1071 hb; replace HB := Aside0.mk (below_step Hof.L hb); (try clear hb); (try clear hb2); (try clear hk); (try clear hi); (try clear ho0); obtain ⟨Ao18, co18, eo18⟩ := Kd.R_slice HO1076.out; subst eo18) | ((with_reducible refine gate_callee (f := 38) rfl ?_); refine Hof.gl (some 25) Try.func38 #[.agg #[.int .i64 t1073, .slice Ao18 t1074.length co18], .int .i64 a1] ?_; (with_reducible refine (spec_FindMatrix.calls k t1073 _ _ t1074 a1 t1077 t1078 t1079 t1080 t1083 _ ?side1 ?side2 A9.out).mono ?_); (case side1 => exact Hof.Cw ((Kd.R_reads' HO1076.out).2.2)); (case side2 => exact (Kd.R_reads' HO1076.out).2.1); rintro e w19 ⟨v1081, rfl, ho0, hb⟩; refine ⟨_, rfl, ?_⟩; have HO1082 := Aside0.mk (Kd.R_lower (Kd.R_new' ho0 (Kd.R_lt (Hof.Rw HO1076.out))) (below_size Hof.L)); replace HO1076 := Aside0.mk (Kd.R_elder' (Hof.Rw HO1076.out) (Kd.R_base ho0) hb); replace BK1071 := Hof.bb BK1071 hb; replace HB := Aside0.mk (below_step Hof.L hb); (try clear hb); (try clear hb2); (try clear hk); (try clear hi); (try clear ho0)) | ((with_reducible refine gate_dst (N := 6) rfl ?_); refine Hof.bx 6 #[.int .i64 0, .int .i64 0, .int .i64 0, .slice none 0 0] 49 ?_; intro gb1084 hg w20 hbox hb; replace HO1076 := Hof.rb HO1076 hb; replace HO1082 := Hof.rb HO1082 hb; have BK1084 := Aside0.mk hbox; have GW1084 := Hof.gL (w := w) hg Hof.L; have GE1084 := Hof.gL (w := w) hg Hof.L; replace HB := Aside0.mk (below_step Hof.L hb); have NB1071_1084 := Hof.nl hg BK1071; have NB1084_1071 := Hof.ng hg BK1071; replace BK1071 := Hof.bb BK1071 hb; clear hb hbox hg; have hnb21 := NB1084_1071.out; have hnc21 := NB1071_1084.out; obtain ⟨hcz22_0, hcz22_1, hcz22_2, hcz22_3, hfz22_0, hfz22_1, hfz22_2, hfz22_3⟩ := Hof.blk4 BK1084.out; obtain ⟨Ao23, co23, eo23⟩ := Kd.R_slice HO1082.out; subst eo23; obtain ⟨hcz24_0, hcz24_1, hfz24_0, hfz24_1⟩ := Hof.blk2 BK1071.out) | ((with_reducible refine gate_callee (f := 32) rfl ?_); refine Hof.gl (some 29) Try.func32 #[.agg #[.int .i64 a0_0, .slice A0_1 l0_1.length c0_1]] ?_; (with_reducible refine (laws_toMatroid.calls k a0_0 _ _ l0_1 t1085 t1086 _ ?side1 ?side2 A10.out).mono ?_); (case side1 => exact Kd.C_below HR0_1.out Hof.L); (case side2 => exact HC0_1.out); rintro e w25 ⟨v1087, rfl, ho0, hb⟩; refine ⟨_, rfl, ?_⟩; have HO1088 := Aside0.mk (Kd.R_lower (Kd.R_new' (Kd.R_new' ho0 (Kd.R_lt (Hof.Rw ((Kd.R_mono (Kd.R_far (p := ⟨gb1084, 3, none⟩) (Kd.R_far (p := ⟨gb1084, 2, none⟩) (Kd.R_far (p := ⟨gb1084, 1, none⟩) (Kd.R_far (p := ⟨gb1084, 0, none⟩) (Kd.R_types HO1076.out BK1084.out (by decide)) (fun _ hk => hk.2) (.int .i64 t1077)) (fun _ hk => hk.2) (.int .i64 t1078)) (fun _ hk => hk.2) (.int .i64 t1079)) (fun _ hk => hk.2) (.slice Ao23 t1080.length co23)) (fun _ h_ => h_.1)))))) (Kd.R_lt (Hof.Rw ((Kd.R_mono (Kd.R_far (p := ⟨gb1084, 3, none⟩) (Kd.R_far (p := ⟨gb1084, 2, none⟩) (Kd.R_far (p := ⟨gb1084, 1, none⟩) (Kd.R_far (p := ⟨gb1084, 0, none⟩) (Kd.R_types HO1082.out BK1084.out (by decide)) (fun _ hk => hk.2) (.int .i64 t1077)) (fun _ hk => hk.2) (.int .i64 t1078)) (fun _ hk => hk.2) (.int .i64 t1079)) (fun _ hk => hk.2) (.slice Ao23 t1080.length co23)) (fun _ h_ => h_.1)))))) (below_size Hof.L)); replace HO1076 := Aside0.mk (Kd.R_elder' (Hof.Rw ((Kd.R_mono (Kd.R_far (p := ⟨gb1084, 3, none⟩) (Kd.R_far (p := ⟨gb1084, 2, none⟩) (Kd.R_far (p := ⟨gb1084, 1, none⟩) (Kd.R_far (p := ⟨gb1084, 0, none⟩) (Kd.R_types HO1076.out BK1084.out (by decide)) (fun _ hk => hk.2) (.int .i64 t1077)) (fun _ hk => hk.2) (.int .i64 t1078)) (fun _ hk => hk.2) (.int .i64 t1079)) (fun _ hk => hk.2) (.slice Ao23 t1080.length co23)) (fun _ h_ => h_.1)))) (Kd.R_base ho0) hb); replace HO1082 := Aside0.mk (Kd.R_elder' (Hof.Rw ((Kd.R_mono (Kd.R_far (p := ⟨gb1084, 3, none⟩) (Kd.R_far (p := ⟨gb1084, 2, none⟩) (Kd.R_far (p := ⟨gb1084, 1, none⟩) (Kd.R_far (p := ⟨gb1084, 0, none⟩) (Kd.R_types HO1082.out BK1084.out (by decide)) (fun _ hk => hk.2) (.int .i64 t1077)) (fun _ hk => hk.2) (.int .i64 t1078)) (fun _ hk => hk.2) (.int .i64 t1079)) (fun _ hk => hk.2) (.slice Ao23 t1080.length co23)) (fun _ h_ => h_.1)))) (Kd.R_base ho0) hb); replace BK1071 := Aside0.mk (blk_below (g := gb1071) (o := .cells #[.int .i64 a0_0, .slice A0_1 l0_1.length c0_1] 43 (0, 0)) Hof.B hb); replace BK1084 := Aside0.mk (blk_below (g := gb1084) (o := .cells #[.int .i64 t1077, .int .i64 t1078, .int .i64 t1079, .slice Ao23 t1080.length co23] 49 (0, 0)) Hof.B hb); replace HB := Aside0.mk (below_step Hof.L hb); (try clear hb); (try clear hb2); (try clear hk); (try clear hi); (try clear ho0)) | ((with_reducible refine gate_dst (N := 8) rfl ?_); refine Hof.bx 8 #[.int .i64 0, .slice none 0 0] 35 ?_; intro gb1089 hg w26 hbox hb; have n0_ := Hof.rb HO1076 hb; have n1_ := Hof.rb HO1082 hb; have n2_ := Hof.rb HO1088 hb; have n3_ := Hof.bb BK1071 hb; have n4_ := Hof.bb BK1084 hb; have n5_ := Aside0.mk (below_step Hof.L hb); have n6_ := Aside0.mk hbox; have n7_ := Hof.gL (w := w) hg Hof.L; have n8_ := Hof.gL (w := w) hg Hof.L; have n9_ := Hof.nl hg BK1071; have n10_ := Hof.ng hg BK1071; have n11_ := Hof.nl hg BK1084; have n12_ := Hof.ng hg BK1084; clear HO1076; clear HO1082; clear HO1088; clear BK1071; clear BK1084; clear HB; have HO1076 := n0_; have HO1082 := n1_; have HO1088 := n2_; have BK1071 := n3_; have BK1084 := n4_; have HB := n5_; have BK1089 := n6_; have GW1089 := n7_; have GE1089 := n8_; have NB1071_1089 := n9_; have NB1089_1071 := n10_; have NB1084_1089 := n11_; have NB1089_1084 := n12_; clear n0_ n1_ n2_ n3_ n4_ n5_ n6_ n7_ n8_ n9_ n10_ n11_ n12_; clear hb hbox hg; have hnb27 := NB1089_1071.out; have hnc27 := NB1071_1089.out; have hnb28 := NB1089_1084.out; have hnc28 := NB1084_1089.out; obtain ⟨hcz29_0, hcz29_1, hfz29_0, hfz29_1⟩ := Hof.blk2 BK1089.out; obtain ⟨Ao30, co30, eo30⟩ := Kd.R_slice HO1088.out; subst eo30) | ((with_reducible refine gate_callee (f := 39) rfl ?_); refine Hof.gl (some 33) Try.func39 #[.agg #[.int .i64 t1085, .slice Ao30 t1086.length co30], .int .i64 a1] ?_; (with_reducible refine (impl_FindMatrix.calls k t1085 _ _ t1086 a1 t1090 t1091 t1092 t1093 t1096 _ ?side1 ?side2 A11.out).mono ?_); (case side1 => refine (Kd.R_reads' (e := 3) (base := w.heap.size) (ok := fun k_ => ((True ∧ some k_ ≠ (.slice Ao18 t1074.length co18 : Value).ownBlock) ∧ some k_ ≠ (.slice Ao23 t1080.length co23 : Value).ownBlock)) (n := t1086.length) (c := co30) ?_).2.2; exact (Hof.Rw ((Kd.R_mono (Kd.R_far (p := ⟨gb1089, 1, none⟩) (Kd.R_far (p := ⟨gb1089, 0, none⟩) (Kd.R_types HO1088.out BK1089.out (by decide)) (fun _ hk => hk.2) (.int .i64 t1085)) (fun _ hk => hk.2) (.slice Ao30 t1086.length co30)) (fun _ h_ => h_.1))))); (case side2 => exact (Kd.R_reads' HO1088.out).2.1); rintro e w31 ⟨v1094, rfl, ho0, hb⟩; refine ⟨_, rfl, ?_⟩; have HO1095 := Aside0.mk (Kd.R_lower (Kd.R_new' (Kd.R_new' (Kd.R_new' ho0 (Kd.R_lt (Hof.Rw ((Kd.R_mono (Kd.R_far (p := ⟨gb1089, 1, none⟩) (Kd.R_far (p := ⟨gb1089, 0, none⟩) (Kd.R_types HO1076.out BK1089.out (by decide)) (fun _ hk => hk.2) (.int .i64 t1085)) (fun _ hk => hk.2) (.slice Ao30 t1086.length co30)) (fun _ h_ => h_.1)))))) (Kd.R_lt (Hof.Rw ((Kd.R_mono (Kd.R_far (p := ⟨gb1089, 1, none⟩) (Kd.R_far (p := ⟨gb1089, 0, none⟩) (Kd.R_types HO1082.out BK1089.out (by decide)) (fun _ hk => hk.2) (.int .i64 t1085)) (fun _ hk => hk.2) (.slice Ao30 t1086.length co30)) (fun _ h_ => h_.1)))))) (Kd.R_lt (Hof.Rw ((Kd.R_mono (Kd.R_far (p := ⟨gb1089, 1, none⟩) (Kd.R_far (p := ⟨gb1089, 0, none⟩) (Kd.R_types HO1088.out BK1089.out (by decide)) (fun _ hk => hk.2) (.int .i64 t1085)) (fun _ hk => hk.2) (.slice Ao30 t1086.length co30)) (fun _ h_ => h_.1)))))) (below_size Hof.L)); replace HO1076 := Aside0.mk (Kd.R_elder' (Hof.Rw ((Kd.R_mono (Kd.R_far (p := ⟨gb1089, 1, none⟩) (Kd.R_far (p := ⟨gb1089, 0, none⟩) (Kd.R_types HO1076.out BK1089.out (by decide)) (fun _ hk => hk.2) (.int .i64 t1085)) (fun _ hk => hk.2) (.slice Ao30 t1086.length co30)) (fun _ h_ => h_.1)))) (Kd.R_base ho0) hb); replace HO1082 := Aside0.mk (Kd.R_elder' (Hof.Rw ((Kd.R_mono (Kd.R_far (p := ⟨gb1089, 1, none⟩) (Kd.R_far (p := ⟨gb1089, 0, none⟩) (Kd.R_types HO1082.out BK1089.out (by decide)) (fun _ hk => hk.2) (.int .i64 t1085)) (fun _ hk => hk.2) (.slice Ao30 t1086.length co30)) (fun _ h_ => h_.1)))) (Kd.R_base ho0) hb); replace HO1088 := Aside0.mk (Kd.R_elder' (Hof.Rw ((Kd.R_mono (Kd.R_far (p := ⟨gb1089, 1, none⟩) (Kd.R_far (p := ⟨gb1089, 0, none⟩) (Kd.R_types HO1088.out BK1089.out (by decide)) (fun _ hk => hk.2) (.int .i64 t1085)) (fun _ hk => hk.2) (.slice Ao30 t1086.length co30)) (fun _ h_ => h_.1)))) (Kd.R_base ho0) hb); replace BK1071 := Aside0.mk (blk_below (g := gb1071) (o := .cells #[.int .i64 a0_0, .slice A0_1 l0_1.length c0_1] 43 (0, 0)) Hof.B hb); replace BK1084 := Aside0.mk (blk_below (g := gb1084) (o := .cells #[.int .i64 t1077, .int .i64 t1078, .int .i64 t1079, .slice Ao23 t1080.length co23] 49 (0, 0)) Hof.B hb); replace BK1089 := Aside0.mk (blk_below (g := gb1089) (o := .cells #[.int .i64 t1085, .slice Ao30 t1086.length co30] 35 (0, 0)) Hof.B hb); replace HB := Aside0.mk (below_step Hof.L hb); (try clear hb); (try clear hb2); (try clear hk); (try clear hi); (try clear ho0)) | ((with_reducible refine gate_dst (N := 9) rfl ?_); refine Hof.bx 9 #[.int .i64 0, .int .i64 0, .int .i64 0, .slice none 0 0] 49 ?_; intro gb1097 hg w32 hbox hb; have n0_ := Hof.rb HO1076 hb; have n1_ := Hof.rb HO1082 hb; have n2_ := Hof.rb HO1088 hb; have n3_ := Hof.rb HO1095 hb; have n4_ := Hof.bb BK1071 hb; have n5_ := Hof.bb BK1084 hb; have n6_ := Hof.bb BK1089 hb; have n7_ := Aside0.mk (below_step Hof.L hb); have n8_ := Aside0.mk hbox; have n9_ := Hof.gL (w := w) hg Hof.L; have n10_ := Hof.gL (w := w) hg Hof.L; have n11_ := Hof.nl hg BK1071; have n12_ := Hof.ng hg BK1071; have n13_ := Hof.nl hg BK1084; have n14_ := Hof.ng hg BK1084; have n15_ := Hof.nl hg BK1089; have n16_ := Hof.ng hg BK1089; clear HO1076; clear HO1082; clear HO1088; clear HO1095; clear BK1071; clear BK1084; clear BK1089; clear HB; have HO1076 := n0_; have HO1082 := n1_; have HO1088 := n2_; have HO1095 := n3_; have BK1071 := n4_; have BK1084 := n5_; have BK1089 := n6_; have HB := n7_; have BK1097 := n8_; have GW1097 := n9_; have GE1097 := n10_; have NB1071_1097 := n11_; have NB1097_1071 := n12_; have NB1084_1097 := n13_; have NB1097_1084 := n14_; have NB1089_1097 := n15_; have NB1097_1089 := n16_; clear n0_ n1_ n2_ n3_ n4_ n5_ n6_ n7_ n8_ n9_ n10_ n11_ n12_ n13_ n14_ n15_ n16_; clear hb hbox hg; have hnb33 := NB1097_1071.out; have hnc33 := NB1071_1097.out; have hnb34 := NB1097_1084.out; have hnc34 := NB1084_1097.out; have hnb35 := NB1097_1089.out; have hnc35 := NB1089_1097.out; obtain ⟨hcz36_0, hcz36_1, hcz36_2, hcz36_3, hfz36_0, hfz36_1, hfz36_2, hfz36_3⟩ := Hof.blk4 BK1097.out; obtain ⟨Ao37, co37, eo37⟩ := Kd.R_slice HO1095.out; subst eo37))
  (try simp only [Act.put, List.setIfInBounds_toArray, List.set_cons_zero, List.set_cons_succ])
  go_cut [44] (fun v44 wc => ∃ (kq : Nat) (x44_11 : Bool), v44 = .bool x44_11 ∧ Aside0 (laws_FnExactFindMatrix.j0 kq a1 t1083 t1096 x44_11 a0_0 l0_1 t1077 t1078 t1079 t1080 t1085 t1086 t1090 t1091 t1092 t1093 = some r) ∧ Aside0 (kq ≤ k) ∧ Aside0 (Kd.R (Kd.int .i64) 3 wc w.heap.size (fun k_ => some k_ ≠ ((.slice Ao30 t1086.length co30) : Value).ownBlock ∧ some k_ ≠ ((.slice Ao37 t1093.length co37) : Value).ownBlock) (.slice Ao23 t1080.length co23) t1080) ∧ Aside0 (Kd.R (Kd.int .i64) 3 wc w.heap.size (fun k_ => some k_ ≠ ((.slice Ao23 t1080.length co23) : Value).ownBlock ∧ some k_ ≠ ((.slice Ao37 t1093.length co37) : Value).ownBlock) (.slice Ao30 t1086.length co30) t1086) ∧ Aside0 (Kd.R (Kd.int .i64) 3 wc w.heap.size (fun k_ => some k_ ≠ ((.slice Ao23 t1080.length co23) : Value).ownBlock ∧ some k_ ≠ ((.slice Ao30 t1086.length co30) : Value).ownBlock) (.slice Ao37 t1093.length co37) t1093) ∧ Aside0 (wc.heap[gb1071]? = some (.cells #[.int .i64 a0_0, (.slice A0_1 l0_1.length c0_1)] 43 (0, 0))) ∧ Aside0 (wc.heap[gb1084]? = some (.cells #[.int .i64 t1077, .int .i64 t1078, .int .i64 t1079, (.slice Ao23 t1080.length co23)] 49 (0, 0))) ∧ Aside0 (wc.heap[gb1089]? = some (.cells #[.int .i64 t1085, (.slice Ao30 t1086.length co30)] 35 (0, 0))) ∧ Aside0 (wc.heap[gb1097]? = some (.cells #[.int .i64 t1090, .int .i64 t1091, .int .i64 t1092, (.slice Ao37 t1093.length co37)] 49 (0, 0))) ∧ Aside0 (Below w.heap.size w wc))
  case first =>
   have H := HC12.out
   clear HC12
   obtain ⟨t1098, A38, H⟩ := Hof.be H
   (try dsimp only at H)
   by_cases c39 : t1098 = true
   ·subst c39
    replace H : (laws_FnExactFindMatrix.j0 k a1 t1083 t1096 (t1096 != t1083) a0_0 l0_1 t1077 t1078 t1079 t1080 t1085 t1086 t1090 t1091 t1092 t1093) = some r := by rw [if_pos rfl] at H; exact H
    have H' := Aside0.mk H
    clear H
    have hnb40 := NB1097_1071.out
    have hnc40 := NB1071_1097.out
    have hnb41 := NB1097_1084.out
    have hnc41 := NB1084_1097.out
    have hnb42 := NB1097_1089.out
    have hnc42 := NB1089_1097.out
    obtain ⟨hcz43_0, hcz43_1, hcz43_2, hcz43_3, hfz43_0, hfz43_1, hfz43_2, hfz43_3⟩ := Hof.blk4 BK1097.out
    have hnb44 := NB1084_1071.out
    have hnc44 := NB1071_1084.out
    have hnb45 := NB1084_1089.out
    have hnc45 := NB1089_1084.out
    obtain ⟨hcz46_0, hcz46_1, hcz46_2, hcz46_3, hfz46_0, hfz46_1, hfz46_2, hfz46_3⟩ := Hof.blk4 BK1084.out
    go_wp2_with (first | ((with_reducible refine gate_callee (f := 40) rfl ?_); refine Hof.gl (some 38) Try.func40 #[.agg #[.int .i64 t1090, .int .i64 t1091, .int .i64 t1092, .slice Ao37 t1093.length co37], .agg #[.int .i64 t1077, .int .i64 t1078, .int .i64 t1079, .slice Ao23 t1080.length co23]] ?_; (with_reducible refine (laws_eqMatrix.calls k t1090 t1091 t1092 _ _ t1093 t1077 t1078 t1079 _ _ t1080 true _ ?side1 ?side2 ?side3 ?side4 A38.out).mono ?_); (case side1 => refine (Kd.R_reads' (e := 3) (base := w.heap.size) (ok := fun k_ => (((True ∧ some k_ ≠ (.slice Ao18 t1074.length co18 : Value).ownBlock) ∧ some k_ ≠ (.slice Ao23 t1080.length co23 : Value).ownBlock) ∧ some k_ ≠ (.slice Ao30 t1086.length co30 : Value).ownBlock)) (n := t1093.length) (c := co37) ?_).2.2; exact (Hof.Rw ((Kd.R_mono (Kd.R_far (p := ⟨gb1097, 3, none⟩) (Kd.R_far (p := ⟨gb1097, 2, none⟩) (Kd.R_far (p := ⟨gb1097, 1, none⟩) (Kd.R_far (p := ⟨gb1097, 0, none⟩) (Kd.R_types HO1095.out BK1097.out (by decide)) (fun _ hk => hk.2) (.int .i64 t1090)) (fun _ hk => hk.2) (.int .i64 t1091)) (fun _ hk => hk.2) (.int .i64 t1092)) (fun _ hk => hk.2) (.slice Ao37 t1093.length co37)) (fun _ h_ => h_.1))))); (case side2 => exact (Kd.R_reads' HO1095.out).2.1); (case side3 => refine (Kd.R_reads' (e := 3) (base := w.heap.size) (ok := fun k_ => (((True ∧ some k_ ≠ (.slice Ao18 t1074.length co18 : Value).ownBlock) ∧ some k_ ≠ (.slice Ao30 t1086.length co30 : Value).ownBlock) ∧ some k_ ≠ (.slice Ao37 t1093.length co37 : Value).ownBlock)) (n := t1080.length) (c := co23) ?_).2.2; exact (Hof.Rw ((Kd.R_mono (Kd.R_far (p := ⟨gb1097, 3, none⟩) (Kd.R_far (p := ⟨gb1097, 2, none⟩) (Kd.R_far (p := ⟨gb1097, 1, none⟩) (Kd.R_far (p := ⟨gb1097, 0, none⟩) (Kd.R_types HO1082.out BK1097.out (by decide)) (fun _ hk => hk.2) (.int .i64 t1090)) (fun _ hk => hk.2) (.int .i64 t1091)) (fun _ hk => hk.2) (.int .i64 t1092)) (fun _ hk => hk.2) (.slice Ao37 t1093.length co37)) (fun _ h_ => h_.1))))); (case side4 => exact (Kd.R_reads' HO1082.out).2.1); rintro e w47 ⟨rfl, hb⟩; refine ⟨_, rfl, ?_⟩; replace HO1076 := Aside0.mk (Kd.R_below (Hof.Rw ((Kd.R_mono (Kd.R_far (p := ⟨gb1097, 3, none⟩) (Kd.R_far (p := ⟨gb1097, 2, none⟩) (Kd.R_far (p := ⟨gb1097, 1, none⟩) (Kd.R_far (p := ⟨gb1097, 0, none⟩) (Kd.R_types HO1076.out BK1097.out (by decide)) (fun _ hk => hk.2) (.int .i64 t1090)) (fun _ hk => hk.2) (.int .i64 t1091)) (fun _ hk => hk.2) (.int .i64 t1092)) (fun _ hk => hk.2) (.slice Ao37 t1093.length co37)) (fun _ h_ => h_.1)))) hb); replace HO1082 := Aside0.mk (Kd.R_below (Hof.Rw ((Kd.R_mono (Kd.R_far (p := ⟨gb1097, 3, none⟩) (Kd.R_far (p := ⟨gb1097, 2, none⟩) (Kd.R_far (p := ⟨gb1097, 1, none⟩) (Kd.R_far (p := ⟨gb1097, 0, none⟩) (Kd.R_types HO1082.out BK1097.out (by decide)) (fun _ hk => hk.2) (.int .i64 t1090)) (fun _ hk => hk.2) (.int .i64 t1091)) (fun _ hk => hk.2) (.int .i64 t1092)) (fun _ hk => hk.2) (.slice Ao37 t1093.length co37)) (fun _ h_ => h_.1)))) hb); replace HO1088 := Aside0.mk (Kd.R_below (Hof.Rw ((Kd.R_mono (Kd.R_far (p := ⟨gb1097, 3, none⟩) (Kd.R_far (p := ⟨gb1097, 2, none⟩) (Kd.R_far (p := ⟨gb1097, 1, none⟩) (Kd.R_far (p := ⟨gb1097, 0, none⟩) (Kd.R_types HO1088.out BK1097.out (by decide)) (fun _ hk => hk.2) (.int .i64 t1090)) (fun _ hk => hk.2) (.int .i64 t1091)) (fun _ hk => hk.2) (.int .i64 t1092)) (fun _ hk => hk.2) (.slice Ao37 t1093.length co37)) (fun _ h_ => h_.1)))) hb); replace HO1095 := Aside0.mk (Kd.R_below (Hof.Rw ((Kd.R_mono (Kd.R_far (p := ⟨gb1097, 3, none⟩) (Kd.R_far (p := ⟨gb1097, 2, none⟩) (Kd.R_far (p := ⟨gb1097, 1, none⟩) (Kd.R_far (p := ⟨gb1097, 0, none⟩) (Kd.R_types HO1095.out BK1097.out (by decide)) (fun _ hk => hk.2) (.int .i64 t1090)) (fun _ hk => hk.2) (.int .i64 t1091)) (fun _ hk => hk.2) (.int .i64 t1092)) (fun _ hk => hk.2) (.slice Ao37 t1093.length co37)) (fun _ h_ => h_.1)))) hb); replace BK1071 := Aside0.mk (blk_below (g := gb1071) (o := .cells #[.int .i64 a0_0, .slice A0_1 l0_1.length c0_1] 43 (0, 0)) Hof.B hb); replace BK1084 := Aside0.mk (blk_below (g := gb1084) (o := .cells #[.int .i64 t1077, .int .i64 t1078, .int .i64 t1079, .slice Ao23 t1080.length co23] 49 (0, 0)) Hof.B hb); replace BK1089 := Aside0.mk (blk_below (g := gb1089) (o := .cells #[.int .i64 t1085, .slice Ao30 t1086.length co30] 35 (0, 0)) Hof.B hb); replace BK1097 := Aside0.mk (blk_below (g := gb1097) (o := .cells #[.int .i64 t1090, .int .i64 t1091, .int .i64 t1092, .slice Ao37 t1093.length co37] 49 (0, 0)) Hof.B hb); replace HB := Aside0.mk (below_step Hof.L hb); (try clear hb); (try clear hb2); (try clear hk); (try clear hi)))
    go_meet
    case rel => exact ⟨_, ((t1096 != t1083)), Hof.F, H', ⟨by first | omega | exact Nat.le_refl _⟩, ⟨Hof.Rw (Kd.R_mono HO1082.out (fun _ hk => (by first | exact ⟨hk.1.2, hk.2⟩ | (simp_all; done))))⟩, ⟨Hof.Rw (Kd.R_mono HO1088.out (fun _ hk => (by first | exact ⟨hk.1.2, hk.2⟩ | (simp_all; done))))⟩, ⟨Hof.Rw (Kd.R_mono HO1095.out (fun _ hk => (by first | exact ⟨hk.1.2, hk.2⟩ | (simp_all; done))))⟩, ⟨Hof.Bw BK1071.out⟩, ⟨Hof.Bw BK1084.out⟩, ⟨Hof.Bw BK1089.out⟩, ⟨Hof.Bw BK1097.out⟩, ⟨Hof.L⟩⟩
   ·replace c39 := Bool.eq_false_iff.mpr c39
    subst c39
    replace H : (laws_FnExactFindMatrix.j0 k a1 t1083 t1096 true a0_0 l0_1 t1077 t1078 t1079 t1080 t1085 t1086 t1090 t1091 t1092 t1093) = some r := by rw [if_neg (show ¬ (false = true) by decide)] at H; exact H
    have H' := Aside0.mk H
    clear H
    have hnb48 := NB1097_1071.out
    have hnc48 := NB1071_1097.out
    have hnb49 := NB1097_1084.out
    have hnc49 := NB1084_1097.out
    have hnb50 := NB1097_1089.out
    have hnc50 := NB1089_1097.out
    obtain ⟨hcz51_0, hcz51_1, hcz51_2, hcz51_3, hfz51_0, hfz51_1, hfz51_2, hfz51_3⟩ := Hof.blk4 BK1097.out
    have hnb52 := NB1084_1071.out
    have hnc52 := NB1071_1084.out
    have hnb53 := NB1084_1089.out
    have hnc53 := NB1089_1084.out
    obtain ⟨hcz54_0, hcz54_1, hcz54_2, hcz54_3, hfz54_0, hfz54_1, hfz54_2, hfz54_3⟩ := Hof.blk4 BK1084.out
    go_wp2_with (first | ((with_reducible refine gate_callee (f := 40) rfl ?_); refine Hof.gl (some 38) Try.func40 #[.agg #[.int .i64 t1090, .int .i64 t1091, .int .i64 t1092, .slice Ao37 t1093.length co37], .agg #[.int .i64 t1077, .int .i64 t1078, .int .i64 t1079, .slice Ao23 t1080.length co23]] ?_; (with_reducible refine (laws_eqMatrix.calls k t1090 t1091 t1092 _ _ t1093 t1077 t1078 t1079 _ _ t1080 false _ ?side1 ?side2 ?side3 ?side4 A38.out).mono ?_); (case side1 => refine (Kd.R_reads' (e := 3) (base := w.heap.size) (ok := fun k_ => (((True ∧ some k_ ≠ (.slice Ao18 t1074.length co18 : Value).ownBlock) ∧ some k_ ≠ (.slice Ao23 t1080.length co23 : Value).ownBlock) ∧ some k_ ≠ (.slice Ao30 t1086.length co30 : Value).ownBlock)) (n := t1093.length) (c := co37) ?_).2.2; exact (Hof.Rw ((Kd.R_mono (Kd.R_far (p := ⟨gb1097, 3, none⟩) (Kd.R_far (p := ⟨gb1097, 2, none⟩) (Kd.R_far (p := ⟨gb1097, 1, none⟩) (Kd.R_far (p := ⟨gb1097, 0, none⟩) (Kd.R_types HO1095.out BK1097.out (by decide)) (fun _ hk => hk.2) (.int .i64 t1090)) (fun _ hk => hk.2) (.int .i64 t1091)) (fun _ hk => hk.2) (.int .i64 t1092)) (fun _ hk => hk.2) (.slice Ao37 t1093.length co37)) (fun _ h_ => h_.1))))); (case side2 => exact (Kd.R_reads' HO1095.out).2.1); (case side3 => refine (Kd.R_reads' (e := 3) (base := w.heap.size) (ok := fun k_ => (((True ∧ some k_ ≠ (.slice Ao18 t1074.length co18 : Value).ownBlock) ∧ some k_ ≠ (.slice Ao30 t1086.length co30 : Value).ownBlock) ∧ some k_ ≠ (.slice Ao37 t1093.length co37 : Value).ownBlock)) (n := t1080.length) (c := co23) ?_).2.2; exact (Hof.Rw ((Kd.R_mono (Kd.R_far (p := ⟨gb1097, 3, none⟩) (Kd.R_far (p := ⟨gb1097, 2, none⟩) (Kd.R_far (p := ⟨gb1097, 1, none⟩) (Kd.R_far (p := ⟨gb1097, 0, none⟩) (Kd.R_types HO1082.out BK1097.out (by decide)) (fun _ hk => hk.2) (.int .i64 t1090)) (fun _ hk => hk.2) (.int .i64 t1091)) (fun _ hk => hk.2) (.int .i64 t1092)) (fun _ hk => hk.2) (.slice Ao37 t1093.length co37)) (fun _ h_ => h_.1))))); (case side4 => exact (Kd.R_reads' HO1082.out).2.1); rintro e w55 ⟨rfl, hb⟩; refine ⟨_, rfl, ?_⟩; replace HO1076 := Aside0.mk (Kd.R_below (Hof.Rw ((Kd.R_mono (Kd.R_far (p := ⟨gb1097, 3, none⟩) (Kd.R_far (p := ⟨gb1097, 2, none⟩) (Kd.R_far (p := ⟨gb1097, 1, none⟩) (Kd.R_far (p := ⟨gb1097, 0, none⟩) (Kd.R_types HO1076.out BK1097.out (by decide)) (fun _ hk => hk.2) (.int .i64 t1090)) (fun _ hk => hk.2) (.int .i64 t1091)) (fun _ hk => hk.2) (.int .i64 t1092)) (fun _ hk => hk.2) (.slice Ao37 t1093.length co37)) (fun _ h_ => h_.1)))) hb); replace HO1082 := Aside0.mk (Kd.R_below (Hof.Rw ((Kd.R_mono (Kd.R_far (p := ⟨gb1097, 3, none⟩) (Kd.R_far (p := ⟨gb1097, 2, none⟩) (Kd.R_far (p := ⟨gb1097, 1, none⟩) (Kd.R_far (p := ⟨gb1097, 0, none⟩) (Kd.R_types HO1082.out BK1097.out (by decide)) (fun _ hk => hk.2) (.int .i64 t1090)) (fun _ hk => hk.2) (.int .i64 t1091)) (fun _ hk => hk.2) (.int .i64 t1092)) (fun _ hk => hk.2) (.slice Ao37 t1093.length co37)) (fun _ h_ => h_.1)))) hb); replace HO1088 := Aside0.mk (Kd.R_below (Hof.Rw ((Kd.R_mono (Kd.R_far (p := ⟨gb1097, 3, none⟩) (Kd.R_far (p := ⟨gb1097, 2, none⟩) (Kd.R_far (p := ⟨gb1097, 1, none⟩) (Kd.R_far (p := ⟨gb1097, 0, none⟩) (Kd.R_types HO1088.out BK1097.out (by decide)) (fun _ hk => hk.2) (.int .i64 t1090)) (fun _ hk => hk.2) (.int .i64 t1091)) (fun _ hk => hk.2) (.int .i64 t1092)) (fun _ hk => hk.2) (.slice Ao37 t1093.length co37)) (fun _ h_ => h_.1)))) hb); replace HO1095 := Aside0.mk (Kd.R_below (Hof.Rw ((Kd.R_mono (Kd.R_far (p := ⟨gb1097, 3, none⟩) (Kd.R_far (p := ⟨gb1097, 2, none⟩) (Kd.R_far (p := ⟨gb1097, 1, none⟩) (Kd.R_far (p := ⟨gb1097, 0, none⟩) (Kd.R_types HO1095.out BK1097.out (by decide)) (fun _ hk => hk.2) (.int .i64 t1090)) (fun _ hk => hk.2) (.int .i64 t1091)) (fun _ hk => hk.2) (.int .i64 t1092)) (fun _ hk => hk.2) (.slice Ao37 t1093.length co37)) (fun _ h_ => h_.1)))) hb); replace BK1071 := Aside0.mk (blk_below (g := gb1071) (o := .cells #[.int .i64 a0_0, .slice A0_1 l0_1.length c0_1] 43 (0, 0)) Hof.B hb); replace BK1084 := Aside0.mk (blk_below (g := gb1084) (o := .cells #[.int .i64 t1077, .int .i64 t1078, .int .i64 t1079, .slice Ao23 t1080.length co23] 49 (0, 0)) Hof.B hb); replace BK1089 := Aside0.mk (blk_below (g := gb1089) (o := .cells #[.int .i64 t1085, .slice Ao30 t1086.length co30] 35 (0, 0)) Hof.B hb); replace BK1097 := Aside0.mk (blk_below (g := gb1097) (o := .cells #[.int .i64 t1090, .int .i64 t1091, .int .i64 t1092, .slice Ao37 t1093.length co37] 49 (0, 0)) Hof.B hb); replace HB := Aside0.mk (below_step Hof.L hb); (try clear hb); (try clear hb2); (try clear hk); (try clear hi)))
    go_meet
    case rel => exact ⟨_, (true), Hof.F, H', ⟨by first | omega | exact Nat.le_refl _⟩, ⟨Hof.Rw (Kd.R_mono HO1082.out (fun _ hk => (by first | exact ⟨hk.1.2, hk.2⟩ | (simp_all; done))))⟩, ⟨Hof.Rw (Kd.R_mono HO1088.out (fun _ hk => (by first | exact ⟨hk.1.2, hk.2⟩ | (simp_all; done))))⟩, ⟨Hof.Rw (Kd.R_mono HO1095.out (fun _ hk => (by first | exact ⟨hk.1.2, hk.2⟩ | (simp_all; done))))⟩, ⟨Hof.Bw BK1071.out⟩, ⟨Hof.Bw BK1084.out⟩, ⟨Hof.Bw BK1089.out⟩, ⟨Hof.Bw BK1097.out⟩, ⟨Hof.L⟩⟩
  case rest =>
   clear HC12
   obtain ⟨kq, x44_11, rfl, HA, HJ11, HO_1085003, HO_1090001, HO_1098003, BK1071, BK1084, BK1089, BK1097, HB⟩ := hcut
   cases kq with
   | zero => exact absurd HA.out (by simp [laws_FnExactFindMatrix.j0])
   | succ kj11 =>
    have H := HA.out
    clear HA
    simp only [laws_FnExactFindMatrix.j0] at H
    by_cases c56 : x44_11 = true
    ·subst c56
     replace H : (some false) = some r := by rw [if_pos rfl] at H; exact H
     obtain rfl := Option.some.inj H
     exact absurd hT.out (by decide)
    ·replace c56 := Bool.eq_false_iff.mpr c56
     subst c56
     replace H : ((laws_toMatroid.f kj11 a0_0 l0_1).bind fun bt1099 => ((laws_eqMatroid.f kj11 t1085 t1086 bt1099.1 bt1099.2).bind fun t1103 => (if t1103 = true then ((laws_markMatroid.f kj11 t1085 t1086 1).bind fun bt1104 => (if bt1104.1 < 0 then (laws_FnExactFindMatrix.j1 kj11 a1 t1083 true a0_0 l0_1 t1077 t1078 t1079 t1080 t1090 t1091 t1092 t1093) else ((laws_eqMatrix.f kj11 t1090 t1091 t1092 t1093 t1077 t1078 t1079 t1080).bind fun t1106 => (if t1106 = true then (laws_FnExactFindMatrix.j1 kj11 a1 t1083 (t1096 != t1083) a0_0 l0_1 t1077 t1078 t1079 t1080 t1090 t1091 t1092 t1093) else (laws_FnExactFindMatrix.j1 kj11 a1 t1083 true a0_0 l0_1 t1077 t1078 t1079 t1080 t1090 t1091 t1092 t1093))))) else (some false)))) = some r := by rw [if_neg (show ¬ (false = true) by decide)] at H; exact H
     obtain ⟨⟨t1099, t1100⟩, A57, H⟩ := Hof.be H
     (try dsimp only at H)
     obtain ⟨t1103, A58, H⟩ := Hof.be H
     (try dsimp only at H)
     by_cases c59 : t1103 = true
     ·subst c59
      replace H : ((laws_markMatroid.f kj11 t1085 t1086 1).bind fun bt1104 => (if bt1104.1 < 0 then (laws_FnExactFindMatrix.j1 kj11 a1 t1083 true a0_0 l0_1 t1077 t1078 t1079 t1080 t1090 t1091 t1092 t1093) else ((laws_eqMatrix.f kj11 t1090 t1091 t1092 t1093 t1077 t1078 t1079 t1080).bind fun t1106 => (if t1106 = true then (laws_FnExactFindMatrix.j1 kj11 a1 t1083 (t1096 != t1083) a0_0 l0_1 t1077 t1078 t1079 t1080 t1090 t1091 t1092 t1093) else (laws_FnExactFindMatrix.j1 kj11 a1 t1083 true a0_0 l0_1 t1077 t1078 t1079 t1080 t1090 t1091 t1092 t1093))))) = some r := by rw [if_pos rfl] at H; exact H
      obtain ⟨⟨t1104, t1105⟩, A60, H⟩ := Hof.be H
      (try dsimp only at H)
      have HC61 := Aside0.mk H
      clear H
      try go_wp2
      have n0_ := Aside0.mk (Kd.R_drew HO_1085003.out)
      have n1_ := Aside0.mk (Kd.R_drew HO_1090001.out)
      have n2_ := Aside0.mk (Kd.R_drew HO_1098003.out)
      have n3_ := Aside0.mk (blk_drew BK1071.out)
      have n4_ := Aside0.mk (blk_drew BK1084.out)
      have n5_ := Aside0.mk (blk_drew BK1089.out)
      have n6_ := Aside0.mk (blk_drew BK1097.out)
      have n7_ := Aside0.mk (below_drew1 HB.out)
      clear HO_1085003
      clear HO_1090001
      clear HO_1098003
      clear BK1071
      clear BK1084
      clear BK1089
      clear BK1097
      clear HB
      have HO_1085003 := n0_
      have HO_1090001 := n1_
      have HO_1098003 := n2_
      have BK1071 := n3_
      have BK1084 := n4_
      have BK1089 := n5_
      have BK1097 := n6_
      have HB := n7_
      clear n0_ n1_ n2_ n3_ n4_ n5_ n6_ n7_
      refine start_ (n := 5) (S := fun w' => w'.cell? ⟨gb1089, 0, none⟩ = some (.int .i64 t1085) ∧ w'.cell? ⟨gb1089, 1, none⟩ = some (.slice Ao30 t1086.length co30) ∧ w'.cell? ⟨gb1071, 0, none⟩ = some (.int .i64 a0_0) ∧ w'.cell? ⟨gb1071, 1, none⟩ = some (.slice A0_1 l0_1.length c0_1)) (ds := []) #[false, false, false, false, false] (by kernel_rfl) rfl rfl ⟨(blk_cell BK1089.out 0).trans rfl, (blk_cell BK1089.out 1).trans rfl, (blk_cell BK1071.out 0).trans rfl, (blk_cell BK1071.out 1).trans rfl⟩ (fun hHeld => ?_)
      generalize wc.drew = w62 at HO_1085003 HO_1090001 HO_1098003 BK1071 BK1084 BK1089 BK1097 HB hHeld ⊢
      refine take_ (i := 0) (N := some 45) (v := ?_) (a' := ?_) #[true, false, false, false, false] rfl rfl (by kernel_rfl) (fun _ _ _ h => h) (Or.inl ⟨by rfl, ?_⟩) hHeld ?_ ?_
      rotate_left
      ·rintro w' ⟨s0, s1, s2, s3⟩
       go_simp
       with_reducible rfl
      rotate_left
      ·simp only [Act.put, List.setIfInBounds_toArray, List.set_cons_zero, List.set_cons_succ, i64_w, i32_w]
       rfl
      refine take_ (i := 1) (N := some 46) (v := ?_) (a' := ?_) #[true, true, false, false, false] rfl rfl (by kernel_rfl) (fun _ _ _ h => h) (Or.inl ⟨by rfl, ?_⟩) hHeld ?_ ?_
      rotate_left
      ·rintro w' ⟨s0, s1, s2, s3⟩
       go_simp
       with_reducible rfl
      rotate_left
      ·simp only [Act.put, List.setIfInBounds_toArray, List.set_cons_zero, List.set_cons_succ, i64_w, i32_w]
       rfl
      refine one_ (i := 2) (N := some 47) #[true, true, true, false, false] rfl rfl (by kernel_rfl) (by decide) (fun K hK => ?_)
      refine goes_ Try.func32 (by kernel_rfl) rfl #[.agg #[.int .i64 a0_0, .slice A0_1 l0_1.length c0_1]] (by rfl) rfl rfl (by (try simp only [List.map_toArray, List.map_cons, List.map_nil]); first | done | rfl) ?_
      with_reducible refine (laws_toMatroid.calls kj11 a0_0 _ _ l0_1 t1099 t1100 _ ?side1 ?side2 A57.out).mono ?_
      (case side1 => exact Hof.Cw (Kd.C_below HR0_1.out HB.out))
      (case side2 => exact HC0_1.out)
      rintro e w63 ⟨v1101, rfl, ho0, hb⟩
      refine ⟨_, rfl, ?_⟩
      have n0_ := Aside0.mk (Kd.R_elder' (Hof.Rw HO_1085003.out) (Kd.R_base ho0) hb)
      have n1_ := Aside0.mk (Kd.R_elder' (Hof.Rw HO_1090001.out) (Kd.R_base ho0) hb)
      have n2_ := Aside0.mk (Kd.R_elder' (Hof.Rw HO_1098003.out) (Kd.R_base ho0) hb)
      have n3_ := Aside0.mk (Kd.R_lower (Kd.R_new' (Kd.R_new' (Kd.R_new' ho0 (Kd.R_lt (Hof.Rw HO_1085003.out))) (Kd.R_lt (Hof.Rw HO_1090001.out))) (Kd.R_lt (Hof.Rw HO_1098003.out))) (below_size Hof.L))
      have n4_ := Hof.bb BK1071 hb
      have n5_ := Hof.bb BK1084 hb
      have n6_ := Hof.bb BK1089 hb
      have n7_ := Hof.bb BK1097 hb
      have n8_ := Aside0.mk (below_step Hof.L hb)
      clear HO_1085003
      clear HO_1090001
      clear HO_1098003
      clear BK1071
      clear BK1084
      clear BK1089
      clear BK1097
      clear HB
      have HO_1085003 := n0_
      have HO_1090001 := n1_
      have HO_1098003 := n2_
      have HO1102 := n3_
      have BK1071 := n4_
      have BK1084 := n5_
      have BK1089 := n6_
      have BK1097 := n7_
      have HB := n8_
      clear n0_ n1_ n2_ n3_ n4_ n5_ n6_ n7_ n8_
      (try clear hb)
      (try clear hb2)
      (try clear hk)
      (try clear hi)
      (try clear ho0)
      obtain ⟨Ao64, co64, eo64⟩ := Kd.R_slice HO1102.out
      (first | subst eo64 | (injection eo64 with f1_ f2_ f3_; have f4_ := f1_.symm; have f5_ := f3_.symm; clear f1_ f2_ f3_; subst f4_; subst f5_))
      refine hK.out _ _ ⟨(blk_cell BK1089.out 0).trans rfl, (blk_cell BK1089.out 1).trans rfl, (blk_cell BK1071.out 0).trans rfl, (blk_cell BK1071.out 1).trans rfl⟩ (fun hHeld => ?_)
      clear hK K
      refine norm_ (a' := ?_) ?_ ?_
      rotate_left
      ·show Act.put _ (some 47) _ = _
       simp only [Act.put, List.setIfInBounds_toArray, List.set_cons_zero, List.set_cons_succ, i64_w, i32_w]
       rfl
      refine one_ (i := 3) (N := some 48) #[true, true, true, true, false] rfl rfl (by kernel_rfl) (by decide) (fun K hK => ?_)
      refine goes_ Try.func23 (by kernel_rfl) rfl #[.agg #[.int .i64 t1085, .slice Ao30 t1086.length co30], .agg #[.int .i64 t1099, .slice Ao64 t1100.length co64]] (by rfl) rfl rfl (by (try simp only [List.map_toArray, List.map_cons, List.map_nil]); first | done | rfl) ?_
      with_reducible refine (laws_eqMatroid.calls kj11 t1085 _ _ t1086 t1099 _ _ t1100 true _ ?side1 ?side2 ?side3 ?side4 A58.out).mono ?_
      (case side1 => exact Hof.Cw ((Kd.R_reads' HO_1090001.out).2.2))
      (case side2 => exact (Kd.R_reads' HO_1090001.out).2.1)
      (case side3 => exact Hof.Cw ((Kd.R_reads' HO1102.out).2.2))
      (case side4 => exact (Kd.R_reads' HO1102.out).2.1)
      rintro e w65 ⟨rfl, hb⟩
      refine ⟨_, rfl, ?_⟩
      have n0_ := Hof.rb HO_1085003 hb
      have n1_ := Hof.rb HO_1090001 hb
      have n2_ := Hof.rb HO_1098003 hb
      have n3_ := Hof.rb HO1102 hb
      have n4_ := Hof.bb BK1071 hb
      have n5_ := Hof.bb BK1084 hb
      have n6_ := Hof.bb BK1089 hb
      have n7_ := Hof.bb BK1097 hb
      have n8_ := Aside0.mk (below_step Hof.L hb)
      clear HO_1085003
      clear HO_1090001
      clear HO_1098003
      clear HO1102
      clear BK1071
      clear BK1084
      clear BK1089
      clear BK1097
      clear HB
      have HO_1085003 := n0_
      have HO_1090001 := n1_
      have HO_1098003 := n2_
      have HO1102 := n3_
      have BK1071 := n4_
      have BK1084 := n5_
      have BK1089 := n6_
      have BK1097 := n7_
      have HB := n8_
      clear n0_ n1_ n2_ n3_ n4_ n5_ n6_ n7_ n8_
      (try clear hb)
      (try clear hb2)
      (try clear hk)
      (try clear hi)
      refine hK.out _ _ ⟨(blk_cell BK1089.out 0).trans rfl, (blk_cell BK1089.out 1).trans rfl, (blk_cell BK1071.out 0).trans rfl, (blk_cell BK1071.out 1).trans rfl⟩ (fun hHeld => ?_)
      clear hK K
      refine norm_ (a' := ?_) ?_ ?_
      rotate_left
      ·show Act.put _ (some 48) _ = _
       simp only [Act.put, List.setIfInBounds_toArray, List.set_cons_zero, List.set_cons_succ, i64_w, i32_w]
       rfl
      refine pure_ (i := 4) (N := some 49) (v := ?_) (a' := ?_) #[true, true, true, true, true] rfl rfl (by kernel_rfl) (fun _ _ _ h => h) (Or.inl ⟨by rfl, ?_⟩) ?_ ?_
      rotate_left
      ·intro w'
       go_simp
       with_reducible rfl
      rotate_left
      ·simp only [Act.put, List.setIfInBounds_toArray, List.set_cons_zero, List.set_cons_succ, i64_w, i32_w]
       rfl
      refine done_ (by kernel_rfl) ?_
      have hnb66 := NB1089_1071.out
      have hnc66 := NB1071_1089.out
      have hnb67 := NB1089_1084.out
      have hnc67 := NB1084_1089.out
      have hnb68 := NB1089_1097.out
      have hnc68 := NB1097_1089.out
      obtain ⟨hcz69_0, hcz69_1, hfz69_0, hfz69_1⟩ := Hof.blk2 BK1089.out
      go_upto_region 14 with (first | ((with_reducible refine gate_callee (f := 24) rfl ?_); refine Hof.gl (some 52) Try.func24 #[.agg #[.int .i64 t1085, .slice Ao30 t1086.length co30], .int .i64 1] ?_; (with_reducible refine (laws_markMatroid.calls kj11 t1085 (fun k_ => some k_ = (.slice Ao30 t1086.length co30 : Value).ownBlock) (.slice Ao30 t1086.length co30) t1086 1 t1104 t1105 w _ ?side1 ?side2 A60.out).mono ?_); (case side1 => repeat (first | (with_reducible first | exact HB.out | apply below_alloc | apply pw_below_drewN | apply below_drew1 | refine below_set ?_ GE1071.out | refine below_set ?_ GE1084.out | refine below_set ?_ GE1089.out | refine below_set ?_ GE1097.out) | exact HB.out)); (case side2 => exact Kd.R_tight rfl HO_1090001.out); rintro e w70 ⟨rfl, hy0, hb, hkp⟩; refine ⟨_, rfl, ?_⟩; replace HO_1085003 := Aside0.mk (Kd.R_mono (ok' := fun k_ => some k_ ≠ (.slice Ao30 t1086.length co30 : Value).ownBlock ∧ some k_ ≠ (.slice Ao37 t1093.length co37 : Value).ownBlock ∧ some k_ ≠ (.slice Ao64 t1100.length co64 : Value).ownBlock) (Kd.R_keptB (HO_1085003.out) hkp (fun k_ hk_ hs_ => (by first | exact (hk_.1.1) hs_ | (simp_all; done)))) (fun k_ hk_ => (by first | exact ⟨hk_.1.1.1, hk_.1.1.2, hk_.1.2⟩ | (simp_all; done)))); replace HO_1098003 := Aside0.mk (Kd.R_mono (ok' := fun k_ => some k_ ≠ (.slice Ao23 t1080.length co23 : Value).ownBlock ∧ some k_ ≠ (.slice Ao30 t1086.length co30 : Value).ownBlock ∧ some k_ ≠ (.slice Ao64 t1100.length co64 : Value).ownBlock) (Kd.R_keptB (HO_1098003.out) hkp (fun k_ hk_ hs_ => (by first | exact (hk_.1.2) hs_ | (simp_all; done)))) (fun k_ hk_ => (by first | exact ⟨hk_.1.1.1, hk_.1.1.2, hk_.1.2⟩ | (simp_all; done)))); replace BK1071 := Aside0.mk (blk_kept (Hof.Bw BK1071.out) hkp (fun hs_ => (fun e_ => (Kd.R_ne HO_1090001.out BK1071.out (by decide)) e_) hs_)); replace BK1084 := Aside0.mk (blk_kept (Hof.Bw BK1084.out) hkp (fun hs_ => (fun e_ => (Kd.R_ne HO_1090001.out BK1084.out (by decide)) e_) hs_)); replace BK1089 := Aside0.mk (blk_kept (Hof.Bw BK1089.out) hkp (fun hs_ => (fun e_ => (Kd.R_ne HO_1090001.out BK1089.out (by decide)) e_) hs_)); replace BK1097 := Aside0.mk (blk_kept (Hof.Bw BK1097.out) hkp (fun hs_ => (fun e_ => (Kd.R_ne HO_1090001.out BK1097.out (by decide)) e_) hs_)); replace HO_1090001 := Aside0.mk (Kd.R_reok rfl hy0 (fun k_ e_ => HO_1090001.out.1 k_ e_)); replace HO1102 := Aside0.mk (Kd.R_mono (ok' := fun k_ => some k_ ≠ (.slice Ao23 t1080.length co23 : Value).ownBlock ∧ some k_ ≠ (.slice Ao30 t1086.length co30 : Value).ownBlock ∧ some k_ ≠ (.slice Ao37 t1093.length co37 : Value).ownBlock) (Kd.R_keptB (HO1102.out) hkp (fun k_ hk_ hs_ => (by first | exact (hk_.1.2) hs_ | (simp_all; done)))) (fun k_ hk_ => (by first | exact ⟨hk_.1.1.1.2, hk_.1.1.2, hk_.1.2⟩ | (simp_all; done)))); replace HB := Aside0.mk hb; (try clear hb); (try clear hkp); (try clear hy0)))
      (try simp only [Act.put, List.setIfInBounds_toArray, List.set_cons_zero, List.set_cons_succ])
      go_cut [65] (fun v65 wc => ∃ (kq : Nat) (x65_60 : Bool), v65 = .bool x65_60 ∧ Aside0 (laws_FnExactFindMatrix.j1 kq a1 t1083 x65_60 a0_0 l0_1 t1077 t1078 t1079 t1080 t1090 t1091 t1092 t1093 = some r) ∧ Aside0 (kq ≤ kj11) ∧ Aside0 (Kd.R (Kd.int .i64) 3 wc w.heap.size (fun k_ => some k_ ≠ ((.slice Ao30 t1086.length co30) : Value).ownBlock ∧ some k_ ≠ ((.slice Ao37 t1093.length co37) : Value).ownBlock) (.slice Ao23 t1080.length co23) t1080) ∧ Aside0 (Kd.R (Kd.int .i64) 3 wc w.heap.size (fun k_ => some k_ ≠ ((.slice Ao23 t1080.length co23) : Value).ownBlock ∧ some k_ ≠ ((.slice Ao37 t1093.length co37) : Value).ownBlock) (.slice Ao30 t1086.length co30) t1105) ∧ Aside0 (Kd.R (Kd.int .i64) 3 wc w.heap.size (fun k_ => some k_ ≠ ((.slice Ao23 t1080.length co23) : Value).ownBlock ∧ some k_ ≠ ((.slice Ao30 t1086.length co30) : Value).ownBlock) (.slice Ao37 t1093.length co37) t1093) ∧ Aside0 (wc.heap[gb1071]? = some (.cells #[.int .i64 a0_0, (.slice A0_1 l0_1.length c0_1)] 43 (0, 0))) ∧ Aside0 (wc.heap[gb1084]? = some (.cells #[.int .i64 t1077, .int .i64 t1078, .int .i64 t1079, (.slice Ao23 t1080.length co23)] 49 (0, 0))) ∧ Aside0 (wc.heap[gb1089]? = some (.cells #[.int .i64 t1085, (.slice Ao30 t1086.length co30)] 35 (0, 0))) ∧ Aside0 (wc.heap[gb1097]? = some (.cells #[.int .i64 t1090, .int .i64 t1091, .int .i64 t1092, (.slice Ao37 t1093.length co37)] 49 (0, 0))) ∧ Aside0 (Below w.heap.size w wc))
      case first =>
       have H := HC61.out
       clear HC61
       by_cases c71 : t1104 < 0
       ·rw [if_pos c71] at H
        have c71b0 := decide_eq_true c71
        clear c71
        (first | rw [c71b0] | (simp only [i64_w, i32_w]; rw [c71b0]) | skip)
        have H' := Aside0.mk H
        clear H
        go_wp2
        go_meet
        case rel => exact ⟨_, (true), Hof.F, H', ⟨by have := HJ11.out; first | omega | exact Nat.le_refl _⟩, ⟨Hof.Rw (Kd.R_mono HO_1085003.out (fun _ hk => (by first | exact ⟨hk.1, hk.2.1⟩ | (simp_all; done))))⟩, ⟨Hof.Rw (Kd.R_mono HO_1090001.out (fun _ hk => (by first | exact ⟨hk.1.1, hk.1.2⟩ | (simp_all; done))))⟩, ⟨Hof.Rw (Kd.R_mono HO_1098003.out (fun _ hk => (by first | exact ⟨hk.1, hk.2.1⟩ | (simp_all; done))))⟩, ⟨Hof.Bw BK1071.out⟩, ⟨Hof.Bw BK1084.out⟩, ⟨Hof.Bw BK1089.out⟩, ⟨Hof.Bw BK1097.out⟩, ⟨Hof.L⟩⟩
       ·rw [if_neg c71] at H
        have c71b0 : decide (t1104 < 0) = false := decide_eq_false c71
        clear c71
        (first | rw [c71b0] | (simp only [i64_w, i32_w]; rw [c71b0]) | skip)
        obtain ⟨t1106, A72, H⟩ := Hof.be H
        (try dsimp only at H)
        by_cases c73 : t1106 = true
        ·subst c73
         replace H : (laws_FnExactFindMatrix.j1 kj11 a1 t1083 (t1096 != t1083) a0_0 l0_1 t1077 t1078 t1079 t1080 t1090 t1091 t1092 t1093) = some r := by rw [if_pos rfl] at H; exact H
         have H' := Aside0.mk H
         clear H
         have hnb74 := NB1097_1071.out
         have hnc74 := NB1071_1097.out
         have hnb75 := NB1097_1084.out
         have hnc75 := NB1084_1097.out
         have hnb76 := NB1097_1089.out
         have hnc76 := NB1089_1097.out
         obtain ⟨hcz77_0, hcz77_1, hcz77_2, hcz77_3, hfz77_0, hfz77_1, hfz77_2, hfz77_3⟩ := Hof.blk4 BK1097.out
         have hnb78 := NB1084_1071.out
         have hnc78 := NB1071_1084.out
         have hnb79 := NB1084_1089.out
         have hnc79 := NB1089_1084.out
         obtain ⟨hcz80_0, hcz80_1, hcz80_2, hcz80_3, hfz80_0, hfz80_1, hfz80_2, hfz80_3⟩ := Hof.blk4 BK1084.out
         go_wp2_with (first | (go_at_call 40; (with_reducible refine (laws_eqMatrix.calls kj11 t1090 t1091 t1092 _ _ t1093 t1077 t1078 t1079 _ _ t1080 true _ ?side1 ?side2 ?side3 ?side4 A72.out).mono ?_); (case side1 => exact Hof.Cw ((Kd.R_reads' HO_1098003.out).2.2)); (case side2 => exact (Kd.R_reads' HO_1098003.out).2.1); (case side3 => exact Hof.Cw ((Kd.R_reads' HO_1085003.out).2.2)); (case side4 => exact (Kd.R_reads' HO_1085003.out).2.1); rintro e w81 ⟨rfl, hb⟩; replace HO_1085003 := Hof.rb HO_1085003 hb; replace HO_1090001 := Hof.rb HO_1090001 hb; replace HO_1098003 := Hof.rb HO_1098003 hb; replace HO1102 := Hof.rb HO1102 hb; replace BK1071 := Hof.bb BK1071 hb; replace BK1084 := Hof.bb BK1084 hb; replace BK1089 := Hof.bb BK1089 hb; replace BK1097 := Hof.bb BK1097 hb; replace HB := Aside0.mk (below_step Hof.L hb); (try clear hb); (try clear hb2); (try clear hk); (try clear hi)))
         go_meet
         case rel => exact ⟨_, ((t1096 != t1083)), Hof.F, H', ⟨by have := HJ11.out; first | omega | exact Nat.le_refl _⟩, ⟨Hof.Rw (Kd.R_mono HO_1085003.out (fun _ hk => (by first | exact ⟨hk.1, hk.2.1⟩ | (simp_all; done))))⟩, ⟨Hof.Rw (Kd.R_mono HO_1090001.out (fun _ hk => (by first | exact ⟨hk.1.1, hk.1.2⟩ | (simp_all; done))))⟩, ⟨Hof.Rw (Kd.R_mono HO_1098003.out (fun _ hk => (by first | exact ⟨hk.1, hk.2.1⟩ | (simp_all; done))))⟩, ⟨Hof.Bw BK1071.out⟩, ⟨Hof.Bw BK1084.out⟩, ⟨Hof.Bw BK1089.out⟩, ⟨Hof.Bw BK1097.out⟩, ⟨Hof.L⟩⟩
        ·replace c73 := Bool.eq_false_iff.mpr c73
         subst c73
         replace H : (laws_FnExactFindMatrix.j1 kj11 a1 t1083 true a0_0 l0_1 t1077 t1078 t1079 t1080 t1090 t1091 t1092 t1093) = some r := by rw [if_neg (show ¬ (false = true) by decide)] at H; exact H
         have H' := Aside0.mk H
         clear H
         have hnb82 := NB1097_1071.out
         have hnc82 := NB1071_1097.out
         have hnb83 := NB1097_1084.out
         have hnc83 := NB1084_1097.out
         have hnb84 := NB1097_1089.out
         have hnc84 := NB1089_1097.out
         obtain ⟨hcz85_0, hcz85_1, hcz85_2, hcz85_3, hfz85_0, hfz85_1, hfz85_2, hfz85_3⟩ := Hof.blk4 BK1097.out
         have hnb86 := NB1084_1071.out
         have hnc86 := NB1071_1084.out
         have hnb87 := NB1084_1089.out
         have hnc87 := NB1089_1084.out
         obtain ⟨hcz88_0, hcz88_1, hcz88_2, hcz88_3, hfz88_0, hfz88_1, hfz88_2, hfz88_3⟩ := Hof.blk4 BK1084.out
         go_wp2_with (first | (go_at_call 40; (with_reducible refine (laws_eqMatrix.calls kj11 t1090 t1091 t1092 _ _ t1093 t1077 t1078 t1079 _ _ t1080 false _ ?side1 ?side2 ?side3 ?side4 A72.out).mono ?_); (case side1 => exact Hof.Cw ((Kd.R_reads' HO_1098003.out).2.2)); (case side2 => exact (Kd.R_reads' HO_1098003.out).2.1); (case side3 => exact Hof.Cw ((Kd.R_reads' HO_1085003.out).2.2)); (case side4 => exact (Kd.R_reads' HO_1085003.out).2.1); rintro e w89 ⟨rfl, hb⟩; replace HO_1085003 := Hof.rb HO_1085003 hb; replace HO_1090001 := Hof.rb HO_1090001 hb; replace HO_1098003 := Hof.rb HO_1098003 hb; replace HO1102 := Hof.rb HO1102 hb; replace BK1071 := Hof.bb BK1071 hb; replace BK1084 := Hof.bb BK1084 hb; replace BK1089 := Hof.bb BK1089 hb; replace BK1097 := Hof.bb BK1097 hb; replace HB := Aside0.mk (below_step Hof.L hb); (try clear hb); (try clear hb2); (try clear hk); (try clear hi)))
         go_meet
         case rel => exact ⟨_, (true), Hof.F, H', ⟨by have := HJ11.out; first | omega | exact Nat.le_refl _⟩, ⟨Hof.Rw (Kd.R_mono HO_1085003.out (fun _ hk => (by first | exact ⟨hk.1, hk.2.1⟩ | (simp_all; done))))⟩, ⟨Hof.Rw (Kd.R_mono HO_1090001.out (fun _ hk => (by first | exact ⟨hk.1.1, hk.1.2⟩ | (simp_all; done))))⟩, ⟨Hof.Rw (Kd.R_mono HO_1098003.out (fun _ hk => (by first | exact ⟨hk.1, hk.2.1⟩ | (simp_all; done))))⟩, ⟨Hof.Bw BK1071.out⟩, ⟨Hof.Bw BK1084.out⟩, ⟨Hof.Bw BK1089.out⟩, ⟨Hof.Bw BK1097.out⟩, ⟨Hof.L⟩⟩
      case rest =>
       clear HC61
       obtain ⟨kq, x65_60, rfl, HA, HJ60, HO_1085003, HO_1090001, HO_1098003, BK1071, BK1084, BK1089, BK1097, HB⟩ := hcut
       have hl1090001_60 := (Kd.R_reads' HO_1090001.out).1
       rw [hl1090001_60] at HO_1090001
       (try simp only [hl1090001_60])
       (try simp only [hl1090001_60] at BK1071)
       (try simp only [hl1090001_60] at BK1084)
       (try simp only [hl1090001_60] at BK1089)
       (try simp only [hl1090001_60] at BK1097)
       (try simp only [hl1090001_60] at HO_1085003)
       (try simp only [hl1090001_60] at HO_1098003)
       cases kq with
       | zero => exact absurd HA.out (by simp [laws_FnExactFindMatrix.j1])
       | succ kj60 =>
        have H := HA.out
        clear HA
        simp only [laws_FnExactFindMatrix.j1] at H
        by_cases c90 : x65_60 = true
        ·subst c90
         replace H : (some false) = some r := by rw [if_pos rfl] at H; exact H
         obtain rfl := Option.some.inj H
         exact absurd hT.out (by decide)
        ·replace c90 := Bool.eq_false_iff.mpr c90
         subst c90
         replace H : ((laws_markMatrix.f kj60 t1090 t1091 t1092 t1093 1).bind fun bt1107 => ((laws_heldMatrix.f kj60 t1090 t1091 t1092 bt1107.2 1).bind fun t1109 => (if t1109 < 0 then (some false) else (if t1109 = bt1107.1 then ((laws_toMatroid.f kj60 a0_0 l0_1).bind fun bt1110 => ((impl_FindMatrix.f kj60 bt1110.1 bt1110.2 a1).bind fun bt1114 => ((laws_eqMatrix.f kj60 bt1114.1 bt1114.2.1 bt1114.2.2.1 bt1114.2.2.2.1 t1077 t1078 t1079 t1080).bind fun t1122 => (if t1122 = true then (laws_FnExactFindMatrix.j2 kj60 bt1107.1 (bt1114.2.2.2.2 != t1083) t1090 t1091 t1092 bt1107.2) else (laws_FnExactFindMatrix.j2 kj60 bt1107.1 true t1090 t1091 t1092 bt1107.2))))) else (some false))))) = some r := by rw [if_neg (show ¬ (false = true) by decide)] at H; exact H
         obtain ⟨⟨t1107, t1108⟩, A91, H⟩ := Hof.be H
         (try dsimp only at H)
         obtain ⟨t1109, A92, H⟩ := Hof.be H
         (try dsimp only at H)
         by_cases c93 : t1109 < 0
         ·rw [if_pos c93] at H
          have c93b0 := decide_eq_true c93
          clear c93
          obtain rfl := Option.some.inj H
          exact absurd hT.out (by decide)
         ·rw [if_neg c93] at H
          have c93b0 : decide (t1109 < 0) = false := decide_eq_false c93
          clear c93
          by_cases c94 : t1109 = t1107
          ·rw [if_pos c94] at H
           have c94b0 : (t1109 == t1107) = true := beq_iff_eq.mpr c94
           have c94b1 : (t1109 != t1107) = false := bne_eq_false_iff_eq.mpr c94
           clear c94
           obtain ⟨⟨t1110, t1111⟩, A95, H⟩ := Hof.be H
           (try dsimp only at H)
           obtain ⟨⟨t1114, t1115, t1116, t1117, t1120⟩, A96, H⟩ := Hof.be H
           (try dsimp only at H)
           have HC97 := Aside0.mk H
           clear H
           have hnb98 := NB1097_1071.out
           have hnc98 := NB1071_1097.out
           have hnb99 := NB1097_1084.out
           have hnc99 := NB1084_1097.out
           have hnb100 := NB1097_1089.out
           have hnc100 := NB1089_1097.out
           obtain ⟨hcz101_0, hcz101_1, hcz101_2, hcz101_3, hfz101_0, hfz101_1, hfz101_2, hfz101_3⟩ := Hof.blk4 BK1097.out
           go_upto_region 25 with (first | ((with_reducible refine gate_callee (f := 41) rfl ?_); refine Hof.gl (some 68) Try.func41 #[.agg #[.int .i64 t1090, .int .i64 t1091, .int .i64 t1092, .slice Ao37 t1093.length co37], .int .i64 1] ?_; (with_reducible refine (laws_markMatrix.calls kj60 t1090 t1091 t1092 (fun k_ => some k_ = (.slice Ao37 t1093.length co37 : Value).ownBlock) (.slice Ao37 t1093.length co37) t1093 1 t1107 t1108 w _ ?side1 ?side2 A91.out).mono ?_); (case side1 => repeat (first | (with_reducible first | exact HB.out | apply below_alloc | apply pw_below_drewN | apply below_drew1 | refine below_set ?_ GE1071.out | refine below_set ?_ GE1084.out | refine below_set ?_ GE1089.out | refine below_set ?_ GE1097.out) | exact HB.out)); (case side2 => exact Kd.R_tight rfl HO_1098003.out); rintro e w102 ⟨rfl, hy0, hb, hkp⟩; refine ⟨_, rfl, ?_⟩; replace HO_1085003 := Aside0.mk (Kd.R_mono (ok' := fun k_ => some k_ ≠ (.slice Ao30 t1105.length co30 : Value).ownBlock ∧ some k_ ≠ (.slice Ao37 t1093.length co37 : Value).ownBlock) (Kd.R_keptB (HO_1085003.out) hkp (fun k_ hk_ hs_ => (by first | exact (hk_.2) hs_ | (simp_all; done)))) (fun k_ hk_ => (by first | exact ⟨hk_.1.1, hk_.1.2⟩ | (simp_all; done)))); replace HO_1090001 := Aside0.mk (Kd.R_mono (ok' := fun k_ => some k_ ≠ (.slice Ao23 t1080.length co23 : Value).ownBlock ∧ some k_ ≠ (.slice Ao37 t1093.length co37 : Value).ownBlock) (Kd.R_keptB (HO_1090001.out) hkp (fun k_ hk_ hs_ => (by first | exact (hk_.2) hs_ | (simp_all; done)))) (fun k_ hk_ => (by first | exact ⟨hk_.1.1, hk_.1.2⟩ | (simp_all; done)))); replace BK1071 := Aside0.mk (blk_kept (Hof.Bw BK1071.out) hkp (fun hs_ => (fun e_ => (Kd.R_ne HO_1098003.out BK1071.out (by decide)) e_) hs_)); replace BK1084 := Aside0.mk (blk_kept (Hof.Bw BK1084.out) hkp (fun hs_ => (fun e_ => (Kd.R_ne HO_1098003.out BK1084.out (by decide)) e_) hs_)); replace BK1089 := Aside0.mk (blk_kept (Hof.Bw BK1089.out) hkp (fun hs_ => (fun e_ => (Kd.R_ne HO_1098003.out BK1089.out (by decide)) e_) hs_)); replace BK1097 := Aside0.mk (blk_kept (Hof.Bw BK1097.out) hkp (fun hs_ => (fun e_ => (Kd.R_ne HO_1098003.out BK1097.out (by decide)) e_) hs_)); replace HO_1098003 := Aside0.mk (Kd.R_reok rfl hy0 (fun k_ e_ => HO_1098003.out.1 k_ e_)); replace HB := Aside0.mk hb; (try clear hb); (try clear hkp); (try clear hy0); obtain ⟨hcz103_0, hcz103_1, hcz103_2, hcz103_3, hfz103_0, hfz103_1, hfz103_2, hfz103_3⟩ := Hof.blk4 BK1097.out) | ((with_reducible refine gate_callee (f := 42) rfl ?_); refine goesL_ (some 71) rfl rfl Try.func42 (by kernel_rfl) rfl #[.agg #[.int .i64 t1090, .int .i64 t1091, .int .i64 t1092, .slice Ao37 t1108.length co37], .int .i64 1] rfl (by (try simp only [List.map_toArray, List.map_cons, List.map_nil]); first | done | (rw [show t1108.length = t1093.length from (Kd.R_reads' HO_1098003.out).1.symm] <;> rfl) | rfl | (simp only [List.length_drop, List.length_take]; rfl)) ?_; (with_reducible refine (laws_heldMatrix.calls kj60 t1090 t1091 t1092 _ _ t1108 1 t1109 _ ?side1 ?side2 A92.out).mono ?_); (case side1 => exact Hof.Cw ((Kd.R_reads' HO_1098003.out).2.2)); (case side2 => rw [show t1108.length = t1093.length from (Kd.R_reads' HO_1098003.out).1.symm]; exact (Kd.R_reads' HO_1098003.out).2.1); rintro e w104 ⟨rfl, hb⟩; refine ⟨_, rfl, ?_⟩; replace HO_1085003 := Hof.rb HO_1085003 hb; replace HO_1090001 := Hof.rb HO_1090001 hb; replace HO_1098003 := Hof.rb HO_1098003 hb; replace BK1071 := Hof.bb BK1071 hb; replace BK1084 := Hof.bb BK1084 hb; replace BK1089 := Hof.bb BK1089 hb; replace BK1097 := Hof.bb BK1097 hb; replace HB := Aside0.mk (below_step Hof.L hb); (try clear hb); (try clear hb2); (try clear hk); (try clear hi); have hnb105 := NB1071_1084.out; have hnc105 := NB1084_1071.out; have hnb106 := NB1071_1089.out; have hnc106 := NB1089_1071.out; obtain ⟨hcz107_0, hcz107_1, hfz107_0, hfz107_1⟩ := Hof.blk2 BK1071.out) | ((with_reducible refine gate_callee (f := 32) rfl ?_); refine Hof.gl (some 79) Try.func32 #[.agg #[.int .i64 a0_0, .slice A0_1 l0_1.length c0_1]] ?_; (with_reducible refine (laws_toMatroid.calls kj60 a0_0 _ _ l0_1 t1110 t1111 _ ?side1 ?side2 A95.out).mono ?_); (case side1 => exact Hof.Cw (Kd.C_below HR0_1.out HB.out)); (case side2 => exact HC0_1.out); rintro e w108 ⟨v1112, rfl, ho0, hb⟩; refine ⟨_, rfl, ?_⟩; have HO1113 := Aside0.mk (Kd.R_lower (Kd.R_new' (Kd.R_new' (Kd.R_new' ho0 (Kd.R_lt (Hof.Rw HO_1085003.out))) (Kd.R_lt (Hof.Rw HO_1090001.out))) (Kd.R_lt (Hof.Rw HO_1098003.out))) (below_size Hof.L)); replace HO_1085003 := Aside0.mk (Kd.R_elder' (Hof.Rw HO_1085003.out) (Kd.R_base ho0) hb); replace HO_1090001 := Aside0.mk (Kd.R_elder' (Hof.Rw HO_1090001.out) (Kd.R_base ho0) hb); replace HO_1098003 := Aside0.mk (Kd.R_elder' (Hof.Rw HO_1098003.out) (Kd.R_base ho0) hb); replace BK1071 := Hof.bb BK1071 hb; replace BK1084 := Hof.bb BK1084 hb; replace BK1089 := Hof.bb BK1089 hb; replace BK1097 := Hof.bb BK1097 hb; replace HB := Aside0.mk (below_step Hof.L hb); (try clear hb); (try clear hb2); (try clear hk); (try clear hi); (try clear ho0); obtain ⟨Ao109, co109, eo109⟩ := Kd.R_slice HO1113.out; subst eo109) | ((with_reducible refine gate_callee (f := 39) rfl ?_); refine Hof.gl (some 81) Try.func39 #[.agg #[.int .i64 t1110, .slice Ao109 t1111.length co109], .int .i64 a1] ?_; (with_reducible refine (impl_FindMatrix.calls kj60 t1110 _ _ t1111 a1 t1114 t1115 t1116 t1117 t1120 _ ?side1 ?side2 A96.out).mono ?_); (case side1 => exact Hof.Cw ((Kd.R_reads' HO1113.out).2.2)); (case side2 => exact (Kd.R_reads' HO1113.out).2.1); rintro e w110 ⟨v1118, rfl, ho0, hb⟩; refine ⟨_, rfl, ?_⟩; have HO1119 := Aside0.mk (Kd.R_lower (Kd.R_new' (Kd.R_new' (Kd.R_new' (Kd.R_new' ho0 (Kd.R_lt (Hof.Rw HO_1085003.out))) (Kd.R_lt (Hof.Rw HO_1090001.out))) (Kd.R_lt (Hof.Rw HO_1098003.out))) (Kd.R_lt (Hof.Rw HO1113.out))) (below_size Hof.L)); replace HO_1085003 := Aside0.mk (Kd.R_elder' (Hof.Rw HO_1085003.out) (Kd.R_base ho0) hb); replace HO_1090001 := Aside0.mk (Kd.R_elder' (Hof.Rw HO_1090001.out) (Kd.R_base ho0) hb); replace HO_1098003 := Aside0.mk (Kd.R_elder' (Hof.Rw HO_1098003.out) (Kd.R_base ho0) hb); replace HO1113 := Aside0.mk (Kd.R_elder' (Hof.Rw HO1113.out) (Kd.R_base ho0) hb); replace BK1071 := Hof.bb BK1071 hb; replace BK1084 := Hof.bb BK1084 hb; replace BK1089 := Hof.bb BK1089 hb; replace BK1097 := Hof.bb BK1097 hb; replace HB := Aside0.mk (below_step Hof.L hb); (try clear hb); (try clear hb2); (try clear hk); (try clear hi); (try clear ho0)) | ((with_reducible refine gate_dst (N := 14) rfl ?_); refine Hof.bx 14 #[.int .i64 0, .int .i64 0, .int .i64 0, .slice none 0 0] 49 ?_; intro gb1121 hg w111 hbox hb; have n0_ := Hof.rb HO_1085003 hb; have n1_ := Hof.rb HO_1090001 hb; have n2_ := Hof.rb HO_1098003 hb; have n3_ := Hof.rb HO1113 hb; have n4_ := Hof.rb HO1119 hb; have n5_ := Hof.bb BK1071 hb; have n6_ := Hof.bb BK1084 hb; have n7_ := Hof.bb BK1089 hb; have n8_ := Hof.bb BK1097 hb; have n9_ := Aside0.mk (below_step Hof.L hb); have n10_ := Aside0.mk hbox; have n11_ := Hof.gL (w := w) hg Hof.L; have n12_ := Hof.gL (w := w) hg Hof.L; have n13_ := Hof.nl hg BK1071; have n14_ := Hof.ng hg BK1071; have n15_ := Hof.nl hg BK1084; have n16_ := Hof.ng hg BK1084; have n17_ := Hof.nl hg BK1089; have n18_ := Hof.ng hg BK1089; have n19_ := Hof.nl hg BK1097; have n20_ := Hof.ng hg BK1097; clear HO_1085003; clear HO_1090001; clear HO_1098003; clear HO1113; clear HO1119; clear BK1071; clear BK1084; clear BK1089; clear BK1097; clear HB; have HO_1085003 := n0_; have HO_1090001 := n1_; have HO_1098003 := n2_; have HO1113 := n3_; have HO1119 := n4_; have BK1071 := n5_; have BK1084 := n6_; have BK1089 := n7_; have BK1097 := n8_; have HB := n9_; have BK1121 := n10_; have GW1121 := n11_; have GE1121 := n12_; have NB1071_1121 := n13_; have NB1121_1071 := n14_; have NB1084_1121 := n15_; have NB1121_1084 := n16_; have NB1089_1121 := n17_; have NB1121_1089 := n18_; have NB1097_1121 := n19_; have NB1121_1097 := n20_; clear n0_ n1_ n2_ n3_ n4_ n5_ n6_ n7_ n8_ n9_ n10_ n11_ n12_ n13_ n14_ n15_ n16_ n17_ n18_ n19_ n20_; clear hb hbox hg; have hnb112 := NB1121_1071.out; have hnc112 := NB1071_1121.out; have hnb113 := NB1121_1084.out; have hnc113 := NB1084_1121.out; have hnb114 := NB1121_1089.out; have hnc114 := NB1089_1121.out; have hnb115 := NB1121_1097.out; have hnc115 := NB1097_1121.out; obtain ⟨hcz116_0, hcz116_1, hcz116_2, hcz116_3, hfz116_0, hfz116_1, hfz116_2, hfz116_3⟩ := Hof.blk4 BK1121.out; obtain ⟨Ao117, co117, eo117⟩ := Kd.R_slice HO1119.out; subst eo117))
           (try simp only [Act.put, List.setIfInBounds_toArray, List.set_cons_zero, List.set_cons_succ])
           go_cut [92] (fun v92 wc => ∃ (kq : Nat) (x92_96 : Bool), v92 = .bool x92_96 ∧ Aside0 (laws_FnExactFindMatrix.j2 kq t1107 x92_96 t1090 t1091 t1092 t1108 = some r) ∧ Aside0 (kq ≤ kj60) ∧ Aside0 (Kd.R (Kd.int .i64) 3 wc w.heap.size (fun k_ => some k_ ≠ ((.slice Ao30 t1105.length co30) : Value).ownBlock ∧ some k_ ≠ ((.slice Ao37 t1093.length co37) : Value).ownBlock ∧ some k_ ≠ ((.slice Ao117 t1117.length co117) : Value).ownBlock) (.slice Ao23 t1080.length co23) t1080) ∧ Aside0 (Kd.R (Kd.int .i64) 3 wc w.heap.size (fun k_ => some k_ ≠ ((.slice Ao23 t1080.length co23) : Value).ownBlock ∧ some k_ ≠ ((.slice Ao37 t1093.length co37) : Value).ownBlock ∧ some k_ ≠ ((.slice Ao117 t1117.length co117) : Value).ownBlock) (.slice Ao30 t1105.length co30) t1105) ∧ Aside0 (Kd.R (Kd.int .i64) 3 wc w.heap.size (fun k_ => some k_ ≠ ((.slice Ao23 t1080.length co23) : Value).ownBlock ∧ some k_ ≠ ((.slice Ao30 t1105.length co30) : Value).ownBlock ∧ some k_ ≠ ((.slice Ao117 t1117.length co117) : Value).ownBlock) (.slice Ao37 t1093.length co37) t1108) ∧ Aside0 (Kd.R (Kd.int .i64) 3 wc w.heap.size (fun k_ => some k_ ≠ ((.slice Ao23 t1080.length co23) : Value).ownBlock ∧ some k_ ≠ ((.slice Ao30 t1105.length co30) : Value).ownBlock ∧ some k_ ≠ ((.slice Ao37 t1093.length co37) : Value).ownBlock) (.slice Ao117 t1117.length co117) t1117) ∧ Aside0 (wc.heap[gb1071]? = some (.cells #[.int .i64 a0_0, (.slice A0_1 l0_1.length c0_1)] 43 (0, 0))) ∧ Aside0 (wc.heap[gb1084]? = some (.cells #[.int .i64 t1077, .int .i64 t1078, .int .i64 t1079, (.slice Ao23 t1080.length co23)] 49 (0, 0))) ∧ Aside0 (wc.heap[gb1089]? = some (.cells #[.int .i64 t1085, (.slice Ao30 t1105.length co30)] 35 (0, 0))) ∧ Aside0 (wc.heap[gb1097]? = some (.cells #[.int .i64 t1090, .int .i64 t1091, .int .i64 t1092, (.slice Ao37 t1093.length co37)] 49 (0, 0))) ∧ Aside0 (wc.heap[gb1121]? = some (.cells #[.int .i64 t1114, .int .i64 t1115, .int .i64 t1116, (.slice Ao117 t1117.length co117)] 49 (0, 0))) ∧ Aside0 (Below w.heap.size w wc))
           case first =>
            have H := HC97.out
            clear HC97
            obtain ⟨t1122, A118, H⟩ := Hof.be H
            (try dsimp only at H)
            by_cases c119 : t1122 = true
            ·subst c119
             replace H : (laws_FnExactFindMatrix.j2 kj60 t1107 (t1120 != t1083) t1090 t1091 t1092 t1108) = some r := by rw [if_pos rfl] at H; exact H
             have H' := Aside0.mk H
             clear H
             have hnb120 := NB1121_1071.out
             have hnc120 := NB1071_1121.out
             have hnb121 := NB1121_1084.out
             have hnc121 := NB1084_1121.out
             have hnb122 := NB1121_1089.out
             have hnc122 := NB1089_1121.out
             have hnb123 := NB1121_1097.out
             have hnc123 := NB1097_1121.out
             obtain ⟨hcz124_0, hcz124_1, hcz124_2, hcz124_3, hfz124_0, hfz124_1, hfz124_2, hfz124_3⟩ := Hof.blk4 BK1121.out
             have hnb125 := NB1084_1071.out
             have hnc125 := NB1071_1084.out
             have hnb126 := NB1084_1089.out
             have hnc126 := NB1089_1084.out
             have hnb127 := NB1084_1097.out
             have hnc127 := NB1097_1084.out
             obtain ⟨hcz128_0, hcz128_1, hcz128_2, hcz128_3, hfz128_0, hfz128_1, hfz128_2, hfz128_3⟩ := Hof.blk4 BK1084.out
             go_wp2_with (first | ((with_reducible refine gate_callee (f := 40) rfl ?_); refine Hof.gl (some 86) Try.func40 #[.agg #[.int .i64 t1114, .int .i64 t1115, .int .i64 t1116, .slice Ao117 t1117.length co117], .agg #[.int .i64 t1077, .int .i64 t1078, .int .i64 t1079, .slice Ao23 t1080.length co23]] ?_; (with_reducible refine (laws_eqMatrix.calls kj60 t1114 t1115 t1116 _ _ t1117 t1077 t1078 t1079 _ _ t1080 true _ ?side1 ?side2 ?side3 ?side4 A118.out).mono ?_); (case side1 => refine (Kd.R_reads' (e := 3) (base := w.heap.size) (ok := fun k_ => ((((True ∧ some k_ ≠ (.slice Ao23 t1080.length co23 : Value).ownBlock) ∧ some k_ ≠ (.slice Ao30 t1105.length co30 : Value).ownBlock) ∧ some k_ ≠ (.slice Ao37 t1093.length co37 : Value).ownBlock) ∧ some k_ ≠ (.slice Ao109 t1111.length co109 : Value).ownBlock)) (n := t1117.length) (c := co117) ?_).2.2; exact (Hof.Rw ((Kd.R_mono (Kd.R_far (p := ⟨gb1121, 3, none⟩) (Kd.R_far (p := ⟨gb1121, 2, none⟩) (Kd.R_far (p := ⟨gb1121, 1, none⟩) (Kd.R_far (p := ⟨gb1121, 0, none⟩) (Kd.R_types HO1119.out BK1121.out (by decide)) (fun _ hk => hk.2) (.int .i64 t1114)) (fun _ hk => hk.2) (.int .i64 t1115)) (fun _ hk => hk.2) (.int .i64 t1116)) (fun _ hk => hk.2) (.slice Ao117 t1117.length co117)) (fun _ h_ => h_.1))))); (case side2 => exact (Kd.R_reads' HO1119.out).2.1); (case side3 => refine (Kd.R_reads' (e := 3) (base := w.heap.size) (ok := fun k_ => (((some k_ ≠ (.slice Ao30 t1105.length co30 : Value).ownBlock ∧ some k_ ≠ (.slice Ao37 t1093.length co37 : Value).ownBlock) ∧ some k_ ≠ (.slice Ao109 t1111.length co109 : Value).ownBlock) ∧ some k_ ≠ (.slice Ao117 t1117.length co117 : Value).ownBlock)) (n := t1080.length) (c := co23) ?_).2.2; exact (Hof.Rw ((Kd.R_mono (Kd.R_far (p := ⟨gb1121, 3, none⟩) (Kd.R_far (p := ⟨gb1121, 2, none⟩) (Kd.R_far (p := ⟨gb1121, 1, none⟩) (Kd.R_far (p := ⟨gb1121, 0, none⟩) (Kd.R_types HO_1085003.out BK1121.out (by decide)) (fun _ hk => hk.2) (.int .i64 t1114)) (fun _ hk => hk.2) (.int .i64 t1115)) (fun _ hk => hk.2) (.int .i64 t1116)) (fun _ hk => hk.2) (.slice Ao117 t1117.length co117)) (fun _ h_ => h_.1))))); (case side4 => exact (Kd.R_reads' HO_1085003.out).2.1); rintro e w129 ⟨rfl, hb⟩; refine ⟨_, rfl, ?_⟩; have n0_ := Aside0.mk (Kd.R_below (Hof.Rw ((Kd.R_mono (Kd.R_far (p := ⟨gb1121, 3, none⟩) (Kd.R_far (p := ⟨gb1121, 2, none⟩) (Kd.R_far (p := ⟨gb1121, 1, none⟩) (Kd.R_far (p := ⟨gb1121, 0, none⟩) (Kd.R_types HO_1085003.out BK1121.out (by decide)) (fun _ hk => hk.2) (.int .i64 t1114)) (fun _ hk => hk.2) (.int .i64 t1115)) (fun _ hk => hk.2) (.int .i64 t1116)) (fun _ hk => hk.2) (.slice Ao117 t1117.length co117)) (fun _ h_ => h_.1)))) hb); have n1_ := Aside0.mk (Kd.R_below (Hof.Rw ((Kd.R_mono (Kd.R_far (p := ⟨gb1121, 3, none⟩) (Kd.R_far (p := ⟨gb1121, 2, none⟩) (Kd.R_far (p := ⟨gb1121, 1, none⟩) (Kd.R_far (p := ⟨gb1121, 0, none⟩) (Kd.R_types HO_1090001.out BK1121.out (by decide)) (fun _ hk => hk.2) (.int .i64 t1114)) (fun _ hk => hk.2) (.int .i64 t1115)) (fun _ hk => hk.2) (.int .i64 t1116)) (fun _ hk => hk.2) (.slice Ao117 t1117.length co117)) (fun _ h_ => h_.1)))) hb); have n2_ := Aside0.mk (Kd.R_below (Hof.Rw ((Kd.R_mono (Kd.R_far (p := ⟨gb1121, 3, none⟩) (Kd.R_far (p := ⟨gb1121, 2, none⟩) (Kd.R_far (p := ⟨gb1121, 1, none⟩) (Kd.R_far (p := ⟨gb1121, 0, none⟩) (Kd.R_types HO_1098003.out BK1121.out (by decide)) (fun _ hk => hk.2) (.int .i64 t1114)) (fun _ hk => hk.2) (.int .i64 t1115)) (fun _ hk => hk.2) (.int .i64 t1116)) (fun _ hk => hk.2) (.slice Ao117 t1117.length co117)) (fun _ h_ => h_.1)))) hb); have n3_ := Aside0.mk (Kd.R_below (Hof.Rw ((Kd.R_mono (Kd.R_far (p := ⟨gb1121, 3, none⟩) (Kd.R_far (p := ⟨gb1121, 2, none⟩) (Kd.R_far (p := ⟨gb1121, 1, none⟩) (Kd.R_far (p := ⟨gb1121, 0, none⟩) (Kd.R_types HO1113.out BK1121.out (by decide)) (fun _ hk => hk.2) (.int .i64 t1114)) (fun _ hk => hk.2) (.int .i64 t1115)) (fun _ hk => hk.2) (.int .i64 t1116)) (fun _ hk => hk.2) (.slice Ao117 t1117.length co117)) (fun _ h_ => h_.1)))) hb); have n4_ := Aside0.mk (Kd.R_below (Hof.Rw ((Kd.R_mono (Kd.R_far (p := ⟨gb1121, 3, none⟩) (Kd.R_far (p := ⟨gb1121, 2, none⟩) (Kd.R_far (p := ⟨gb1121, 1, none⟩) (Kd.R_far (p := ⟨gb1121, 0, none⟩) (Kd.R_types HO1119.out BK1121.out (by decide)) (fun _ hk => hk.2) (.int .i64 t1114)) (fun _ hk => hk.2) (.int .i64 t1115)) (fun _ hk => hk.2) (.int .i64 t1116)) (fun _ hk => hk.2) (.slice Ao117 t1117.length co117)) (fun _ h_ => h_.1)))) hb); have n5_ := Aside0.mk (blk_below (g := gb1071) (o := .cells #[.int .i64 a0_0, .slice A0_1 l0_1.length c0_1] 43 (0, 0)) Hof.B hb); have n6_ := Aside0.mk (blk_below (g := gb1084) (o := .cells #[.int .i64 t1077, .int .i64 t1078, .int .i64 t1079, .slice Ao23 t1080.length co23] 49 (0, 0)) Hof.B hb); have n7_ := Aside0.mk (blk_below (g := gb1089) (o := .cells #[.int .i64 t1085, .slice Ao30 t1105.length co30] 35 (0, 0)) Hof.B hb); have n8_ := Aside0.mk (blk_below (g := gb1097) (o := .cells #[.int .i64 t1090, .int .i64 t1091, .int .i64 t1092, .slice Ao37 t1093.length co37] 49 (0, 0)) Hof.B hb); have n9_ := Aside0.mk (blk_below (g := gb1121) (o := .cells #[.int .i64 t1114, .int .i64 t1115, .int .i64 t1116, .slice Ao117 t1117.length co117] 49 (0, 0)) Hof.B hb); have n10_ := Aside0.mk (below_step Hof.L hb); clear HO_1085003; clear HO_1090001; clear HO_1098003; clear HO1113; clear HO1119; clear BK1071; clear BK1084; clear BK1089; clear BK1097; clear BK1121; clear HB; have HO_1085003 := n0_; have HO_1090001 := n1_; have HO_1098003 := n2_; have HO1113 := n3_; have HO1119 := n4_; have BK1071 := n5_; have BK1084 := n6_; have BK1089 := n7_; have BK1097 := n8_; have BK1121 := n9_; have HB := n10_; clear n0_ n1_ n2_ n3_ n4_ n5_ n6_ n7_ n8_ n9_ n10_; (try clear hb); (try clear hb2); (try clear hk); (try clear hi)))
             go_meet
             case rel => exact ⟨_, ((t1120 != t1083)), Hof.F, H', ⟨by have := HJ11.out; have := HJ60.out; first | omega | exact Nat.le_refl _⟩, ⟨by (try simp only [hl1090001_60]); (with_reducible repeat (first | apply Kd.R_alloc | apply Kd.R_drewN | apply Kd.R_drew)); exact Kd.R_mono HO_1085003.out (fun _ hk => ⟨hk.1.1.1, ⟨hk.1.1.2, hk.2⟩⟩)⟩, ⟨by (try simp only [hl1090001_60]); (with_reducible repeat (first | apply Kd.R_alloc | apply Kd.R_drewN | apply Kd.R_drew)); exact Kd.R_mono HO_1090001.out (fun _ hk => ⟨hk.1.1.1, ⟨hk.1.1.2, hk.2⟩⟩)⟩, ⟨by (try simp only [hl1090001_60]); (with_reducible repeat (first | apply Kd.R_alloc | apply Kd.R_drewN | apply Kd.R_drew)); exact Kd.R_mono HO_1098003.out (fun _ hk => ⟨hk.1.1.1, ⟨hk.1.1.2, hk.2⟩⟩)⟩, ⟨by (try simp only [hl1090001_60]); (with_reducible repeat (first | apply Kd.R_alloc | apply Kd.R_drewN | apply Kd.R_drew)); exact Kd.R_mono HO1119.out (fun _ hk => ⟨hk.1.1.1.2, ⟨hk.1.1.2, hk.1.2⟩⟩)⟩, ⟨by (try simp only [hl1090001_60]); (with_reducible repeat (first | refine blk_drewN ?_ _ | refine blk_drew ?_ | refine blk_alloc ?_ _)); exact BK1071.out⟩, ⟨by (try simp only [hl1090001_60]); (with_reducible repeat (first | refine blk_drewN ?_ _ | refine blk_drew ?_ | refine blk_alloc ?_ _)); exact BK1084.out⟩, ⟨by (try simp only [hl1090001_60]); (with_reducible repeat (first | refine blk_drewN ?_ _ | refine blk_drew ?_ | refine blk_alloc ?_ _)); exact BK1089.out⟩, ⟨by (try simp only [hl1090001_60]); (with_reducible repeat (first | refine blk_drewN ?_ _ | refine blk_drew ?_ | refine blk_alloc ?_ _)); exact BK1097.out⟩, ⟨by (try simp only [hl1090001_60]); (with_reducible repeat (first | refine blk_drewN ?_ _ | refine blk_drew ?_ | refine blk_alloc ?_ _)); exact BK1121.out⟩, ⟨Hof.L⟩⟩
            ·replace c119 := Bool.eq_false_iff.mpr c119
             subst c119
             replace H : (laws_FnExactFindMatrix.j2 kj60 t1107 true t1090 t1091 t1092 t1108) = some r := by rw [if_neg (show ¬ (false = true) by decide)] at H; exact H
             have H' := Aside0.mk H
             clear H
             have hnb130 := NB1121_1071.out
             have hnc130 := NB1071_1121.out
             have hnb131 := NB1121_1084.out
             have hnc131 := NB1084_1121.out
             have hnb132 := NB1121_1089.out
             have hnc132 := NB1089_1121.out
             have hnb133 := NB1121_1097.out
             have hnc133 := NB1097_1121.out
             obtain ⟨hcz134_0, hcz134_1, hcz134_2, hcz134_3, hfz134_0, hfz134_1, hfz134_2, hfz134_3⟩ := Hof.blk4 BK1121.out
             have hnb135 := NB1084_1071.out
             have hnc135 := NB1071_1084.out
             have hnb136 := NB1084_1089.out
             have hnc136 := NB1089_1084.out
             have hnb137 := NB1084_1097.out
             have hnc137 := NB1097_1084.out
             obtain ⟨hcz138_0, hcz138_1, hcz138_2, hcz138_3, hfz138_0, hfz138_1, hfz138_2, hfz138_3⟩ := Hof.blk4 BK1084.out
             go_wp2_with (first | ((with_reducible refine gate_callee (f := 40) rfl ?_); refine Hof.gl (some 86) Try.func40 #[.agg #[.int .i64 t1114, .int .i64 t1115, .int .i64 t1116, .slice Ao117 t1117.length co117], .agg #[.int .i64 t1077, .int .i64 t1078, .int .i64 t1079, .slice Ao23 t1080.length co23]] ?_; (with_reducible refine (laws_eqMatrix.calls kj60 t1114 t1115 t1116 _ _ t1117 t1077 t1078 t1079 _ _ t1080 false _ ?side1 ?side2 ?side3 ?side4 A118.out).mono ?_); (case side1 => refine (Kd.R_reads' (e := 3) (base := w.heap.size) (ok := fun k_ => ((((True ∧ some k_ ≠ (.slice Ao23 t1080.length co23 : Value).ownBlock) ∧ some k_ ≠ (.slice Ao30 t1105.length co30 : Value).ownBlock) ∧ some k_ ≠ (.slice Ao37 t1093.length co37 : Value).ownBlock) ∧ some k_ ≠ (.slice Ao109 t1111.length co109 : Value).ownBlock)) (n := t1117.length) (c := co117) ?_).2.2; exact (Hof.Rw ((Kd.R_mono (Kd.R_far (p := ⟨gb1121, 3, none⟩) (Kd.R_far (p := ⟨gb1121, 2, none⟩) (Kd.R_far (p := ⟨gb1121, 1, none⟩) (Kd.R_far (p := ⟨gb1121, 0, none⟩) (Kd.R_types HO1119.out BK1121.out (by decide)) (fun _ hk => hk.2) (.int .i64 t1114)) (fun _ hk => hk.2) (.int .i64 t1115)) (fun _ hk => hk.2) (.int .i64 t1116)) (fun _ hk => hk.2) (.slice Ao117 t1117.length co117)) (fun _ h_ => h_.1))))); (case side2 => exact (Kd.R_reads' HO1119.out).2.1); (case side3 => refine (Kd.R_reads' (e := 3) (base := w.heap.size) (ok := fun k_ => (((some k_ ≠ (.slice Ao30 t1105.length co30 : Value).ownBlock ∧ some k_ ≠ (.slice Ao37 t1093.length co37 : Value).ownBlock) ∧ some k_ ≠ (.slice Ao109 t1111.length co109 : Value).ownBlock) ∧ some k_ ≠ (.slice Ao117 t1117.length co117 : Value).ownBlock)) (n := t1080.length) (c := co23) ?_).2.2; exact (Hof.Rw ((Kd.R_mono (Kd.R_far (p := ⟨gb1121, 3, none⟩) (Kd.R_far (p := ⟨gb1121, 2, none⟩) (Kd.R_far (p := ⟨gb1121, 1, none⟩) (Kd.R_far (p := ⟨gb1121, 0, none⟩) (Kd.R_types HO_1085003.out BK1121.out (by decide)) (fun _ hk => hk.2) (.int .i64 t1114)) (fun _ hk => hk.2) (.int .i64 t1115)) (fun _ hk => hk.2) (.int .i64 t1116)) (fun _ hk => hk.2) (.slice Ao117 t1117.length co117)) (fun _ h_ => h_.1))))); (case side4 => exact (Kd.R_reads' HO_1085003.out).2.1); rintro e w139 ⟨rfl, hb⟩; refine ⟨_, rfl, ?_⟩; have n0_ := Aside0.mk (Kd.R_below (Hof.Rw ((Kd.R_mono (Kd.R_far (p := ⟨gb1121, 3, none⟩) (Kd.R_far (p := ⟨gb1121, 2, none⟩) (Kd.R_far (p := ⟨gb1121, 1, none⟩) (Kd.R_far (p := ⟨gb1121, 0, none⟩) (Kd.R_types HO_1085003.out BK1121.out (by decide)) (fun _ hk => hk.2) (.int .i64 t1114)) (fun _ hk => hk.2) (.int .i64 t1115)) (fun _ hk => hk.2) (.int .i64 t1116)) (fun _ hk => hk.2) (.slice Ao117 t1117.length co117)) (fun _ h_ => h_.1)))) hb); have n1_ := Aside0.mk (Kd.R_below (Hof.Rw ((Kd.R_mono (Kd.R_far (p := ⟨gb1121, 3, none⟩) (Kd.R_far (p := ⟨gb1121, 2, none⟩) (Kd.R_far (p := ⟨gb1121, 1, none⟩) (Kd.R_far (p := ⟨gb1121, 0, none⟩) (Kd.R_types HO_1090001.out BK1121.out (by decide)) (fun _ hk => hk.2) (.int .i64 t1114)) (fun _ hk => hk.2) (.int .i64 t1115)) (fun _ hk => hk.2) (.int .i64 t1116)) (fun _ hk => hk.2) (.slice Ao117 t1117.length co117)) (fun _ h_ => h_.1)))) hb); have n2_ := Aside0.mk (Kd.R_below (Hof.Rw ((Kd.R_mono (Kd.R_far (p := ⟨gb1121, 3, none⟩) (Kd.R_far (p := ⟨gb1121, 2, none⟩) (Kd.R_far (p := ⟨gb1121, 1, none⟩) (Kd.R_far (p := ⟨gb1121, 0, none⟩) (Kd.R_types HO_1098003.out BK1121.out (by decide)) (fun _ hk => hk.2) (.int .i64 t1114)) (fun _ hk => hk.2) (.int .i64 t1115)) (fun _ hk => hk.2) (.int .i64 t1116)) (fun _ hk => hk.2) (.slice Ao117 t1117.length co117)) (fun _ h_ => h_.1)))) hb); have n3_ := Aside0.mk (Kd.R_below (Hof.Rw ((Kd.R_mono (Kd.R_far (p := ⟨gb1121, 3, none⟩) (Kd.R_far (p := ⟨gb1121, 2, none⟩) (Kd.R_far (p := ⟨gb1121, 1, none⟩) (Kd.R_far (p := ⟨gb1121, 0, none⟩) (Kd.R_types HO1113.out BK1121.out (by decide)) (fun _ hk => hk.2) (.int .i64 t1114)) (fun _ hk => hk.2) (.int .i64 t1115)) (fun _ hk => hk.2) (.int .i64 t1116)) (fun _ hk => hk.2) (.slice Ao117 t1117.length co117)) (fun _ h_ => h_.1)))) hb); have n4_ := Aside0.mk (Kd.R_below (Hof.Rw ((Kd.R_mono (Kd.R_far (p := ⟨gb1121, 3, none⟩) (Kd.R_far (p := ⟨gb1121, 2, none⟩) (Kd.R_far (p := ⟨gb1121, 1, none⟩) (Kd.R_far (p := ⟨gb1121, 0, none⟩) (Kd.R_types HO1119.out BK1121.out (by decide)) (fun _ hk => hk.2) (.int .i64 t1114)) (fun _ hk => hk.2) (.int .i64 t1115)) (fun _ hk => hk.2) (.int .i64 t1116)) (fun _ hk => hk.2) (.slice Ao117 t1117.length co117)) (fun _ h_ => h_.1)))) hb); have n5_ := Aside0.mk (blk_below (g := gb1071) (o := .cells #[.int .i64 a0_0, .slice A0_1 l0_1.length c0_1] 43 (0, 0)) Hof.B hb); have n6_ := Aside0.mk (blk_below (g := gb1084) (o := .cells #[.int .i64 t1077, .int .i64 t1078, .int .i64 t1079, .slice Ao23 t1080.length co23] 49 (0, 0)) Hof.B hb); have n7_ := Aside0.mk (blk_below (g := gb1089) (o := .cells #[.int .i64 t1085, .slice Ao30 t1105.length co30] 35 (0, 0)) Hof.B hb); have n8_ := Aside0.mk (blk_below (g := gb1097) (o := .cells #[.int .i64 t1090, .int .i64 t1091, .int .i64 t1092, .slice Ao37 t1093.length co37] 49 (0, 0)) Hof.B hb); have n9_ := Aside0.mk (blk_below (g := gb1121) (o := .cells #[.int .i64 t1114, .int .i64 t1115, .int .i64 t1116, .slice Ao117 t1117.length co117] 49 (0, 0)) Hof.B hb); have n10_ := Aside0.mk (below_step Hof.L hb); clear HO_1085003; clear HO_1090001; clear HO_1098003; clear HO1113; clear HO1119; clear BK1071; clear BK1084; clear BK1089; clear BK1097; clear BK1121; clear HB; have HO_1085003 := n0_; have HO_1090001 := n1_; have HO_1098003 := n2_; have HO1113 := n3_; have HO1119 := n4_; have BK1071 := n5_; have BK1084 := n6_; have BK1089 := n7_; have BK1097 := n8_; have BK1121 := n9_; have HB := n10_; clear n0_ n1_ n2_ n3_ n4_ n5_ n6_ n7_ n8_ n9_ n10_; (try clear hb); (try clear hb2); (try clear hk); (try clear hi)))
             go_meet
             case rel => exact ⟨_, (true), Hof.F, H', ⟨by have := HJ11.out; have := HJ60.out; first | omega | exact Nat.le_refl _⟩, ⟨by (try simp only [hl1090001_60]); (with_reducible repeat (first | apply Kd.R_alloc | apply Kd.R_drewN | apply Kd.R_drew)); exact Kd.R_mono HO_1085003.out (fun _ hk => ⟨hk.1.1.1, ⟨hk.1.1.2, hk.2⟩⟩)⟩, ⟨by (try simp only [hl1090001_60]); (with_reducible repeat (first | apply Kd.R_alloc | apply Kd.R_drewN | apply Kd.R_drew)); exact Kd.R_mono HO_1090001.out (fun _ hk => ⟨hk.1.1.1, ⟨hk.1.1.2, hk.2⟩⟩)⟩, ⟨by (try simp only [hl1090001_60]); (with_reducible repeat (first | apply Kd.R_alloc | apply Kd.R_drewN | apply Kd.R_drew)); exact Kd.R_mono HO_1098003.out (fun _ hk => ⟨hk.1.1.1, ⟨hk.1.1.2, hk.2⟩⟩)⟩, ⟨by (try simp only [hl1090001_60]); (with_reducible repeat (first | apply Kd.R_alloc | apply Kd.R_drewN | apply Kd.R_drew)); exact Kd.R_mono HO1119.out (fun _ hk => ⟨hk.1.1.1.2, ⟨hk.1.1.2, hk.1.2⟩⟩)⟩, ⟨by (try simp only [hl1090001_60]); (with_reducible repeat (first | refine blk_drewN ?_ _ | refine blk_drew ?_ | refine blk_alloc ?_ _)); exact BK1071.out⟩, ⟨by (try simp only [hl1090001_60]); (with_reducible repeat (first | refine blk_drewN ?_ _ | refine blk_drew ?_ | refine blk_alloc ?_ _)); exact BK1084.out⟩, ⟨by (try simp only [hl1090001_60]); (with_reducible repeat (first | refine blk_drewN ?_ _ | refine blk_drew ?_ | refine blk_alloc ?_ _)); exact BK1089.out⟩, ⟨by (try simp only [hl1090001_60]); (with_reducible repeat (first | refine blk_drewN ?_ _ | refine blk_drew ?_ | refine blk_alloc ?_ _)); exact BK1097.out⟩, ⟨by (try simp only [hl1090001_60]); (with_reducible repeat (first | refine blk_drewN ?_ _ | refine blk_drew ?_ | refine blk_alloc ?_ _)); exact BK1121.out⟩, ⟨Hof.L⟩⟩
           case rest =>
            clear HC97
            obtain ⟨kq, x92_96, rfl, HA, HJ96, HO_1085003, HO_1090001, HO_1098003, HO_1122003, BK1071, BK1084, BK1089, BK1097, BK1121, HB⟩ := hcut
            have hl1098003_96 := (Kd.R_reads' HO_1098003.out).1
            rw [hl1098003_96] at HO_1098003
            (try simp only [hl1098003_96])
            (try simp only [hl1098003_96] at BK1071)
            (try simp only [hl1098003_96] at BK1084)
            (try simp only [hl1098003_96] at BK1089)
            (try simp only [hl1098003_96] at BK1097)
            (try simp only [hl1098003_96] at BK1121)
            (try simp only [hl1098003_96] at HO_1085003)
            (try simp only [hl1098003_96] at HO_1090001)
            (try simp only [hl1098003_96] at HO_1122003)
            cases kq with
            | zero => exact absurd HA.out (by simp [laws_FnExactFindMatrix.j2])
            | succ kj96 =>
             have H := HA.out
             clear HA
             simp only [laws_FnExactFindMatrix.j2] at H
             by_cases c140 : x92_96 = true
             ·subst c140
              replace H : (some false) = some r := by rw [if_pos rfl] at H; exact H
              obtain rfl := Option.some.inj H
              exact absurd hT.out (by decide)
             ·replace c140 := Bool.eq_false_iff.mpr c140
              subst c140
              replace H : ((laws_heldMatrix.f kj96 t1090 t1091 t1092 t1108 1).bind fun t1123 => (if t1123 < 0 then (some false) else (if t1123 = t1107 then (some true) else (some false)))) = some r := by rw [if_neg (show ¬ (false = true) by decide)] at H; exact H
              obtain ⟨t1123, A141, H⟩ := Hof.be H
              (try dsimp only at H)
              by_cases c142 : t1123 < 0
              ·rw [if_pos c142] at H
               have c142b0 := decide_eq_true c142
               clear c142
               obtain rfl := Option.some.inj H
               exact absurd hT.out (by decide)
              ·rw [if_neg c142] at H
               have c142b0 : decide (t1123 < 0) = false := decide_eq_false c142
               clear c142
               by_cases c143 : t1123 = t1107
               ·rw [if_pos c143] at H
                have c143b0 : (t1123 == t1107) = true := beq_iff_eq.mpr c143
                have c143b1 : (t1123 != t1107) = false := bne_eq_false_iff_eq.mpr c143
                clear c143
                obtain rfl := Option.some.inj H
                have hnb144 := NB1097_1071.out
                have hnc144 := NB1071_1097.out
                have hnb145 := NB1097_1084.out
                have hnc145 := NB1084_1097.out
                have hnb146 := NB1097_1089.out
                have hnc146 := NB1089_1097.out
                have hnb147 := NB1097_1121.out
                have hnc147 := NB1121_1097.out
                obtain ⟨hcz148_0, hcz148_1, hcz148_2, hcz148_3, hfz148_0, hfz148_1, hfz148_2, hfz148_3⟩ := Hof.blk4 BK1097.out
                go_wp2_with (first | ((with_reducible refine gate_callee (f := 42) rfl ?_); refine Hof.gl (some 95) Try.func42 #[.agg #[.int .i64 t1090, .int .i64 t1091, .int .i64 t1092, .slice Ao37 t1108.length co37], .int .i64 1] ?_; (with_reducible refine (laws_heldMatrix.calls kj96 t1090 t1091 t1092 _ _ t1108 1 t1123 _ ?side1 ?side2 A141.out).mono ?_); (case side1 => exact Hof.Cw ((Kd.R_reads' HO_1098003.out).2.2)); (case side2 => exact (Kd.R_reads' HO_1098003.out).2.1); rintro e w149 ⟨rfl, hb⟩; refine ⟨_, rfl, ?_⟩; replace HO_1085003 := Hof.rb HO_1085003 hb; replace HO_1090001 := Hof.rb HO_1090001 hb; replace HO_1098003 := Hof.rb HO_1098003 hb; replace HO_1122003 := Hof.rb HO_1122003 hb; replace BK1071 := Hof.bb BK1071 hb; replace BK1084 := Hof.bb BK1084 hb; replace BK1089 := Hof.bb BK1089 hb; replace BK1097 := Hof.bb BK1097 hb; replace BK1121 := Hof.bb BK1121 hb; replace HB := Aside0.mk (below_step Hof.L hb); (try clear hb); (try clear hb2); (try clear hk); (try clear hi)))
                go_ret
                exact ⟨Hof.E, Hof.L⟩
               ·rw [if_neg c143] at H
                have c143b0 : (t1123 == t1107) = false := beq_eq_false_iff_ne.mpr c143
                have c143b1 : (t1123 != t1107) = true := bne_iff_ne.mpr c143
                obtain rfl := Option.some.inj H
                exact absurd hT.out (by decide)
          ·rw [if_neg c94] at H
           have c94b0 : (t1109 == t1107) = false := beq_eq_false_iff_ne.mpr c94
           have c94b1 : (t1109 != t1107) = true := bne_iff_ne.mpr c94
           obtain rfl := Option.some.inj H
           exact absurd hT.out (by decide)
     ·replace c59 := Bool.eq_false_iff.mpr c59
      subst c59
      replace H : (some false) = some r := by rw [if_neg (show ¬ (false = true) by decide)] at H; exact H
      obtain rfl := Option.some.inj H
      exact absurd hT.out (by decide)
end Go.Proofs.Ytmpodackojmojaa.Pr
end
section
namespace Go.Proofs.Ytmpodackojmojaa.Gen
open Go.RowKit Go.Proofs.YtmpodackojmojaaW.PrintWords Go.Proofs.YtmpodackojmojaaW.PrintMore
theorem w64 {i : Int} (h0 : -9223372036854775808 ≤ i) (h1 : i ≤ 9223372036854775807) : wrap64 i = i := by
 unfold wrap64
 omega
theorem w64s (i : Nat) (h1 : i < 9223372036854775807) : wrap64 ((i : Int) + 1) = ((i + 1 : Nat) : Int) := by
 unfold wrap64
 omega
theorem rd_nat (xs : List Int) (i : Nat) : rd xs (i : Int) = xs.getD i 0 := rfl
theorem count_loop {σ γ : Type} (L : Nat → σ → Int → Option γ) (n : Nat) (step : Nat → σ → σ) (P : Nat → σ → Prop) (K : Nat)
  (hstep : ∀ k i s, K ≤ k → i < n → P i s → L (k + 1) s (i : Int) = L k (step i s) ((i + 1 : Nat) : Int) ∧ P (i + 1) (step i s)) :
  ∀ (d i : Nat) (s : σ) (k : Nat), i + d = n → K + d ≤ k → P i s → ∃ s', L k s (i : Int) = L (k - d) s' (n : Int) ∧ P n s' ∧ s' = (List.range' i d).foldl (fun s j => step j s) s := by
 intro d
 induction d with
 | zero =>
  intro i s k hi hk hP
  obtain rfl : i = n := by omega
  exact ⟨s, by simp, hP, by simp⟩
 | succ d ih =>
  intro i s k hi hk hP
  obtain ⟨k, rfl⟩ : ∃ m, k = m + 1 := ⟨k - 1, by omega⟩
  obtain ⟨h1, h2⟩ := hstep k i s (by omega) (by omega) hP
  obtain ⟨s', h3, h4, h5⟩ := ih (i + 1) (step i s) k (by omega) (by omega) h2
  refine ⟨s', ?_, h4, ?_⟩
  ·rw [h1, h3]
   congr 1
   omega
  ·rw [h5, List.range'_succ]
   rfl
theorem fill_loop {β γ : Type} (L : Nat → List β → Int → Option γ) (f : Nat → β) (K n : Nat)
  (hstep : ∀ k i ys, K ≤ k → i < n → ys.length = n → L (k + 1) ys (i : Int) = L k (ys.set i (f i)) ((i + 1 : Nat) : Int))
  (ys : List β) (hy : ys.length = n) (k : Nat) (hk : K + n ≤ k) : L k ys 0 = L (k - n) ((List.range n).map f) (n : Int) := by
 obtain ⟨s', h1, h2, _⟩ := count_loop L n (fun i s => s.set i (f i)) (fun i s => s.length = n ∧ ∀ j, j < i → s[j]? = some (f j)) K
  (fun k i s hK hi hP => ⟨hstep k i s hK hi hP.1, by simpa using hP.1, fun j hj => by
   rw [List.getElem?_set]
   by_cases e : i = j
   ·subst e
    rw [if_pos rfl, if_pos (by omega)]
   ·rw [if_neg e]
    exact hP.2 j (by omega)⟩) n 0 ys k (by omega) hk ⟨hy, fun j hj => by omega⟩
 refine h1.trans ?_
 congr 1
 apply List.ext_getElem?
 intro j
 by_cases hj : j < n
 ·rw [h2.2 j hj]
  simp [hj]
 ·rw [List.getElem?_eq_none (by omega), List.getElem?_eq_none (by simp; omega)]
theorem map_getD {α β : Type} (xs : List α) (d : α) (g : α → β) : (List.range xs.length).map (fun i => g (xs.getD i d)) = xs.map g := by
 apply List.ext_getElem?
 intro j
 by_cases hj : j < xs.length
 ·simp [hj, List.getD]
 ·simp [hj]
theorem map_getD' {α : Type} (xs : List α) (d : α) : (List.range xs.length).map (fun i => xs.getD i d) = xs := by
 have := map_getD xs d id
 simpa using this
theorem all_loop (L : Nat → Int → Option Bool) (n : Nat) (p : Nat → Bool) (K : Nat) (last : Bool)
  (hstep : ∀ k i, K ≤ k → i < n → L (k + 1) (i : Int) = if p i = true then L k ((i + 1 : Nat) : Int) else some false)
  (hend : ∀ k, K ≤ k → L (k + 1) (n : Int) = some last) :
  ∀ (d i k : Nat), i + d = n → K + d < k → L k (i : Int) = some ((List.range' i d).all p && last) := by
 intro d
 induction d with
 | zero =>
  intro i k hi hk
  obtain rfl : i = n := by omega
  obtain ⟨k, rfl⟩ : ∃ m, k = m + 1 := ⟨k - 1, by omega⟩
  simp [hend k (by omega)]
 | succ d ih =>
  intro i k hi hk
  obtain ⟨k, rfl⟩ : ∃ m, k = m + 1 := ⟨k - 1, by omega⟩
  rw [hstep k i (by omega) (by omega), List.range'_succ]
  by_cases h : p i = true
  ·rw [if_pos h, ih (i + 1) k (by omega) (by omega)]
   simp [h]
  ·rw [if_neg h]
   simp [h]
theorem ev_loop {σ γ : Type} (L : Nat → σ → Int → Option γ) (n : Nat) (step : Nat → σ → σ) (P : Nat → σ → Prop) (r : γ)
  (hround : ∀ i s, i < n → P i s → P (i + 1) (step i s) ∧ (Ev (fun k => L k (step i s) ((i + 1 : Nat) : Int)) r → Ev (fun k => L k s (i : Int)) r)) :
  ∀ (d i : Nat) (s : σ), i + d = n → P i s → (P n ((List.range' i d).foldl (fun s j => step j s) s) → Ev (fun k => L k ((List.range' i d).foldl (fun s j => step j s) s) (n : Int)) r) → Ev (fun k => L k s (i : Int)) r := by
 intro d
 induction d with
 | zero =>
  intro i s hi hP h
  obtain rfl : i = n := by omega
  exact h (by simpa using hP)
 | succ d ih =>
  intro i s hi hP h
  obtain ⟨h1, h2⟩ := hround i s (by omega) hP
  refine h2 (ih (i + 1) (step i s) (by omega) h1 ?_)
  rw [List.range'_succ] at h
  exact h
theorem ev_at {γ : Type} {g : Nat → Option γ} {r : γ} (K : Nat) (h : ∀ k, K ≤ k → g k = some r) : Ev g r := ⟨K, h⟩
theorem foldl_append (p : Nat → Bool) (l : List Nat) (acc : List Int) : l.foldl (fun s j => if p j = true then s ++ [(j : Int)] else s) acc = acc ++ (l.filter p).map (fun j : Nat => (j : Int)) := by
 induction l generalizing acc with
 | nil => simp
 | cons a l ih =>
  rw [List.foldl_cons, ih]
  by_cases h : p a = true
  ·simp [h]
  ·simp [h]
theorem foldl_id {σ : Type} (f : σ → Nat → σ) (l : List Nat) (s : σ) (h : ∀ j ∈ l, ∀ s, f s j = s) : l.foldl f s = s := by
 induction l generalizing s with
 | nil => rfl
 | cons a l ih =>
  rw [List.foldl_cons, h a (by simp), ih _ (fun j hj => h j (by simp [hj]))]
theorem foldl_more {σ : Type} (f : σ → Nat → σ) (m d : Nat) (s : σ) (h : ∀ j, m ≤ j → ∀ s, f s j = s) : (List.range' 0 (m + d)).foldl f s = (List.range' 0 m).foldl f s := by
 rw [← List.range'_append_1, List.foldl_append]
 refine foldl_id _ _ _ fun j hj => h j ?_
 have := List.mem_range'_1.1 hj
 omega
theorem all_yes (l : List Nat) : (l.all fun _ => true) = true := List.all_eq_true.2 (fun _ _ => rfl)
end Go.Proofs.Ytmpodackojmojaa.Gen
end
section
namespace Go.Proofs.Ytmpodackojmojaa.Base
open Go.RowKit Go.Proofs.Ytmpodackojmojaa.Pr Go.Proofs.YtmpodackojmojaaW.PrintWords Go.Proofs.YtmpodackojmojaaW.PrintLast Go.Proofs.YtmpodackojmojaaW.PrintMore
theorem toIntS (xs : List Int) (hn : xs.length ≤ 1048576) (k : Nat) (hk : xs.length < k) : laws_toIntS.f k xs = some xs := by
 unfold laws_toIntS.f
 rw [if_pos (by omega), if_pos (by omega)]
 rw [Gen.fill_loop (fun k ys i => laws_toIntS.l0 k xs ys i) (fun i => xs.getD i 0) 0 xs.length (fun k i ys _ hi hy => by
  simp only [laws_toIntS.l0]
  rw [if_pos (by omega), if_pos (by omega), if_pos (by omega), Gen.w64s i (by omega), Gen.rd_nat]
  simp) _ (by simp) k (by omega), Gen.map_getD']
 obtain ⟨m, hm⟩ : ∃ m, k - xs.length = m + 1 := ⟨k - xs.length - 1, by omega⟩
 rw [hm]
 simp only [laws_toIntS.l0]
 rw [if_neg (by omega)]
theorem eqIntS (xs : List Int) (hn : xs.length ≤ 1048576) (k : Nat) (hk : xs.length < k) : laws_eqIntS.f k xs xs = some true := by
 unfold laws_eqIntS.f
 rw [if_pos rfl]
 have := Gen.all_loop (fun k i => laws_eqIntS.l0 k xs xs i) xs.length (fun _ => true) 0 true (fun k i _ hi => by
  simp only [laws_eqIntS.l0]
  rw [if_pos (by omega), if_pos (by omega), if_pos (by omega), if_pos (by trivial), Gen.w64s i (by omega), if_pos (by trivial)]) (fun k _ => by
  simp only [laws_eqIntS.l0]
  rw [if_neg (by omega)]) xs.length 0 k (by omega) (by omega)
 simpa [Gen.all_yes] using this
theorem szIntS (xs : List Int) (left : Int) (hm : xs.length ≤ maxLen) (h1 : left ≤ 1048576) (h0 : 0 ≤ left) : ∃ z, laws_szIntS.f xs left = some z ∧ (z < 0 ∨ (xs.length ≤ 1048576 ∧ 0 ≤ z ∧ z ≤ left)) := by
 unfold maxLen at hm
 unfold laws_szIntS.f
 rw [Gen.w64 (by omega) (by omega)]
 by_cases h : left - (xs.length : Int) < 0
 ·exact ⟨-1, by rw [if_pos h], .inl (by omega)⟩
 ·exact ⟨_, by rw [if_neg h], .inr ⟨by omega, by omega, by omega⟩⟩
theorem szMatroid (n : Int) (xs : List Int) (left : Int) (hm : xs.length ≤ maxLen) (h1 : left ≤ 1048576) (h0 : 0 ≤ left) : ∃ z, laws_szMatroid.f n xs left = some z ∧ (z < 0 ∨ (xs.length ≤ 1048576 ∧ 0 ≤ z ∧ z ≤ left)) := by
 obtain ⟨z, hz, h⟩ := szIntS xs left hm h1 h0
 unfold laws_szMatroid.f
 rw [hz]
 simp only [Option.bind_some]
 by_cases hn : z < 0
 ·exact ⟨-1, by rw [if_pos hn], .inl (by omega)⟩
 ·exact ⟨z, by rw [if_neg hn], h⟩
theorem toIntSE (xs : List Int) (hn : xs.length ≤ 1048576) : Ev (fun k => laws_toIntS.f k xs) xs := Gen.ev_at (xs.length + 1) (fun k hk => toIntS xs hn k (by omega))
theorem eqIntSE (xs : List Int) (hn : xs.length ≤ 1048576) : Ev (fun k => laws_eqIntS.f k xs xs) true := Gen.ev_at (xs.length + 1) (fun k hk => eqIntS xs hn k (by omega))
theorem toMatroid (n : Int) (xs : List Int) (hn : xs.length ≤ 1048576) : Ev (fun k => laws_toMatroid.f k n xs) (n, xs) := by
 unfold laws_toMatroid.f
 exact Ev.bind (toIntSE xs hn) (Ev.now _)
theorem eqMatroid (n : Int) (xs : List Int) (hn : xs.length ≤ 1048576) : Ev (fun k => laws_eqMatroid.f k n xs n xs) true := by
 unfold laws_eqMatroid.f
 simp only [if_true]
 exact Ev.bind (eqIntSE xs hn) (Ev.now _)
def marks (a : Int) (n : Nat) : List Int := (List.range n).map fun i : Nat => a + (i : Int)
theorem marks_length (a : Int) (n : Nat) : (marks a n).length = n := by simp [marks]
theorem markIntS (xs : List Int) (a : Int) (hn : xs.length ≤ 1048576) (h0 : 0 ≤ a) (h1 : a ≤ 2 ^ 50) : Ev (fun k => laws_markIntS.f k xs a) (a + (xs.length : Int), marks a xs.length) := by
 unfold laws_markIntS.f
 refine Gen.ev_loop (fun k (s : List Int × Int) i => laws_markIntS.l0 k s.1 s.2 i) xs.length (fun i s => (s.1.set i s.2, s.2 + 1)) (fun i s => s.2 = a + (i : Int) ∧ s.1.length = xs.length ∧ ∀ j, j < i → s.1[j]? = some (a + (j : Int))) _ (fun i s hi hP => ⟨?_, fun h => Ev.step (fun k => ?_) h⟩) xs.length 0 (xs, a) (by omega) ⟨by simp, rfl, fun j hj => by omega⟩ (fun hP => Gen.ev_at 1 (fun k hk => ?_))
 ·obtain ⟨p1, p2, p3⟩ := hP
  refine ⟨by show s.2 + 1 = _; rw [p1]; push_cast; omega, by simpa using p2, fun j hj => ?_⟩
  show (s.1.set i s.2)[j]? = _
  rw [List.getElem?_set]
  by_cases e : i = j
  ·subst e
   rw [if_pos rfl, if_pos (by omega), p1]
  ·rw [if_neg e]
   exact p3 j (by omega)
 ·obtain ⟨p1, p2, p3⟩ := hP
  simp only [laws_markIntS.l0]
  rw [if_pos (by omega), if_pos (by omega), Gen.w64s i (by omega), Gen.w64 (i := s.2 + 1) (by omega) (by omega)]
  rfl
 ·obtain ⟨q, rfl⟩ : ∃ q, k = q + 1 := ⟨k - 1, by omega⟩
  generalize (List.range' 0 xs.length).foldl (fun (s : List Int × Int) j => (s.1.set j s.2, s.2 + 1)) (xs, a) = s at hP ⊢
  obtain ⟨p1, p2, p3⟩ := hP
  simp only [laws_markIntS.l0]
  rw [if_neg (by omega), p1]
  congr 2
  apply List.ext_getElem?
  intro j
  by_cases hj : j < xs.length
  ·rw [p3 j hj]
   simp [marks, hj]
  ·rw [List.getElem?_eq_none (by omega), List.getElem?_eq_none (by rw [marks_length]; omega)]
theorem heldIntS (a : Int) (n : Nat) (hn : n ≤ 1048576) (h0 : 0 ≤ a) (h1 : a ≤ 2 ^ 50) : Ev (fun k => laws_heldIntS.f k (marks a n) a) (a + (n : Int)) := by
 unfold laws_heldIntS.f
 refine Gen.ev_loop (fun k (s : Int) i => laws_heldIntS.l0 k (marks a n) s i) n (fun i s => s + 1) (fun i s => s = a + (i : Int)) _ (fun i s hi hP => ⟨?_, fun h => Ev.step (fun k => ?_) h⟩) n 0 a (by omega) (by simp) (fun hP => Gen.ev_at 1 (fun k hk => ?_))
 ·show s + 1 = _
  rw [hP]; push_cast; omega
 ·have hr : rd (marks a n) (i : Int) = s := by
   rw [Gen.rd_nat, hP]
   simp [marks, List.getD, hi]
  simp only [laws_heldIntS.l0]
  rw [if_pos (by rw [marks_length]; omega), if_pos (by omega), if_pos hr, Gen.w64s i (by omega), Gen.w64 (i := s + 1) (by omega) (by omega)]
 ·obtain ⟨q, rfl⟩ : ∃ q, k = q + 1 := ⟨k - 1, by omega⟩
  simp only [laws_heldIntS.l0]
  rw [if_neg (by rw [marks_length]; omega), hP]
theorem markMatroid (n : Int) (xs : List Int) (a : Int) (hn : xs.length ≤ 1048576) (h0 : 0 ≤ a) (h1 : a ≤ 2 ^ 50) : Ev (fun k => laws_markMatroid.f k n xs a) (a + (xs.length : Int), marks a xs.length) := by
 unfold laws_markMatroid.f
 exact Ev.bind (markIntS xs a hn h0 h1) (Ev.now _)
end Go.Proofs.Ytmpodackojmojaa.Base
end
section
namespace Go.Proofs.Ytmpodackojmojaa.Lin
def sm (f : Nat → Int) : Nat → Int
 | 0 => 0
 | n + 1 => sm f n + f n
theorem sm_congr {f g : Nat → Int} : ∀ n, (∀ j, j < n → f j = g j) → sm f n = sm g n
 | 0, _ => rfl
 | n + 1, h => by
  show sm f n + f n = sm g n + g n
  rw [sm_congr n (fun j hj => h j (by omega)), h n (by omega)]
theorem sm_add (f g : Nat → Int) : ∀ n, sm (fun j => f j + g j) n = sm f n + sm g n
 | 0 => rfl
 | n + 1 => by
  show sm (fun j => f j + g j) n + (f n + g n) = sm f n + f n + (sm g n + g n)
  rw [sm_add f g n]
  omega
theorem sm_mul (a : Int) (f : Nat → Int) : ∀ n, sm (fun j => a * f j) n = a * sm f n
 | 0 => by simp [sm]
 | n + 1 => by
  show sm (fun j => a * f j) n + a * f n = a * (sm f n + f n)
  rw [sm_mul a f n, Int.mul_add]
theorem sm_sub (f g : Nat → Int) : ∀ n, sm (fun j => f j - g j) n = sm f n - sm g n
 | 0 => rfl
 | n + 1 => by
  show sm (fun j => f j - g j) n + (f n - g n) = sm f n + f n - (sm g n + g n)
  rw [sm_sub f g n]
  omega
theorem sm_zero : ∀ n, sm (fun _ => 0) n = 0
 | 0 => rfl
 | n + 1 => by
  show sm (fun _ => 0) n + 0 = 0
  rw [sm_zero n]
  rfl
theorem sm_at (k : Nat) (v : Int) : ∀ n, sm (fun j => if j = k then v else 0) n = if k < n then v else 0
 | 0 => by simp [sm]
 | n + 1 => by
  show sm (fun j => if j = k then v else 0) n + (if n = k then v else 0) = _
  rw [sm_at k v n]
  by_cases h : k < n
  ·rw [if_pos h, if_neg (by omega), if_pos (by omega), Int.add_zero]
  ·rw [if_neg h]
   by_cases e : n = k
   ·rw [if_pos e, if_pos (by omega), Int.zero_add]
   ·rw [if_neg e, if_neg (by omega), Int.zero_add]
theorem sm_swap (f : Nat → Nat → Int) (n : Nat) : ∀ m, sm (fun e => sm (fun i => f i e) n) m = sm (fun i => sm (fun e => f i e) m) n
 | 0 => (sm_zero n).symm
 | m + 1 => by
  show sm (fun e => sm (fun i => f i e) n) m + sm (fun i => f i m) n = sm (fun i => sm (fun e => f i e) m + f i m) n
  rw [sm_swap f n m, sm_add]
theorem sm_dvd {p : Int} {f : Nat → Int} : ∀ n, (∀ j, j < n → p ∣ f j) → p ∣ sm f n
 | 0, _ => Int.dvd_zero p
 | n + 1, h => Int.dvd_add (sm_dvd n fun j hj => h j (by omega)) (h n (by omega))
def cd (S : Nat → Bool) : Nat → Nat
 | 0 => 0
 | n + 1 => cd S n + if S n = true then 1 else 0
theorem cd_congr {S T : Nat → Bool} : ∀ n, (∀ j, j < n → S j = T j) → cd S n = cd T n
 | 0, _ => rfl
 | n + 1, h => by
  show cd S n + _ = cd T n + _
  rw [cd_congr n (fun j hj => h j (by omega)), h n (by omega)]
theorem cd_pos {S : Nat → Bool} : ∀ n, 0 < cd S n → ∃ j, j < n ∧ S j = true
 | 0, h => absurd h (Nat.lt_irrefl 0)
 | n + 1, h => by
  by_cases e : S n = true
  ·exact ⟨n, by omega, e⟩
  ·have h' : 0 < cd S n := by
    have h2 : 0 < cd S n + if S n = true then 1 else 0 := h
    rw [if_neg e] at h2
    exact h2
   obtain ⟨j, hj, hs⟩ := cd_pos n h'
   exact ⟨j, by omega, hs⟩
theorem cd_less {S : Nat → Bool} (k : Nat) (hk : S k = true) : ∀ n, cd (fun j => S j && !decide (j = k)) n + (if k < n then 1 else 0) = cd S n
 | 0 => by simp [cd]
 | n + 1 => by
  have ih := cd_less k hk n
  show cd _ n + (if (S n && !decide (n = k)) = true then 1 else 0) + (if k < n + 1 then 1 else 0) = cd S n + if S n = true then 1 else 0
  by_cases e : n = k
  ·subst e
   rw [if_neg (show ¬ n < n by omega)] at ih
   rw [hk, if_neg (by simp), if_pos (by omega), if_pos rfl]
   omega
  ·have e1 : (S n && !decide (n = k)) = S n := by simp [e]
   rw [e1]
   by_cases h : k < n
   ·rw [if_pos h] at ih
    rw [if_pos (show k < n + 1 by omega)]
    omega
   ·rw [if_neg h] at ih
    rw [if_neg (show ¬ k < n + 1 by omega)]
    omega
structure Pr (p : Int) : Prop where
 mul : ∀ a b : Int, p ∣ a * b → p ∣ a ∨ p ∣ b
 one : ¬ p ∣ 1
theorem pr2 : Pr 2 := by
 refine ⟨fun a b h => ?_, by decide⟩
 have h' := Int.emod_eq_zero_of_dvd h
 rw [Int.mul_emod] at h'
 rcases Int.emod_two_eq a with e | e <;> rcases Int.emod_two_eq b with f | f <;> rw [e, f] at h' <;> simp at h' <;> first | exact .inl (Int.dvd_of_emod_eq_zero e) | exact .inr (Int.dvd_of_emod_eq_zero f)
theorem pr3 : Pr 3 := by
 refine ⟨fun a b h => ?_, by decide⟩
 have h' := Int.emod_eq_zero_of_dvd h
 rw [Int.mul_emod] at h'
 have ea : a % 3 = 0 ∨ a % 3 = 1 ∨ a % 3 = 2 := by omega
 have eb : b % 3 = 0 ∨ b % 3 = 1 ∨ b % 3 = 2 := by omega
 rcases ea with e | e | e <;> rcases eb with f | f | f <;> rw [e, f] at h' <;> simp at h' <;> first | exact .inl (Int.dvd_of_emod_eq_zero e) | exact .inr (Int.dvd_of_emod_eq_zero f)
def Zr (p : Int) (N n : Nat) (R : Nat → Bool) (A : Nat → Nat → Int) (c : Nat → Int) : Prop := ∀ i, i < N → R i = true → p ∣ sm (fun j => A i j * c j) n
theorem solve {p : Int} (hp : Pr p) (n : Nat) : ∀ (N : Nat) (R S : Nat → Bool) (A : Nat → Nat → Int), cd R N < cd S n →
  ∃ c : Nat → Int, (∀ j, S j = false → c j = 0) ∧ Zr p N n R A c ∧ ∃ j, j < n ∧ S j = true ∧ ¬ p ∣ c j := by
 intro N
 induction N with
 | zero =>
  intro R S A h
  obtain ⟨j, hj, hs⟩ := cd_pos n (Nat.lt_of_le_of_lt (Nat.zero_le _) h)
  refine ⟨fun i => if i = j then 1 else 0, fun i hi => ?_, fun i hi => absurd hi (by omega), j, hj, hs, ?_⟩
  ·by_cases e : i = j
   ·subst e
    rw [hs] at hi
    cases hi
   ·exact if_neg e
  ·simp only [if_true]
   exact hp.one
 | succ N ih =>
  intro R S A h
  have h1 : cd R N + (if R N = true then 1 else 0) < cd S n := h
  by_cases hR : R N = true
  ·rw [if_pos hR] at h1
   by_cases hall : ∀ j, j < n → S j = true → p ∣ A N j
   ·obtain ⟨c, hc1, hc2, hc3⟩ := ih R S A (by omega)
    refine ⟨c, hc1, fun i hi hr => ?_, hc3⟩
    by_cases e : i = N
    ·subst e
     refine sm_dvd n fun j hj => ?_
     by_cases hs : S j = true
     ·exact Int.dvd_mul_of_dvd_left (hall j hj hs)
     ·rw [hc1 j (by simpa using hs), Int.mul_zero]
      exact Int.dvd_zero p
    ·exact hc2 i (by omega) hr
   ·have hex : ∃ k, k < n ∧ S k = true ∧ ¬ p ∣ A N k := Classical.byContradiction fun hn => hall fun j hj hs => Classical.byContradiction fun hd => hn ⟨j, hj, hs, hd⟩
    obtain ⟨k, hk, hS, hA⟩ := hex
    have hcd := cd_less k hS n
    rw [if_pos hk] at hcd
    obtain ⟨y, hy1, hy2, j0, hj0, hs0, hy3⟩ := ih R (fun j => S j && !decide (j = k)) (fun i j => A i j * A N k - A i k * A N j) (by omega)
    have hyk : y k = 0 := hy1 k (by simp)
    have key : ∀ i, sm (fun j => A i j * (if j = k then - sm (fun j => A N j * y j) n else A N k * y j)) n = A N k * sm (fun j => A i j * y j) n - A i k * sm (fun j => A N j * y j) n := by
     intro i
     have e1 : sm (fun j => A i j * (if j = k then - sm (fun j => A N j * y j) n else A N k * y j)) n = sm (fun j => A N k * (A i j * y j) + (if j = k then - (A i k * sm (fun j => A N j * y j) n) else 0)) n := by
      refine sm_congr n fun j hj => ?_
      by_cases e : j = k
      ·subst e
       rw [if_pos rfl, if_pos rfl, hyk, Int.mul_neg]
       simp
      ·rw [if_neg e, if_neg e, Int.add_zero, Int.mul_left_comm]
     rw [e1, sm_add, sm_mul, sm_at, if_pos hk]
     omega
    refine ⟨fun j => if j = k then - sm (fun j => A N j * y j) n else A N k * y j, fun j hj => ?_, fun i hi hr => ?_, j0, hj0, ?_, ?_⟩
    ·by_cases e : j = k
     ·subst e
      rw [hS] at hj
      cases hj
     ·show (if j = k then _ else A N k * y j) = 0
      rw [if_neg e, hy1 j (by simp [hj]), Int.mul_zero]
    ·rw [key i]
     by_cases e : i = N
     ·subst e
      rw [Int.sub_self]
      exact Int.dvd_zero p
     ·have h2 := hy2 i (by omega) hr
      have e2 : sm (fun j => (A i j * A N k - A i k * A N j) * y j) n = A N k * sm (fun j => A i j * y j) n - A i k * sm (fun j => A N j * y j) n := by
       rw [← sm_mul, ← sm_mul, Int.sub_eq_add_neg, ← Int.neg_one_mul, ← sm_mul, ← sm_add]
       refine sm_congr n fun j _ => ?_
       grind
      rw [← e2]
      exact h2
    ·simp only [Bool.and_eq_true] at hs0
     exact hs0.1
    ·have e : j0 ≠ k := by
      rintro rfl
      simp at hs0
     simp only [if_neg e]
     intro hd
     rcases hp.mul _ _ hd with h3 | h3
     ·exact hA h3
     ·exact hy3 h3
  ·rw [if_neg hR] at h1
   obtain ⟨c, hc1, hc2, hc3⟩ := ih R S A (by omega)
   refine ⟨c, hc1, fun i hi hr => ?_, hc3⟩
   by_cases e : i = N
   ·subst e
    exact absurd hr hR
   ·exact hc2 i (by omega) hr
def Indep (p : Int) (N n : Nat) (A : Nat → Nat → Int) (S : Nat → Bool) : Prop := ∀ c : Nat → Int, (∀ j, S j = false → c j = 0) → Zr p N n (fun _ => true) A c → ∀ j, j < n → p ∣ c j
theorem Indep.sub {p : Int} {N n : Nat} {A : Nat → Nat → Int} {S T : Nat → Bool} (h : Indep p N n A T) (hs : ∀ j, S j = true → T j = true) : Indep p N n A S := fun c h1 h2 => h c (fun j hj => h1 j (by
 cases e : S j with
 | false => rfl
 | true => rw [hs j e] at hj; cases hj)) h2
theorem Indep.dep {p : Int} {N n : Nat} {A : Nat → Nat → Int} {S : Nat → Bool} (h : Indep p N n A S) {e : Nat} (he : e < n) (hS : S e = false) (hn : ¬ Indep p N n A (fun j => S j || decide (j = e))) :
  ∃ (D : Int) (C : Nat → Int), ¬ p ∣ D ∧ (∀ j, S j = false → C j = 0) ∧ ∀ i, i < N → p ∣ A i e * D + sm (fun j => A i j * C j) n := by
 unfold Indep at hn
 have hex : ∃ c : Nat → Int, (∀ j, (S j || decide (j = e)) = false → c j = 0) ∧ Zr p N n (fun _ => true) A c ∧ ¬ ∀ j, j < n → p ∣ c j := Classical.byContradiction fun hx => hn fun c h1 h2 => Classical.byContradiction fun h3 => hx ⟨c, h1, h2, h3⟩
 obtain ⟨c, h1, h2, h3⟩ := hex
 have hc1 : ∀ j, S j = false → (fun j => if j = e then 0 else c j) j = 0 := fun j hj => by
  show (if j = e then 0 else c j) = 0
  by_cases ej : j = e
  ·exact if_pos ej
  ·rw [if_neg ej]
   exact h1 j (by simp [hj, ej])
 have hsum : ∀ i, sm (fun j => A i j * c j) n = A i e * c e + sm (fun j => A i j * (if j = e then 0 else c j)) n := fun i => by
  have e1 : sm (fun j => A i j * c j) n = sm (fun j => (if j = e then A i e * c e else 0) + A i j * (if j = e then 0 else c j)) n := by
   refine sm_congr n fun j _ => ?_
   by_cases ej : j = e
   ·subst ej
    simp
   ·simp [ej]
  rw [e1, sm_add, sm_at, if_pos he]
 refine ⟨c e, fun j => if j = e then 0 else c j, fun hd => h3 ?_, hc1, fun i hi => ?_⟩
 ·have hz : Zr p N n (fun _ => true) A (fun j => if j = e then 0 else c j) := fun i hi _ => by
   have h4 := h2 i hi rfl
   rw [hsum i] at h4
   exact (Int.dvd_add_right (Int.dvd_mul_of_dvd_right hd)).1 h4
  intro j hj
  have := h _ hc1 hz j hj
  by_cases ej : j = e
  ·subst ej
   exact hd
  ·simpa [ej] using this
 ·rw [← hsum i]
  exact h2 i hi rfl
theorem Indep.aug {p : Int} (hp : Pr p) {N n : Nat} {A : Nat → Nat → Int} {S T : Nat → Bool} (hS : Indep p N n A S) (hT : Indep p N n A T) (hlt : cd S n < cd T n) :
  ∃ e, e < n ∧ T e = true ∧ S e = false ∧ Indep p N n A (fun j => S j || decide (j = e)) := by
 refine Classical.byContradiction fun hno => ?_
 have hdep : ∀ e, ∃ (D : Int) (C : Nat → Int), ¬ p ∣ D ∧ (∀ j, S j = false → C j = 0) ∧ (e < n → T e = true → ∀ i, i < N → p ∣ A i e * D + sm (fun j => A i j * C j) n) := by
  intro e
  by_cases he : e < n ∧ T e = true
  ·by_cases hs : S e = true
   ·refine ⟨1, fun j => if j = e then -1 else 0, hp.one, fun j hj => ?_, fun _ _ i _ => ?_⟩
    ·by_cases ej : j = e
     ·subst ej
      rw [hs] at hj
      cases hj
     ·exact if_neg ej
    ·have e1 : sm (fun j => A i j * (if j = e then -1 else 0)) n = sm (fun j => if j = e then - A i e else 0) n := by
      refine sm_congr n fun j _ => ?_
      by_cases ej : j = e
      ·subst ej
       simp
      ·simp [ej]
     rw [e1, sm_at, if_pos he.1, Int.mul_one, Int.add_right_neg]
     exact Int.dvd_zero p
   ·have hs' : S e = false := by simpa using hs
    obtain ⟨D, C, h1, h2, h3⟩ := hS.dep he.1 hs' (fun hi => hno ⟨e, he.1, he.2, hs', hi⟩)
    exact ⟨D, C, h1, h2, fun _ _ => h3⟩
  ·exact ⟨1, fun _ => 0, hp.one, fun _ _ => rfl, fun h1 h2 => absurd ⟨h1, h2⟩ he⟩
 obtain ⟨D, hdep⟩ := Classical.axiomOfChoice hdep
 obtain ⟨C, hdep⟩ := Classical.axiomOfChoice hdep
 obtain ⟨x, hx1, hx2, e0, he0, ht0, hx3⟩ := solve hp n n S T (fun i e => C e i) hlt
 have hz : Zr p N n (fun _ => true) A (fun e => D e * x e) := by
  intro i hi _
  have h1 : p ∣ sm (fun e => (A i e * D e + sm (fun j => A i j * C e j) n) * x e) n := by
   refine sm_dvd n fun e he => ?_
   by_cases ht : T e = true
   ·exact Int.dvd_mul_of_dvd_left ((hdep e).2.2 he ht i hi)
   ·rw [hx1 e (by simpa using ht), Int.mul_zero]
    exact Int.dvd_zero p
  have h2 : p ∣ sm (fun e => sm (fun j => A i j * C e j * x e) n) n := by
   rw [sm_swap]
   refine sm_dvd n fun j hj => ?_
   have e1 : sm (fun e => A i j * C e j * x e) n = A i j * sm (fun e => C e j * x e) n := by
    rw [← sm_mul]
    exact sm_congr n fun e _ => Int.mul_assoc _ _ _
   rw [e1]
   by_cases hs : S j = true
   ·exact Int.dvd_mul_of_dvd_right (hx2 j hj hs)
   ·have : sm (fun e => C e j * x e) n = 0 := by
     rw [← sm_zero n]
     refine sm_congr n fun e _ => ?_
     rw [(hdep e).2.1 j (by simpa using hs), Int.zero_mul]
    rw [this, Int.mul_zero]
    exact Int.dvd_zero p
  have e3 : sm (fun e => (A i e * D e + sm (fun j => A i j * C e j) n) * x e) n = sm (fun e => A i e * (D e * x e)) n + sm (fun e => sm (fun j => A i j * C e j * x e) n) n := by
   rw [← sm_add]
   refine sm_congr n fun e _ => ?_
   rw [Int.add_mul, Int.mul_assoc, Int.mul_comm (sm _ n) (x e), ← sm_mul]
   congr 1
   exact sm_congr n fun j _ => Int.mul_comm _ _
  rw [e3] at h1
  exact (Int.dvd_add_left h2).1 h1
 have := hT _ (fun j hj => by rw [hx1 j hj, Int.mul_zero]) hz e0 he0
 rcases hp.mul _ _ this with h4 | h4
 ·exact (hdep e0).1 h4
 ·exact hx3 h4
structure Elim (p : Int) (N n : Nat) (A : Nat → Nat → Int) (S : Nat → Bool) (j : Nat) (M : Nat → Nat → Int) (r : Nat) (PV : Nat → Bool) : Prop where
 rows : r ≤ N
 same : ∀ c, Zr p N n (fun _ => true) M c ↔ Zr p N n (fun _ => true) A c
 count : cd PV j = r
 late : ∀ c, j ≤ c → PV c = false
 piv : ∀ c, c < j → PV c = true → S c = true ∧ ¬ p ∣ M (cd PV c) c ∧ ∀ i, cd PV c < i → i < N → p ∣ M i c
 low : ∀ c, c < j → S c = true → ∀ i, r ≤ i → i < N → p ∣ M i c
theorem cd_mono {S : Nat → Bool} {a b : Nat} (h : a ≤ b) : cd S a ≤ cd S b := by
 induction b with
 | zero => rw [Nat.le_zero.1 h]; exact Nat.le_refl _
 | succ b ih =>
  by_cases e : a = b + 1
  ·rw [e]; exact Nat.le_refl _
  ·exact Nat.le_trans (ih (by omega)) (Nat.le_add_right _ _)
theorem cd_step {S : Nat → Bool} {a b : Nat} (h : a < b) (hs : S a = true) : cd S a < cd S b := by
 have h1 : cd S (a + 1) ≤ cd S b := cd_mono h
 have h2 : cd S (a + 1) = cd S a + 1 := by
  show cd S a + (if S a = true then 1 else 0) = _
  rw [if_pos hs]
 omega
theorem cd_sub {S T : Nat → Bool} (h : ∀ j, S j = true → T j = true) : ∀ n, cd S n ≤ cd T n
 | 0 => Nat.le_refl _
 | n + 1 => by
  have ih := cd_sub h n
  show cd S n + _ ≤ cd T n + _
  by_cases e : S n = true
  ·rw [if_pos e, if_pos (h n e)]
   omega
  ·rw [if_neg e]
   omega
theorem cd_eq {S T : Nat → Bool} (h : ∀ j, S j = true → T j = true) : ∀ n, cd S n = cd T n → ∀ j, j < n → T j = true → S j = true
 | 0, _, j, hj, _ => absurd hj (Nat.not_lt_zero _)
 | n + 1, hc, j, hj, ht => by
  have h1 := cd_sub h n
  have hc' : cd S n + (if S n = true then 1 else 0) = cd T n + (if T n = true then 1 else 0) := hc
  by_cases e : S n = true
  ·rw [if_pos e, if_pos (h n e)] at hc'
   by_cases ej : j = n
   ·rw [ej]; exact e
   ·exact cd_eq h n (by omega) j (by omega) ht
  ·rw [if_neg e] at hc'
   by_cases et : T n = true
   ·rw [if_pos et] at hc'
    omega
   ·rw [if_neg et] at hc'
    by_cases ej : j = n
    ·rw [ej] at ht; exact absurd ht et
    ·exact cd_eq h n (by omega) j (by omega) ht
theorem Elim.indep {p : Int} (hp : Pr p) {N n : Nat} {A : Nat → Nat → Int} {S : Nat → Bool} {M : Nat → Nat → Int} {r : Nat} {PV : Nat → Bool} (h : Elim p N n A S n M r PV) : Indep p N n A PV := by
 intro c hc hz
 have hzM := (h.same c).2 hz
 have key : ∀ d x, x + d = n → ∀ j, x ≤ j → j < n → p ∣ c j := by
  intro d
  induction d with
  | zero => intro x hx j h1 h2; omega
  | succ d ih =>
   intro x hx j h1 h2
   have ih' := ih (x + 1) (by omega)
   by_cases e : j = x
   ·subst e
    by_cases hv : PV j = true
    ·obtain ⟨_, hne, hbelow⟩ := h.piv j h2 hv
     have hlt : cd PV j < r := by rw [← h.count]; exact cd_step h2 hv
     have hr := hzM (cd PV j) (Nat.lt_of_lt_of_le hlt h.rows) rfl
     have hs : sm (fun i => M (cd PV j) i * c i) n = sm (fun i => (if i = j then M (cd PV j) j * c j else 0) + (if i = j then 0 else M (cd PV j) i * c i)) n := by
      refine sm_congr n fun i _ => ?_
      by_cases ei : i = j
      ·subst ei; simp
      ·simp [ei]
     rw [hs, sm_add, sm_at, if_pos h2] at hr
     have hrest : p ∣ sm (fun i => if i = j then 0 else M (cd PV j) i * c i) n := by
      refine sm_dvd n fun i hi => ?_
      by_cases ei : i = j
      ·rw [if_pos ei]; exact Int.dvd_zero p
      ·rw [if_neg ei]
       by_cases hvi : PV i = true
       ·by_cases hij : i < j
        ·exact Int.dvd_mul_of_dvd_left ((h.piv i hi hvi).2.2 _ (cd_step hij hvi) (Nat.lt_of_lt_of_le hlt h.rows))
        ·exact Int.dvd_mul_of_dvd_right (ih' i (by omega) hi)
       ·rw [hc i (by simpa using hvi), Int.mul_zero]; exact Int.dvd_zero p
     rcases hp.mul _ _ ((Int.dvd_add_left hrest).1 hr) with h3 | h3
     ·exact absurd h3 hne
     ·exact h3
    ·rw [hc j (by simpa using hv)]; exact Int.dvd_zero p
   ·exact ih' j (by omega) h2
 exact fun j hj => key n 0 (by omega) j (by omega) hj
theorem Elim.most {p : Int} (hp : Pr p) {N n : Nat} {A : Nat → Nat → Int} {S : Nat → Bool} {M : Nat → Nat → Int} {r : Nat} {PV : Nat → Bool} (h : Elim p N n A S n M r PV) {T : Nat → Bool} (hT : ∀ j, T j = true → S j = true) (hI : Indep p N n A T) : cd T n ≤ r := by
 refine Classical.byContradiction fun hlt => ?_
 have hN : cd (fun i => decide (i < r)) N ≤ r := by
  have : ∀ m, cd (fun i => decide (i < r)) m ≤ r ∧ cd (fun i => decide (i < r)) m ≤ m := by
   intro m
   induction m with
   | zero => exact ⟨Nat.zero_le _, Nat.le_refl _⟩
   | succ m ih =>
    have e : cd (fun i => decide (i < r)) (m + 1) = cd (fun i => decide (i < r)) m + if decide (m < r) = true then 1 else 0 := rfl
    by_cases hm : m < r
    ·rw [if_pos (decide_eq_true hm)] at e
     omega
    ·rw [if_neg (by simpa using hm)] at e
     omega
  exact (this N).1
 obtain ⟨c, hc1, hc2, j, hj, hs, hd⟩ := solve hp n N (fun i => decide (i < r)) T M (by omega)
 refine hd (hI c hc1 ((h.same c).1 fun i hi _ => ?_) j hj)
 by_cases hr : i < r
 ·exact hc2 i hi (decide_eq_true hr)
 ·refine sm_dvd n fun k hk => ?_
  by_cases ht : T k = true
  ·exact Int.dvd_mul_of_dvd_left (h.low k hk (hT k ht) i (by omega) hi)
  ·rw [hc1 k (by simpa using ht), Int.mul_zero]; exact Int.dvd_zero p
theorem Elim.start {p : Int} {N n : Nat} {A : Nat → Nat → Int} {S : Nat → Bool} : Elim p N n A S 0 A 0 (fun _ => false) :=
 ⟨Nat.zero_le _, fun _ => Iff.rfl, rfl, fun _ _ => rfl, fun _ hc => absurd hc (Nat.not_lt_zero _), fun _ hc => absurd hc (Nat.not_lt_zero _)⟩
theorem Elim.pass {p : Int} {N n : Nat} {A : Nat → Nat → Int} {S : Nat → Bool} {j : Nat} {M : Nat → Nat → Int} {r : Nat} {PV : Nat → Bool} (h : Elim p N n A S j M r PV) (hn : S j = true → ∀ i, r ≤ i → i < N → p ∣ M i j) : Elim p N n A S (j + 1) M r PV := by
 refine ⟨h.rows, h.same, ?_, fun c hc => h.late c (by omega), fun c hc hv => ?_, fun c hc hs i hi hN => ?_⟩
 ·show cd PV j + (if PV j = true then 1 else 0) = r
  rw [h.late j (Nat.le_refl _), if_neg (by decide), h.count]
  rfl
 ·by_cases e : c = j
  ·subst e
   rw [h.late c (Nat.le_refl _)] at hv
   cases hv
  ·exact h.piv c (by omega) hv
 ·by_cases e : c = j
  ·subst e
   exact hn hs i hi hN
  ·exact h.low c (by omega) hs i hi hN
def swapr (M : Nat → Nat → Int) (a b : Nat) : Nat → Nat → Int := fun i k => if i = a then M b k else if i = b then M a k else M i k
theorem swapr_zr {p : Int} {N n : Nat} {M : Nat → Nat → Int} {a b : Nat} (ha : a < N) (hb : b < N) (c : Nat → Int) : Zr p N n (fun _ => true) (swapr M a b) c ↔ Zr p N n (fun _ => true) M c := by
 have one : ∀ i, sm (fun k => swapr M a b i k * c k) n = if i = a then sm (fun k => M b k * c k) n else if i = b then sm (fun k => M a k * c k) n else sm (fun k => M i k * c k) n := by
  intro i
  unfold swapr
  by_cases e : i = a
  ·simp [e]
  ·by_cases e2 : i = b
   ·subst e2
    simp [e]
   ·simp [e, e2]
 constructor
 ·intro h i hi _
  by_cases e : i = a
  ·have := h b hb rfl
   rw [one] at this
   by_cases e2 : b = a
   ·rw [if_pos e2] at this
    rw [e, ← e2]; exact this
   ·rw [if_neg e2, if_pos rfl] at this
    rw [e]; exact this
  ·by_cases e2 : i = b
   ·have := h a ha rfl
    rw [one, if_pos rfl] at this
    rw [e2]; exact this
   ·have := h i hi rfl
    rw [one, if_neg e, if_neg e2] at this
    exact this
 ·intro h i hi _
  rw [one]
  by_cases e : i = a
  ·rw [if_pos e]; exact h b hb rfl
  ·rw [if_neg e]
   by_cases e2 : i = b
   ·rw [if_pos e2]; exact h a ha rfl
   ·rw [if_neg e2]; exact h i hi rfl
structure Used (p : Int) (N n : Nat) (r j : Nat) (M M' : Nat → Nat → Int) : Prop where
 keep : ∀ i k, i ≤ r → k < n → M' i k = M i k
 comb : ∀ i k, r < i → i < N → k < n → p ∣ M' i k - (M i k * M r j - M r k * M i j)
theorem Used.zr {p : Int} (hp : Pr p) {N n r j : Nat} {M M' : Nat → Nat → Int} (h : Used p N n r j M M') (hr : r < N) (hne : ¬ p ∣ M r j) (c : Nat → Int) : Zr p N n (fun _ => true) M' c ↔ Zr p N n (fun _ => true) M c := by
 have hup : ∀ i, i ≤ r → sm (fun k => M' i k * c k) n = sm (fun k => M i k * c k) n := fun i hi => sm_congr n fun k hk => by rw [h.keep i k hi hk]
 have hlow : ∀ i, r < i → i < N → p ∣ sm (fun k => M' i k * c k) n - (M r j * sm (fun k => M i k * c k) n - M i j * sm (fun k => M r k * c k) n) := by
  intro i h1 h2
  have e : sm (fun k => M' i k * c k) n = sm (fun k => (M' i k - (M i k * M r j - M r k * M i j)) * c k) n + (M r j * sm (fun k => M i k * c k) n - M i j * sm (fun k => M r k * c k) n) := by
   rw [← sm_mul, ← sm_mul, ← sm_sub, ← sm_add]
   refine sm_congr n fun k _ => ?_
   grind
  rw [e, Int.add_sub_cancel]
  exact sm_dvd n fun k hk => Int.dvd_mul_of_dvd_left (h.comb i k h1 h2 hk)
 constructor
 ·intro hz i hi _
  have hrow : p ∣ sm (fun k => M r k * c k) n := by rw [← hup r (Nat.le_refl _)]; exact hz r hr rfl
  by_cases hir : i ≤ r
  ·rw [← hup i hir]; exact hz i hi rfl
  ·have h1 := hlow i (by omega) hi
   have h2 := hz i hi rfl
   have h3 : p ∣ M r j * sm (fun k => M i k * c k) n := by
    have h4 := Int.dvd_sub h2 h1
    rw [Int.sub_sub_self] at h4
    have h5 := Int.dvd_add h4 (show p ∣ M i j * sm (fun k => M r k * c k) n from Int.dvd_mul_of_dvd_right hrow)
    rwa [Int.sub_add_cancel] at h5
   rcases hp.mul _ _ h3 with h6 | h6
   ·exact absurd h6 hne
   ·exact h6
 ·intro hz i hi _
  by_cases hir : i ≤ r
  ·rw [hup i hir]; exact hz i hi rfl
  ·have h1 := hlow i (by omega) hi
   have h2 : p ∣ M r j * sm (fun k => M i k * c k) n - M i j * sm (fun k => M r k * c k) n := Int.dvd_sub (Int.dvd_mul_of_dvd_right (hz i hi rfl)) (Int.dvd_mul_of_dvd_right (hz r hr rfl))
   have h5 := Int.dvd_add h1 h2
   rwa [Int.sub_add_cancel] at h5
theorem Elim.pivot {p : Int} (hp : Pr p) {N n : Nat} {A : Nat → Nat → Int} {S : Nat → Bool} {j : Nat} {M M' : Nat → Nat → Int} {r : Nat} {PV : Nat → Bool} (h : Elim p N n A S j M r PV) (hj : j < n) (hS : S j = true) {b : Nat} (hb : b < N) (hrb : r ≤ b) (hne : ¬ p ∣ M b j) (hu : Used p N n r j (swapr M r b) M') :
  Elim p N n A S (j + 1) M' (r + 1) (fun c => PV c || decide (c = j)) := by
 have hr : r < N := by omega
 have hsw : swapr M r b r j = M b j := by unfold swapr; rw [if_pos rfl]
 have hne' : ¬ p ∣ swapr M r b r j := by rw [hsw]; exact hne
 have hcd : ∀ c, c ≤ j → cd (fun c => PV c || decide (c = j)) c = cd PV c := fun c hc => cd_congr c fun i hi => by
  rw [decide_eq_false (show ¬ i = j by omega), Bool.or_false]
 have hz0 : ∀ c, c < j → S c = true → ∀ i, r ≤ i → i < N → p ∣ swapr M r b i c := by
  intro c hc hs i h1 h2
  unfold swapr
  by_cases e : i = r
  ·rw [if_pos e]; exact h.low c hc hs b hrb hb
  ·rw [if_neg e]
   by_cases e2 : i = b
   ·rw [if_pos e2]; exact h.low c hc hs r (Nat.le_refl _) hr
   ·rw [if_neg e2]; exact h.low c hc hs i h1 h2
 have hz1 : ∀ c, c < j → S c = true → ∀ i, r ≤ i → i < N → p ∣ M' i c := by
  intro c hc hs i h1 h2
  by_cases e : i = r
  ·rw [hu.keep i c (by omega) (by omega)]; exact hz0 c hc hs i h1 h2
  ·have h3 := hu.comb i c (by omega) h2 (by omega)
   have h4 : p ∣ swapr M r b i c * swapr M r b r j - swapr M r b r c * swapr M r b i j := Int.dvd_sub (Int.dvd_mul_of_dvd_left (hz0 c hc hs i h1 h2)) (Int.dvd_mul_of_dvd_left (hz0 c hc hs r (Nat.le_refl _) hr))
   have h5 := Int.dvd_add h3 h4
   rwa [Int.sub_add_cancel] at h5
 have hold : ∀ i k, i < r → k < n → M' i k = M i k := by
  intro i k h1 h2
  rw [hu.keep i k (by omega) h2]
  unfold swapr
  rw [if_neg (by omega), if_neg (by omega)]
 have hcol : ∀ i, r < i → i < N → p ∣ M' i j := by
  intro i h1 h2
  have h3 := hu.comb i j h1 h2 hj
  have e : swapr M r b i j * swapr M r b r j - swapr M r b r j * swapr M r b i j = 0 := by rw [Int.mul_comm, Int.sub_self]
  rw [e, Int.sub_zero] at h3
  exact h3
 refine ⟨hr, fun c => (hu.zr hp hr hne' c).trans ((swapr_zr hr hb c).trans (h.same c)), ?_, fun c hc => ?_, fun c hc hv => ?_, fun c hc hs i hi hN => ?_⟩
 ·show cd _ j + (if (PV j || decide (j = j)) = true then 1 else 0) = r + 1
  rw [hcd j (Nat.le_refl _), if_pos (by simp), h.count]
 ·show (PV c || decide (c = j)) = false
  rw [h.late c (by omega), decide_eq_false (show ¬ c = j by omega)]
  rfl
 ·rw [hcd c (by omega)]
  by_cases e : c = j
  ·subst e
   rw [h.count]
   refine ⟨hS, ?_, fun i h1 h2 => hcol i h1 h2⟩
   rw [hu.keep r c (Nat.le_refl _) hj]
   exact hne'
  ·have hv' : PV c = true := by
    have : (PV c || decide (c = j)) = true := hv
    rwa [decide_eq_false e, Bool.or_false] at this
   obtain ⟨h1, h2, h3⟩ := h.piv c (by omega) hv'
   have hlt : cd PV c < r := by rw [← h.count]; exact cd_step (by omega) hv'
   refine ⟨h1, by rw [hold _ c hlt (by omega)]; exact h2, fun i h4 h5 => ?_⟩
   by_cases hir : i < r
   ·rw [hold i c hir (by omega)]; exact h3 i h4 h5
   ·exact hz1 c (by omega) h1 i (by omega) h5
 ·by_cases e : c = j
  ·subst e
   exact hcol i (by omega) hN
  ·exact hz1 c (by omega) hs i (by omega) hN
end Go.Proofs.Ytmpodackojmojaa.Lin
end
section
namespace Go.Proofs.Ytmpodackojmojaa.Grid
open Go.RowKit Go.Proofs.YtmpodackojmojaaW.PrintWords Go.Proofs.YtmpodackojmojaaW.PrintMore
def lst (R C : Nat) (f : Nat → Nat → Int) : List Int := (List.range (R * C)).map fun t => f (t / C) (t % C)
theorem lst_length (R C : Nat) (f : Nat → Nat → Int) : (lst R C f).length = R * C := by simp [lst]
theorem lt_ix {R C i c : Nat} (hi : i < R) (hc : c < C) : i * C + c < R * C := by
 have h1 : (i + 1) * C ≤ R * C := Nat.mul_le_mul_right C hi
 rw [Nat.succ_mul] at h1
 omega
theorem div_ix {C i c : Nat} (hc : c < C) : (i * C + c) / C = i ∧ (i * C + c) % C = c := by
 constructor
 ·rw [Nat.mul_comm, Nat.mul_add_div (by omega), Nat.div_eq_of_lt hc, Nat.add_zero]
 ·rw [Nat.mul_comm, Nat.mul_add_mod, Nat.mod_eq_of_lt hc]
theorem rd_lst {R C i c : Nat} (f : Nat → Nat → Int) (hi : i < R) (hc : c < C) : rd (lst R C f) ((i * C + c : Nat) : Int) = f i c := by
 rw [Gen.rd_nat]
 simp [lst, List.getD_eq_getElem?_getD, lt_ix hi hc, (div_ix (i := i) hc).1, (div_ix (i := i) hc).2]
theorem lst_congr {R C : Nat} {f g : Nat → Nat → Int} (h : ∀ i c, i < R → c < C → f i c = g i c) : lst R C f = lst R C g := by
 refine List.map_congr_left fun t ht => ?_
 have ht := List.mem_range.1 ht
 have hC : 0 < C := by
  rcases Nat.eq_zero_or_pos C with e | e
  ·subst e; simp at ht
  ·exact e
 exact h _ _ (Nat.div_lt_of_lt_mul (by rw [Nat.mul_comm]; exact ht)) (Nat.mod_lt _ hC)
theorem set_lst {R C i c : Nat} (f : Nat → Nat → Int) (hi : i < R) (hc : c < C) (v : Int) : (lst R C f).set (i * C + c) v = lst R C (fun i' c' => if i' = i ∧ c' = c then v else f i' c') := by
 apply List.ext_getElem?
 intro t
 rw [List.getElem?_set]
 have hl := lt_ix hi hc
 by_cases e : i * C + c = t
 ·subst e
  rw [if_pos rfl, if_pos (by rw [lst_length]; exact hl)]
  simp [lst, hl, (div_ix (i := i) hc).1, (div_ix (i := i) hc).2]
 ·rw [if_neg e]
  by_cases ht : t < R * C
  ·have : ¬ (t / C = i ∧ t % C = c) := fun ⟨h1, h2⟩ => e (by rw [← h1, ← h2, Nat.mul_comm]; exact Nat.div_add_mod t C)
   simp [lst, ht, this]
  ·rw [List.getElem?_eq_none (by rw [lst_length]; omega), List.getElem?_eq_none (by rw [lst_length]; omega)]
theorem lst_of {R C : Nat} {l : List Int} (h : l.length = R * C) : l = lst R C (fun i c => l.getD (i * C + c) 0) := by
 apply List.ext_getElem?
 intro t
 by_cases ht : t < R * C
 ·have e : t / C * C + t % C = t := by rw [Nat.mul_comm]; exact Nat.div_add_mod t C
  simp [lst, ht, e, h]
 ·rw [List.getElem?_eq_none (by omega), List.getElem?_eq_none (by rw [lst_length]; omega)]
theorem ix {i C c : Nat} (hi : i ≤ 100) (hC : C ≤ 100) (hc : c ≤ 100) : wrap64 (wrap64 ((i : Int) * (C : Int)) + (c : Int)) = ((i * C + c : Nat) : Int) := by
 have h : i * C ≤ 10000 := Nat.mul_le_mul hi hC
 rw [← Int.natCast_mul]
 obtain ⟨m, hm⟩ : ∃ m, m = i * C := ⟨_, rfl⟩
 rw [← hm] at h ⊢
 rw [Gen.w64 (i := (m : Int)) (by omega) (by omega), Gen.w64 (by omega) (by omega)]
 rfl
def Ok (p : Int) (R C : Nat) (f : Nat → Nat → Int) : Prop := ∀ i c, i < R → c < C → 0 ≤ f i c ∧ f i c < p
theorem tm {p x : Int} (hp : p = 2 ∨ p = 3) : (x.tmod p = x % p) ∨ (x < 0 ∧ x.tmod p = x % p - p ∧ x % p ≠ 0) := by
 rw [Int.tmod_eq_emod]
 by_cases h : 0 ≤ x ∨ p ∣ x
 ·rw [if_pos h]; left; omega
 ·rw [if_neg h]
  right
  have : x < 0 := by omega
  refine ⟨this, by rcases hp with rfl | rfl <;> rfl, fun e => h (.inr (Int.dvd_of_emod_eq_zero e))⟩
theorem modp {p x : Int} (hp : p = 2 ∨ p = 3) : Int.tmod (Int.tmod x p + p) p = x % p := by
 have h0 := Int.emod_nonneg x (show p ≠ 0 by omega)
 have h1 := Int.emod_lt_of_pos x (show 0 < p by omega)
 rcases tm (p := p) (x := x) hp with e | ⟨_, e, e2⟩
 ·rw [e, Int.tmod_eq_emod_of_nonneg (by omega), Int.add_emod_right, Int.emod_emod]
 ·rw [e, Int.sub_add_cancel, Int.tmod_eq_emod_of_nonneg h0, Int.emod_emod]
theorem tmn {p x : Int} (h : 0 ≤ x) : Int.tmod x p = x % p := Int.tmod_eq_emod_of_nonneg h
theorem dvd_mod (p x : Int) : p ∣ x % p - x := by
 rw [Int.emod_def]
 exact ⟨-(x / p), by grind⟩
theorem ok_mod {p : Int} (hp : p = 2 ∨ p = 3) (x : Int) : 0 ≤ x % p ∧ x % p < p := ⟨Int.emod_nonneg x (by omega), Int.emod_lt_of_pos x (by omega)⟩
theorem ok_dvd {p x : Int} (h : 0 ≤ x ∧ x < p) : p ∣ x ↔ x = 0 := by
 constructor
 ·intro hd
  have := Int.emod_eq_zero_of_dvd hd
  rwa [Int.emod_eq_of_lt h.1 h.2] at this
 ·rintro rfl
  exact Int.dvd_zero p
theorem pr {p : Int} (hp : p = 2 ∨ p = 3) : Lin.Pr p := by
 rcases hp with rfl | rfl
 ·exact Lin.pr2
 ·exact Lin.pr3
end Go.Proofs.Ytmpodackojmojaa.Grid
end
section
namespace Go.Proofs.Ytmpodackojmojaa.Lin
structure Norm (p : Int) (N n : Nat) (r j : Nat) (M M' : Nat → Nat → Int) : Prop where
 unit : ∃ u, ¬ p ∣ u ∧ ∀ k, k < n → p ∣ M' r k - u * M r k
 one : p ∣ M' r j - 1
 comb : ∀ i k, i ≠ r → i < N → k < n → p ∣ M' i k - (M i k - M i j * M' r k)
theorem dvd_of_sub {p a b : Int} (h : p ∣ a - b) (hb : p ∣ b) : p ∣ a := by
 have := Int.dvd_add h hb
 rwa [Int.sub_add_cancel] at this
theorem dvd_of_sub' {p a b : Int} (h : p ∣ a - b) (ha : p ∣ a) : p ∣ b := by
 have := Int.dvd_sub ha h
 rwa [Int.sub_sub_self] at this
theorem sm_near {p : Int} {f g : Nat → Int} (n : Nat) (h : ∀ k, k < n → p ∣ f k - g k) : p ∣ sm f n - sm g n := by
 rw [← sm_sub]
 exact sm_dvd n h
theorem Norm.zr {p : Int} (hp : Pr p) {N n r j : Nat} {M M' : Nat → Nat → Int} (h : Norm p N n r j M M') (hr : r < N) (c : Nat → Int) : Zr p N n (fun _ => true) M' c ↔ Zr p N n (fun _ => true) M c := by
 obtain ⟨u, hu, hk⟩ := h.unit
 have hrow : p ∣ sm (fun k => M' r k * c k) n - u * sm (fun k => M r k * c k) n := by
  rw [← sm_mul]
  refine sm_near n fun k hkn => ?_
  rw [show M' r k * c k - u * (M r k * c k) = (M' r k - u * M r k) * c k by grind]
  exact Int.dvd_mul_of_dvd_left (hk k hkn)
 have hoth : ∀ i, i ≠ r → i < N → p ∣ sm (fun k => M' i k * c k) n - (sm (fun k => M i k * c k) n - M i j * sm (fun k => M' r k * c k) n) := by
  intro i h1 h2
  rw [← sm_mul, ← sm_sub]
  refine sm_near n fun k hkn => ?_
  rw [show M' i k * c k - (M i k * c k - M i j * (M' r k * c k)) = (M' i k - (M i k - M i j * M' r k)) * c k by grind]
  exact Int.dvd_mul_of_dvd_left (h.comb i k h1 h2 hkn)
 constructor
 ·intro hz i hi _
  have h0 := hz r hr rfl
  by_cases e : i = r
  ·subst e
   rcases hp.mul _ _ (dvd_of_sub' hrow h0) with h1 | h1
   ·exact absurd h1 hu
   ·exact h1
  ·have h1 := dvd_of_sub' (hoth i e hi) (hz i hi rfl)
   exact dvd_of_sub h1 (Int.dvd_mul_of_dvd_right h0)
 ·intro hz i hi _
  have h0 := dvd_of_sub hrow (Int.dvd_mul_of_dvd_right (hz r hr rfl))
  by_cases e : i = r
  ·subst e
   exact h0
  ·exact dvd_of_sub (hoth i e hi) (Int.dvd_sub (hz i hi rfl) (Int.dvd_mul_of_dvd_right h0))
theorem Elim.norm {p : Int} (hp : Pr p) {N n : Nat} {A : Nat → Nat → Int} {S : Nat → Bool} {j : Nat} {M M' : Nat → Nat → Int} {r : Nat} {PV : Nat → Bool} (h : Elim p N n A S j M r PV) (hj : j < n) (hS : S j = true) {b : Nat} (hb : b < N) (hrb : r ≤ b) (hu : Norm p N n r j (swapr M r b) M') :
  Elim p N n A S (j + 1) M' (r + 1) (fun c => PV c || decide (c = j)) := by
 have hr : r < N := by omega
 have hcd : ∀ c, c ≤ j → cd (fun c => PV c || decide (c = j)) c = cd PV c := fun c hc => cd_congr c fun i hi => by
  rw [decide_eq_false (show ¬ i = j by omega), Bool.or_false]
 have hz0 : ∀ c, c < j → S c = true → ∀ i, r ≤ i → i < N → p ∣ swapr M r b i c := by
  intro c hc hs i h1 h2
  unfold swapr
  by_cases e : i = r
  ·rw [if_pos e]; exact h.low c hc hs b hrb hb
  ·rw [if_neg e]
   by_cases e2 : i = b
   ·rw [if_pos e2]; exact h.low c hc hs r (Nat.le_refl _) hr
   ·rw [if_neg e2]; exact h.low c hc hs i h1 h2
 have hr0 : ∀ c, c < j → S c = true → p ∣ M' r c := by
  intro c hc hs
  obtain ⟨u, _, hk⟩ := hu.unit
  exact dvd_of_sub (hk c (by omega)) (Int.dvd_mul_of_dvd_right (hz0 c hc hs r (Nat.le_refl _) hr))
 have hsame : ∀ c, c < j → S c = true → ∀ i, i ≠ r → i < N → (p ∣ M' i c ↔ p ∣ swapr M r b i c) := by
  intro c hc hs i h1 h2
  have h3 := hu.comb i c h1 h2 (by omega)
  have h4 : p ∣ swapr M r b i j * M' r c := Int.dvd_mul_of_dvd_right (hr0 c hc hs)
  constructor
  ·intro h5
   exact dvd_of_sub (dvd_of_sub' h3 h5) h4
  ·intro h5
   exact dvd_of_sub h3 (Int.dvd_sub h5 h4)
 have hz1 : ∀ c, c < j → S c = true → ∀ i, r ≤ i → i < N → p ∣ M' i c := by
  intro c hc hs i h1 h2
  by_cases e : i = r
  ·rw [e]; exact hr0 c hc hs
  ·exact (hsame c hc hs i e h2).2 (hz0 c hc hs i h1 h2)
 have hold : ∀ i k, i < r → swapr M r b i k = M i k := by
  intro i k h1
  unfold swapr
  rw [if_neg (by omega), if_neg (by omega)]
 have hcol : ∀ i, i ≠ r → i < N → p ∣ M' i j := by
  intro i h1 h2
  have h3 := hu.comb i j h1 h2 hj
  refine dvd_of_sub h3 ?_
  rw [show swapr M r b i j - swapr M r b i j * M' r j = - (swapr M r b i j * (M' r j - 1)) by grind]
  exact (Int.dvd_neg).2 (Int.dvd_mul_of_dvd_right hu.one)
 have hne : ¬ p ∣ M' r j := fun hd => hp.one (dvd_of_sub' hu.one hd)
 refine ⟨hr, fun c => (hu.zr hp hr c).trans ((swapr_zr hr hb c).trans (h.same c)), ?_, fun c hc => ?_, fun c hc hv => ?_, fun c hc hs i hi hN => ?_⟩
 ·show cd _ j + (if (PV j || decide (j = j)) = true then 1 else 0) = r + 1
  rw [hcd j (Nat.le_refl _), if_pos (by simp), h.count]
 ·show (PV c || decide (c = j)) = false
  rw [h.late c (by omega), decide_eq_false (show ¬ c = j by omega)]
  rfl
 ·rw [hcd c (by omega)]
  by_cases e : c = j
  ·subst e
   rw [h.count]
   exact ⟨hS, hne, fun i h1 h2 => hcol i (by omega) h2⟩
  ·have hv' : PV c = true := by
    have : (PV c || decide (c = j)) = true := hv
    rwa [decide_eq_false e, Bool.or_false] at this
   obtain ⟨h1, h2, h3⟩ := h.piv c (by omega) hv'
   have hlt : cd PV c < r := by rw [← h.count]; exact cd_step (by omega) hv'
   refine ⟨h1, fun hd => h2 ?_, fun i h4 h5 => ?_⟩
   ·have := (hsame c (by omega) h1 (cd PV c) (by omega) (by omega)).1 hd
    rwa [hold _ c hlt] at this
   ·by_cases hir : i < r
    ·refine (hsame c (by omega) h1 i (by omega) h5).2 ?_
     rw [hold i c hir]
     exact h3 i h4 h5
    ·exact hz1 c (by omega) h1 i (by omega) h5
 ·by_cases e : c = j
  ·subst e
   exact hcol i (by omega) hN
  ·exact hz1 c (by omega) hs i (by omega) hN
def Rank (p : Int) (N n : Nat) (A : Nat → Nat → Int) (S : Nat → Bool) (r : Nat) : Prop :=
 (∃ PV : Nat → Bool, (∀ j, PV j = true → S j = true) ∧ Indep p N n A PV ∧ cd PV n = r) ∧ ∀ T : Nat → Bool, (∀ j, T j = true → S j = true) → Indep p N n A T → cd T n ≤ r
theorem Elim.rank {p : Int} (hp : Pr p) {N n : Nat} {A : Nat → Nat → Int} {S : Nat → Bool} {M : Nat → Nat → Int} {r : Nat} {PV : Nat → Bool} (h : Elim p N n A S n M r PV) : Rank p N n A S r := by
 refine ⟨⟨PV, fun j hj => ?_, h.indep hp, h.count⟩, fun T hT hI => h.most hp hT hI⟩
 by_cases e : j < n
 ·exact (h.piv j e hj).1
 ·rw [h.late j (by omega)] at hj
  cases hj
theorem Rank.full {p : Int} {N n : Nat} {A : Nat → Nat → Int} {S : Nat → Bool} {r : Nat} (h : Rank p N n A S r) : r = cd S n ↔ Indep p N n A S := by
 obtain ⟨⟨P, h1, h2, h3⟩, h4⟩ := h
 constructor
 ·intro e c hc hz k hk
  have hz' : Zr p N n (fun _ => true) A (fun j => if j < n then c j else 0) := fun i hi hr => by
   rw [sm_congr (g := fun j => A i j * c j) n fun j hj => by simp only [if_pos hj]]
   exact hz i hi hr
  have := h2 (fun j => if j < n then c j else 0) (fun j hj => ?_) hz' k hk
  ·simpa only [if_pos hk] using this
  ·show (if j < n then c j else 0) = 0
   by_cases hjn : j < n
   ·rw [if_pos hjn]
    refine hc j ?_
    cases hs : S j with
    | false => rfl
    | true =>
     have := cd_eq h1 n (by omega) j hjn hs
     rw [hj] at this
     cases this
   ·rw [if_neg hjn]
 ·intro hi
  have h5 := h4 S (fun _ h => h) hi
  have h6 := cd_sub h1 n
  omega
end Go.Proofs.Ytmpodackojmojaa.Lin
end
section
namespace Go.Proofs.Ytmpodackojmojaa.Sets
open Go.RowKit Go.Proofs.YtmpodackojmojaaW.PrintWords Go.Proofs.YtmpodackojmojaaW.PrintMore
theorem ev_search {γ : Type} (L : Nat → Int → Option γ) (n : Nat) (p : Nat → Bool) (S : γ → Prop)
  (hyes : ∀ i, i < n → p i = true → ∃ r, S r ∧ Ev (fun k => L k (i : Int)) r)
  (hno : ∀ i, i < n → p i = false → ∀ r, Ev (fun k => L k ((i + 1 : Nat) : Int)) r → Ev (fun k => L k (i : Int)) r) :
  ∀ d i : Nat, i + d = n → ((List.range' i d).any p = true → ∃ r, S r ∧ Ev (fun k => L k (i : Int)) r) ∧ ((List.range' i d).any p = false → ∀ r, Ev (fun k => L k (n : Int)) r → Ev (fun k => L k (i : Int)) r) := by
 intro d
 induction d with
 | zero =>
  intro i hi
  obtain rfl : i = n := by omega
  exact ⟨fun h => by simp at h, fun _ r h => h⟩
 | succ d ih =>
  intro i hi
  obtain ⟨h1, h2⟩ := ih (i + 1) (by omega)
  rw [List.range'_succ, List.any_cons]
  cases hp : p i with
  | true => exact ⟨fun _ => hyes i (by omega) hp, fun h => by simp at h⟩
  | false =>
   refine ⟨fun h => ?_, fun h r hr => hno i (by omega) hp r (h2 (by simpa using h) r hr)⟩
   obtain ⟨r, hr, hE⟩ := h1 (by simpa using h)
   exact ⟨r, hr, hno i (by omega) hp r hE⟩
theorem wraps_i64 (n : Int) (h0 : 0 ≤ n) (h1 : n < 2 ^ 62) : IntKind.i64.wrap n = n := by
 rw [IntKind.wrap_i64]
 omega
theorem and_nat (a b : Nat) (ha : a < 2 ^ 62) (hb : b < 2 ^ 62) : Go.bits .and .i64 (a : Int) (b : Int) = ((a &&& b : Nat) : Int) := (bits_nat .i64 62 (by decide) wraps_i64 a b ha hb).1
theorem or_nat (a b : Nat) (ha : a < 2 ^ 62) (hb : b < 2 ^ 62) : Go.bits .or .i64 (a : Int) (b : Int) = ((a ||| b : Nat) : Int) := (bits_nat .i64 62 (by decide) wraps_i64 a b ha hb).2
def diff (a b : Nat) : Nat := a ^^^ (a &&& b)
theorem diff_bit (a b i : Nat) : (diff a b).testBit i = (a.testBit i && !b.testBit i) := by
 unfold diff
 rw [Nat.testBit_xor, Nat.testBit_and]
 cases a.testBit i <;> cases b.testBit i <;> rfl
theorem diff_lt {a b : Nat} {n : Nat} (ha : a < 2 ^ n) : diff a b < 2 ^ n := by
 apply Nat.lt_pow_two_of_testBit
 intro i hi
 rw [diff_bit, Nat.testBit_lt_two_pow (Nat.lt_of_lt_of_le ha (Nat.pow_le_pow_right (by decide) hi))]
 rfl
theorem andNot_nat (a b : Nat) (ha : a < 2 ^ 62) : Go.bits .andNot .i64 (a : Int) (b : Int) = ((diff a b : Nat) : Int) := by
 have h64 : (2 : Nat) ^ 62 ≤ 2 ^ 64 := by decide
 have key : (BitVec.ofNat 64 a &&& ~~~(BitVec.ofNat 64 b)).toNat = diff a b := by
  apply Nat.eq_of_testBit_eq
  intro i
  rw [diff_bit, BitVec.testBit_toNat, BitVec.getLsbD_and, BitVec.getLsbD_not, BitVec.getLsbD_ofNat, BitVec.getLsbD_ofNat]
  by_cases hi : i < 64
  ·simp [hi]
  ·have : a.testBit i = false := Nat.testBit_lt_two_pow (Nat.lt_of_lt_of_le ha (Nat.pow_le_pow_right (by decide) (by omega)))
   simp [hi, this]
 show IntKind.i64.wrap ((BitVec.ofInt 64 (a : Int) &&& ~~~(BitVec.ofInt 64 (b : Int))).toNat : Int) = _
 have e1 : BitVec.ofInt 64 (a : Int) = BitVec.ofNat 64 a := by simp
 have e2 : BitVec.ofInt 64 (b : Int) = BitVec.ofNat 64 b := by simp
 rw [e1, e2, key]
 have := diff_lt (b := b) ha
 exact wraps_i64 _ (by omega) (by exact_mod_cast this)
theorem shl_nat (e : Nat) (he : e < 62) : shl .i64 1 (e : Int) = ((2 ^ e : Nat) : Int) := by
 unfold shl
 have h1 : min ((e : Int)).toNat IntKind.i64.bits = e := by
  show min e 64 = e
  omega
 rw [h1, Int.one_mul]
 have h2 : (2 : Nat) ^ e < 2 ^ 62 := Nat.pow_lt_pow_right (by decide) he
 rw [wraps_i64 _ (by exact_mod_cast Nat.zero_le _) (by exact_mod_cast h2)]
 push_cast
 rfl
theorem shr_bit (a e : Nat) (he : e < 62) (ha : a < 2 ^ 62) : ((Go.bits .and .i64 (shr .i64 (a : Int) (e : Int)) 1) == 1) = a.testBit e := by
 unfold shr
 have h1 : min ((e : Int)).toNat IntKind.i64.bits = e := by
  show min e 64 = e
  omega
 rw [h1]
 have h2 : ((a : Int) / 2 ^ e) = ((a / 2 ^ e : Nat) : Int) := by push_cast; rfl
 have h3 : a / 2 ^ e < 2 ^ 62 := Nat.lt_of_le_of_lt (Nat.div_le_self _ _) ha
 rw [h2, show (1 : Int) = ((1 : Nat) : Int) from rfl, and_nat _ 1 h3 (by decide), Nat.testBit_eq_decide_div_mod_eq, Nat.and_one_is_mod]
 by_cases h : a / 2 ^ e % 2 = 1
 ·simp [h]
 ·have h4 : a / 2 ^ e % 2 = 0 := by omega
  simp [h4]
theorem bit_far {a n e : Nat} (ha : a < 2 ^ n) (he : n ≤ e) : a.testBit e = false := Nat.testBit_lt_two_pow (Nat.lt_of_lt_of_le ha (Nat.pow_le_pow_right (by decide) he))
theorem swap_eq : ∀ a, a < 256 → ∀ e, e < 8 → ∀ f, f < 8 → a.testBit e = true → a.testBit f = false → diff a (2 ^ e) ||| 2 ^ f = a - 2 ^ e + 2 ^ f := by decide +kernel
theorem bit_le : ∀ a, a < 256 → ∀ e, e < 8 → a.testBit e = true → 2 ^ e ≤ a := by decide +kernel
def elems (s : Nat) : List Nat := (List.range' 0 8).filter fun j => s.testBit j
def exch (l : List Nat) (a b e : Nat) : Bool := (List.range' 0 8).any fun f => b.testBit f && !a.testBit f && l.contains (a - 2 ^ e + 2 ^ f)
def fails (l : List Nat) : Bool := l.any fun a => l.any fun b => (List.range' 0 8).any fun e => a.testBit e && !b.testBit e && !exch l a b e
def ints (l : List Nat) : List Int := l.map fun j : Nat => (j : Int)
theorem ints_length (l : List Nat) : (ints l).length = l.length := by simp [ints]
theorem ints_getD (l : List Nat) (i : Nat) : (ints l).getD i 0 = ((l.getD i 0 : Nat) : Int) := by
 by_cases h : i < l.length
 ·simp [ints, List.getD, h]
 ·simp [ints, List.getD, h]
theorem ints_rd (l : List Nat) (i : Nat) : rd (ints l) (i : Int) = ((l.getD i 0 : Nat) : Int) := by rw [Gen.rd_nat, ints_getD]
theorem ints_contains (l : List Nat) (x : Nat) : (ints l).contains (x : Int) = l.contains x := by
 rw [Bool.eq_iff_iff]
 simp only [ints, List.contains_eq_mem, List.mem_map, decide_eq_true_eq]
 constructor
 ·rintro ⟨a, h, e⟩
  obtain rfl : a = x := by omega
  exact h
 ·exact fun h => ⟨x, h, rfl⟩
theorem any_index {α : Type} (l : List α) (d : α) (p : α → Bool) : ((List.range' 0 l.length).any fun i => p (l.getD i d)) = l.any p := by
 rw [Bool.eq_iff_iff]
 simp only [List.any_eq_true]
 constructor
 ·rintro ⟨i, hi, hp⟩
  have hlt : i < l.length := by have := List.mem_range'_1.1 hi; omega
  refine ⟨l[i], List.getElem_mem hlt, ?_⟩
  simpa [List.getD, hlt] using hp
 ·rintro ⟨x, hx, hp⟩
  obtain ⟨i, hi, rfl⟩ := List.getElem_of_mem hx
  exact ⟨i, List.mem_range'_1.2 (by omega), by simpa [List.getD, hi] using hp⟩
theorem any_more (p : Nat → Bool) (m d : Nat) (h : ∀ j, m ≤ j → p j = false) : (List.range' 0 (m + d)).any p = (List.range' 0 m).any p := by
 rw [← List.range'_append_1, List.any_append]
 have : (List.range' (0 + m) d).any p = false := by
  rw [List.any_eq_false]
  intro j hj
  have := List.mem_range'_1.1 hj
  rw [h j (by omega)]
  decide
 rw [this, Bool.or_false]
theorem range8 (m : Nat) (hm : m ≤ 8) (p : Nat → Bool) (h : ∀ j, m ≤ j → p j = false) : (List.range' 0 m).any p = (List.range' 0 8).any p := by
 have := any_more p m (8 - m) h
 rw [show m + (8 - m) = 8 by omega] at this
 exact this.symm
theorem elems_any (s : Nat) (q : Nat → Bool) : (elems s).any q = (List.range' 0 8).any fun j => s.testBit j && q j := by
 unfold elems
 rw [List.any_filter]
theorem elems_lt {s j : Nat} (h : j ∈ elems s) : j < 8 ∧ s.testBit j = true := by
 unfold elems at h
 obtain ⟨h1, h2⟩ := List.mem_filter.1 h
 have := List.mem_range'_1.1 h1
 exact ⟨by omega, h2⟩
theorem elems_length (s : Nat) : (elems s).length ≤ 8 := by
 unfold elems
 exact Nat.le_trans (List.length_filter_le _ _) (by simp)
theorem pow_le_256 {m : Nat} (hm : m ≤ 8) : (2 : Nat) ^ m ≤ 256 := Nat.pow_le_pow_right (n := 2) (by decide) hm
theorem swap_le : ∀ a, a < 256 → ∀ e, e < 8 → ∀ f, f < 8 → a.testBit e = true → a.testBit f = false → a - 2 ^ e + 2 ^ f < 256 := by decide +kernel
theorem getD_mem {α : Type} (l : List α) (d : α) (i : Nat) (h : i < l.length) : l.getD i d ∈ l := by
 have : l.getD i d = l[i] := by simp [List.getD, h]
 rw [this]
 exact List.getElem_mem h
end Go.Proofs.Ytmpodackojmojaa.Sets
end
section
namespace Go.Proofs.Ytmpodackojmojaa.Mat
open Go.RowKit Go.Proofs.Ytmpodackojmojaa.Pr Go.Proofs.Ytmpodackojmojaa.Sets Go.Proofs.YtmpodackojmojaaW.PrintWords Go.Proofs.YtmpodackojmojaaW.PrintLast Go.Proofs.YtmpodackojmojaaW.PrintMore
set_option linter.unusedVariables false
def isSet (n s : Int) : Bool := decide (0 ≤ n ∧ n ≤ 8 ∧ 0 ≤ s ∧ s < 2 ^ n.toNat)
theorem implIsSet (n s : Int) : impl_IsSet.f n s = some (isSet n s) := by
 unfold impl_IsSet.f impl_isSize.f isSet
 by_cases h0 : n ≥ 0
 ·rw [if_pos h0]
  simp only [Option.bind_some]
  by_cases h1 : n ≤ 8
  ·rw [if_pos (decide_eq_true h1)]
   obtain ⟨m, rfl⟩ : ∃ m : Nat, n = m := ⟨n.toNat, by omega⟩
   by_cases h2 : s ≥ 0
   ·rw [if_pos h2, if_pos h0, shl_nat m (by omega)]
    congr 1
    rw [decide_eq_decide]
    simp only [Int.toNat_natCast]
    push_cast
    omega
   ·rw [if_neg h2, decide_eq_false (by omega)]
  ·rw [if_neg (by rw [decide_eq_true_eq]; exact h1), decide_eq_false (by omega)]
 ·rw [if_neg h0]
  simp only [Option.bind_some]
  rw [if_neg (by decide), decide_eq_false (by omega)]
theorem specIsSet (n s : Int) : spec_IsSet.f n s = some (isSet n s) := by
 unfold spec_IsSet.f spec_l1In.f isSet
 by_cases h0 : n ≥ 0
 ·rw [if_pos h0]
  simp only [Option.bind_some]
  by_cases h1 : n ≤ 8
  ·rw [if_pos (decide_eq_true h1)]
   obtain ⟨m, rfl⟩ : ∃ m : Nat, n = m := ⟨n.toNat, by omega⟩
   have hu : IntKind.u64.wrap (m : Int) = m := by
    have : m = 0 ∨ m = 1 ∨ m = 2 ∨ m = 3 ∨ m = 4 ∨ m = 5 ∨ m = 6 ∨ m = 7 ∨ m = 8 := by omega
    rcases this with rfl | rfl | rfl | rfl | rfl | rfl | rfl | rfl | rfl <;> decide +kernel
   have hp := pow_le_256 (m := m) (by omega)
   have hp1 : 1 ≤ 2 ^ m := Nat.one_le_two_pow
   rw [hu, if_pos h0, shl_nat m (by omega), Gen.w64 (by omega) (by omega)]
   by_cases h2 : s ≥ 0
   ·rw [if_pos h2]
    simp only [Option.bind_some]
    congr 1
    rw [decide_eq_decide]
    simp only [Int.toNat_natCast]
    have : ((2 : Int) ^ m) = ((2 ^ m : Nat) : Int) := by push_cast; rfl
    rw [this]
    omega
   ·rw [if_neg h2]
    simp only [Option.bind_some]
    rw [decide_eq_false (by omega)]
  ·rw [if_neg (by rw [decide_eq_true_eq]; exact h1), decide_eq_false (by omega)]
 ·rw [if_neg h0]
  simp only [Option.bind_some]
  rw [if_neg (by decide), decide_eq_false (by omega)]
def fam (n : Int) (l : List Int) : Bool := ((List.range' 0 l.length).all fun i => isSet n (l.getD i 0) && (decide (i = 0) || decide (l.getD (i - 1) 0 < l.getD i 0))) && decide (0 ≤ n ∧ n ≤ 8)
theorem implFamily (n : Int) (l : List Int) (hn : l.length ≤ 1048576) (k : Nat) (hk : l.length < k) : impl_IsFamily.f k n l = some (fam n l) := by
 unfold impl_IsFamily.f fam
 refine Gen.all_loop (fun k i => impl_IsFamily.l0 k n l l (l.length : Int) i) l.length (fun i => isSet n (l.getD i 0) && (decide (i = 0) || decide (l.getD (i - 1) 0 < l.getD i 0))) 0 (decide (0 ≤ n ∧ n ≤ 8)) (fun k i _ hi => ?_) (fun k _ => ?_) l.length 0 k (by omega) (by omega)
 ·simp only [impl_IsFamily.l0]
  rw [if_pos (by omega), if_pos (by omega), if_pos (by omega), implIsSet, Gen.rd_nat]
  simp only [Option.bind_some]
  cases isSet n (l.getD i 0) with
  | false => rfl
  | true =>
   rw [if_pos rfl, Gen.w64s i (by omega)]
   by_cases h0 : i = 0
   ·subst h0
    rw [if_neg (by decide), if_pos (by rfl)]
   ·rw [if_pos (by omega), Gen.w64 (by omega) (by omega), show (i : Int) - 1 = ((i - 1 : Nat) : Int) by omega, if_pos (by omega), if_pos (by omega), Gen.rd_nat]
    by_cases h1 : l.getD i 0 ≤ l.getD (i - 1) 0
    ·rw [if_pos h1, decide_eq_false h0, decide_eq_false (by omega)]
     rfl
    ·rw [if_neg h1, decide_eq_false h0, decide_eq_true (by omega)]
     rfl
 ·simp only [impl_IsFamily.l0]
  rw [if_neg (by omega)]
  unfold impl_isSize.f
  by_cases h0 : n ≥ 0
  ·rw [if_pos h0]
   simp only [Option.bind_some]
   congr 1
   rw [decide_eq_decide]
   omega
  ·rw [if_neg h0, decide_eq_false (by omega)]
   rfl
theorem specFamily (n : Int) (l : List Int) (hn : l.length ≤ 1048576) (k : Nat) (hk : l.length < k) : spec_IsFamily.f k n l = some (fam n l) := by
 unfold spec_IsFamily.f fam
 refine Gen.all_loop (fun k i => spec_IsFamily.l0 k n l i) l.length (fun i => isSet n (l.getD i 0) && (decide (i = 0) || decide (l.getD (i - 1) 0 < l.getD i 0))) 0 (decide (0 ≤ n ∧ n ≤ 8)) (fun k i _ hi => ?_) (fun k _ => ?_) l.length 0 k (by omega) (by omega)
 ·simp only [spec_IsFamily.l0]
  rw [if_pos (by omega), if_pos (by omega), specIsSet, Gen.rd_nat]
  simp only [Option.bind_some]
  cases isSet n (l.getD i 0) with
  | false => rfl
  | true =>
   rw [if_pos rfl, Gen.w64s i (by omega)]
   by_cases h0 : i = 0
   ·subst h0
    rw [if_neg (by decide), if_pos (by rfl)]
   ·rw [if_pos (by omega), Gen.w64 (by omega) (by omega), show (i : Int) - 1 = ((i - 1 : Nat) : Int) by omega, if_pos (by omega), if_pos (by omega), Gen.rd_nat]
    by_cases h1 : l.getD (i - 1) 0 ≥ l.getD i 0
    ·rw [if_pos h1, decide_eq_false h0, decide_eq_false (by omega)]
     rfl
    ·rw [if_neg h1, decide_eq_false h0, decide_eq_true (by omega)]
     rfl
 ·simp only [spec_IsFamily.l0]
  rw [if_neg (by omega)]
  unfold spec_l1In.f
  by_cases h0 : n ≥ 0
  ·rw [if_pos h0]
   simp only [Option.bind_some]
   congr 1
   rw [decide_eq_decide]
   omega
  ·rw [if_neg h0, decide_eq_false (by omega)]
   rfl
theorem fam_nat {n : Int} {l : List Int} (h : fam n l = true) : ∃ (m : Nat) (lN : List Nat), n = m ∧ m ≤ 8 ∧ l = ints lN ∧ ∀ s ∈ lN, s < 2 ^ m := by
 unfold fam at h
 rw [Bool.and_eq_true, decide_eq_true_eq] at h
 obtain ⟨hl, h0, h8⟩ := h
 have key : ∀ s ∈ l, 0 ≤ s ∧ s < 2 ^ n.toNat := fun s hs => by
  obtain ⟨i, hi, rfl⟩ := List.getElem_of_mem hs
  have := List.all_eq_true.1 hl i (List.mem_range'_1.2 (by omega))
  rw [Bool.and_eq_true] at this
  have h1 := this.1
  unfold isSet at h1
  rw [decide_eq_true_eq] at h1
  have e : l.getD i 0 = l[i] := by simp [List.getD, hi]
  rw [e] at h1
  exact ⟨h1.2.2.1, h1.2.2.2⟩
 refine ⟨n.toNat, l.map Int.toNat, by omega, by omega, ?_, fun s hs => ?_⟩
 ·unfold ints
  rw [List.map_map]
  conv => lhs; rw [← List.map_id l]
  refine List.map_congr_left fun s hs => ?_
  have := (key s hs).1
  show s = ((s.toNat : Nat) : Int)
  omega
 ·obtain ⟨x, hx, rfl⟩ := List.mem_map.1 hs
  obtain ⟨h1, h2⟩ := key x hx
  have e : ((2 : Int) ^ n.toNat) = ((2 ^ n.toNat : Nat) : Int) := by push_cast; rfl
  rw [e] at h2
  omega
theorem index (l : List Nat) (x : Nat) (hn : l.length ≤ 1048576) : ∀ (d i k : Nat), i + d = l.length → d < k → ∃ r, slices_Index_int_int.l0 k (ints l) (x : Int) ((ints l).length : Int) (i : Int) = some r ∧ decide (r ≥ 0) = (l.drop i).contains x := by
 intro d
 induction d with
 | zero =>
  intro i k hi hk
  obtain ⟨k, rfl⟩ : ∃ m, k = m + 1 := ⟨k - 1, by omega⟩
  refine ⟨-1, ?_, ?_⟩
  ·simp only [slices_Index_int_int.l0]
   rw [if_neg (by rw [ints_length]; omega)]
  ·rw [List.drop_of_length_le (by omega)]
   rfl
 | succ d ih =>
  intro i k hi hk
  obtain ⟨k, rfl⟩ : ∃ m, k = m + 1 := ⟨k - 1, by omega⟩
  have hlt : i < l.length := by omega
  simp only [slices_Index_int_int.l0]
  rw [if_pos (by rw [ints_length]; omega), if_pos (by omega), if_pos (by rw [ints_length]; omega), ints_rd, Gen.w64s i (by omega)]
  have hd : l.drop i = l.getD i 0 :: l.drop (i + 1) := by
   rw [List.drop_eq_getElem_cons hlt]
   simp [List.getD, hlt]
  rw [hd]
  by_cases h : x = l.getD i 0
  ·refine ⟨i, by rw [if_pos (by omega)], ?_⟩
   rw [← h, List.contains_cons, beq_self_eq_true, Bool.true_or, decide_eq_true (by omega)]
  ·obtain ⟨r, h1, h2⟩ := ih (i + 1) k (by omega) (by omega)
   refine ⟨r, by rw [if_neg (by omega)]; exact h1, ?_⟩
   rw [h2, List.contains_cons, beq_eq_false_iff_ne.2 h, Bool.false_or]
theorem implHas (l : List Nat) (x : Nat) (hn : l.length ≤ 1048576) (k : Nat) (hk : l.length < k) : impl_HasSet.f k (ints l) (x : Int) = some (l.contains x) := by
 unfold impl_HasSet.f slices_Contains_int_int.f slices_Index_int_int.f
 obtain ⟨r, h1, h2⟩ := index l x hn l.length 0 k (by omega) hk
 rw [show (0 : Int) = ((0 : Nat) : Int) from rfl, h1]
 simp only [Option.bind_some]
 rw [show ((0 : Nat) : Int) = (0 : Int) from rfl, h2, List.drop_zero]
theorem specHas (l : List Nat) (x : Nat) (hn : l.length ≤ 1048576) (k : Nat) (hk : l.length < k) : spec_HasSet.f k (ints l) (x : Int) = some (l.contains x) := by
 unfold spec_HasSet.f
 have key : ∀ (d i k : Nat), i + d = l.length → d < k → spec_HasSet.l0 k (ints l) (x : Int) (i : Int) = some ((l.drop i).contains x) := by
  intro d
  induction d with
  | zero =>
   intro i k hi hk
   obtain ⟨k, rfl⟩ : ∃ m, k = m + 1 := ⟨k - 1, by omega⟩
   simp only [spec_HasSet.l0]
   rw [if_neg (by rw [ints_length]; omega), List.drop_of_length_le (by omega)]
   rfl
  | succ d ih =>
   intro i k hi hk
   obtain ⟨k, rfl⟩ : ∃ m, k = m + 1 := ⟨k - 1, by omega⟩
   have hlt : i < l.length := by omega
   simp only [spec_HasSet.l0]
   rw [if_pos (by rw [ints_length]; omega), if_pos (by omega), ints_rd, Gen.w64s i (by omega)]
   have hd : l.drop i = l.getD i 0 :: l.drop (i + 1) := by
    rw [List.drop_eq_getElem_cons hlt]
    simp [List.getD, hlt]
   rw [hd, List.contains_cons]
   by_cases h : l.getD i 0 = x
   ·rw [if_pos (by omega), ← h, beq_self_eq_true, Bool.true_or]
   ·rw [if_neg (by omega), ih (i + 1) k (by omega) (by omega), beq_eq_false_iff_ne.2 (Ne.symm h), Bool.false_or]
 have := key l.length 0 k (by omega) hk
 rw [List.drop_zero] at this
 exact this
theorem implElem (s : Nat) (j : Nat) (hs : s < 256) (hj : j < 8) : impl_HasElement.f (s : Int) (j : Int) = some (s.testBit j) := by
 unfold impl_HasElement.f impl_isAny.f
 rw [if_pos (by omega)]
 simp only [Option.bind_some]
 rw [if_pos (decide_eq_true (by omega)), if_pos (by omega), if_pos (by omega), if_pos (by omega), shr_bit s j (by omega) (by omega)]
theorem foldl_elems (s : Nat) : ((List.range' 0 8).foldl (fun (acc : List Int) (j : Nat) => if s.testBit j = true then acc ++ [(j : Int)] else acc) []) = ints (elems s) := by
 rw [Gen.foldl_append (fun j => s.testBit j)]
 rfl
theorem implElements (s : Nat) (hs : s < 256) : Ev (fun k => impl_ElementsOf.f k (s : Int)) (ints (elems s)) := by
 unfold impl_ElementsOf.f
 refine Gen.ev_loop (fun k s3 i => impl_ElementsOf.l0 k (s : Int) s3 i) 8 (fun j s3 => if s.testBit j = true then s3 ++ [(j : Int)] else s3) (fun i s3 => s3.length ≤ i) _ (fun i s3 hi hP => ⟨?_, fun h => Ev.step (fun k => ?_) h⟩) 8 0 [] rfl (by simp) (fun _ => Gen.ev_at 1 (fun k hk => ?_))
 ·by_cases hh : s.testBit i = true
  ·rw [if_pos hh]; simp; omega
  ·rw [if_neg hh]; omega
 ·simp only [impl_ElementsOf.l0]
  rw [if_pos (by omega), implElem s i hs hi]
  simp only [Option.bind_some]
  rw [Gen.w64s i (by omega)]
  by_cases hh : s.testBit i = true
  ·rw [if_pos hh, if_pos (by omega), if_pos hh]
  ·rw [if_neg hh, if_neg hh]
 ·obtain ⟨m, rfl⟩ : ∃ m, k = m + 1 := ⟨k - 1, by omega⟩
  simp only [impl_ElementsOf.l0]
  rw [if_neg (by omega), foldl_elems]
theorem indexFunc (g : Int → Option Bool) (fs : List Nat) (v : Nat → Bool) (hn : fs.length ≤ 1048576) (hg : ∀ f ∈ fs, g (f : Int) = some (v f)) :
  ∀ (d i k : Nat), i + d = fs.length → d < k → ∃ r, slices_IndexFunc_int_int.l0 g k (ints fs) (i : Int) = some r ∧ decide (r ≥ 0) = (fs.drop i).any v := by
 intro d
 induction d with
 | zero =>
  intro i k hi hk
  obtain ⟨k, rfl⟩ : ∃ m, k = m + 1 := ⟨k - 1, by omega⟩
  refine ⟨-1, ?_, ?_⟩
  ·simp only [slices_IndexFunc_int_int.l0]
   rw [if_neg (by rw [ints_length]; omega)]
  ·rw [List.drop_of_length_le (by omega)]
   rfl
 | succ d ih =>
  intro i k hi hk
  obtain ⟨k, rfl⟩ : ∃ m, k = m + 1 := ⟨k - 1, by omega⟩
  have hlt : i < fs.length := by omega
  simp only [slices_IndexFunc_int_int.l0]
  rw [if_pos (by rw [ints_length]; omega), if_pos (by omega), ints_rd, hg _ (getD_mem fs 0 i hlt), Gen.w64s i (by omega)]
  simp only [Option.bind_some]
  have hd : fs.drop i = fs.getD i 0 :: fs.drop (i + 1) := by
   rw [List.drop_eq_getElem_cons hlt]
   simp [List.getD, hlt]
  rw [hd, List.any_cons]
  cases hv : v (fs.getD i 0) with
  | true => exact ⟨i, by rw [if_pos rfl], by rw [decide_eq_true (by omega), Bool.true_or]⟩
  | false =>
   obtain ⟨r, h1, h2⟩ := ih (i + 1) k (by omega) (by omega)
   exact ⟨r, by rw [if_neg (by decide)]; exact h1, by rw [h2, Bool.false_or]⟩
theorem containsFunc (g : Int → Option Bool) (fs : List Nat) (v : Nat → Bool) (hn : fs.length ≤ 1048576) (hg : ∀ f ∈ fs, g (f : Int) = some (v f)) (k : Nat) (hk : fs.length < k) :
  slices_ContainsFunc_int_int.f k (ints fs) g = some (fs.any v) := by
 unfold slices_ContainsFunc_int_int.f slices_IndexFunc_int_int.f
 obtain ⟨r, h1, h2⟩ := indexFunc g fs v hn hg fs.length 0 k (by omega) hk
 rw [show (0 : Int) = ((0 : Nat) : Int) from rfl, h1]
 simp only [Option.bind_some]
 rw [show ((0 : Nat) : Int) = (0 : Int) from rfl, h2, List.drop_zero]
theorem swapImpl (l : List Nat) (a e f : Nat) (hn : l.length ≤ 1048576) (ha : a < 256) (he : e < 8) (hf : f < 8) (hae : a.testBit e = true) (haf : a.testBit f = false) (k : Nat) (hk : l.length < k) :
  impl_FirstFailure_1.f k (ints l) (a : Int) (e : Int) (f : Int) = some (l.contains (a - 2 ^ e + 2 ^ f)) := by
 unfold impl_FirstFailure_1.f
 have h1 : (2 : Nat) ^ e < 2 ^ 62 := Nat.pow_lt_pow_right (by decide) (by omega)
 have h2 : (2 : Nat) ^ f < 2 ^ 62 := Nat.pow_lt_pow_right (by decide) (by omega)
 have h3 : diff a (2 ^ e) < 2 ^ 8 := diff_lt (n := 8) (by omega)
 rw [if_pos (by omega), if_pos (by omega), shl_nat e (by omega), shl_nat f (by omega), andNot_nat a _ (by omega), or_nat _ _ (by omega) h2, swap_eq a ha e he f hf hae haf]
 exact implHas l _ hn k hk
theorem exch_elems (l : List Nat) (a b e : Nat) : exch l a b e = (elems (diff b a)).any fun f => l.contains (a - 2 ^ e + 2 ^ f) := by
 rw [elems_any]
 unfold exch
 congr 1
 funext f
 rw [diff_bit]
theorem fails_elems (l : List Nat) : fails l = l.any fun a => l.any fun b => (elems (diff a b)).any fun e => !exch l a b e := by
 unfold fails
 congr 1
 funext a
 congr 1
 funext b
 rw [elems_any]
 congr 1
 funext e
 rw [diff_bit]
theorem implFirst (m : Nat) (hm : m ≤ 8) (l : List Nat) (hl : ∀ s ∈ l, s < 2 ^ m) (hn : l.length ≤ 1048576) (hf : fam (m : Int) (ints l) = true) :
  ∃ x y z, Ev (fun k => impl_FirstFailure.f k (m : Int) (ints l)) (x, y, z, fails l) := by
 have h256 := pow_le_256 hm
 have hlt : ∀ i, i < l.length → l.getD i 0 < 256 := fun i hi => Nat.lt_of_lt_of_le (hl _ (getD_mem l 0 i hi)) h256
 have inner : ∀ x y : Nat, x < l.length → y < l.length → ∀ d i : Nat, i + d = (elems (diff (l.getD x 0) (l.getD y 0))).length → _ := fun x y hx hy =>
  ev_search (fun k z => impl_FirstFailure.l2 k (m : Int) (ints l) (x : Int) ((l.getD x 0 : Nat) : Int) (y : Int) ((l.getD y 0 : Nat) : Int) (ints (elems (diff (l.getD x 0) (l.getD y 0)))) z) (elems (diff (l.getD x 0) (l.getD y 0))).length
   (fun z => !exch l (l.getD x 0) (l.getD y 0) ((elems (diff (l.getD x 0) (l.getD y 0))).getD z 0)) (fun r => r.2.2.2 = true)
   (by
    intro z hz hp
    have ha := hlt x hx
    have hb := hlt y hy
    obtain ⟨he, hbit⟩ := elems_lt (getD_mem _ 0 z hz)
    rw [diff_bit, Bool.and_eq_true] at hbit
    have hl8 := elems_length (diff (l.getD x 0) (l.getD y 0))
    have hd : diff (l.getD y 0) (l.getD x 0) < 2 ^ 8 := diff_lt (n := 8) (by omega)
    refine ⟨(((l.getD x 0 : Nat) : Int), ((l.getD y 0 : Nat) : Int), (((elems (diff (l.getD x 0) (l.getD y 0))).getD z 0 : Nat) : Int), true), rfl, ?_⟩
    refine Ev.step (f := fun k => (impl_ElementsOf.f k (Go.bits .andNot .i64 ((l.getD y 0 : Nat) : Int) ((l.getD x 0 : Nat) : Int))).bind fun fs => ((slices_ContainsFunc_int_int.f k fs (fun f => impl_FirstFailure_1.f k (ints l) ((l.getD x 0 : Nat) : Int) (((elems (diff (l.getD x 0) (l.getD y 0))).getD z 0 : Nat) : Int) f)).bind fun t => (if t = true then (impl_FirstFailure.l2 k (m : Int) (ints l) (x : Int) ((l.getD x 0 : Nat) : Int) (y : Int) ((l.getD y 0 : Nat) : Int) (ints (elems (diff (l.getD x 0) (l.getD y 0)))) ((z + 1 : Nat) : Int)) else (some (((l.getD x 0 : Nat) : Int), ((l.getD y 0 : Nat) : Int), (((elems (diff (l.getD x 0) (l.getD y 0))).getD z 0 : Nat) : Int), true))))) (fun k => ?_) ?_
    ·simp only [impl_FirstFailure.l2]
     rw [if_pos (by rw [ints_length]; omega), if_pos (by omega), ints_rd, Gen.w64s z (by omega)]
    ·rw [andNot_nat _ _ (by omega)]
     refine Ev.bind (implElements _ (by omega)) ?_
     refine Ev.bind (a := exch l (l.getD x 0) (l.getD y 0) ((elems (diff (l.getD x 0) (l.getD y 0))).getD z 0)) (Gen.ev_at (1048577 + 8) (fun k hk => ?_)) ?_
     ·rw [exch_elems]
      refine containsFunc _ _ _ (by have := elems_length (diff (l.getD y 0) (l.getD x 0)); omega) (fun f hf => ?_) k (by have := elems_length (diff (l.getD y 0) (l.getD x 0)); omega)
      obtain ⟨hf8, hfb⟩ := elems_lt hf
      rw [diff_bit, Bool.and_eq_true] at hfb
      exact swapImpl l _ _ _ hn ha he hf8 hbit.1 (by simpa using hfb.2) k (by omega)
     ·have hp' : exch l (l.getD x 0) (l.getD y 0) ((elems (diff (l.getD x 0) (l.getD y 0))).getD z 0) = false := by simpa using hp
      rw [hp']
      exact Ev.now _)
   (by
    intro z hz hp r hr
    have ha := hlt x hx
    have hb := hlt y hy
    obtain ⟨he, hbit⟩ := elems_lt (getD_mem _ 0 z hz)
    rw [diff_bit, Bool.and_eq_true] at hbit
    have hl8 := elems_length (diff (l.getD x 0) (l.getD y 0))
    have hd : diff (l.getD y 0) (l.getD x 0) < 2 ^ 8 := diff_lt (n := 8) (by omega)
    refine Ev.step (f := fun k => (impl_ElementsOf.f k (Go.bits .andNot .i64 ((l.getD y 0 : Nat) : Int) ((l.getD x 0 : Nat) : Int))).bind fun fs => ((slices_ContainsFunc_int_int.f k fs (fun f => impl_FirstFailure_1.f k (ints l) ((l.getD x 0 : Nat) : Int) (((elems (diff (l.getD x 0) (l.getD y 0))).getD z 0 : Nat) : Int) f)).bind fun t => (if t = true then (impl_FirstFailure.l2 k (m : Int) (ints l) (x : Int) ((l.getD x 0 : Nat) : Int) (y : Int) ((l.getD y 0 : Nat) : Int) (ints (elems (diff (l.getD x 0) (l.getD y 0)))) ((z + 1 : Nat) : Int)) else (some (((l.getD x 0 : Nat) : Int), ((l.getD y 0 : Nat) : Int), (((elems (diff (l.getD x 0) (l.getD y 0))).getD z 0 : Nat) : Int), true))))) (fun k => ?_) ?_
    ·simp only [impl_FirstFailure.l2]
     rw [if_pos (by rw [ints_length]; omega), if_pos (by omega), ints_rd, Gen.w64s z (by omega)]
    ·rw [andNot_nat _ _ (by omega)]
     refine Ev.bind (implElements _ (by omega)) ?_
     refine Ev.bind (a := exch l (l.getD x 0) (l.getD y 0) ((elems (diff (l.getD x 0) (l.getD y 0))).getD z 0)) (Gen.ev_at (1048577 + 8) (fun k hk => ?_)) ?_
     ·rw [exch_elems]
      refine containsFunc _ _ _ (by have := elems_length (diff (l.getD y 0) (l.getD x 0)); omega) (fun f hf => ?_) k (by have := elems_length (diff (l.getD y 0) (l.getD x 0)); omega)
      obtain ⟨hf8, hfb⟩ := elems_lt hf
      rw [diff_bit, Bool.and_eq_true] at hfb
      exact swapImpl l _ _ _ hn ha he hf8 hbit.1 (by simpa using hfb.2) k (by omega)
     ·have hp' : exch l (l.getD x 0) (l.getD y 0) ((elems (diff (l.getD x 0) (l.getD y 0))).getD z 0) = true := by simpa using hp
      rw [hp']
      simp only [if_true]
      exact hr)
 have innerAny : ∀ x y : Nat, ((List.range' 0 (elems (diff (l.getD x 0) (l.getD y 0))).length).any fun z => !exch l (l.getD x 0) (l.getD y 0) ((elems (diff (l.getD x 0) (l.getD y 0))).getD z 0)) = (elems (diff (l.getD x 0) (l.getD y 0))).any fun e => !exch l (l.getD x 0) (l.getD y 0) e := fun x y => any_index (elems (diff (l.getD x 0) (l.getD y 0))) 0 (fun e => !exch l (l.getD x 0) (l.getD y 0) e)
 have middle : ∀ x : Nat, x < l.length → ∀ d i : Nat, i + d = l.length → _ := fun x hx =>
  ev_search (fun k y => impl_FirstFailure.l1 k (m : Int) (ints l) (x : Int) ((l.getD x 0 : Nat) : Int) y) l.length
   (fun y => (elems (diff (l.getD x 0) (l.getD y 0))).any fun e => !exch l (l.getD x 0) (l.getD y 0) e) (fun r => r.2.2.2 = true)
   (by
    intro y hy hp
    have ha := hlt x hx
    obtain ⟨h1, _⟩ := inner x y hx hy (elems (diff (l.getD x 0) (l.getD y 0))).length 0 (by omega)
    rw [innerAny] at h1
    obtain ⟨r, hr, hE⟩ := h1 hp
    refine ⟨r, hr, Ev.step (f := fun k => (impl_ElementsOf.f k (Go.bits .andNot .i64 ((l.getD x 0 : Nat) : Int) ((l.getD y 0 : Nat) : Int))).bind fun es => (impl_FirstFailure.l2 k (m : Int) (ints l) (x : Int) ((l.getD x 0 : Nat) : Int) (y : Int) ((l.getD y 0 : Nat) : Int) es 0)) (fun k => ?_) ?_⟩
    ·simp only [impl_FirstFailure.l1]
     rw [if_pos (by rw [ints_length]; omega), if_pos (by omega), ints_rd]
    ·rw [andNot_nat _ _ (by omega)]
     have hd : diff (l.getD x 0) (l.getD y 0) < 2 ^ 8 := diff_lt (n := 8) (by omega)
     exact Ev.bind (implElements _ (by omega)) hE)
   (by
    intro y hy hp r hr
    have ha := hlt x hx
    obtain ⟨_, h2⟩ := inner x y hx hy (elems (diff (l.getD x 0) (l.getD y 0))).length 0 (by omega)
    rw [innerAny] at h2
    refine Ev.step (f := fun k => (impl_ElementsOf.f k (Go.bits .andNot .i64 ((l.getD x 0 : Nat) : Int) ((l.getD y 0 : Nat) : Int))).bind fun es => (impl_FirstFailure.l2 k (m : Int) (ints l) (x : Int) ((l.getD x 0 : Nat) : Int) (y : Int) ((l.getD y 0 : Nat) : Int) es 0)) (fun k => ?_) ?_
    ·simp only [impl_FirstFailure.l1]
     rw [if_pos (by rw [ints_length]; omega), if_pos (by omega), ints_rd]
    ·rw [andNot_nat _ _ (by omega)]
     have hd : diff (l.getD x 0) (l.getD y 0) < 2 ^ 8 := diff_lt (n := 8) (by omega)
     refine Ev.bind (implElements _ (by omega)) (h2 hp r (Ev.step (fun k => ?_) hr))
     simp only [impl_FirstFailure.l2]
     rw [if_neg (by rw [ints_length]; omega), Gen.w64s y (by omega)])
 have middleAny : ∀ x : Nat, ((List.range' 0 l.length).any fun y => (elems (diff (l.getD x 0) (l.getD y 0))).any fun e => !exch l (l.getD x 0) (l.getD y 0) e) = l.any fun b => (elems (diff (l.getD x 0) b)).any fun e => !exch l (l.getD x 0) b e := fun x => any_index l 0 (fun b => (elems (diff (l.getD x 0) b)).any fun e => !exch l (l.getD x 0) b e)
 obtain ⟨o1, o2⟩ := ev_search (fun k x => impl_FirstFailure.l0 k (m : Int) (ints l) x) l.length
   (fun x => l.any fun b => (elems (diff (l.getD x 0) b)).any fun e => !exch l (l.getD x 0) b e) (fun r => r.2.2.2 = true)
   (by
    intro x hx hp
    obtain ⟨h1, _⟩ := middle x hx l.length 0 (by omega)
    rw [middleAny] at h1
    obtain ⟨r, hr, hE⟩ := h1 hp
    refine ⟨r, hr, Ev.step (fun k => ?_) hE⟩
    simp only [impl_FirstFailure.l0]
    rw [if_pos (by rw [ints_length]; omega), if_pos (by omega), ints_rd]
    rfl)
   (by
    intro x hx hp r hr
    obtain ⟨_, h2⟩ := middle x hx l.length 0 (by omega)
    rw [middleAny] at h2
    have h3 := h2 hp r (Ev.step (fun k => by
     simp only [impl_FirstFailure.l1]
     rw [if_neg (by rw [ints_length]; omega), Gen.w64s x (by omega)]) hr)
    refine Ev.step (fun k => ?_) h3
    simp only [impl_FirstFailure.l0]
    rw [if_pos (by rw [ints_length]; omega), if_pos (by omega), ints_rd]
    rfl) l.length 0 (by omega)
 have outerAny : ((List.range' 0 l.length).any fun x => l.any fun b => (elems (diff (l.getD x 0) b)).any fun e => !exch l (l.getD x 0) b e) = fails l := by
  rw [fails_elems]
  exact any_index l 0 (fun a => l.any fun b => (elems (diff a b)).any fun e => !exch l a b e)
 rw [outerAny] at o1 o2
 have start : ∀ r, Ev (fun k => impl_FirstFailure.l0 k (m : Int) (ints l) 0) r → Ev (fun k => impl_FirstFailure.f k (m : Int) (ints l)) r := fun r hr => by
  unfold impl_FirstFailure.f
  refine Ev.bind (Gen.ev_at (l.length + 1) (fun k hk => implFamily (m : Int) (ints l) (by rw [ints_length]; exact hn) k (by rw [ints_length]; omega))) ?_
  rw [hf]
  simp only [if_true]
  exact hr
 cases hfl : fails l with
 | true =>
  obtain ⟨⟨x, y, z, b⟩, hb, hE⟩ := o1 hfl
  simp only at hb
  subst hb
  exact ⟨x, y, z, start _ hE⟩
 | false =>
  refine ⟨0, 0, 0, start _ (o2 hfl _ (Gen.ev_at 1 (fun k hk => ?_)))⟩
  obtain ⟨q, rfl⟩ : ∃ q, k = q + 1 := ⟨k - 1, by omega⟩
  simp only [impl_FirstFailure.l0]
  rw [if_neg (by rw [ints_length]; omega)]
end Go.Proofs.Ytmpodackojmojaa.Mat
end
