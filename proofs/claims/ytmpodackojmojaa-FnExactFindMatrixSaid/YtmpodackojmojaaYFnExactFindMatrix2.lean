/- The claim FnExactFindMatrix: every text that its row comes to, laid together by slim.py (the words of the kit's print, the printed walks, the pure law, the row). -/
import Derived.Lib.OwnBridge
import Derived.Lib.RowBridge
import Derived.Shelf.SlGeneric
import Derived.Shelf.SlLaysF
import Derived.Shelf.Slices.CompactI
import Derived.Shelf.Slices.In.SortNone
import Derived.Shelf.Sort.Plain
import Derived.Sort.Grow
import Derived.Sort.OwnSortedInts
import Derived.Test.YtmpodackojmojaaProg
import Derived.Test.YtmpodackojmojaaYFnExactFindMatrix1
section
namespace Go.Proofs.Ytmpodackojmojaa.Pr
open Go.RowKit Go.Proofs.YtmpodackojmojaaW.PrintWords Go.Proofs.YtmpodackojmojaaW.PrintLast Go.Proofs.YtmpodackojmojaaW.PrintMore
attribute [local go_sem] max2_int min2_int max_two min_two max_three min_three max_four min_four
set_option linter.unusedVariables false
set_option linter.unusedSimpArgs false
mutual
def spec_FindMatrix.j0 : Nat → Int → Bool → Int → List Int → Option (Int × Int × Int × List Int × Bool)
 | 0, _, _, _, _ => none
 | k + 1, x1, x23, x855000, x855001 => if x23 = true then (some (0, 0, 0, ([] : List Int), false)) else (if 0 < (x855001.length : Int) then ((spec_l26Start.f k x855000 x855001 x1 (rd x855001 0)).bind fun bt858 => (spec_FindMatrix.l0 k (rd x855001 0) x855000 x855001 bt858.1 bt858.2.1 bt858.2.2.1 bt858.2.2.2)) else (none))
def spec_FindMatrix.l0 : Nat → Int → Int → List Int → Int → Int → Int → List Int → Option (Int × Int × Int × List Int × Bool)
 | 0, _, _, _, _, _, _, _ => none
 | k + 1, x6, x855000, x855001, x865000, x865001, x865002, x865003 => (spec_FromMatrix.f k x865000 x865001 x865002 x865003).bind fun bt865 => ((spec_EqualMatroid.f k bt865.1 bt865.2 x855000 x855001).bind fun t869 => (if t869 = true then (some (x865000, x865001, x865002, x865003, true)) else ((spec_l26Next.f k x865000 x865001 x865002 x865003 x6).bind fun bt870 => (if bt870.1 = true then (spec_FindMatrix.l0 k x6 x855000 x855001 x865000 x865001 x865002 bt870.2) else (some (0, 0, 0, ([] : List Int), false))))))
end
def spec_FindMatrix.f (k : Nat) (a0_0 : Int) (l0_1 : List Int) (a1 : Int) : Option (Int × Int × Int × List Int × Bool) := (spec_IsMatroid.f k a0_0 l0_1).bind fun t856 => (if t856 = true then (if a0_0 > 6 then (spec_FindMatrix.j0 k a1 true a0_0 l0_1) else (if a1 = 2 then (spec_FindMatrix.j0 k a1 false a0_0 l0_1) else (spec_FindMatrix.j0 k a1 (a1 != 3) a0_0 l0_1))) else (spec_FindMatrix.j0 k a1 true a0_0 l0_1))
set_option maxHeartbeats 8000000 in
set_option maxRecDepth 100000 in
theorem spec_FindMatrix.calls (k : Nat) (a0_0 : Int) (A0_1 : Option Addr) (c0_1 : Nat) (l0_1 : List Int) (a1 : Int) (r1 : Int) (r2 : Int) (r3 : Int) (r4 : List Int) (r5 : Bool) (w : World) (hr0_1 : Kd.C (Kd.int .i64) w A0_1 l0_1.length l0_1) (hc0_1 : l0_1.length ≤ c0_1) (h : spec_FindMatrix.f k a0_0 l0_1 a1 = some (r1, r2, r3, r4, r5)) :
  Calls Try.prog 38 #[.agg #[.int .i64 a0_0, .slice A0_1 l0_1.length c0_1], .int .i64 a1] w fun e w' => ∃ v3_ : Value, e = .returned (.tuple #[.agg #[.int .i64 r1, .int .i64 r2, .int .i64 r3, v3_], .bool r5]) ∧ Kd.R (Kd.int .i64) 3 w' w.heap.size (fun _ => True) v3_ r4 ∧ Below w.heap.size w w' := by
 have hu35 := Try.underlying35
 have hu49 := Try.underlying49
 have HR0_1 := Aside0.mk hr0_1
 have HC0_1 := Aside0.mk hc0_1
 clear hr0_1 hc0_1
 have HB := Aside0.mk (Below.refl w.heap.size w)
 unfold spec_FindMatrix.f at h
 have H := h
 clear h
 have HC3 := Aside0.mk H
 clear H
 go_enter Try.func38, Try.ntmps38
 go_upto_region 1 with (first | (refine Hof.bx 2 #[.int .i64 a0_0, .slice A0_1 l0_1.length c0_1] 35 ?_; intro gb854 hg w4 hbox hb; have BK854 := Aside0.mk hbox; have GW854 := Hof.gw hg HB; have GE854 := Hof.gw hg HB; replace HB := Hof.lb HB hb; clear hb hbox hg) | (refine Hof.bx 4 #[.int .i64 0, .int .i64 0, .int .i64 0, .slice none 0 0] 49 ?_; intro gb855 hg w5 hbox hb; have BK855 := Aside0.mk hbox; have GW855 := Hof.gL (w := w) hg Hof.L; have GE855 := Hof.gL (w := w) hg Hof.L; replace HB := Aside0.mk (below_step Hof.L hb); have NB854_855 := Hof.nl hg BK854; have NB855_854 := Hof.ng hg BK854; replace BK854 := Hof.bb BK854 hb; clear hb hbox hg))
 (try simp only [Act.put, List.setIfInBounds_toArray, List.set_cons_zero, List.set_cons_succ])
 go_cut [23] (fun v23 wc => ∃ (kq : Nat) (x23_2 : Bool), v23 = .bool x23_2 ∧ Aside0 (spec_FindMatrix.j0 kq a1 x23_2 a0_0 l0_1 = some (r1, r2, r3, r4, r5)) ∧ Aside0 (kq ≤ k) ∧ Aside0 (wc.heap[gb854]? = some (.cells #[.int .i64 a0_0, (.slice A0_1 l0_1.length c0_1)] 35 (0, 0))) ∧ Aside0 (wc.heap[gb855]? = some (.cells #[.int .i64 0, .int .i64 0, .int .i64 0, (.slice none 0 0)] 49 (0, 0))) ∧ Aside0 (Below w.heap.size w wc))
 case first =>
  have H := HC3.out
  clear HC3
  obtain ⟨t856, A6, H⟩ := Hof.be H
  (try dsimp only at H)
  by_cases c7 : t856 = true
  ·subst c7
   replace H : (if a0_0 > 6 then (spec_FindMatrix.j0 k a1 true a0_0 l0_1) else (if a1 = 2 then (spec_FindMatrix.j0 k a1 false a0_0 l0_1) else (spec_FindMatrix.j0 k a1 (a1 != 3) a0_0 l0_1))) = some (r1, r2, r3, r4, r5) := by rw [if_pos rfl] at H; exact H
   by_cases c8 : a0_0 > 6
   ·rw [if_pos c8] at H
    have c8b0 := decide_eq_true c8
    clear c8
    (first | rw [c8b0] | (simp only [i64_w, i32_w]; rw [c8b0]) | skip)
    have H' := Aside0.mk H
    clear H
    have hnb9 := NB854_855.out
    have hnc9 := NB855_854.out
    obtain ⟨hcz10_0, hcz10_1, hfz10_0, hfz10_1⟩ := Hof.blk2 BK854.out
    go_wp2_with (first | (refine Hof.gl (some 9) Try.func76 #[.agg #[.int .i64 a0_0, .slice A0_1 l0_1.length c0_1]] ?_; (with_reducible refine (spec_IsMatroid.calls k a0_0 _ _ l0_1 true _ ?side1 ?side2 A6.out).mono ?_); (case side1 => exact Hof.Cw (Kd.C_below HR0_1.out HB.out)); (case side2 => exact HC0_1.out); rintro e w11 ⟨rfl, hb⟩; refine ⟨_, rfl, ?_⟩; replace BK854 := Hof.bb BK854 hb; replace BK855 := Hof.bb BK855 hb; replace HB := Aside0.mk (below_step Hof.L hb); (try clear hb); (try clear hb2); (try clear hk); (try clear hi); obtain ⟨hcz12_0, hcz12_1, hfz12_0, hfz12_1⟩ := Hof.blk2 BK854.out))
    go_meet
    case rel => exact ⟨_, (true), Hof.F, H', ⟨by first | omega | exact Nat.le_refl _⟩, ⟨Hof.Bw BK854.out⟩, ⟨Hof.Bw BK855.out⟩, ⟨Hof.L⟩⟩
   ·rw [if_neg c8] at H
    have c8b0 : decide (6 < a0_0) = false := decide_eq_false c8
    clear c8
    (first | rw [c8b0] | (simp only [i64_w, i32_w]; rw [c8b0]) | skip)
    by_cases c13 : a1 = 2
    ·rw [if_pos c13] at H
     have c13b0 : (a1 == 2) = true := beq_iff_eq.mpr c13
     have c13b1 : (a1 != 2) = false := bne_eq_false_iff_eq.mpr c13
     clear c13
     have H' := Aside0.mk H
     clear H
     have hnb14 := NB854_855.out
     have hnc14 := NB855_854.out
     obtain ⟨hcz15_0, hcz15_1, hfz15_0, hfz15_1⟩ := Hof.blk2 BK854.out
     go_wp2_with (first | (refine Hof.gl (some 9) Try.func76 #[.agg #[.int .i64 a0_0, .slice A0_1 l0_1.length c0_1]] ?_; (with_reducible refine (spec_IsMatroid.calls k a0_0 _ _ l0_1 true _ ?side1 ?side2 A6.out).mono ?_); (case side1 => exact Hof.Cw (Kd.C_below HR0_1.out HB.out)); (case side2 => exact HC0_1.out); rintro e w16 ⟨rfl, hb⟩; refine ⟨_, rfl, ?_⟩; replace BK854 := Hof.bb BK854 hb; replace BK855 := Hof.bb BK855 hb; replace HB := Aside0.mk (below_step Hof.L hb); (try clear hb); (try clear hb2); (try clear hk); (try clear hi); obtain ⟨hcz17_0, hcz17_1, hfz17_0, hfz17_1⟩ := Hof.blk2 BK854.out))
     go_meet
     case rel => exact ⟨_, (false), Hof.F, H', ⟨by first | omega | exact Nat.le_refl _⟩, ⟨Hof.Bw BK854.out⟩, ⟨Hof.Bw BK855.out⟩, ⟨Hof.L⟩⟩
    ·rw [if_neg c13] at H
     have c13b0 : (a1 == 2) = false := beq_eq_false_iff_ne.mpr c13
     have c13b1 : (a1 != 2) = true := bne_iff_ne.mpr c13
     have H' := Aside0.mk H
     clear H
     have hnb18 := NB854_855.out
     have hnc18 := NB855_854.out
     obtain ⟨hcz19_0, hcz19_1, hfz19_0, hfz19_1⟩ := Hof.blk2 BK854.out
     go_wp2_with (first | (refine Hof.gl (some 9) Try.func76 #[.agg #[.int .i64 a0_0, .slice A0_1 l0_1.length c0_1]] ?_; (with_reducible refine (spec_IsMatroid.calls k a0_0 _ _ l0_1 true _ ?side1 ?side2 A6.out).mono ?_); (case side1 => exact Hof.Cw (Kd.C_below HR0_1.out HB.out)); (case side2 => exact HC0_1.out); rintro e w20 ⟨rfl, hb⟩; refine ⟨_, rfl, ?_⟩; replace BK854 := Hof.bb BK854 hb; replace BK855 := Hof.bb BK855 hb; replace HB := Aside0.mk (below_step Hof.L hb); (try clear hb); (try clear hb2); (try clear hk); (try clear hi); obtain ⟨hcz21_0, hcz21_1, hfz21_0, hfz21_1⟩ := Hof.blk2 BK854.out))
     go_meet
     case rel => exact ⟨_, ((a1 != 3)), Hof.F, H', ⟨by first | omega | exact Nat.le_refl _⟩, ⟨Hof.Bw BK854.out⟩, ⟨Hof.Bw BK855.out⟩, ⟨Hof.L⟩⟩
  ·replace c7 := Bool.eq_false_iff.mpr c7
   subst c7
   replace H : (spec_FindMatrix.j0 k a1 true a0_0 l0_1) = some (r1, r2, r3, r4, r5) := by rw [if_neg (show ¬ (false = true) by decide)] at H; exact H
   have H' := Aside0.mk H
   clear H
   have hnb22 := NB854_855.out
   have hnc22 := NB855_854.out
   obtain ⟨hcz23_0, hcz23_1, hfz23_0, hfz23_1⟩ := Hof.blk2 BK854.out
   go_wp2_with (first | (refine Hof.gl (some 9) Try.func76 #[.agg #[.int .i64 a0_0, .slice A0_1 l0_1.length c0_1]] ?_; (with_reducible refine (spec_IsMatroid.calls k a0_0 _ _ l0_1 false _ ?side1 ?side2 A6.out).mono ?_); (case side1 => exact Hof.Cw (Kd.C_below HR0_1.out HB.out)); (case side2 => exact HC0_1.out); rintro e w24 ⟨rfl, hb⟩; refine ⟨_, rfl, ?_⟩; replace BK854 := Hof.bb BK854 hb; replace BK855 := Hof.bb BK855 hb; replace HB := Aside0.mk (below_step Hof.L hb); (try clear hb); (try clear hb2); (try clear hk); (try clear hi)))
   go_meet
   case rel => exact ⟨_, (true), Hof.F, H', ⟨by first | omega | exact Nat.le_refl _⟩, ⟨Hof.Bw BK854.out⟩, ⟨Hof.Bw BK855.out⟩, ⟨Hof.L⟩⟩
 case rest =>
  clear HC3
  obtain ⟨kq, x23_2, rfl, HA, HJ2, BK854, BK855, HB⟩ := hcut
  cases kq with
  | zero => exact absurd HA.out (by simp [spec_FindMatrix.j0])
  | succ kj2 =>
   have H := HA.out
   clear HA
   simp only [spec_FindMatrix.j0] at H
   by_cases c25 : x23_2 = true
   ·subst c25
    replace H : (some (0, 0, 0, ([] : List Int), false)) = some (r1, r2, r3, r4, r5) := by rw [if_pos rfl] at H; exact H
    simp only [Option.some.injEq, Prod.mk.injEq] at H
    obtain ⟨rfl, rfl, rfl, rfl, rfl⟩ := H
    have hnb26 := NB855_854.out
    have hnc26 := NB854_855.out
    obtain ⟨hcz27_0, hcz27_1, hcz27_2, hcz27_3, hfz27_0, hfz27_1, hfz27_2, hfz27_3⟩ := Hof.blk4 BK855.out
    go_wp2
    refine bodyPost_ret (results_ct rfl _ _ gb855 49 #[.int .i64 0, .int .i64 0, .int .i64 0, .slice none 0 0] (0, 0) _ rfl Hof.B Try.underlying49 rfl (by kernel_rfl)) rfl ?_
    exact ⟨_, Hof.E, Hof.N, Hof.L⟩
   ·replace c25 := Bool.eq_false_iff.mpr c25
    subst c25
    replace H : (if 0 < (l0_1.length : Int) then ((spec_l26Start.f kj2 a0_0 l0_1 a1 (rd l0_1 0)).bind fun bt858 => (spec_FindMatrix.l0 kj2 (rd l0_1 0) a0_0 l0_1 bt858.1 bt858.2.1 bt858.2.2.1 bt858.2.2.2)) else (none)) = some (r1, r2, r3, r4, r5) := by rw [if_neg (show ¬ (false = true) by decide)] at H; exact H
    by_cases c28 : 0 < (l0_1.length : Int)
    ·rw [if_pos c28] at H
     have c28b0 := decide_eq_true c28
     have c28b1 : decide (0 < l0_1.length) = true := decide_eq_true (by omega)
     clear c28
     obtain ⟨⟨t858, t859, t860, t861⟩, A29, H⟩ := Hof.be H
     (try dsimp only at H)
     have H' := Aside0.mk H
     clear H
     have hnb30 := NB854_855.out
     have hnc30 := NB855_854.out
     obtain ⟨hcz31_0, hcz31_1, hfz31_0, hfz31_1⟩ := Hof.blk2 BK854.out
     have p857 : 0 ≤ (0 : Int) := (by omega)
     have q857 : 0 < (l0_1.length : Int) := Hof.D
     obtain ⟨ad857, e857, hx857_0⟩ := Kd.at_int HR0_1.out 0 p857 q857
     cases e857
     have qi857 : (0 < l0_1.length) = True := eq_true (by omega)
     (try rw [show ((0 : Int)).toNat = 0 from rfl] at hx857_0)
     (try rw [Addr.add_zero'] at hx857_0)
     try replace hx857_0 := (HB.out.cell (World.block_lt_of_cell? w _ hx857_0)).trans hx857_0
     replace p857 := eq_true p857
     replace q857 := eq_true q857
     go_wp2_with (first | (refine Hof.gl (some 32) Try.func77 #[.agg #[.int .i64 a0_0, .slice (some ad857) l0_1.length c0_1], .int .i64 a1, .int .i64 (rd l0_1 0)] ?_; (with_reducible refine (spec_l26Start.calls kj2 a0_0 _ _ l0_1 a1 (rd l0_1 0) t858 t859 t860 t861 _ ?side1 ?side2 A29.out).mono ?_); (case side1 => exact Hof.Cw (Kd.C_below HR0_1.out HB.out)); (case side2 => exact HC0_1.out); rintro e w32 ⟨v862, rfl, ho0, hb⟩; refine ⟨_, rfl, ?_⟩; have HO863 := Aside0.mk (Kd.R_lower ho0 (below_size Hof.L)); replace BK854 := Hof.bb BK854 hb; replace BK855 := Hof.bb BK855 hb; replace HB := Aside0.mk (below_step Hof.L hb); (try clear hb); (try clear hb2); (try clear hk); (try clear hi); (try clear ho0)) | (refine Hof.bx 7 #[.int .i64 0, .int .i64 0, .int .i64 0, .slice none 0 0] 49 ?_; intro gb864 hg w33 hbox hb; have n0_ := Hof.rb HO863 hb; have n1_ := Hof.bb BK854 hb; have n2_ := Hof.bb BK855 hb; have n3_ := Aside0.mk (below_step Hof.L hb); have n4_ := Aside0.mk hbox; have n5_ := Hof.gL (w := w) hg Hof.L; have n6_ := Hof.gL (w := w) hg Hof.L; have n7_ := Hof.nl hg BK854; have n8_ := Hof.ng hg BK854; have n9_ := Hof.nl hg BK855; have n10_ := Hof.ng hg BK855; clear HO863; clear BK854; clear BK855; clear HB; have HO863 := n0_; have BK854 := n1_; have BK855 := n2_; have HB := n3_; have BK864 := n4_; have GW864 := n5_; have GE864 := n6_; have NB854_864 := n7_; have NB864_854 := n8_; have NB855_864 := n9_; have NB864_855 := n10_; clear n0_ n1_ n2_ n3_ n4_ n5_ n6_ n7_ n8_ n9_ n10_; clear hb hbox hg; have hnb34 := NB864_854.out; have hnc34 := NB854_864.out; have hnb35 := NB864_855.out; have hnc35 := NB855_864.out; obtain ⟨hcz36_0, hcz36_1, hcz36_2, hcz36_3, hfz36_0, hfz36_1, hfz36_2, hfz36_3⟩ := Hof.blk4 BK864.out; obtain ⟨Ao37, co37, eo37⟩ := Kd.R_slice HO863.out; subst eo37))
     go_loopg [] kj2 (fun kq w' => ∃ (x856000_2 : Int) (x856001_2 : Int) (x856002_2 : Int) (x865003_2 : List Int) (u865003 : Value), Aside0 (spec_FindMatrix.l0 kq (rd l0_1 0) a0_0 l0_1 t858 t859 t860 x865003_2 = some (r1, r2, r3, r4, r5)) ∧ Aside0 (kq ≤ kj2) ∧ Aside0 (Kd.R (Kd.int .i64) 3 w' w.heap.size (fun _ => True) u865003 x865003_2) ∧ Aside0 (w'.heap[gb854]? = some (.cells #[.int .i64 a0_0, (.slice (some ad857) l0_1.length c0_1)] 35 (0, 0))) ∧ Aside0 (w'.heap[gb855]? = some (.cells #[.int .i64 x856000_2, .int .i64 x856001_2, .int .i64 x856002_2, (.slice none 0 0)] 49 (0, 0))) ∧ Aside0 (w'.heap[gb864]? = some (.cells #[.int .i64 t858, .int .i64 t859, .int .i64 t860, u865003] 49 (0, 0))) ∧ Aside0 (Below w.heap.size w w'))
     case atStart => exact ⟨(0), (0), (0), (t861), (.slice Ao37 t861.length co37), H', ⟨Nat.le_refl _⟩, ⟨Hof.Rw (Kd.R_mono (Kd.R_far (p := ⟨gb864, 3, none⟩) (Kd.R_far (p := ⟨gb864, 2, none⟩) (Kd.R_far (p := ⟨gb864, 1, none⟩) (Kd.R_far (p := ⟨gb864, 0, none⟩) (Kd.R_types HO863.out BK864.out (by decide)) (fun _ hk => hk.2) (.int .i64 t858)) (fun _ hk => hk.2) (.int .i64 t859)) (fun _ hk => hk.2) (.int .i64 t860)) (fun _ hk => hk.2) (.slice Ao37 t861.length co37)) (fun _ hk => trivial))⟩, ⟨Hof.B⟩, ⟨Hof.B⟩, ⟨Hof.B⟩, ⟨Hof.L⟩⟩
     case round =>
      clear H'
      try clear q8
      try clear hx8
      try clear qi8
      try clear hx857_0
      try clear q857
      obtain ⟨x856000_2, x856001_2, x856002_2, x865003_2, u865003, HA, HK2, HO_865003, BK854, BK855, BK864, HB⟩ := hrel
      cases gk with
      | zero => exact absurd HA.out (by simp [spec_FindMatrix.l0])
      | succ k2 =>
       have H := HA.out
       clear HA
       simp only [spec_FindMatrix.l0] at H
       obtain ⟨⟨t865, t866⟩, A38, H⟩ := Hof.be H
       (try dsimp only at H)
       obtain ⟨t869, A39, H⟩ := Hof.be H
       (try dsimp only at H)
       by_cases c40 : t869 = true
       ·subst c40
        replace H : (some (t858, t859, t860, x865003_2, true)) = some (r1, r2, r3, r4, r5) := by rw [if_pos rfl] at H; exact H
        simp only [Option.some.injEq, Prod.mk.injEq] at H
        obtain ⟨rfl, rfl, rfl, rfl, rfl⟩ := H
        try go_wp2
        have n0_ := Aside0.mk (Kd.R_drew HO_865003.out)
        have n1_ := Aside0.mk (blk_drew BK854.out)
        have n2_ := Aside0.mk (blk_drew BK855.out)
        have n3_ := Aside0.mk (blk_drew BK864.out)
        have n4_ := Aside0.mk (below_drew1 HB.out)
        clear HO_865003
        clear BK854
        clear BK855
        clear BK864
        clear HB
        have HO_865003 := n0_
        have BK854 := n1_
        have BK855 := n2_
        have BK864 := n3_
        have HB := n4_
        clear n0_ n1_ n2_ n3_ n4_
        obtain ⟨Ao42, co42, eo42⟩ := Kd.R_slice HO_865003.out
        (first | subst eo42 | (injection eo42 with f1_ f2_ f3_; have f4_ := f1_.symm; have f5_ := f3_.symm; clear f1_ f2_ f3_; subst f4_; subst f5_))
        refine start_ (n := 4) (S := fun w' => w'.cell? ⟨gb864, 0, none⟩ = some (.int .i64 t858) ∧ w'.cell? ⟨gb864, 1, none⟩ = some (.int .i64 t859) ∧ w'.cell? ⟨gb864, 2, none⟩ = some (.int .i64 t860) ∧ w'.cell? ⟨gb864, 3, none⟩ = some (.slice Ao42 x865003_2.length co42) ∧ w'.cell? ⟨gb854, 0, none⟩ = some (.int .i64 a0_0) ∧ w'.cell? ⟨gb854, 1, none⟩ = some (.slice (some ad857) l0_1.length c0_1)) (ds := []) #[false, false, false, false] (by kernel_rfl) rfl rfl ⟨(blk_cell BK864.out 0).trans rfl, (blk_cell BK864.out 1).trans rfl, (blk_cell BK864.out 2).trans rfl, (blk_cell BK864.out 3).trans rfl, (blk_cell BK854.out 0).trans rfl, (blk_cell BK854.out 1).trans rfl⟩ (fun hHeld => ?_)
        generalize wr.drew = w41 at HO_865003 BK854 BK855 BK864 HB hHeld ⊢
        refine take_ (i := 0) (N := some 33) (v := ?_) (a' := ?_) #[true, false, false, false] rfl rfl (by kernel_rfl) (fun _ _ _ h => h) (Or.inl ⟨by rfl, ?_⟩) hHeld ?_ ?_
        rotate_left
        ·rintro w' ⟨s0, s1, s2, s3, s4, s5⟩
         go_simp
         with_reducible rfl
        rotate_left
        ·simp only [Act.put, List.setIfInBounds_toArray, List.set_cons_zero, List.set_cons_succ, i64_w, i32_w]
         rfl
        refine take_ (i := 2) (N := some 35) (v := ?_) (a' := ?_) #[true, false, true, false] rfl rfl (by kernel_rfl) (fun _ _ _ h => h) (Or.inl ⟨by rfl, ?_⟩) hHeld ?_ ?_
        rotate_left
        ·rintro w' ⟨s0, s1, s2, s3, s4, s5⟩
         go_simp
         with_reducible rfl
        rotate_left
        ·simp only [Act.put, List.setIfInBounds_toArray, List.set_cons_zero, List.set_cons_succ, i64_w, i32_w]
         rfl
        refine one_ (i := 1) (N := some 34) #[true, true, true, false] rfl rfl (by kernel_rfl) (by decide) (fun K hK => ?_)
        refine goes_ Try.func79 (by kernel_rfl) rfl #[.agg #[.int .i64 t858, .int .i64 t859, .int .i64 t860, .slice Ao42 x865003_2.length co42]] (by rfl) rfl rfl (by (try simp only [List.map_toArray, List.map_cons, List.map_nil]); first | done | rfl) ?_
        with_reducible refine (spec_FromMatrix.calls k2 t858 t859 t860 _ _ x865003_2 t865 t866 _ ?side1 ?side2 A38.out).mono ?_
        (case side1 => exact Hof.Cw ((Kd.R_reads' HO_865003.out).2.2))
        (case side2 => exact (Kd.R_reads' HO_865003.out).2.1)
        rintro e w43 ⟨v867, rfl, ho0, hb⟩
        refine ⟨_, rfl, ?_⟩
        have n0_ := Aside0.mk (Kd.R_elder' (Hof.Rw HO_865003.out) (Kd.R_base ho0) hb)
        have n1_ := Aside0.mk (Kd.R_lower (Kd.R_new' ho0 (Kd.R_lt (Hof.Rw HO_865003.out))) (below_size Hof.L))
        have n2_ := Hof.bb BK854 hb
        have n3_ := Hof.bb BK855 hb
        have n4_ := Hof.bb BK864 hb
        have n5_ := Aside0.mk (below_step Hof.L hb)
        clear HO_865003
        clear BK854
        clear BK855
        clear BK864
        clear HB
        have HO_865003 := n0_
        have HO868 := n1_
        have BK854 := n2_
        have BK855 := n3_
        have BK864 := n4_
        have HB := n5_
        clear n0_ n1_ n2_ n3_ n4_ n5_
        (try clear hb)
        (try clear hb2)
        (try clear hk)
        (try clear hi)
        (try clear ho0)
        obtain ⟨Ao44, co44, eo44⟩ := Kd.R_slice HO868.out
        (first | subst eo44 | (injection eo44 with f1_ f2_ f3_; have f4_ := f1_.symm; have f5_ := f3_.symm; clear f1_ f2_ f3_; subst f4_; subst f5_))
        refine hK.out _ _ ⟨(blk_cell BK864.out 0).trans rfl, (blk_cell BK864.out 1).trans rfl, (blk_cell BK864.out 2).trans rfl, (blk_cell BK864.out 3).trans rfl, (blk_cell BK854.out 0).trans rfl, (blk_cell BK854.out 1).trans rfl⟩ (fun hHeld => ?_)
        clear hK K
        refine norm_ (a' := ?_) ?_ ?_
        rotate_left
        ·show Act.put _ (some 34) _ = _
         simp only [Act.put, List.setIfInBounds_toArray, List.set_cons_zero, List.set_cons_succ, i64_w, i32_w]
         rfl
        refine one_ (i := 3) (N := some 36) #[true, true, true, true] rfl rfl (by kernel_rfl) (by decide) (fun K hK => ?_)
        refine goes_ Try.func78 (by kernel_rfl) rfl #[.agg #[.int .i64 t865, .slice Ao44 t866.length co44], .agg #[.int .i64 a0_0, .slice (some ad857) l0_1.length c0_1]] (by rfl) rfl rfl (by (try simp only [List.map_toArray, List.map_cons, List.map_nil]); first | done | rfl) ?_
        with_reducible refine (spec_EqualMatroid.calls k2 t865 _ _ t866 a0_0 _ _ l0_1 true _ ?side1 ?side2 ?side3 ?side4 A39.out).mono ?_
        (case side1 => exact Hof.Cw ((Kd.R_reads' HO868.out).2.2))
        (case side2 => exact (Kd.R_reads' HO868.out).2.1)
        (case side3 => exact Hof.Cw (Kd.C_below HR0_1.out HB.out))
        (case side4 => exact HC0_1.out)
        rintro e w45 ⟨rfl, hb⟩
        refine ⟨_, rfl, ?_⟩
        have n0_ := Hof.rb HO_865003 hb
        have n1_ := Hof.rb HO868 hb
        have n2_ := Hof.bb BK854 hb
        have n3_ := Hof.bb BK855 hb
        have n4_ := Hof.bb BK864 hb
        have n5_ := Aside0.mk (below_step Hof.L hb)
        clear HO_865003
        clear HO868
        clear BK854
        clear BK855
        clear BK864
        clear HB
        have HO_865003 := n0_
        have HO868 := n1_
        have BK854 := n2_
        have BK855 := n3_
        have BK864 := n4_
        have HB := n5_
        clear n0_ n1_ n2_ n3_ n4_ n5_
        (try clear hb)
        (try clear hb2)
        (try clear hk)
        (try clear hi)
        refine hK.out _ _ ⟨(blk_cell BK864.out 0).trans rfl, (blk_cell BK864.out 1).trans rfl, (blk_cell BK864.out 2).trans rfl, (blk_cell BK864.out 3).trans rfl, (blk_cell BK854.out 0).trans rfl, (blk_cell BK854.out 1).trans rfl⟩ (fun hHeld => ?_)
        clear hK K
        refine norm_ (a' := ?_) ?_ ?_
        rotate_left
        ·show Act.put _ (some 36) _ = _
         simp only [Act.put, List.setIfInBounds_toArray, List.set_cons_zero, List.set_cons_succ, i64_w, i32_w]
         rfl
        refine done_ (by kernel_rfl) ?_
        have hnb46 := NB864_854.out
        have hnc46 := NB854_864.out
        have hnb47 := NB864_855.out
        have hnc47 := NB855_864.out
        obtain ⟨hcz48_0, hcz48_1, hcz48_2, hcz48_3, hfz48_0, hfz48_1, hfz48_2, hfz48_3⟩ := Hof.blk4 BK864.out
        have hnb49 := NB855_854.out
        have hnc49 := NB854_855.out
        obtain ⟨hcz50_0, hcz50_1, hcz50_2, hcz50_3, hfz50_0, hfz50_1, hfz50_2, hfz50_3⟩ := Hof.blk4 BK855.out
        try go_wp2
        refine bodyPost_ret (results_ct rfl _ _ gb855 49 #[.int .i64 t858, .int .i64 t859, .int .i64 t860, .slice Ao42 x865003_2.length co42] (0, 0) _ rfl Hof.B Try.underlying49 rfl (by kernel_rfl)) rfl ?_
        exact ⟨_, Hof.E, by (with_reducible repeat (first | apply Kd.R_alloc | apply Kd.R_drewN | apply Kd.R_drew)); exact Kd.R_mono (Kd.R_far (p := ⟨gb855, 3, none⟩) (Kd.R_far (p := ⟨gb855, 2, none⟩) (Kd.R_far (p := ⟨gb855, 1, none⟩) (Kd.R_far (p := ⟨gb855, 0, none⟩) (Kd.R_types HO_865003.out BK855.out (by decide)) (fun _ hk => hk.2) (.int .i64 t858)) (fun _ hk => hk.2) (.int .i64 t859)) (fun _ hk => hk.2) (.int .i64 t860)) (fun _ hk => hk.2) (.slice Ao42 x865003_2.length co42)) (fun _ hk => trivial), Hof.L⟩
       ·replace c40 := Bool.eq_false_iff.mpr c40
        subst c40
        replace H : ((spec_l26Next.f k2 t858 t859 t860 x865003_2 (rd l0_1 0)).bind fun bt870 => (if bt870.1 = true then (spec_FindMatrix.l0 k2 (rd l0_1 0) a0_0 l0_1 t858 t859 t860 bt870.2) else (some (0, 0, 0, ([] : List Int), false)))) = some (r1, r2, r3, r4, r5) := by rw [if_neg (show ¬ (false = true) by decide)] at H; exact H
        obtain ⟨⟨t870, t871⟩, A51, H⟩ := Hof.be H
        (try dsimp only at H)
        by_cases c52 : t870 = true
        ·subst c52
         replace H : (spec_FindMatrix.l0 k2 (rd l0_1 0) a0_0 l0_1 t858 t859 t860 t871) = some (r1, r2, r3, r4, r5) := by rw [if_pos rfl] at H; exact H
         have H' := Aside0.mk H
         clear H
         try go_wp2
         have n0_ := Aside0.mk (Kd.R_drew HO_865003.out)
         have n1_ := Aside0.mk (blk_drew BK854.out)
         have n2_ := Aside0.mk (blk_drew BK855.out)
         have n3_ := Aside0.mk (blk_drew BK864.out)
         have n4_ := Aside0.mk (below_drew1 HB.out)
         clear HO_865003
         clear BK854
         clear BK855
         clear BK864
         clear HB
         have HO_865003 := n0_
         have BK854 := n1_
         have BK855 := n2_
         have BK864 := n3_
         have HB := n4_
         clear n0_ n1_ n2_ n3_ n4_
         obtain ⟨Ao54, co54, eo54⟩ := Kd.R_slice HO_865003.out
         (first | subst eo54 | (injection eo54 with f1_ f2_ f3_; have f4_ := f1_.symm; have f5_ := f3_.symm; clear f1_ f2_ f3_; subst f4_; subst f5_))
         refine start_ (n := 4) (S := fun w' => w'.cell? ⟨gb864, 0, none⟩ = some (.int .i64 t858) ∧ w'.cell? ⟨gb864, 1, none⟩ = some (.int .i64 t859) ∧ w'.cell? ⟨gb864, 2, none⟩ = some (.int .i64 t860) ∧ w'.cell? ⟨gb864, 3, none⟩ = some (.slice Ao54 x865003_2.length co54) ∧ w'.cell? ⟨gb854, 0, none⟩ = some (.int .i64 a0_0) ∧ w'.cell? ⟨gb854, 1, none⟩ = some (.slice (some ad857) l0_1.length c0_1)) (ds := []) #[false, false, false, false] (by kernel_rfl) rfl rfl ⟨(blk_cell BK864.out 0).trans rfl, (blk_cell BK864.out 1).trans rfl, (blk_cell BK864.out 2).trans rfl, (blk_cell BK864.out 3).trans rfl, (blk_cell BK854.out 0).trans rfl, (blk_cell BK854.out 1).trans rfl⟩ (fun hHeld => ?_)
         generalize wr.drew = w53 at HO_865003 BK854 BK855 BK864 HB hHeld ⊢
         refine take_ (i := 0) (N := some 33) (v := ?_) (a' := ?_) #[true, false, false, false] rfl rfl (by kernel_rfl) (fun _ _ _ h => h) (Or.inl ⟨by rfl, ?_⟩) hHeld ?_ ?_
         rotate_left
         ·rintro w' ⟨s0, s1, s2, s3, s4, s5⟩
          go_simp
          with_reducible rfl
         rotate_left
         ·simp only [Act.put, List.setIfInBounds_toArray, List.set_cons_zero, List.set_cons_succ, i64_w, i32_w]
          rfl
         refine take_ (i := 2) (N := some 35) (v := ?_) (a' := ?_) #[true, false, true, false] rfl rfl (by kernel_rfl) (fun _ _ _ h => h) (Or.inl ⟨by rfl, ?_⟩) hHeld ?_ ?_
         rotate_left
         ·rintro w' ⟨s0, s1, s2, s3, s4, s5⟩
          go_simp
          with_reducible rfl
         rotate_left
         ·simp only [Act.put, List.setIfInBounds_toArray, List.set_cons_zero, List.set_cons_succ, i64_w, i32_w]
          rfl
         refine one_ (i := 1) (N := some 34) #[true, true, true, false] rfl rfl (by kernel_rfl) (by decide) (fun K hK => ?_)
         refine goes_ Try.func79 (by kernel_rfl) rfl #[.agg #[.int .i64 t858, .int .i64 t859, .int .i64 t860, .slice Ao54 x865003_2.length co54]] (by rfl) rfl rfl (by (try simp only [List.map_toArray, List.map_cons, List.map_nil]); first | done | rfl) ?_
         with_reducible refine (spec_FromMatrix.calls k2 t858 t859 t860 _ _ x865003_2 t865 t866 _ ?side1 ?side2 A38.out).mono ?_
         (case side1 => exact Hof.Cw ((Kd.R_reads' HO_865003.out).2.2))
         (case side2 => exact (Kd.R_reads' HO_865003.out).2.1)
         rintro e w55 ⟨v867, rfl, ho0, hb⟩
         refine ⟨_, rfl, ?_⟩
         have n0_ := Aside0.mk (Kd.R_elder' (Hof.Rw HO_865003.out) (Kd.R_base ho0) hb)
         have n1_ := Aside0.mk (Kd.R_lower (Kd.R_new' ho0 (Kd.R_lt (Hof.Rw HO_865003.out))) (below_size Hof.L))
         have n2_ := Hof.bb BK854 hb
         have n3_ := Hof.bb BK855 hb
         have n4_ := Hof.bb BK864 hb
         have n5_ := Aside0.mk (below_step Hof.L hb)
         clear HO_865003
         clear BK854
         clear BK855
         clear BK864
         clear HB
         have HO_865003 := n0_
         have HO868 := n1_
         have BK854 := n2_
         have BK855 := n3_
         have BK864 := n4_
         have HB := n5_
         clear n0_ n1_ n2_ n3_ n4_ n5_
         (try clear hb)
         (try clear hb2)
         (try clear hk)
         (try clear hi)
         (try clear ho0)
         obtain ⟨Ao56, co56, eo56⟩ := Kd.R_slice HO868.out
         (first | subst eo56 | (injection eo56 with f1_ f2_ f3_; have f4_ := f1_.symm; have f5_ := f3_.symm; clear f1_ f2_ f3_; subst f4_; subst f5_))
         refine hK.out _ _ ⟨(blk_cell BK864.out 0).trans rfl, (blk_cell BK864.out 1).trans rfl, (blk_cell BK864.out 2).trans rfl, (blk_cell BK864.out 3).trans rfl, (blk_cell BK854.out 0).trans rfl, (blk_cell BK854.out 1).trans rfl⟩ (fun hHeld => ?_)
         clear hK K
         refine norm_ (a' := ?_) ?_ ?_
         rotate_left
         ·show Act.put _ (some 34) _ = _
          simp only [Act.put, List.setIfInBounds_toArray, List.set_cons_zero, List.set_cons_succ, i64_w, i32_w]
          rfl
         refine one_ (i := 3) (N := some 36) #[true, true, true, true] rfl rfl (by kernel_rfl) (by decide) (fun K hK => ?_)
         refine goes_ Try.func78 (by kernel_rfl) rfl #[.agg #[.int .i64 t865, .slice Ao56 t866.length co56], .agg #[.int .i64 a0_0, .slice (some ad857) l0_1.length c0_1]] (by rfl) rfl rfl (by (try simp only [List.map_toArray, List.map_cons, List.map_nil]); first | done | rfl) ?_
         with_reducible refine (spec_EqualMatroid.calls k2 t865 _ _ t866 a0_0 _ _ l0_1 false _ ?side1 ?side2 ?side3 ?side4 A39.out).mono ?_
         (case side1 => exact Hof.Cw ((Kd.R_reads' HO868.out).2.2))
         (case side2 => exact (Kd.R_reads' HO868.out).2.1)
         (case side3 => exact Hof.Cw (Kd.C_below HR0_1.out HB.out))
         (case side4 => exact HC0_1.out)
         rintro e w57 ⟨rfl, hb⟩
         refine ⟨_, rfl, ?_⟩
         have n0_ := Hof.rb HO_865003 hb
         have n1_ := Hof.rb HO868 hb
         have n2_ := Hof.bb BK854 hb
         have n3_ := Hof.bb BK855 hb
         have n4_ := Hof.bb BK864 hb
         have n5_ := Aside0.mk (below_step Hof.L hb)
         clear HO_865003
         clear HO868
         clear BK854
         clear BK855
         clear BK864
         clear HB
         have HO_865003 := n0_
         have HO868 := n1_
         have BK854 := n2_
         have BK855 := n3_
         have BK864 := n4_
         have HB := n5_
         clear n0_ n1_ n2_ n3_ n4_ n5_
         (try clear hb)
         (try clear hb2)
         (try clear hk)
         (try clear hi)
         refine hK.out _ _ ⟨(blk_cell BK864.out 0).trans rfl, (blk_cell BK864.out 1).trans rfl, (blk_cell BK864.out 2).trans rfl, (blk_cell BK864.out 3).trans rfl, (blk_cell BK854.out 0).trans rfl, (blk_cell BK854.out 1).trans rfl⟩ (fun hHeld => ?_)
         clear hK K
         refine norm_ (a' := ?_) ?_ ?_
         rotate_left
         ·show Act.put _ (some 36) _ = _
          simp only [Act.put, List.setIfInBounds_toArray, List.set_cons_zero, List.set_cons_succ, i64_w, i32_w]
          rfl
         refine done_ (by kernel_rfl) ?_
         have hnb58 := NB864_854.out
         have hnc58 := NB854_864.out
         have hnb59 := NB864_855.out
         have hnc59 := NB855_864.out
         obtain ⟨hcz60_0, hcz60_1, hcz60_2, hcz60_3, hfz60_0, hfz60_1, hfz60_2, hfz60_3⟩ := Hof.blk4 BK864.out
         try go_wp2_with (first | (refine Hof.gl (some 40) Try.func80 #[.agg #[.int .i64 t858, .int .i64 t859, .int .i64 t860, .slice Ao54 x865003_2.length co54], .int .i64 (rd l0_1 0)] ?_; (with_reducible refine (spec_l26Next.calls k2 t858 t859 t860 (fun k_ => some k_ = (.slice Ao54 x865003_2.length co54 : Value).ownBlock) (.slice Ao54 x865003_2.length co54) x865003_2 (rd l0_1 0) true t871 w _ ?side1 ?side2 A51.out).mono ?_); (case side1 => repeat (first | (with_reducible first | exact HB.out | apply below_alloc | apply pw_below_drewN | apply below_drew1 | refine below_set ?_ GE854.out | refine below_set ?_ GE855.out | refine below_set ?_ GE864.out) | exact HB.out)); (case side2 => exact Kd.R_tight rfl HO_865003.out); rintro e w61 ⟨rfl, hy0, hb, hkp⟩; refine ⟨_, rfl, ?_⟩; replace BK854 := Aside0.mk (blk_kept (Hof.Bw BK854.out) hkp (fun hs_ => (fun e_ => (Kd.R_ne HO_865003.out BK854.out (by decide)) e_) hs_)); replace BK855 := Aside0.mk (blk_kept (Hof.Bw BK855.out) hkp (fun hs_ => (fun e_ => (Kd.R_ne HO_865003.out BK855.out (by decide)) e_) hs_)); replace BK864 := Aside0.mk (blk_kept (Hof.Bw BK864.out) hkp (fun hs_ => (fun e_ => (Kd.R_ne HO_865003.out BK864.out (by decide)) e_) hs_)); replace HO_865003 := Aside0.mk (Kd.R_reok rfl hy0 (fun k_ e_ => HO_865003.out.1 k_ e_)); replace HO868 := Aside0.mk (Kd.R_mono (ok' := fun k_ => some k_ ≠ (.slice Ao54 x865003_2.length co54 : Value).ownBlock) (Kd.R_keptB (HO868.out) hkp (fun k_ hk_ hs_ => (by first | exact (hk_.2) hs_ | (simp_all; done)))) (fun k_ hk_ => hk_.1.2)); replace HB := Aside0.mk hb; (try clear hb); (try clear hkp); (try clear hy0)))
         go_roundg k2
         case measure => have := HJ2.out; have := HK2.out; omega
         case rel => exact ⟨(x856000_2), (x856001_2), (x856002_2), (t871), (.slice Ao54 x865003_2.length co54), H', ⟨by have := HJ2.out; have := HK2.out; omega⟩, ⟨Hof.Rw (Kd.R_mono HO_865003.out (fun _ hk => trivial))⟩, ⟨Hof.Bw BK854.out⟩, ⟨Hof.Bw BK855.out⟩, ⟨Hof.Bw BK864.out⟩, ⟨Hof.L⟩⟩
        ·replace c52 := Bool.eq_false_iff.mpr c52
         subst c52
         replace H : (some (0, 0, 0, ([] : List Int), false)) = some (r1, r2, r3, r4, r5) := by rw [if_neg (show ¬ (false = true) by decide)] at H; exact H
         simp only [Option.some.injEq, Prod.mk.injEq] at H
         obtain ⟨rfl, rfl, rfl, rfl, rfl⟩ := H
         try go_wp2
         have n0_ := Aside0.mk (Kd.R_drew HO_865003.out)
         have n1_ := Aside0.mk (blk_drew BK854.out)
         have n2_ := Aside0.mk (blk_drew BK855.out)
         have n3_ := Aside0.mk (blk_drew BK864.out)
         have n4_ := Aside0.mk (below_drew1 HB.out)
         clear HO_865003
         clear BK854
         clear BK855
         clear BK864
         clear HB
         have HO_865003 := n0_
         have BK854 := n1_
         have BK855 := n2_
         have BK864 := n3_
         have HB := n4_
         clear n0_ n1_ n2_ n3_ n4_
         obtain ⟨Ao63, co63, eo63⟩ := Kd.R_slice HO_865003.out
         (first | subst eo63 | (injection eo63 with f1_ f2_ f3_; have f4_ := f1_.symm; have f5_ := f3_.symm; clear f1_ f2_ f3_; subst f4_; subst f5_))
         refine start_ (n := 4) (S := fun w' => w'.cell? ⟨gb864, 0, none⟩ = some (.int .i64 t858) ∧ w'.cell? ⟨gb864, 1, none⟩ = some (.int .i64 t859) ∧ w'.cell? ⟨gb864, 2, none⟩ = some (.int .i64 t860) ∧ w'.cell? ⟨gb864, 3, none⟩ = some (.slice Ao63 x865003_2.length co63) ∧ w'.cell? ⟨gb854, 0, none⟩ = some (.int .i64 a0_0) ∧ w'.cell? ⟨gb854, 1, none⟩ = some (.slice (some ad857) l0_1.length c0_1)) (ds := []) #[false, false, false, false] (by kernel_rfl) rfl rfl ⟨(blk_cell BK864.out 0).trans rfl, (blk_cell BK864.out 1).trans rfl, (blk_cell BK864.out 2).trans rfl, (blk_cell BK864.out 3).trans rfl, (blk_cell BK854.out 0).trans rfl, (blk_cell BK854.out 1).trans rfl⟩ (fun hHeld => ?_)
         generalize wr.drew = w62 at HO_865003 BK854 BK855 BK864 HB hHeld ⊢
         refine take_ (i := 0) (N := some 33) (v := ?_) (a' := ?_) #[true, false, false, false] rfl rfl (by kernel_rfl) (fun _ _ _ h => h) (Or.inl ⟨by rfl, ?_⟩) hHeld ?_ ?_
         rotate_left
         ·rintro w' ⟨s0, s1, s2, s3, s4, s5⟩
          go_simp
          with_reducible rfl
         rotate_left
         ·simp only [Act.put, List.setIfInBounds_toArray, List.set_cons_zero, List.set_cons_succ, i64_w, i32_w]
          rfl
         refine take_ (i := 2) (N := some 35) (v := ?_) (a' := ?_) #[true, false, true, false] rfl rfl (by kernel_rfl) (fun _ _ _ h => h) (Or.inl ⟨by rfl, ?_⟩) hHeld ?_ ?_
         rotate_left
         ·rintro w' ⟨s0, s1, s2, s3, s4, s5⟩
          go_simp
          with_reducible rfl
         rotate_left
         ·simp only [Act.put, List.setIfInBounds_toArray, List.set_cons_zero, List.set_cons_succ, i64_w, i32_w]
          rfl
         refine one_ (i := 1) (N := some 34) #[true, true, true, false] rfl rfl (by kernel_rfl) (by decide) (fun K hK => ?_)
         refine goes_ Try.func79 (by kernel_rfl) rfl #[.agg #[.int .i64 t858, .int .i64 t859, .int .i64 t860, .slice Ao63 x865003_2.length co63]] (by rfl) rfl rfl (by (try simp only [List.map_toArray, List.map_cons, List.map_nil]); first | done | rfl) ?_
         with_reducible refine (spec_FromMatrix.calls k2 t858 t859 t860 _ _ x865003_2 t865 t866 _ ?side1 ?side2 A38.out).mono ?_
         (case side1 => exact Hof.Cw ((Kd.R_reads' HO_865003.out).2.2))
         (case side2 => exact (Kd.R_reads' HO_865003.out).2.1)
         rintro e w64 ⟨v867, rfl, ho0, hb⟩
         refine ⟨_, rfl, ?_⟩
         have n0_ := Aside0.mk (Kd.R_elder' (Hof.Rw HO_865003.out) (Kd.R_base ho0) hb)
         have n1_ := Aside0.mk (Kd.R_lower (Kd.R_new' ho0 (Kd.R_lt (Hof.Rw HO_865003.out))) (below_size Hof.L))
         have n2_ := Hof.bb BK854 hb
         have n3_ := Hof.bb BK855 hb
         have n4_ := Hof.bb BK864 hb
         have n5_ := Aside0.mk (below_step Hof.L hb)
         clear HO_865003
         clear BK854
         clear BK855
         clear BK864
         clear HB
         have HO_865003 := n0_
         have HO868 := n1_
         have BK854 := n2_
         have BK855 := n3_
         have BK864 := n4_
         have HB := n5_
         clear n0_ n1_ n2_ n3_ n4_ n5_
         (try clear hb)
         (try clear hb2)
         (try clear hk)
         (try clear hi)
         (try clear ho0)
         obtain ⟨Ao65, co65, eo65⟩ := Kd.R_slice HO868.out
         (first | subst eo65 | (injection eo65 with f1_ f2_ f3_; have f4_ := f1_.symm; have f5_ := f3_.symm; clear f1_ f2_ f3_; subst f4_; subst f5_))
         refine hK.out _ _ ⟨(blk_cell BK864.out 0).trans rfl, (blk_cell BK864.out 1).trans rfl, (blk_cell BK864.out 2).trans rfl, (blk_cell BK864.out 3).trans rfl, (blk_cell BK854.out 0).trans rfl, (blk_cell BK854.out 1).trans rfl⟩ (fun hHeld => ?_)
         clear hK K
         refine norm_ (a' := ?_) ?_ ?_
         rotate_left
         ·show Act.put _ (some 34) _ = _
          simp only [Act.put, List.setIfInBounds_toArray, List.set_cons_zero, List.set_cons_succ, i64_w, i32_w]
          rfl
         refine one_ (i := 3) (N := some 36) #[true, true, true, true] rfl rfl (by kernel_rfl) (by decide) (fun K hK => ?_)
         refine goes_ Try.func78 (by kernel_rfl) rfl #[.agg #[.int .i64 t865, .slice Ao65 t866.length co65], .agg #[.int .i64 a0_0, .slice (some ad857) l0_1.length c0_1]] (by rfl) rfl rfl (by (try simp only [List.map_toArray, List.map_cons, List.map_nil]); first | done | rfl) ?_
         with_reducible refine (spec_EqualMatroid.calls k2 t865 _ _ t866 a0_0 _ _ l0_1 false _ ?side1 ?side2 ?side3 ?side4 A39.out).mono ?_
         (case side1 => exact Hof.Cw ((Kd.R_reads' HO868.out).2.2))
         (case side2 => exact (Kd.R_reads' HO868.out).2.1)
         (case side3 => exact Hof.Cw (Kd.C_below HR0_1.out HB.out))
         (case side4 => exact HC0_1.out)
         rintro e w66 ⟨rfl, hb⟩
         refine ⟨_, rfl, ?_⟩
         have n0_ := Hof.rb HO_865003 hb
         have n1_ := Hof.rb HO868 hb
         have n2_ := Hof.bb BK854 hb
         have n3_ := Hof.bb BK855 hb
         have n4_ := Hof.bb BK864 hb
         have n5_ := Aside0.mk (below_step Hof.L hb)
         clear HO_865003
         clear HO868
         clear BK854
         clear BK855
         clear BK864
         clear HB
         have HO_865003 := n0_
         have HO868 := n1_
         have BK854 := n2_
         have BK855 := n3_
         have BK864 := n4_
         have HB := n5_
         clear n0_ n1_ n2_ n3_ n4_ n5_
         (try clear hb)
         (try clear hb2)
         (try clear hk)
         (try clear hi)
         refine hK.out _ _ ⟨(blk_cell BK864.out 0).trans rfl, (blk_cell BK864.out 1).trans rfl, (blk_cell BK864.out 2).trans rfl, (blk_cell BK864.out 3).trans rfl, (blk_cell BK854.out 0).trans rfl, (blk_cell BK854.out 1).trans rfl⟩ (fun hHeld => ?_)
         clear hK K
         refine norm_ (a' := ?_) ?_ ?_
         rotate_left
         ·show Act.put _ (some 36) _ = _
          simp only [Act.put, List.setIfInBounds_toArray, List.set_cons_zero, List.set_cons_succ, i64_w, i32_w]
          rfl
         refine done_ (by kernel_rfl) ?_
         have hnb67 := NB864_854.out
         have hnc67 := NB854_864.out
         have hnb68 := NB864_855.out
         have hnc68 := NB855_864.out
         obtain ⟨hcz69_0, hcz69_1, hcz69_2, hcz69_3, hfz69_0, hfz69_1, hfz69_2, hfz69_3⟩ := Hof.blk4 BK864.out
         try go_wp2_with (first | (refine Hof.gl (some 40) Try.func80 #[.agg #[.int .i64 t858, .int .i64 t859, .int .i64 t860, .slice Ao63 x865003_2.length co63], .int .i64 (rd l0_1 0)] ?_; (with_reducible refine (spec_l26Next.calls k2 t858 t859 t860 (fun k_ => some k_ = (.slice Ao63 x865003_2.length co63 : Value).ownBlock) (.slice Ao63 x865003_2.length co63) x865003_2 (rd l0_1 0) false t871 w _ ?side1 ?side2 A51.out).mono ?_); (case side1 => repeat (first | (with_reducible first | exact HB.out | apply below_alloc | apply pw_below_drewN | apply below_drew1 | refine below_set ?_ GE854.out | refine below_set ?_ GE855.out | refine below_set ?_ GE864.out) | exact HB.out)); (case side2 => exact Kd.R_tight rfl HO_865003.out); rintro e w70 ⟨rfl, hy0, hb, hkp⟩; refine ⟨_, rfl, ?_⟩; replace BK854 := Aside0.mk (blk_kept (Hof.Bw BK854.out) hkp (fun hs_ => (fun e_ => (Kd.R_ne HO_865003.out BK854.out (by decide)) e_) hs_)); replace BK855 := Aside0.mk (blk_kept (Hof.Bw BK855.out) hkp (fun hs_ => (fun e_ => (Kd.R_ne HO_865003.out BK855.out (by decide)) e_) hs_)); replace BK864 := Aside0.mk (blk_kept (Hof.Bw BK864.out) hkp (fun hs_ => (fun e_ => (Kd.R_ne HO_865003.out BK864.out (by decide)) e_) hs_)); replace HO_865003 := Aside0.mk (Kd.R_reok rfl hy0 (fun k_ e_ => HO_865003.out.1 k_ e_)); replace HO868 := Aside0.mk (Kd.R_mono (ok' := fun k_ => some k_ ≠ (.slice Ao63 x865003_2.length co63 : Value).ownBlock) (Kd.R_keptB (HO868.out) hkp (fun k_ hk_ hs_ => (by first | exact (hk_.2) hs_ | (simp_all; done)))) (fun k_ hk_ => hk_.1.2)); replace HB := Aside0.mk hb; (try clear hb); (try clear hkp); (try clear hy0); have hnb71 := NB855_854.out; have hnc71 := NB854_855.out; obtain ⟨hcz72_0, hcz72_1, hcz72_2, hcz72_3, hfz72_0, hfz72_1, hfz72_2, hfz72_3⟩ := Hof.blk4 BK855.out))
         refine bodyPost_ret (results_ct rfl _ _ gb855 49 #[.int .i64 0, .int .i64 0, .int .i64 0, .slice none 0 0] (0, 0) _ rfl Hof.B Try.underlying49 rfl (by kernel_rfl)) rfl ?_
         exact ⟨_, Hof.E, Hof.N, Hof.L⟩
    ·rw [if_neg c28] at H
     exact absurd H (by simp)
def laws_toIntS.l0 : Nat → List Int → List Int → Int → Option (List Int)
 | 0, _, _, _ => none
 | k + 1, x0, x3, x4 => if x4 < (x0.length : Int) then (if 0 ≤ x4 then (if x4 < (x3.length : Int) then (laws_toIntS.l0 k x0 (x3.set (x4 : Int).toNat (rd x0 x4)) (wrap64 (x4 + 1))) else (none)) else (none)) else (some x3)
def laws_toIntS.f (k : Nat) (l0 : List Int) : Option (List Int) := if 0 ≤ (l0.length : Int) then (if ((l0.length : Int) : Int).toNat ≤ 35184372088832 then (laws_toIntS.l0 k l0 (List.replicate ((l0.length : Int) : Int).toNat 0) 0) else (none)) else (none)
set_option maxHeartbeats 8000000 in
set_option maxRecDepth 100000 in
theorem laws_toIntS.calls (k : Nat) (A0 : Option Addr) (c0 : Nat) (l0 : List Int) (r : List Int) (w : World) (hr0 : Kd.C (Kd.int .i64) w A0 l0.length l0) (hc0 : l0.length ≤ c0) (h : laws_toIntS.f k l0 = some r) :
  Calls Try.prog 75 #[.slice A0 l0.length c0] w fun e w' => ∃ v0_ : Value, e = .returned (v0_) ∧ Kd.R (Kd.int .i64) 3 w' w.heap.size (fun _ => True) v0_ r ∧ Below w.heap.size w w' := by
 have HR0 := Aside0.mk hr0
 have HC0 := Aside0.mk hc0
 clear hr0 hc0
 have HB := Aside0.mk (Below.refl w.heap.size w)
 unfold laws_toIntS.f at h
 have H := h
 clear h
 by_cases c2 : 0 ≤ (l0.length : Int)
 ·rw [if_pos c2] at H
  have c2b0 := eq_true c2
  have c2b1 : decide (0 ≤ (l0.length : Int)) = true := decide_eq_true c2
  clear c2
  by_cases c3 : ((l0.length : Int) : Int).toNat ≤ 35184372088832
  ·rw [if_pos c3] at H
   have c3b0 := eq_true c3
   have c3b1 : decide (((l0.length : Int) : Int).toNat ≤ 35184372088832) = true := decide_eq_true c3
   clear c3
   obtain ⟨y881, hy881⟩ : ∃ y_ : List Int, y_ = (List.replicate ((l0.length : Int) : Int).toNat 0) := ⟨_, rfl⟩
   replace H : (laws_toIntS.l0 k l0 y881 0) = some r := by (try rw [hy881]); exact Hof.Z
   have Ny881 := Aside0.mk hy881
   clear hy881
   have H' := Aside0.mk H
   clear H
   go_enter Try.func75, Try.ntmps75
   go_wp2_with (first | ((with_reducible refine gate_dst (N := 7) rfl ?_); refine Kd.R_make (Kd.int .i64) _ 3 rfl (N := 7) rfl 24 _ _ rfl (l0.length : Int) rfl rfl Try.underlying24 (.int .i64 0) 8 info3 rfl (by decide) (by omega) 0 (ok := fun _ => True) (okp := fun _ => True) rfl (fun _ hk => hk) trivial (Hof.D) (Nat.le_trans (Nat.mul_le_mul_right _ (Hof.D : (l0.length : Int).toNat ≤ 35184372088832)) (by omega)) (Below.refl _ _) (Nat.le_refl _) ?_; intro v882 w4 ho5 hb hg_ hnew_; clear hg_ hnew_; (first | rw [← Ny881.out] at ho5 | (simp only [Int.reduceToNat] at ho5; rw [← Ny881.out] at ho5)); have HO883 := Aside0.mk (Kd.R_lower ho5 (below_size (Hof.Lw HB.out))); replace HB := Hof.lb HB hb; clear hb ho5))
   go_loopg [4] k (fun kq v4 w' => ∃ (x3_1 : List Int) (x4_1 : Int), v4 = .int .i64 x4_1 ∧ Aside0 (laws_toIntS.l0 kq l0 x3_1 x4_1 = some r) ∧ Aside0 (kq ≤ k) ∧ Aside0 (Kd.R (Kd.int .i64) 3 w' w.heap.size (fun _ => True) v882 x3_1) ∧ Aside0 (Below w.heap.size w w'))
   case atStart => exact ⟨(y881), (0), Hof.F, H', ⟨Nat.le_refl _⟩, ⟨Hof.Rw HO883.out⟩, ⟨Hof.Lw HB.out⟩⟩
   case round =>
    clear H'
    obtain ⟨x3_1, x4_1, rfl, HA, HK1, HO_3, HB⟩ := hrel
    cases gk with
    | zero => exact absurd HA.out (by simp [laws_toIntS.l0])
    | succ k1 =>
     have H := HA.out
     clear HA
     simp only [laws_toIntS.l0] at H
     by_cases c6 : x4_1 < (l0.length : Int)
     ·rw [if_pos c6] at H
      have c6b0 := decide_eq_true c6
      clear c6
      by_cases c7 : 0 ≤ x4_1
      ·rw [if_pos c7] at H
       have c7b0 := decide_eq_true c7
       clear c7
       by_cases c8 : x4_1 < (x3_1.length : Int)
       ·rw [if_pos c8] at H
        have c8b0 := decide_eq_true c8
        clear c8
        obtain ⟨y885, hy885⟩ : ∃ y_ : List Int, y_ = (x3_1.set (x4_1 : Int).toNat (rd l0 x4_1)) := ⟨_, rfl⟩
        replace H : (laws_toIntS.l0 k1 l0 y885 (wrap64 (x4_1 + 1))) = some r := by (try rw [hy885]); exact Hof.Z
        have Ny885 := Aside0.mk hy885
        clear hy885
        have H' := Aside0.mk H
        clear H
        have p884 : 0 ≤ (x4_1 : Int) := Hof.D
        have q884 : x4_1 < (l0.length : Int) := Hof.D
        obtain ⟨ad884, e884, hx884_0⟩ := Kd.at_int HR0.out x4_1 p884 q884
        cases e884
        try replace hx884_0 := (HB.out.cell (World.block_lt_of_cell? w _ hx884_0)).trans hx884_0
        replace p884 := eq_true p884
        replace q884 := eq_true q884
        have p9 : 0 ≤ (x4_1 : Int) := Hof.D
        have q9 : (x4_1 : Int) < ((x3_1.length : Int) : Int) := Hof.D
        obtain ⟨go9, co9, eo9, gb9, gl9, cl9, HG9⟩ := Kd.R_form HO_3.out (by omega)
        (first | cases eo9 | (injection eo9 with ea_ en_ ec_; (first | subst ea_ | (injection ea_ with ea_; subst ea_)); subst ec_; clear en_))
        have GB9 := Aside0.mk gb9
        have GG9 := Aside0.mk HG9
        clear gb9 gl9 HG9
        obtain ⟨hx9_0, hf9_0⟩ := Kd.R_celln 0 HO_3.out (x4_1 : Int) p9 q9
        replace p9 := eq_true p9
        replace q9 := eq_true q9
        have HP10 := Kd.R_putg HO_3.out (x4_1 : Int) (rd l0 x4_1)
        go_wp2_with (first | ((with_reducible refine gate_store (t := 3) (p := 20) rfl ?_); refine store_event (t := 3) (p := 20) (v := ?vo_w11) (w1 := (wr.setCell ⟨go9, (x4_1 : Int).toNat, none⟩ (.int .i64 (rd l0 x4_1)))) ?hg ?ho ?hn ?hr ?_; (case ho => rfl); (case hg => rfl); (case hn => rfl); (case hr => first | (go_simp; done) | (go_simp; rfl)); intro w11 hw; have hg : wr.grownBy w11 (some go9) := (by rw [hw]; exact HP10.2); have hp_ : Kd.R (Kd.int .i64) 3 w11 w.heap.size (fun _ => True) (.slice (some ⟨go9, 0, none⟩) x3_1.length co9) y885 := (by rw [hw, Ny885.out]; exact HP10.1); clear HP10; replace HO_3 := Aside0.mk hp_; replace HB := Aside0.mk ((by rw [hw]; exact below_set (HB.out) GB9.out : Below w.heap.size w w11)); clear hg hw hp_))
        go_roundg k1
        case measure => have := HK1.out; omega
        case rel => exact ⟨(y885), (wrap64 (x4_1 + 1)), Hof.F, H', ⟨by have := HK1.out; omega⟩, ⟨Hof.Rw HO_3.out⟩, ⟨Hof.Lw HB.out⟩⟩
       ·rw [if_neg c8] at H
        exact absurd H (by simp)
      ·rw [if_neg c7] at H
       exact absurd H (by simp)
     ·rw [if_neg c6] at H
      have c6b0 : decide (x4_1 < (l0.length : Int)) = false := decide_eq_false c6
      clear c6
      obtain rfl := Option.some.inj H
      go_wp2
      go_ret
      exact ⟨_, Hof.E, by (with_reducible repeat (first | apply Kd.R_alloc | apply Kd.R_drewN | apply Kd.R_drew)); exact HO_3.out, Hof.L⟩
  ·rw [if_neg c3] at H
   exact absurd H (by simp)
 ·rw [if_neg c2] at H
  exact absurd H (by simp)
def laws_toMatroid.f (k : Nat) (a0_0 : Int) (l0_1 : List Int) : Option (Int × List Int) := (laws_toIntS.f k l0_1).bind fun t889 => (some (a0_0, t889))
set_option maxHeartbeats 8000000 in
set_option maxRecDepth 100000 in
theorem laws_toMatroid.calls (k : Nat) (a0_0 : Int) (A0_1 : Option Addr) (c0_1 : Nat) (l0_1 : List Int) (r1 : Int) (r2 : List Int) (w : World) (hr0_1 : Kd.C (Kd.int .i64) w A0_1 l0_1.length l0_1) (hc0_1 : l0_1.length ≤ c0_1) (h : laws_toMatroid.f k a0_0 l0_1 = some (r1, r2)) :
  Calls Try.prog 32 #[.agg #[.int .i64 a0_0, .slice A0_1 l0_1.length c0_1]] w fun e w' => ∃ v1_ : Value, e = .returned (.agg #[.int .i64 r1, v1_]) ∧ Kd.R (Kd.int .i64) 3 w' w.heap.size (fun _ => True) v1_ r2 ∧ Below w.heap.size w w' := by
 have hu43 := Try.underlying43
 have hu35 := Try.underlying35
 have HR0_1 := Aside0.mk hr0_1
 have HC0_1 := Aside0.mk hc0_1
 clear hr0_1 hc0_1
 have HB := Aside0.mk (Below.refl w.heap.size w)
 unfold laws_toMatroid.f at h
 have H := h
 clear h
 obtain ⟨t889, A2, H⟩ := Hof.be H
 (try dsimp only at H)
 simp only [Option.some.injEq, Prod.mk.injEq] at H
 obtain ⟨rfl, rfl⟩ := H
 go_enter Try.func32, Try.ntmps32
 go_wp2_with (first | (refine Hof.bx 1 #[.int .i64 a0_0, .slice A0_1 l0_1.length c0_1] 43 ?_; intro gb886 hg w3 hbox hb; have BK886 := Aside0.mk hbox; have GW886 := Hof.gw hg HB; have GE886 := Hof.gw hg HB; replace HB := Hof.lb HB hb; clear hb hbox hg) | (refine Hof.bx 2 #[.int .i64 0, .slice none 0 0] 35 ?_; intro gb887 hg w4 hbox hb; have BK887 := Aside0.mk hbox; have GW887 := Hof.gL (w := w) hg Hof.L; have GE887 := Hof.gL (w := w) hg Hof.L; replace HB := Aside0.mk (below_step Hof.L hb); have NB886_887 := Hof.nl hg BK886; have NB887_886 := Hof.ng hg BK886; replace BK886 := Hof.bb BK886 hb; clear hb hbox hg) | (refine Hof.bx 3 #[.int .i64 0, .slice none 0 0] 35 ?_; intro gb888 hg w5 hbox hb; have BK888 := Aside0.mk hbox; have GW888 := Hof.gL (w := w) hg Hof.L; have GE888 := Hof.gL (w := w) hg Hof.L; replace HB := Aside0.mk (below_step Hof.L hb); have NB886_888 := Hof.nl hg BK886; have NB888_886 := Hof.ng hg BK886; replace BK886 := Hof.bb BK886 hb; have NB887_888 := Hof.nl hg BK887; have NB888_887 := Hof.ng hg BK887; replace BK887 := Hof.bb BK887 hb; clear hb hbox hg; have hnb6 := NB886_887.out; have hnc6 := NB887_886.out; have hnb7 := NB886_888.out; have hnc7 := NB888_886.out; obtain ⟨hcz8_0, hcz8_1, hfz8_0, hfz8_1⟩ := Hof.blk2 BK886.out; have hnb9 := NB888_887.out; have hnc9 := NB887_888.out; obtain ⟨hcz10_0, hcz10_1, hfz10_0, hfz10_1⟩ := Hof.blk2 BK888.out) | (refine Hof.gl (some 9) Try.func75 #[.slice A0_1 l0_1.length c0_1] ?_; (with_reducible refine (laws_toIntS.calls k _ _ l0_1 t889 _ ?side1 ?side2 A2.out).mono ?_); (case side1 => exact Kd.C_below HR0_1.out Hof.L); (case side2 => exact HC0_1.out); rintro e w11 ⟨v890, rfl, ho0, hb⟩; refine ⟨_, rfl, ?_⟩; have HO891 := Aside0.mk (Kd.R_lower ho0 (below_size Hof.L)); replace BK886 := Aside0.mk (blk_below (g := gb886) (o := .cells #[.int .i64 a0_0, .slice A0_1 l0_1.length c0_1] 43 (0, 0)) Hof.B hb); replace BK887 := Aside0.mk (blk_below (g := gb887) (o := .cells #[.int .i64 0, .slice none 0 0] 35 (0, 0)) Hof.B hb); replace BK888 := Aside0.mk (blk_below (g := gb888) (o := .cells #[.int .i64 a0_0, .slice none 0 0] 35 (0, 0)) Hof.B hb); replace HB := Aside0.mk (below_step Hof.L hb); (try clear hb); (try clear hb2); (try clear hk); (try clear hi); (try clear ho0); obtain ⟨Ao12, co12, eo12⟩ := Kd.R_slice HO891.out; subst eo12; obtain ⟨hcz13_0, hcz13_1, hfz13_0, hfz13_1⟩ := Hof.blk2 BK888.out; obtain ⟨hcz14_0, hcz14_1, hfz14_0, hfz14_1⟩ := Hof.blk2 BK887.out))
 refine bodyPost_ret (results_cell_row rfl _ _ gb887 35 #[.int .i64 a0_0, .slice Ao12 t889.length co12] (0, 0) _ rfl Hof.B Try.underlying35 rfl (by kernel_rfl)) rfl ?_
 exact ⟨_, Hof.E, by (with_reducible repeat (first | apply Kd.R_alloc | apply Kd.R_drewN | apply Kd.R_drew)); exact Kd.R_mono (Kd.R_far (p := ⟨gb887, 1, none⟩) (Kd.R_far (p := ⟨gb887, 0, none⟩) (Kd.R_far (p := ⟨gb888, 1, none⟩) (Kd.R_types (Kd.R_types HO891.out BK888.out (by decide)) BK887.out (by decide)) (fun _ hk => hk.1.2) (.slice Ao12 t889.length co12)) (fun _ hk => hk.2) (.int .i64 a0_0)) (fun _ hk => hk.2) (.slice Ao12 t889.length co12)) (fun _ hk => trivial), Hof.L⟩
def impl_isAny.f (a0 : Int) : Option (Bool) := if a0 ≥ 0 then (some (decide (a0 < 256))) else (some false)
set_option maxHeartbeats 8000000 in
set_option maxRecDepth 100000 in
theorem impl_isAny.calls (a0 : Int) (r : Bool) (w : World) (h : impl_isAny.f a0 = some r) :
  Calls Try.prog 121 #[.int .i64 a0] w fun e w' => e = .returned (.bool r) ∧ Drawn0 w w' := by
 unfold impl_isAny.f at h
 have H := h
 clear h
 by_cases c2 : a0 ≥ 0
 ·rw [if_pos c2] at H
  have c2b0 := decide_eq_true c2
  clear c2
  obtain rfl := Option.some.inj H
  go_enter Try.func121, Try.ntmps121
  go_wp2
  go_ret
  exact ⟨Hof.F, Hof.G⟩
 ·rw [if_neg c2] at H
  have c2b0 : decide (0 ≤ a0) = false := decide_eq_false c2
  clear c2
  obtain rfl := Option.some.inj H
  go_enter Try.func121, Try.ntmps121
  go_wp2
  go_ret
  exact ⟨Hof.F, Hof.G⟩
def impl_HasElement.f (a0 : Int) (a1 : Int) : Option (Bool) := (impl_isAny.f a0).bind fun t191 => (if t191 = true then (if a1 ≥ 0 then (if a1 < 8 then (if 0 ≤ a1 then (some ((Go.bits .and .i64 (shr .i64 a0 a1) 1) == 1)) else (none)) else (some false)) else (some false)) else (some false))
set_option maxHeartbeats 8000000 in
set_option maxRecDepth 100000 in
theorem impl_HasElement.calls (a0 : Int) (a1 : Int) (r : Bool) (w : World) (h : impl_HasElement.f a0 a1 = some r) :
  Calls Try.prog 82 #[.int .i64 a0, .int .i64 a1] w fun e w' => e = .returned (.bool r) ∧ Drawn0 w w' := by
 unfold impl_HasElement.f at h
 have H := h
 clear h
 obtain ⟨t191, A3, H⟩ := Hof.be H
 (try dsimp only at H)
 by_cases c4 : t191 = true
 ·subst c4
  replace H : (if a1 ≥ 0 then (if a1 < 8 then (if 0 ≤ a1 then (some ((Go.bits .and .i64 (shr .i64 a0 a1) 1) == 1)) else (none)) else (some false)) else (some false)) = some r := by rw [if_pos rfl] at H; exact H
  by_cases c5 : a1 ≥ 0
  ·rw [if_pos c5] at H
   have c5b0 := decide_eq_true c5
   clear c5
   by_cases c6 : a1 < 8
   ·rw [if_pos c6] at H
    have c6b0 := decide_eq_true c6
    clear c6
    by_cases c7 : 0 ≤ a1
    ·rw [if_pos c7] at H
     have c7b0 := eq_true c7
     have c7b1 : decide (0 ≤ a1) = true := decide_eq_true c7
     clear c7
     obtain ⟨ji8, hji8⟩ : ∃ j_ : Int, (shr .i64 a0 a1) = j_ := ⟨_, rfl⟩
     replace H : (some ((Go.bits .and .i64 (ji8) 1) == 1)) = some r := by first | (rw [hji8] at H; exact H) | (simp only [hji8] at H ⊢; exact H)
     (try rw [hji8] at A3)
     have hji8_ : (a0 / 2 ^ min a1.toNat 64) = ji8 := hji8
     have hji8z : a1 ≤ 64 → (a0 / 2 ^ a1.toNat) = ji8 := shr_small hji8
     obtain rfl := Option.some.inj H
     go_enter Try.func82, Try.ntmps82
     go_wp2_with (first | (refine Hof.gl (some 6) Try.func121 #[.int .i64 a0] ?_; (with_reducible refine (impl_isAny.calls a0 true _ A3.out).mono ?_); rintro e w' ⟨rfl, ⟨nd, rfl⟩⟩; refine ⟨_, rfl, ?_⟩))
     go_ret
     exact ⟨by first | rfl | (simp; done) | (simp only [← hji8] <;> (first | rfl | simp)) | (simp [*]; done), Hof.G⟩
    ·rw [if_neg c7] at H
     exact absurd H (by simp)
   ·rw [if_neg c6] at H
    have c6b0 : decide (a1 < 8) = false := decide_eq_false c6
    clear c6
    obtain rfl := Option.some.inj H
    go_enter Try.func82, Try.ntmps82
    go_wp2_with (first | (refine Hof.gl (some 6) Try.func121 #[.int .i64 a0] ?_; (with_reducible refine (impl_isAny.calls a0 true _ A3.out).mono ?_); rintro e w' ⟨rfl, ⟨nd, rfl⟩⟩; refine ⟨_, rfl, ?_⟩))
    go_ret
    exact ⟨Hof.F, Hof.G⟩
  ·rw [if_neg c5] at H
   have c5b0 : decide (0 ≤ a1) = false := decide_eq_false c5
   clear c5
   obtain rfl := Option.some.inj H
   go_enter Try.func82, Try.ntmps82
   go_wp2_with (first | (refine Hof.gl (some 6) Try.func121 #[.int .i64 a0] ?_; (with_reducible refine (impl_isAny.calls a0 true _ A3.out).mono ?_); rintro e w' ⟨rfl, ⟨nd, rfl⟩⟩; refine ⟨_, rfl, ?_⟩))
   go_ret
   exact ⟨Hof.F, Hof.G⟩
 ·replace c4 := Bool.eq_false_iff.mpr c4
  subst c4
  replace H : (some false) = some r := by rw [if_neg (show ¬ (false = true) by decide)] at H; exact H
  obtain rfl := Option.some.inj H
  go_enter Try.func82, Try.ntmps82
  go_wp2_with (first | (refine Hof.gl (some 6) Try.func121 #[.int .i64 a0] ?_; (with_reducible refine (impl_isAny.calls a0 false _ A3.out).mono ?_); rintro e w' ⟨rfl, ⟨nd, rfl⟩⟩; refine ⟨_, rfl, ?_⟩))
  go_ret
  exact ⟨Hof.F, Hof.G⟩
def impl_ElementsOf.l0 : Nat → Int → List Int → Int → Option (List Int)
 | 0, _, _, _ => none
 | k + 1, x0, x3, x4 => if x4 < 8 then ((impl_HasElement.f x0 x4).bind fun t195 => (if t195 = true then (if x3.length < 17592186044416 then (impl_ElementsOf.l0 k x0 (x3 ++ [x4]) (wrap64 (x4 + 1))) else (none)) else (impl_ElementsOf.l0 k x0 x3 (wrap64 (x4 + 1))))) else (some x3)
def impl_ElementsOf.f (k : Nat) (a0 : Int) : Option (List Int) := impl_ElementsOf.l0 k a0 (([] : List Int)) 0
theorem impl_ElementsOf.mono_l : ∀ k, (∀ y0 y1 y2, LeO (impl_ElementsOf.l0 k y0 y1 y2) (impl_ElementsOf.l0 (k + 1) y0 y1 y2))
 | 0 => fun _ _ _ r h => by simp [impl_ElementsOf.l0] at h
 | k + 1 => by
  have ih0 := impl_ElementsOf.mono_l k
  ·intro y0 y1 y2
   unfold impl_ElementsOf.l0
   repeat' first
   | (with_reducible exact ih0 _ _ _)
   | (with_reducible exact LeO.refl _)
   | (with_reducible exact LeO.none _)
   | (with_reducible refine LeO.ite ?_ ?_)
   | (with_reducible refine LeO.bind ?_ (fun _ => ?_))
   | exact ih0 _ _ _
   | exact LeO.none _
   | refine LeO.ite ?_ ?_
   | refine LeO.bind ?_ (fun _ => ?_)
theorem impl_ElementsOf.mono : ∀ a0 k, LeO (impl_ElementsOf.f k a0) (impl_ElementsOf.f (k + 1) a0) := by
 intro a0 k
 have ih0 := impl_ElementsOf.mono_l k
 unfold impl_ElementsOf.f
 repeat' first
   | (with_reducible exact ih0 _ _ _)
   | (with_reducible exact LeO.refl _)
   | (with_reducible exact LeO.none _)
   | (with_reducible refine LeO.ite ?_ ?_)
   | (with_reducible refine LeO.bind ?_ (fun _ => ?_))
   | exact ih0 _ _ _
   | exact LeO.none _
   | refine LeO.ite ?_ ?_
   | refine LeO.bind ?_ (fun _ => ?_)
set_option maxHeartbeats 8000000 in
set_option maxRecDepth 100000 in
theorem impl_ElementsOf.calls (k : Nat) (a0 : Int) (r : List Int) (w : World) (h : impl_ElementsOf.f k a0 = some r) :
  Calls Try.prog 62 #[.int .i64 a0] w fun e w' => ∃ v0_ : Value, e = .returned (v0_) ∧ Kd.R (Kd.int .i64) 3 w' w.heap.size (fun _ => True) v0_ r ∧ Below w.heap.size w w' := by
 have HB := Aside0.mk (Below.refl w.heap.size w)
 unfold impl_ElementsOf.f at h
 have H := h
 clear h
 obtain ⟨y192, hy192⟩ : ∃ y_ : List Int, y_ = (([] : List Int)) := ⟨_, rfl⟩
 replace H : (impl_ElementsOf.l0 k a0 y192 0) = some r := by (try rw [hy192]); exact Hof.Z
 have Ny192 := Aside0.mk hy192
 clear hy192
 have H' := Aside0.mk H
 clear H
 go_enter Try.func62, Try.ntmps62
 go_wp2_with (first | (refine Hof.lt (Kd.int .i64) 3 5 ?_; intro v193 w2 ho3 hb hg_ hnew_; clear hg_ hnew_; (first | rw [← Ny192.out] at ho3 | (simp only [Int.reduceToNat] at ho3; rw [← Ny192.out] at ho3)); have HO194 := Aside0.mk (Kd.R_lower ho3 (below_size (Hof.Lw HB.out))); replace HB := Hof.lb HB hb; clear hb ho3))
 go_loopg [3, 4] k (fun kq v3 v4 w' => ∃ (x3_1 : List Int) (x4_1 : Int), v4 = .int .i64 x4_1 ∧ Aside0 (impl_ElementsOf.l0 kq a0 x3_1 x4_1 = some r) ∧ Aside0 (kq ≤ k) ∧ Aside0 (Kd.R (Kd.int .i64) 3 w' w.heap.size (fun _ => True) v3 x3_1) ∧ Aside0 (Below w.heap.size w w'))
 case atStart => exact ⟨(y192), (0), Hof.F, H', ⟨Nat.le_refl _⟩, ⟨Hof.Rw HO194.out⟩, ⟨Hof.Lw HB.out⟩⟩
 case round =>
  clear H'
  obtain ⟨x3_1, x4_1, rfl, HA, HK1, HO_3, HB⟩ := hrel
  cases gk with
  | zero => exact absurd HA.out (by simp [impl_ElementsOf.l0])
  | succ k1 =>
   have H := HA.out
   clear HA
   simp only [impl_ElementsOf.l0] at H
   by_cases c4 : x4_1 < 8
   ·rw [if_pos c4] at H
    have c4b0 := decide_eq_true c4
    clear c4
    obtain ⟨t195, A5, H⟩ := Hof.be H
    (try dsimp only at H)
    by_cases c6 : t195 = true
    ·subst c6
     replace H : (if x3_1.length < 17592186044416 then (impl_ElementsOf.l0 k1 a0 (x3_1 ++ [x4_1]) (wrap64 (x4_1 + 1))) else (none)) = some r := by rw [if_pos rfl] at H; exact H
     by_cases c7 : x3_1.length < 17592186044416
     ·rw [if_pos c7] at H
      have LMc7 := Aside0.mk c7
      clear c7
      obtain ⟨y196, hy196⟩ : ∃ y_ : List Int, y_ = (x3_1 ++ [x4_1]) := ⟨_, rfl⟩
      replace H : (impl_ElementsOf.l0 k1 a0 y196 (wrap64 (x4_1 + 1))) = some r := by (try rw [hy196]); exact Hof.Z
      have Ny196 := Aside0.mk hy196
      clear hy196
      have H' := Aside0.mk H
      clear H
      go_wp2_with (first | (refine Hof.gl (some 12) Try.func82 #[.int .i64 a0, .int .i64 x4_1] ?_; (with_reducible refine (impl_HasElement.calls a0 x4_1 true _ A5.out).mono ?_); rintro e w' ⟨rfl, ⟨nd, rfl⟩⟩; refine ⟨_, rfl, ?_⟩) | ((with_reducible refine gate_builtin (b := .append) (xs := #[.tmp 13, .tmp 15]) rfl ?_); at_builtin; refine Kd.R_append (Kd.int .i64) (w0 := w) w.heap.size rfl (.tmp 13) (.tmp 15) 24 3 (.int .i64 0) 8 rfl Try.underlying24 info3 rfl (by decide) (by omega) u3 x3_1 x4_1 [.int .i64 x4_1] (fun _ => True) (fun _ => False) rfl rfl (by exact rfl) (fun _ hk => hk.elim) (by exact fun _ _ => trivial) (by exact Hof.Rw HO_3.out) (by exact Hof.Lw HB.out) (by exact below_size (Hof.Lw HB.out)) (by have := LMc7.out; omega) ?_; intro v197 w8 ho hb hg hat; rw [← Ny196.out] at ho; have n0_ := Aside0.mk hb; have n1_ := Aside0.mk ho; clear HB; clear HO_3; have HB := n0_; have HO198 := n1_; clear n0_ n1_; clear ho hb hg hat))
      go_roundg k1
      case measure => have := HK1.out; omega
      case rel => exact ⟨(y196), (wrap64 (x4_1 + 1)), Hof.F, H', ⟨by have := HK1.out; omega⟩, ⟨Hof.Rw HO198.out⟩, ⟨Hof.Lw HB.out⟩⟩
     ·rw [if_neg c7] at H
      exact absurd H (by simp)
    ·replace c6 := Bool.eq_false_iff.mpr c6
     subst c6
     replace H : (impl_ElementsOf.l0 k1 a0 x3_1 (wrap64 (x4_1 + 1))) = some r := by rw [if_neg (show ¬ (false = true) by decide)] at H; exact H
     have H' := Aside0.mk H
     clear H
     go_wp2_with (first | (refine Hof.gl (some 12) Try.func82 #[.int .i64 a0, .int .i64 x4_1] ?_; (with_reducible refine (impl_HasElement.calls a0 x4_1 false _ A5.out).mono ?_); rintro e w' ⟨rfl, ⟨nd, rfl⟩⟩; refine ⟨_, rfl, ?_⟩))
     go_roundg k1
     case measure => have := HK1.out; omega
     case rel => exact ⟨(x3_1), (wrap64 (x4_1 + 1)), Hof.F, H', ⟨by have := HK1.out; omega⟩, ⟨Hof.Rw HO_3.out⟩, ⟨Hof.Lw HB.out⟩⟩
   ·rw [if_neg c4] at H
    have c4b0 : decide (x4_1 < 8) = false := decide_eq_false c4
    clear c4
    obtain rfl := Option.some.inj H
    go_wp2
    go_ret
    exact ⟨_, Hof.E, by (with_reducible repeat (first | apply Kd.R_alloc | apply Kd.R_drewN | apply Kd.R_drew)); exact HO_3.out, Hof.L⟩
def impl_isSize.f (a0 : Int) : Option (Bool) := if a0 ≥ 0 then (some (decide (a0 ≤ 8))) else (some false)
set_option maxHeartbeats 8000000 in
set_option maxRecDepth 100000 in
theorem impl_isSize.calls (a0 : Int) (r : Bool) (w : World) (h : impl_isSize.f a0 = some r) :
  Calls Try.prog 105 #[.int .i64 a0] w fun e w' => e = .returned (.bool r) ∧ Drawn0 w w' := by
 unfold impl_isSize.f at h
 have H := h
 clear h
 by_cases c2 : a0 ≥ 0
 ·rw [if_pos c2] at H
  have c2b0 := decide_eq_true c2
  clear c2
  obtain rfl := Option.some.inj H
  go_enter Try.func105, Try.ntmps105
  go_wp2
  go_ret
  exact ⟨Hof.F, Hof.G⟩
 ·rw [if_neg c2] at H
  have c2b0 : decide (0 ≤ a0) = false := decide_eq_false c2
  clear c2
  obtain rfl := Option.some.inj H
  go_enter Try.func105, Try.ntmps105
  go_wp2
  go_ret
  exact ⟨Hof.F, Hof.G⟩
def impl_IsSet.f (a0 : Int) (a1 : Int) : Option (Bool) := (impl_isSize.f a0).bind fun t190 => (if t190 = true then (if a1 ≥ 0 then (if 0 ≤ a0 then (some (decide (a1 < (shl .i64 1 a0)))) else (none)) else (some false)) else (some false))
set_option maxHeartbeats 8000000 in
set_option maxRecDepth 100000 in
theorem impl_IsSet.calls (a0 : Int) (a1 : Int) (r : Bool) (w : World) (h : impl_IsSet.f a0 a1 = some r) :
  Calls Try.prog 61 #[.int .i64 a0, .int .i64 a1] w fun e w' => e = .returned (.bool r) ∧ Drawn0 w w' := by
 unfold impl_IsSet.f at h
 have H := h
 clear h
 obtain ⟨t190, A3, H⟩ := Hof.be H
 (try dsimp only at H)
 by_cases c4 : t190 = true
 ·subst c4
  replace H : (if a1 ≥ 0 then (if 0 ≤ a0 then (some (decide (a1 < (shl .i64 1 a0)))) else (none)) else (some false)) = some r := by rw [if_pos rfl] at H; exact H
  by_cases c5 : a1 ≥ 0
  ·rw [if_pos c5] at H
   have c5b0 := decide_eq_true c5
   clear c5
   by_cases c6 : 0 ≤ a0
   ·rw [if_pos c6] at H
    have c6b0 := eq_true c6
    have c6b1 : decide (0 ≤ a0) = true := decide_eq_true c6
    clear c6
    obtain ⟨ji7, hji7⟩ : ∃ j_ : Int, (shl .i64 1 a0) = j_ := ⟨_, rfl⟩
    replace H : (some (decide (a1 < (ji7)))) = some r := by first | (rw [hji7] at H; exact H) | (simp only [hji7] at H ⊢; exact H)
    (try rw [hji7] at A3)
    have hji7_ : (IntKind.i64.wrap (1 * 2 ^ min a0.toNat 64)) = ji7 := hji7
    have hji7z : a0 ≤ 64 → (IntKind.i64.wrap (1 * 2 ^ a0.toNat)) = ji7 := shl_small hji7
    have hji7u : (IntKind.i64.wrap (2 ^ min a0.toNat 64)) = ji7 := by have h_ := hji7_; rw [Int.one_mul] at h_; exact h_
    have hji7v : a0 ≤ 64 → (IntKind.i64.wrap (2 ^ a0.toNat)) = ji7 := fun hle_ => by have h_ := hji7z hle_; rw [Int.one_mul] at h_; exact h_
    have hji7y : (wrap64 (1 * 2 ^ min a0.toNat 64)) = ji7 := (i64_w _).symm.trans hji7_
    have hji7x : a0 ≤ 64 → (wrap64 (1 * 2 ^ a0.toNat)) = ji7 := fun h_ => (i64_w _).symm.trans (hji7z h_)
    obtain rfl := Option.some.inj H
    go_enter Try.func61, Try.ntmps61
    go_wp2_with (first | (refine Hof.gl (some 6) Try.func105 #[.int .i64 a0] ?_; (with_reducible refine (impl_isSize.calls a0 true _ A3.out).mono ?_); rintro e w' ⟨rfl, ⟨nd, rfl⟩⟩; refine ⟨_, rfl, ?_⟩))
    go_ret
    exact ⟨by first | rfl | (simp; done) | (simp only [← hji7] <;> (first | rfl | simp)) | (simp [*]; done), Hof.G⟩
   ·rw [if_neg c6] at H
    exact absurd H (by simp)
  ·rw [if_neg c5] at H
   have c5b0 : decide (0 ≤ a1) = false := decide_eq_false c5
   clear c5
   obtain rfl := Option.some.inj H
   go_enter Try.func61, Try.ntmps61
   go_wp2_with (first | (refine Hof.gl (some 6) Try.func105 #[.int .i64 a0] ?_; (with_reducible refine (impl_isSize.calls a0 true _ A3.out).mono ?_); rintro e w' ⟨rfl, ⟨nd, rfl⟩⟩; refine ⟨_, rfl, ?_⟩))
   go_ret
   exact ⟨Hof.F, Hof.G⟩
 ·replace c4 := Bool.eq_false_iff.mpr c4
  subst c4
  replace H : (some false) = some r := by rw [if_neg (show ¬ (false = true) by decide)] at H; exact H
  obtain rfl := Option.some.inj H
  go_enter Try.func61, Try.ntmps61
  go_wp2_with (first | (refine Hof.gl (some 6) Try.func105 #[.int .i64 a0] ?_; (with_reducible refine (impl_isSize.calls a0 false _ A3.out).mono ?_); rintro e w' ⟨rfl, ⟨nd, rfl⟩⟩; refine ⟨_, rfl, ?_⟩))
  go_ret
  exact ⟨Hof.F, Hof.G⟩
def impl_IsFamily.l0 : Nat → Int → List Int → List Int → Int → Int → Option (Bool)
 | 0, _, _, _, _, _ => none
 | k + 1, x0, x1, x7, x8, x9 => if x9 < x8 then (if 0 ≤ x9 then (if x9 < (x7.length : Int) then ((impl_IsSet.f x0 (rd x7 x9)).bind fun t484 => (if t484 = true then (if x9 > 0 then (if 0 ≤ (wrap64 (x9 - 1)) then (if (wrap64 (x9 - 1)) < (x1.length : Int) then (if (rd x7 x9) ≤ (rd x1 (wrap64 (x9 - 1))) then (some false) else (impl_IsFamily.l0 k x0 x1 x7 x8 (wrap64 (x9 + 1)))) else (none)) else (none)) else (impl_IsFamily.l0 k x0 x1 x7 x8 (wrap64 (x9 + 1)))) else (some false))) else (none)) else (none)) else ((impl_isSize.f x0).bind fun t486 => (some t486))
def impl_IsFamily.f (k : Nat) (a0 : Int) (l1 : List Int) : Option (Bool) := impl_IsFamily.l0 k a0 l1 l1 (l1.length : Int) 0
set_option maxHeartbeats 8000000 in
set_option maxRecDepth 100000 in
theorem impl_IsFamily.calls (k : Nat) (a0 : Int) (A1 : Option Addr) (c1 : Nat) (l1 : List Int) (r : Bool) (w : World) (hr1 : Kd.C (Kd.int .i64) w A1 l1.length l1) (hc1 : l1.length ≤ c1) (h : impl_IsFamily.f k a0 l1 = some r) :
  Calls Try.prog 120 #[.int .i64 a0, .slice A1 l1.length c1] w fun e w' => e = .returned (.bool r) ∧ Drawn0 w w' := by
 have HR1 := Aside0.mk hr1
 have HC1 := Aside0.mk hc1
 clear hr1 hc1
 unfold impl_IsFamily.f at h
 have H := h
 clear h
 have H' := Aside0.mk H
 clear H
 go_enter Try.func120, Try.ntmps120
 go_wp2
 go_loopg [9] k (fun kq v9 w' => ∃ (x9_1 : Int), v9 = .int .i64 x9_1 ∧ Aside0 (impl_IsFamily.l0 kq a0 l1 l1 (l1.length : Int) x9_1 = some r) ∧ Aside0 (kq ≤ k) ∧ Drawn0 w w')
 case atStart => exact ⟨(0), Hof.F, H', ⟨Nat.le_refl _⟩, Hof.G⟩
 case round =>
  clear H'
  obtain ⟨x9_1, rfl, HA, HK1, ⟨m1, rfl⟩⟩ := hrel
  cases gk with
  | zero => exact absurd HA.out (by simp [impl_IsFamily.l0])
  | succ k1 =>
   have H := HA.out
   clear HA
   simp only [impl_IsFamily.l0] at H
   by_cases c3 : x9_1 < (l1.length : Int)
   ·rw [if_pos c3] at H
    have c3b0 := decide_eq_true c3
    clear c3
    by_cases c4 : 0 ≤ x9_1
    ·rw [if_pos c4] at H
     have c4b0 := decide_eq_true c4
     clear c4
     by_cases c5 : x9_1 < (l1.length : Int)
     ·rw [if_pos c5] at H
      have c5b0 := decide_eq_true c5
      clear c5
      obtain ⟨t484, A6, H⟩ := Hof.be H
      (try dsimp only at H)
      by_cases c7 : t484 = true
      ·subst c7
       replace H : (if x9_1 > 0 then (if 0 ≤ (wrap64 (x9_1 - 1)) then (if (wrap64 (x9_1 - 1)) < (l1.length : Int) then (if (rd l1 x9_1) ≤ (rd l1 (wrap64 (x9_1 - 1))) then (some false) else (impl_IsFamily.l0 k1 a0 l1 l1 (l1.length : Int) (wrap64 (x9_1 + 1)))) else (none)) else (none)) else (impl_IsFamily.l0 k1 a0 l1 l1 (l1.length : Int) (wrap64 (x9_1 + 1)))) = some r := by rw [if_pos rfl] at H; exact H
       by_cases c8 : x9_1 > 0
       ·rw [if_pos c8] at H
        have c8b0 := decide_eq_true c8
        clear c8
        obtain ⟨ji9, hji9⟩ : ∃ j_ : Int, (wrap64 (x9_1 - 1)) = j_ := ⟨_, rfl⟩
        replace H : (if 0 ≤ (ji9) then (if (ji9) < (l1.length : Int) then (if (rd l1 x9_1) ≤ (rd l1 (ji9)) then (some false) else (impl_IsFamily.l0 k1 a0 l1 l1 (l1.length : Int) (wrap64 (x9_1 + 1)))) else (none)) else (none)) = some r := by first | (rw [hji9] at H; exact H) | (simp only [hji9] at H ⊢; exact H)
        (try rw [hji9] at A6)
        have hji9w : (IntKind.i64.wrap (x9_1 - 1)) = ji9 := (i64_w _).trans hji9
        by_cases c10 : 0 ≤ (ji9)
        ·rw [if_pos c10] at H
         have c10b0 := decide_eq_true c10
         clear c10
         by_cases c11 : (ji9) < (l1.length : Int)
         ·rw [if_pos c11] at H
          have c11b0 := decide_eq_true c11
          clear c11
          by_cases c12 : (rd l1 x9_1) ≤ (rd l1 (ji9))
          ·rw [if_pos c12] at H
           have c12b0 := decide_eq_true c12
           clear c12
           obtain rfl := Option.some.inj H
           have p483 : 0 ≤ (x9_1 : Int) := Hof.D
           have q483 : x9_1 < (l1.length : Int) := Hof.D
           obtain ⟨ad483, e483, hx483_0⟩ := Kd.at_int HR1.out x9_1 p483 q483
           cases e483
           replace p483 := eq_true p483
           replace q483 := eq_true q483
           go_wp2_with (first | (refine Hof.gl (some 16) Try.func61 #[.int .i64 a0, .int .i64 (rd l1 x9_1)] ?_; (with_reducible refine (impl_IsSet.calls a0 (rd l1 x9_1) true _ A6.out).mono ?_); rintro e w' ⟨rfl, ⟨nd, rfl⟩⟩; refine ⟨_, rfl, ?_⟩; have p485 : 0 ≤ ((ji9) : Int) := Hof.D; have q485 : (ji9) < (l1.length : Int) := Hof.D; obtain ⟨ad485, e485, hx485_0⟩ := Kd.at_int HR1.out (ji9) p485 q485; obtain rfl : ad483 = ad485 := (by injection e485); replace p485 := eq_true p485; replace q485 := eq_true q485))
           go_ret
           exact ⟨by first | rfl | (simp; done) | (simp only [← hji9] <;> (first | rfl | simp)) | (simp [*]; done), Hof.G⟩
          ·rw [if_neg c12] at H
           have c12b0 : decide ((rd l1 x9_1) ≤ (rd l1 (ji9))) = false := decide_eq_false c12
           clear c12
           have H' := Aside0.mk H
           clear H
           have p483 : 0 ≤ (x9_1 : Int) := Hof.D
           have q483 : x9_1 < (l1.length : Int) := Hof.D
           obtain ⟨ad483, e483, hx483_0⟩ := Kd.at_int HR1.out x9_1 p483 q483
           cases e483
           replace p483 := eq_true p483
           replace q483 := eq_true q483
           go_wp2_with (first | (refine Hof.gl (some 16) Try.func61 #[.int .i64 a0, .int .i64 (rd l1 x9_1)] ?_; (with_reducible refine (impl_IsSet.calls a0 (rd l1 x9_1) true _ A6.out).mono ?_); rintro e w' ⟨rfl, ⟨nd, rfl⟩⟩; refine ⟨_, rfl, ?_⟩; have p485 : 0 ≤ ((ji9) : Int) := Hof.D; have q485 : (ji9) < (l1.length : Int) := Hof.D; obtain ⟨ad485, e485, hx485_0⟩ := Kd.at_int HR1.out (ji9) p485 q485; obtain rfl : ad483 = ad485 := (by injection e485); replace p485 := eq_true p485; replace q485 := eq_true q485))
           go_roundg k1
           case measure => have := HK1.out; omega
           case rel => exact ⟨(wrap64 (x9_1 + 1)), Hof.F, H', ⟨by have := HK1.out; omega⟩, Hof.G⟩
         ·rw [if_neg c11] at H
          exact absurd H (by simp)
        ·rw [if_neg c10] at H
         exact absurd H (by simp)
       ·rw [if_neg c8] at H
        have c8b0 : decide (0 < x9_1) = false := decide_eq_false c8
        clear c8
        have H' := Aside0.mk H
        clear H
        have p483 : 0 ≤ (x9_1 : Int) := Hof.D
        have q483 : x9_1 < (l1.length : Int) := Hof.D
        obtain ⟨ad483, e483, hx483_0⟩ := Kd.at_int HR1.out x9_1 p483 q483
        cases e483
        replace p483 := eq_true p483
        replace q483 := eq_true q483
        go_wp2_with (first | (refine Hof.gl (some 16) Try.func61 #[.int .i64 a0, .int .i64 (rd l1 x9_1)] ?_; (with_reducible refine (impl_IsSet.calls a0 (rd l1 x9_1) true _ A6.out).mono ?_); rintro e w' ⟨rfl, ⟨nd, rfl⟩⟩; refine ⟨_, rfl, ?_⟩))
        go_roundg k1
        case measure => have := HK1.out; omega
        case rel => exact ⟨(wrap64 (x9_1 + 1)), Hof.F, H', ⟨by have := HK1.out; omega⟩, Hof.G⟩
      ·replace c7 := Bool.eq_false_iff.mpr c7
       subst c7
       replace H : (some false) = some r := by rw [if_neg (show ¬ (false = true) by decide)] at H; exact H
       obtain rfl := Option.some.inj H
       have p483 : 0 ≤ (x9_1 : Int) := Hof.D
       have q483 : x9_1 < (l1.length : Int) := Hof.D
       obtain ⟨ad483, e483, hx483_0⟩ := Kd.at_int HR1.out x9_1 p483 q483
       cases e483
       replace p483 := eq_true p483
       replace q483 := eq_true q483
       go_wp2_with (first | (refine Hof.gl (some 16) Try.func61 #[.int .i64 a0, .int .i64 (rd l1 x9_1)] ?_; (with_reducible refine (impl_IsSet.calls a0 (rd l1 x9_1) false _ A6.out).mono ?_); rintro e w' ⟨rfl, ⟨nd, rfl⟩⟩; refine ⟨_, rfl, ?_⟩))
       go_ret
       exact ⟨Hof.F, Hof.G⟩
     ·rw [if_neg c5] at H
      exact absurd H (by simp)
    ·rw [if_neg c4] at H
     exact absurd H (by simp)
   ·rw [if_neg c3] at H
    have c3b0 : decide (x9_1 < (l1.length : Int)) = false := decide_eq_false c3
    clear c3
    obtain ⟨t486, A13, H⟩ := Hof.be H
    (try dsimp only at H)
    obtain rfl := Option.some.inj H
    go_wp2_with (first | (refine Hof.gl (some 33) Try.func105 #[.int .i64 a0] ?_; (with_reducible refine (impl_isSize.calls a0 t486 _ A13.out).mono ?_); rintro e w' ⟨rfl, ⟨nd, rfl⟩⟩; refine ⟨_, rfl, ?_⟩))
    go_ret
    exact ⟨Hof.F, Hof.G⟩
def slices_IndexFunc_int_int.l0 (g : Int → Option Bool) : Nat → List Int → Int → Option Int
 | 0, _, _ => none
 | k + 1, x0, x8 => if x8 < (x0.length : Int) then (if 0 ≤ x8 then ((g (rd x0 x8)).bind fun t => (if t = true then (some x8) else (slices_IndexFunc_int_int.l0 g k x0 (wrap64 (x8 + 1))))) else (none)) else (some (-1))
def slices_IndexFunc_int_int.f (k : Nat) (l0 : List Int) (g : Int → Option Bool) : Option Int := slices_IndexFunc_int_int.l0 g k l0 0
set_option maxHeartbeats 8000000 in
set_option maxRecDepth 100000 in
theorem slices_IndexFunc_int_int.calls (k : Nat) (A0 : Option Addr) (c0 : Nat) (l0 : List Int) (fv : Value) (g : Int → Option Bool) (r : Int) (w : World) (hr0 : Kd.C (Kd.int .i64) w A0 l0.length l0) (hF : Hof.Fun1 Try.prog w fv g) (h : slices_IndexFunc_int_int.f k l0 g = some r) :
  Calls Try.prog 156 #[.slice A0 l0.length c0, fv] w fun e w' => e = .returned (.int .i64 r) ∧ Below w.heap.size w w' := by
 have HR0 := Aside0.mk hr0
 clear hr0
 have HB := Aside0.mk (Below.refl w.heap.size w)
 unfold slices_IndexFunc_int_int.f at h
 have H := h
 clear h
 have H' := Aside0.mk H
 clear H
 go_enter Try.func156, Try.ntmps156
 go_wp2
 go_loopg [8] k (fun kq v8 w' => ∃ (x8_1 : Int), v8 = .int .i64 x8_1 ∧ Aside0 (slices_IndexFunc_int_int.l0 g kq l0 x8_1 = some r) ∧ Aside0 (kq ≤ k) ∧ Aside0 (Below w.heap.size w w'))
 case atStart => exact ⟨0, rfl, H', ⟨Nat.le_refl _⟩, HB⟩
 case round =>
  clear H' HB
  obtain ⟨x8_1, rfl, HA, HK1, HB⟩ := hrel
  cases gk with
  | zero => exact absurd HA.out (by simp [slices_IndexFunc_int_int.l0])
  | succ k1 =>
   have H := HA.out
   clear HA
   simp only [slices_IndexFunc_int_int.l0] at H
   by_cases c3 : x8_1 < (l0.length : Int)
   ·rw [if_pos c3] at H
    have c3b0 := decide_eq_true c3
    clear c3
    by_cases c4 : 0 ≤ x8_1
    ·rw [if_pos c4] at H
     have c4b0 := decide_eq_true c4
     clear c4
     obtain ⟨t, A50, H⟩ := Option.bind_eq_some_iff.mp H
     have A5 := Aside0.mk A50
     clear A50
     have p165 : 0 ≤ (x8_1 : Int) := of_decide_eq_true (by assumption)
     have q165 : x8_1 < (l0.length : Int) := of_decide_eq_true (by assumption)
     obtain ⟨ad165, e165, hx165_0⟩ := Kd.at_int HR0.out x8_1 p165 q165
     cases e165
     replace hx165_0 := (HB.out.cell (World.block_lt_of_cell? w _ hx165_0)).trans hx165_0
     replace p165 := eq_true p165
     replace q165 := eq_true q165
     by_cases c6 : t = true
     ·subst c6
      have H1 : (some x8_1) = some r := by rw [if_pos rfl] at H; exact H
      clear H
      obtain rfl := Option.some.inj H1
      clear H1
      go_wp2_with (first | (refine Hof.goesF_ (some 16) rfl rfl 11 rfl hF A5.out HB.out rfl (by (try simp only [List.map_toArray, List.map_cons, List.map_nil]); first | done | rfl) ?_; intro w5 hb; have n1_ := Aside0.mk (below_step HB.out hb); clear HB; have HB := n1_; clear n1_ hb))
      go_ret
      exact ⟨rfl, HB.out⟩
     ·replace c6 := Bool.eq_false_iff.mpr c6
      subst c6
      have H1 : (slices_IndexFunc_int_int.l0 g k1 l0 (wrap64 (x8_1 + 1))) = some r := by rw [if_neg (show ¬ (false = true) by decide)] at H; exact H
      clear H
      have H' := Aside0.mk H1
      clear H1
      go_wp2_with (first | (refine Hof.goesF_ (some 16) rfl rfl 11 rfl hF A5.out HB.out rfl (by (try simp only [List.map_toArray, List.map_cons, List.map_nil]); first | done | rfl) ?_; intro w5 hb; have n1_ := Aside0.mk (below_step HB.out hb); clear HB; have HB := n1_; clear n1_ hb))
      go_roundg k1
      case measure => have := HK1.out; omega
      case rel => exact ⟨(wrap64 (x8_1 + 1)), rfl, H', ⟨by have := HK1.out; omega⟩, HB⟩
    ·rw [if_neg c4] at H
     exact absurd H (by simp)
   ·rw [if_neg c3] at H
    have c3b0 : decide (x8_1 < (l0.length : Int)) = false := decide_eq_false c3
    clear c3
    obtain rfl := Option.some.inj H
    go_wp2
    go_ret
    exact ⟨rfl, HB.out⟩
def slices_ContainsFunc_int_int.f (k : Nat) (l0 : List Int) (g : Int → Option Bool) : Option Bool := (slices_IndexFunc_int_int.f k l0 g).bind fun t => some (decide (t ≥ 0))
set_option maxHeartbeats 8000000 in
set_option maxRecDepth 100000 in
theorem slices_ContainsFunc_int_int.calls (k : Nat) (A0 : Option Addr) (c0 : Nat) (l0 : List Int) (fv : Value) (g : Int → Option Bool) (r : Bool) (w : World) (hr0 : Kd.C (Kd.int .i64) w A0 l0.length l0) (hF : Hof.Fun1 Try.prog w fv g) (h : slices_ContainsFunc_int_int.f k l0 g = some r) :
  Calls Try.prog 132 #[.slice A0 l0.length c0, fv] w fun e w' => e = .returned (.bool r) ∧ Below w.heap.size w w' := by
 have HR0 := Aside0.mk hr0
 clear hr0
 unfold slices_ContainsFunc_int_int.f at h
 obtain ⟨t, h1, h⟩ := Option.bind_eq_some_iff.mp h
 have A1 := Aside0.mk h1
 clear h1
 obtain rfl := Option.some.inj h
 clear h
 go_enter Try.func132, Try.ntmps132
 go_wp2_with (first | (refine Hof.gl (some 7) Try.func156 #[.slice A0 l0.length c0, fv] ?_; (with_reducible refine (slices_IndexFunc_int_int.calls k _ _ l0 fv g t _ HR0.out hF A1.out).mono ?_); rintro e w5 ⟨rfl, hb⟩; refine ⟨_, rfl, ?_⟩; have HB := Aside0.mk hb; clear hb))
 go_ret
 exact ⟨rfl, HB.out⟩
def slices_Index_int_int.l0 : Nat → List Int → Int → Int → Int → Option (Int)
 | 0, _, _, _, _ => none
 | k + 1, x0, x1, x7, x8 => if x8 < x7 then (if 0 ≤ x8 then (if x8 < (x0.length : Int) then (if x1 = (rd x0 x8) then (some x8) else (slices_Index_int_int.l0 k x0 x1 x7 (wrap64 (x8 + 1)))) else (none)) else (none)) else (some (-1))
def slices_Index_int_int.f (k : Nat) (l0 : List Int) (a1 : Int) : Option (Int) := slices_Index_int_int.l0 k l0 a1 (l0.length : Int) 0
set_option maxHeartbeats 8000000 in
set_option maxRecDepth 100000 in
theorem slices_Index_int_int.calls (k : Nat) (A0 : Option Addr) (c0 : Nat) (l0 : List Int) (a1 : Int) (r : Int) (w : World) (hr0 : Kd.C (Kd.int .i64) w A0 l0.length l0) (hc0 : l0.length ≤ c0) (h : slices_Index_int_int.f k l0 a1 = some r) :
  Calls Try.prog 65 #[.slice A0 l0.length c0, .int .i64 a1] w fun e w' => e = .returned (.int .i64 r) ∧ Drawn0 w w' := by
 have HR0 := Aside0.mk hr0
 have HC0 := Aside0.mk hc0
 clear hr0 hc0
 unfold slices_Index_int_int.f at h
 have H := h
 clear h
 have H' := Aside0.mk H
 clear H
 go_enter Try.func65, Try.ntmps65
 go_wp2
 go_loopg [8] k (fun kq v8 w' => ∃ (x8_1 : Int), v8 = .int .i64 x8_1 ∧ Aside0 (slices_Index_int_int.l0 kq l0 a1 (l0.length : Int) x8_1 = some r) ∧ Aside0 (kq ≤ k) ∧ Drawn0 w w')
 case atStart => exact ⟨(0), Hof.F, H', ⟨Nat.le_refl _⟩, Hof.G⟩
 case round =>
  clear H'
  obtain ⟨x8_1, rfl, HA, HK1, ⟨m1, rfl⟩⟩ := hrel
  cases gk with
  | zero => exact absurd HA.out (by simp [slices_Index_int_int.l0])
  | succ k1 =>
   have H := HA.out
   clear HA
   simp only [slices_Index_int_int.l0] at H
   by_cases c3 : x8_1 < (l0.length : Int)
   ·rw [if_pos c3] at H
    have c3b0 := decide_eq_true c3
    clear c3
    by_cases c4 : 0 ≤ x8_1
    ·rw [if_pos c4] at H
     have c4b0 := decide_eq_true c4
     clear c4
     by_cases c5 : x8_1 < (l0.length : Int)
     ·rw [if_pos c5] at H
      have c5b0 := decide_eq_true c5
      clear c5
      by_cases c6 : a1 = (rd l0 x8_1)
      ·rw [if_pos c6] at H
       have c6b0 : (a1 == (rd l0 x8_1)) = true := beq_iff_eq.mpr c6
       have c6b1 : (a1 != (rd l0 x8_1)) = false := bne_eq_false_iff_eq.mpr c6
       clear c6
       obtain rfl := Option.some.inj H
       have p199 : 0 ≤ (x8_1 : Int) := Hof.D
       have q199 : x8_1 < (l0.length : Int) := Hof.D
       obtain ⟨ad199, e199, hx199_0⟩ := Kd.at_int HR0.out x8_1 p199 q199
       cases e199
       replace p199 := eq_true p199
       replace q199 := eq_true q199
       go_wp2
       go_ret
       exact ⟨Hof.F, Hof.G⟩
      ·rw [if_neg c6] at H
       have c6b0 : (a1 == (rd l0 x8_1)) = false := beq_eq_false_iff_ne.mpr c6
       have c6b1 : (a1 != (rd l0 x8_1)) = true := bne_iff_ne.mpr c6
       have H' := Aside0.mk H
       clear H
       have p199 : 0 ≤ (x8_1 : Int) := Hof.D
       have q199 : x8_1 < (l0.length : Int) := Hof.D
       obtain ⟨ad199, e199, hx199_0⟩ := Kd.at_int HR0.out x8_1 p199 q199
       cases e199
       replace p199 := eq_true p199
       replace q199 := eq_true q199
       go_wp2
       go_roundg k1
       case measure => have := HK1.out; omega
       case rel => exact ⟨(wrap64 (x8_1 + 1)), Hof.F, H', ⟨by have := HK1.out; omega⟩, Hof.G⟩
     ·rw [if_neg c5] at H
      exact absurd H (by simp)
    ·rw [if_neg c4] at H
     exact absurd H (by simp)
   ·rw [if_neg c3] at H
    have c3b0 : decide (x8_1 < (l0.length : Int)) = false := decide_eq_false c3
    clear c3
    obtain rfl := Option.some.inj H
    go_wp2
    go_ret
    exact ⟨Hof.F, Hof.G⟩
def slices_Contains_int_int.f (k : Nat) (l0 : List Int) (a1 : Int) : Option (Bool) := (slices_Index_int_int.f k l0 a1).bind fun t487 => (some (decide (t487 ≥ 0)))
set_option maxHeartbeats 8000000 in
set_option maxRecDepth 100000 in
theorem slices_Contains_int_int.calls (k : Nat) (A0 : Option Addr) (c0 : Nat) (l0 : List Int) (a1 : Int) (r : Bool) (w : World) (hr0 : Kd.C (Kd.int .i64) w A0 l0.length l0) (hc0 : l0.length ≤ c0) (h : slices_Contains_int_int.f k l0 a1 = some r) :
  Calls Try.prog 146 #[.slice A0 l0.length c0, .int .i64 a1] w fun e w' => e = .returned (.bool r) ∧ Drawn0 w w' := by
 have HR0 := Aside0.mk hr0
 have HC0 := Aside0.mk hc0
 clear hr0 hc0
 unfold slices_Contains_int_int.f at h
 have H := h
 clear h
 obtain ⟨t487, A3, H⟩ := Hof.be H
 (try dsimp only at H)
 obtain rfl := Option.some.inj H
 go_enter Try.func146, Try.ntmps146
 go_wp2_with (first | (refine Hof.gl (some 7) Try.func65 #[.slice A0 l0.length c0, .int .i64 a1] ?_; (with_reducible refine (slices_Index_int_int.calls k _ _ l0 a1 t487 _ ?side1 ?side2 A3.out).mono ?_); (case side1 => exact Hof.Cw HR0.out); (case side2 => exact HC0.out); rintro e w' ⟨rfl, ⟨nd, rfl⟩⟩; refine ⟨_, rfl, ?_⟩))
 go_ret
 exact ⟨Hof.F, Hof.G⟩
def impl_HasSet.f (k : Nat) (l0 : List Int) (a1 : Int) : Option (Bool) := (slices_Contains_int_int.f k l0 a1).bind fun t488 => (some t488)
set_option maxHeartbeats 8000000 in
set_option maxRecDepth 100000 in
theorem impl_HasSet.calls (k : Nat) (A0 : Option Addr) (c0 : Nat) (l0 : List Int) (a1 : Int) (r : Bool) (w : World) (hr0 : Kd.C (Kd.int .i64) w A0 l0.length l0) (hc0 : l0.length ≤ c0) (h : impl_HasSet.f k l0 a1 = some r) :
  Calls Try.prog 122 #[.slice A0 l0.length c0, .int .i64 a1] w fun e w' => e = .returned (.bool r) ∧ Drawn0 w w' := by
 have HR0 := Aside0.mk hr0
 have HC0 := Aside0.mk hc0
 clear hr0 hc0
 unfold impl_HasSet.f at h
 have H := h
 clear h
 obtain ⟨t488, A3, H⟩ := Hof.be H
 (try dsimp only at H)
 obtain rfl := Option.some.inj H
 go_enter Try.func122, Try.ntmps122
 go_wp2_with (first | (refine Hof.gl (some 7) Try.func146 #[.slice A0 l0.length c0, .int .i64 a1] ?_; (with_reducible refine (slices_Contains_int_int.calls k _ _ l0 a1 t488 _ ?side1 ?side2 A3.out).mono ?_); (case side1 => exact Hof.Cw HR0.out); (case side2 => exact HC0.out); rintro e w' ⟨rfl, ⟨nd, rfl⟩⟩; refine ⟨_, rfl, ?_⟩))
 go_ret
 exact ⟨Hof.F, Hof.G⟩
def impl_FirstFailure_1.f (k : Nat) (l : List Int) (a e f : Int) : Option Bool := if 0 ≤ e then (if 0 ≤ f then (impl_HasSet.f k l (Go.bits .or .i64 (Go.bits .andNot .i64 a (shl .i64 1 e)) (shl .i64 1 f))) else (none)) else (none)
mutual
def impl_FirstFailure.l0 : Nat → Int → List Int → Int → Option (Int × Int × Int × Bool)
 | 0, _, _, _ => none
 | k + 1, n, l, x => if x < (l.length : Int) then (if 0 ≤ x then (impl_FirstFailure.l1 k n l x (rd l x) 0) else (none)) else (some (0, 0, 0, false))
def impl_FirstFailure.l1 : Nat → Int → List Int → Int → Int → Int → Option (Int × Int × Int × Bool)
 | 0, _, _, _, _, _ => none
 | k + 1, n, l, x, a, y => if y < (l.length : Int) then (if 0 ≤ y then ((impl_ElementsOf.f k (Go.bits .andNot .i64 a (rd l y))).bind fun es => (impl_FirstFailure.l2 k n l x a y (rd l y) es 0)) else (none)) else (impl_FirstFailure.l0 k n l (wrap64 (x + 1)))
def impl_FirstFailure.l2 : Nat → Int → List Int → Int → Int → Int → Int → List Int → Int → Option (Int × Int × Int × Bool)
 | 0, _, _, _, _, _, _, _, _ => none
 | k + 1, n, l, x, a, y, b, es, z => if z < (es.length : Int) then (if 0 ≤ z then ((impl_ElementsOf.f k (Go.bits .andNot .i64 b a)).bind fun fs => ((slices_ContainsFunc_int_int.f k fs (fun f => impl_FirstFailure_1.f k l a (rd es z) f)).bind fun t => (if t = true then (impl_FirstFailure.l2 k n l x a y b es (wrap64 (z + 1))) else (some (a, b, rd es z, true))))) else (none)) else (impl_FirstFailure.l1 k n l x a (wrap64 (y + 1)))
end
def impl_FirstFailure.f (k : Nat) (a0_0 : Int) (l0_1 : List Int) : Option (Int × Int × Int × Bool) := (impl_IsFamily.f k a0_0 l0_1).bind fun t => (if t = true then (impl_FirstFailure.l0 k a0_0 l0_1 0) else (some (0, 0, 0, false)))
set_option maxHeartbeats 8000000 in
set_option maxRecDepth 100000 in
theorem impl_FirstFailure_1.calls (k : Nat) (a0_0 : Int) (A0_1 : Option Addr) (c0_1 : Nat) (l0_1 : List Int) (a e f : Int) (b : Bool) (gb1 gb5 gb9 : Nat) (w : World) (h1 : w.heap[gb1]? = some (.cells #[.int .i64 a0_0, (.slice A0_1 l0_1.length c0_1)] 35 (0, 0))) (h5 : w.heap[gb5]? = some (.cells #[.int .i64 a] 3 (0, 0))) (h9 : w.heap[gb9]? = some (.cells #[.int .i64 e] 3 (0, 0))) (hr0_1 : Kd.C (Kd.int .i64) w A0_1 l0_1.length l0_1) (hc0_1 : l0_1.length ≤ c0_1) (h : impl_FirstFailure_1.f k l0_1 a e f = some b) :
  Calls Try.prog 145 #[.int .i64 f, .pointer (some ⟨gb1, 0, none⟩), .pointer (some ⟨gb5, 0, none⟩), .pointer (some ⟨gb9, 0, none⟩)] w fun e w' => e = .returned (.bool b) ∧ Below w.heap.size w w' := by
 have hu27 := Try.underlying35
 have HR := Aside0.mk hr0_1
 have HC := Aside0.mk hc0_1
 have hcz5_0 : w.cell? ⟨gb1, 0, none⟩ = some (.int .i64 a0_0) := (blk_cell h1 0).trans rfl
 have hcz5_1 : w.cell? ⟨gb1, 1, none⟩ = some (.slice A0_1 l0_1.length c0_1) := (blk_cell h1 1).trans rfl
 have hcz6_0 : w.cell? ⟨gb5, 0, none⟩ = some (.int .i64 a) := (blk_cell h5 0).trans rfl
 have hcz7_0 : w.cell? ⟨gb9, 0, none⟩ = some (.int .i64 e) := (blk_cell h9 0).trans rfl
 clear hr0_1 hc0_1 h1 h5 h9
 have H := h
 clear h
 unfold impl_FirstFailure_1.f at H
 by_cases c13 : 0 ≤ e
 case neg => rw [if_neg c13] at H; exact absurd H (by simp)
 rw [if_pos c13] at H
 have c13b0 := eq_true c13
 have c13b1 : decide (0 ≤ e) = true := decide_eq_true c13
 clear c13
 by_cases c14 : 0 ≤ f
 case neg => rw [if_neg c14] at H; exact absurd H (by simp)
 rw [if_pos c14] at H
 have c14b0 := eq_true c14
 have c14b1 : decide (0 ≤ f) = true := decide_eq_true c14
 clear c14
 obtain ⟨ji14, hji14⟩ : ∃ j_ : Int, (shl .i64 1 e) = j_ := ⟨_, rfl⟩
 rw [hji14] at H
 have hji14_ : (IntKind.i64.wrap (1 * 2 ^ min e.toNat 64)) = ji14 := hji14
 have hji14z : e ≤ 64 → (IntKind.i64.wrap (1 * 2 ^ e.toNat)) = ji14 := shl_small hji14
 have hji14u : (IntKind.i64.wrap (2 ^ min e.toNat 64)) = ji14 := by have h_ := hji14_; rw [Int.one_mul] at h_; exact h_
 have hji14v : e ≤ 64 → (IntKind.i64.wrap (2 ^ e.toNat)) = ji14 := fun hle_ => by have h_ := hji14z hle_; rw [Int.one_mul] at h_; exact h_
 have hji14y : (wrap64 (1 * 2 ^ min e.toNat 64)) = ji14 := (i64_w _).symm.trans hji14_
 have hji14x : e ≤ 64 → (wrap64 (1 * 2 ^ e.toNat)) = ji14 := fun h_ => (i64_w _).symm.trans (hji14z h_)
 obtain ⟨ji16, hji16⟩ : ∃ j_ : Int, (shl .i64 1 f) = j_ := ⟨_, rfl⟩
 rw [hji16] at H
 have hji16_ : (IntKind.i64.wrap (1 * 2 ^ min f.toNat 64)) = ji16 := hji16
 have hji16z : f ≤ 64 → (IntKind.i64.wrap (1 * 2 ^ f.toNat)) = ji16 := shl_small hji16
 have hji16u : (IntKind.i64.wrap (2 ^ min f.toNat 64)) = ji16 := by have h_ := hji16_; rw [Int.one_mul] at h_; exact h_
 have hji16v : f ≤ 64 → (IntKind.i64.wrap (2 ^ f.toNat)) = ji16 := fun hle_ => by have h_ := hji16z hle_; rw [Int.one_mul] at h_; exact h_
 have hji16y : (wrap64 (1 * 2 ^ min f.toNat 64)) = ji16 := (i64_w _).symm.trans hji16_
 have hji16x : f ≤ 64 → (wrap64 (1 * 2 ^ f.toNat)) = ji16 := fun h_ => (i64_w _).symm.trans (hji16z h_)
 have A1 := Aside0.mk H
 clear H
 go_enter Try.func145, Try.ntmps145
 go_wp2_with fail
 go_quiet (first | (go_at_call 122; (with_reducible refine (impl_HasSet.calls k _ _ l0_1 (Go.bits .or .i64 (Go.bits .andNot .i64 a ji14) ji16) b _ ?side1 ?side2 A1.out).mono ?_); (case side1 => repeat (first | exact HR.out | (with_reducible refine Kd.C_alloc ?_ _) | (with_reducible refine Kd.C_drewN ?_ _) | (with_reducible refine Kd.C_drew ?_))); (case side2 => exact HC.out); rintro e w' ⟨rfl, ⟨nd, rfl⟩⟩; (first | exact ⟨rfl, _, World.drewN_drewN _ _ _⟩ | exact ⟨rfl, _, Eq.trans (World.drewN_drewN _ _ _) (congrArg (World.drewN _) (Nat.add_assoc _ _ _))⟩)))
 go_wp2
 go_ret
 exact ⟨rfl, by first | exact pw_below_drewN (Below.refl _ _) _ | exact Below.refl _ _⟩
theorem impl_FirstFailure_1.fun1 (k : Nat) (a0_0 : Int) (A0_1 : Option Addr) (c0_1 : Nat) (l0_1 : List Int) (a e : Int) (gb1 gb5 gb9 : Nat) (w : World) (h1 : w.heap[gb1]? = some (.cells #[.int .i64 a0_0, (.slice A0_1 l0_1.length c0_1)] 35 (0, 0))) (h5 : w.heap[gb5]? = some (.cells #[.int .i64 a] 3 (0, 0))) (h9 : w.heap[gb9]? = some (.cells #[.int .i64 e] 3 (0, 0))) (hr0_1 : Kd.C (Kd.int .i64) w A0_1 l0_1.length l0_1) (hc0_1 : l0_1.length ≤ c0_1) :
  Hof.Fun1 Try.prog w (.func (.func 145) #[] #[.pointer (some ⟨gb1, 0, none⟩), .pointer (some ⟨gb5, 0, none⟩), .pointer (some ⟨gb9, 0, none⟩)]) (fun f => impl_FirstFailure_1.f k l0_1 a e f) :=
 ⟨⟨145, #[.pointer (some ⟨gb1, 0, none⟩), .pointer (some ⟨gb5, 0, none⟩), .pointer (some ⟨gb9, 0, none⟩)], Try.f145, rfl, Try.func145, by kernel_rfl, rfl, fun f b w' hw hg => impl_FirstFailure_1.calls k a0_0 A0_1 c0_1 l0_1 a e f b gb1 gb5 gb9 w' (blk_below h1 hw) (blk_below h5 hw) (blk_below h9 hw) (Kd.C_below hr0_1 hw) hc0_1 hg⟩⟩
set_option maxHeartbeats 8000000 in
set_option maxRecDepth 100000 in
theorem impl_FirstFailure.calls (k : Nat) (a0_0 : Int) (A0_1 : Option Addr) (c0_1 : Nat) (l0_1 : List Int) (r1 : Int) (r2 : Int) (r3 : Int) (r4 : Bool) (w : World) (hr0_1 : Kd.C (Kd.int .i64) w A0_1 l0_1.length l0_1) (hc0_1 : l0_1.length ≤ c0_1) (h : impl_FirstFailure.f k a0_0 l0_1 = some (r1, r2, r3, r4)) :
  Calls Try.prog 119 #[.agg #[.int .i64 a0_0, .slice A0_1 l0_1.length c0_1]] w fun e w' => e = .returned (.tuple #[.agg #[.int .i64 r1, .int .i64 r2, .int .i64 r3], .bool r4]) ∧ Below w.heap.size w w' := by
 have hu27 := Try.underlying35
 have hu93 := Try.underlying108
 have HR := Aside0.mk hr0_1
 have HC := Aside0.mk hc0_1
 have HB := Aside0.mk (Below.refl w.heap.size w)
 clear hr0_1 hc0_1
 unfold impl_FirstFailure.f at h
 obtain ⟨t, h1, h⟩ := Option.bind_eq_some_iff.mp h
 have A1 := Aside0.mk h1
 clear h1
 cases t with
 | false =>
  rw [if_neg (by decide)] at h
  simp only [Option.some.injEq, Prod.mk.injEq] at h
  obtain ⟨rfl, rfl, rfl, rfl⟩ := h
  go_enter Try.func119, Try.ntmps119
  go_wp2_with (first | ((with_reducible refine gate_dst (N := 1) rfl ?_); refine Hof.bx 1 #[.int .i64 a0_0, .slice A0_1 l0_1.length c0_1] 35 ?_; intro gb1 hg w3 hbox hb; have GEgb1 := Aside0.mk ((by rw [hg]; exact below_size HB.out) : w.heap.size ≤ gb1); have n0_ := Aside0.mk (below_step HB.out hb); clear HB; have HB := n0_; clear n0_; have BKgb1 := Aside0.mk hbox; have hczgb1_0 : w3.cell? ⟨gb1, 0, none⟩ = some ((.int .i64 a0_0)) := (blk_cell BKgb1.out 0).trans rfl; have hfzgb1_0 := blk_frozen BKgb1.out 0; have hczgb1_1 : w3.cell? ⟨gb1, 1, none⟩ = some ((.slice A0_1 l0_1.length c0_1)) := (blk_cell BKgb1.out 1).trans rfl; have hfzgb1_1 := blk_frozen BKgb1.out 1; clear hb hbox hg) | ((with_reducible refine gate_dst (N := 2) rfl ?_); refine Hof.bx 2 #[.int .i64 0, .int .i64 0, .int .i64 0] 108 ?_; intro gb2 hg w4 hbox hb; have GEgb2 := Aside0.mk ((by rw [hg]; exact below_size HB.out) : w.heap.size ≤ gb2); have n0_ := Aside0.mk (below_step HB.out hb); clear HB; have HB := n0_; clear n0_; have BKgb2 := Aside0.mk hbox; have m_ := Aside0.mk (blk_below BKgb1.out hb); clear BKgb1; have BKgb1 := m_; clear m_; have hczgb1_0 : w4.cell? ⟨gb1, 0, none⟩ = some ((.int .i64 a0_0)) := (blk_cell BKgb1.out 0).trans rfl; have hfzgb1_0 := blk_frozen BKgb1.out 0; have hczgb1_1 : w4.cell? ⟨gb1, 1, none⟩ = some ((.slice A0_1 l0_1.length c0_1)) := (blk_cell BKgb1.out 1).trans rfl; have hfzgb1_1 := blk_frozen BKgb1.out 1; have hczgb2_0 : w4.cell? ⟨gb2, 0, none⟩ = some (.int .i64 0) := (blk_cell BKgb2.out 0).trans rfl; have hfzgb2_0 := blk_frozen BKgb2.out 0; have hczgb2_1 : w4.cell? ⟨gb2, 1, none⟩ = some (.int .i64 0) := (blk_cell BKgb2.out 1).trans rfl; have hfzgb2_1 := blk_frozen BKgb2.out 1; have hczgb2_2 : w4.cell? ⟨gb2, 2, none⟩ = some (.int .i64 0) := (blk_cell BKgb2.out 2).trans rfl; have hfzgb2_2 := blk_frozen BKgb2.out 2; clear hb hbox hg) | ((with_reducible refine gate_callee (f := 120) rfl ?_); refine Hof.gl (some 15) Try.func120 #[.int .i64 a0_0, .slice A0_1 l0_1.length c0_1] ?_; (with_reducible refine (impl_IsFamily.calls k a0_0 _ _ l0_1 false _ ?side1 ?side2 A1.out).mono ?_); (case side1 => exact Kd.C_below HR.out HB.out); (case side2 => exact HC.out); rintro e w5 ⟨rfl, hd⟩; refine ⟨_, rfl, ?_⟩; have hb := hd.below; clear hd; have n0_ := Aside0.mk (below_step HB.out hb); clear HB; have HB := n0_; clear n0_; have m_ := Aside0.mk (blk_below BKgb1.out hb); clear BKgb1; have BKgb1 := m_; clear m_; have m_ := Aside0.mk (blk_below BKgb2.out hb); clear BKgb2; have BKgb2 := m_; clear m_; clear hb; have hczgb1_0 : w5.cell? ⟨gb1, 0, none⟩ = some ((.int .i64 a0_0)) := (blk_cell BKgb1.out 0).trans rfl; have hfzgb1_0 := blk_frozen BKgb1.out 0; have hczgb1_1 : w5.cell? ⟨gb1, 1, none⟩ = some ((.slice A0_1 l0_1.length c0_1)) := (blk_cell BKgb1.out 1).trans rfl; have hfzgb1_1 := blk_frozen BKgb1.out 1; have hczgb2_0 : w5.cell? ⟨gb2, 0, none⟩ = some (.int .i64 0) := (blk_cell BKgb2.out 0).trans rfl; have hfzgb2_0 := blk_frozen BKgb2.out 0; have hczgb2_1 : w5.cell? ⟨gb2, 1, none⟩ = some (.int .i64 0) := (blk_cell BKgb2.out 1).trans rfl; have hfzgb2_1 := blk_frozen BKgb2.out 1; have hczgb2_2 : w5.cell? ⟨gb2, 2, none⟩ = some (.int .i64 0) := (blk_cell BKgb2.out 2).trans rfl; have hfzgb2_2 := blk_frozen BKgb2.out 2))
  refine bodyPost_ret (results_ct rfl _ _ gb2 108 #[.int .i64 0, .int .i64 0, .int .i64 0] (0, 0) _ rfl (by refine blk_put (cs := #[.int .i64 0, .int .i64 0, .int .i64 0]) ?_ 2 _ rfl; refine blk_put (cs := #[.int .i64 0, .int .i64 0, .int .i64 0]) ?_ 1 _ rfl; refine blk_put (cs := #[.int .i64 0, .int .i64 0, .int .i64 0]) ?_ 0 _ rfl; exact BKgb2.out) Try.underlying108 rfl (by kernel_rfl)) rfl ?_
  exact ⟨rfl, by repeat (first | exact HB.out | refine below_set ?_ GEgb2.out)⟩
 | true =>
  rw [if_pos rfl] at h
  have H' := Aside0.mk h
  clear h
  go_enter Try.func119, Try.ntmps119
  go_wp2_with (first | ((with_reducible refine gate_dst (N := 1) rfl ?_); refine Hof.bx 1 #[.int .i64 a0_0, .slice A0_1 l0_1.length c0_1] 35 ?_; intro gb1 hg w3 hbox hb; have GEgb1 := Aside0.mk ((by rw [hg]; exact below_size HB.out) : w.heap.size ≤ gb1); have n0_ := Aside0.mk (below_step HB.out hb); clear HB; have HB := n0_; clear n0_; have BKgb1 := Aside0.mk hbox; have hczgb1_0 : w3.cell? ⟨gb1, 0, none⟩ = some ((.int .i64 a0_0)) := (blk_cell BKgb1.out 0).trans rfl; have hfzgb1_0 := blk_frozen BKgb1.out 0; have hczgb1_1 : w3.cell? ⟨gb1, 1, none⟩ = some ((.slice A0_1 l0_1.length c0_1)) := (blk_cell BKgb1.out 1).trans rfl; have hfzgb1_1 := blk_frozen BKgb1.out 1; clear hb hbox hg) | ((with_reducible refine gate_dst (N := 2) rfl ?_); refine Hof.bx 2 #[.int .i64 0, .int .i64 0, .int .i64 0] 108 ?_; intro gb2 hg w4 hbox hb; have GEgb2 := Aside0.mk ((by rw [hg]; exact below_size HB.out) : w.heap.size ≤ gb2); have n0_ := Aside0.mk (below_step HB.out hb); clear HB; have HB := n0_; clear n0_; have BKgb2 := Aside0.mk hbox; have m_ := Aside0.mk (blk_below BKgb1.out hb); clear BKgb1; have BKgb1 := m_; clear m_; have hczgb1_0 : w4.cell? ⟨gb1, 0, none⟩ = some ((.int .i64 a0_0)) := (blk_cell BKgb1.out 0).trans rfl; have hfzgb1_0 := blk_frozen BKgb1.out 0; have hczgb1_1 : w4.cell? ⟨gb1, 1, none⟩ = some ((.slice A0_1 l0_1.length c0_1)) := (blk_cell BKgb1.out 1).trans rfl; have hfzgb1_1 := blk_frozen BKgb1.out 1; have hczgb2_0 : w4.cell? ⟨gb2, 0, none⟩ = some (.int .i64 0) := (blk_cell BKgb2.out 0).trans rfl; have hfzgb2_0 := blk_frozen BKgb2.out 0; have hczgb2_1 : w4.cell? ⟨gb2, 1, none⟩ = some (.int .i64 0) := (blk_cell BKgb2.out 1).trans rfl; have hfzgb2_1 := blk_frozen BKgb2.out 1; have hczgb2_2 : w4.cell? ⟨gb2, 2, none⟩ = some (.int .i64 0) := (blk_cell BKgb2.out 2).trans rfl; have hfzgb2_2 := blk_frozen BKgb2.out 2; clear hb hbox hg) | ((with_reducible refine gate_callee (f := 120) rfl ?_); refine Hof.gl (some 15) Try.func120 #[.int .i64 a0_0, .slice A0_1 l0_1.length c0_1] ?_; (with_reducible refine (impl_IsFamily.calls k a0_0 _ _ l0_1 true _ ?side1 ?side2 A1.out).mono ?_); (case side1 => exact Kd.C_below HR.out HB.out); (case side2 => exact HC.out); rintro e w5 ⟨rfl, hd⟩; refine ⟨_, rfl, ?_⟩; have hb := hd.below; clear hd; have n0_ := Aside0.mk (below_step HB.out hb); clear HB; have HB := n0_; clear n0_; have m_ := Aside0.mk (blk_below BKgb1.out hb); clear BKgb1; have BKgb1 := m_; clear m_; have m_ := Aside0.mk (blk_below BKgb2.out hb); clear BKgb2; have BKgb2 := m_; clear m_; clear hb; have hczgb1_0 : w5.cell? ⟨gb1, 0, none⟩ = some ((.int .i64 a0_0)) := (blk_cell BKgb1.out 0).trans rfl; have hfzgb1_0 := blk_frozen BKgb1.out 0; have hczgb1_1 : w5.cell? ⟨gb1, 1, none⟩ = some ((.slice A0_1 l0_1.length c0_1)) := (blk_cell BKgb1.out 1).trans rfl; have hfzgb1_1 := blk_frozen BKgb1.out 1; have hczgb2_0 : w5.cell? ⟨gb2, 0, none⟩ = some (.int .i64 0) := (blk_cell BKgb2.out 0).trans rfl; have hfzgb2_0 := blk_frozen BKgb2.out 0; have hczgb2_1 : w5.cell? ⟨gb2, 1, none⟩ = some (.int .i64 0) := (blk_cell BKgb2.out 1).trans rfl; have hfzgb2_1 := blk_frozen BKgb2.out 1; have hczgb2_2 : w5.cell? ⟨gb2, 2, none⟩ = some (.int .i64 0) := (blk_cell BKgb2.out 2).trans rfl; have hfzgb2_2 := blk_frozen BKgb2.out 2))
  clear hczgb1_0 hczgb1_1 hfzgb1_0 hfzgb1_1 hczgb2_0 hczgb2_1 hczgb2_2 hfzgb2_0 hfzgb2_1 hfzgb2_2
  go_loopg [21] k (fun kq v21 w' => ∃ (x1 : Int), v21 = .int .i64 x1 ∧ Aside0 (impl_FirstFailure.l0 kq a0_0 l0_1 x1 = some (r1, r2, r3, r4)) ∧ Aside0 (kq ≤ k) ∧ Aside0 (w'.heap[gb1]? = some (.cells #[.int .i64 a0_0, (.slice A0_1 l0_1.length c0_1)] 35 (0, 0))) ∧ Aside0 (w'.heap[gb2]? = some (.cells #[.int .i64 0, .int .i64 0, .int .i64 0] 108 (0, 0))) ∧ Aside0 (Below w.heap.size w w'))
  case atStart => exact ⟨0, rfl, H', ⟨Nat.le_refl _⟩, BKgb1, BKgb2, HB⟩
  case round =>
   clear H' BKgb1 BKgb2 HB
   obtain ⟨x1, rfl, HA, HK1, BKgb1, BKgb2, HB⟩ := hrel
   cases gk with
   | zero => exact absurd HA.out (by simp [impl_FirstFailure.l0])
   | succ k1 =>
    have H := HA.out
    clear HA
    simp only [impl_FirstFailure.l0] at H
    by_cases c3 : x1 < (l0_1.length : Int)
    case neg =>
     rw [if_neg c3] at H
     have c3b0 : decide (x1 < (l0_1.length : Int)) = false := decide_eq_false c3
     clear c3
     simp only [Option.some.injEq, Prod.mk.injEq] at H
     obtain ⟨rfl, rfl, rfl, rfl⟩ := H
     have hczgb2_0 : wr.cell? ⟨gb2, 0, none⟩ = some (.int .i64 0) := (blk_cell BKgb2.out 0).trans rfl
     have hfzgb2_0 := blk_frozen BKgb2.out 0
     have hczgb2_1 : wr.cell? ⟨gb2, 1, none⟩ = some (.int .i64 0) := (blk_cell BKgb2.out 1).trans rfl
     have hfzgb2_1 := blk_frozen BKgb2.out 1
     have hczgb2_2 : wr.cell? ⟨gb2, 2, none⟩ = some (.int .i64 0) := (blk_cell BKgb2.out 2).trans rfl
     have hfzgb2_2 := blk_frozen BKgb2.out 2
     go_wp2
     refine bodyPost_ret (results_ct rfl _ _ gb2 108 #[.int .i64 0, .int .i64 0, .int .i64 0] (0, 0) _ rfl (by refine blk_put (cs := #[.int .i64 0, .int .i64 0, .int .i64 0]) ?_ 2 _ rfl; refine blk_put (cs := #[.int .i64 0, .int .i64 0, .int .i64 0]) ?_ 1 _ rfl; refine blk_put (cs := #[.int .i64 0, .int .i64 0, .int .i64 0]) ?_ 0 _ rfl; exact BKgb2.out) Try.underlying108 rfl (by kernel_rfl)) rfl ?_
     exact ⟨rfl, by repeat (first | exact HB.out | refine below_set ?_ GEgb2.out)⟩
    rw [if_pos c3] at H
    have c3b0 := decide_eq_true c3
    clear c3
    by_cases c4 : 0 ≤ x1
    case neg => rw [if_neg c4] at H; exact absurd H (by simp)
    rw [if_pos c4] at H
    have c4b0 := decide_eq_true c4
    clear c4
    obtain ⟨aa, haa⟩ : ∃ j_ : Int, rd l0_1 x1 = j_ := ⟨_, rfl⟩
    rw [haa] at H
    have H' := Aside0.mk H
    clear H
    have p1 : 0 ≤ (x1 : Int) := of_decide_eq_true (by assumption)
    have q1 : x1 < (l0_1.length : Int) := of_decide_eq_true (by assumption)
    obtain ⟨ad1, e1, hx1_0⟩ := Kd.at_int HR.out x1 p1 q1
    rw [haa] at hx1_0
    clear haa
    cases e1
    replace hx1_0 := (HB.out.cell (World.block_lt_of_cell? w _ hx1_0)).trans hx1_0
    replace p1 := eq_true p1
    replace q1 := eq_true q1
    have hczgb1_0 : wr.cell? ⟨gb1, 0, none⟩ = some ((.int .i64 a0_0)) := (blk_cell BKgb1.out 0).trans rfl
    have hfzgb1_0 := blk_frozen BKgb1.out 0
    have hczgb1_1 : wr.cell? ⟨gb1, 1, none⟩ = some ((.slice (some ad1) l0_1.length c0_1)) := (blk_cell BKgb1.out 1).trans rfl
    have hfzgb1_1 := blk_frozen BKgb1.out 1
    go_wp2_with (first | ((with_reducible refine gate_dst (N := 5) rfl ?_); refine Hof.bx 5 #[.int .i64 0] 3 ?_; intro gb5 hg w7 hbox hb; have GEgb5 := Aside0.mk ((by rw [hg]; exact below_size HB.out) : w.heap.size ≤ gb5); have HG5 := Aside0.mk hg; have HN5 := Aside0.mk hb; have BKgb5 := Aside0.mk hbox; clear hb hg hbox; have hczgb5_0 : w7.cell? ⟨gb5, 0, none⟩ = some (.int .i64 0) := (blk_cell BKgb5.out 0).trans rfl; have hfzgb5_0 := blk_frozen BKgb5.out 0) | ((with_reducible refine gate_store (t := 3) (p := 5) rfl ?_); refine store_event (t := 3) (p := 5) (v := ?vo1) (w1 := (w7.setCell ⟨gb5, 0, none⟩ (.int .i64 aa))) ?hg ?ho ?hn ?hr ?_; (case ho => rfl); (case hg => rfl); (case hn => rfl); (case hr => first | (go_simp; done) | (go_simp; rfl)); intro w8 hw; have hb : Below wr.heap.size wr w8 := (by rw [hw]; exact below_set HN5.out (Nat.le_of_eq HG5.out.symm)); have m5 : Aside0 (w8.heap[gb5]? = some (.cells #[.int .i64 aa] 3 (0, 0))) := ⟨by rw [hw]; exact blk_put BKgb5.out 0 _ rfl⟩; clear BKgb5 hw hczgb5_0 hfzgb5_0; have BKgb5 := m5; clear m5; have n0_ := Aside0.mk (below_step HB.out hb); clear HB; have HB := n0_; clear n0_; have m_ := Aside0.mk (blk_below BKgb1.out hb); clear BKgb1; have BKgb1 := m_; clear m_; have m_ := Aside0.mk (blk_below BKgb2.out hb); clear BKgb2; have BKgb2 := m_; clear m_; clear hb HN5 HG5; have hczgb1_0 : w8.cell? ⟨gb1, 0, none⟩ = some ((.int .i64 a0_0)) := (blk_cell BKgb1.out 0).trans rfl; have hfzgb1_0 := blk_frozen BKgb1.out 0; have hczgb1_1 : w8.cell? ⟨gb1, 1, none⟩ = some ((.slice (some ad1) l0_1.length c0_1)) := (blk_cell BKgb1.out 1).trans rfl; have hfzgb1_1 := blk_frozen BKgb1.out 1))
    clear p1 q1 c3b0 c4b0 hx1_0 hczgb1_0 hczgb1_1 hfzgb1_0 hfzgb1_1
    go_loopg [28] k1 (fun kq v28 w' => ∃ (x2 : Int), v28 = .int .i64 x2 ∧ Aside0 (impl_FirstFailure.l1 kq a0_0 l0_1 x1 aa x2 = some (r1, r2, r3, r4)) ∧ Aside0 (kq ≤ k1) ∧ Aside0 (w'.heap[gb1]? = some (.cells #[.int .i64 a0_0, (.slice (some ad1) l0_1.length c0_1)] 35 (0, 0))) ∧ Aside0 (w'.heap[gb2]? = some (.cells #[.int .i64 0, .int .i64 0, .int .i64 0] 108 (0, 0))) ∧ Aside0 (w'.heap[gb5]? = some (.cells #[.int .i64 aa] 3 (0, 0))) ∧ Aside0 (Below w.heap.size w w'))
    case atStart => exact ⟨0, rfl, H', ⟨Nat.le_refl _⟩, BKgb1, BKgb2, BKgb5, HB⟩
    case round =>
     clear H' BKgb1 BKgb2 BKgb5 HB
     obtain ⟨x2, rfl, HA, HK2, BKgb1, BKgb2, BKgb5, HB⟩ := hrel
     cases gk with
     | zero => exact absurd HA.out (by simp [impl_FirstFailure.l1])
     | succ k2 =>
      have H := HA.out
      clear HA
      simp only [impl_FirstFailure.l1] at H
      by_cases c5 : x2 < (l0_1.length : Int)
      case neg =>
       rw [if_neg c5] at H
       have c5b0 : decide (x2 < (l0_1.length : Int)) = false := decide_eq_false c5
       clear c5
       have H' := Aside0.mk H
       clear H
       go_wp2
       go_roundg k2
       case measure => have := HK1.out; have := HK2.out; omega
       case rel => exact ⟨(wrap64 (x1 + 1)), rfl, H', ⟨by have := HK1.out; have := HK2.out; omega⟩, BKgb1, BKgb2, HB⟩
      rw [if_pos c5] at H
      have c5b0 := decide_eq_true c5
      clear c5
      by_cases c6 : 0 ≤ x2
      case neg => rw [if_neg c6] at H; exact absurd H (by simp)
      rw [if_pos c6] at H
      have c6b0 := decide_eq_true c6
      clear c6
      obtain ⟨bb, hbb⟩ : ∃ j_ : Int, rd l0_1 x2 = j_ := ⟨_, rfl⟩
      rw [hbb] at H
      obtain ⟨es, A20, H⟩ := Option.bind_eq_some_iff.mp H
      have A2 := Aside0.mk A20
      clear A20
      have H' := Aside0.mk H
      clear H
      have p2 : 0 ≤ (x2 : Int) := of_decide_eq_true (by assumption)
      have q2 : x2 < (l0_1.length : Int) := of_decide_eq_true (by assumption)
      obtain ⟨ad2, e2, hx2_0⟩ := Kd.at_int HR.out x2 p2 q2
      obtain rfl : ad1 = ad2 := (by injection e2)
      clear e2
      rw [hbb] at hx2_0
      clear hbb
      replace hx2_0 := (HB.out.cell (World.block_lt_of_cell? w _ hx2_0)).trans hx2_0
      replace p2 := eq_true p2
      replace q2 := eq_true q2
      have hczgb1_0 : wr.cell? ⟨gb1, 0, none⟩ = some ((.int .i64 a0_0)) := (blk_cell BKgb1.out 0).trans rfl
      have hfzgb1_0 := blk_frozen BKgb1.out 0
      have hczgb1_1 : wr.cell? ⟨gb1, 1, none⟩ = some ((.slice (some ad1) l0_1.length c0_1)) := (blk_cell BKgb1.out 1).trans rfl
      have hfzgb1_1 := blk_frozen BKgb1.out 1
      have hczgb5_0 : wr.cell? ⟨gb5, 0, none⟩ = some (.int .i64 aa) := (blk_cell BKgb5.out 0).trans rfl
      have hfzgb5_0 := blk_frozen BKgb5.out 0
      go_wp2_with (first | ((with_reducible refine gate_callee (f := 62) rfl ?_); refine Hof.gl (some 35) Try.func62 #[.int .i64 (Go.bits .andNot .i64 aa bb)] ?_; (with_reducible refine (impl_ElementsOf.calls k2 (Go.bits .andNot .i64 aa bb) es _ A2.out).mono ?_); rintro e w9 ⟨v1, rfl, ho, hb⟩; refine ⟨_, rfl, ?_⟩; have HOes := Aside0.mk (Kd.R_lower ho (below_size HB.out)); have n0_ := Aside0.mk (below_step HB.out hb); clear HB; have HB := n0_; clear n0_ ho; have m_ := Aside0.mk (blk_below BKgb1.out hb); clear BKgb1; have BKgb1 := m_; clear m_; have m_ := Aside0.mk (blk_below BKgb2.out hb); clear BKgb2; have BKgb2 := m_; clear m_; have m_ := Aside0.mk (blk_below BKgb5.out hb); clear BKgb5; have BKgb5 := m_; clear m_; clear hb hczgb1_0 hczgb1_1 hfzgb1_0 hfzgb1_1 hczgb5_0 hfzgb5_0 hx2_0; obtain ⟨Ae, ce, eo⟩ := Kd.R_slice HOes.out; subst eo))
      clear p2 q2 c5b0 c6b0
      go_loopg [37] k2 (fun kq v37 w' => ∃ (x3 : Int), v37 = .int .i64 x3 ∧ Aside0 (impl_FirstFailure.l2 kq a0_0 l0_1 x1 aa x2 bb es x3 = some (r1, r2, r3, r4)) ∧ Aside0 (kq ≤ k2) ∧ Aside0 (w'.heap[gb1]? = some (.cells #[.int .i64 a0_0, (.slice (some ad1) l0_1.length c0_1)] 35 (0, 0))) ∧ Aside0 (w'.heap[gb2]? = some (.cells #[.int .i64 0, .int .i64 0, .int .i64 0] 108 (0, 0))) ∧ Aside0 (w'.heap[gb5]? = some (.cells #[.int .i64 aa] 3 (0, 0))) ∧ Aside0 (Kd.R (Kd.int .i64) 3 w' w.heap.size (fun _ => True) (.slice Ae es.length ce) es) ∧ Aside0 (Below w.heap.size w w'))
      case atStart => exact ⟨0, rfl, H', ⟨Nat.le_refl _⟩, BKgb1, BKgb2, BKgb5, HOes, HB⟩
      case round =>
       clear H' BKgb1 BKgb2 BKgb5 HOes HB
       obtain ⟨x3, rfl, HA, HK3, BKgb1, BKgb2, BKgb5, HOes, HB⟩ := hrel
       cases gk with
       | zero => exact absurd HA.out (by simp [impl_FirstFailure.l2])
       | succ k3 =>
        have H := HA.out
        clear HA
        simp only [impl_FirstFailure.l2] at H
        by_cases c7 : x3 < (es.length : Int)
        case neg =>
         rw [if_neg c7] at H
         have c7b0 : decide (x3 < (es.length : Int)) = false := decide_eq_false c7
         clear c7
         have H' := Aside0.mk H
         clear H
         go_wp2
         go_roundg k3
         case measure => have := HK1.out; have := HK2.out; have := HK3.out; omega
         case rel => exact ⟨(wrap64 (x2 + 1)), rfl, H', ⟨by have := HK1.out; have := HK2.out; have := HK3.out; omega⟩, BKgb1, BKgb2, BKgb5, HB⟩
        rw [if_pos c7] at H
        have c7b0 := decide_eq_true c7
        clear c7
        by_cases c8 : 0 ≤ x3
        case neg => rw [if_neg c8] at H; exact absurd H (by simp)
        rw [if_pos c8] at H
        have c8b0 := decide_eq_true c8
        clear c8
        obtain ⟨ee, hee⟩ : ∃ j_ : Int, rd es x3 = j_ := ⟨_, rfl⟩
        rw [hee] at H
        obtain ⟨fs, A30, H⟩ := Option.bind_eq_some_iff.mp H
        have A3 := Aside0.mk A30
        clear A30
        obtain ⟨t, A40, H⟩ := Option.bind_eq_some_iff.mp H
        have A4 := Aside0.mk A40
        clear A40
        have p3 : 0 ≤ (x3 : Int) := of_decide_eq_true (by assumption)
        have q3 : x3 < (es.length : Int) := of_decide_eq_true (by assumption)
        obtain ⟨ad3, e3, hx3_0⟩ := Kd.at_int (Kd.R_reads' HOes.out).2.2 x3 p3 q3
        rw [hee] at hx3_0
        clear hee
        cases e3
        replace p3 := eq_true p3
        replace q3 := eq_true q3
        cases t with
        | true =>
         rw [if_pos rfl] at H
         have H' := Aside0.mk H
         clear H
         have hczgb5_0 : wr.cell? ⟨gb5, 0, none⟩ = some (.int .i64 aa) := (blk_cell BKgb5.out 0).trans rfl
         have hfzgb5_0 := blk_frozen BKgb5.out 0
         have hczgb1_0 : wr.cell? ⟨gb1, 0, none⟩ = some ((.int .i64 a0_0)) := (blk_cell BKgb1.out 0).trans rfl
         have hfzgb1_0 := blk_frozen BKgb1.out 0
         have hczgb1_1 : wr.cell? ⟨gb1, 1, none⟩ = some ((.slice (some ad1) l0_1.length c0_1)) := (blk_cell BKgb1.out 1).trans rfl
         have hfzgb1_1 := blk_frozen BKgb1.out 1
         have hczgb2_0 : wr.cell? ⟨gb2, 0, none⟩ = some (.int .i64 0) := (blk_cell BKgb2.out 0).trans rfl
         have hfzgb2_0 := blk_frozen BKgb2.out 0
         have hczgb2_1 : wr.cell? ⟨gb2, 1, none⟩ = some (.int .i64 0) := (blk_cell BKgb2.out 1).trans rfl
         have hfzgb2_1 := blk_frozen BKgb2.out 1
         have hczgb2_2 : wr.cell? ⟨gb2, 2, none⟩ = some (.int .i64 0) := (blk_cell BKgb2.out 2).trans rfl
         have hfzgb2_2 := blk_frozen BKgb2.out 2
         go_wp2_with (first | ((with_reducible refine gate_dst (N := 9) rfl ?_); refine Hof.bx 9 #[.int .i64 0] 3 ?_; intro gb9 hg w11 hbox hb; have GEgb9 := Aside0.mk ((by rw [hg]; exact below_size HB.out) : w.heap.size ≤ gb9); have HG9 := Aside0.mk hg; have HN9 := Aside0.mk hb; have BKgb9 := Aside0.mk hbox; clear hb hg hbox; have hczgb9_0 : w11.cell? ⟨gb9, 0, none⟩ = some (.int .i64 0) := (blk_cell BKgb9.out 0).trans rfl; have hfzgb9_0 := blk_frozen BKgb9.out 0) | ((with_reducible refine gate_store (t := 3) (p := 9) rfl ?_); refine store_event (t := 3) (p := 9) (v := ?vo2) (w1 := (w11.setCell ⟨gb9, 0, none⟩ (.int .i64 ee))) ?hg ?ho ?hn ?hr ?_; (case ho => rfl); (case hg => rfl); (case hn => rfl); (case hr => first | (go_simp; done) | (go_simp; rfl)); intro w12 hw; have hb : Below wr.heap.size wr w12 := (by rw [hw]; exact below_set HN9.out (Nat.le_of_eq HG9.out.symm)); have m5 : Aside0 (w12.heap[gb9]? = some (.cells #[.int .i64 ee] 3 (0, 0))) := ⟨by rw [hw]; exact blk_put BKgb9.out 0 _ rfl⟩; clear BKgb9 hw hczgb9_0 hfzgb9_0; have BKgb9 := m5; clear m5; have n0_ := Aside0.mk (below_step HB.out hb); clear HB; have HB := n0_; clear n0_; have m_ := Aside0.mk (Kd.R_below HOes.out hb); clear HOes; have HOes := m_; clear m_; have m_ := Aside0.mk (blk_below BKgb1.out hb); clear BKgb1; have BKgb1 := m_; clear m_; have m_ := Aside0.mk (blk_below BKgb2.out hb); clear BKgb2; have BKgb2 := m_; clear m_; have m_ := Aside0.mk (blk_below BKgb5.out hb); clear BKgb5; have BKgb5 := m_; clear m_; clear hb HN9 HG9; have hczgb1_0 : w12.cell? ⟨gb1, 0, none⟩ = some ((.int .i64 a0_0)) := (blk_cell BKgb1.out 0).trans rfl; have hfzgb1_0 := blk_frozen BKgb1.out 0; have hczgb1_1 : w12.cell? ⟨gb1, 1, none⟩ = some ((.slice (some ad1) l0_1.length c0_1)) := (blk_cell BKgb1.out 1).trans rfl; have hfzgb1_1 := blk_frozen BKgb1.out 1; have hczgb2_0 : w12.cell? ⟨gb2, 0, none⟩ = some (.int .i64 0) := (blk_cell BKgb2.out 0).trans rfl; have hfzgb2_0 := blk_frozen BKgb2.out 0; have hczgb2_1 : w12.cell? ⟨gb2, 1, none⟩ = some (.int .i64 0) := (blk_cell BKgb2.out 1).trans rfl; have hfzgb2_1 := blk_frozen BKgb2.out 1; have hczgb2_2 : w12.cell? ⟨gb2, 2, none⟩ = some (.int .i64 0) := (blk_cell BKgb2.out 2).trans rfl; have hfzgb2_2 := blk_frozen BKgb2.out 2; have hczgb5_0 : w12.cell? ⟨gb5, 0, none⟩ = some (.int .i64 aa) := (blk_cell BKgb5.out 0).trans rfl; have hfzgb5_0 := blk_frozen BKgb5.out 0; have hczgb9_0 : w12.cell? ⟨gb9, 0, none⟩ = some (.int .i64 ee) := (blk_cell BKgb9.out 0).trans rfl; have hfzgb9_0 := blk_frozen BKgb9.out 0) | ((with_reducible refine gate_callee (f := 62) rfl ?_); refine Hof.gl (some 44) Try.func62 #[.int .i64 (Go.bits .andNot .i64 bb aa)] ?_; (with_reducible refine (impl_ElementsOf.calls k3 (Go.bits .andNot .i64 bb aa) fs _ A3.out).mono ?_); rintro e w13 ⟨v1, rfl, ho, hb⟩; refine ⟨_, rfl, ?_⟩; obtain ⟨Af, cf, ef⟩ := Kd.R_slice ho; subst ef; have HOfs0 := Aside0.mk (Kd.R_reads' ho).2.2; clear ho; have n0_ := Aside0.mk (below_step HB.out hb); clear HB; have HB := n0_; clear n0_; have m_ := Aside0.mk (Kd.R_below HOes.out hb); clear HOes; have HOes := m_; clear m_; have m_ := Aside0.mk (blk_below BKgb1.out hb); clear BKgb1; have BKgb1 := m_; clear m_; have m_ := Aside0.mk (blk_below BKgb2.out hb); clear BKgb2; have BKgb2 := m_; clear m_; have m_ := Aside0.mk (blk_below BKgb5.out hb); clear BKgb5; have BKgb5 := m_; clear m_; have m_ := Aside0.mk (blk_below BKgb9.out hb); clear BKgb9; have BKgb9 := m_; clear m_; have HOfs := HOfs0; clear HOfs0; clear hb hczgb1_0 hczgb1_1 hfzgb1_0 hfzgb1_1 hczgb5_0 hfzgb5_0 hczgb2_0 hczgb2_1 hczgb2_2 hfzgb2_0 hfzgb2_1 hfzgb2_2 hczgb9_0 hfzgb9_0; have hczgb1_0 : w13.cell? ⟨gb1, 0, none⟩ = some ((.int .i64 a0_0)) := (blk_cell BKgb1.out 0).trans rfl; have hfzgb1_0 := blk_frozen BKgb1.out 0; have hczgb1_1 : w13.cell? ⟨gb1, 1, none⟩ = some ((.slice (some ad1) l0_1.length c0_1)) := (blk_cell BKgb1.out 1).trans rfl; have hfzgb1_1 := blk_frozen BKgb1.out 1; have hczgb2_0 : w13.cell? ⟨gb2, 0, none⟩ = some (.int .i64 0) := (blk_cell BKgb2.out 0).trans rfl; have hfzgb2_0 := blk_frozen BKgb2.out 0; have hczgb2_1 : w13.cell? ⟨gb2, 1, none⟩ = some (.int .i64 0) := (blk_cell BKgb2.out 1).trans rfl; have hfzgb2_1 := blk_frozen BKgb2.out 1; have hczgb2_2 : w13.cell? ⟨gb2, 2, none⟩ = some (.int .i64 0) := (blk_cell BKgb2.out 2).trans rfl; have hfzgb2_2 := blk_frozen BKgb2.out 2; have hczgb5_0 : w13.cell? ⟨gb5, 0, none⟩ = some (.int .i64 aa) := (blk_cell BKgb5.out 0).trans rfl; have hfzgb5_0 := blk_frozen BKgb5.out 0; have hczgb9_0 : w13.cell? ⟨gb9, 0, none⟩ = some (.int .i64 ee) := (blk_cell BKgb9.out 0).trans rfl; have hfzgb9_0 := blk_frozen BKgb9.out 0) | ((with_reducible refine gate_callee (f := 132) rfl ?_); refine Hof.gl (some 46) Try.func132 #[.slice Af fs.length cf, .func (.func 145) #[] #[.pointer (some ⟨gb1, 0, none⟩), .pointer (some ⟨gb5, 0, none⟩), .pointer (some ⟨gb9, 0, none⟩)]] ?_; (with_reducible refine (slices_ContainsFunc_int_int.calls k3 _ _ fs _ (fun f => impl_FirstFailure_1.f k3 l0_1 aa ee f) true _ HOfs.out (impl_FirstFailure_1.fun1 k3 a0_0 (some ad1) c0_1 l0_1 aa ee gb1 gb5 gb9 _ BKgb1.out BKgb5.out BKgb9.out (Kd.C_below HR.out HB.out) HC.out) A4.out).mono ?_); rintro e w14 ⟨rfl, hb⟩; refine ⟨_, rfl, ?_⟩; have n0_ := Aside0.mk (below_step HB.out hb); clear HB; have HB := n0_; clear n0_; have m_ := Aside0.mk (Kd.R_below HOes.out hb); clear HOes; have HOes := m_; clear m_; have m_ := Aside0.mk (blk_below BKgb1.out hb); clear BKgb1; have BKgb1 := m_; clear m_; have m_ := Aside0.mk (blk_below BKgb2.out hb); clear BKgb2; have BKgb2 := m_; clear m_; have m_ := Aside0.mk (blk_below BKgb5.out hb); clear BKgb5; have BKgb5 := m_; clear m_; have m_ := Aside0.mk (blk_below BKgb9.out hb); clear BKgb9; have BKgb9 := m_; clear m_; clear hb hczgb1_0 hczgb1_1 hfzgb1_0 hfzgb1_1 hczgb5_0 hfzgb5_0 hczgb2_0 hczgb2_1 hczgb2_2 hfzgb2_0 hfzgb2_1 hfzgb2_2 hczgb9_0 hfzgb9_0; have hczgb2_0 : w14.cell? ⟨gb2, 0, none⟩ = some (.int .i64 0) := (blk_cell BKgb2.out 0).trans rfl; have hfzgb2_0 := blk_frozen BKgb2.out 0; have hczgb2_1 : w14.cell? ⟨gb2, 1, none⟩ = some (.int .i64 0) := (blk_cell BKgb2.out 1).trans rfl; have hfzgb2_1 := blk_frozen BKgb2.out 1; have hczgb2_2 : w14.cell? ⟨gb2, 2, none⟩ = some (.int .i64 0) := (blk_cell BKgb2.out 2).trans rfl; have hfzgb2_2 := blk_frozen BKgb2.out 2; have hczgb5_0 : w14.cell? ⟨gb5, 0, none⟩ = some (.int .i64 aa) := (blk_cell BKgb5.out 0).trans rfl; have hfzgb5_0 := blk_frozen BKgb5.out 0; have hczgb9_0 : w14.cell? ⟨gb9, 0, none⟩ = some (.int .i64 ee) := (blk_cell BKgb9.out 0).trans rfl; have hfzgb9_0 := blk_frozen BKgb9.out 0))
         go_roundg k3
         case measure => have := HK1.out; have := HK2.out; have := HK3.out; omega
         case rel => exact ⟨(wrap64 (x3 + 1)), rfl, H', ⟨by have := HK1.out; have := HK2.out; have := HK3.out; omega⟩, BKgb1, BKgb2, BKgb5, HOes, HB⟩
        | false =>
         rw [if_neg (by decide)] at H
         simp only [Option.some.injEq, Prod.mk.injEq] at H
         obtain ⟨rfl, rfl, rfl, rfl⟩ := H
         have hczgb5_0 : wr.cell? ⟨gb5, 0, none⟩ = some (.int .i64 aa) := (blk_cell BKgb5.out 0).trans rfl
         have hfzgb5_0 := blk_frozen BKgb5.out 0
         have hczgb1_0 : wr.cell? ⟨gb1, 0, none⟩ = some ((.int .i64 a0_0)) := (blk_cell BKgb1.out 0).trans rfl
         have hfzgb1_0 := blk_frozen BKgb1.out 0
         have hczgb1_1 : wr.cell? ⟨gb1, 1, none⟩ = some ((.slice (some ad1) l0_1.length c0_1)) := (blk_cell BKgb1.out 1).trans rfl
         have hfzgb1_1 := blk_frozen BKgb1.out 1
         have hczgb2_0 : wr.cell? ⟨gb2, 0, none⟩ = some (.int .i64 0) := (blk_cell BKgb2.out 0).trans rfl
         have hfzgb2_0 := blk_frozen BKgb2.out 0
         have hczgb2_1 : wr.cell? ⟨gb2, 1, none⟩ = some (.int .i64 0) := (blk_cell BKgb2.out 1).trans rfl
         have hfzgb2_1 := blk_frozen BKgb2.out 1
         have hczgb2_2 : wr.cell? ⟨gb2, 2, none⟩ = some (.int .i64 0) := (blk_cell BKgb2.out 2).trans rfl
         have hfzgb2_2 := blk_frozen BKgb2.out 2
         go_wp2_with (first | ((with_reducible refine gate_dst (N := 9) rfl ?_); refine Hof.bx 9 #[.int .i64 0] 3 ?_; intro gb9 hg w11 hbox hb; have GEgb9 := Aside0.mk ((by rw [hg]; exact below_size HB.out) : w.heap.size ≤ gb9); have HG9 := Aside0.mk hg; have HN9 := Aside0.mk hb; have BKgb9 := Aside0.mk hbox; clear hb hg hbox; have hczgb9_0 : w11.cell? ⟨gb9, 0, none⟩ = some (.int .i64 0) := (blk_cell BKgb9.out 0).trans rfl; have hfzgb9_0 := blk_frozen BKgb9.out 0) | ((with_reducible refine gate_store (t := 3) (p := 9) rfl ?_); refine store_event (t := 3) (p := 9) (v := ?vo3) (w1 := (w11.setCell ⟨gb9, 0, none⟩ (.int .i64 ee))) ?hg ?ho ?hn ?hr ?_; (case ho => rfl); (case hg => rfl); (case hn => rfl); (case hr => first | (go_simp; done) | (go_simp; rfl)); intro w12 hw; have hb : Below wr.heap.size wr w12 := (by rw [hw]; exact below_set HN9.out (Nat.le_of_eq HG9.out.symm)); have m5 : Aside0 (w12.heap[gb9]? = some (.cells #[.int .i64 ee] 3 (0, 0))) := ⟨by rw [hw]; exact blk_put BKgb9.out 0 _ rfl⟩; clear BKgb9 hw hczgb9_0 hfzgb9_0; have BKgb9 := m5; clear m5; have n0_ := Aside0.mk (below_step HB.out hb); clear HB; have HB := n0_; clear n0_; have m_ := Aside0.mk (Kd.R_below HOes.out hb); clear HOes; have HOes := m_; clear m_; have m_ := Aside0.mk (blk_below BKgb1.out hb); clear BKgb1; have BKgb1 := m_; clear m_; have m_ := Aside0.mk (blk_below BKgb2.out hb); clear BKgb2; have BKgb2 := m_; clear m_; have m_ := Aside0.mk (blk_below BKgb5.out hb); clear BKgb5; have BKgb5 := m_; clear m_; clear hb HN9 HG9; have hczgb1_0 : w12.cell? ⟨gb1, 0, none⟩ = some ((.int .i64 a0_0)) := (blk_cell BKgb1.out 0).trans rfl; have hfzgb1_0 := blk_frozen BKgb1.out 0; have hczgb1_1 : w12.cell? ⟨gb1, 1, none⟩ = some ((.slice (some ad1) l0_1.length c0_1)) := (blk_cell BKgb1.out 1).trans rfl; have hfzgb1_1 := blk_frozen BKgb1.out 1; have hczgb2_0 : w12.cell? ⟨gb2, 0, none⟩ = some (.int .i64 0) := (blk_cell BKgb2.out 0).trans rfl; have hfzgb2_0 := blk_frozen BKgb2.out 0; have hczgb2_1 : w12.cell? ⟨gb2, 1, none⟩ = some (.int .i64 0) := (blk_cell BKgb2.out 1).trans rfl; have hfzgb2_1 := blk_frozen BKgb2.out 1; have hczgb2_2 : w12.cell? ⟨gb2, 2, none⟩ = some (.int .i64 0) := (blk_cell BKgb2.out 2).trans rfl; have hfzgb2_2 := blk_frozen BKgb2.out 2; have hczgb5_0 : w12.cell? ⟨gb5, 0, none⟩ = some (.int .i64 aa) := (blk_cell BKgb5.out 0).trans rfl; have hfzgb5_0 := blk_frozen BKgb5.out 0; have hczgb9_0 : w12.cell? ⟨gb9, 0, none⟩ = some (.int .i64 ee) := (blk_cell BKgb9.out 0).trans rfl; have hfzgb9_0 := blk_frozen BKgb9.out 0) | ((with_reducible refine gate_callee (f := 62) rfl ?_); refine Hof.gl (some 44) Try.func62 #[.int .i64 (Go.bits .andNot .i64 bb aa)] ?_; (with_reducible refine (impl_ElementsOf.calls k3 (Go.bits .andNot .i64 bb aa) fs _ A3.out).mono ?_); rintro e w13 ⟨v1, rfl, ho, hb⟩; refine ⟨_, rfl, ?_⟩; obtain ⟨Af, cf, ef⟩ := Kd.R_slice ho; subst ef; have HOfs0 := Aside0.mk (Kd.R_reads' ho).2.2; clear ho; have n0_ := Aside0.mk (below_step HB.out hb); clear HB; have HB := n0_; clear n0_; have m_ := Aside0.mk (Kd.R_below HOes.out hb); clear HOes; have HOes := m_; clear m_; have m_ := Aside0.mk (blk_below BKgb1.out hb); clear BKgb1; have BKgb1 := m_; clear m_; have m_ := Aside0.mk (blk_below BKgb2.out hb); clear BKgb2; have BKgb2 := m_; clear m_; have m_ := Aside0.mk (blk_below BKgb5.out hb); clear BKgb5; have BKgb5 := m_; clear m_; have m_ := Aside0.mk (blk_below BKgb9.out hb); clear BKgb9; have BKgb9 := m_; clear m_; have HOfs := HOfs0; clear HOfs0; clear hb hczgb1_0 hczgb1_1 hfzgb1_0 hfzgb1_1 hczgb5_0 hfzgb5_0 hczgb2_0 hczgb2_1 hczgb2_2 hfzgb2_0 hfzgb2_1 hfzgb2_2 hczgb9_0 hfzgb9_0; have hczgb1_0 : w13.cell? ⟨gb1, 0, none⟩ = some ((.int .i64 a0_0)) := (blk_cell BKgb1.out 0).trans rfl; have hfzgb1_0 := blk_frozen BKgb1.out 0; have hczgb1_1 : w13.cell? ⟨gb1, 1, none⟩ = some ((.slice (some ad1) l0_1.length c0_1)) := (blk_cell BKgb1.out 1).trans rfl; have hfzgb1_1 := blk_frozen BKgb1.out 1; have hczgb2_0 : w13.cell? ⟨gb2, 0, none⟩ = some (.int .i64 0) := (blk_cell BKgb2.out 0).trans rfl; have hfzgb2_0 := blk_frozen BKgb2.out 0; have hczgb2_1 : w13.cell? ⟨gb2, 1, none⟩ = some (.int .i64 0) := (blk_cell BKgb2.out 1).trans rfl; have hfzgb2_1 := blk_frozen BKgb2.out 1; have hczgb2_2 : w13.cell? ⟨gb2, 2, none⟩ = some (.int .i64 0) := (blk_cell BKgb2.out 2).trans rfl; have hfzgb2_2 := blk_frozen BKgb2.out 2; have hczgb5_0 : w13.cell? ⟨gb5, 0, none⟩ = some (.int .i64 aa) := (blk_cell BKgb5.out 0).trans rfl; have hfzgb5_0 := blk_frozen BKgb5.out 0; have hczgb9_0 : w13.cell? ⟨gb9, 0, none⟩ = some (.int .i64 ee) := (blk_cell BKgb9.out 0).trans rfl; have hfzgb9_0 := blk_frozen BKgb9.out 0) | ((with_reducible refine gate_callee (f := 132) rfl ?_); refine Hof.gl (some 46) Try.func132 #[.slice Af fs.length cf, .func (.func 145) #[] #[.pointer (some ⟨gb1, 0, none⟩), .pointer (some ⟨gb5, 0, none⟩), .pointer (some ⟨gb9, 0, none⟩)]] ?_; (with_reducible refine (slices_ContainsFunc_int_int.calls k3 _ _ fs _ (fun f => impl_FirstFailure_1.f k3 l0_1 aa ee f) false _ HOfs.out (impl_FirstFailure_1.fun1 k3 a0_0 (some ad1) c0_1 l0_1 aa ee gb1 gb5 gb9 _ BKgb1.out BKgb5.out BKgb9.out (Kd.C_below HR.out HB.out) HC.out) A4.out).mono ?_); rintro e w14 ⟨rfl, hb⟩; refine ⟨_, rfl, ?_⟩; have n0_ := Aside0.mk (below_step HB.out hb); clear HB; have HB := n0_; clear n0_; have m_ := Aside0.mk (Kd.R_below HOes.out hb); clear HOes; have HOes := m_; clear m_; have m_ := Aside0.mk (blk_below BKgb1.out hb); clear BKgb1; have BKgb1 := m_; clear m_; have m_ := Aside0.mk (blk_below BKgb2.out hb); clear BKgb2; have BKgb2 := m_; clear m_; have m_ := Aside0.mk (blk_below BKgb5.out hb); clear BKgb5; have BKgb5 := m_; clear m_; have m_ := Aside0.mk (blk_below BKgb9.out hb); clear BKgb9; have BKgb9 := m_; clear m_; clear hb hczgb1_0 hczgb1_1 hfzgb1_0 hfzgb1_1 hczgb5_0 hfzgb5_0 hczgb2_0 hczgb2_1 hczgb2_2 hfzgb2_0 hfzgb2_1 hfzgb2_2 hczgb9_0 hfzgb9_0; have hczgb2_0 : w14.cell? ⟨gb2, 0, none⟩ = some (.int .i64 0) := (blk_cell BKgb2.out 0).trans rfl; have hfzgb2_0 := blk_frozen BKgb2.out 0; have hczgb2_1 : w14.cell? ⟨gb2, 1, none⟩ = some (.int .i64 0) := (blk_cell BKgb2.out 1).trans rfl; have hfzgb2_1 := blk_frozen BKgb2.out 1; have hczgb2_2 : w14.cell? ⟨gb2, 2, none⟩ = some (.int .i64 0) := (blk_cell BKgb2.out 2).trans rfl; have hfzgb2_2 := blk_frozen BKgb2.out 2; have hczgb5_0 : w14.cell? ⟨gb5, 0, none⟩ = some (.int .i64 aa) := (blk_cell BKgb5.out 0).trans rfl; have hfzgb5_0 := blk_frozen BKgb5.out 0; have hczgb9_0 : w14.cell? ⟨gb9, 0, none⟩ = some (.int .i64 ee) := (blk_cell BKgb9.out 0).trans rfl; have hfzgb9_0 := blk_frozen BKgb9.out 0))
         refine bodyPost_ret (results_ct rfl _ _ gb2 108 #[.int .i64 aa, .int .i64 bb, .int .i64 ee] (0, 0) _ rfl (by refine blk_put (cs := #[.int .i64 aa, .int .i64 bb, .int .i64 0]) ?_ 2 _ rfl; refine blk_put (cs := #[.int .i64 aa, .int .i64 0, .int .i64 0]) ?_ 1 _ rfl; refine blk_put (cs := #[.int .i64 0, .int .i64 0, .int .i64 0]) ?_ 0 _ rfl; exact BKgb2.out) Try.underlying108 rfl (by kernel_rfl)) rfl ?_
         exact ⟨rfl, by repeat (first | exact HB.out | refine below_set ?_ GEgb2.out)⟩
def impl_IsMatroid.f (k : Nat) (a0_0 : Int) (l0_1 : List Int) : Option (Bool) := (impl_FirstFailure.f k a0_0 l0_1).bind fun bt490 => ((impl_IsFamily.f k a0_0 l0_1).bind fun t495 => (if t495 = true then (if (l0_1.length : Int) > 0 then (some (!bt490.2.2.2)) else (some false)) else (some false)))
set_option maxHeartbeats 8000000 in
set_option maxRecDepth 100000 in
theorem impl_IsMatroid.calls (k : Nat) (a0_0 : Int) (A0_1 : Option Addr) (c0_1 : Nat) (l0_1 : List Int) (r : Bool) (w : World) (hr0_1 : Kd.C (Kd.int .i64) w A0_1 l0_1.length l0_1) (hc0_1 : l0_1.length ≤ c0_1) (h : impl_IsMatroid.f k a0_0 l0_1 = some r) :
  Calls Try.prog 81 #[.agg #[.int .i64 a0_0, .slice A0_1 l0_1.length c0_1]] w fun e w' => e = .returned (.bool r) ∧ Below w.heap.size w w' := by
 have hu35 := Try.underlying35
 have hu108 := Try.underlying108
 have HR0_1 := Aside0.mk hr0_1
 have HC0_1 := Aside0.mk hc0_1
 clear hr0_1 hc0_1
 have HB := Aside0.mk (Below.refl w.heap.size w)
 unfold impl_IsMatroid.f at h
 have H := h
 clear h
 obtain ⟨⟨t490, t491, t492, t493⟩, A2, H⟩ := Hof.be H
 (try dsimp only at H)
 obtain ⟨t495, A3, H⟩ := Hof.be H
 (try dsimp only at H)
 by_cases c4 : t495 = true
 ·subst c4
  replace H : (if (l0_1.length : Int) > 0 then (some (!t493)) else (some false)) = some r := by rw [if_pos rfl] at H; exact H
  by_cases c5 : (l0_1.length : Int) > 0
  ·rw [if_pos c5] at H
   have c5b0 := decide_eq_true c5
   have c5b1 : decide (0 < l0_1.length) = true := decide_eq_true (by omega)
   clear c5
   obtain rfl := Option.some.inj H
   go_enter Try.func81, Try.ntmps81
   go_wp2_with (first | ((with_reducible refine gate_dst (N := 1) rfl ?_); (try (refine gate_guard (by rfl) ?_; dsimp only)); refine box_event ?hg (N := 1) ?hd (cs := #[.int .i64 a0_0, .slice A0_1 l0_1.length c0_1]) (t := 35) ?hr ?_; (case hd => rfl); (case hg => rfl); (case hr => first | (go_simp; done) | (go_simp; rfl)); intro gb489 hg w6 hbox hb; have BK489 := Aside0.mk hbox; have GW489 := Hof.gw hg HB; have GE489 := Hof.gw hg HB; replace HB := Hof.lb HB hb; clear hb hbox hg; obtain ⟨hcz7_0, hcz7_1, hfz7_0, hfz7_1⟩ := Hof.blk2 BK489.out) | (refine Hof.gl (some 7) Try.func119 #[.agg #[.int .i64 a0_0, .slice A0_1 l0_1.length c0_1]] ?_; (with_reducible refine (impl_FirstFailure.calls k a0_0 _ _ l0_1 t490 t491 t492 t493 _ ?side1 ?side2 A2.out).mono ?_); (case side1 => exact Hof.Cw (Kd.C_below HR0_1.out HB.out)); (case side2 => exact HC0_1.out); rintro e w8 ⟨rfl, hb⟩; refine ⟨_, rfl, ?_⟩; replace BK489 := Hof.bb BK489 hb; replace HB := Aside0.mk (below_step Hof.L hb); (try clear hb); (try clear hb2); (try clear hk); (try clear hi)) | ((with_reducible refine gate_dst (N := 3) rfl ?_); (try (refine gate_guard (by rfl) ?_; dsimp only)); refine box_event ?hg (N := 3) ?hd (cs := #[.int .i64 0, .int .i64 0, .int .i64 0]) (t := 108) ?hr ?_; (case hd => rfl); (case hg => rfl); (case hr => first | (go_simp; done) | (go_simp; rfl)); intro gb494 hg w9 hbox hb; have BK494 := Aside0.mk hbox; have GW494 := Hof.gL (w := w) hg Hof.L; have GE494 := Hof.gL (w := w) hg Hof.L; replace HB := Aside0.mk (below_step Hof.L hb); have NB489_494 := Hof.nl hg BK489; have NB494_489 := Hof.ng hg BK489; replace BK489 := Hof.bb BK489 hb; clear hb hbox hg; have hnb10 := NB494_489.out; have hnc10 := NB489_494.out; obtain ⟨hcz11_0, hcz11_1, hcz11_2, hfz11_0, hfz11_1, hfz11_2⟩ := Hof.blk3 BK494.out; obtain ⟨hcz12_0, hcz12_1, hfz12_0, hfz12_1⟩ := Hof.blk2 BK489.out) | (refine Hof.gl (some 14) Try.func120 #[.int .i64 a0_0, .slice A0_1 l0_1.length c0_1] ?_; (with_reducible refine (impl_IsFamily.calls k a0_0 _ _ l0_1 true _ ?side1 ?side2 A3.out).mono ?_); (case side1 => exact Kd.C_below HR0_1.out Hof.L); (case side2 => exact HC0_1.out); rintro e w' ⟨rfl, ⟨nd, rfl⟩⟩; refine ⟨_, rfl, ?_⟩))
   go_ret
   exact ⟨Hof.E, Hof.L⟩
  ·rw [if_neg c5] at H
   have c5b0 : decide (0 < (l0_1.length : Int)) = false := decide_eq_false c5
   have c5b1 : decide (0 < l0_1.length) = false := decide_eq_false (by omega)
   clear c5
   obtain rfl := Option.some.inj H
   go_enter Try.func81, Try.ntmps81
   go_wp2_with (first | ((with_reducible refine gate_dst (N := 1) rfl ?_); (try (refine gate_guard (by rfl) ?_; dsimp only)); refine box_event ?hg (N := 1) ?hd (cs := #[.int .i64 a0_0, .slice A0_1 l0_1.length c0_1]) (t := 35) ?hr ?_; (case hd => rfl); (case hg => rfl); (case hr => first | (go_simp; done) | (go_simp; rfl)); intro gb489 hg w13 hbox hb; have BK489 := Aside0.mk hbox; have GW489 := Hof.gw hg HB; have GE489 := Hof.gw hg HB; replace HB := Hof.lb HB hb; clear hb hbox hg; obtain ⟨hcz14_0, hcz14_1, hfz14_0, hfz14_1⟩ := Hof.blk2 BK489.out) | (refine Hof.gl (some 7) Try.func119 #[.agg #[.int .i64 a0_0, .slice A0_1 l0_1.length c0_1]] ?_; (with_reducible refine (impl_FirstFailure.calls k a0_0 _ _ l0_1 t490 t491 t492 t493 _ ?side1 ?side2 A2.out).mono ?_); (case side1 => exact Hof.Cw (Kd.C_below HR0_1.out HB.out)); (case side2 => exact HC0_1.out); rintro e w15 ⟨rfl, hb⟩; refine ⟨_, rfl, ?_⟩; replace BK489 := Hof.bb BK489 hb; replace HB := Aside0.mk (below_step Hof.L hb); (try clear hb); (try clear hb2); (try clear hk); (try clear hi)) | ((with_reducible refine gate_dst (N := 3) rfl ?_); (try (refine gate_guard (by rfl) ?_; dsimp only)); refine box_event ?hg (N := 3) ?hd (cs := #[.int .i64 0, .int .i64 0, .int .i64 0]) (t := 108) ?hr ?_; (case hd => rfl); (case hg => rfl); (case hr => first | (go_simp; done) | (go_simp; rfl)); intro gb494 hg w16 hbox hb; have BK494 := Aside0.mk hbox; have GW494 := Hof.gL (w := w) hg Hof.L; have GE494 := Hof.gL (w := w) hg Hof.L; replace HB := Aside0.mk (below_step Hof.L hb); have NB489_494 := Hof.nl hg BK489; have NB494_489 := Hof.ng hg BK489; replace BK489 := Hof.bb BK489 hb; clear hb hbox hg; have hnb17 := NB494_489.out; have hnc17 := NB489_494.out; obtain ⟨hcz18_0, hcz18_1, hcz18_2, hfz18_0, hfz18_1, hfz18_2⟩ := Hof.blk3 BK494.out; obtain ⟨hcz19_0, hcz19_1, hfz19_0, hfz19_1⟩ := Hof.blk2 BK489.out) | (refine Hof.gl (some 14) Try.func120 #[.int .i64 a0_0, .slice A0_1 l0_1.length c0_1] ?_; (with_reducible refine (impl_IsFamily.calls k a0_0 _ _ l0_1 true _ ?side1 ?side2 A3.out).mono ?_); (case side1 => exact Kd.C_below HR0_1.out Hof.L); (case side2 => exact HC0_1.out); rintro e w' ⟨rfl, ⟨nd, rfl⟩⟩; refine ⟨_, rfl, ?_⟩))
   go_ret
   exact ⟨Hof.E, Hof.L⟩
 ·replace c4 := Bool.eq_false_iff.mpr c4
  subst c4
  replace H : (some false) = some r := by rw [if_neg (show ¬ (false = true) by decide)] at H; exact H
  obtain rfl := Option.some.inj H
  go_enter Try.func81, Try.ntmps81
  go_wp2_with (first | ((with_reducible refine gate_dst (N := 1) rfl ?_); (try (refine gate_guard (by rfl) ?_; dsimp only)); refine box_event ?hg (N := 1) ?hd (cs := #[.int .i64 a0_0, .slice A0_1 l0_1.length c0_1]) (t := 35) ?hr ?_; (case hd => rfl); (case hg => rfl); (case hr => first | (go_simp; done) | (go_simp; rfl)); intro gb489 hg w20 hbox hb; have BK489 := Aside0.mk hbox; have GW489 := Hof.gw hg HB; have GE489 := Hof.gw hg HB; replace HB := Hof.lb HB hb; clear hb hbox hg; obtain ⟨hcz21_0, hcz21_1, hfz21_0, hfz21_1⟩ := Hof.blk2 BK489.out) | (refine Hof.gl (some 7) Try.func119 #[.agg #[.int .i64 a0_0, .slice A0_1 l0_1.length c0_1]] ?_; (with_reducible refine (impl_FirstFailure.calls k a0_0 _ _ l0_1 t490 t491 t492 t493 _ ?side1 ?side2 A2.out).mono ?_); (case side1 => exact Hof.Cw (Kd.C_below HR0_1.out HB.out)); (case side2 => exact HC0_1.out); rintro e w22 ⟨rfl, hb⟩; refine ⟨_, rfl, ?_⟩; replace BK489 := Hof.bb BK489 hb; replace HB := Aside0.mk (below_step Hof.L hb); (try clear hb); (try clear hb2); (try clear hk); (try clear hi)) | ((with_reducible refine gate_dst (N := 3) rfl ?_); (try (refine gate_guard (by rfl) ?_; dsimp only)); refine box_event ?hg (N := 3) ?hd (cs := #[.int .i64 0, .int .i64 0, .int .i64 0]) (t := 108) ?hr ?_; (case hd => rfl); (case hg => rfl); (case hr => first | (go_simp; done) | (go_simp; rfl)); intro gb494 hg w23 hbox hb; have BK494 := Aside0.mk hbox; have GW494 := Hof.gL (w := w) hg Hof.L; have GE494 := Hof.gL (w := w) hg Hof.L; replace HB := Aside0.mk (below_step Hof.L hb); have NB489_494 := Hof.nl hg BK489; have NB494_489 := Hof.ng hg BK489; replace BK489 := Hof.bb BK489 hb; clear hb hbox hg; have hnb24 := NB494_489.out; have hnc24 := NB489_494.out; obtain ⟨hcz25_0, hcz25_1, hcz25_2, hfz25_0, hfz25_1, hfz25_2⟩ := Hof.blk3 BK494.out; obtain ⟨hcz26_0, hcz26_1, hfz26_0, hfz26_1⟩ := Hof.blk2 BK489.out) | (refine Hof.gl (some 14) Try.func120 #[.int .i64 a0_0, .slice A0_1 l0_1.length c0_1] ?_; (with_reducible refine (impl_IsFamily.calls k a0_0 _ _ l0_1 false _ ?side1 ?side2 A3.out).mono ?_); (case side1 => exact Kd.C_below HR0_1.out Hof.L); (case side2 => exact HC0_1.out); rintro e w' ⟨rfl, ⟨nd, rfl⟩⟩; refine ⟨_, rfl, ?_⟩))
  go_ret
  exact ⟨Hof.E, Hof.L⟩
def impl_circuit.l0 : Nat → Int → Int → Int → List Int → Int → Int → Int → List Int → Option (Int)
 | 0, _, _, _, _, _, _, _, _ => none
 | k + 1, x1, x2, x7, x13, x14, x15, x893000, x893001 => if x15 < x14 then (if 0 ≤ x15 then (if x15 < (x13.length : Int) then (if 0 ≤ (rd x13 x15) then (if 0 ≤ x2 then ((impl_HasSet.f k x893001 (Go.bits .or .i64 (Go.bits .andNot .i64 x1 (shl .i64 1 (rd x13 x15))) (shl .i64 1 x2))).bind fun t897 => (if t897 = true then (impl_circuit.l0 k x1 x2 (Go.bits .or .i64 x7 (shl .i64 1 (rd x13 x15))) x13 x14 (wrap64 (x15 + 1)) x893000 x893001) else (impl_circuit.l0 k x1 x2 x7 x13 x14 (wrap64 (x15 + 1)) x893000 x893001))) else (none)) else (none)) else (none)) else (none)) else (some x7)
def impl_circuit.f (k : Nat) (a0_0 : Int) (l0_1 : List Int) (a1 : Int) (a2 : Int) : Option (Int) := if 0 ≤ a2 then ((impl_ElementsOf.f k a1).bind fun t893 => (impl_circuit.l0 k a1 a2 (shl .i64 1 a2) t893 (t893.length : Int) 0 a0_0 l0_1)) else (none)
set_option maxHeartbeats 8000000 in
set_option maxRecDepth 100000 in
theorem impl_circuit.calls (k : Nat) (a0_0 : Int) (A0_1 : Option Addr) (c0_1 : Nat) (l0_1 : List Int) (a1 : Int) (a2 : Int) (r : Int) (w : World) (hr0_1 : Kd.C (Kd.int .i64) w A0_1 l0_1.length l0_1) (hc0_1 : l0_1.length ≤ c0_1) (h : impl_circuit.f k a0_0 l0_1 a1 a2 = some r) :
  Calls Try.prog 83 #[.agg #[.int .i64 a0_0, .slice A0_1 l0_1.length c0_1], .int .i64 a1, .int .i64 a2] w fun e w' => e = .returned (.int .i64 r) ∧ Below w.heap.size w w' := by
 have hu35 := Try.underlying35
 have HR0_1 := Aside0.mk hr0_1
 have HC0_1 := Aside0.mk hc0_1
 clear hr0_1 hc0_1
 have HB := Aside0.mk (Below.refl w.heap.size w)
 unfold impl_circuit.f at h
 have H := h
 clear h
 by_cases c4 : 0 ≤ a2
 ·rw [if_pos c4] at H
  have c4b0 := eq_true c4
  have c4b1 : decide (0 ≤ a2) = true := decide_eq_true c4
  clear c4
  obtain ⟨ji5, hji5⟩ : ∃ j_ : Int, (shl .i64 1 a2) = j_ := ⟨_, rfl⟩
  replace H : ((impl_ElementsOf.f k a1).bind fun t893 => (impl_circuit.l0 k a1 a2 ji5 t893 (t893.length : Int) 0 a0_0 l0_1)) = some r := by first | (rw [hji5] at H; exact H) | (simp only [hji5] at H ⊢; exact H)
  have hji5_ : (IntKind.i64.wrap (1 * 2 ^ min a2.toNat 64)) = ji5 := hji5
  have hji5z : a2 ≤ 64 → (IntKind.i64.wrap (1 * 2 ^ a2.toNat)) = ji5 := shl_small hji5
  have hji5u : (IntKind.i64.wrap (2 ^ min a2.toNat 64)) = ji5 := by have h_ := hji5_; rw [Int.one_mul] at h_; exact h_
  have hji5v : a2 ≤ 64 → (IntKind.i64.wrap (2 ^ a2.toNat)) = ji5 := fun hle_ => by have h_ := hji5z hle_; rw [Int.one_mul] at h_; exact h_
  have hji5y : (wrap64 (1 * 2 ^ min a2.toNat 64)) = ji5 := (i64_w _).symm.trans hji5_
  have hji5x : a2 ≤ 64 → (wrap64 (1 * 2 ^ a2.toNat)) = ji5 := fun h_ => (i64_w _).symm.trans (hji5z h_)
  obtain ⟨t893, A6, H⟩ := Hof.be H
  (try dsimp only at H)
  have H' := Aside0.mk H
  clear H
  go_enter Try.func83, Try.ntmps83
  go_wp2_with (first | ((with_reducible refine gate_dst (N := 3) rfl ?_); refine Hof.bx 3 #[.int .i64 a0_0, .slice A0_1 l0_1.length c0_1] 35 ?_; intro gb892 hg w7 hbox hb; have BK892 := Aside0.mk hbox; have GW892 := Hof.gw hg HB; have GE892 := Hof.gw hg HB; replace HB := Hof.lb HB hb; clear hb hbox hg) | (go_at_call 62; (with_reducible refine (impl_ElementsOf.calls k a1 t893 _ A6.out).mono ?_); rintro e w8 ⟨v894, rfl, ho0, hb⟩; have HO895 := Aside0.mk (Kd.R_lower ho0 (below_size (Hof.Lw HB.out))); replace BK892 := Hof.bb BK892 hb; replace HB := Hof.lb HB hb; (try clear hb); (try clear hb2); (try clear hk); (try clear hi); (try clear ho0); obtain ⟨Ao9, co9, eo9⟩ := Kd.R_slice HO895.out; subst eo9))
  repeat (go_quiet (first | ((with_reducible refine gate_dst (N := 3) rfl ?_); refine Hof.bx 3 #[.int .i64 a0_0, .slice A0_1 l0_1.length c0_1] 35 ?_; intro gb892 hg w7 hbox hb; have BK892 := Aside0.mk hbox; have GW892 := Hof.gw hg HB; have GE892 := Hof.gw hg HB; replace HB := Hof.lb HB hb; clear hb hbox hg) | (go_at_call 62; (with_reducible refine (impl_ElementsOf.calls k a1 t893 _ A6.out).mono ?_); rintro e w8 ⟨v894, rfl, ho0, hb⟩; have HO895 := Aside0.mk (Kd.R_lower ho0 (below_size (Hof.Lw HB.out))); replace BK892 := Hof.bb BK892 hb; replace HB := Hof.lb HB hb; (try clear hb); (try clear hb2); (try clear hk); (try clear hi); (try clear ho0); obtain ⟨Ao9, co9, eo9⟩ := Kd.R_slice HO895.out; subst eo9)); try go_wp2_with (first | ((with_reducible refine gate_dst (N := 3) rfl ?_); refine Hof.bx 3 #[.int .i64 a0_0, .slice A0_1 l0_1.length c0_1] 35 ?_; intro gb892 hg w7 hbox hb; have BK892 := Aside0.mk hbox; have GW892 := Hof.gw hg HB; have GE892 := Hof.gw hg HB; replace HB := Hof.lb HB hb; clear hb hbox hg) | (go_at_call 62; (with_reducible refine (impl_ElementsOf.calls k a1 t893 _ A6.out).mono ?_); rintro e w8 ⟨v894, rfl, ho0, hb⟩; have HO895 := Aside0.mk (Kd.R_lower ho0 (below_size (Hof.Lw HB.out))); replace BK892 := Hof.bb BK892 hb; replace HB := Hof.lb HB hb; (try clear hb); (try clear hb2); (try clear hk); (try clear hi); (try clear ho0); obtain ⟨Ao9, co9, eo9⟩ := Kd.R_slice HO895.out; subst eo9)))
  go_loopg [7, 15] k (fun kq v7 v15 w' => ∃ (x7_1 : Int) (x15_1 : Int), v7 = .int .i64 x7_1 ∧ v15 = .int .i64 x15_1 ∧ Aside0 (impl_circuit.l0 kq a1 a2 x7_1 t893 (t893.length : Int) x15_1 a0_0 l0_1 = some r) ∧ Aside0 (kq ≤ k) ∧ Aside0 (Kd.R (Kd.int .i64) 3 w' w.heap.size (fun _ => True) (.slice Ao9 t893.length co9) t893) ∧ Aside0 (w'.heap[gb892]? = some (.cells #[.int .i64 a0_0, (.slice A0_1 l0_1.length c0_1)] 35 (0, 0))) ∧ Aside0 (Below w.heap.size w w'))
  case atStart => exact ⟨(ji5), (0), (by first | rfl | (simp; done) | (simp only [← hji5] <;> (first | rfl | simp)) | (simp [*]; done)), Hof.F, H', ⟨Nat.le_refl _⟩, ⟨Hof.Rw HO895.out⟩, ⟨Hof.Bw BK892.out⟩, ⟨Hof.Lw HB.out⟩⟩
  case round =>
   clear H'
   obtain ⟨x7_1, x15_1, rfl, rfl, HA, HK1, HO_13, BK892, HB⟩ := hrel
   cases gk with
   | zero => exact absurd HA.out (by simp [impl_circuit.l0])
   | succ k1 =>
    have H := HA.out
    clear HA
    simp only [impl_circuit.l0] at H
    by_cases c10 : x15_1 < (t893.length : Int)
    ·rw [if_pos c10] at H
     have c10b0 := decide_eq_true c10
     clear c10
     by_cases c11 : 0 ≤ x15_1
     ·rw [if_pos c11] at H
      have c11b0 := decide_eq_true c11
      clear c11
      by_cases c12 : x15_1 < (t893.length : Int)
      ·rw [if_pos c12] at H
       have c12b0 := decide_eq_true c12
       clear c12
       by_cases c13 : 0 ≤ (rd t893 x15_1)
       ·rw [if_pos c13] at H
        have c13b0 := eq_true c13
        have c13b1 : decide (0 ≤ (rd t893 x15_1)) = true := decide_eq_true c13
        clear c13
        obtain ⟨ji14, hji14⟩ : ∃ j_ : Int, (shl .i64 1 (rd t893 x15_1)) = j_ := ⟨_, rfl⟩
        replace H : (if 0 ≤ a2 then ((impl_HasSet.f k1 l0_1 (Go.bits .or .i64 (Go.bits .andNot .i64 a1 (ji14)) (shl .i64 1 a2))).bind fun t897 => (if t897 = true then (impl_circuit.l0 k1 a1 a2 (Go.bits .or .i64 x7_1 (ji14)) t893 (t893.length : Int) (wrap64 (x15_1 + 1)) a0_0 l0_1) else (impl_circuit.l0 k1 a1 a2 x7_1 t893 (t893.length : Int) (wrap64 (x15_1 + 1)) a0_0 l0_1))) else (none)) = some r := by first | (rw [hji14] at H; exact H) | (simp only [hji14] at H ⊢; exact H)
        have hji14_ : (IntKind.i64.wrap (1 * 2 ^ min (rd t893 x15_1).toNat 64)) = ji14 := hji14
        have hji14z : (rd t893 x15_1) ≤ 64 → (IntKind.i64.wrap (1 * 2 ^ (rd t893 x15_1).toNat)) = ji14 := shl_small hji14
        have hji14u : (IntKind.i64.wrap (2 ^ min (rd t893 x15_1).toNat 64)) = ji14 := by have h_ := hji14_; rw [Int.one_mul] at h_; exact h_
        have hji14v : (rd t893 x15_1) ≤ 64 → (IntKind.i64.wrap (2 ^ (rd t893 x15_1).toNat)) = ji14 := fun hle_ => by have h_ := hji14z hle_; rw [Int.one_mul] at h_; exact h_
        have hji14y : (wrap64 (1 * 2 ^ min (rd t893 x15_1).toNat 64)) = ji14 := (i64_w _).symm.trans hji14_
        have hji14x : (rd t893 x15_1) ≤ 64 → (wrap64 (1 * 2 ^ (rd t893 x15_1).toNat)) = ji14 := fun h_ => (i64_w _).symm.trans (hji14z h_)
        by_cases c15 : 0 ≤ a2
        ·rw [if_pos c15] at H
         have c15b0 := eq_true c15
         have c15b1 : decide (0 ≤ a2) = true := decide_eq_true c15
         clear c15
         replace H : ((impl_HasSet.f k1 l0_1 (Go.bits .or .i64 (Go.bits .andNot .i64 a1 (ji14)) (ji5))).bind fun t897 => (if t897 = true then (impl_circuit.l0 k1 a1 a2 (Go.bits .or .i64 x7_1 (ji14)) t893 (t893.length : Int) (wrap64 (x15_1 + 1)) a0_0 l0_1) else (impl_circuit.l0 k1 a1 a2 x7_1 t893 (t893.length : Int) (wrap64 (x15_1 + 1)) a0_0 l0_1))) = some r := by first | (rw [hji5] at H; exact H) | (simp only [hji5] at H ⊢; exact H)
         obtain ⟨t897, A17, H⟩ := Hof.be H
         (try dsimp only at H)
         by_cases c18 : t897 = true
         ·subst c18
          replace H : (impl_circuit.l0 k1 a1 a2 (Go.bits .or .i64 x7_1 (ji14)) t893 (t893.length : Int) (wrap64 (x15_1 + 1)) a0_0 l0_1) = some r := by rw [if_pos rfl] at H; exact H
          have c19b0 := eq_true (Hof.D : 0 ≤ (rd t893 x15_1))
          have H' := Aside0.mk H
          clear H
          have p896 : 0 ≤ (x15_1 : Int) := Hof.D
          have q896 : x15_1 < (t893.length : Int) := Hof.D
          obtain ⟨ad896, e896, hx896_0⟩ := Kd.at_int (Kd.R_reads' HO_13.out).2.2 x15_1 p896 q896
          cases e896
          replace p896 := eq_true p896
          replace q896 := eq_true q896
          obtain ⟨hcz21_0, hcz21_1, hfz21_0, hfz21_1⟩ := Hof.blk2 BK892.out
          go_wp2_with (first | (go_at_call 122; (with_reducible refine (impl_HasSet.calls k1 _ _ l0_1 (Go.bits .or .i64 (Go.bits .andNot .i64 a1 (ji14)) (ji5)) true _ ?side1 ?side2 A17.out).mono ?_); (case side1 => exact Hof.Cw (Kd.C_below HR0_1.out HB.out)); (case side2 => exact HC0_1.out); rintro e w' ⟨rfl, ⟨nd, rfl⟩⟩; (try exact Hof.W)))
          repeat (go_quiet (first | (go_at_call 122; (with_reducible refine (impl_HasSet.calls k1 _ _ l0_1 (Go.bits .or .i64 (Go.bits .andNot .i64 a1 (ji14)) (ji5)) true _ ?side1 ?side2 A17.out).mono ?_); (case side1 => exact Hof.Cw (Kd.C_below HR0_1.out HB.out)); (case side2 => exact HC0_1.out); rintro e w' ⟨rfl, ⟨nd, rfl⟩⟩; (try exact Hof.W))); try go_wp2_with (first | (go_at_call 122; (with_reducible refine (impl_HasSet.calls k1 _ _ l0_1 (Go.bits .or .i64 (Go.bits .andNot .i64 a1 (ji14)) (ji5)) true _ ?side1 ?side2 A17.out).mono ?_); (case side1 => exact Hof.Cw (Kd.C_below HR0_1.out HB.out)); (case side2 => exact HC0_1.out); rintro e w' ⟨rfl, ⟨nd, rfl⟩⟩; (try exact Hof.W))))
          go_roundg k1
          case measure => have := HK1.out; omega
          case rel => exact ⟨(Go.bits .or .i64 x7_1 (ji14)), (wrap64 (x15_1 + 1)), (by first | rfl | (simp; done) | (simp only [← hji14] <;> (first | rfl | simp)) | (simp [*]; done)), Hof.F, H', ⟨by have := HK1.out; omega⟩, ⟨Hof.Rw HO_13.out⟩, ⟨Hof.Bw BK892.out⟩, ⟨Hof.Lw HB.out⟩⟩
         ·replace c18 := Bool.eq_false_iff.mpr c18
          subst c18
          replace H : (impl_circuit.l0 k1 a1 a2 x7_1 t893 (t893.length : Int) (wrap64 (x15_1 + 1)) a0_0 l0_1) = some r := by rw [if_neg (show ¬ (false = true) by decide)] at H; exact H
          have H' := Aside0.mk H
          clear H
          have p896 : 0 ≤ (x15_1 : Int) := Hof.D
          have q896 : x15_1 < (t893.length : Int) := Hof.D
          obtain ⟨ad896, e896, hx896_0⟩ := Kd.at_int (Kd.R_reads' HO_13.out).2.2 x15_1 p896 q896
          cases e896
          replace p896 := eq_true p896
          replace q896 := eq_true q896
          obtain ⟨hcz22_0, hcz22_1, hfz22_0, hfz22_1⟩ := Hof.blk2 BK892.out
          go_wp2_with (first | (go_at_call 122; (with_reducible refine (impl_HasSet.calls k1 _ _ l0_1 (Go.bits .or .i64 (Go.bits .andNot .i64 a1 (ji14)) (ji5)) false _ ?side1 ?side2 A17.out).mono ?_); (case side1 => exact Hof.Cw (Kd.C_below HR0_1.out HB.out)); (case side2 => exact HC0_1.out); rintro e w' ⟨rfl, ⟨nd, rfl⟩⟩; (try exact Hof.W)))
          repeat (go_quiet (first | (go_at_call 122; (with_reducible refine (impl_HasSet.calls k1 _ _ l0_1 (Go.bits .or .i64 (Go.bits .andNot .i64 a1 (ji14)) (ji5)) false _ ?side1 ?side2 A17.out).mono ?_); (case side1 => exact Hof.Cw (Kd.C_below HR0_1.out HB.out)); (case side2 => exact HC0_1.out); rintro e w' ⟨rfl, ⟨nd, rfl⟩⟩; (try exact Hof.W))); try go_wp2_with (first | (go_at_call 122; (with_reducible refine (impl_HasSet.calls k1 _ _ l0_1 (Go.bits .or .i64 (Go.bits .andNot .i64 a1 (ji14)) (ji5)) false _ ?side1 ?side2 A17.out).mono ?_); (case side1 => exact Hof.Cw (Kd.C_below HR0_1.out HB.out)); (case side2 => exact HC0_1.out); rintro e w' ⟨rfl, ⟨nd, rfl⟩⟩; (try exact Hof.W))))
          go_roundg k1
          case measure => have := HK1.out; omega
          case rel => exact ⟨(x7_1), (wrap64 (x15_1 + 1)), Hof.F, Hof.F, H', ⟨by have := HK1.out; omega⟩, ⟨Hof.Rw HO_13.out⟩, ⟨Hof.Bw BK892.out⟩, ⟨Hof.Lw HB.out⟩⟩
        ·rw [if_neg c15] at H
         exact absurd H (by simp)
       ·rw [if_neg c13] at H
        exact absurd H (by simp)
      ·rw [if_neg c12] at H
       exact absurd H (by simp)
     ·rw [if_neg c11] at H
      exact absurd H (by simp)
    ·rw [if_neg c10] at H
     have c10b0 : decide (x15_1 < (t893.length : Int)) = false := decide_eq_false c10
     clear c10
     obtain rfl := Option.some.inj H
     go_wp2
     repeat (go_quiet (fail); try go_wp2)
     go_ret
     exact ⟨by first | rfl | (simp [errW_none, errW_some] <;> rfl) | (simp only [← hji5]; first | rfl | (simp [errW_none, errW_some] <;> rfl)) | (simp [*, errW_none, errW_some] <;> rfl), Hof.L⟩
 ·rw [if_neg c4] at H
  exact absurd H (by simp)
def slices_Equal_int_int.l0 : Nat → List Int → List Int → Int → Int → Option (Bool)
 | 0, _, _, _, _ => none
 | k + 1, x0, x1, x12, x13 => if x13 < x12 then (if 0 ≤ x13 then (if x13 < (x0.length : Int) then (if x13 < (x1.length : Int) then (if (rd x0 x13) = (rd x1 x13) then (slices_Equal_int_int.l0 k x0 x1 x12 (wrap64 (x13 + 1))) else (some false)) else (none)) else (none)) else (none)) else (some true)
def slices_Equal_int_int.f (k : Nat) (l0 : List Int) (l1 : List Int) : Option (Bool) := if (l0.length : Int) = (l1.length : Int) then (slices_Equal_int_int.l0 k l0 l1 (l0.length : Int) 0) else (some false)
set_option maxHeartbeats 8000000 in
set_option maxRecDepth 100000 in
theorem slices_Equal_int_int.calls (k : Nat) (A0 : Option Addr) (c0 : Nat) (l0 : List Int) (A1 : Option Addr) (c1 : Nat) (l1 : List Int) (r : Bool) (w : World) (hr0 : Kd.C (Kd.int .i64) w A0 l0.length l0) (hc0 : l0.length ≤ c0) (hr1 : Kd.C (Kd.int .i64) w A1 l1.length l1) (hc1 : l1.length ≤ c1) (h : slices_Equal_int_int.f k l0 l1 = some r) :
  Calls Try.prog 147 #[.slice A0 l0.length c0, .slice A1 l1.length c1] w fun e w' => e = .returned (.bool r) ∧ Drawn0 w w' := by
 have HR0 := Aside0.mk hr0
 have HC0 := Aside0.mk hc0
 clear hr0 hc0
 have HR1 := Aside0.mk hr1
 have HC1 := Aside0.mk hc1
 clear hr1 hc1
 unfold slices_Equal_int_int.f at h
 have H := h
 clear h
 by_cases c3 : (l0.length : Int) = (l1.length : Int)
 ·rw [if_pos c3] at H
  have c3b0 : ((l0.length : Int) == (l1.length : Int)) = true := beq_iff_eq.mpr c3
  have c3b1 : ((l0.length : Int) != (l1.length : Int)) = false := bne_eq_false_iff_eq.mpr c3
  have c3b2 : (l0.length == l1.length) = true := by first | simpa using c3 | (simp at c3 ⊢; omega)
  clear c3
  have H' := Aside0.mk H
  clear H
  go_enter Try.func147, Try.ntmps147
  go_wp2
  repeat (go_quiet (fail); try go_wp2)
  go_loopg [13] k (fun kq v13 w' => ∃ (x13_1 : Int), v13 = .int .i64 x13_1 ∧ Aside0 (slices_Equal_int_int.l0 kq l0 l1 (l0.length : Int) x13_1 = some r) ∧ Aside0 (kq ≤ k) ∧ Drawn0 w w')
  case atStart => exact ⟨(0), Hof.F, H', ⟨Nat.le_refl _⟩, Hof.G⟩
  case round =>
   clear H'
   obtain ⟨x13_1, rfl, HA, HK1, ⟨m1, rfl⟩⟩ := hrel
   cases gk with
   | zero => exact absurd HA.out (by simp [slices_Equal_int_int.l0])
   | succ k1 =>
    have H := HA.out
    clear HA
    simp only [slices_Equal_int_int.l0] at H
    by_cases c4 : x13_1 < (l0.length : Int)
    ·rw [if_pos c4] at H
     have c4b0 := decide_eq_true c4
     clear c4
     by_cases c5 : 0 ≤ x13_1
     ·rw [if_pos c5] at H
      have c5b0 := decide_eq_true c5
      clear c5
      by_cases c6 : x13_1 < (l0.length : Int)
      ·rw [if_pos c6] at H
       have c6b0 := decide_eq_true c6
       clear c6
       by_cases c7 : x13_1 < (l1.length : Int)
       ·rw [if_pos c7] at H
        have c7b0 := decide_eq_true c7
        clear c7
        by_cases c8 : (rd l0 x13_1) = (rd l1 x13_1)
        ·rw [if_pos c8] at H
         have c8b0 : ((rd l0 x13_1) == (rd l1 x13_1)) = true := beq_iff_eq.mpr c8
         have c8b1 : ((rd l0 x13_1) != (rd l1 x13_1)) = false := bne_eq_false_iff_eq.mpr c8
         clear c8
         have H' := Aside0.mk H
         clear H
         have p898 : 0 ≤ (x13_1 : Int) := Hof.D
         have q898 : x13_1 < (l0.length : Int) := Hof.D
         obtain ⟨ad898, e898, hx898_0⟩ := Kd.at_int HR0.out x13_1 p898 q898
         cases e898
         replace p898 := eq_true p898
         replace q898 := eq_true q898
         have p899 : 0 ≤ (x13_1 : Int) := Hof.D
         have q899 : x13_1 < (l1.length : Int) := Hof.D
         obtain ⟨ad899, e899, hx899_0⟩ := Kd.at_int HR1.out x13_1 p899 q899
         cases e899
         replace p899 := eq_true p899
         replace q899 := eq_true q899
         go_wp2
         repeat (go_quiet (fail); try go_wp2)
         go_roundg k1
         case measure => have := HK1.out; omega
         case rel => exact ⟨(wrap64 (x13_1 + 1)), Hof.F, H', ⟨by have := HK1.out; omega⟩, Hof.G⟩
        ·rw [if_neg c8] at H
         have c8b0 : ((rd l0 x13_1) == (rd l1 x13_1)) = false := beq_eq_false_iff_ne.mpr c8
         have c8b1 : ((rd l0 x13_1) != (rd l1 x13_1)) = true := bne_iff_ne.mpr c8
         obtain rfl := Option.some.inj H
         have p898 : 0 ≤ (x13_1 : Int) := Hof.D
         have q898 : x13_1 < (l0.length : Int) := Hof.D
         obtain ⟨ad898, e898, hx898_0⟩ := Kd.at_int HR0.out x13_1 p898 q898
         cases e898
         replace p898 := eq_true p898
         replace q898 := eq_true q898
         have p899 : 0 ≤ (x13_1 : Int) := Hof.D
         have q899 : x13_1 < (l1.length : Int) := Hof.D
         obtain ⟨ad899, e899, hx899_0⟩ := Kd.at_int HR1.out x13_1 p899 q899
         cases e899
         replace p899 := eq_true p899
         replace q899 := eq_true q899
         go_wp2
         repeat (go_quiet (fail); try go_wp2)
         go_ret
         exact ⟨Hof.F, Hof.G⟩
       ·rw [if_neg c7] at H
        exact absurd H (by simp)
      ·rw [if_neg c6] at H
       exact absurd H (by simp)
     ·rw [if_neg c5] at H
      exact absurd H (by simp)
    ·rw [if_neg c4] at H
     have c4b0 : decide (x13_1 < (l0.length : Int)) = false := decide_eq_false c4
     clear c4
     obtain rfl := Option.some.inj H
     go_wp2
     repeat (go_quiet (fail); try go_wp2)
     go_ret
     exact ⟨Hof.F, Hof.G⟩
 ·rw [if_neg c3] at H
  have c3b0 : ((l0.length : Int) == (l1.length : Int)) = false := beq_eq_false_iff_ne.mpr c3
  have c3b1 : ((l0.length : Int) != (l1.length : Int)) = true := bne_iff_ne.mpr c3
  have c3b2 : (l0.length == l1.length) = false := by first | simpa using c3 | (simp at c3 ⊢; omega)
  obtain rfl := Option.some.inj H
  go_enter Try.func147, Try.ntmps147
  go_wp2
  repeat (go_quiet (fail); try go_wp2)
  go_ret
  exact ⟨Hof.F, Hof.G⟩
def impl_EqualMatroid.f (k : Nat) (a0_0 : Int) (l0_1 : List Int) (a1_0 : Int) (l1_1 : List Int) : Option (Bool) := if a0_0 = a1_0 then ((slices_Equal_int_int.f k l0_1 l1_1).bind fun t902 => (some t902)) else (some false)
set_option maxHeartbeats 8000000 in
set_option maxRecDepth 100000 in
theorem impl_EqualMatroid.calls (k : Nat) (a0_0 : Int) (A0_1 : Option Addr) (c0_1 : Nat) (l0_1 : List Int) (a1_0 : Int) (A1_1 : Option Addr) (c1_1 : Nat) (l1_1 : List Int) (r : Bool) (w : World) (hr0_1 : Kd.C (Kd.int .i64) w A0_1 l0_1.length l0_1) (hc0_1 : l0_1.length ≤ c0_1) (hr1_1 : Kd.C (Kd.int .i64) w A1_1 l1_1.length l1_1) (hc1_1 : l1_1.length ≤ c1_1) (h : impl_EqualMatroid.f k a0_0 l0_1 a1_0 l1_1 = some r) :
  Calls Try.prog 123 #[.agg #[.int .i64 a0_0, .slice A0_1 l0_1.length c0_1], .agg #[.int .i64 a1_0, .slice A1_1 l1_1.length c1_1]] w fun e w' => e = .returned (.bool r) ∧ Below w.heap.size w w' := by
 have hu35 := Try.underlying35
 have HR0_1 := Aside0.mk hr0_1
 have HC0_1 := Aside0.mk hc0_1
 clear hr0_1 hc0_1
 have HR1_1 := Aside0.mk hr1_1
 have HC1_1 := Aside0.mk hc1_1
 clear hr1_1 hc1_1
 have HB := Aside0.mk (Below.refl w.heap.size w)
 unfold impl_EqualMatroid.f at h
 have H := h
 clear h
 by_cases c3 : a0_0 = a1_0
 ·rw [if_pos c3] at H
  have c3b0 : (a0_0 == a1_0) = true := beq_iff_eq.mpr c3
  have c3b1 : (a0_0 != a1_0) = false := bne_eq_false_iff_eq.mpr c3
  clear c3
  obtain ⟨t902, A4, H⟩ := Hof.be H
  (try dsimp only at H)
  obtain rfl := Option.some.inj H
  go_enter Try.func123, Try.ntmps123
  go_wp2_with (first | ((with_reducible refine gate_dst (N := 2) rfl ?_); refine Hof.bx 2 #[.int .i64 a0_0, .slice A0_1 l0_1.length c0_1] 35 ?_; intro gb900 hg w5 hbox hb; have BK900 := Aside0.mk hbox; have GW900 := Hof.gw hg HB; have GE900 := Hof.gw hg HB; replace HB := Hof.lb HB hb; clear hb hbox hg) | ((with_reducible refine gate_dst (N := 3) rfl ?_); refine Hof.bx 3 #[.int .i64 a1_0, .slice A1_1 l1_1.length c1_1] 35 ?_; intro gb901 hg w6 hbox hb; have BK901 := Aside0.mk hbox; have GW901 := Hof.gw hg HB; have GE901 := Hof.gw hg HB; replace HB := Hof.lb HB hb; have NB900_901 := Hof.nl hg BK900; have NB901_900 := Hof.ng hg BK900; replace BK900 := Hof.bb BK900 hb; clear hb hbox hg; have hnb7 := NB900_901.out; have hnc7 := NB901_900.out; obtain ⟨hcz8_0, hcz8_1, hfz8_0, hfz8_1⟩ := Hof.blk2 BK900.out; obtain ⟨hcz9_0, hcz9_1, hfz9_0, hfz9_1⟩ := Hof.blk2 BK901.out) | (go_at_call 147; (with_reducible refine (slices_Equal_int_int.calls k _ _ l0_1 _ _ l1_1 t902 _ ?side1 ?side2 ?side3 ?side4 A4.out).mono ?_); (case side1 => exact Hof.Cw (Kd.C_below HR0_1.out HB.out)); (case side2 => exact HC0_1.out); (case side3 => exact Hof.Cw (Kd.C_below HR1_1.out HB.out)); (case side4 => exact HC1_1.out); rintro e w' ⟨rfl, ⟨nd, rfl⟩⟩))
  go_ret
  exact ⟨Hof.E, Hof.L⟩
 ·rw [if_neg c3] at H
  have c3b0 : (a0_0 == a1_0) = false := beq_eq_false_iff_ne.mpr c3
  have c3b1 : (a0_0 != a1_0) = true := bne_iff_ne.mpr c3
  obtain rfl := Option.some.inj H
  go_enter Try.func123, Try.ntmps123
  go_wp2_with (first | ((with_reducible refine gate_dst (N := 2) rfl ?_); refine Hof.bx 2 #[.int .i64 a0_0, .slice A0_1 l0_1.length c0_1] 35 ?_; intro gb900 hg w10 hbox hb; have BK900 := Aside0.mk hbox; have GW900 := Hof.gw hg HB; have GE900 := Hof.gw hg HB; replace HB := Hof.lb HB hb; clear hb hbox hg) | ((with_reducible refine gate_dst (N := 3) rfl ?_); refine Hof.bx 3 #[.int .i64 a1_0, .slice A1_1 l1_1.length c1_1] 35 ?_; intro gb901 hg w11 hbox hb; have BK901 := Aside0.mk hbox; have GW901 := Hof.gw hg HB; have GE901 := Hof.gw hg HB; replace HB := Hof.lb HB hb; have NB900_901 := Hof.nl hg BK900; have NB901_900 := Hof.ng hg BK900; replace BK900 := Hof.bb BK900 hb; clear hb hbox hg; have hnb12 := NB900_901.out; have hnc12 := NB901_900.out; obtain ⟨hcz13_0, hcz13_1, hfz13_0, hfz13_1⟩ := Hof.blk2 BK900.out; obtain ⟨hcz14_0, hcz14_1, hfz14_0, hfz14_1⟩ := Hof.blk2 BK901.out))
  go_ret
  exact ⟨Hof.E, Hof.L⟩
end Go.Proofs.Ytmpodackojmojaa.Pr
end
section
namespace Go.Proofs.Ytmpodackojmojaa.Lay
open Go.Shelf Go.Proofs
def laysSort_ren : Go.Shelf.Ren := ⟨fun | 189 => 154 | 125 => 164 | 257 => 163 | 128 => 177 | 129 => 178 | 294 => 168 | 295 => 169 | 296 => 170 | 297 => 171 | 298 => 172 | 299 => 173 | 216 => 174 | 300 => 175 | 301 => 176 | 328 => 179 | 329 => 180 | 330 => 181 | 331 => 182 | 332 => 183 | 215 => 184 | 343 => 185 | n => n, fun | 28 => 24 | 3 => 3 | 46 => 97 | 0 => 0 | 51 => 128 | 53 => 130 | 4 => 4 | 183 => 139 | 182 => 138 | 131 => 41 | 5 => 5 | 9 => 9 | 218 => 144 | 222 => 148 | 228 => 150 | 229 => 151 | n => n, fun | n => n⟩
theorem laysSort : Go.Proofs.Lays.n189 Try.prog laysSort_ren := {
 mixed := by kernel_rfl
 f125 := Try.func164.trans (congrArg some (by kernel_rfl))
 f128 := Try.func177.trans (congrArg some (by kernel_rfl))
 f129 := Try.func178.trans (congrArg some (by kernel_rfl))
 f189 := Try.func154.trans (congrArg some (by kernel_rfl))
 f215 := Try.func184.trans (congrArg some (by kernel_rfl))
 f216 := Try.func174.trans (congrArg some (by kernel_rfl))
 f257 := Try.func163.trans (congrArg some (by kernel_rfl))
 f294 := Try.func168.trans (congrArg some (by kernel_rfl))
 f295 := Try.func169.trans (congrArg some (by kernel_rfl))
 f296 := Try.func170.trans (congrArg some (by kernel_rfl))
 f297 := Try.func171.trans (congrArg some (by kernel_rfl))
 f298 := Try.func172.trans (congrArg some (by kernel_rfl))
 f299 := Try.func173.trans (congrArg some (by kernel_rfl))
 f300 := Try.func175.trans (congrArg some (by kernel_rfl))
 f301 := Try.func176.trans (congrArg some (by kernel_rfl))
 f328 := Try.func179.trans (congrArg some (by kernel_rfl))
 f329 := Try.func180.trans (congrArg some (by kernel_rfl))
 f330 := Try.func181.trans (congrArg some (by kernel_rfl))
 f331 := Try.func182.trans (congrArg some (by kernel_rfl))
 f332 := Try.func183.trans (congrArg some (by kernel_rfl))
 f343 := Try.func185.trans (congrArg some (by kernel_rfl))
 t0 := Try.underlying0
 a0 := Try.isAgg0
 z0 := Try.sizeOf0
 v0 := Try.zeroValue0
 t3 := Try.underlying3
 a3 := Try.isAgg3
 z3 := Try.sizeOf3
 v3 := Try.zeroValue3
 t4 := Try.underlying4
 a4 := Try.isAgg4
 z4 := Try.sizeOf4
 v4 := Try.zeroValue4
 t5 := Try.underlying5
 a5 := Try.isAgg5
 z5 := Try.sizeOf5
 v5 := Try.zeroValue5
 t9 := Try.underlying9
 a9 := Try.isAgg9
 z9 := Try.sizeOf9
 v9 := Try.zeroValue9
 t28 := Try.underlying24
 a28 := Try.isAgg24
 z28 := Try.sizeOf24
 v28 := Try.zeroValue24
 t46 := Try.underlying97
 a46 := Try.isAgg97
 z46 := Try.sizeOf97
 v46 := Try.zeroValue97
 t51 := Try.underlying128
 a51 := Try.isAgg128
 z51 := Try.sizeOf128
 v51 := Try.zeroValue128
 t53 := Try.underlying130
 a53 := Try.isAgg130
 z53 := Try.sizeOf130
 v53 := Try.zeroValue130
 t131 := Try.underlying41
 a131 := Try.isAgg41
 z131 := Try.sizeOf41
 v131 := Try.zeroValue41
 t182 := Try.underlying138
 a182 := Try.isAgg138
 z182 := Try.sizeOf138
 v182 := Try.zeroValue138
 t183 := Try.underlying139
 a183 := Try.isAgg139
 z183 := Try.sizeOf139
 v183 := Try.zeroValue139
 t218 := Try.underlying144
 a218 := Try.isAgg144
 z218 := Try.sizeOf144
 v218 := Try.zeroValue144
 t222 := Try.underlying148
 a222 := Try.isAgg148
 z222 := Try.sizeOf148
 v222 := Try.zeroValue148
 t228 := Try.underlying150
 a228 := Try.isAgg150
 z228 := Try.sizeOf150
 v228 := Try.zeroValue150
 t229 := Try.underlying151
 a229 := Try.isAgg151
 z229 := Try.sizeOf151
 v229 := Try.zeroValue151 }
def laysCompact_ren : Go.Shelf.Ren := ⟨fun | 20 => 155 | n => n, fun | 22 => 24 | 3 => 3 | 4 => 4 | 0 => 0 | n => n, fun | n => n⟩
theorem laysCompact : Go.Proofs.Lays2.n20 Try.prog laysCompact_ren := {
 mixed := by kernel_rfl
 f20 := Try.func155.trans (congrArg some (by kernel_rfl))
 t0 := Try.underlying0
 a0 := Try.isAgg0
 z0 := Try.sizeOf0
 v0 := Try.zeroValue0
 t3 := Try.underlying3
 a3 := Try.isAgg3
 z3 := Try.sizeOf3
 v3 := Try.zeroValue3
 t4 := Try.underlying4
 a4 := Try.isAgg4
 z4 := Try.sizeOf4
 v4 := Try.zeroValue4
 t22 := Try.underlying24
 a22 := Try.isAgg24
 z22 := Try.sizeOf24
 v22 := Try.zeroValue24
 i3 := by kernel_rfl }
end Go.Proofs.Ytmpodackojmojaa.Lay
end
section
namespace Go.Proofs.Ytmpodackojmojaa.SortR
open Go.RowKit Go.Shelf Go.Sort Go.Proofs.YtmpodackojmojaaW.PrintWords
def sorted (xs : List Int) : List Int := xs.mergeSort fun x y => decide (x ≤ y)
theorem sorted_length (xs : List Int) : (sorted xs).length = xs.length := List.length_mergeSort xs
theorem sort_calls {w : World} {base : Nat} {ok : Nat → Prop} {v : Value} {xs : List Int} (h : (Kd.int .i64).R 3 w base ok v xs) (hs : xs.length < 4611686018427387904) :
  Calls Try.prog 154 #[v] w fun e w' => e = .returned (.tuple #[]) ∧ (Kd.int .i64).R 3 w' base ok v (sorted xs) ∧ (∀ w0 : World, Below base w0 w → Below base w0 w') ∧ w.grownBy w' v.ownBlock := by
 have ho := Kd.own_of_R h
 rcases ho.2 with ⟨rfl, h0⟩ | ⟨g, cap, cur, rfl, hbase, hb, h1, h2, h3, h4⟩
 ·have hx : xs = [] := List.length_eq_zero_iff.1 h0
  subst hx
  refine (Any.slices_Sort_int_none Lay.laysSort none 0 w).mono ?_
  rintro e w' ⟨rfl, rfl⟩
  exact ⟨rfl, by simpa [sorted] using h, fun _ hb => hb, ⟨rfl, rfl, rfl, Nat.le_refl _, fun _ _ _ => rfl⟩⟩
 ·have hH : Holds (Value.int .i64) w g 0 xs.toArray := by
   obtain ⟨g', cap', he, _, _, _, _, _, hH⟩ := Lib.holds_of_ownsRow ho (by simp)
   injection he with e1 _ _
   injection e1 with e1
   injection e1 with e1 _ _
   subst e1
   exact hH
  have hlt : g < w.heap.size := (Array.getElem?_eq_some_iff.1 hb).1
  refine (Any.slices_Sort_int Lay.laysSort g 0 cap xs w hH hlt hs).mono ?_
  rintro e w' ⟨rfl, n, os, rfl⟩
  have hown := ownsRow_sortedI (n := n) (os := os) (ts := sorted xs) (sorted_length xs) hbase hb h1 h2 h3
  rw [← sorted_length xs] at hown
  have hg : w.grownBy (grow (putRow (Value.int .i64) (Sort.ahead w n) g 0 (sorted xs).toArray) os) (some g) := grownBy_sortedI _
  refine ⟨rfl, ?_, fun w0 hb0 => ?_, ?_⟩
  ·have := Kd.R_of_own (enc := Value.int .i64) (h1 := fun _ => rfl) (ok := ok) hown (fun k hk => h.1 k (by simpa [Value.ownBlock] using hk))
   rw [sorted_length xs] at this
   exact this
  ·exact hb0.grown hg (by omega) (fun j hj => by cases hj; exact hbase)
  ·exact hg
theorem compact_calls {w : World} {base : Nat} {ok : Nat → Prop} {v : Value} {xs : List Int} (h : (Kd.int .i64).R 3 w base ok v xs) (hs : xs.length ≤ 9223372036854775807) :
  Calls Try.prog 155 #[v] w fun e w' => ∃ v', e = .returned v' ∧ (Kd.int .i64).R 3 w' base ok v' (Lib.compact xs) ∧ (∀ w0 : World, Below base w0 w → Below base w0 w') := by
 have ho := Kd.own_of_R h
 rcases ho.2 with ⟨rfl, h0⟩ | ⟨g, cap, cur, rfl, hbase, hb, h1, h2, h3, h4⟩
 ·have hx : xs = [] := List.length_eq_zero_iff.1 h0
  subst hx
  refine (Any.slices_Compact_int_empty Lay.laysCompact none 0 w).mono ?_
  rintro e w' ⟨rfl, rfl⟩
  exact ⟨_, rfl, by simpa [Lib.compact, Lib.compactUpTo] using h, fun _ hb => hb⟩
 ·have hH : Holds (Value.int .i64) w g 0 xs.toArray := by
   obtain ⟨g', cap', he, _, _, _, _, _, hH⟩ := Lib.holds_of_ownsRow ho (by simp)
   injection he with e1 _ _
   injection e1 with e1
   injection e1 with e1 _ _
   subst e1
   exact hH
  refine (Any.slices_Compact_int Lay.laysCompact g 0 cap xs w hH hs h1).mono ?_
  rintro e w' ⟨rfl, q, rfl⟩
  have hle := Lib.compact_length_le xs
  have hc := Lib.ownsRow_putRow (q := q) (k := (Lib.compact xs).length) (ys := Lib.compact xs ++ List.replicate (xs.length - (Lib.compact xs).length) 0) ho (by simp; omega) hle
  rw [List.take_left] at hc
  refine ⟨_, rfl, ?_, fun w0 hb0 => Lib.below_putRow hb0 hbase⟩
  exact Kd.R_of_own (enc := Value.int .i64) (h1 := fun _ => rfl) (ok := ok) hc (fun k hk => h.1 k (by simpa [Value.ownBlock] using hk))
end Go.Proofs.Ytmpodackojmojaa.SortR
end
section
namespace Go.Proofs.Ytmpodackojmojaa.Pr
open Go.RowKit Go.Proofs.YtmpodackojmojaaW.PrintWords Go.Proofs.YtmpodackojmojaaW.PrintLast Go.Proofs.YtmpodackojmojaaW.PrintMore
attribute [local go_sem] max2_int min2_int max_two min_two max_three min_three max_four min_four
set_option linter.unusedVariables false
set_option linter.unusedSimpArgs false
def impl_SortSets.f (l0 : List Int) : Option (List Int) := if l0.length < 17592186044416 then (some (Lib.compact (SortR.sorted l0))) else (none)
set_option maxHeartbeats 8000000 in
set_option maxRecDepth 100000 in
theorem impl_SortSets.calls (A0 : Option Addr) (c0 : Nat) (l0 : List Int) (r : List Int) (w : World) (hr0 : Kd.C (Kd.int .i64) w A0 l0.length l0) (hc0 : l0.length ≤ c0) (h : impl_SortSets.f l0 = some r) :
  Calls Try.prog 131 #[.slice A0 l0.length c0] w fun e w' => ∃ v0_ : Value, e = .returned (v0_) ∧ Kd.R (Kd.int .i64) 3 w' w.heap.size (fun _ => True) v0_ r ∧ Below w.heap.size w w' := by
 unfold impl_SortSets.f at h
 by_cases hl : l0.length < 17592186044416
 ·rw [if_pos hl] at h
  obtain rfl := Option.some.inj h
  have HL := Aside0.mk hl
  have HR := Aside0.mk hr0
  have HC := Aside0.mk hc0
  clear hr0 hc0 h hl
  go_enter Try.func131, Try.ntmps131
  go_wp2_with (first | (refine Hof.lt (Kd.int .i64) 3 4 ?_; intro v4 w1 ho1 hb1 hg_ hnew_; have HO1 := Aside0.mk ho1; have HB1 := Aside0.mk hb1; have HR1 := Aside0.mk (Kd.C_below HR.out hb1); clear hg_ hnew_ ho1 hb1) | ((with_reducible refine gate_builtin (b := .append) (xs := #[.tmp 4, .tmp 5]) rfl ?_); at_builtin; refine Kd.R_append_rows (Kd.int .i64) (w0 := w) w.heap.size rfl (.tmp 4) (.tmp 5) 24 3 (.int .i64 0) 8 rfl Try.underlying24 info3 rfl (by decide) (by omega) v4 ([] : List Int) l0 _ _ _ (fun _ => True) (fun _ => False) rfl rfl HO1.out HR1.out (fun _ _ h => h) (fun _ h => h.elim) (fun _ _ => trivial) HB1.out HB1.out.size (by have := HL.out; simp; omega) ?_; intro v6 w2 ho2 hb2 hg2 hat2; have HO2 := Aside0.mk ho2; have HB2 := Aside0.mk hb2; clear ho2 hb2 hg2 hat2; simp only [List.nil_append] at HO2) | (refine Hof.gl (some 8) Try.func154 #[v6] ?_; (with_reducible refine (SortR.sort_calls HO2.out (by have := HL.out; omega)).mono ?_); rintro e w3 ⟨rfl, ho3, hb3, hg3⟩; refine ⟨_, rfl, ?_⟩; have HO3 := Aside0.mk ho3; have HB3 := Aside0.mk (hb3 w HB2.out); clear ho3 hb3 hg3) | (refine Hof.gl (some 10) Try.func155 #[v6] ?_; (with_reducible refine (SortR.compact_calls HO3.out (by have := HL.out; have := SortR.sorted_length l0; omega)).mono ?_); rintro e w4 ⟨v10, rfl, ho4, hb4⟩; refine ⟨_, rfl, ?_⟩; have HO4 := Aside0.mk ho4; have HB4 := Aside0.mk (hb4 w HB3.out); clear ho4 hb4))
  go_ret
  exact ⟨_, rfl, HO4.out, HB4.out⟩
 ·rw [if_neg hl] at h
  exact absurd h (by simp)
def impl_areSets.l0 : Nat → List Int → Int → Int → Option (Bool)
 | 0, _, _, _ => none
 | k + 1, x5, x6, x7 => if x7 < x6 then (if 0 ≤ x7 then (if x7 < (x5.length : Int) then ((impl_isAny.f (rd x5 x7)).bind fun t497 => (if t497 = true then (impl_areSets.l0 k x5 x6 (wrap64 (x7 + 1))) else (some false))) else (none)) else (none)) else (some true)
def impl_areSets.f (k : Nat) (l0 : List Int) : Option (Bool) := impl_areSets.l0 k l0 (l0.length : Int) 0
set_option maxHeartbeats 8000000 in
set_option maxRecDepth 100000 in
theorem impl_areSets.calls (k : Nat) (A0 : Option Addr) (c0 : Nat) (l0 : List Int) (r : Bool) (w : World) (hr0 : Kd.C (Kd.int .i64) w A0 l0.length l0) (hc0 : l0.length ≤ c0) (h : impl_areSets.f k l0 = some r) :
  Calls Try.prog 130 #[.slice A0 l0.length c0] w fun e w' => e = .returned (.bool r) ∧ Drawn0 w w' := by
 have HR0 := Aside0.mk hr0
 have HC0 := Aside0.mk hc0
 clear hr0 hc0
 unfold impl_areSets.f at h
 have H := h
 clear h
 have H' := Aside0.mk H
 clear H
 go_enter Try.func130, Try.ntmps130
 go_wp2
 go_loopg [7] k (fun kq v7 w' => ∃ (x7_1 : Int), v7 = .int .i64 x7_1 ∧ Aside0 (impl_areSets.l0 kq l0 (l0.length : Int) x7_1 = some r) ∧ Aside0 (kq ≤ k) ∧ Drawn0 w w')
 case atStart => exact ⟨(0), Hof.F, H', ⟨Nat.le_refl _⟩, Hof.G⟩
 case round =>
  clear H'
  obtain ⟨x7_1, rfl, HA, HK1, ⟨m1, rfl⟩⟩ := hrel
  cases gk with
  | zero => exact absurd HA.out (by simp [impl_areSets.l0])
  | succ k1 =>
   have H := HA.out
   clear HA
   simp only [impl_areSets.l0] at H
   by_cases c2 : x7_1 < (l0.length : Int)
   ·rw [if_pos c2] at H
    have c2b0 := decide_eq_true c2
    clear c2
    by_cases c3 : 0 ≤ x7_1
    ·rw [if_pos c3] at H
     have c3b0 := decide_eq_true c3
     clear c3
     by_cases c4 : x7_1 < (l0.length : Int)
     ·rw [if_pos c4] at H
      have c4b0 := decide_eq_true c4
      clear c4
      obtain ⟨t497, A5, H⟩ := Hof.be H
      (try dsimp only at H)
      by_cases c6 : t497 = true
      ·subst c6
       replace H : (impl_areSets.l0 k1 l0 (l0.length : Int) (wrap64 (x7_1 + 1))) = some r := by rw [if_pos rfl] at H; exact H
       have H' := Aside0.mk H
       clear H
       have p496 : 0 ≤ (x7_1 : Int) := Hof.D
       have q496 : x7_1 < (l0.length : Int) := Hof.D
       obtain ⟨ad496, e496, hx496_0⟩ := Kd.at_int HR0.out x7_1 p496 q496
       cases e496
       replace p496 := eq_true p496
       replace q496 := eq_true q496
       go_wp2_with (first | (refine Hof.gl (some 12) Try.func121 #[.int .i64 (rd l0 x7_1)] ?_; (with_reducible refine (impl_isAny.calls (rd l0 x7_1) true _ A5.out).mono ?_); rintro e w' ⟨rfl, ⟨nd, rfl⟩⟩; refine ⟨_, rfl, ?_⟩))
       go_roundg k1
       case measure => have := HK1.out; omega
       case rel => exact ⟨(wrap64 (x7_1 + 1)), Hof.F, H', ⟨by have := HK1.out; omega⟩, Hof.G⟩
      ·replace c6 := Bool.eq_false_iff.mpr c6
       subst c6
       replace H : (some false) = some r := by rw [if_neg (show ¬ (false = true) by decide)] at H; exact H
       obtain rfl := Option.some.inj H
       have p496 : 0 ≤ (x7_1 : Int) := Hof.D
       have q496 : x7_1 < (l0.length : Int) := Hof.D
       obtain ⟨ad496, e496, hx496_0⟩ := Kd.at_int HR0.out x7_1 p496 q496
       cases e496
       replace p496 := eq_true p496
       replace q496 := eq_true q496
       go_wp2_with (first | (refine Hof.gl (some 12) Try.func121 #[.int .i64 (rd l0 x7_1)] ?_; (with_reducible refine (impl_isAny.calls (rd l0 x7_1) false _ A5.out).mono ?_); rintro e w' ⟨rfl, ⟨nd, rfl⟩⟩; refine ⟨_, rfl, ?_⟩))
       go_ret
       exact ⟨Hof.F, Hof.G⟩
     ·rw [if_neg c4] at H
      exact absurd H (by simp)
    ·rw [if_neg c3] at H
     exact absurd H (by simp)
   ·rw [if_neg c2] at H
    have c2b0 : decide (x7_1 < (l0.length : Int)) = false := decide_eq_false c2
    clear c2
    obtain rfl := Option.some.inj H
    go_wp2
    go_ret
    exact ⟨Hof.F, Hof.G⟩
def impl_IsSubset.f (a0 : Int) (a1 : Int) : Option (Bool) := (impl_isAny.f a0).bind fun t498 => (if t498 = true then ((impl_isAny.f a1).bind fun t499 => (if t499 = true then (some ((Go.bits .andNot .i64 a0 a1) == 0)) else (some false))) else (some false))
set_option maxHeartbeats 8000000 in
set_option maxRecDepth 100000 in
theorem impl_IsSubset.calls (a0 : Int) (a1 : Int) (r : Bool) (w : World) (h : impl_IsSubset.f a0 a1 = some r) :
  Calls Try.prog 134 #[.int .i64 a0, .int .i64 a1] w fun e w' => e = .returned (.bool r) ∧ Drawn0 w w' := by
 unfold impl_IsSubset.f at h
 have H := h
 clear h
 obtain ⟨t498, A3, H⟩ := Hof.be H
 (try dsimp only at H)
 by_cases c4 : t498 = true
 ·subst c4
  replace H : ((impl_isAny.f a1).bind fun t499 => (if t499 = true then (some ((Go.bits .andNot .i64 a0 a1) == 0)) else (some false))) = some r := by rw [if_pos rfl] at H; exact H
  obtain ⟨t499, A5, H⟩ := Hof.be H
  (try dsimp only at H)
  by_cases c6 : t499 = true
  ·subst c6
   replace H : (some ((Go.bits .andNot .i64 a0 a1) == 0)) = some r := by rw [if_pos rfl] at H; exact H
   obtain rfl := Option.some.inj H
   go_enter Try.func134, Try.ntmps134
   go_wp2_with (first | ((with_reducible refine gate_callee (f := 121) rfl ?_); refine Hof.gl (some 6) Try.func121 #[.int .i64 a0] ?_; (with_reducible refine (impl_isAny.calls a0 true _ A3.out).mono ?_); rintro e w' ⟨rfl, ⟨nd, rfl⟩⟩; refine ⟨_, rfl, ?_⟩) | (go_at_call 121; (with_reducible refine (impl_isAny.calls a1 true _ A5.out).mono ?_); rintro e w' ⟨rfl, ⟨nd, rfl⟩⟩))
   go_ret
   exact ⟨Hof.F, Hof.G⟩
  ·replace c6 := Bool.eq_false_iff.mpr c6
   subst c6
   replace H : (some false) = some r := by rw [if_neg (show ¬ (false = true) by decide)] at H; exact H
   obtain rfl := Option.some.inj H
   go_enter Try.func134, Try.ntmps134
   go_wp2_with (first | ((with_reducible refine gate_callee (f := 121) rfl ?_); refine Hof.gl (some 6) Try.func121 #[.int .i64 a0] ?_; (with_reducible refine (impl_isAny.calls a0 true _ A3.out).mono ?_); rintro e w' ⟨rfl, ⟨nd, rfl⟩⟩; refine ⟨_, rfl, ?_⟩) | (go_at_call 121; (with_reducible refine (impl_isAny.calls a1 false _ A5.out).mono ?_); rintro e w' ⟨rfl, ⟨nd, rfl⟩⟩))
   go_ret
   exact ⟨Hof.F, Hof.G⟩
 ·replace c4 := Bool.eq_false_iff.mpr c4
  subst c4
  replace H : (some false) = some r := by rw [if_neg (show ¬ (false = true) by decide)] at H; exact H
  obtain rfl := Option.some.inj H
  go_enter Try.func134, Try.ntmps134
  go_wp2_with (first | ((with_reducible refine gate_callee (f := 121) rfl ?_); refine Hof.gl (some 6) Try.func121 #[.int .i64 a0] ?_; (with_reducible refine (impl_isAny.calls a0 false _ A3.out).mono ?_); rintro e w' ⟨rfl, ⟨nd, rfl⟩⟩; refine ⟨_, rfl, ?_⟩))
  go_ret
  exact ⟨Hof.F, Hof.G⟩
def impl_MaximalSets_1.f (s t : Int) : Option Bool := if t = s then (some false) else (impl_IsSubset.f s t)
def impl_MaximalSets.l0 : Nat → List Int → List Int → List Int → Int → Option (List Int)
 | 0, _, _, _, _ => none
 | k + 1, l, q, x3, x13 => if x13 < (q.length : Int) then (if 0 ≤ x13 then ((slices_ContainsFunc_int_int.f k l (fun t => impl_MaximalSets_1.f (rd q x13) t)).bind fun b => (if b = true then (impl_MaximalSets.l0 k l q x3 (wrap64 (x13 + 1))) else (if x3.length < 17592186044416 then (impl_MaximalSets.l0 k l q (x3 ++ [rd q x13]) (wrap64 (x13 + 1))) else (none)))) else (none)) else (some x3)
def impl_MaximalSets.f (k : Nat) (l0 : List Int) : Option (List Int) := (impl_areSets.f k l0).bind fun t => (if t = true then ((impl_SortSets.f l0).bind fun q => (impl_MaximalSets.l0 k l0 q [] 0)) else (some []))
set_option maxHeartbeats 8000000 in
set_option maxRecDepth 100000 in
theorem impl_MaximalSets_1.calls (s t : Int) (b : Bool) (gb : Nat) (w : World) (hbk : w.heap[gb]? = some (.cells #[.int .i64 s] 3 (0, 0))) (h : impl_MaximalSets_1.f s t = some b) :
  Calls Try.prog 133 #[.int .i64 t, .pointer (some ⟨gb, 0, none⟩)] w fun e w' => e = .returned (.bool b) ∧ Below w.heap.size w w' := by
 have hcz5_0 : w.cell? ⟨gb, 0, none⟩ = some (.int .i64 s) := (blk_cell hbk 0).trans rfl
 clear hbk
 unfold impl_MaximalSets_1.f at h
 by_cases c : t = s
 ·rw [if_pos c] at h
  obtain rfl := Option.some.inj h
  have c1 : (t != s) = false := by simp [c]
  clear h c
  go_enter Try.func133, Try.ntmps133
  go_wp2
  go_ret
  exact ⟨rfl, Below.refl _ _⟩
 ·rw [if_neg c] at h
  have c1 : (t != s) = true := by simp [c]
  have A1 := Aside0.mk h
  clear h c
  go_enter Try.func133, Try.ntmps133
  go_wp2_with (first | (go_at_call 134; (with_reducible refine (impl_IsSubset.calls s t b _ A1.out).mono ?_); rintro e w5 ⟨rfl, hd⟩; have HB := Aside0.mk hd.below; clear hd))
  go_ret
  exact ⟨rfl, HB.out⟩
theorem impl_MaximalSets_1.fun1 (s : Int) (gb : Nat) (w : World) (hbk : w.heap[gb]? = some (.cells #[.int .i64 s] 3 (0, 0))) :
  Hof.Fun1 Try.prog w (.func (.func 133) #[] #[.pointer (some ⟨gb, 0, none⟩)]) (fun t => impl_MaximalSets_1.f s t) :=
 ⟨⟨133, #[.pointer (some ⟨gb, 0, none⟩)], Try.f133, rfl, Try.func133, by kernel_rfl, rfl, fun t b w' hw hg => impl_MaximalSets_1.calls s t b gb w' (blk_below hbk hw) hg⟩⟩
set_option maxHeartbeats 8000000 in
set_option maxRecDepth 100000 in
theorem impl_MaximalSets.calls (k : Nat) (A0 : Option Addr) (c0 : Nat) (l0 : List Int) (r : List Int) (w : World) (hr0 : Kd.C (Kd.int .i64) w A0 l0.length l0) (hc0 : l0.length ≤ c0) (h : impl_MaximalSets.f k l0 = some r) :
  Calls Try.prog 109 #[.slice A0 l0.length c0] w fun e w' => ∃ v0_ : Value, e = .returned (v0_) ∧ Kd.R (Kd.int .i64) 3 w' w.heap.size (fun _ => True) v0_ r ∧ Below w.heap.size w w' := by
 have HR := Aside0.mk hr0
 have HC := Aside0.mk hc0
 have HB := Aside0.mk (Below.refl w.heap.size w)
 clear hr0 hc0
 unfold impl_MaximalSets.f at h
 obtain ⟨t, h1, h⟩ := Option.bind_eq_some_iff.mp h
 have A1 := Aside0.mk h1
 clear h1
 cases t with
 | false =>
  rw [if_neg (by decide)] at h
  obtain rfl := Option.some.inj h
  clear h
  go_enter Try.func109, Try.ntmps109
  go_wp2_with (first | ((with_reducible refine gate_dst (N := 6) rfl ?_); refine Kd.R_lit (Kd.int .i64) _ 3 ?hg (N := 6) ?hd (xs := []) (inner := []) (ok := fun _ => True) (okp := fun _ => True) ?hr ?hp (fun _ hk => hk) trivial (Below.refl _ _) (Nat.le_refl _) (by simp) ?_; (case hd => rfl); (case hg => rfl); (case hr => first | (go_simp; done) | (go_simp; rfl)); (case hp => exact (Reps.none _ _)); intro vout w101 ho hb hg_ hnew_; clear hg_ hnew_; have Nout := Aside0.mk (Kd.R_lower ho (below_size HB.out)); have n0_ := Aside0.mk (below_step HB.out hb); clear HB; have HB := n0_; clear n0_; have HOout := Nout; clear Nout ho hb) | ((with_reducible refine gate_callee (f := 130) rfl ?_); refine Hof.gl (some 8) Try.func130 #[.slice A0 l0.length c0] ?_; (with_reducible refine (impl_areSets.calls k _ _ l0 false _ (Kd.C_below HR.out HB.out) HC.out A1.out).mono ?_); rintro e w102 ⟨rfl, hd_⟩; refine ⟨_, rfl, ?_⟩; have hb := hd_.below; clear hd_; have m_ := Aside0.mk (Kd.R_below HOout.out hb); clear HOout; have HOout := m_; clear m_; have n0_ := Aside0.mk (below_step HB.out hb); clear HB; have HB := n0_; clear n0_; clear hb))
  go_ret
  exact ⟨_, rfl, Kd.R_nil _ _ _ _ _, HB.out⟩
 | true =>
  rw [if_pos rfl] at h
  obtain ⟨q, h2, h⟩ := Option.bind_eq_some_iff.mp h
  have A2 := Aside0.mk h2
  have H' := Aside0.mk h
  clear h h2
  go_enter Try.func109, Try.ntmps109
  go_wp2_with (first | ((with_reducible refine gate_dst (N := 6) rfl ?_); refine Kd.R_lit (Kd.int .i64) _ 3 ?hg (N := 6) ?hd (xs := []) (inner := []) (ok := fun _ => True) (okp := fun _ => True) ?hr ?hp (fun _ hk => hk) trivial (Below.refl _ _) (Nat.le_refl _) (by simp) ?_; (case hd => rfl); (case hg => rfl); (case hr => first | (go_simp; done) | (go_simp; rfl)); (case hp => exact (Reps.none _ _)); intro vout w101 ho hb hg_ hnew_; clear hg_ hnew_; have Nout := Aside0.mk (Kd.R_lower ho (below_size HB.out)); have n0_ := Aside0.mk (below_step HB.out hb); clear HB; have HB := n0_; clear n0_; have HOout := Nout; clear Nout ho hb) | ((with_reducible refine gate_callee (f := 130) rfl ?_); refine Hof.gl (some 8) Try.func130 #[.slice A0 l0.length c0] ?_; (with_reducible refine (impl_areSets.calls k _ _ l0 true _ (Kd.C_below HR.out HB.out) HC.out A1.out).mono ?_); rintro e w102 ⟨rfl, hd_⟩; refine ⟨_, rfl, ?_⟩; have hb := hd_.below; clear hd_; have m_ := Aside0.mk (Kd.R_below HOout.out hb); clear HOout; have HOout := m_; clear m_; have n0_ := Aside0.mk (below_step HB.out hb); clear HB; have HB := n0_; clear n0_; clear hb) | ((with_reducible refine gate_callee (f := 131) rfl ?_); refine Hof.gl (some 11) Try.func131 #[.slice A0 l0.length c0] ?_; (with_reducible refine (impl_SortSets.calls _ _ l0 q _ (Kd.C_below HR.out HB.out) HC.out A2.out).mono ?_); rintro e w103 ⟨vq, rfl, ho0, hb⟩; refine ⟨_, rfl, ?_⟩; have Nq := Aside0.mk (Kd.R_lower (Kd.R_mono (ok' := fun k_ => w102.heap.size ≤ k_ ∧ k_ < w103.heap.size) (Kd.R_bound ho0) (fun _ hk => ⟨hk.2.1, hk.2.2.1⟩)) (below_size HB.out)); have m_ := Aside0.mk (Kd.R_mono (ok' := fun k_ => k_ < w102.heap.size ∨ w103.heap.size ≤ k_) (Kd.R_bound HOout.out) (fun _ hk => .inl hk.2.2.1)); clear HOout; have HOout := m_; clear m_; have HS := Aside0.mk hb.size; have m_ := Aside0.mk (Kd.R_below HOout.out hb); clear HOout; have HOout := m_; clear m_; have n0_ := Aside0.mk (below_step HB.out hb); clear HB; have HB := n0_; clear n0_; have HOq := Nq; clear Nq ho0; clear hb; obtain ⟨Aq, cq, eq_⟩ := Kd.R_slice HOq.out; subst eq_))
  obtain ⟨n1, hn1⟩ : ∃ n, n = w102.heap.size := ⟨_, rfl⟩
  obtain ⟨n2, hn2⟩ : ∃ n, n = w103.heap.size := ⟨_, rfl⟩
  have HN2 := Aside0.mk (Nat.le_of_eq hn2)
  have HSW := Aside0.mk (show n2 ≤ w103.heap.size from Nat.le_of_eq hn2)
  rw [← hn1, ← hn2] at HOout HOq
  clear hn1 hn2 HS HN2
  have HN2 : Aside0 (n2 ≤ n2) := ⟨Nat.le_refl _⟩
  go_loopg [3, 13] k (fun kq v3 v13 w' => ∃ (x3_1 : List Int) (x13_1 : Int), v13 = .int .i64 x13_1 ∧ Aside0 (impl_MaximalSets.l0 kq l0 q x3_1 x13_1 = some r) ∧ Aside0 (kq ≤ k) ∧ Aside0 (Kd.R (Kd.int .i64) 3 w' w.heap.size (fun k_ => k_ < n1 ∨ n2 ≤ k_) v3 x3_1) ∧ Aside0 (Kd.R (Kd.int .i64) 3 w' w.heap.size (fun k_ => n1 ≤ k_ ∧ k_ < n2) (.slice Aq q.length cq) q) ∧ Aside0 (n2 ≤ w'.heap.size) ∧ Aside0 (Below w.heap.size w w'))
  case atStart => exact ⟨[], 0, rfl, H', ⟨Nat.le_refl _⟩, HOout, HOq, HSW, HB⟩
  case round =>
   clear H' HOout HOq HSW HB
   obtain ⟨x3_1, x13_1, rfl, HA, HK1, HOout, HOq, HSW, HB⟩ := hrel
   cases gk with
   | zero => exact absurd HA.out (by simp [impl_MaximalSets.l0])
   | succ k1 =>
    have H := HA.out
    clear HA
    simp only [impl_MaximalSets.l0] at H
    by_cases c3 : x13_1 < (q.length : Int)
    case neg =>
     rw [if_neg c3] at H
     have c3b0 : decide (x13_1 < (q.length : Int)) = false := decide_eq_false c3
     clear c3
     obtain rfl := Option.some.inj H
     go_wp2
     go_ret
     exact ⟨_, rfl, Kd.R_mono HOout.out (fun _ _ => trivial), HB.out⟩
    rw [if_pos c3] at H
    have c3b0 := decide_eq_true c3
    clear c3
    by_cases c4 : 0 ≤ x13_1
    case neg => rw [if_neg c4] at H; exact absurd H (by simp)
    rw [if_pos c4] at H
    have c4b0 := decide_eq_true c4
    clear c4
    obtain ⟨aa, haa⟩ : ∃ j_ : Int, rd q x13_1 = j_ := ⟨_, rfl⟩
    rw [haa] at H
    obtain ⟨t, A40, H⟩ := Option.bind_eq_some_iff.mp H
    have A4 := Aside0.mk A40
    clear A40
    have p1 : 0 ≤ (x13_1 : Int) := of_decide_eq_true (by assumption)
    have q1 : x13_1 < (q.length : Int) := of_decide_eq_true (by assumption)
    obtain ⟨ad1, e1, hx1_0⟩ := Kd.at_int (Kd.R_reads' HOq.out).2.2 x13_1 p1 q1
    rw [haa] at hx1_0
    clear haa
    cases e1
    replace p1 := eq_true p1
    replace q1 := eq_true q1
    cases t with
    | true =>
     rw [if_pos rfl] at H
     have H' := Aside0.mk H
     clear H
     go_wp2_with (first | ((with_reducible refine gate_dst (N := 5) rfl ?_); refine Hof.bx 5 #[.int .i64 0] 3 ?_; intro gb5 hg w101 hbox hb; have GEgb5 := Aside0.mk ((by rw [hg]; exact below_size HB.out) : w.heap.size ≤ gb5); have HGgb5 := Aside0.mk hg; have HNgb5 := Aside0.mk hb; have BKgb5 := Aside0.mk hbox; clear hb hg hbox; have hczgb5_0 : w101.cell? ⟨gb5, 0, none⟩ = some (.int .i64 0) := (blk_cell BKgb5.out 0).trans rfl; have hfzgb5_0 := blk_frozen BKgb5.out 0) | ((with_reducible refine gate_store (t := 3) (p := 5) rfl ?_); refine store_event (t := 3) (p := 5) (v := ?vo1) (w1 := (w101.setCell ⟨gb5, 0, none⟩ (.int .i64 aa))) ?hg ?ho ?hn ?hr ?_; (case ho => rfl); (case hg => rfl); (case hn => rfl); (case hr => first | (go_simp; done) | (go_simp; rfl)); intro w102 hw; have hb := (show Below _ _ w102 from (by rw [hw]; exact below_set HNgb5.out (Nat.le_of_eq HGgb5.out.symm))); have m5 : Aside0 (w102.heap[gb5]? = some (.cells #[.int .i64 aa] 3 (0, 0))) := ⟨by rw [hw]; exact blk_put BKgb5.out 0 _ rfl⟩; clear BKgb5 hw hczgb5_0 hfzgb5_0; have m_ := Aside0.mk (Kd.R_below HOout.out hb); clear HOout; have HOout := m_; clear m_; have m_ := Aside0.mk (Kd.R_below HOq.out hb); clear HOq; have HOq := m_; clear m_; have m_ := Aside0.mk (Nat.le_trans HSW.out (hb).size); clear HSW; have HSW := m_; clear m_; have n0_ := Aside0.mk (below_step HB.out hb); clear HB; have HB := n0_; clear n0_; have BKgb5 := m5; clear m5 hb HNgb5 HGgb5; have hczgb5_0 : w102.cell? ⟨gb5, 0, none⟩ = some (.int .i64 aa) := (blk_cell BKgb5.out 0).trans rfl; have hfzgb5_0 := blk_frozen BKgb5.out 0) | ((with_reducible refine gate_callee (f := 132) rfl ?_); refine Hof.gl (some 19) Try.func132 #[.slice A0 l0.length c0, .func (.func 133) #[] #[.pointer (some ⟨gb5, 0, none⟩)]] ?_; (with_reducible refine (slices_ContainsFunc_int_int.calls k1 _ _ l0 _ (fun t => impl_MaximalSets_1.f aa t) true _ (Kd.C_below HR.out HB.out) (impl_MaximalSets_1.fun1 aa gb5 _ BKgb5.out) A4.out).mono ?_); rintro e w103 ⟨rfl, hb⟩; refine ⟨_, rfl, ?_⟩; clear hczgb5_0 hfzgb5_0; have m_ := Aside0.mk (blk_below BKgb5.out hb); clear BKgb5; have BKgb5 := m_; clear m_; have m_ := Aside0.mk (Kd.R_below HOout.out hb); clear HOout; have HOout := m_; clear m_; have m_ := Aside0.mk (Kd.R_below HOq.out hb); clear HOq; have HOq := m_; clear m_; have m_ := Aside0.mk (Nat.le_trans HSW.out (hb).size); clear HSW; have HSW := m_; clear m_; have n0_ := Aside0.mk (below_step HB.out hb); clear HB; have HB := n0_; clear n0_; clear hb; have hczgb5_0 : w103.cell? ⟨gb5, 0, none⟩ = some (.int .i64 aa) := (blk_cell BKgb5.out 0).trans rfl; have hfzgb5_0 := blk_frozen BKgb5.out 0))
     go_roundg k1
     case measure => have := HK1.out; omega
     case rel => exact ⟨x3_1, (wrap64 (x13_1 + 1)), rfl, H', ⟨by have := HK1.out; omega⟩, HOout, HOq, HSW, HB⟩
    | false =>
     rw [if_neg (by decide)] at H
     by_cases c7 : x3_1.length < 17592186044416
     case neg => rw [if_neg c7] at H; exact absurd H (by simp)
     rw [if_pos c7] at H
     have LM := Aside0.mk c7
     have H' := Aside0.mk H
     clear H c7
     go_wp2_with (first | ((with_reducible refine gate_dst (N := 5) rfl ?_); refine Hof.bx 5 #[.int .i64 0] 3 ?_; intro gb5 hg w101 hbox hb; have GEgb5 := Aside0.mk ((by rw [hg]; exact below_size HB.out) : w.heap.size ≤ gb5); have HGgb5 := Aside0.mk hg; have HNgb5 := Aside0.mk hb; have BKgb5 := Aside0.mk hbox; clear hb hg hbox; have hczgb5_0 : w101.cell? ⟨gb5, 0, none⟩ = some (.int .i64 0) := (blk_cell BKgb5.out 0).trans rfl; have hfzgb5_0 := blk_frozen BKgb5.out 0) | ((with_reducible refine gate_store (t := 3) (p := 5) rfl ?_); refine store_event (t := 3) (p := 5) (v := ?vo1) (w1 := (w101.setCell ⟨gb5, 0, none⟩ (.int .i64 aa))) ?hg ?ho ?hn ?hr ?_; (case ho => rfl); (case hg => rfl); (case hn => rfl); (case hr => first | (go_simp; done) | (go_simp; rfl)); intro w102 hw; have hb := (show Below _ _ w102 from (by rw [hw]; exact below_set HNgb5.out (Nat.le_of_eq HGgb5.out.symm))); have m5 : Aside0 (w102.heap[gb5]? = some (.cells #[.int .i64 aa] 3 (0, 0))) := ⟨by rw [hw]; exact blk_put BKgb5.out 0 _ rfl⟩; clear BKgb5 hw hczgb5_0 hfzgb5_0; have m_ := Aside0.mk (Kd.R_below HOout.out hb); clear HOout; have HOout := m_; clear m_; have m_ := Aside0.mk (Kd.R_below HOq.out hb); clear HOq; have HOq := m_; clear m_; have m_ := Aside0.mk (Nat.le_trans HSW.out (hb).size); clear HSW; have HSW := m_; clear m_; have n0_ := Aside0.mk (below_step HB.out hb); clear HB; have HB := n0_; clear n0_; have BKgb5 := m5; clear m5 hb HNgb5 HGgb5; have hczgb5_0 : w102.cell? ⟨gb5, 0, none⟩ = some (.int .i64 aa) := (blk_cell BKgb5.out 0).trans rfl; have hfzgb5_0 := blk_frozen BKgb5.out 0) | ((with_reducible refine gate_callee (f := 132) rfl ?_); refine Hof.gl (some 19) Try.func132 #[.slice A0 l0.length c0, .func (.func 133) #[] #[.pointer (some ⟨gb5, 0, none⟩)]] ?_; (with_reducible refine (slices_ContainsFunc_int_int.calls k1 _ _ l0 _ (fun t => impl_MaximalSets_1.f aa t) false _ (Kd.C_below HR.out HB.out) (impl_MaximalSets_1.fun1 aa gb5 _ BKgb5.out) A4.out).mono ?_); rintro e w103 ⟨rfl, hb⟩; refine ⟨_, rfl, ?_⟩; clear hczgb5_0 hfzgb5_0; have m_ := Aside0.mk (blk_below BKgb5.out hb); clear BKgb5; have BKgb5 := m_; clear m_; have m_ := Aside0.mk (Kd.R_below HOout.out hb); clear HOout; have HOout := m_; clear m_; have m_ := Aside0.mk (Kd.R_below HOq.out hb); clear HOq; have HOq := m_; clear m_; have m_ := Aside0.mk (Nat.le_trans HSW.out (hb).size); clear HSW; have HSW := m_; clear m_; have n0_ := Aside0.mk (below_step HB.out hb); clear HB; have HB := n0_; clear n0_; clear hb; have hczgb5_0 : w103.cell? ⟨gb5, 0, none⟩ = some (.int .i64 aa) := (blk_cell BKgb5.out 0).trans rfl; have hfzgb5_0 := blk_frozen BKgb5.out 0) | ((with_reducible refine gate_builtin (b := .append) (xs := #[.tmp 21, .tmp 23]) rfl ?_); at_builtin; refine Kd.R_append (Kd.int .i64) (w0 := w) w.heap.size rfl (.tmp 21) (.tmp 23) 24 3 (.int .i64 0) 8 rfl Try.underlying24 info3 rfl (by decide) (by omega) u3 x3_1 aa [.int .i64 aa] (fun k_ => k_ < n1 ∨ n2 ≤ k_) (fun _ => False) rfl rfl (by exact rfl) (fun _ hk => hk.elim) (by exact fun k_ hk_ => .inr (Nat.le_trans HN2.out (Nat.le_trans HSW.out hk_))) (by exact HOout.out) (by exact HB.out) (by exact below_size HB.out) (by have := LM.out; omega) ?_; intro v9 w99 ho hb hg hat; have n2_ := Aside0.mk (Kd.R_grown HOq.out hg (fun k_ hk_ e_ => by have := HOout.out.1 k_ e_.symm; omega)); have n0_ := Aside0.mk hb; have n1_ := Aside0.mk ho; have n3_ := Aside0.mk (Nat.le_trans HSW.out (Nat.le_trans (show _ ≤ _ from Nat.le_refl _) hg.size)); clear HB HOout HOq HSW; have HSW := n3_; have HB := n0_; have HOout := n1_; have HOq := n2_; clear n0_ n1_ n2_ n3_ ho hb hg hat))
     go_roundg k1
     case measure => have := HK1.out; omega
     case rel => exact ⟨_, (wrap64 (x13_1 + 1)), rfl, H', ⟨by have := HK1.out; omega⟩, HOout, HOq, HSW, HB⟩
def impl_fromIndependent.f (k : Nat) (a0 : Int) (l1 : List Int) : Option (Int × List Int × Bool) := (impl_MaximalSets.f k l1).bind fun t501 => ((impl_IsMatroid.f k a0 t501).bind fun t505 => (if t505 = true then (some (a0, t501, true)) else (some (0, ([] : List Int), false))))
set_option maxHeartbeats 8000000 in
set_option maxRecDepth 100000 in
theorem impl_fromIndependent.calls (k : Nat) (a0 : Int) (A1 : Option Addr) (c1 : Nat) (l1 : List Int) (r1 : Int) (r2 : List Int) (r3 : Bool) (w : World) (hr1 : Kd.C (Kd.int .i64) w A1 l1.length l1) (hc1 : l1.length ≤ c1) (h : impl_fromIndependent.f k a0 l1 = some (r1, r2, r3)) :
  Calls Try.prog 68 #[.int .i64 a0, .slice A1 l1.length c1] w fun e w' => ∃ v1_ : Value, e = .returned (.tuple #[.agg #[.int .i64 r1, v1_], .bool r3]) ∧ Kd.R (Kd.int .i64) 3 w' w.heap.size (fun _ => True) v1_ r2 ∧ Below w.heap.size w w' := by
 have hu35 := Try.underlying35
 have HR1 := Aside0.mk hr1
 have HC1 := Aside0.mk hc1
 clear hr1 hc1
 have HB := Aside0.mk (Below.refl w.heap.size w)
 unfold impl_fromIndependent.f at h
 have H := h
 clear h
 obtain ⟨t501, A3, H⟩ := Hof.be H
 (try dsimp only at H)
 obtain ⟨t505, A4, H⟩ := Hof.be H
 (try dsimp only at H)
 by_cases c5 : t505 = true
 ·subst c5
  replace H : (some (a0, t501, true)) = some (r1, r2, r3) := by rw [if_pos rfl] at H; exact H
  simp only [Option.some.injEq, Prod.mk.injEq] at H
  obtain ⟨rfl, rfl, rfl⟩ := H
  go_enter Try.func68, Try.ntmps68
  go_wp2_with (first | (refine Hof.bx 4 #[.int .i64 0, .slice none 0 0] 35 ?_; intro gb500 hg w6 hbox hb; have BK500 := Aside0.mk hbox; have GW500 := Hof.gw hg HB; have GE500 := Hof.gw hg HB; replace HB := Hof.lb HB hb; clear hb hbox hg) | (refine Hof.gl (some 9) Try.func109 #[.slice A1 l1.length c1] ?_; (with_reducible refine (impl_MaximalSets.calls k _ _ l1 t501 _ ?side1 ?side2 A3.out).mono ?_); (case side1 => exact Hof.Cw (Kd.C_below HR1.out HB.out)); (case side2 => exact HC1.out); rintro e w7 ⟨v502, rfl, ho0, hb⟩; refine ⟨_, rfl, ?_⟩; have HO503 := Aside0.mk (Kd.R_lower ho0 (below_size Hof.L)); replace BK500 := Hof.bb BK500 hb; replace HB := Aside0.mk (below_step Hof.L hb); (try clear hb); (try clear hb2); (try clear hk); (try clear hi); (try clear ho0); obtain ⟨Ao8, co8, eo8⟩ := Kd.R_slice HO503.out; subst eo8) | (refine Hof.bx 6 #[.int .i64 0, .slice none 0 0] 35 ?_; intro gb504 hg w9 hbox hb; replace HO503 := Hof.rb HO503 hb; have BK504 := Aside0.mk hbox; have GW504 := Hof.gL (w := w) hg Hof.L; have GE504 := Hof.gL (w := w) hg Hof.L; replace HB := Aside0.mk (below_step Hof.L hb); have NB500_504 := Hof.nl hg BK500; have NB504_500 := Hof.ng hg BK500; replace BK500 := Hof.bb BK500 hb; clear hb hbox hg; have hnb10 := NB504_500.out; have hnc10 := NB500_504.out; obtain ⟨hcz11_0, hcz11_1, hfz11_0, hfz11_1⟩ := Hof.blk2 BK504.out) | (refine Hof.gl (some 12) Try.func81 #[.agg #[.int .i64 a0, .slice Ao8 t501.length co8]] ?_; (with_reducible refine (impl_IsMatroid.calls k a0 _ _ t501 true _ ?side1 ?side2 A4.out).mono ?_); (case side1 => refine (Kd.R_reads' (e := 3) (base := w.heap.size) (ok := fun k_ => True) (n := t501.length) (c := co8) ?_).2.2; exact (Hof.Rw ((Kd.R_mono (Kd.R_far (p := ⟨gb504, 1, none⟩) (Kd.R_far (p := ⟨gb504, 0, none⟩) (Kd.R_types HO503.out BK504.out (by decide)) (fun _ hk => hk.2) (.int .i64 a0)) (fun _ hk => hk.2) (.slice Ao8 t501.length co8)) (fun _ h_ => h_.1))))); (case side2 => exact (Kd.R_reads' HO503.out).2.1); rintro e w12 ⟨rfl, hb⟩; refine ⟨_, rfl, ?_⟩; replace HO503 := Aside0.mk (Kd.R_below (Hof.Rw ((Kd.R_mono (Kd.R_far (p := ⟨gb504, 1, none⟩) (Kd.R_far (p := ⟨gb504, 0, none⟩) (Kd.R_types HO503.out BK504.out (by decide)) (fun _ hk => hk.2) (.int .i64 a0)) (fun _ hk => hk.2) (.slice Ao8 t501.length co8)) (fun _ h_ => h_.1)))) hb); replace BK500 := Aside0.mk (blk_below (g := gb500) (o := .cells #[.int .i64 0, .slice none 0 0] 35 (0, 0)) Hof.B hb); replace BK504 := Aside0.mk (blk_below (g := gb504) (o := .cells #[.int .i64 a0, .slice Ao8 t501.length co8] 35 (0, 0)) Hof.B hb); replace HB := Aside0.mk (below_step Hof.L hb); (try clear hb); (try clear hb2); (try clear hk); (try clear hi); obtain ⟨hcz13_0, hcz13_1, hfz13_0, hfz13_1⟩ := Hof.blk2 BK504.out; obtain ⟨hcz14_0, hcz14_1, hfz14_0, hfz14_1⟩ := Hof.blk2 BK500.out))
  refine bodyPost_ret (results_ct rfl _ _ gb500 35 #[.int .i64 a0, .slice Ao8 t501.length co8] (0, 0) _ rfl Hof.B Try.underlying35 rfl (by kernel_rfl)) rfl ?_
  exact ⟨_, Hof.E, by (with_reducible repeat (first | apply Kd.R_alloc | apply Kd.R_drewN | apply Kd.R_drew)); exact Kd.R_mono (Kd.R_far (p := ⟨gb500, 1, none⟩) (Kd.R_far (p := ⟨gb500, 0, none⟩) (Kd.R_types HO503.out BK500.out (by decide)) (fun _ hk => hk.2) (.int .i64 a0)) (fun _ hk => hk.2) (.slice Ao8 t501.length co8)) (fun _ hk => trivial), Hof.L⟩
 ·replace c5 := Bool.eq_false_iff.mpr c5
  subst c5
  replace H : (some (0, ([] : List Int), false)) = some (r1, r2, r3) := by rw [if_neg (show ¬ (false = true) by decide)] at H; exact H
  simp only [Option.some.injEq, Prod.mk.injEq] at H
  obtain ⟨rfl, rfl, rfl⟩ := H
  go_enter Try.func68, Try.ntmps68
  go_wp2_with (first | (refine Hof.bx 4 #[.int .i64 0, .slice none 0 0] 35 ?_; intro gb500 hg w15 hbox hb; have BK500 := Aside0.mk hbox; have GW500 := Hof.gw hg HB; have GE500 := Hof.gw hg HB; replace HB := Hof.lb HB hb; clear hb hbox hg) | (refine Hof.gl (some 9) Try.func109 #[.slice A1 l1.length c1] ?_; (with_reducible refine (impl_MaximalSets.calls k _ _ l1 t501 _ ?side1 ?side2 A3.out).mono ?_); (case side1 => exact Hof.Cw (Kd.C_below HR1.out HB.out)); (case side2 => exact HC1.out); rintro e w16 ⟨v502, rfl, ho0, hb⟩; refine ⟨_, rfl, ?_⟩; have HO503 := Aside0.mk (Kd.R_lower ho0 (below_size Hof.L)); replace BK500 := Hof.bb BK500 hb; replace HB := Aside0.mk (below_step Hof.L hb); (try clear hb); (try clear hb2); (try clear hk); (try clear hi); (try clear ho0); obtain ⟨Ao17, co17, eo17⟩ := Kd.R_slice HO503.out; subst eo17) | (refine Hof.bx 6 #[.int .i64 0, .slice none 0 0] 35 ?_; intro gb504 hg w18 hbox hb; replace HO503 := Hof.rb HO503 hb; have BK504 := Aside0.mk hbox; have GW504 := Hof.gL (w := w) hg Hof.L; have GE504 := Hof.gL (w := w) hg Hof.L; replace HB := Aside0.mk (below_step Hof.L hb); have NB500_504 := Hof.nl hg BK500; have NB504_500 := Hof.ng hg BK500; replace BK500 := Hof.bb BK500 hb; clear hb hbox hg; have hnb19 := NB504_500.out; have hnc19 := NB500_504.out; obtain ⟨hcz20_0, hcz20_1, hfz20_0, hfz20_1⟩ := Hof.blk2 BK504.out) | (refine Hof.gl (some 12) Try.func81 #[.agg #[.int .i64 a0, .slice Ao17 t501.length co17]] ?_; (with_reducible refine (impl_IsMatroid.calls k a0 _ _ t501 false _ ?side1 ?side2 A4.out).mono ?_); (case side1 => refine (Kd.R_reads' (e := 3) (base := w.heap.size) (ok := fun k_ => True) (n := t501.length) (c := co17) ?_).2.2; exact (Hof.Rw ((Kd.R_mono (Kd.R_far (p := ⟨gb504, 1, none⟩) (Kd.R_far (p := ⟨gb504, 0, none⟩) (Kd.R_types HO503.out BK504.out (by decide)) (fun _ hk => hk.2) (.int .i64 a0)) (fun _ hk => hk.2) (.slice Ao17 t501.length co17)) (fun _ h_ => h_.1))))); (case side2 => exact (Kd.R_reads' HO503.out).2.1); rintro e w21 ⟨rfl, hb⟩; refine ⟨_, rfl, ?_⟩; replace HO503 := Aside0.mk (Kd.R_below (Hof.Rw ((Kd.R_mono (Kd.R_far (p := ⟨gb504, 1, none⟩) (Kd.R_far (p := ⟨gb504, 0, none⟩) (Kd.R_types HO503.out BK504.out (by decide)) (fun _ hk => hk.2) (.int .i64 a0)) (fun _ hk => hk.2) (.slice Ao17 t501.length co17)) (fun _ h_ => h_.1)))) hb); replace BK500 := Aside0.mk (blk_below (g := gb500) (o := .cells #[.int .i64 0, .slice none 0 0] 35 (0, 0)) Hof.B hb); replace BK504 := Aside0.mk (blk_below (g := gb504) (o := .cells #[.int .i64 a0, .slice Ao17 t501.length co17] 35 (0, 0)) Hof.B hb); replace HB := Aside0.mk (below_step Hof.L hb); (try clear hb); (try clear hb2); (try clear hk); (try clear hi); obtain ⟨hcz22_0, hcz22_1, hfz22_0, hfz22_1⟩ := Hof.blk2 BK500.out))
  refine bodyPost_ret (results_ct rfl _ _ gb500 35 #[.int .i64 0, .slice none 0 0] (0, 0) _ rfl Hof.B Try.underlying35 rfl (by kernel_rfl)) rfl ?_
  exact ⟨_, Hof.E, Hof.N, Hof.L⟩
def impl_FullSet.f (a0 : Int) : Option (Int) := (impl_isSize.f a0).bind fun t506 => (if t506 = true then (if 0 ≤ a0 then (some (wrap64 ((shl .i64 1 a0) - 1))) else (none)) else (some 0))
set_option maxHeartbeats 8000000 in
set_option maxRecDepth 100000 in
theorem impl_FullSet.calls (a0 : Int) (r : Int) (w : World) (h : impl_FullSet.f a0 = some r) :
  Calls Try.prog 99 #[.int .i64 a0] w fun e w' => e = .returned (.int .i64 r) ∧ Drawn0 w w' := by
 unfold impl_FullSet.f at h
 have H := h
 clear h
 obtain ⟨t506, A2, H⟩ := Hof.be H
 (try dsimp only at H)
 by_cases c3 : t506 = true
 ·subst c3
  replace H : (if 0 ≤ a0 then (some (wrap64 ((shl .i64 1 a0) - 1))) else (none)) = some r := by rw [if_pos rfl] at H; exact H
  by_cases c4 : 0 ≤ a0
  ·rw [if_pos c4] at H
   have c4b0 := eq_true c4
   have c4b1 : decide (0 ≤ a0) = true := decide_eq_true c4
   clear c4
   obtain ⟨ji5, hji5⟩ : ∃ j_ : Int, (shl .i64 1 a0) = j_ := ⟨_, rfl⟩
   replace H : (some (wrap64 ((ji5) - 1))) = some r := by first | (rw [hji5] at H; exact H) | (simp only [hji5] at H ⊢; exact H)
   (try rw [hji5] at A2)
   have hji5_ : (IntKind.i64.wrap (1 * 2 ^ min a0.toNat 64)) = ji5 := hji5
   have hji5z : a0 ≤ 64 → (IntKind.i64.wrap (1 * 2 ^ a0.toNat)) = ji5 := shl_small hji5
   have hji5u : (IntKind.i64.wrap (2 ^ min a0.toNat 64)) = ji5 := by have h_ := hji5_; rw [Int.one_mul] at h_; exact h_
   have hji5v : a0 ≤ 64 → (IntKind.i64.wrap (2 ^ a0.toNat)) = ji5 := fun hle_ => by have h_ := hji5z hle_; rw [Int.one_mul] at h_; exact h_
   have hji5y : (wrap64 (1 * 2 ^ min a0.toNat 64)) = ji5 := (i64_w _).symm.trans hji5_
   have hji5x : a0 ≤ 64 → (wrap64 (1 * 2 ^ a0.toNat)) = ji5 := fun h_ => (i64_w _).symm.trans (hji5z h_)
   obtain rfl := Option.some.inj H
   go_enter Try.func99, Try.ntmps99
   go_wp2_with (first | (refine Hof.gl (some 4) Try.func105 #[.int .i64 a0] ?_; (with_reducible refine (impl_isSize.calls a0 true _ A2.out).mono ?_); rintro e w' ⟨rfl, ⟨nd, rfl⟩⟩; refine ⟨_, rfl, ?_⟩))
   go_ret
   exact ⟨by first | rfl | (simp; done) | (simp only [← hji5] <;> (first | rfl | simp)) | (simp [*]; done), Hof.G⟩
  ·rw [if_neg c4] at H
   exact absurd H (by simp)
 ·replace c3 := Bool.eq_false_iff.mpr c3
  subst c3
  replace H : (some 0) = some r := by rw [if_neg (show ¬ (false = true) by decide)] at H; exact H
  obtain rfl := Option.some.inj H
  go_enter Try.func99, Try.ntmps99
  go_wp2_with (first | (refine Hof.gl (some 4) Try.func105 #[.int .i64 a0] ?_; (with_reducible refine (impl_isSize.calls a0 false _ A2.out).mono ?_); rintro e w' ⟨rfl, ⟨nd, rfl⟩⟩; refine ⟨_, rfl, ?_⟩))
  go_ret
  exact ⟨Hof.F, Hof.G⟩
def impl_setsOf.l0 (g : Int → Option Bool) : Nat → Int → List Int → Int → Option (List Int)
 | 0, _, _, _ => none
 | k + 1, x0, x5, x6 => (impl_FullSet.f x0).bind fun t => (if x6 ≤ t then ((g x6).bind fun b => (if b = true then (if x5.length < 17592186044416 then (impl_setsOf.l0 g k x0 (x5 ++ [x6]) (wrap64 (x6 + 1))) else (none)) else (impl_setsOf.l0 g k x0 x5 (wrap64 (x6 + 1))))) else (some x5))
def impl_setsOf.f (k : Nat) (a0 : Int) (g : Int → Option Bool) : Option (List Int) := impl_setsOf.l0 g k a0 [] 0
set_option maxHeartbeats 8000000 in
set_option maxRecDepth 100000 in
theorem impl_setsOf.calls (k : Nat) (a0 : Int) (fv : Value) (g : Int → Option Bool) (r : List Int) (w : World) (hF : Hof.Fun1 Try.prog w fv g) (h : impl_setsOf.f k a0 g = some r) :
  Calls Try.prog 69 #[.int .i64 a0, fv] w fun e w' => ∃ v0_ : Value, e = .returned (v0_) ∧ Kd.R (Kd.int .i64) 3 w' w.heap.size (fun _ => True) v0_ r ∧ Below w.heap.size w w' := by
 have HB := Aside0.mk (Below.refl w.heap.size w)
 obtain ⟨y124, hy124⟩ : ∃ y_ : List Int, y_ = (([] : List Int)) := ⟨_, rfl⟩
 have H : (impl_setsOf.l0 g k a0 y124 0) = some r := by rw [hy124]; exact h
 clear h
 have Ny124 := Aside0.mk hy124
 clear hy124
 have H' := Aside0.mk H
 clear H
 go_enter Try.func69, Try.ntmps69
 go_wp2_with (first | (refine Hof.lt (Kd.int .i64) 3 7 ?_; intro v125 w2 ho3 hb hg_ hnew_; clear hg_ hnew_; rw [← Ny124.out] at ho3; have n0_ := Aside0.mk (Kd.R_lower ho3 (below_size HB.out)); have n1_ := Aside0.mk (below_step HB.out hb); clear HB; have HO126 := n0_; have HB := n1_; clear n0_ n1_; clear hb ho3))
 go_loopg [5, 6] k (fun kq v5 v6 w' => ∃ (x5_1 : List Int) (x6_1 : Int), v6 = .int .i64 x6_1 ∧ Aside0 (impl_setsOf.l0 g kq a0 x5_1 x6_1 = some r) ∧ Aside0 (kq ≤ k) ∧ Aside0 (Kd.R (Kd.int .i64) 3 w' w.heap.size (fun _ => True) v5 x5_1) ∧ Aside0 (Below w.heap.size w w'))
 case atStart => exact ⟨y124, 0, rfl, H', ⟨Nat.le_refl _⟩, HO126, HB⟩
 case round =>
  clear H'
  try clear HB
  try clear HO126
  obtain ⟨x5_1, x6_1, rfl, HA, HK1, HO_3, HB⟩ := hrel
  cases gk with
  | zero => exact absurd HA.out (by simp [impl_setsOf.l0])
  | succ k1 =>
   have H := HA.out
   clear HA
   simp only [impl_setsOf.l0] at H
   obtain ⟨t, A40, H⟩ := Option.bind_eq_some_iff.mp H
   have A4 := Aside0.mk A40
   clear A40
   by_cases c4 : x6_1 ≤ t
   ·rw [if_pos c4] at H
    have c4b0 := decide_eq_true c4
    clear c4
    obtain ⟨t127, A50, H⟩ := Option.bind_eq_some_iff.mp H
    have A5 := Aside0.mk A50
    clear A50
    by_cases c6 : t127 = true
    ·subst c6
     replace H : (if x5_1.length < 17592186044416 then (impl_setsOf.l0 g k1 a0 (x5_1 ++ [x6_1]) (wrap64 (x6_1 + 1))) else (none)) = some r := by rw [if_pos rfl] at H; exact H
     by_cases c7 : x5_1.length < 17592186044416
     ·rw [if_pos c7] at H
      have LMc7 := Aside0.mk c7
      clear c7
      obtain ⟨y128, hy128⟩ : ∃ y_ : List Int, y_ = (x5_1 ++ [x6_1]) := ⟨_, rfl⟩
      replace H : (impl_setsOf.l0 g k1 a0 y128 (wrap64 (x6_1 + 1))) = some r := by rw [hy128]; exact H
      have Ny128 := Aside0.mk hy128
      clear hy128
      have H' := Aside0.mk H
      clear H
      go_wp2_with (first | (refine Hof.gl (some 10) Try.func99 #[.int .i64 a0] ?_; (with_reducible refine (impl_FullSet.calls a0 t _ A4.out).mono ?_); rintro e w' ⟨rfl, hd⟩; refine ⟨_, rfl, ?_⟩; have n1_ := Aside0.mk (below_step HB.out hd.below); have n0_ := Aside0.mk (Kd.R_below HO_3.out hd.below); clear HB HO_3 hd; have HB := n1_; have HO_3 := n0_; clear n0_ n1_) | ((with_reducible refine gate_dst (N := 16) rfl ?_); refine Hof.goesF_ (some 16) rfl rfl 14 rfl hF A5.out HB.out rfl (by (try simp only [List.map_toArray, List.map_cons, List.map_nil]); first | done | rfl) ?_; intro w5 hb; have n1_ := Aside0.mk (below_step HB.out hb); have n0_ := Aside0.mk (Kd.R_below HO_3.out hb); clear HB HO_3 hb; have HB := n1_; have HO_3 := n0_; clear n0_ n1_) | ((with_reducible refine gate_builtin (b := .append) (xs := #[.tmp 17, .tmp 19]) rfl ?_); at_builtin; refine Kd.R_append (Kd.int .i64) (w0 := w) w.heap.size rfl (.tmp 17) (.tmp 19) 24 3 (.int .i64 0) 8 rfl Try.underlying24 info3 rfl (by decide) (by omega) u5 x5_1 x6_1 [.int .i64 x6_1] (fun _ => True) (fun _ => False) rfl rfl (by exact rfl) (fun _ hk => hk.elim) (by exact fun _ _ => trivial) (by exact by (with_reducible repeat (first | apply Kd.R_alloc | apply Kd.R_drewN | apply Kd.R_drew)); exact HO_3.out) (by exact Hof.L) (by exact below_size Hof.L) (by have := LMc7.out; omega) ?_; intro v129 w8 ho hb hg hat; rw [← Ny128.out] at ho; have n0_ := Aside0.mk (hb); have n1_ := Aside0.mk (ho); clear HB; clear HO_3; have HB := n0_; have HO130 := n1_; clear n0_ n1_; clear ho hb hg hat))
      go_roundg k1
      case measure => have := HK1.out; omega
      case rel => exact ⟨(y128), (wrap64 (x6_1 + 1)), rfl, H', ⟨by have := HK1.out; omega⟩, HO130, HB⟩
     ·rw [if_neg c7] at H
      exact absurd H (by simp)
    ·replace c6 := Bool.eq_false_iff.mpr c6
     subst c6
     have H1 : (impl_setsOf.l0 g k1 a0 x5_1 (wrap64 (x6_1 + 1))) = some r := by rw [if_neg (show ¬ (false = true) by decide)] at H; exact H
     clear H
     have H' := Aside0.mk H1
     clear H1
     go_wp2_with (first | (refine Hof.gl (some 10) Try.func99 #[.int .i64 a0] ?_; (with_reducible refine (impl_FullSet.calls a0 t _ A4.out).mono ?_); rintro e w' ⟨rfl, hd⟩; refine ⟨_, rfl, ?_⟩; have n1_ := Aside0.mk (below_step HB.out hd.below); have n0_ := Aside0.mk (Kd.R_below HO_3.out hd.below); clear HB HO_3 hd; have HB := n1_; have HO_3 := n0_; clear n0_ n1_) | ((with_reducible refine gate_dst (N := 16) rfl ?_); refine Hof.goesF_ (some 16) rfl rfl 14 rfl hF A5.out HB.out rfl (by (try simp only [List.map_toArray, List.map_cons, List.map_nil]); first | done | rfl) ?_; intro w5 hb; have n1_ := Aside0.mk (below_step HB.out hb); have n0_ := Aside0.mk (Kd.R_below HO_3.out hb); clear HB HO_3 hb; have HB := n1_; have HO_3 := n0_; clear n0_ n1_))
     go_roundg k1
     case measure => have := HK1.out; omega
     case rel => exact ⟨x5_1, (wrap64 (x6_1 + 1)), rfl, H', ⟨by have := HK1.out; omega⟩, HO_3, HB⟩
   ·rw [if_neg c4] at H
    have c4b0 : decide (x6_1 ≤ t) = false := decide_eq_false c4
    clear c4
    obtain rfl := Option.some.inj H
    go_wp2_with (first | (refine Hof.gl (some 10) Try.func99 #[.int .i64 a0] ?_; (with_reducible refine (impl_FullSet.calls a0 t _ A4.out).mono ?_); rintro e w' ⟨rfl, hd⟩; refine ⟨_, rfl, ?_⟩; have n1_ := Aside0.mk (below_step HB.out hd.below); have n0_ := Aside0.mk (Kd.R_below HO_3.out hd.below); clear HB HO_3 hd; have HB := n1_; have HO_3 := n0_; clear n0_ n1_))
    go_ret
    exact ⟨_, rfl, HO_3.out, HB.out⟩
def bits_OnesCount64.f (a0 : Int) : Option (Int) := some (Go.bits .and .i64 (wrap64 (IntKind.u64.wrap ((IntKind.u64.wrap ((IntKind.u64.wrap ((Go.bits .and .u64 (IntKind.u64.wrap (((IntKind.u64.wrap ((Go.bits .and .u64 ((IntKind.u64.wrap ((Go.bits .and .u64 (a0 / 2) 6148914691236517205) + (Go.bits .and .u64 a0 6148914691236517205))) / 4) 3689348814741910323) + (Go.bits .and .u64 (IntKind.u64.wrap ((Go.bits .and .u64 (a0 / 2) 6148914691236517205) + (Go.bits .and .u64 a0 6148914691236517205))) 3689348814741910323))) / 16) + (IntKind.u64.wrap ((Go.bits .and .u64 ((IntKind.u64.wrap ((Go.bits .and .u64 (a0 / 2) 6148914691236517205) + (Go.bits .and .u64 a0 6148914691236517205))) / 4) 3689348814741910323) + (Go.bits .and .u64 (IntKind.u64.wrap ((Go.bits .and .u64 (a0 / 2) 6148914691236517205) + (Go.bits .and .u64 a0 6148914691236517205))) 3689348814741910323))))) 1085102592571150095) + ((Go.bits .and .u64 (IntKind.u64.wrap (((IntKind.u64.wrap ((Go.bits .and .u64 ((IntKind.u64.wrap ((Go.bits .and .u64 (a0 / 2) 6148914691236517205) + (Go.bits .and .u64 a0 6148914691236517205))) / 4) 3689348814741910323) + (Go.bits .and .u64 (IntKind.u64.wrap ((Go.bits .and .u64 (a0 / 2) 6148914691236517205) + (Go.bits .and .u64 a0 6148914691236517205))) 3689348814741910323))) / 16) + (IntKind.u64.wrap ((Go.bits .and .u64 ((IntKind.u64.wrap ((Go.bits .and .u64 (a0 / 2) 6148914691236517205) + (Go.bits .and .u64 a0 6148914691236517205))) / 4) 3689348814741910323) + (Go.bits .and .u64 (IntKind.u64.wrap ((Go.bits .and .u64 (a0 / 2) 6148914691236517205) + (Go.bits .and .u64 a0 6148914691236517205))) 3689348814741910323))))) 1085102592571150095) / 256))) + ((IntKind.u64.wrap ((Go.bits .and .u64 (IntKind.u64.wrap (((IntKind.u64.wrap ((Go.bits .and .u64 ((IntKind.u64.wrap ((Go.bits .and .u64 (a0 / 2) 6148914691236517205) + (Go.bits .and .u64 a0 6148914691236517205))) / 4) 3689348814741910323) + (Go.bits .and .u64 (IntKind.u64.wrap ((Go.bits .and .u64 (a0 / 2) 6148914691236517205) + (Go.bits .and .u64 a0 6148914691236517205))) 3689348814741910323))) / 16) + (IntKind.u64.wrap ((Go.bits .and .u64 ((IntKind.u64.wrap ((Go.bits .and .u64 (a0 / 2) 6148914691236517205) + (Go.bits .and .u64 a0 6148914691236517205))) / 4) 3689348814741910323) + (Go.bits .and .u64 (IntKind.u64.wrap ((Go.bits .and .u64 (a0 / 2) 6148914691236517205) + (Go.bits .and .u64 a0 6148914691236517205))) 3689348814741910323))))) 1085102592571150095) + ((Go.bits .and .u64 (IntKind.u64.wrap (((IntKind.u64.wrap ((Go.bits .and .u64 ((IntKind.u64.wrap ((Go.bits .and .u64 (a0 / 2) 6148914691236517205) + (Go.bits .and .u64 a0 6148914691236517205))) / 4) 3689348814741910323) + (Go.bits .and .u64 (IntKind.u64.wrap ((Go.bits .and .u64 (a0 / 2) 6148914691236517205) + (Go.bits .and .u64 a0 6148914691236517205))) 3689348814741910323))) / 16) + (IntKind.u64.wrap ((Go.bits .and .u64 ((IntKind.u64.wrap ((Go.bits .and .u64 (a0 / 2) 6148914691236517205) + (Go.bits .and .u64 a0 6148914691236517205))) / 4) 3689348814741910323) + (Go.bits .and .u64 (IntKind.u64.wrap ((Go.bits .and .u64 (a0 / 2) 6148914691236517205) + (Go.bits .and .u64 a0 6148914691236517205))) 3689348814741910323))))) 1085102592571150095) / 256))) / 65536))) + ((IntKind.u64.wrap ((IntKind.u64.wrap ((Go.bits .and .u64 (IntKind.u64.wrap (((IntKind.u64.wrap ((Go.bits .and .u64 ((IntKind.u64.wrap ((Go.bits .and .u64 (a0 / 2) 6148914691236517205) + (Go.bits .and .u64 a0 6148914691236517205))) / 4) 3689348814741910323) + (Go.bits .and .u64 (IntKind.u64.wrap ((Go.bits .and .u64 (a0 / 2) 6148914691236517205) + (Go.bits .and .u64 a0 6148914691236517205))) 3689348814741910323))) / 16) + (IntKind.u64.wrap ((Go.bits .and .u64 ((IntKind.u64.wrap ((Go.bits .and .u64 (a0 / 2) 6148914691236517205) + (Go.bits .and .u64 a0 6148914691236517205))) / 4) 3689348814741910323) + (Go.bits .and .u64 (IntKind.u64.wrap ((Go.bits .and .u64 (a0 / 2) 6148914691236517205) + (Go.bits .and .u64 a0 6148914691236517205))) 3689348814741910323))))) 1085102592571150095) + ((Go.bits .and .u64 (IntKind.u64.wrap (((IntKind.u64.wrap ((Go.bits .and .u64 ((IntKind.u64.wrap ((Go.bits .and .u64 (a0 / 2) 6148914691236517205) + (Go.bits .and .u64 a0 6148914691236517205))) / 4) 3689348814741910323) + (Go.bits .and .u64 (IntKind.u64.wrap ((Go.bits .and .u64 (a0 / 2) 6148914691236517205) + (Go.bits .and .u64 a0 6148914691236517205))) 3689348814741910323))) / 16) + (IntKind.u64.wrap ((Go.bits .and .u64 ((IntKind.u64.wrap ((Go.bits .and .u64 (a0 / 2) 6148914691236517205) + (Go.bits .and .u64 a0 6148914691236517205))) / 4) 3689348814741910323) + (Go.bits .and .u64 (IntKind.u64.wrap ((Go.bits .and .u64 (a0 / 2) 6148914691236517205) + (Go.bits .and .u64 a0 6148914691236517205))) 3689348814741910323))))) 1085102592571150095) / 256))) + ((IntKind.u64.wrap ((Go.bits .and .u64 (IntKind.u64.wrap (((IntKind.u64.wrap ((Go.bits .and .u64 ((IntKind.u64.wrap ((Go.bits .and .u64 (a0 / 2) 6148914691236517205) + (Go.bits .and .u64 a0 6148914691236517205))) / 4) 3689348814741910323) + (Go.bits .and .u64 (IntKind.u64.wrap ((Go.bits .and .u64 (a0 / 2) 6148914691236517205) + (Go.bits .and .u64 a0 6148914691236517205))) 3689348814741910323))) / 16) + (IntKind.u64.wrap ((Go.bits .and .u64 ((IntKind.u64.wrap ((Go.bits .and .u64 (a0 / 2) 6148914691236517205) + (Go.bits .and .u64 a0 6148914691236517205))) / 4) 3689348814741910323) + (Go.bits .and .u64 (IntKind.u64.wrap ((Go.bits .and .u64 (a0 / 2) 6148914691236517205) + (Go.bits .and .u64 a0 6148914691236517205))) 3689348814741910323))))) 1085102592571150095) + ((Go.bits .and .u64 (IntKind.u64.wrap (((IntKind.u64.wrap ((Go.bits .and .u64 ((IntKind.u64.wrap ((Go.bits .and .u64 (a0 / 2) 6148914691236517205) + (Go.bits .and .u64 a0 6148914691236517205))) / 4) 3689348814741910323) + (Go.bits .and .u64 (IntKind.u64.wrap ((Go.bits .and .u64 (a0 / 2) 6148914691236517205) + (Go.bits .and .u64 a0 6148914691236517205))) 3689348814741910323))) / 16) + (IntKind.u64.wrap ((Go.bits .and .u64 ((IntKind.u64.wrap ((Go.bits .and .u64 (a0 / 2) 6148914691236517205) + (Go.bits .and .u64 a0 6148914691236517205))) / 4) 3689348814741910323) + (Go.bits .and .u64 (IntKind.u64.wrap ((Go.bits .and .u64 (a0 / 2) 6148914691236517205) + (Go.bits .and .u64 a0 6148914691236517205))) 3689348814741910323))))) 1085102592571150095) / 256))) / 65536))) / 4294967296)))) 127)
set_option maxHeartbeats 8000000 in
set_option maxRecDepth 100000 in
theorem bits_OnesCount64.calls (a0 : Int) (r : Int) (w : World) (h : bits_OnesCount64.f a0 = some r) :
  Calls Try.prog 152 #[.int .u64 a0] w fun e w' => e = .returned (.int .i64 r) ∧ Drawn0 w w' := by
 unfold bits_OnesCount64.f at h
 have H := h
 clear h
 obtain rfl := Option.some.inj H
 go_enter Try.func152, Try.ntmps152
 go_wp2
 go_ret
 exact ⟨Hof.F, Hof.G⟩
def bits_OnesCount.f (a0 : Int) : Option (Int) := (bits_OnesCount64.f a0).bind fun t589 => (some t589)
set_option maxHeartbeats 8000000 in
set_option maxRecDepth 100000 in
theorem bits_OnesCount.calls (a0 : Int) (r : Int) (w : World) (h : bits_OnesCount.f a0 = some r) :
  Calls Try.prog 127 #[.int .u64 a0] w fun e w' => e = .returned (.int .i64 r) ∧ Drawn0 w w' := by
 unfold bits_OnesCount.f at h
 have H := h
 clear h
 obtain ⟨t589, A2, H⟩ := Hof.be H
 (try dsimp only at H)
 obtain rfl := Option.some.inj H
 go_enter Try.func127, Try.ntmps127
 go_wp2_with (first | (refine Hof.gl (some 7) Try.func152 #[.int .u64 a0] ?_; (with_reducible refine (bits_OnesCount64.calls a0 t589 _ A2.out).mono ?_); rintro e w' ⟨rfl, ⟨nd, rfl⟩⟩; refine ⟨_, rfl, ?_⟩))
 go_ret
 exact ⟨Hof.F, Hof.G⟩
def impl_CountOf.f (a0 : Int) : Option (Int) := (impl_isAny.f a0).bind fun t590 => (if t590 = true then ((bits_OnesCount.f (IntKind.u64.wrap (a0))).bind fun t591 => (some t591)) else (some 0))
set_option maxHeartbeats 8000000 in
set_option maxRecDepth 100000 in
theorem impl_CountOf.calls (a0 : Int) (r : Int) (w : World) (h : impl_CountOf.f a0 = some r) :
  Calls Try.prog 95 #[.int .i64 a0] w fun e w' => e = .returned (.int .i64 r) ∧ Drawn0 w w' := by
 unfold impl_CountOf.f at h
 have H := h
 clear h
 obtain ⟨t590, A2, H⟩ := Hof.be H
 (try dsimp only at H)
 by_cases c3 : t590 = true
 ·subst c3
  replace H : ((bits_OnesCount.f (IntKind.u64.wrap (a0))).bind fun t591 => (some t591)) = some r := by rw [if_pos rfl] at H; exact H
  obtain ⟨t591, A4, H⟩ := Hof.be H
  (try dsimp only at H)
  obtain rfl := Option.some.inj H
  go_enter Try.func95, Try.ntmps95
  go_wp2_with (first | (refine Hof.gl (some 4) Try.func121 #[.int .i64 a0] ?_; (with_reducible refine (impl_isAny.calls a0 true _ A2.out).mono ?_); rintro e w' ⟨rfl, ⟨nd, rfl⟩⟩; refine ⟨_, rfl, ?_⟩) | (refine Hof.gl (some 8) Try.func127 #[.int .u64 (IntKind.u64.wrap (a0))] ?_; (with_reducible refine (bits_OnesCount.calls (IntKind.u64.wrap (a0)) t591 _ A4.out).mono ?_); rintro e w' ⟨rfl, ⟨nd, rfl⟩⟩; refine ⟨_, rfl, ?_⟩))
  go_ret
  exact ⟨Hof.F, Hof.G⟩
 ·replace c3 := Bool.eq_false_iff.mpr c3
  subst c3
  replace H : (some 0) = some r := by rw [if_neg (show ¬ (false = true) by decide)] at H; exact H
  obtain rfl := Option.some.inj H
  go_enter Try.func95, Try.ntmps95
  go_wp2_with (first | (refine Hof.gl (some 4) Try.func121 #[.int .i64 a0] ?_; (with_reducible refine (impl_isAny.calls a0 false _ A2.out).mono ?_); rintro e w' ⟨rfl, ⟨nd, rfl⟩⟩; refine ⟨_, rfl, ?_⟩))
  go_ret
  exact ⟨Hof.F, Hof.G⟩
def impl_isField.f (a0 : Int) : Option (Bool) := if a0 = 2 then (some true) else (if a0 = 3 then (some true) else (if a0 = 5 then (some true) else (some (a0 == 7))))
set_option maxHeartbeats 8000000 in
set_option maxRecDepth 100000 in
theorem impl_isField.calls (a0 : Int) (r : Bool) (w : World) (h : impl_isField.f a0 = some r) :
  Calls Try.prog 159 #[.int .i64 a0] w fun e w' => e = .returned (.bool r) ∧ Drawn0 w w' := by
 unfold impl_isField.f at h
 have H := h
 clear h
 by_cases c2 : a0 = 2
 ·rw [if_pos c2] at H
  have c2b0 : (a0 == 2) = true := beq_iff_eq.mpr c2
  have c2b1 : (a0 != 2) = false := bne_eq_false_iff_eq.mpr c2
  clear c2
  obtain rfl := Option.some.inj H
  go_enter Try.func159, Try.ntmps159
  go_wp2
  go_ret
  exact ⟨Hof.F, Hof.G⟩
 ·rw [if_neg c2] at H
  have c2b0 : (a0 == 2) = false := beq_eq_false_iff_ne.mpr c2
  have c2b1 : (a0 != 2) = true := bne_iff_ne.mpr c2
  by_cases c3 : a0 = 3
  ·rw [if_pos c3] at H
   have c3b0 : (a0 == 3) = true := beq_iff_eq.mpr c3
   have c3b1 : (a0 != 3) = false := bne_eq_false_iff_eq.mpr c3
   clear c3
   obtain rfl := Option.some.inj H
   go_enter Try.func159, Try.ntmps159
   go_wp2
   go_ret
   exact ⟨Hof.F, Hof.G⟩
  ·rw [if_neg c3] at H
   have c3b0 : (a0 == 3) = false := beq_eq_false_iff_ne.mpr c3
   have c3b1 : (a0 != 3) = true := bne_iff_ne.mpr c3
   by_cases c4 : a0 = 5
   ·rw [if_pos c4] at H
    have c4b0 : (a0 == 5) = true := beq_iff_eq.mpr c4
    have c4b1 : (a0 != 5) = false := bne_eq_false_iff_eq.mpr c4
    clear c4
    obtain rfl := Option.some.inj H
    go_enter Try.func159, Try.ntmps159
    go_wp2
    go_ret
    exact ⟨Hof.F, Hof.G⟩
   ·rw [if_neg c4] at H
    have c4b0 : (a0 == 5) = false := beq_eq_false_iff_ne.mpr c4
    have c4b1 : (a0 != 5) = true := bne_iff_ne.mpr c4
    obtain rfl := Option.some.inj H
    go_enter Try.func159, Try.ntmps159
    go_wp2
    go_ret
    exact ⟨Hof.F, Hof.G⟩
mutual
def impl_IsMatrix.j0 : Nat → Bool → Int → Int → Int → List Int → Option (Bool)
 | 0, _, _, _, _, _ => none
 | k + 1, x31, x904000, x904001, x904002, x904003 => if x31 = true then (some false) else (impl_IsMatrix.l0 k x904003 (x904003.length : Int) 0 x904000 x904001 x904002 x904003)
def impl_IsMatrix.l0 : Nat → List Int → Int → Int → Int → Int → Int → List Int → Option (Bool)
 | 0, _, _, _, _, _, _, _ => none
 | k + 1, x33, x34, x35, x904000, x904001, x904002, x904003 => if x35 < x34 then (if 0 ≤ x35 then (if x35 < (x33.length : Int) then (if (rd x33 x35) < 0 then (some false) else (if (rd x33 x35) ≥ x904000 then (some false) else (impl_IsMatrix.l0 k x33 x34 (wrap64 (x35 + 1)) x904000 x904001 x904002 x904003))) else (none)) else (none)) else (some true)
end
def impl_IsMatrix.f (k : Nat) (a0_0 : Int) (a0_1 : Int) (a0_2 : Int) (l0_3 : List Int) : Option (Bool) := (impl_isField.f a0_0).bind fun t904 => (if t904 = true then ((impl_isSize.f a0_1).bind fun t905 => (if t905 = true then ((impl_isSize.f a0_2).bind fun t906 => (if t906 = true then (impl_IsMatrix.j0 k ((l0_3.length : Int) != (wrap64 (a0_1 * a0_2))) a0_0 a0_1 a0_2 l0_3) else (impl_IsMatrix.j0 k true a0_0 a0_1 a0_2 l0_3))) else (impl_IsMatrix.j0 k true a0_0 a0_1 a0_2 l0_3))) else (impl_IsMatrix.j0 k true a0_0 a0_1 a0_2 l0_3))
theorem impl_IsMatrix.mono_l : ∀ k, (∀ y0 y1 y2 y3 y4, LeO (impl_IsMatrix.j0 k y0 y1 y2 y3 y4) (impl_IsMatrix.j0 (k + 1) y0 y1 y2 y3 y4)) ∧ (∀ y0 y1 y2 y3 y4 y5 y6, LeO (impl_IsMatrix.l0 k y0 y1 y2 y3 y4 y5 y6) (impl_IsMatrix.l0 (k + 1) y0 y1 y2 y3 y4 y5 y6))
 | 0 => ⟨fun _ _ _ _ _ r h => by simp [impl_IsMatrix.j0] at h, fun _ _ _ _ _ _ _ r h => by simp [impl_IsMatrix.l0] at h⟩
 | k + 1 => by
  obtain ⟨ih0, ih1⟩ := impl_IsMatrix.mono_l k
  refine ⟨?_, ?_⟩
  ·intro y0 y1 y2 y3 y4
   unfold impl_IsMatrix.j0
   repeat' first
   | (with_reducible exact ih0 _ _ _ _ _)
   | (with_reducible exact ih1 _ _ _ _ _ _ _)
   | (with_reducible exact LeO.refl _)
   | (with_reducible exact LeO.none _)
   | (with_reducible refine LeO.ite ?_ ?_)
   | (with_reducible refine LeO.bind ?_ (fun _ => ?_))
   | exact ih0 _ _ _ _ _
   | exact ih1 _ _ _ _ _ _ _
   | exact LeO.none _
   | refine LeO.ite ?_ ?_
   | refine LeO.bind ?_ (fun _ => ?_)
  ·intro y0 y1 y2 y3 y4 y5 y6
   unfold impl_IsMatrix.l0
   repeat' first
   | (with_reducible exact ih0 _ _ _ _ _)
   | (with_reducible exact ih1 _ _ _ _ _ _ _)
   | (with_reducible exact LeO.refl _)
   | (with_reducible exact LeO.none _)
   | (with_reducible refine LeO.ite ?_ ?_)
   | (with_reducible refine LeO.bind ?_ (fun _ => ?_))
   | exact ih0 _ _ _ _ _
   | exact ih1 _ _ _ _ _ _ _
   | exact LeO.none _
   | refine LeO.ite ?_ ?_
   | refine LeO.bind ?_ (fun _ => ?_)
theorem impl_IsMatrix.mono : ∀ a0 a1 a2 a3 k, LeO (impl_IsMatrix.f k a0 a1 a2 a3) (impl_IsMatrix.f (k + 1) a0 a1 a2 a3) := by
 intro a0 a1 a2 a3 k
 obtain ⟨ih0, ih1⟩ := impl_IsMatrix.mono_l k
 unfold impl_IsMatrix.f
 repeat' first
   | (with_reducible exact ih0 _ _ _ _ _)
   | (with_reducible exact ih1 _ _ _ _ _ _ _)
   | (with_reducible exact LeO.refl _)
   | (with_reducible exact LeO.none _)
   | (with_reducible refine LeO.ite ?_ ?_)
   | (with_reducible refine LeO.bind ?_ (fun _ => ?_))
   | exact ih0 _ _ _ _ _
   | exact ih1 _ _ _ _ _ _ _
   | exact LeO.none _
   | refine LeO.ite ?_ ?_
   | refine LeO.bind ?_ (fun _ => ?_)
set_option maxHeartbeats 8000000 in
set_option maxRecDepth 100000 in
theorem impl_IsMatrix.calls (k : Nat) (a0_0 : Int) (a0_1 : Int) (a0_2 : Int) (A0_3 : Option Addr) (c0_3 : Nat) (l0_3 : List Int) (r : Bool) (w : World) (hr0_3 : Kd.C (Kd.int .i64) w A0_3 l0_3.length l0_3) (hc0_3 : l0_3.length ≤ c0_3) (h : impl_IsMatrix.f k a0_0 a0_1 a0_2 l0_3 = some r) :
  Calls Try.prog 148 #[.agg #[.int .i64 a0_0, .int .i64 a0_1, .int .i64 a0_2, .slice A0_3 l0_3.length c0_3]] w fun e w' => e = .returned (.bool r) ∧ Below w.heap.size w w' := by
 have hu49 := Try.underlying49
 have HR0_3 := Aside0.mk hr0_3
 have HC0_3 := Aside0.mk hc0_3
 clear hr0_3 hc0_3
 have HB := Aside0.mk (Below.refl w.heap.size w)
 unfold impl_IsMatrix.f at h
 have H := h
 clear h
 have HC2 := Aside0.mk H
 clear H
 go_enter Try.func148, Try.ntmps148
 go_upto_region 1 with (first | ((with_reducible refine gate_dst (N := 1) rfl ?_); (try (refine gate_guard (by rfl) ?_; dsimp only)); refine box_event ?hg (N := 1) ?hd (cs := #[.int .i64 a0_0, .int .i64 a0_1, .int .i64 a0_2, .slice A0_3 l0_3.length c0_3]) (t := 49) ?hr ?_; (case hd => rfl); (case hg => rfl); (case hr => first | (go_simp; done) | (go_simp; rfl)); intro gb903 hg w3 hbox hb; have BK903 := Aside0.mk hbox; have GW903 := Hof.gw hg HB; have GE903 := Hof.gw hg HB; replace HB := Hof.lb HB hb; clear hb hbox hg))
 (try simp only [Act.put, List.setIfInBounds_toArray, List.set_cons_zero, List.set_cons_succ])
 go_cut [31] (fun v31 wc => ∃ (kq : Nat) (x31_1 : Bool), v31 = .bool x31_1 ∧ Aside0 (impl_IsMatrix.j0 kq x31_1 a0_0 a0_1 a0_2 l0_3 = some r) ∧ Aside0 (kq ≤ k) ∧ Aside0 (wc.heap[gb903]? = some (.cells #[.int .i64 a0_0, .int .i64 a0_1, .int .i64 a0_2, (.slice A0_3 l0_3.length c0_3)] 49 (0, 0))) ∧ Aside0 (Below w.heap.size w wc))
 case first =>
  have H := HC2.out
  clear HC2
  obtain ⟨t904, A4, H⟩ := Hof.be H
  (try dsimp only at H)
  by_cases c5 : t904 = true
  ·subst c5
   replace H : ((impl_isSize.f a0_1).bind fun t905 => (if t905 = true then ((impl_isSize.f a0_2).bind fun t906 => (if t906 = true then (impl_IsMatrix.j0 k ((l0_3.length : Int) != (wrap64 (a0_1 * a0_2))) a0_0 a0_1 a0_2 l0_3) else (impl_IsMatrix.j0 k true a0_0 a0_1 a0_2 l0_3))) else (impl_IsMatrix.j0 k true a0_0 a0_1 a0_2 l0_3))) = some r := by rw [if_pos rfl] at H; exact H
   obtain ⟨t905, A6, H⟩ := Hof.be H
   (try dsimp only at H)
   by_cases c7 : t905 = true
   ·subst c7
    replace H : ((impl_isSize.f a0_2).bind fun t906 => (if t906 = true then (impl_IsMatrix.j0 k ((l0_3.length : Int) != (wrap64 (a0_1 * a0_2))) a0_0 a0_1 a0_2 l0_3) else (impl_IsMatrix.j0 k true a0_0 a0_1 a0_2 l0_3))) = some r := by rw [if_pos rfl] at H; exact H
    obtain ⟨t906, A8, H⟩ := Hof.be H
    (try dsimp only at H)
    by_cases c9 : t906 = true
    ·subst c9
     replace H : (impl_IsMatrix.j0 k ((l0_3.length : Int) != (wrap64 (a0_1 * a0_2))) a0_0 a0_1 a0_2 l0_3) = some r := by rw [if_pos rfl] at H; exact H
     have H' := Aside0.mk H
     clear H
     obtain ⟨hcz10_0, hcz10_1, hcz10_2, hcz10_3, hfz10_0, hfz10_1, hfz10_2, hfz10_3⟩ := Hof.blk4 BK903.out
     go_wp2_with (first | ((with_reducible refine gate_callee (f := 159) rfl ?_); refine Hof.gl (some 7) Try.func159 #[.int .i64 a0_0] ?_; (with_reducible refine (impl_isField.calls a0_0 true _ A4.out).mono ?_); rintro e w' ⟨rfl, ⟨nd, rfl⟩⟩; refine ⟨_, rfl, ?_⟩) | (go_at_call 105; (with_reducible refine (impl_isSize.calls a0_1 true _ A6.out).mono ?_); rintro e w' ⟨rfl, ⟨nd, rfl⟩⟩) | (go_at_call 105; (with_reducible refine (impl_isSize.calls a0_2 true _ A8.out).mono ?_); rintro e w' ⟨rfl, ⟨nd, rfl⟩⟩))
     go_meet
     case rel => exact ⟨_, (((l0_3.length : Int) != (wrap64 (a0_1 * a0_2)))), (by first | rfl | (simp; done) | (simp [*]; done) | (simp only [i64_w]; done) | (simp only [i64_w, i32_w]; rfl)), H', ⟨by first | omega | exact Nat.le_refl _⟩, ⟨Hof.Bw BK903.out⟩, ⟨Hof.Lw HB.out⟩⟩
    ·replace c9 := Bool.eq_false_iff.mpr c9
     subst c9
     replace H : (impl_IsMatrix.j0 k true a0_0 a0_1 a0_2 l0_3) = some r := by rw [if_neg (show ¬ (false = true) by decide)] at H; exact H
     have H' := Aside0.mk H
     clear H
     obtain ⟨hcz11_0, hcz11_1, hcz11_2, hcz11_3, hfz11_0, hfz11_1, hfz11_2, hfz11_3⟩ := Hof.blk4 BK903.out
     go_wp2_with (first | ((with_reducible refine gate_callee (f := 159) rfl ?_); refine Hof.gl (some 7) Try.func159 #[.int .i64 a0_0] ?_; (with_reducible refine (impl_isField.calls a0_0 true _ A4.out).mono ?_); rintro e w' ⟨rfl, ⟨nd, rfl⟩⟩; refine ⟨_, rfl, ?_⟩) | (go_at_call 105; (with_reducible refine (impl_isSize.calls a0_1 true _ A6.out).mono ?_); rintro e w' ⟨rfl, ⟨nd, rfl⟩⟩) | (go_at_call 105; (with_reducible refine (impl_isSize.calls a0_2 false _ A8.out).mono ?_); rintro e w' ⟨rfl, ⟨nd, rfl⟩⟩))
     go_meet
     case rel => exact ⟨_, (true), (by first | rfl | (simp; done) | (simp [*]; done) | (simp only [i64_w]; done) | (simp only [i64_w, i32_w]; rfl)), H', ⟨by first | omega | exact Nat.le_refl _⟩, ⟨Hof.Bw BK903.out⟩, ⟨Hof.Lw HB.out⟩⟩
   ·replace c7 := Bool.eq_false_iff.mpr c7
    subst c7
    replace H : (impl_IsMatrix.j0 k true a0_0 a0_1 a0_2 l0_3) = some r := by rw [if_neg (show ¬ (false = true) by decide)] at H; exact H
    have H' := Aside0.mk H
    clear H
    obtain ⟨hcz12_0, hcz12_1, hcz12_2, hcz12_3, hfz12_0, hfz12_1, hfz12_2, hfz12_3⟩ := Hof.blk4 BK903.out
    go_wp2_with (first | ((with_reducible refine gate_callee (f := 159) rfl ?_); refine Hof.gl (some 7) Try.func159 #[.int .i64 a0_0] ?_; (with_reducible refine (impl_isField.calls a0_0 true _ A4.out).mono ?_); rintro e w' ⟨rfl, ⟨nd, rfl⟩⟩; refine ⟨_, rfl, ?_⟩) | (go_at_call 105; (with_reducible refine (impl_isSize.calls a0_1 false _ A6.out).mono ?_); rintro e w' ⟨rfl, ⟨nd, rfl⟩⟩))
    go_meet
    case rel => exact ⟨_, (true), (by first | rfl | (simp; done) | (simp [*]; done) | (simp only [i64_w]; done) | (simp only [i64_w, i32_w]; rfl)), H', ⟨by first | omega | exact Nat.le_refl _⟩, ⟨Hof.Bw BK903.out⟩, ⟨Hof.Lw HB.out⟩⟩
  ·replace c5 := Bool.eq_false_iff.mpr c5
   subst c5
   replace H : (impl_IsMatrix.j0 k true a0_0 a0_1 a0_2 l0_3) = some r := by rw [if_neg (show ¬ (false = true) by decide)] at H; exact H
   have H' := Aside0.mk H
   clear H
   obtain ⟨hcz13_0, hcz13_1, hcz13_2, hcz13_3, hfz13_0, hfz13_1, hfz13_2, hfz13_3⟩ := Hof.blk4 BK903.out
   go_wp2_with (first | ((with_reducible refine gate_callee (f := 159) rfl ?_); refine Hof.gl (some 7) Try.func159 #[.int .i64 a0_0] ?_; (with_reducible refine (impl_isField.calls a0_0 false _ A4.out).mono ?_); rintro e w' ⟨rfl, ⟨nd, rfl⟩⟩; refine ⟨_, rfl, ?_⟩))
   go_meet
   case rel => exact ⟨_, (true), (by first | rfl | (simp; done) | (simp [*]; done) | (simp only [i64_w]; done) | (simp only [i64_w, i32_w]; rfl)), H', ⟨by first | omega | exact Nat.le_refl _⟩, ⟨Hof.Bw BK903.out⟩, ⟨Hof.Lw HB.out⟩⟩
 case rest =>
  clear HC2
  obtain ⟨kq, x31_1, rfl, HA, HJ1, BK903, HB⟩ := hcut
  cases kq with
  | zero => exact absurd HA.out (by simp [impl_IsMatrix.j0])
  | succ kj1 =>
   have H := HA.out
   clear HA
   simp only [impl_IsMatrix.j0] at H
   by_cases c14 : x31_1 = true
   ·subst c14
    replace H : (some false) = some r := by rw [if_pos rfl] at H; exact H
    obtain rfl := Option.some.inj H
    go_wp2
    go_ret
    exact ⟨Hof.E, Hof.L⟩
   ·replace c14 := Bool.eq_false_iff.mpr c14
    subst c14
    replace H : (impl_IsMatrix.l0 kj1 l0_3 (l0_3.length : Int) 0 a0_0 a0_1 a0_2 l0_3) = some r := by rw [if_neg (show ¬ (false = true) by decide)] at H; exact H
    have H' := Aside0.mk H
    clear H
    obtain ⟨hcz15_0, hcz15_1, hcz15_2, hcz15_3, hfz15_0, hfz15_1, hfz15_2, hfz15_3⟩ := Hof.blk4 BK903.out
    go_wp2
    go_loopg [35] kj1 (fun kq v35 w' => ∃ (x35_2 : Int), v35 = .int .i64 x35_2 ∧ Aside0 (impl_IsMatrix.l0 kq l0_3 (l0_3.length : Int) x35_2 a0_0 a0_1 a0_2 l0_3 = some r) ∧ Aside0 (kq ≤ kj1) ∧ Aside0 (w'.heap[gb903]? = some (.cells #[.int .i64 a0_0, .int .i64 a0_1, .int .i64 a0_2, (.slice A0_3 l0_3.length c0_3)] 49 (0, 0))) ∧ Aside0 (Below w.heap.size w w'))
    case atStart => exact ⟨(0), (by first | rfl | (simp; done) | (simp [*]; done) | (simp only [i64_w]; done) | (simp only [i64_w, i32_w]; rfl)), H', ⟨Nat.le_refl _⟩, ⟨Hof.Bw BK903.out⟩, ⟨Hof.Lw HB.out⟩⟩
    case round =>
     clear H'
     obtain ⟨x35_2, rfl, HA, HK2, BK903, HB⟩ := hrel
     cases gk with
     | zero => exact absurd HA.out (by simp [impl_IsMatrix.l0])
     | succ k2 =>
      have H := HA.out
      clear HA
      simp only [impl_IsMatrix.l0] at H
      by_cases c16 : x35_2 < (l0_3.length : Int)
      ·rw [if_pos c16] at H
       have c16b0 := decide_eq_true c16
       clear c16
       by_cases c17 : 0 ≤ x35_2
       ·rw [if_pos c17] at H
        have c17b0 := decide_eq_true c17
        clear c17
        by_cases c18 : x35_2 < (l0_3.length : Int)
        ·rw [if_pos c18] at H
         have c18b0 := decide_eq_true c18
         clear c18
         by_cases c19 : (rd l0_3 x35_2) < 0
         ·rw [if_pos c19] at H
          have c19b0 := decide_eq_true c19
          clear c19
          obtain rfl := Option.some.inj H
          have p907 : 0 ≤ (x35_2 : Int) := Hof.D
          have q907 : x35_2 < (l0_3.length : Int) := Hof.D
          obtain ⟨ad907, e907, hx907_0⟩ := Kd.at_int HR0_3.out x35_2 p907 q907
          cases e907
          try replace hx907_0 := (HB.out.cell (World.block_lt_of_cell? w _ hx907_0)).trans hx907_0
          replace p907 := eq_true p907
          replace q907 := eq_true q907
          go_wp2
          go_ret
          exact ⟨Hof.E, Hof.L⟩
         ·rw [if_neg c19] at H
          have c19b0 : decide ((rd l0_3 x35_2) < 0) = false := decide_eq_false c19
          clear c19
          by_cases c20 : (rd l0_3 x35_2) ≥ a0_0
          ·rw [if_pos c20] at H
           have c20b0 := decide_eq_true c20
           clear c20
           obtain rfl := Option.some.inj H
           have p907 : 0 ≤ (x35_2 : Int) := Hof.D
           have q907 : x35_2 < (l0_3.length : Int) := Hof.D
           obtain ⟨ad907, e907, hx907_0⟩ := Kd.at_int HR0_3.out x35_2 p907 q907
           cases e907
           try replace hx907_0 := (HB.out.cell (World.block_lt_of_cell? w _ hx907_0)).trans hx907_0
           replace p907 := eq_true p907
           replace q907 := eq_true q907
           obtain ⟨hcz21_0, hcz21_1, hcz21_2, hcz21_3, hfz21_0, hfz21_1, hfz21_2, hfz21_3⟩ := Hof.blk4 BK903.out
           go_wp2
           go_ret
           exact ⟨Hof.E, Hof.L⟩
          ·rw [if_neg c20] at H
           have c20b0 : decide (a0_0 ≤ (rd l0_3 x35_2)) = false := decide_eq_false c20
           clear c20
           have H' := Aside0.mk H
           clear H
           have p907 : 0 ≤ (x35_2 : Int) := Hof.D
           have q907 : x35_2 < (l0_3.length : Int) := Hof.D
           obtain ⟨ad907, e907, hx907_0⟩ := Kd.at_int HR0_3.out x35_2 p907 q907
           cases e907
           try replace hx907_0 := (HB.out.cell (World.block_lt_of_cell? w _ hx907_0)).trans hx907_0
           replace p907 := eq_true p907
           replace q907 := eq_true q907
           obtain ⟨hcz22_0, hcz22_1, hcz22_2, hcz22_3, hfz22_0, hfz22_1, hfz22_2, hfz22_3⟩ := Hof.blk4 BK903.out
           go_wp2
           go_roundg k2
           case measure => have := HJ1.out; have := HK2.out; omega
           case rel => exact ⟨(wrap64 (x35_2 + 1)), (by first | rfl | (simp; done) | (simp [*]; done) | (simp only [i64_w]; done) | (simp only [i64_w, i32_w]; rfl)), H', ⟨by have := HJ1.out; have := HK2.out; omega⟩, ⟨Hof.Bw BK903.out⟩, ⟨Hof.Lw HB.out⟩⟩
        ·rw [if_neg c18] at H
         exact absurd H (by simp)
       ·rw [if_neg c17] at H
        exact absurd H (by simp)
      ·rw [if_neg c16] at H
       have c16b0 : decide (x35_2 < (l0_3.length : Int)) = false := decide_eq_false c16
       clear c16
       obtain rfl := Option.some.inj H
       go_wp2
       go_ret
       exact ⟨Hof.E, Hof.L⟩
mutual
def impl_InverseIn.j0 : Nat → Int → Int → Bool → Option (Int)
 | 0, _, _, _ => none
 | k + 1, x0, x1, x17 => if x17 = true then (some 0) else (impl_InverseIn.l0 k x0 x1 1)
def impl_InverseIn.l0 : Nat → Int → Int → Int → Option (Int)
 | 0, _, _, _ => none
 | k + 1, x0, x1, x5 => if x0 = 0 then (none) else (if (Int.tmod (wrap64 (x1 * x5)) x0) = 1 then (some x5) else (impl_InverseIn.l0 k x0 x1 (wrap64 (x5 + 1))))
end
def impl_InverseIn.f (k : Nat) (a0 : Int) (a1 : Int) : Option (Int) := (impl_isField.f a0).bind fun t908 => (if t908 = true then (if a1 < 1 then (impl_InverseIn.j0 k a0 a1 true) else (impl_InverseIn.j0 k a0 a1 (decide (a1 ≥ a0)))) else (impl_InverseIn.j0 k a0 a1 true))
theorem impl_InverseIn.mono_l : ∀ k, (∀ y0 y1 y2, LeO (impl_InverseIn.j0 k y0 y1 y2) (impl_InverseIn.j0 (k + 1) y0 y1 y2)) ∧ (∀ y0 y1 y2, LeO (impl_InverseIn.l0 k y0 y1 y2) (impl_InverseIn.l0 (k + 1) y0 y1 y2))
 | 0 => ⟨fun _ _ _ r h => by simp [impl_InverseIn.j0] at h, fun _ _ _ r h => by simp [impl_InverseIn.l0] at h⟩
 | k + 1 => by
  obtain ⟨ih0, ih1⟩ := impl_InverseIn.mono_l k
  refine ⟨?_, ?_⟩
  ·intro y0 y1 y2
   unfold impl_InverseIn.j0
   repeat' first
   | (with_reducible exact ih0 _ _ _)
   | (with_reducible exact ih1 _ _ _)
   | (with_reducible exact LeO.refl _)
   | (with_reducible exact LeO.none _)
   | (with_reducible refine LeO.ite ?_ ?_)
   | (with_reducible refine LeO.bind ?_ (fun _ => ?_))
   | exact ih0 _ _ _
   | exact ih1 _ _ _
   | exact LeO.none _
   | refine LeO.ite ?_ ?_
   | refine LeO.bind ?_ (fun _ => ?_)
  ·intro y0 y1 y2
   unfold impl_InverseIn.l0
   repeat' first
   | (with_reducible exact ih0 _ _ _)
   | (with_reducible exact ih1 _ _ _)
   | (with_reducible exact LeO.refl _)
   | (with_reducible exact LeO.none _)
   | (with_reducible refine LeO.ite ?_ ?_)
   | (with_reducible refine LeO.bind ?_ (fun _ => ?_))
   | exact ih0 _ _ _
   | exact ih1 _ _ _
   | exact LeO.none _
   | refine LeO.ite ?_ ?_
   | refine LeO.bind ?_ (fun _ => ?_)
theorem impl_InverseIn.mono : ∀ a0 a1 k, LeO (impl_InverseIn.f k a0 a1) (impl_InverseIn.f (k + 1) a0 a1) := by
 intro a0 a1 k
 obtain ⟨ih0, ih1⟩ := impl_InverseIn.mono_l k
 unfold impl_InverseIn.f
 repeat' first
   | (with_reducible exact ih0 _ _ _)
   | (with_reducible exact ih1 _ _ _)
   | (with_reducible exact LeO.refl _)
   | (with_reducible exact LeO.none _)
   | (with_reducible refine LeO.ite ?_ ?_)
   | (with_reducible refine LeO.bind ?_ (fun _ => ?_))
   | exact ih0 _ _ _
   | exact ih1 _ _ _
   | exact LeO.none _
   | refine LeO.ite ?_ ?_
   | refine LeO.bind ?_ (fun _ => ?_)
set_option maxHeartbeats 8000000 in
set_option maxRecDepth 100000 in
theorem impl_InverseIn.calls (k : Nat) (a0 : Int) (a1 : Int) (r : Int) (w : World) (h : impl_InverseIn.f k a0 a1 = some r) :
  Calls Try.prog 166 #[.int .i64 a0, .int .i64 a1] w fun e w' => e = .returned (.int .i64 r) ∧ Drawn0 w w' := by
 unfold impl_InverseIn.f at h
 have H := h
 clear h
 have HC3 := Aside0.mk H
 clear H
 go_enter Try.func166, Try.ntmps166
 go_upto_region 1 with (fail)
 go_cut [17] (fun v17 wc => ∃ (kq : Nat) (x17_2 : Bool), v17 = .bool x17_2 ∧ Aside0 (impl_InverseIn.j0 kq a0 a1 x17_2 = some r) ∧ Aside0 (kq ≤ k) ∧ Drawn0 w wc)
 case first =>
  have H := HC3.out
  clear HC3
  obtain ⟨t908, A4, H⟩ := Hof.be H
  (try dsimp only at H)
  by_cases c5 : t908 = true
  ·subst c5
   replace H : (if a1 < 1 then (impl_InverseIn.j0 k a0 a1 true) else (impl_InverseIn.j0 k a0 a1 (decide (a1 ≥ a0)))) = some r := by rw [if_pos rfl] at H; exact H
   by_cases c6 : a1 < 1
   ·rw [if_pos c6] at H
    have c6b0 := decide_eq_true c6
    clear c6
    (first | rw [c6b0] | (simp only [i64_w, i32_w]; rw [c6b0]) | skip)
    have H' := Aside0.mk H
    clear H
    go_wp2_with (first | (refine Hof.gl (some 7) Try.func159 #[.int .i64 a0] ?_; (with_reducible refine (impl_isField.calls a0 true _ A4.out).mono ?_); rintro e w' ⟨rfl, ⟨nd, rfl⟩⟩; refine ⟨_, rfl, ?_⟩))
    go_meet
    case rel => exact ⟨_, (true), Hof.F, H', ⟨by first | omega | exact Nat.le_refl _⟩, Hof.G⟩
   ·rw [if_neg c6] at H
    have c6b0 : decide (a1 < 1) = false := decide_eq_false c6
    clear c6
    (first | rw [c6b0] | (simp only [i64_w, i32_w]; rw [c6b0]) | skip)
    have H' := Aside0.mk H
    clear H
    go_wp2_with (first | (refine Hof.gl (some 7) Try.func159 #[.int .i64 a0] ?_; (with_reducible refine (impl_isField.calls a0 true _ A4.out).mono ?_); rintro e w' ⟨rfl, ⟨nd, rfl⟩⟩; refine ⟨_, rfl, ?_⟩))
    go_meet
    case rel => exact ⟨_, (decide (a1 ≥ a0)), Hof.F, H', ⟨by first | omega | exact Nat.le_refl _⟩, Hof.G⟩
  ·replace c5 := Bool.eq_false_iff.mpr c5
   subst c5
   replace H : (impl_InverseIn.j0 k a0 a1 true) = some r := by rw [if_neg (show ¬ (false = true) by decide)] at H; exact H
   have H' := Aside0.mk H
   clear H
   go_wp2_with (first | (refine Hof.gl (some 7) Try.func159 #[.int .i64 a0] ?_; (with_reducible refine (impl_isField.calls a0 false _ A4.out).mono ?_); rintro e w' ⟨rfl, ⟨nd, rfl⟩⟩; refine ⟨_, rfl, ?_⟩))
   go_meet
   case rel => exact ⟨_, (true), Hof.F, H', ⟨by first | omega | exact Nat.le_refl _⟩, Hof.G⟩
 case rest =>
  clear HC3
  obtain ⟨kq, x17_2, rfl, HA, HJ2, ⟨mc2, rfl⟩⟩ := hcut
  cases kq with
  | zero => exact absurd HA.out (by simp [impl_InverseIn.j0])
  | succ kj2 =>
   have H := HA.out
   clear HA
   simp only [impl_InverseIn.j0] at H
   by_cases c7 : x17_2 = true
   ·subst c7
    replace H : (some 0) = some r := by rw [if_pos rfl] at H; exact H
    obtain rfl := Option.some.inj H
    go_wp2
    go_ret
    exact ⟨Hof.F, Hof.G⟩
   ·replace c7 := Bool.eq_false_iff.mpr c7
    subst c7
    replace H : (impl_InverseIn.l0 kj2 a0 a1 1) = some r := by rw [if_neg (show ¬ (false = true) by decide)] at H; exact H
    have H' := Aside0.mk H
    clear H
    go_wp2
    go_loopg [5] kj2 (fun kq v5 w' => ∃ (x5_2 : Int), v5 = .int .i64 x5_2 ∧ Aside0 (impl_InverseIn.l0 kq a0 a1 x5_2 = some r) ∧ Aside0 (kq ≤ kj2) ∧ Drawn0 w w')
    case atStart => exact ⟨(1), Hof.F, H', ⟨Nat.le_refl _⟩, Hof.G⟩
    case round =>
     clear H'
     obtain ⟨x5_2, rfl, HA, HK2, ⟨m2, rfl⟩⟩ := hrel
     cases gk with
     | zero => exact absurd HA.out (by simp [impl_InverseIn.l0])
     | succ k2 =>
      have H := HA.out
      clear HA
      simp only [impl_InverseIn.l0] at H
      by_cases c8 : a0 = 0
      ·rw [if_pos c8] at H
       exact absurd H (by simp)
      ·rw [if_neg c8] at H
       have c8b0 : (a0 == 0) = false := beq_eq_false_iff_ne.mpr c8
       have c8b1 : (a0 != 0) = true := bne_iff_ne.mpr c8
       by_cases c9 : (Int.tmod (wrap64 (a1 * x5_2)) a0) = 1
       ·rw [if_pos c9] at H
        have c9b0 : ((Int.tmod (wrap64 (a1 * x5_2)) a0) == 1) = true := beq_iff_eq.mpr c9
        have c9b1 : ((Int.tmod (wrap64 (a1 * x5_2)) a0) != 1) = false := bne_eq_false_iff_eq.mpr c9
        clear c9
        obtain rfl := Option.some.inj H
        go_wp2
        go_ret
        exact ⟨Hof.F, Hof.G⟩
       ·rw [if_neg c9] at H
        have c9b0 : ((Int.tmod (wrap64 (a1 * x5_2)) a0) == 1) = false := beq_eq_false_iff_ne.mpr c9
        have c9b1 : ((Int.tmod (wrap64 (a1 * x5_2)) a0) != 1) = true := bne_iff_ne.mpr c9
        have H' := Aside0.mk H
        clear H
        go_wp2
        go_roundg k2
        case measure => have := HJ2.out; have := HK2.out; omega
        case rel => exact ⟨(wrap64 (x5_2 + 1)), Hof.F, H', ⟨by have := HJ2.out; have := HK2.out; omega⟩, Hof.G⟩
end Go.Proofs.Ytmpodackojmojaa.Pr
end
