/- The claim FnExactFindMatrix: every text that its row comes to, laid together by slim.py (the words of the kit's print, the printed walks, the pure law, the row). -/
import Derived.Test.YtmpodackojmojaaYFnExactFindMatrix0
section
namespace Go.Proofs.Ytmpodackojmojaa.Pr
open Go.RowKit Go.Proofs.YtmpodackojmojaaW.PrintWords Go.Proofs.YtmpodackojmojaaW.PrintLast Go.Proofs.YtmpodackojmojaaW.PrintMore
attribute [local go_sem] max2_int min2_int max_two min_two max_three min_three max_four min_four
set_option linter.unusedVariables false
set_option linter.unusedSimpArgs false
mutual
def spec_FirstFailure.l0 : Nat → Int → Int → List Int → Option (Int × Int × Int × Bool)
 | 0, _, _, _ => none
 | k + 1, x4, x564000, x564001 => if x4 < (x564001.length : Int) then (spec_FirstFailure.l1 k x4 0 x564000 x564001) else (some (0, 0, 0, false))
def spec_FirstFailure.l1 : Nat → Int → Int → Int → List Int → Option (Int × Int × Int × Bool)
 | 0, _, _, _, _ => none
 | k + 1, x4, x5, x564000, x564001 => if x5 < (x564001.length : Int) then (spec_FirstFailure.l2 k x4 x5 0 x564000 x564001) else (spec_FirstFailure.l0 k (wrap64 (x4 + 1)) x564000 x564001)
def spec_FirstFailure.l2 : Nat → Int → Int → Int → Int → List Int → Option (Int × Int × Int × Bool)
 | 0, _, _, _, _, _ => none
 | k + 1, x4, x5, x6, x564000, x564001 => if x6 < x564000 then (if 0 ≤ x4 then (if x4 < (x564001.length : Int) then (if 0 ≤ x5 then (if x5 < (x564001.length : Int) then ((spec_l2Has.f (rd x564001 x4) x6).bind fun t568 => (if t568 = true then ((spec_l2Has.f (rd x564001 x5) x6).bind fun t569 => (if t569 = true then (spec_FirstFailure.l2 k x4 x5 (wrap64 (x6 + 1)) x564000 x564001) else ((spec_l4Exchange.f k x564000 x564001 (rd x564001 x4) (rd x564001 x5) x6).bind fun t570 => (if t570 = true then (spec_FirstFailure.l2 k x4 x5 (wrap64 (x6 + 1)) x564000 x564001) else (some (rd x564001 x4, rd x564001 x5, x6, true)))))) else (spec_FirstFailure.l2 k x4 x5 (wrap64 (x6 + 1)) x564000 x564001))) else (none)) else (none)) else (none)) else (none)) else (spec_FirstFailure.l1 k x4 (wrap64 (x5 + 1)) x564000 x564001)
end
def spec_FirstFailure.f (k : Nat) (a0_0 : Int) (l0_1 : List Int) : Option (Int × Int × Int × Bool) := (spec_IsFamily.f k a0_0 l0_1).bind fun t565 => (if t565 = true then (spec_FirstFailure.l0 k 0 a0_0 l0_1) else (some (0, 0, 0, false)))
set_option maxHeartbeats 8000000 in
set_option maxRecDepth 100000 in
theorem spec_FirstFailure.calls (k : Nat) (a0_0 : Int) (A0_1 : Option Addr) (c0_1 : Nat) (l0_1 : List Int) (r1 : Int) (r2 : Int) (r3 : Int) (r4 : Bool) (w : World) (hr0_1 : Kd.C (Kd.int .i64) w A0_1 l0_1.length l0_1) (hc0_1 : l0_1.length ≤ c0_1) (h : spec_FirstFailure.f k a0_0 l0_1 = some (r1, r2, r3, r4)) :
  Calls Try.prog 113 #[.agg #[.int .i64 a0_0, .slice A0_1 l0_1.length c0_1]] w fun e w' => e = .returned (.tuple #[.agg #[.int .i64 r1, .int .i64 r2, .int .i64 r3], .bool r4]) ∧ Below w.heap.size w w' := by
 have hu35 := Try.underlying35
 have hu108 := Try.underlying108
 have HR0_1 := Aside0.mk hr0_1
 have HC0_1 := Aside0.mk hc0_1
 clear hr0_1 hc0_1
 have HB := Aside0.mk (Below.refl w.heap.size w)
 unfold spec_FirstFailure.f at h
 have H := h
 clear h
 obtain ⟨t565, A2, H⟩ := Hof.be H
 (try dsimp only at H)
 by_cases c3 : t565 = true
 ·subst c3
  replace H : (spec_FirstFailure.l0 k 0 a0_0 l0_1) = some (r1, r2, r3, r4) := by rw [if_pos rfl] at H; exact H
  have H' := Aside0.mk H
  clear H
  go_enter Try.func113, Try.ntmps113
  go_wp2_with (first | ((with_reducible refine gate_dst (N := 1) rfl ?_); refine Hof.bx 1 #[.int .i64 a0_0, .slice A0_1 l0_1.length c0_1] 35 ?_; intro gb563 hg w4 hbox hb; have BK563 := Aside0.mk hbox; have GW563 := Hof.gw hg HB; have GE563 := Hof.gw hg HB; replace HB := Hof.lb HB hb; clear hb hbox hg) | ((with_reducible refine gate_dst (N := 2) rfl ?_); refine Hof.bx 2 #[.int .i64 0, .int .i64 0, .int .i64 0] 108 ?_; intro gb564 hg w5 hbox hb; have BK564 := Aside0.mk hbox; have GW564 := Hof.gw hg HB; have GE564 := Hof.gw hg HB; replace HB := Hof.lb HB hb; have NB563_564 := Hof.nl hg BK563; have NB564_563 := Hof.ng hg BK563; replace BK563 := Hof.bb BK563 hb; clear hb hbox hg; have hnb6 := NB563_564.out; have hnc6 := NB564_563.out; obtain ⟨hcz7_0, hcz7_1, hfz7_0, hfz7_1⟩ := Hof.blk2 BK563.out) | ((with_reducible refine gate_callee (f := 114) rfl ?_); refine Hof.gl (some 13) Try.func114 #[.int .i64 a0_0, .slice A0_1 l0_1.length c0_1] ?_; (with_reducible refine (spec_IsFamily.calls k a0_0 _ _ l0_1 true _ ?side1 ?side2 A2.out).mono ?_); (case side1 => exact Hof.Cw (Kd.C_below HR0_1.out HB.out)); (case side2 => exact HC0_1.out); rintro e w' ⟨rfl, ⟨nd, rfl⟩⟩; refine ⟨_, rfl, ?_⟩))
  go_loopg [4] k (fun kq v4 w' => ∃ (x4_1 : Int) (x565000_1 : Int) (x565001_1 : Int) (x565002_1 : Int), v4 = .int .i64 x4_1 ∧ Aside0 (spec_FirstFailure.l0 kq x4_1 a0_0 l0_1 = some (r1, r2, r3, r4)) ∧ Aside0 (kq ≤ k) ∧ Aside0 (w'.heap[gb563]? = some (.cells #[.int .i64 a0_0, (.slice A0_1 l0_1.length c0_1)] 35 (0, 0))) ∧ Aside0 (w'.heap[gb564]? = some (.cells #[.int .i64 x565000_1, .int .i64 x565001_1, .int .i64 x565002_1] 108 (0, 0))) ∧ Aside0 (Below w.heap.size w w'))
  case atStart => exact ⟨(0), (0), (0), (0), Hof.F, H', ⟨Nat.le_refl _⟩, ⟨Hof.Bw BK563.out⟩, ⟨Hof.Bw BK564.out⟩, ⟨Hof.Lw HB.out⟩⟩
  case round =>
   clear H'
   obtain ⟨x4_1, x565000_1, x565001_1, x565002_1, rfl, HA, HK1, BK563, BK564, HB⟩ := hrel
   cases gk with
   | zero => exact absurd HA.out (by simp [spec_FirstFailure.l0])
   | succ k1 =>
    have H := HA.out
    clear HA
    simp only [spec_FirstFailure.l0] at H
    by_cases c8 : x4_1 < (l0_1.length : Int)
    ·rw [if_pos c8] at H
     have c8b0 := decide_eq_true c8
     clear c8
     have H' := Aside0.mk H
     clear H
     have hnb9 := NB563_564.out
     have hnc9 := NB564_563.out
     obtain ⟨hcz10_0, hcz10_1, hfz10_0, hfz10_1⟩ := Hof.blk2 BK563.out
     go_wp2
     go_loopg [5] k1 (fun kq v5 w' => ∃ (x5_2 : Int) (x565000_2 : Int) (x565001_2 : Int) (x565002_2 : Int), v5 = .int .i64 x5_2 ∧ Aside0 (spec_FirstFailure.l1 kq x4_1 x5_2 a0_0 l0_1 = some (r1, r2, r3, r4)) ∧ Aside0 (kq ≤ k1) ∧ Aside0 (w'.heap[gb563]? = some (.cells #[.int .i64 a0_0, (.slice A0_1 l0_1.length c0_1)] 35 (0, 0))) ∧ Aside0 (w'.heap[gb564]? = some (.cells #[.int .i64 x565000_2, .int .i64 x565001_2, .int .i64 x565002_2] 108 (0, 0))) ∧ Aside0 (Below w.heap.size w w'))
     case atStart => exact ⟨(0), (x565000_1), (x565001_1), (x565002_1), Hof.F, H', ⟨Nat.le_refl _⟩, ⟨Hof.Bw BK563.out⟩, ⟨Hof.Bw BK564.out⟩, ⟨Hof.Lw HB.out⟩⟩
     case round =>
      clear H'
      obtain ⟨x5_2, x565000_2, x565001_2, x565002_2, rfl, HA, HK2, BK563, BK564, HB⟩ := hrel
      cases gk with
      | zero => exact absurd HA.out (by simp [spec_FirstFailure.l1])
      | succ k2 =>
       have H := HA.out
       clear HA
       simp only [spec_FirstFailure.l1] at H
       by_cases c11 : x5_2 < (l0_1.length : Int)
       ·rw [if_pos c11] at H
        have c11b0 := decide_eq_true c11
        clear c11
        have H' := Aside0.mk H
        clear H
        have hnb12 := NB563_564.out
        have hnc12 := NB564_563.out
        obtain ⟨hcz13_0, hcz13_1, hfz13_0, hfz13_1⟩ := Hof.blk2 BK563.out
        go_wp2
        go_loopg [6] k2 (fun kq v6 w' => ∃ (x6_3 : Int) (x565000_3 : Int) (x565001_3 : Int) (x565002_3 : Int), v6 = .int .i64 x6_3 ∧ Aside0 (spec_FirstFailure.l2 kq x4_1 x5_2 x6_3 a0_0 l0_1 = some (r1, r2, r3, r4)) ∧ Aside0 (kq ≤ k2) ∧ Aside0 (w'.heap[gb563]? = some (.cells #[.int .i64 a0_0, (.slice A0_1 l0_1.length c0_1)] 35 (0, 0))) ∧ Aside0 (w'.heap[gb564]? = some (.cells #[.int .i64 x565000_3, .int .i64 x565001_3, .int .i64 x565002_3] 108 (0, 0))) ∧ Aside0 (Below w.heap.size w w'))
        case atStart => exact ⟨(0), (x565000_2), (x565001_2), (x565002_2), Hof.F, H', ⟨Nat.le_refl _⟩, ⟨Hof.Bw BK563.out⟩, ⟨Hof.Bw BK564.out⟩, ⟨Hof.Lw HB.out⟩⟩
        case round =>
         clear H'
         obtain ⟨x6_3, x565000_3, x565001_3, x565002_3, rfl, HA, HK3, BK563, BK564, HB⟩ := hrel
         cases gk with
         | zero => exact absurd HA.out (by simp [spec_FirstFailure.l2])
         | succ k3 =>
          have H := HA.out
          clear HA
          simp only [spec_FirstFailure.l2] at H
          by_cases c14 : x6_3 < a0_0
          ·rw [if_pos c14] at H
           have c14b0 := decide_eq_true c14
           clear c14
           by_cases c15 : 0 ≤ x4_1
           ·rw [if_pos c15] at H
            have c15b0 := decide_eq_true c15
            clear c15
            by_cases c16 : x4_1 < (l0_1.length : Int)
            ·rw [if_pos c16] at H
             have c16b0 := decide_eq_true c16
             clear c16
             by_cases c17 : 0 ≤ x5_2
             ·rw [if_pos c17] at H
              have c17b0 := decide_eq_true c17
              clear c17
              by_cases c18 : x5_2 < (l0_1.length : Int)
              ·rw [if_pos c18] at H
               have c18b0 := decide_eq_true c18
               clear c18
               obtain ⟨t568, A19, H⟩ := Hof.be H
               (try dsimp only at H)
               by_cases c20 : t568 = true
               ·subst c20
                replace H : ((spec_l2Has.f (rd l0_1 x5_2) x6_3).bind fun t569 => (if t569 = true then (spec_FirstFailure.l2 k3 x4_1 x5_2 (wrap64 (x6_3 + 1)) a0_0 l0_1) else ((spec_l4Exchange.f k3 a0_0 l0_1 (rd l0_1 x4_1) (rd l0_1 x5_2) x6_3).bind fun t570 => (if t570 = true then (spec_FirstFailure.l2 k3 x4_1 x5_2 (wrap64 (x6_3 + 1)) a0_0 l0_1) else (some (rd l0_1 x4_1, rd l0_1 x5_2, x6_3, true)))))) = some (r1, r2, r3, r4) := by rw [if_pos rfl] at H; exact H
                obtain ⟨t569, A21, H⟩ := Hof.be H
                (try dsimp only at H)
                by_cases c22 : t569 = true
                ·subst c22
                 replace H : (spec_FirstFailure.l2 k3 x4_1 x5_2 (wrap64 (x6_3 + 1)) a0_0 l0_1) = some (r1, r2, r3, r4) := by rw [if_pos rfl] at H; exact H
                 have H' := Aside0.mk H
                 clear H
                 have hnb23 := NB563_564.out
                 have hnc23 := NB564_563.out
                 obtain ⟨hcz24_0, hcz24_1, hfz24_0, hfz24_1⟩ := Hof.blk2 BK563.out
                 have p566 : 0 ≤ (x4_1 : Int) := Hof.D
                 have q566 : x4_1 < (l0_1.length : Int) := Hof.D
                 obtain ⟨ad566, e566, hx566_0⟩ := Kd.at_int HR0_1.out x4_1 p566 q566
                 cases e566
                 try replace hx566_0 := (HB.out.cell (World.block_lt_of_cell? w _ hx566_0)).trans hx566_0
                 replace p566 := eq_true p566
                 replace q566 := eq_true q566
                 have p567 : 0 ≤ (x5_2 : Int) := Hof.D
                 have q567 : x5_2 < (l0_1.length : Int) := Hof.D
                 obtain ⟨ad567, e567, hx567_0⟩ := Kd.at_int HR0_1.out x5_2 p567 q567
                 obtain rfl : ad566 = ad567 := (by injection e567)
                 try replace hx567_0 := (HB.out.cell (World.block_lt_of_cell? w _ hx567_0)).trans hx567_0
                 replace p567 := eq_true p567
                 replace q567 := eq_true q567
                 go_wp2_with (first | ((with_reducible refine gate_callee (f := 58) rfl ?_); refine Hof.gl (some 48) Try.func58 #[.int .i64 (rd l0_1 x4_1), .int .i64 x6_3] ?_; (with_reducible refine (spec_l2Has.calls (rd l0_1 x4_1) x6_3 true _ A19.out).mono ?_); rintro e w' ⟨rfl, ⟨nd, rfl⟩⟩; refine ⟨_, rfl, ?_⟩) | (go_at_call 58; (with_reducible refine (spec_l2Has.calls (rd l0_1 x5_2) x6_3 true _ A21.out).mono ?_); rintro e w' ⟨rfl, ⟨nd, rfl⟩⟩))
                 go_roundg k3
                 case measure => have := HK1.out; have := HK2.out; have := HK3.out; omega
                 case rel => exact ⟨(wrap64 (x6_3 + 1)), (x565000_3), (x565001_3), (x565002_3), Hof.F, H', ⟨by have := HK1.out; have := HK2.out; have := HK3.out; omega⟩, ⟨Hof.Bw BK563.out⟩, ⟨Hof.Bw BK564.out⟩, ⟨Hof.Lw HB.out⟩⟩
                ·replace c22 := Bool.eq_false_iff.mpr c22
                 subst c22
                 replace H : ((spec_l4Exchange.f k3 a0_0 l0_1 (rd l0_1 x4_1) (rd l0_1 x5_2) x6_3).bind fun t570 => (if t570 = true then (spec_FirstFailure.l2 k3 x4_1 x5_2 (wrap64 (x6_3 + 1)) a0_0 l0_1) else (some (rd l0_1 x4_1, rd l0_1 x5_2, x6_3, true)))) = some (r1, r2, r3, r4) := by rw [if_neg (show ¬ (false = true) by decide)] at H; exact H
                 obtain ⟨t570, A25, H⟩ := Hof.be H
                 (try dsimp only at H)
                 by_cases c26 : t570 = true
                 ·subst c26
                  replace H : (spec_FirstFailure.l2 k3 x4_1 x5_2 (wrap64 (x6_3 + 1)) a0_0 l0_1) = some (r1, r2, r3, r4) := by rw [if_pos rfl] at H; exact H
                  have H' := Aside0.mk H
                  clear H
                  have hnb27 := NB563_564.out
                  have hnc27 := NB564_563.out
                  obtain ⟨hcz28_0, hcz28_1, hfz28_0, hfz28_1⟩ := Hof.blk2 BK563.out
                  have p566 : 0 ≤ (x4_1 : Int) := Hof.D
                  have q566 : x4_1 < (l0_1.length : Int) := Hof.D
                  obtain ⟨ad566, e566, hx566_0⟩ := Kd.at_int HR0_1.out x4_1 p566 q566
                  cases e566
                  try replace hx566_0 := (HB.out.cell (World.block_lt_of_cell? w _ hx566_0)).trans hx566_0
                  replace p566 := eq_true p566
                  replace q566 := eq_true q566
                  have p567 : 0 ≤ (x5_2 : Int) := Hof.D
                  have q567 : x5_2 < (l0_1.length : Int) := Hof.D
                  obtain ⟨ad567, e567, hx567_0⟩ := Kd.at_int HR0_1.out x5_2 p567 q567
                  obtain rfl : ad566 = ad567 := (by injection e567)
                  try replace hx567_0 := (HB.out.cell (World.block_lt_of_cell? w _ hx567_0)).trans hx567_0
                  replace p567 := eq_true p567
                  replace q567 := eq_true q567
                  go_wp2_with (first | ((with_reducible refine gate_callee (f := 58) rfl ?_); refine Hof.gl (some 48) Try.func58 #[.int .i64 (rd l0_1 x4_1), .int .i64 x6_3] ?_; (with_reducible refine (spec_l2Has.calls (rd l0_1 x4_1) x6_3 true _ A19.out).mono ?_); rintro e w' ⟨rfl, ⟨nd, rfl⟩⟩; refine ⟨_, rfl, ?_⟩) | (go_at_call 58; (with_reducible refine (spec_l2Has.calls (rd l0_1 x5_2) x6_3 false _ A21.out).mono ?_); rintro e w' ⟨rfl, ⟨nd, rfl⟩⟩) | (go_at_call 140; (with_reducible refine (spec_l4Exchange.calls k3 a0_0 _ _ l0_1 (rd l0_1 x4_1) (rd l0_1 x5_2) x6_3 true _ ?side1 ?side2 A25.out).mono ?_); (case side1 => exact Hof.Cw (Kd.C_below HR0_1.out HB.out)); (case side2 => exact HC0_1.out); rintro e w29 ⟨rfl, hb⟩; replace BK563 := Hof.bb BK563 hb; replace BK564 := Hof.bb BK564 hb; replace HB := Hof.lb HB hb; (try clear hb); (try clear hb2); (try clear hk); (try clear hi)))
                  go_roundg k3
                  case measure => have := HK1.out; have := HK2.out; have := HK3.out; omega
                  case rel => exact ⟨(wrap64 (x6_3 + 1)), (x565000_3), (x565001_3), (x565002_3), Hof.F, H', ⟨by have := HK1.out; have := HK2.out; have := HK3.out; omega⟩, ⟨Hof.Bw BK563.out⟩, ⟨Hof.Bw BK564.out⟩, ⟨Hof.Lw HB.out⟩⟩
                 ·replace c26 := Bool.eq_false_iff.mpr c26
                  subst c26
                  replace H : (some (rd l0_1 x4_1, rd l0_1 x5_2, x6_3, true)) = some (r1, r2, r3, r4) := by rw [if_neg (show ¬ (false = true) by decide)] at H; exact H
                  simp only [Option.some.injEq, Prod.mk.injEq] at H
                  obtain ⟨rfl, rfl, rfl, rfl⟩ := H
                  have hnb30 := NB563_564.out
                  have hnc30 := NB564_563.out
                  obtain ⟨hcz31_0, hcz31_1, hfz31_0, hfz31_1⟩ := Hof.blk2 BK563.out
                  have p566 : 0 ≤ (x4_1 : Int) := Hof.D
                  have q566 : x4_1 < (l0_1.length : Int) := Hof.D
                  obtain ⟨ad566, e566, hx566_0⟩ := Kd.at_int HR0_1.out x4_1 p566 q566
                  cases e566
                  try replace hx566_0 := (HB.out.cell (World.block_lt_of_cell? w _ hx566_0)).trans hx566_0
                  replace p566 := eq_true p566
                  replace q566 := eq_true q566
                  have p567 : 0 ≤ (x5_2 : Int) := Hof.D
                  have q567 : x5_2 < (l0_1.length : Int) := Hof.D
                  obtain ⟨ad567, e567, hx567_0⟩ := Kd.at_int HR0_1.out x5_2 p567 q567
                  obtain rfl : ad566 = ad567 := (by injection e567)
                  try replace hx567_0 := (HB.out.cell (World.block_lt_of_cell? w _ hx567_0)).trans hx567_0
                  replace p567 := eq_true p567
                  replace q567 := eq_true q567
                  go_wp2_with (first | ((with_reducible refine gate_callee (f := 58) rfl ?_); refine Hof.gl (some 48) Try.func58 #[.int .i64 (rd l0_1 x4_1), .int .i64 x6_3] ?_; (with_reducible refine (spec_l2Has.calls (rd l0_1 x4_1) x6_3 true _ A19.out).mono ?_); rintro e w' ⟨rfl, ⟨nd, rfl⟩⟩; refine ⟨_, rfl, ?_⟩; (try (rw [drewN_self wr]; generalize hq_ : World.drewN wr _ = wr; have n0_ : Aside0 (wr.heap[gb563]? = some (.cells #[.int .i64 a0_0, .slice (some ad566) l0_1.length c0_1] 35 (0, 0))) := ⟨by rw [← hq_]; exact (Hof.Bw BK563.out)⟩; have n1_ : Aside0 (wr.heap[gb564]? = some (.cells #[.int .i64 x565000_3, .int .i64 x565001_3, .int .i64 x565002_3] 108 (0, 0))) := ⟨by rw [← hq_]; exact (Hof.Bw BK564.out)⟩; have n2_ : Aside0 (Below w.heap.size w wr) := ⟨by rw [← hq_]; exact (Hof.Lw HB.out)⟩; clear BK563 BK564 HB hq_; have BK563 := n0_; have BK564 := n1_; have HB := n2_; clear n0_ n1_ n2_; have hcy563_0 : wr.cell? ⟨gb563, 0, none⟩ = some (.int .i64 a0_0) := (blk_cell BK563.out 0).trans rfl; have hfy563_0 := blk_frozen BK563.out 0; have hcy563_1 : wr.cell? ⟨gb563, 1, none⟩ = some (.slice (some ad566) l0_1.length c0_1) := (blk_cell BK563.out 1).trans rfl; have hfy563_1 := blk_frozen BK563.out 1; have hcy564_0 : wr.cell? ⟨gb564, 0, none⟩ = some (.int .i64 x565000_3) := (blk_cell BK564.out 0).trans rfl; have hfy564_0 := blk_frozen BK564.out 0; have hcy564_1 : wr.cell? ⟨gb564, 1, none⟩ = some (.int .i64 x565001_3) := (blk_cell BK564.out 1).trans rfl; have hfy564_1 := blk_frozen BK564.out 1; have hcy564_2 : wr.cell? ⟨gb564, 2, none⟩ = some (.int .i64 x565002_3) := (blk_cell BK564.out 2).trans rfl; have hfy564_2 := blk_frozen BK564.out 2))) | (go_at_call 58; (with_reducible refine (spec_l2Has.calls (rd l0_1 x5_2) x6_3 false _ A21.out).mono ?_); rintro e w' ⟨rfl, ⟨nd, rfl⟩⟩; (try (rw [drewN_self wr]; generalize hq_ : World.drewN wr _ = wr; have n0_ : Aside0 (wr.heap[gb563]? = some (.cells #[.int .i64 a0_0, .slice (some ad566) l0_1.length c0_1] 35 (0, 0))) := ⟨by rw [← hq_]; exact (Hof.Bw BK563.out)⟩; have n1_ : Aside0 (wr.heap[gb564]? = some (.cells #[.int .i64 x565000_3, .int .i64 x565001_3, .int .i64 x565002_3] 108 (0, 0))) := ⟨by rw [← hq_]; exact (Hof.Bw BK564.out)⟩; have n2_ : Aside0 (Below w.heap.size w wr) := ⟨by rw [← hq_]; exact (Hof.Lw HB.out)⟩; clear BK563 BK564 HB hq_; have BK563 := n0_; have BK564 := n1_; have HB := n2_; clear n0_ n1_ n2_; have hcy563_0 : wr.cell? ⟨gb563, 0, none⟩ = some (.int .i64 a0_0) := (blk_cell BK563.out 0).trans rfl; have hfy563_0 := blk_frozen BK563.out 0; have hcy563_1 : wr.cell? ⟨gb563, 1, none⟩ = some (.slice (some ad566) l0_1.length c0_1) := (blk_cell BK563.out 1).trans rfl; have hfy563_1 := blk_frozen BK563.out 1; have hcy564_0 : wr.cell? ⟨gb564, 0, none⟩ = some (.int .i64 x565000_3) := (blk_cell BK564.out 0).trans rfl; have hfy564_0 := blk_frozen BK564.out 0; have hcy564_1 : wr.cell? ⟨gb564, 1, none⟩ = some (.int .i64 x565001_3) := (blk_cell BK564.out 1).trans rfl; have hfy564_1 := blk_frozen BK564.out 1; have hcy564_2 : wr.cell? ⟨gb564, 2, none⟩ = some (.int .i64 x565002_3) := (blk_cell BK564.out 2).trans rfl; have hfy564_2 := blk_frozen BK564.out 2))) | (go_at_call 140; (with_reducible refine (spec_l4Exchange.calls k3 a0_0 _ _ l0_1 (rd l0_1 x4_1) (rd l0_1 x5_2) x6_3 false _ ?side1 ?side2 A25.out).mono ?_); (case side1 => exact Hof.Cw (Kd.C_below HR0_1.out HB.out)); (case side2 => exact HC0_1.out); rintro e w32 ⟨rfl, hb⟩; replace BK563 := Hof.bb BK563 hb; replace BK564 := Hof.bb BK564 hb; replace HB := Hof.lb HB hb; (try clear hb); (try clear hb2); (try clear hk); (try clear hi); obtain ⟨hcz33_0, hcz33_1, hcz33_2, hfz33_0, hfz33_1, hfz33_2⟩ := Hof.blk3 BK564.out))
                  refine bodyPost_ret (results_ct rfl _ _ gb564 108 #[.int .i64 (rd l0_1 x4_1), .int .i64 (rd l0_1 x5_2), .int .i64 x6_3] (0, 0) _ rfl Hof.B Try.underlying108 rfl (by kernel_rfl)) rfl ?_
                  exact ⟨Hof.E, Hof.L⟩
               ·replace c20 := Bool.eq_false_iff.mpr c20
                subst c20
                replace H : (spec_FirstFailure.l2 k3 x4_1 x5_2 (wrap64 (x6_3 + 1)) a0_0 l0_1) = some (r1, r2, r3, r4) := by rw [if_neg (show ¬ (false = true) by decide)] at H; exact H
                have H' := Aside0.mk H
                clear H
                have hnb34 := NB563_564.out
                have hnc34 := NB564_563.out
                obtain ⟨hcz35_0, hcz35_1, hfz35_0, hfz35_1⟩ := Hof.blk2 BK563.out
                have p566 : 0 ≤ (x4_1 : Int) := Hof.D
                have q566 : x4_1 < (l0_1.length : Int) := Hof.D
                obtain ⟨ad566, e566, hx566_0⟩ := Kd.at_int HR0_1.out x4_1 p566 q566
                cases e566
                try replace hx566_0 := (HB.out.cell (World.block_lt_of_cell? w _ hx566_0)).trans hx566_0
                replace p566 := eq_true p566
                replace q566 := eq_true q566
                have p567 : 0 ≤ (x5_2 : Int) := Hof.D
                have q567 : x5_2 < (l0_1.length : Int) := Hof.D
                obtain ⟨ad567, e567, hx567_0⟩ := Kd.at_int HR0_1.out x5_2 p567 q567
                obtain rfl : ad566 = ad567 := (by injection e567)
                try replace hx567_0 := (HB.out.cell (World.block_lt_of_cell? w _ hx567_0)).trans hx567_0
                replace p567 := eq_true p567
                replace q567 := eq_true q567
                go_wp2_with (first | ((with_reducible refine gate_callee (f := 58) rfl ?_); refine Hof.gl (some 48) Try.func58 #[.int .i64 (rd l0_1 x4_1), .int .i64 x6_3] ?_; (with_reducible refine (spec_l2Has.calls (rd l0_1 x4_1) x6_3 false _ A19.out).mono ?_); rintro e w' ⟨rfl, ⟨nd, rfl⟩⟩; refine ⟨_, rfl, ?_⟩))
                go_roundg k3
                case measure => have := HK1.out; have := HK2.out; have := HK3.out; omega
                case rel => exact ⟨(wrap64 (x6_3 + 1)), (x565000_3), (x565001_3), (x565002_3), Hof.F, H', ⟨by have := HK1.out; have := HK2.out; have := HK3.out; omega⟩, ⟨Hof.Bw BK563.out⟩, ⟨Hof.Bw BK564.out⟩, ⟨Hof.Lw HB.out⟩⟩
              ·rw [if_neg c18] at H
               exact absurd H (by simp)
             ·rw [if_neg c17] at H
              exact absurd H (by simp)
            ·rw [if_neg c16] at H
             exact absurd H (by simp)
           ·rw [if_neg c15] at H
            exact absurd H (by simp)
          ·rw [if_neg c14] at H
           have c14b0 : decide (x6_3 < a0_0) = false := decide_eq_false c14
           clear c14
           have H' := Aside0.mk H
           clear H
           have hnb36 := NB563_564.out
           have hnc36 := NB564_563.out
           obtain ⟨hcz37_0, hcz37_1, hfz37_0, hfz37_1⟩ := Hof.blk2 BK563.out
           go_wp2
           go_roundg k3
           case measure => have := HK1.out; have := HK2.out; have := HK3.out; omega
           case rel => exact ⟨(wrap64 (x5_2 + 1)), (x565000_3), (x565001_3), (x565002_3), Hof.F, H', ⟨by have := HK1.out; have := HK2.out; have := HK3.out; omega⟩, ⟨Hof.Bw BK563.out⟩, ⟨Hof.Bw BK564.out⟩, ⟨Hof.Lw HB.out⟩⟩
       ·rw [if_neg c11] at H
        have c11b0 : decide (x5_2 < (l0_1.length : Int)) = false := decide_eq_false c11
        clear c11
        have H' := Aside0.mk H
        clear H
        have hnb38 := NB563_564.out
        have hnc38 := NB564_563.out
        obtain ⟨hcz39_0, hcz39_1, hfz39_0, hfz39_1⟩ := Hof.blk2 BK563.out
        go_wp2
        go_roundg k2
        case measure => have := HK1.out; have := HK2.out; omega
        case rel => exact ⟨(wrap64 (x4_1 + 1)), (x565000_2), (x565001_2), (x565002_2), Hof.F, H', ⟨by have := HK1.out; have := HK2.out; omega⟩, ⟨Hof.Bw BK563.out⟩, ⟨Hof.Bw BK564.out⟩, ⟨Hof.Lw HB.out⟩⟩
    ·rw [if_neg c8] at H
     have c8b0 : decide (x4_1 < (l0_1.length : Int)) = false := decide_eq_false c8
     clear c8
     simp only [Option.some.injEq, Prod.mk.injEq] at H
     obtain ⟨rfl, rfl, rfl, rfl⟩ := H
     have hnb40 := NB563_564.out
     have hnc40 := NB564_563.out
     obtain ⟨hcz41_0, hcz41_1, hfz41_0, hfz41_1⟩ := Hof.blk2 BK563.out
     obtain ⟨hcz42_0, hcz42_1, hcz42_2, hfz42_0, hfz42_1, hfz42_2⟩ := Hof.blk3 BK564.out
     go_wp2
     refine bodyPost_ret (results_ct rfl _ _ gb564 108 #[.int .i64 0, .int .i64 0, .int .i64 0] (0, 0) _ rfl Hof.B Try.underlying108 rfl (by kernel_rfl)) rfl ?_
     exact ⟨Hof.E, Hof.L⟩
 ·replace c3 := Bool.eq_false_iff.mpr c3
  subst c3
  replace H : (some (0, 0, 0, false)) = some (r1, r2, r3, r4) := by rw [if_neg (show ¬ (false = true) by decide)] at H; exact H
  simp only [Option.some.injEq, Prod.mk.injEq] at H
  obtain ⟨rfl, rfl, rfl, rfl⟩ := H
  go_enter Try.func113, Try.ntmps113
  go_wp2_with (first | ((with_reducible refine gate_dst (N := 1) rfl ?_); refine Hof.bx 1 #[.int .i64 a0_0, .slice A0_1 l0_1.length c0_1] 35 ?_; intro gb563 hg w43 hbox hb; have BK563 := Aside0.mk hbox; have GW563 := Hof.gw hg HB; have GE563 := Hof.gw hg HB; replace HB := Hof.lb HB hb; clear hb hbox hg) | ((with_reducible refine gate_dst (N := 2) rfl ?_); refine Hof.bx 2 #[.int .i64 0, .int .i64 0, .int .i64 0] 108 ?_; intro gb564 hg w44 hbox hb; have BK564 := Aside0.mk hbox; have GW564 := Hof.gw hg HB; have GE564 := Hof.gw hg HB; replace HB := Hof.lb HB hb; have NB563_564 := Hof.nl hg BK563; have NB564_563 := Hof.ng hg BK563; replace BK563 := Hof.bb BK563 hb; clear hb hbox hg; have hnb45 := NB563_564.out; have hnc45 := NB564_563.out; obtain ⟨hcz46_0, hcz46_1, hfz46_0, hfz46_1⟩ := Hof.blk2 BK563.out) | ((with_reducible refine gate_callee (f := 114) rfl ?_); refine Hof.gl (some 13) Try.func114 #[.int .i64 a0_0, .slice A0_1 l0_1.length c0_1] ?_; (with_reducible refine (spec_IsFamily.calls k a0_0 _ _ l0_1 false _ ?side1 ?side2 A2.out).mono ?_); (case side1 => exact Hof.Cw (Kd.C_below HR0_1.out HB.out)); (case side2 => exact HC0_1.out); rintro e w' ⟨rfl, ⟨nd, rfl⟩⟩; refine ⟨_, rfl, ?_⟩; (try (rw [drewN_self w44]; generalize hq_ : World.drewN w44 _ = w44; have n0_ : Aside0 (w44.heap[gb563]? = some (.cells #[.int .i64 a0_0, .slice A0_1 l0_1.length c0_1] 35 (0, 0))) := ⟨by rw [← hq_]; exact (Hof.Bw BK563.out)⟩; have n1_ : Aside0 (w44.heap[gb564]? = some (.cells #[.int .i64 0, .int .i64 0, .int .i64 0] 108 (0, 0))) := ⟨by rw [← hq_]; exact (Hof.Bw BK564.out)⟩; have n2_ : Aside0 (Below w.heap.size w w44) := ⟨by rw [← hq_]; exact (Hof.Lw HB.out)⟩; clear BK563 BK564 HB hq_; have BK563 := n0_; have BK564 := n1_; have HB := n2_; clear n0_ n1_ n2_; have hcy563_0 : w44.cell? ⟨gb563, 0, none⟩ = some (.int .i64 a0_0) := (blk_cell BK563.out 0).trans rfl; have hfy563_0 := blk_frozen BK563.out 0; have hcy563_1 : w44.cell? ⟨gb563, 1, none⟩ = some (.slice A0_1 l0_1.length c0_1) := (blk_cell BK563.out 1).trans rfl; have hfy563_1 := blk_frozen BK563.out 1; have hcy564_0 : w44.cell? ⟨gb564, 0, none⟩ = some (.int .i64 0) := (blk_cell BK564.out 0).trans rfl; have hfy564_0 := blk_frozen BK564.out 0; have hcy564_1 : w44.cell? ⟨gb564, 1, none⟩ = some (.int .i64 0) := (blk_cell BK564.out 1).trans rfl; have hfy564_1 := blk_frozen BK564.out 1; have hcy564_2 : w44.cell? ⟨gb564, 2, none⟩ = some (.int .i64 0) := (blk_cell BK564.out 2).trans rfl; have hfy564_2 := blk_frozen BK564.out 2)); obtain ⟨hcz47_0, hcz47_1, hcz47_2, hfz47_0, hfz47_1, hfz47_2⟩ := Hof.blk3 BK564.out))
  refine bodyPost_ret (results_ct rfl _ _ gb564 108 #[.int .i64 0, .int .i64 0, .int .i64 0] (0, 0) _ rfl Hof.B Try.underlying108 rfl (by kernel_rfl)) rfl ?_
  exact ⟨Hof.E, Hof.L⟩
def spec_IsMatroid.f (k : Nat) (a0_0 : Int) (l0_1 : List Int) : Option (Bool) := (spec_FirstFailure.f k a0_0 l0_1).bind fun bt572 => ((spec_IsFamily.f k a0_0 l0_1).bind fun t577 => (if t577 = true then (if (l0_1.length : Int) > 0 then (some (!bt572.2.2.2)) else (some false)) else (some false)))
set_option maxHeartbeats 8000000 in
set_option maxRecDepth 100000 in
theorem spec_IsMatroid.calls (k : Nat) (a0_0 : Int) (A0_1 : Option Addr) (c0_1 : Nat) (l0_1 : List Int) (r : Bool) (w : World) (hr0_1 : Kd.C (Kd.int .i64) w A0_1 l0_1.length l0_1) (hc0_1 : l0_1.length ≤ c0_1) (h : spec_IsMatroid.f k a0_0 l0_1 = some r) :
  Calls Try.prog 76 #[.agg #[.int .i64 a0_0, .slice A0_1 l0_1.length c0_1]] w fun e w' => e = .returned (.bool r) ∧ Below w.heap.size w w' := by
 have hu35 := Try.underlying35
 have hu108 := Try.underlying108
 have HR0_1 := Aside0.mk hr0_1
 have HC0_1 := Aside0.mk hc0_1
 clear hr0_1 hc0_1
 have HB := Aside0.mk (Below.refl w.heap.size w)
 unfold spec_IsMatroid.f at h
 have H := h
 clear h
 obtain ⟨⟨t572, t573, t574, t575⟩, A2, H⟩ := Hof.be H
 (try dsimp only at H)
 obtain ⟨t577, A3, H⟩ := Hof.be H
 (try dsimp only at H)
 by_cases c4 : t577 = true
 ·subst c4
  replace H : (if (l0_1.length : Int) > 0 then (some (!t575)) else (some false)) = some r := by rw [if_pos rfl] at H; exact H
  by_cases c5 : (l0_1.length : Int) > 0
  ·rw [if_pos c5] at H
   have c5b0 := decide_eq_true c5
   have c5b1 : decide (0 < l0_1.length) = true := decide_eq_true (by omega)
   clear c5
   obtain rfl := Option.some.inj H
   go_enter Try.func76, Try.ntmps76
   go_wp2_with (first | ((with_reducible refine gate_dst (N := 1) rfl ?_); (try (refine gate_guard (by rfl) ?_; dsimp only)); refine box_event ?hg (N := 1) ?hd (cs := #[.int .i64 a0_0, .slice A0_1 l0_1.length c0_1]) (t := 35) ?hr ?_; (case hd => rfl); (case hg => rfl); (case hr => first | (go_simp; done) | (go_simp; rfl)); intro gb571 hg w6 hbox hb; have BK571 := Aside0.mk hbox; have GW571 := Hof.gw hg HB; have GE571 := Hof.gw hg HB; replace HB := Hof.lb HB hb; clear hb hbox hg; obtain ⟨hcz7_0, hcz7_1, hfz7_0, hfz7_1⟩ := Hof.blk2 BK571.out) | (refine Hof.gl (some 7) Try.func113 #[.agg #[.int .i64 a0_0, .slice A0_1 l0_1.length c0_1]] ?_; (with_reducible refine (spec_FirstFailure.calls k a0_0 _ _ l0_1 t572 t573 t574 t575 _ ?side1 ?side2 A2.out).mono ?_); (case side1 => exact Hof.Cw (Kd.C_below HR0_1.out HB.out)); (case side2 => exact HC0_1.out); rintro e w8 ⟨rfl, hb⟩; refine ⟨_, rfl, ?_⟩; replace BK571 := Hof.bb BK571 hb; replace HB := Aside0.mk (below_step Hof.L hb); (try clear hb); (try clear hb2); (try clear hk); (try clear hi)) | ((with_reducible refine gate_dst (N := 3) rfl ?_); (try (refine gate_guard (by rfl) ?_; dsimp only)); refine box_event ?hg (N := 3) ?hd (cs := #[.int .i64 0, .int .i64 0, .int .i64 0]) (t := 108) ?hr ?_; (case hd => rfl); (case hg => rfl); (case hr => first | (go_simp; done) | (go_simp; rfl)); intro gb576 hg w9 hbox hb; have BK576 := Aside0.mk hbox; have GW576 := Hof.gL (w := w) hg Hof.L; have GE576 := Hof.gL (w := w) hg Hof.L; replace HB := Aside0.mk (below_step Hof.L hb); have NB571_576 := Hof.nl hg BK571; have NB576_571 := Hof.ng hg BK571; replace BK571 := Hof.bb BK571 hb; clear hb hbox hg; have hnb10 := NB576_571.out; have hnc10 := NB571_576.out; obtain ⟨hcz11_0, hcz11_1, hcz11_2, hfz11_0, hfz11_1, hfz11_2⟩ := Hof.blk3 BK576.out; obtain ⟨hcz12_0, hcz12_1, hfz12_0, hfz12_1⟩ := Hof.blk2 BK571.out) | (refine Hof.gl (some 14) Try.func114 #[.int .i64 a0_0, .slice A0_1 l0_1.length c0_1] ?_; (with_reducible refine (spec_IsFamily.calls k a0_0 _ _ l0_1 true _ ?side1 ?side2 A3.out).mono ?_); (case side1 => exact Kd.C_below HR0_1.out Hof.L); (case side2 => exact HC0_1.out); rintro e w' ⟨rfl, ⟨nd, rfl⟩⟩; refine ⟨_, rfl, ?_⟩))
   go_ret
   exact ⟨Hof.E, Hof.L⟩
  ·rw [if_neg c5] at H
   have c5b0 : decide (0 < (l0_1.length : Int)) = false := decide_eq_false c5
   have c5b1 : decide (0 < l0_1.length) = false := decide_eq_false (by omega)
   clear c5
   obtain rfl := Option.some.inj H
   go_enter Try.func76, Try.ntmps76
   go_wp2_with (first | ((with_reducible refine gate_dst (N := 1) rfl ?_); (try (refine gate_guard (by rfl) ?_; dsimp only)); refine box_event ?hg (N := 1) ?hd (cs := #[.int .i64 a0_0, .slice A0_1 l0_1.length c0_1]) (t := 35) ?hr ?_; (case hd => rfl); (case hg => rfl); (case hr => first | (go_simp; done) | (go_simp; rfl)); intro gb571 hg w13 hbox hb; have BK571 := Aside0.mk hbox; have GW571 := Hof.gw hg HB; have GE571 := Hof.gw hg HB; replace HB := Hof.lb HB hb; clear hb hbox hg; obtain ⟨hcz14_0, hcz14_1, hfz14_0, hfz14_1⟩ := Hof.blk2 BK571.out) | (refine Hof.gl (some 7) Try.func113 #[.agg #[.int .i64 a0_0, .slice A0_1 l0_1.length c0_1]] ?_; (with_reducible refine (spec_FirstFailure.calls k a0_0 _ _ l0_1 t572 t573 t574 t575 _ ?side1 ?side2 A2.out).mono ?_); (case side1 => exact Hof.Cw (Kd.C_below HR0_1.out HB.out)); (case side2 => exact HC0_1.out); rintro e w15 ⟨rfl, hb⟩; refine ⟨_, rfl, ?_⟩; replace BK571 := Hof.bb BK571 hb; replace HB := Aside0.mk (below_step Hof.L hb); (try clear hb); (try clear hb2); (try clear hk); (try clear hi)) | ((with_reducible refine gate_dst (N := 3) rfl ?_); (try (refine gate_guard (by rfl) ?_; dsimp only)); refine box_event ?hg (N := 3) ?hd (cs := #[.int .i64 0, .int .i64 0, .int .i64 0]) (t := 108) ?hr ?_; (case hd => rfl); (case hg => rfl); (case hr => first | (go_simp; done) | (go_simp; rfl)); intro gb576 hg w16 hbox hb; have BK576 := Aside0.mk hbox; have GW576 := Hof.gL (w := w) hg Hof.L; have GE576 := Hof.gL (w := w) hg Hof.L; replace HB := Aside0.mk (below_step Hof.L hb); have NB571_576 := Hof.nl hg BK571; have NB576_571 := Hof.ng hg BK571; replace BK571 := Hof.bb BK571 hb; clear hb hbox hg; have hnb17 := NB576_571.out; have hnc17 := NB571_576.out; obtain ⟨hcz18_0, hcz18_1, hcz18_2, hfz18_0, hfz18_1, hfz18_2⟩ := Hof.blk3 BK576.out; obtain ⟨hcz19_0, hcz19_1, hfz19_0, hfz19_1⟩ := Hof.blk2 BK571.out) | (refine Hof.gl (some 14) Try.func114 #[.int .i64 a0_0, .slice A0_1 l0_1.length c0_1] ?_; (with_reducible refine (spec_IsFamily.calls k a0_0 _ _ l0_1 true _ ?side1 ?side2 A3.out).mono ?_); (case side1 => exact Kd.C_below HR0_1.out Hof.L); (case side2 => exact HC0_1.out); rintro e w' ⟨rfl, ⟨nd, rfl⟩⟩; refine ⟨_, rfl, ?_⟩))
   go_ret
   exact ⟨Hof.E, Hof.L⟩
 ·replace c4 := Bool.eq_false_iff.mpr c4
  subst c4
  replace H : (some false) = some r := by rw [if_neg (show ¬ (false = true) by decide)] at H; exact H
  obtain rfl := Option.some.inj H
  go_enter Try.func76, Try.ntmps76
  go_wp2_with (first | ((with_reducible refine gate_dst (N := 1) rfl ?_); (try (refine gate_guard (by rfl) ?_; dsimp only)); refine box_event ?hg (N := 1) ?hd (cs := #[.int .i64 a0_0, .slice A0_1 l0_1.length c0_1]) (t := 35) ?hr ?_; (case hd => rfl); (case hg => rfl); (case hr => first | (go_simp; done) | (go_simp; rfl)); intro gb571 hg w20 hbox hb; have BK571 := Aside0.mk hbox; have GW571 := Hof.gw hg HB; have GE571 := Hof.gw hg HB; replace HB := Hof.lb HB hb; clear hb hbox hg; obtain ⟨hcz21_0, hcz21_1, hfz21_0, hfz21_1⟩ := Hof.blk2 BK571.out) | (refine Hof.gl (some 7) Try.func113 #[.agg #[.int .i64 a0_0, .slice A0_1 l0_1.length c0_1]] ?_; (with_reducible refine (spec_FirstFailure.calls k a0_0 _ _ l0_1 t572 t573 t574 t575 _ ?side1 ?side2 A2.out).mono ?_); (case side1 => exact Hof.Cw (Kd.C_below HR0_1.out HB.out)); (case side2 => exact HC0_1.out); rintro e w22 ⟨rfl, hb⟩; refine ⟨_, rfl, ?_⟩; replace BK571 := Hof.bb BK571 hb; replace HB := Aside0.mk (below_step Hof.L hb); (try clear hb); (try clear hb2); (try clear hk); (try clear hi)) | ((with_reducible refine gate_dst (N := 3) rfl ?_); (try (refine gate_guard (by rfl) ?_; dsimp only)); refine box_event ?hg (N := 3) ?hd (cs := #[.int .i64 0, .int .i64 0, .int .i64 0]) (t := 108) ?hr ?_; (case hd => rfl); (case hg => rfl); (case hr => first | (go_simp; done) | (go_simp; rfl)); intro gb576 hg w23 hbox hb; have BK576 := Aside0.mk hbox; have GW576 := Hof.gL (w := w) hg Hof.L; have GE576 := Hof.gL (w := w) hg Hof.L; replace HB := Aside0.mk (below_step Hof.L hb); have NB571_576 := Hof.nl hg BK571; have NB576_571 := Hof.ng hg BK571; replace BK571 := Hof.bb BK571 hb; clear hb hbox hg; have hnb24 := NB576_571.out; have hnc24 := NB571_576.out; obtain ⟨hcz25_0, hcz25_1, hcz25_2, hfz25_0, hfz25_1, hfz25_2⟩ := Hof.blk3 BK576.out; obtain ⟨hcz26_0, hcz26_1, hfz26_0, hfz26_1⟩ := Hof.blk2 BK571.out) | (refine Hof.gl (some 14) Try.func114 #[.int .i64 a0_0, .slice A0_1 l0_1.length c0_1] ?_; (with_reducible refine (spec_IsFamily.calls k a0_0 _ _ l0_1 false _ ?side1 ?side2 A3.out).mono ?_); (case side1 => exact Kd.C_below HR0_1.out Hof.L); (case side2 => exact HC0_1.out); rintro e w' ⟨rfl, ⟨nd, rfl⟩⟩; refine ⟨_, rfl, ?_⟩))
  go_ret
  exact ⟨Hof.E, Hof.L⟩
def spec_l1Bit.f (a0 : Bool) : Option (Int) := if a0 = true then (some 1) else (some 0)
set_option maxHeartbeats 8000000 in
set_option maxRecDepth 100000 in
theorem spec_l1Bit.calls (a0 : Bool) (r : Int) (w : World) (h : spec_l1Bit.f a0 = some r) :
  Calls Try.prog 91 #[.bool a0] w fun e w' => e = .returned (.int .i64 r) ∧ Drawn0 w w' := by
 unfold spec_l1Bit.f at h
 have H := h
 clear h
 by_cases c2 : a0 = true
 ·subst c2
  replace H : (some 1) = some r := by rw [if_pos rfl] at H; exact H
  obtain rfl := Option.some.inj H
  go_enter Try.func91, Try.ntmps91
  go_wp2
  go_ret
  exact ⟨Hof.F, Hof.G⟩
 ·replace c2 := Bool.eq_false_iff.mpr c2
  subst c2
  replace H : (some 0) = some r := by rw [if_neg (show ¬ (false = true) by decide)] at H; exact H
  obtain rfl := Option.some.inj H
  go_enter Try.func91, Try.ntmps91
  go_wp2
  go_ret
  exact ⟨Hof.F, Hof.G⟩
def spec_HasElement.f (a0 : Int) (a1 : Int) : Option (Bool) := (spec_IsSet.f 8 a0).bind fun t767 => (if t767 = true then ((spec_l1In.f a1 0 7).bind fun t768 => (if t768 = true then ((spec_l2Has.f a0 a1).bind fun t769 => (some t769)) else (some false))) else (some false))
set_option maxHeartbeats 8000000 in
set_option maxRecDepth 100000 in
theorem spec_HasElement.calls (a0 : Int) (a1 : Int) (r : Bool) (w : World) (h : spec_HasElement.f a0 a1 = some r) :
  Calls Try.prog 141 #[.int .i64 a0, .int .i64 a1] w fun e w' => e = .returned (.bool r) ∧ Drawn0 w w' := by
 unfold spec_HasElement.f at h
 have H := h
 clear h
 obtain ⟨t767, A3, H⟩ := Hof.be H
 (try dsimp only at H)
 by_cases c4 : t767 = true
 ·subst c4
  replace H : ((spec_l1In.f a1 0 7).bind fun t768 => (if t768 = true then ((spec_l2Has.f a0 a1).bind fun t769 => (some t769)) else (some false))) = some r := by rw [if_pos rfl] at H; exact H
  obtain ⟨t768, A5, H⟩ := Hof.be H
  (try dsimp only at H)
  by_cases c6 : t768 = true
  ·subst c6
   replace H : ((spec_l2Has.f a0 a1).bind fun t769 => (some t769)) = some r := by rw [if_pos rfl] at H; exact H
   obtain ⟨t769, A7, H⟩ := Hof.be H
   (try dsimp only at H)
   obtain rfl := Option.some.inj H
   go_enter Try.func141, Try.ntmps141
   go_wp2_with (first | ((with_reducible refine gate_callee (f := 56) rfl ?_); refine Hof.gl (some 6) Try.func56 #[.int .i64 8, .int .i64 a0] ?_; (with_reducible refine (spec_IsSet.calls 8 a0 true _ A3.out).mono ?_); rintro e w' ⟨rfl, ⟨nd, rfl⟩⟩; refine ⟨_, rfl, ?_⟩) | (go_at_call 89; (with_reducible refine (spec_l1In.calls a1 0 7 true _ A5.out).mono ?_); rintro e w' ⟨rfl, ⟨nd, rfl⟩⟩) | (go_at_call 58; (with_reducible refine (spec_l2Has.calls a0 a1 t769 _ A7.out).mono ?_); rintro e w' ⟨rfl, ⟨nd, rfl⟩⟩))
   go_ret
   exact ⟨Hof.F, Hof.G⟩
  ·replace c6 := Bool.eq_false_iff.mpr c6
   subst c6
   replace H : (some false) = some r := by rw [if_neg (show ¬ (false = true) by decide)] at H; exact H
   obtain rfl := Option.some.inj H
   go_enter Try.func141, Try.ntmps141
   go_wp2_with (first | ((with_reducible refine gate_callee (f := 56) rfl ?_); refine Hof.gl (some 6) Try.func56 #[.int .i64 8, .int .i64 a0] ?_; (with_reducible refine (spec_IsSet.calls 8 a0 true _ A3.out).mono ?_); rintro e w' ⟨rfl, ⟨nd, rfl⟩⟩; refine ⟨_, rfl, ?_⟩) | (go_at_call 89; (with_reducible refine (spec_l1In.calls a1 0 7 false _ A5.out).mono ?_); rintro e w' ⟨rfl, ⟨nd, rfl⟩⟩))
   go_ret
   exact ⟨Hof.F, Hof.G⟩
 ·replace c4 := Bool.eq_false_iff.mpr c4
  subst c4
  replace H : (some false) = some r := by rw [if_neg (show ¬ (false = true) by decide)] at H; exact H
  obtain rfl := Option.some.inj H
  go_enter Try.func141, Try.ntmps141
  go_wp2_with (first | ((with_reducible refine gate_callee (f := 56) rfl ?_); refine Hof.gl (some 6) Try.func56 #[.int .i64 8, .int .i64 a0] ?_; (with_reducible refine (spec_IsSet.calls 8 a0 false _ A3.out).mono ?_); rintro e w' ⟨rfl, ⟨nd, rfl⟩⟩; refine ⟨_, rfl, ?_⟩))
  go_ret
  exact ⟨Hof.F, Hof.G⟩
def spec_ElementsOf.l0 : Nat → Int → List Int → Int → Option (List Int)
 | 0, _, _, _ => none
 | k + 1, x0, x3, x4 => if x4 < 8 then ((spec_HasElement.f x0 x4).bind fun t773 => (if t773 = true then (if x3.length < 17592186044416 then (spec_ElementsOf.l0 k x0 (x3 ++ [x4]) (wrap64 (x4 + 1))) else (none)) else (spec_ElementsOf.l0 k x0 x3 (wrap64 (x4 + 1))))) else (some x3)
def spec_ElementsOf.f (k : Nat) (a0 : Int) : Option (List Int) := spec_ElementsOf.l0 k a0 (([] : List Int)) 0
set_option maxHeartbeats 8000000 in
set_option maxRecDepth 100000 in
theorem spec_ElementsOf.calls (k : Nat) (a0 : Int) (r : List Int) (w : World) (h : spec_ElementsOf.f k a0 = some r) :
  Calls Try.prog 115 #[.int .i64 a0] w fun e w' => ∃ v0_ : Value, e = .returned (v0_) ∧ Kd.R (Kd.int .i64) 3 w' w.heap.size (fun _ => True) v0_ r ∧ Below w.heap.size w w' := by
 have HB := Aside0.mk (Below.refl w.heap.size w)
 unfold spec_ElementsOf.f at h
 have H := h
 clear h
 obtain ⟨y770, hy770⟩ : ∃ y_ : List Int, y_ = (([] : List Int)) := ⟨_, rfl⟩
 replace H : (spec_ElementsOf.l0 k a0 y770 0) = some r := by (try rw [hy770]); exact Hof.Z
 have Ny770 := Aside0.mk hy770
 clear hy770
 have H' := Aside0.mk H
 clear H
 go_enter Try.func115, Try.ntmps115
 go_wp2_with (first | (refine Hof.lt (Kd.int .i64) 3 5 ?_; intro v771 w2 ho3 hb hg_ hnew_; clear hg_ hnew_; (first | rw [← Ny770.out] at ho3 | (simp only [Int.reduceToNat] at ho3; rw [← Ny770.out] at ho3)); have HO772 := Aside0.mk (Kd.R_lower ho3 (below_size (Hof.Lw HB.out))); replace HB := Hof.lb HB hb; clear hb ho3))
 go_loopg [3, 4] k (fun kq v3 v4 w' => ∃ (x3_1 : List Int) (x4_1 : Int), v4 = .int .i64 x4_1 ∧ Aside0 (spec_ElementsOf.l0 kq a0 x3_1 x4_1 = some r) ∧ Aside0 (kq ≤ k) ∧ Aside0 (Kd.R (Kd.int .i64) 3 w' w.heap.size (fun _ => True) v3 x3_1) ∧ Aside0 (Below w.heap.size w w'))
 case atStart => exact ⟨(y770), (0), Hof.F, H', ⟨Nat.le_refl _⟩, ⟨Hof.Rw HO772.out⟩, ⟨Hof.Lw HB.out⟩⟩
 case round =>
  clear H'
  obtain ⟨x3_1, x4_1, rfl, HA, HK1, HO_3, HB⟩ := hrel
  cases gk with
  | zero => exact absurd HA.out (by simp [spec_ElementsOf.l0])
  | succ k1 =>
   have H := HA.out
   clear HA
   simp only [spec_ElementsOf.l0] at H
   by_cases c4 : x4_1 < 8
   ·rw [if_pos c4] at H
    have c4b0 := decide_eq_true c4
    clear c4
    obtain ⟨t773, A5, H⟩ := Hof.be H
    (try dsimp only at H)
    by_cases c6 : t773 = true
    ·subst c6
     replace H : (if x3_1.length < 17592186044416 then (spec_ElementsOf.l0 k1 a0 (x3_1 ++ [x4_1]) (wrap64 (x4_1 + 1))) else (none)) = some r := by rw [if_pos rfl] at H; exact H
     by_cases c7 : x3_1.length < 17592186044416
     ·rw [if_pos c7] at H
      have LMc7 := Aside0.mk c7
      clear c7
      obtain ⟨y774, hy774⟩ : ∃ y_ : List Int, y_ = (x3_1 ++ [x4_1]) := ⟨_, rfl⟩
      replace H : (spec_ElementsOf.l0 k1 a0 y774 (wrap64 (x4_1 + 1))) = some r := by (try rw [hy774]); exact Hof.Z
      have Ny774 := Aside0.mk hy774
      clear hy774
      have H' := Aside0.mk H
      clear H
      go_wp2_with (first | (refine Hof.gl (some 12) Try.func141 #[.int .i64 a0, .int .i64 x4_1] ?_; (with_reducible refine (spec_HasElement.calls a0 x4_1 true _ A5.out).mono ?_); rintro e w' ⟨rfl, ⟨nd, rfl⟩⟩; refine ⟨_, rfl, ?_⟩) | ((with_reducible refine gate_builtin (b := .append) (xs := #[.tmp 13, .tmp 15]) rfl ?_); at_builtin; refine Kd.R_append (Kd.int .i64) (w0 := w) w.heap.size rfl (.tmp 13) (.tmp 15) 24 3 (.int .i64 0) 8 rfl Try.underlying24 info3 rfl (by decide) (by omega) u3 x3_1 x4_1 [.int .i64 x4_1] (fun _ => True) (fun _ => False) rfl rfl (by exact rfl) (fun _ hk => hk.elim) (by exact fun _ _ => trivial) (by exact Hof.Rw HO_3.out) (by exact Hof.Lw HB.out) (by exact below_size (Hof.Lw HB.out)) (by have := LMc7.out; omega) ?_; intro v775 w8 ho hb hg hat; rw [← Ny774.out] at ho; have n0_ := Aside0.mk hb; have n1_ := Aside0.mk ho; clear HB; clear HO_3; have HB := n0_; have HO776 := n1_; clear n0_ n1_; clear ho hb hg hat))
      go_roundg k1
      case measure => have := HK1.out; omega
      case rel => exact ⟨(y774), (wrap64 (x4_1 + 1)), Hof.F, H', ⟨by have := HK1.out; omega⟩, ⟨Hof.Rw HO776.out⟩, ⟨Hof.Lw HB.out⟩⟩
     ·rw [if_neg c7] at H
      exact absurd H (by simp)
    ·replace c6 := Bool.eq_false_iff.mpr c6
     subst c6
     replace H : (spec_ElementsOf.l0 k1 a0 x3_1 (wrap64 (x4_1 + 1))) = some r := by rw [if_neg (show ¬ (false = true) by decide)] at H; exact H
     have H' := Aside0.mk H
     clear H
     go_wp2_with (first | (refine Hof.gl (some 12) Try.func141 #[.int .i64 a0, .int .i64 x4_1] ?_; (with_reducible refine (spec_HasElement.calls a0 x4_1 false _ A5.out).mono ?_); rintro e w' ⟨rfl, ⟨nd, rfl⟩⟩; refine ⟨_, rfl, ?_⟩))
     go_roundg k1
     case measure => have := HK1.out; omega
     case rel => exact ⟨(x3_1), (wrap64 (x4_1 + 1)), Hof.F, H', ⟨by have := HK1.out; omega⟩, ⟨Hof.Rw HO_3.out⟩, ⟨Hof.Lw HB.out⟩⟩
   ·rw [if_neg c4] at H
    have c4b0 : decide (x4_1 < 8) = false := decide_eq_false c4
    clear c4
    obtain rfl := Option.some.inj H
    go_wp2
    go_ret
    exact ⟨_, Hof.E, by (with_reducible repeat (first | apply Kd.R_alloc | apply Kd.R_drewN | apply Kd.R_drew)); exact HO_3.out, Hof.L⟩
mutual
def spec_CircuitOf.j0 : Nat → Int → Int → Bool → Int → List Int → Option (Int)
 | 0, _, _, _, _, _ => none
 | k + 1, x1, x2, x31, x778000, x778001 => if x31 = true then (some 0) else (if 0 ≤ (IntKind.u64.wrap (x2)) then (spec_CircuitOf.l0 k x1 x2 (shl .i64 1 (IntKind.u64.wrap (x2))) 0 x778000 x778001) else (none))
def spec_CircuitOf.l0 : Nat → Int → Int → Int → Int → Int → List Int → Option (Int)
 | 0, _, _, _, _, _, _ => none
 | k + 1, x1, x2, x7, x8, x778000, x778001 => if x8 < x778000 then ((spec_l2Has.f x1 x8).bind fun t782 => (if t782 = true then (if 0 ≤ (IntKind.u64.wrap (x8)) then (if 0 ≤ (IntKind.u64.wrap (x2)) then ((spec_HasSet.f k x778001 (wrap64 ((wrap64 (x1 - (shl .i64 1 (IntKind.u64.wrap (x8))))) + (shl .i64 1 (IntKind.u64.wrap (x2)))))).bind fun t783 => (if t783 = true then (spec_CircuitOf.l0 k x1 x2 (wrap64 (x7 + (shl .i64 1 (IntKind.u64.wrap (x8))))) (wrap64 (x8 + 1)) x778000 x778001) else (spec_CircuitOf.l0 k x1 x2 x7 (wrap64 (x8 + 1)) x778000 x778001))) else (none)) else (none)) else (spec_CircuitOf.l0 k x1 x2 x7 (wrap64 (x8 + 1)) x778000 x778001))) else (some x7)
end
def spec_CircuitOf.f (k : Nat) (a0_0 : Int) (l0_1 : List Int) (a1 : Int) (a2 : Int) : Option (Int) := (spec_IsMatroid.f k a0_0 l0_1).bind fun t778 => (if t778 = true then ((spec_HasSet.f k l0_1 a1).bind fun t779 => (if t779 = true then ((spec_l1In.f a2 0 (wrap64 (a0_0 - 1))).bind fun t780 => (if t780 = true then ((spec_l2Has.f a1 a2).bind fun t781 => (spec_CircuitOf.j0 k a1 a2 t781 a0_0 l0_1)) else (spec_CircuitOf.j0 k a1 a2 true a0_0 l0_1))) else (spec_CircuitOf.j0 k a1 a2 true a0_0 l0_1))) else (spec_CircuitOf.j0 k a1 a2 true a0_0 l0_1))
set_option maxHeartbeats 8000000 in
set_option maxRecDepth 100000 in
theorem spec_CircuitOf.calls (k : Nat) (a0_0 : Int) (A0_1 : Option Addr) (c0_1 : Nat) (l0_1 : List Int) (a1 : Int) (a2 : Int) (r : Int) (w : World) (hr0_1 : Kd.C (Kd.int .i64) w A0_1 l0_1.length l0_1) (hc0_1 : l0_1.length ≤ c0_1) (h : spec_CircuitOf.f k a0_0 l0_1 a1 a2 = some r) :
  Calls Try.prog 116 #[.agg #[.int .i64 a0_0, .slice A0_1 l0_1.length c0_1], .int .i64 a1, .int .i64 a2] w fun e w' => e = .returned (.int .i64 r) ∧ Below w.heap.size w w' := by
 have hu35 := Try.underlying35
 have HR0_1 := Aside0.mk hr0_1
 have HC0_1 := Aside0.mk hc0_1
 clear hr0_1 hc0_1
 have HB := Aside0.mk (Below.refl w.heap.size w)
 unfold spec_CircuitOf.f at h
 have H := h
 clear h
 have HC4 := Aside0.mk H
 clear H
 go_enter Try.func116, Try.ntmps116
 go_upto_region 1 with (first | ((with_reducible refine gate_dst (N := 3) rfl ?_); refine Hof.bx 3 #[.int .i64 a0_0, .slice A0_1 l0_1.length c0_1] 35 ?_; intro gb777 hg w5 hbox hb; have BK777 := Aside0.mk hbox; have GW777 := Hof.gw hg HB; have GE777 := Hof.gw hg HB; replace HB := Hof.lb HB hb; clear hb hbox hg))
 (try simp only [Act.put, List.setIfInBounds_toArray, List.set_cons_zero, List.set_cons_succ])
 go_cut [31] (fun v31 wc => ∃ (kq : Nat) (x31_3 : Bool), v31 = .bool x31_3 ∧ Aside0 (spec_CircuitOf.j0 kq a1 a2 x31_3 a0_0 l0_1 = some r) ∧ Aside0 (kq ≤ k) ∧ Aside0 (wc.heap[gb777]? = some (.cells #[.int .i64 a0_0, (.slice A0_1 l0_1.length c0_1)] 35 (0, 0))) ∧ Aside0 (Below w.heap.size w wc))
 case first =>
  have H := HC4.out
  clear HC4
  obtain ⟨t778, A6, H⟩ := Hof.be H
  (try dsimp only at H)
  by_cases c7 : t778 = true
  ·subst c7
   replace H : ((spec_HasSet.f k l0_1 a1).bind fun t779 => (if t779 = true then ((spec_l1In.f a2 0 (wrap64 (a0_0 - 1))).bind fun t780 => (if t780 = true then ((spec_l2Has.f a1 a2).bind fun t781 => (spec_CircuitOf.j0 k a1 a2 t781 a0_0 l0_1)) else (spec_CircuitOf.j0 k a1 a2 true a0_0 l0_1))) else (spec_CircuitOf.j0 k a1 a2 true a0_0 l0_1))) = some r := by rw [if_pos rfl] at H; exact H
   obtain ⟨t779, A8, H⟩ := Hof.be H
   (try dsimp only at H)
   by_cases c9 : t779 = true
   ·subst c9
    replace H : ((spec_l1In.f a2 0 (wrap64 (a0_0 - 1))).bind fun t780 => (if t780 = true then ((spec_l2Has.f a1 a2).bind fun t781 => (spec_CircuitOf.j0 k a1 a2 t781 a0_0 l0_1)) else (spec_CircuitOf.j0 k a1 a2 true a0_0 l0_1))) = some r := by rw [if_pos rfl] at H; exact H
    obtain ⟨t780, A10, H⟩ := Hof.be H
    (try dsimp only at H)
    by_cases c11 : t780 = true
    ·subst c11
     replace H : ((spec_l2Has.f a1 a2).bind fun t781 => (spec_CircuitOf.j0 k a1 a2 t781 a0_0 l0_1)) = some r := by rw [if_pos rfl] at H; exact H
     obtain ⟨t781, A12, H⟩ := Hof.be H
     (try dsimp only at H)
     have H' := Aside0.mk H
     clear H
     obtain ⟨hcz13_0, hcz13_1, hfz13_0, hfz13_1⟩ := Hof.blk2 BK777.out
     go_wp2_with (first | ((with_reducible refine gate_callee (f := 76) rfl ?_); refine Hof.gl (some 10) Try.func76 #[.agg #[.int .i64 a0_0, .slice A0_1 l0_1.length c0_1]] ?_; (with_reducible refine (spec_IsMatroid.calls k a0_0 _ _ l0_1 true _ ?side1 ?side2 A6.out).mono ?_); (case side1 => exact Hof.Cw (Kd.C_below HR0_1.out HB.out)); (case side2 => exact HC0_1.out); rintro e w14 ⟨rfl, hb⟩; refine ⟨_, rfl, ?_⟩; replace BK777 := Hof.bb BK777 hb; replace HB := Hof.lb HB hb; (try clear hb); (try clear hb2); (try clear hk); (try clear hi); obtain ⟨hcz15_0, hcz15_1, hfz15_0, hfz15_1⟩ := Hof.blk2 BK777.out) | (go_at_call 142; (with_reducible refine (spec_HasSet.calls k _ _ l0_1 a1 true _ ?side1 ?side2 A8.out).mono ?_); (case side1 => exact Hof.Cw (Kd.C_below HR0_1.out HB.out)); (case side2 => exact HC0_1.out); rintro e w' ⟨rfl, ⟨nd, rfl⟩⟩) | (go_at_call 89; (with_reducible refine (spec_l1In.calls a2 0 (wrap64 (a0_0 - 1)) true _ A10.out).mono ?_); rintro e w' ⟨rfl, ⟨nd, rfl⟩⟩) | (go_at_call 58; (with_reducible refine (spec_l2Has.calls a1 a2 t781 _ A12.out).mono ?_); rintro e w' ⟨rfl, ⟨nd, rfl⟩⟩))
     go_meet
     case rel => exact ⟨_, (t781), Hof.F, H', ⟨by first | omega | exact Nat.le_refl _⟩, ⟨Hof.Bw BK777.out⟩, ⟨Hof.Lw HB.out⟩⟩
    ·replace c11 := Bool.eq_false_iff.mpr c11
     subst c11
     replace H : (spec_CircuitOf.j0 k a1 a2 true a0_0 l0_1) = some r := by rw [if_neg (show ¬ (false = true) by decide)] at H; exact H
     have H' := Aside0.mk H
     clear H
     obtain ⟨hcz16_0, hcz16_1, hfz16_0, hfz16_1⟩ := Hof.blk2 BK777.out
     go_wp2_with (first | ((with_reducible refine gate_callee (f := 76) rfl ?_); refine Hof.gl (some 10) Try.func76 #[.agg #[.int .i64 a0_0, .slice A0_1 l0_1.length c0_1]] ?_; (with_reducible refine (spec_IsMatroid.calls k a0_0 _ _ l0_1 true _ ?side1 ?side2 A6.out).mono ?_); (case side1 => exact Hof.Cw (Kd.C_below HR0_1.out HB.out)); (case side2 => exact HC0_1.out); rintro e w17 ⟨rfl, hb⟩; refine ⟨_, rfl, ?_⟩; replace BK777 := Hof.bb BK777 hb; replace HB := Hof.lb HB hb; (try clear hb); (try clear hb2); (try clear hk); (try clear hi); obtain ⟨hcz18_0, hcz18_1, hfz18_0, hfz18_1⟩ := Hof.blk2 BK777.out) | (go_at_call 142; (with_reducible refine (spec_HasSet.calls k _ _ l0_1 a1 true _ ?side1 ?side2 A8.out).mono ?_); (case side1 => exact Hof.Cw (Kd.C_below HR0_1.out HB.out)); (case side2 => exact HC0_1.out); rintro e w' ⟨rfl, ⟨nd, rfl⟩⟩) | (go_at_call 89; (with_reducible refine (spec_l1In.calls a2 0 (wrap64 (a0_0 - 1)) false _ A10.out).mono ?_); rintro e w' ⟨rfl, ⟨nd, rfl⟩⟩))
     go_meet
     case rel => exact ⟨_, (true), Hof.F, H', ⟨by first | omega | exact Nat.le_refl _⟩, ⟨Hof.Bw BK777.out⟩, ⟨Hof.Lw HB.out⟩⟩
   ·replace c9 := Bool.eq_false_iff.mpr c9
    subst c9
    replace H : (spec_CircuitOf.j0 k a1 a2 true a0_0 l0_1) = some r := by rw [if_neg (show ¬ (false = true) by decide)] at H; exact H
    have H' := Aside0.mk H
    clear H
    obtain ⟨hcz19_0, hcz19_1, hfz19_0, hfz19_1⟩ := Hof.blk2 BK777.out
    go_wp2_with (first | ((with_reducible refine gate_callee (f := 76) rfl ?_); refine Hof.gl (some 10) Try.func76 #[.agg #[.int .i64 a0_0, .slice A0_1 l0_1.length c0_1]] ?_; (with_reducible refine (spec_IsMatroid.calls k a0_0 _ _ l0_1 true _ ?side1 ?side2 A6.out).mono ?_); (case side1 => exact Hof.Cw (Kd.C_below HR0_1.out HB.out)); (case side2 => exact HC0_1.out); rintro e w20 ⟨rfl, hb⟩; refine ⟨_, rfl, ?_⟩; replace BK777 := Hof.bb BK777 hb; replace HB := Hof.lb HB hb; (try clear hb); (try clear hb2); (try clear hk); (try clear hi); obtain ⟨hcz21_0, hcz21_1, hfz21_0, hfz21_1⟩ := Hof.blk2 BK777.out) | (go_at_call 142; (with_reducible refine (spec_HasSet.calls k _ _ l0_1 a1 false _ ?side1 ?side2 A8.out).mono ?_); (case side1 => exact Hof.Cw (Kd.C_below HR0_1.out HB.out)); (case side2 => exact HC0_1.out); rintro e w' ⟨rfl, ⟨nd, rfl⟩⟩))
    go_meet
    case rel => exact ⟨_, (true), Hof.F, H', ⟨by first | omega | exact Nat.le_refl _⟩, ⟨Hof.Bw BK777.out⟩, ⟨Hof.Lw HB.out⟩⟩
  ·replace c7 := Bool.eq_false_iff.mpr c7
   subst c7
   replace H : (spec_CircuitOf.j0 k a1 a2 true a0_0 l0_1) = some r := by rw [if_neg (show ¬ (false = true) by decide)] at H; exact H
   have H' := Aside0.mk H
   clear H
   obtain ⟨hcz22_0, hcz22_1, hfz22_0, hfz22_1⟩ := Hof.blk2 BK777.out
   go_wp2_with (first | ((with_reducible refine gate_callee (f := 76) rfl ?_); refine Hof.gl (some 10) Try.func76 #[.agg #[.int .i64 a0_0, .slice A0_1 l0_1.length c0_1]] ?_; (with_reducible refine (spec_IsMatroid.calls k a0_0 _ _ l0_1 false _ ?side1 ?side2 A6.out).mono ?_); (case side1 => exact Hof.Cw (Kd.C_below HR0_1.out HB.out)); (case side2 => exact HC0_1.out); rintro e w23 ⟨rfl, hb⟩; refine ⟨_, rfl, ?_⟩; replace BK777 := Hof.bb BK777 hb; replace HB := Hof.lb HB hb; (try clear hb); (try clear hb2); (try clear hk); (try clear hi)))
   go_meet
   case rel => exact ⟨_, (true), Hof.F, H', ⟨by first | omega | exact Nat.le_refl _⟩, ⟨Hof.Bw BK777.out⟩, ⟨Hof.Lw HB.out⟩⟩
 case rest =>
  clear HC4
  obtain ⟨kq, x31_3, rfl, HA, HJ3, BK777, HB⟩ := hcut
  cases kq with
  | zero => exact absurd HA.out (by simp [spec_CircuitOf.j0])
  | succ kj3 =>
   have H := HA.out
   clear HA
   simp only [spec_CircuitOf.j0] at H
   by_cases c24 : x31_3 = true
   ·subst c24
    replace H : (some 0) = some r := by rw [if_pos rfl] at H; exact H
    obtain rfl := Option.some.inj H
    go_wp2
    go_ret
    exact ⟨Hof.E, Hof.L⟩
   ·replace c24 := Bool.eq_false_iff.mpr c24
    subst c24
    replace H : (if 0 ≤ (IntKind.u64.wrap (a2)) then (spec_CircuitOf.l0 kj3 a1 a2 (shl .i64 1 (IntKind.u64.wrap (a2))) 0 a0_0 l0_1) else (none)) = some r := by rw [if_neg (show ¬ (false = true) by decide)] at H; exact H
    obtain ⟨ji25, hji25⟩ : ∃ j_ : Int, (IntKind.u64.wrap (a2)) = j_ := ⟨_, rfl⟩
    replace H : (if 0 ≤ (ji25) then (spec_CircuitOf.l0 kj3 a1 a2 (shl .i64 1 (ji25)) 0 a0_0 l0_1) else (none)) = some r := by first | (rw [hji25] at H; exact H) | (simp only [hji25] at H ⊢; exact H)
    by_cases c26 : 0 ≤ (ji25)
    ·rw [if_pos c26] at H
     have c26b0 := eq_true c26
     have c26b1 : decide (0 ≤ (ji25)) = true := decide_eq_true c26
     clear c26
     obtain ⟨ji27, hji27⟩ : ∃ j_ : Int, (shl .i64 1 (ji25)) = j_ := ⟨_, rfl⟩
     replace H : (spec_CircuitOf.l0 kj3 a1 a2 ji27 0 a0_0 l0_1) = some r := by first | (rw [hji27] at H; exact H) | (simp only [hji27] at H ⊢; exact H)
     have hji27_ : (IntKind.i64.wrap (1 * 2 ^ min (ji25).toNat 64)) = ji27 := hji27
     have hji27z : (ji25) ≤ 64 → (IntKind.i64.wrap (1 * 2 ^ (ji25).toNat)) = ji27 := shl_small hji27
     have hji27u : (IntKind.i64.wrap (2 ^ min (ji25).toNat 64)) = ji27 := by have h_ := hji27_; rw [Int.one_mul] at h_; exact h_
     have hji27v : (ji25) ≤ 64 → (IntKind.i64.wrap (2 ^ (ji25).toNat)) = ji27 := fun hle_ => by have h_ := hji27z hle_; rw [Int.one_mul] at h_; exact h_
     have hji27y : (wrap64 (1 * 2 ^ min (ji25).toNat 64)) = ji27 := (i64_w _).symm.trans hji27_
     have hji27x : (ji25) ≤ 64 → (wrap64 (1 * 2 ^ (ji25).toNat)) = ji27 := fun h_ => (i64_w _).symm.trans (hji27z h_)
     have H' := Aside0.mk H
     clear H
     go_wp2
     go_loopg [7, 8] kj3 (fun kq v7 v8 w' => ∃ (x7_2 : Int) (x8_2 : Int), v7 = .int .i64 x7_2 ∧ v8 = .int .i64 x8_2 ∧ Aside0 (spec_CircuitOf.l0 kq a1 a2 x7_2 x8_2 a0_0 l0_1 = some r) ∧ Aside0 (kq ≤ kj3) ∧ Aside0 (w'.heap[gb777]? = some (.cells #[.int .i64 a0_0, (.slice A0_1 l0_1.length c0_1)] 35 (0, 0))) ∧ Aside0 (Below w.heap.size w w'))
     case atStart => exact ⟨(ji27), (0), (by first | rfl | (simp; done) | (simp only [← hji27] <;> (first | rfl | simp)) | (simp [*]; done)), Hof.F, H', ⟨Nat.le_refl _⟩, ⟨Hof.Bw BK777.out⟩, ⟨Hof.Lw HB.out⟩⟩
     case round =>
      clear H'
      obtain ⟨x7_2, x8_2, rfl, rfl, HA, HK2, BK777, HB⟩ := hrel
      cases gk with
      | zero => exact absurd HA.out (by simp [spec_CircuitOf.l0])
      | succ k2 =>
       have H := HA.out
       clear HA
       simp only [spec_CircuitOf.l0] at H
       by_cases c28 : x8_2 < a0_0
       ·rw [if_pos c28] at H
        have c28b0 := decide_eq_true c28
        clear c28
        obtain ⟨t782, A29, H⟩ := Hof.be H
        (try dsimp only at H)
        by_cases c30 : t782 = true
        ·subst c30
         replace H : (if 0 ≤ (IntKind.u64.wrap (x8_2)) then (if 0 ≤ (IntKind.u64.wrap (a2)) then ((spec_HasSet.f k2 l0_1 (wrap64 ((wrap64 (a1 - (shl .i64 1 (IntKind.u64.wrap (x8_2))))) + (shl .i64 1 (IntKind.u64.wrap (a2)))))).bind fun t783 => (if t783 = true then (spec_CircuitOf.l0 k2 a1 a2 (wrap64 (x7_2 + (shl .i64 1 (IntKind.u64.wrap (x8_2))))) (wrap64 (x8_2 + 1)) a0_0 l0_1) else (spec_CircuitOf.l0 k2 a1 a2 x7_2 (wrap64 (x8_2 + 1)) a0_0 l0_1))) else (none)) else (none)) = some r := by rw [if_pos rfl] at H; exact H
         obtain ⟨ji31, hji31⟩ : ∃ j_ : Int, (IntKind.u64.wrap (x8_2)) = j_ := ⟨_, rfl⟩
         replace H : (if 0 ≤ (ji31) then (if 0 ≤ (IntKind.u64.wrap (a2)) then ((spec_HasSet.f k2 l0_1 (wrap64 ((wrap64 (a1 - (shl .i64 1 (ji31)))) + (shl .i64 1 (IntKind.u64.wrap (a2)))))).bind fun t783 => (if t783 = true then (spec_CircuitOf.l0 k2 a1 a2 (wrap64 (x7_2 + (shl .i64 1 (ji31)))) (wrap64 (x8_2 + 1)) a0_0 l0_1) else (spec_CircuitOf.l0 k2 a1 a2 x7_2 (wrap64 (x8_2 + 1)) a0_0 l0_1))) else (none)) else (none)) = some r := by first | (rw [hji31] at H; exact H) | (simp only [hji31] at H ⊢; exact H)
         (try rw [hji31] at A29)
         by_cases c32 : 0 ≤ (ji31)
         ·rw [if_pos c32] at H
          have c32b0 := eq_true c32
          have c32b1 : decide (0 ≤ (ji31)) = true := decide_eq_true c32
          clear c32
          obtain ⟨ji33, hji33⟩ : ∃ j_ : Int, (shl .i64 1 (ji31)) = j_ := ⟨_, rfl⟩
          replace H : (if 0 ≤ (IntKind.u64.wrap (a2)) then ((spec_HasSet.f k2 l0_1 (wrap64 ((wrap64 (a1 - (ji33))) + (shl .i64 1 (IntKind.u64.wrap (a2)))))).bind fun t783 => (if t783 = true then (spec_CircuitOf.l0 k2 a1 a2 (wrap64 (x7_2 + (ji33))) (wrap64 (x8_2 + 1)) a0_0 l0_1) else (spec_CircuitOf.l0 k2 a1 a2 x7_2 (wrap64 (x8_2 + 1)) a0_0 l0_1))) else (none)) = some r := by first | (rw [hji33] at H; exact H) | (simp only [hji33] at H ⊢; exact H)
          (try rw [hji33] at A29)
          have hji33_ : (IntKind.i64.wrap (1 * 2 ^ min (ji31).toNat 64)) = ji33 := hji33
          have hji33z : (ji31) ≤ 64 → (IntKind.i64.wrap (1 * 2 ^ (ji31).toNat)) = ji33 := shl_small hji33
          have hji33u : (IntKind.i64.wrap (2 ^ min (ji31).toNat 64)) = ji33 := by have h_ := hji33_; rw [Int.one_mul] at h_; exact h_
          have hji33v : (ji31) ≤ 64 → (IntKind.i64.wrap (2 ^ (ji31).toNat)) = ji33 := fun hle_ => by have h_ := hji33z hle_; rw [Int.one_mul] at h_; exact h_
          have hji33y : (wrap64 (1 * 2 ^ min (ji31).toNat 64)) = ji33 := (i64_w _).symm.trans hji33_
          have hji33x : (ji31) ≤ 64 → (wrap64 (1 * 2 ^ (ji31).toNat)) = ji33 := fun h_ => (i64_w _).symm.trans (hji33z h_)
          replace H : (if 0 ≤ (ji25) then ((spec_HasSet.f k2 l0_1 (wrap64 ((wrap64 (a1 - (ji33))) + (shl .i64 1 (ji25))))).bind fun t783 => (if t783 = true then (spec_CircuitOf.l0 k2 a1 a2 (wrap64 (x7_2 + (ji33))) (wrap64 (x8_2 + 1)) a0_0 l0_1) else (spec_CircuitOf.l0 k2 a1 a2 x7_2 (wrap64 (x8_2 + 1)) a0_0 l0_1))) else (none)) = some r := by first | (rw [hji25] at H; exact H) | (simp only [hji25] at H ⊢; exact H)
          (try rw [hji25] at A29)
          by_cases c35 : 0 ≤ (ji25)
          ·rw [if_pos c35] at H
           have c35b0 := eq_true c35
           have c35b1 : decide (0 ≤ (ji25)) = true := decide_eq_true c35
           clear c35
           replace H : ((spec_HasSet.f k2 l0_1 (wrap64 ((wrap64 (a1 - (ji33))) + (ji27)))).bind fun t783 => (if t783 = true then (spec_CircuitOf.l0 k2 a1 a2 (wrap64 (x7_2 + (ji33))) (wrap64 (x8_2 + 1)) a0_0 l0_1) else (spec_CircuitOf.l0 k2 a1 a2 x7_2 (wrap64 (x8_2 + 1)) a0_0 l0_1))) = some r := by first | (rw [hji27] at H; exact H) | (simp only [hji27] at H ⊢; exact H)
           (try rw [hji27] at A29)
           obtain ⟨t783, A37, H⟩ := Hof.be H
           (try dsimp only at H)
           by_cases c38 : t783 = true
           ·subst c38
            replace H : (spec_CircuitOf.l0 k2 a1 a2 (wrap64 (x7_2 + (ji33))) (wrap64 (x8_2 + 1)) a0_0 l0_1) = some r := by rw [if_pos rfl] at H; exact H
            have c39b0 := eq_true (Hof.D : 0 ≤ (ji31))
            have H' := Aside0.mk H
            clear H
            obtain ⟨hcz41_0, hcz41_1, hfz41_0, hfz41_1⟩ := Hof.blk2 BK777.out
            go_wp2_with (first | ((with_reducible refine gate_callee (f := 58) rfl ?_); refine Hof.gl (some 43) Try.func58 #[.int .i64 a1, .int .i64 x8_2] ?_; (with_reducible refine (spec_l2Has.calls a1 x8_2 true _ A29.out).mono ?_); rintro e w' ⟨rfl, ⟨nd, rfl⟩⟩; refine ⟨_, rfl, ?_⟩) | (go_at_call 142; (with_reducible refine (spec_HasSet.calls k2 _ _ l0_1 (wrap64 ((wrap64 (a1 - (ji33))) + (ji27))) true _ ?side1 ?side2 A37.out).mono ?_); (case side1 => exact Hof.Cw (Kd.C_below HR0_1.out HB.out)); (case side2 => exact HC0_1.out); rintro e w' ⟨rfl, ⟨nd, rfl⟩⟩))
            go_roundg k2
            case measure => have := HJ3.out; have := HK2.out; omega
            case rel => exact ⟨(wrap64 (x7_2 + (ji33))), (wrap64 (x8_2 + 1)), (by first | rfl | (simp; done) | (simp only [← hji33] <;> (first | rfl | simp)) | (simp [*]; done)), Hof.F, H', ⟨by have := HJ3.out; have := HK2.out; omega⟩, ⟨Hof.Bw BK777.out⟩, ⟨Hof.Lw HB.out⟩⟩
           ·replace c38 := Bool.eq_false_iff.mpr c38
            subst c38
            replace H : (spec_CircuitOf.l0 k2 a1 a2 x7_2 (wrap64 (x8_2 + 1)) a0_0 l0_1) = some r := by rw [if_neg (show ¬ (false = true) by decide)] at H; exact H
            have H' := Aside0.mk H
            clear H
            obtain ⟨hcz42_0, hcz42_1, hfz42_0, hfz42_1⟩ := Hof.blk2 BK777.out
            go_wp2_with (first | ((with_reducible refine gate_callee (f := 58) rfl ?_); refine Hof.gl (some 43) Try.func58 #[.int .i64 a1, .int .i64 x8_2] ?_; (with_reducible refine (spec_l2Has.calls a1 x8_2 true _ A29.out).mono ?_); rintro e w' ⟨rfl, ⟨nd, rfl⟩⟩; refine ⟨_, rfl, ?_⟩) | (go_at_call 142; (with_reducible refine (spec_HasSet.calls k2 _ _ l0_1 (wrap64 ((wrap64 (a1 - (ji33))) + (ji27))) false _ ?side1 ?side2 A37.out).mono ?_); (case side1 => exact Hof.Cw (Kd.C_below HR0_1.out HB.out)); (case side2 => exact HC0_1.out); rintro e w' ⟨rfl, ⟨nd, rfl⟩⟩))
            go_roundg k2
            case measure => have := HJ3.out; have := HK2.out; omega
            case rel => exact ⟨(x7_2), (wrap64 (x8_2 + 1)), Hof.F, Hof.F, H', ⟨by have := HJ3.out; have := HK2.out; omega⟩, ⟨Hof.Bw BK777.out⟩, ⟨Hof.Lw HB.out⟩⟩
          ·rw [if_neg c35] at H
           exact absurd H (by simp)
         ·rw [if_neg c32] at H
          exact absurd H (by simp)
        ·replace c30 := Bool.eq_false_iff.mpr c30
         subst c30
         replace H : (spec_CircuitOf.l0 k2 a1 a2 x7_2 (wrap64 (x8_2 + 1)) a0_0 l0_1) = some r := by rw [if_neg (show ¬ (false = true) by decide)] at H; exact H
         have H' := Aside0.mk H
         clear H
         obtain ⟨hcz43_0, hcz43_1, hfz43_0, hfz43_1⟩ := Hof.blk2 BK777.out
         go_wp2_with (first | ((with_reducible refine gate_callee (f := 58) rfl ?_); refine Hof.gl (some 43) Try.func58 #[.int .i64 a1, .int .i64 x8_2] ?_; (with_reducible refine (spec_l2Has.calls a1 x8_2 false _ A29.out).mono ?_); rintro e w' ⟨rfl, ⟨nd, rfl⟩⟩; refine ⟨_, rfl, ?_⟩))
         go_roundg k2
         case measure => have := HJ3.out; have := HK2.out; omega
         case rel => exact ⟨(x7_2), (wrap64 (x8_2 + 1)), Hof.F, Hof.F, H', ⟨by have := HJ3.out; have := HK2.out; omega⟩, ⟨Hof.Bw BK777.out⟩, ⟨Hof.Lw HB.out⟩⟩
       ·rw [if_neg c28] at H
        have c28b0 : decide (x8_2 < a0_0) = false := decide_eq_false c28
        clear c28
        obtain rfl := Option.some.inj H
        obtain ⟨hcz44_0, hcz44_1, hfz44_0, hfz44_1⟩ := Hof.blk2 BK777.out
        go_wp2
        go_ret
        exact ⟨by first | rfl | (simp [errW_none, errW_some] <;> rfl) | (simp only [← hji25, ← hji27]; first | rfl | (simp [errW_none, errW_some] <;> rfl)) | (simp [*, errW_none, errW_some] <;> rfl), Hof.L⟩
    ·rw [if_neg c26] at H
     exact absurd H (by simp)
mutual
def spec_l26Start.l0 : Nat → Int → List Int → Int → Int → List Int → Int → Int → Int → List Int → Option (Int × Int × Int × List Int)
 | 0, _, _, _, _, _, _, _, _, _ => none
 | k + 1, x2, x7, x9, x785000, x785001, x790000, x790001, x790002, x790003 => if x9 < (x7.length : Int) then (spec_l26Start.l1 k x2 x7 x9 0 x785000 x785001 x790000 x790001 x790002 x790003) else (some (x790000, x790001, x790002, x790003))
def spec_l26Start.l1 : Nat → Int → List Int → Int → Int → Int → List Int → Int → Int → Int → List Int → Option (Int × Int × Int × List Int)
 | 0, _, _, _, _, _, _, _, _, _, _ => none
 | k + 1, x2, x7, x9, x10, x785000, x785001, x790000, x790001, x790002, x790003 => if x10 < x785000 then ((spec_l2Has.f x2 x10).bind fun t790 => (if t790 = true then (if 0 ≤ x9 then (if x9 < (x7.length : Int) then ((spec_l1Bit.f (x10 == (rd x7 x9))).bind fun t792 => (if x790003.length < 17592186044416 then (spec_l26Start.l1 k x2 x7 x9 (wrap64 (x10 + 1)) x785000 x785001 x790000 x790001 x790002 (x790003 ++ [t792])) else (none))) else (none)) else (none)) else ((spec_CircuitOf.f k x785000 x785001 x2 x10).bind fun t796 => (if 0 ≤ x9 then (if x9 < (x7.length : Int) then ((spec_l2Has.f t796 (rd x7 x9)).bind fun t798 => ((spec_l1Bit.f t798).bind fun t799 => (if x790003.length < 17592186044416 then (spec_l26Start.l1 k x2 x7 x9 (wrap64 (x10 + 1)) x785000 x785001 x790000 x790001 x790002 (x790003 ++ [t799])) else (none)))) else (none)) else (none))))) else (spec_l26Start.l0 k x2 x7 (wrap64 (x9 + 1)) x785000 x785001 x790000 x790001 x790002 x790003)
end
def spec_l26Start.f (k : Nat) (a0_0 : Int) (l0_1 : List Int) (a1 : Int) (a2 : Int) : Option (Int × Int × Int × List Int) := (spec_ElementsOf.f k a2).bind fun t786 => (spec_l26Start.l0 k a2 t786 0 a0_0 l0_1 a1 (t786.length : Int) a0_0 ([] : List Int))
def spec_l26Start.T10 : Bool × List (List Nat × List Nat) := (true, [([], []), ([0], [0]), ([], []), ([], []), ([], []), ([3, 4], [3, 4]), ([5], [5]), ([2, 6], [2, 6]), ([7], [7]), ([8], [8]), ([1, 9, 8], [1, 9]), ([0, 1, 2, 3, 4, 5, 6, 7, 8, 9, 10], []), ([11, 10, 10, 0, 1, 2, 3, 4, 5, 6, 7, 8, 9, 10], [10, 11])])
def spec_l26Start.B10 : List Nat := [0, 1, 0, 0, 0, 24, 56, 124, 252, 508, 1023, 2047, 4095]
theorem spec_l26Start.tab10 : rtab .any (opsOf Try.f77 10) = spec_l26Start.T10 := by kernel_rfl
theorem spec_l26Start.bits10 : waitsOk spec_l26Start.T10.2 spec_l26Start.B10 = true := by kernel_rfl
def spec_l26Start.T11 : Bool × List (List Nat × List Nat) := (true, [([], []), ([0], [0]), ([], []), ([], []), ([], []), ([2, 3, 4], [2, 3, 4]), ([], []), ([], []), ([6, 7], [6, 7]), ([8], [8]), ([5, 9, 5], [5, 9]), ([10, 10], [10]), ([11], [11]), ([1, 12, 11], [1, 12]), ([0, 1, 2, 3, 4, 5, 6, 7, 8, 9, 10, 11, 12, 13], []), ([14, 13, 13, 0, 1, 2, 3, 4, 5, 6, 7, 8, 9, 10, 11, 12, 13], [13, 14])])
def spec_l26Start.B11 : List Nat := [0, 1, 0, 0, 0, 28, 0, 0, 192, 448, 1020, 2044, 4092, 8191, 16383, 32767]
theorem spec_l26Start.tab11 : rtab .any (opsOf Try.f77 11) = spec_l26Start.T11 := by kernel_rfl
theorem spec_l26Start.bits11 : waitsOk spec_l26Start.T11.2 spec_l26Start.B11 = true := by kernel_rfl
set_option maxHeartbeats 8000000 in
set_option maxRecDepth 100000 in
theorem spec_l26Start.calls (k : Nat) (a0_0 : Int) (A0_1 : Option Addr) (c0_1 : Nat) (l0_1 : List Int) (a1 : Int) (a2 : Int) (r1 : Int) (r2 : Int) (r3 : Int) (r4 : List Int) (w : World) (hr0_1 : Kd.C (Kd.int .i64) w A0_1 l0_1.length l0_1) (hc0_1 : l0_1.length ≤ c0_1) (h : spec_l26Start.f k a0_0 l0_1 a1 a2 = some (r1, r2, r3, r4)) :
  Calls Try.prog 77 #[.agg #[.int .i64 a0_0, .slice A0_1 l0_1.length c0_1], .int .i64 a1, .int .i64 a2] w fun e w' => ∃ v3_ : Value, e = .returned (.agg #[.int .i64 r1, .int .i64 r2, .int .i64 r3, v3_]) ∧ Kd.R (Kd.int .i64) 3 w' w.heap.size (fun _ => True) v3_ r4 ∧ Below w.heap.size w w' := by
 have hu35 := Try.underlying35
 have hu49 := Try.underlying49
 have HR0_1 := Aside0.mk hr0_1
 have HC0_1 := Aside0.mk hc0_1
 clear hr0_1 hc0_1
 have HB := Aside0.mk (Below.refl w.heap.size w)
 unfold spec_l26Start.f at h
 have H := h
 clear h
 obtain ⟨t786, A4, H⟩ := Hof.be H
 (try dsimp only at H)
 have H' := Aside0.mk H
 clear H
 go_enter Try.func77, Try.ntmps77
 go_wp2_with (first | (refine Hof.bx 3 #[.int .i64 a0_0, .slice A0_1 l0_1.length c0_1] 35 ?_; intro gb784 hg w5 hbox hb; have BK784 := Aside0.mk hbox; have GW784 := Hof.gw hg HB; have GE784 := Hof.gw hg HB; replace HB := Hof.lb HB hb; clear hb hbox hg) | (refine Hof.bx 6 #[.int .i64 0, .int .i64 0, .int .i64 0, .slice none 0 0] 49 ?_; intro gb785 hg w6 hbox hb; have BK785 := Aside0.mk hbox; have GW785 := Hof.gL (w := w) hg Hof.L; have GE785 := Hof.gL (w := w) hg Hof.L; replace HB := Aside0.mk (below_step Hof.L hb); have NB784_785 := Hof.nl hg BK784; have NB785_784 := Hof.ng hg BK784; replace BK784 := Hof.bb BK784 hb; clear hb hbox hg) | (refine Hof.gl (some 12) Try.func115 #[.int .i64 a2] ?_; (with_reducible refine (spec_ElementsOf.calls k a2 t786 _ A4.out).mono ?_); rintro e w7 ⟨v787, rfl, ho0, hb⟩; refine ⟨_, rfl, ?_⟩; have HO788 := Aside0.mk (Kd.R_lower ho0 (below_size Hof.L)); replace BK784 := Hof.bb BK784 hb; replace BK785 := Hof.bb BK785 hb; replace HB := Aside0.mk (below_step Hof.L hb); (try clear hb); (try clear hb2); (try clear hk); (try clear hi); (try clear ho0); obtain ⟨Ao8, co8, eo8⟩ := Kd.R_slice HO788.out; subst eo8; have hnb9 := NB784_785.out; have hnc9 := NB785_784.out; obtain ⟨hcz10_0, hcz10_1, hfz10_0, hfz10_1⟩ := Hof.blk2 BK784.out) | (refine Hof.bx 8 #[.int .i64 0, .int .i64 0, .int .i64 0, .slice none 0 0] 49 ?_; intro gb789 hg w11 hbox hb; have n0_ := Hof.rb HO788 hb; have n1_ := Hof.bb BK784 hb; have n2_ := Hof.bb BK785 hb; have n3_ := Aside0.mk (below_step Hof.L hb); have n4_ := Aside0.mk hbox; have n5_ := Hof.gL (w := w) hg Hof.L; have n6_ := Hof.gL (w := w) hg Hof.L; have n7_ := Hof.nl hg BK784; have n8_ := Hof.ng hg BK784; have n9_ := Hof.nl hg BK785; have n10_ := Hof.ng hg BK785; clear HO788; clear BK784; clear BK785; clear HB; have HO788 := n0_; have BK784 := n1_; have BK785 := n2_; have HB := n3_; have BK789 := n4_; have GW789 := n5_; have GE789 := n6_; have NB784_789 := n7_; have NB789_784 := n8_; have NB785_789 := n9_; have NB789_785 := n10_; clear n0_ n1_ n2_ n3_ n4_ n5_ n6_ n7_ n8_ n9_ n10_; clear hb hbox hg; have hnb12 := NB789_784.out; have hnc12 := NB784_789.out; have hnb13 := NB789_785.out; have hnc13 := NB785_789.out; obtain ⟨hcz14_0, hcz14_1, hcz14_2, hcz14_3, hfz14_0, hfz14_1, hfz14_2, hfz14_3⟩ := Hof.blk4 BK789.out))
 go_loopg [9] k (fun kq v9 w' => ∃ (x9_1 : Int) (x790003_1 : List Int) (u790003 : Value), v9 = .int .i64 x9_1 ∧ Aside0 (spec_l26Start.l0 kq a2 t786 x9_1 a0_0 l0_1 a1 (t786.length : Int) a0_0 x790003_1 = some (r1, r2, r3, r4)) ∧ Aside0 (kq ≤ k) ∧ Aside0 (Kd.R (Kd.int .i64) 3 w' w.heap.size (fun k_ => some k_ ≠ (u790003 : Value).ownBlock) (.slice Ao8 t786.length co8) t786) ∧ Aside0 (Kd.R (Kd.int .i64) 3 w' w.heap.size (fun k_ => some k_ ≠ ((.slice Ao8 t786.length co8) : Value).ownBlock) u790003 x790003_1) ∧ Aside0 (w'.heap[gb784]? = some (.cells #[.int .i64 a0_0, (.slice A0_1 l0_1.length c0_1)] 35 (0, 0))) ∧ Aside0 (w'.heap[gb785]? = some (.cells #[.int .i64 0, .int .i64 0, .int .i64 0, (.slice none 0 0)] 49 (0, 0))) ∧ Aside0 (w'.heap[gb789]? = some (.cells #[.int .i64 a1, .int .i64 (t786.length : Int), .int .i64 a0_0, u790003] 49 (0, 0))) ∧ Aside0 (Below w.heap.size w w'))
 case atStart => exact ⟨(0), (([] : List Int)), (.slice none 0 0), Hof.F, H', ⟨Nat.le_refl _⟩, ⟨Hof.Rw (Kd.R_mono (Kd.R_far (p := ⟨gb789, 3, none⟩) (Kd.R_far (p := ⟨gb789, 2, none⟩) (Kd.R_far (p := ⟨gb789, 1, none⟩) (Kd.R_far (p := ⟨gb789, 0, none⟩) (Kd.R_types HO788.out BK789.out (by decide)) (fun _ hk => hk.2) (.int .i64 a1)) (fun _ hk => hk.2) (.int .i64 (t786.length : Int))) (fun _ hk => hk.2) (.int .i64 a0_0)) (fun _ hk => hk.2) (.slice none 0 0)) (fun _ hk => (by simp [Value.ownBlock])))⟩, ⟨Hof.N⟩, ⟨Hof.B⟩, ⟨Hof.B⟩, ⟨Hof.B⟩, ⟨Hof.L⟩⟩
 case round =>
  clear H'
  obtain ⟨x9_1, x790003_1, u790003, rfl, HA, HK1, HO_7, HO_790003, BK784, BK785, BK789, HB⟩ := hrel
  cases gk with
  | zero => exact absurd HA.out (by simp [spec_l26Start.l0])
  | succ k1 =>
   have H := HA.out
   clear HA
   simp only [spec_l26Start.l0] at H
   by_cases c15 : x9_1 < (t786.length : Int)
   ·rw [if_pos c15] at H
    have c15b0 := decide_eq_true c15
    clear c15
    have H' := Aside0.mk H
    clear H
    go_wp2
    go_loopg [10] k1 (fun kq v10 w' => ∃ (x10_2 : Int) (x790003_2 : List Int) (u790003 : Value), v10 = .int .i64 x10_2 ∧ Aside0 (spec_l26Start.l1 kq a2 t786 x9_1 x10_2 a0_0 l0_1 a1 (t786.length : Int) a0_0 x790003_2 = some (r1, r2, r3, r4)) ∧ Aside0 (kq ≤ k1) ∧ Aside0 (Kd.R (Kd.int .i64) 3 w' w.heap.size (fun k_ => some k_ ≠ (u790003 : Value).ownBlock) (.slice Ao8 t786.length co8) t786) ∧ Aside0 (Kd.R (Kd.int .i64) 3 w' w.heap.size (fun k_ => some k_ ≠ ((.slice Ao8 t786.length co8) : Value).ownBlock) u790003 x790003_2) ∧ Aside0 (w'.heap[gb784]? = some (.cells #[.int .i64 a0_0, (.slice A0_1 l0_1.length c0_1)] 35 (0, 0))) ∧ Aside0 (w'.heap[gb785]? = some (.cells #[.int .i64 0, .int .i64 0, .int .i64 0, (.slice none 0 0)] 49 (0, 0))) ∧ Aside0 (w'.heap[gb789]? = some (.cells #[.int .i64 a1, .int .i64 (t786.length : Int), .int .i64 a0_0, u790003] 49 (0, 0))) ∧ Aside0 (Below w.heap.size w w'))
    case atStart => exact ⟨(0), (x790003_1), (u790003), Hof.F, H', ⟨Nat.le_refl _⟩, ⟨Hof.Rw HO_7.out⟩, ⟨Hof.Rw HO_790003.out⟩, ⟨Hof.Bw BK784.out⟩, ⟨Hof.Bw BK785.out⟩, ⟨Hof.Bw BK789.out⟩, ⟨Hof.L⟩⟩
    case round =>
     clear H'
     obtain ⟨x10_2, x790003_2, u790003, rfl, HA, HK2, HO_7, HO_790003, BK784, BK785, BK789, HB⟩ := hrel
     cases gk with
     | zero => exact absurd HA.out (by simp [spec_l26Start.l1])
     | succ k2 =>
      have H := HA.out
      clear HA
      simp only [spec_l26Start.l1] at H
      by_cases c16 : x10_2 < a0_0
      ·rw [if_pos c16] at H
       have c16b0 := decide_eq_true c16
       clear c16
       obtain ⟨t790, A17, H⟩ := Hof.be H
       (try dsimp only at H)
       by_cases c18 : t790 = true
       ·subst c18
        replace H : (if 0 ≤ x9_1 then (if x9_1 < (t786.length : Int) then ((spec_l1Bit.f (x10_2 == (rd t786 x9_1))).bind fun t792 => (if x790003_2.length < 17592186044416 then (spec_l26Start.l1 k2 a2 t786 x9_1 (wrap64 (x10_2 + 1)) a0_0 l0_1 a1 (t786.length : Int) a0_0 (x790003_2 ++ [t792])) else (none))) else (none)) else (none)) = some (r1, r2, r3, r4) := by rw [if_pos rfl] at H; exact H
        by_cases c19 : 0 ≤ x9_1
        ·rw [if_pos c19] at H
         have c19b0 := decide_eq_true c19
         clear c19
         by_cases c20 : x9_1 < (t786.length : Int)
         ·rw [if_pos c20] at H
          have c20b0 := decide_eq_true c20
          clear c20
          obtain ⟨t792, A21, H⟩ := Hof.be H
          (try dsimp only at H)
          by_cases c22 : x790003_2.length < 17592186044416
          ·rw [if_pos c22] at H
           have LMc22 := Aside0.mk c22
           clear c22
           obtain ⟨y793, hy793⟩ : ∃ y_ : List Int, y_ = (x790003_2 ++ [t792]) := ⟨_, rfl⟩
           replace H : (spec_l26Start.l1 k2 a2 t786 x9_1 (wrap64 (x10_2 + 1)) a0_0 l0_1 a1 (t786.length : Int) a0_0 y793) = some (r1, r2, r3, r4) := by (try rw [hy793]); exact Hof.Z
           have Ny793 := Aside0.mk hy793
           clear hy793
           have H' := Aside0.mk H
           clear H
           have hnb23 := NB784_785.out
           have hnc23 := NB785_784.out
           have hnb24 := NB784_789.out
           have hnc24 := NB789_784.out
           obtain ⟨hcz25_0, hcz25_1, hfz25_0, hfz25_1⟩ := Hof.blk2 BK784.out
           try go_wp2_with (first | (refine Hof.gl (some 33) Try.func58 #[.int .i64 a2, .int .i64 x10_2] ?_; (with_reducible refine (spec_l2Has.calls a2 x10_2 true _ A17.out).mono ?_); rintro e w' ⟨rfl, ⟨nd, rfl⟩⟩; refine ⟨_, rfl, ?_⟩; (try (rw [drewN_self wr]; generalize hq_ : World.drewN wr _ = wr; have n0_ : Aside0 (Kd.R (Kd.int .i64) 3 wr w.heap.size (fun k_ => some k_ ≠ (u790003 : Value).ownBlock) (.slice Ao8 t786.length co8) t786) := ⟨by rw [← hq_]; exact (Hof.Rw HO_7.out)⟩; have n1_ : Aside0 (Kd.R (Kd.int .i64) 3 wr w.heap.size (fun k_ => some k_ ≠ (.slice Ao8 t786.length co8 : Value).ownBlock) u790003 x790003_2) := ⟨by rw [← hq_]; exact (Hof.Rw HO_790003.out)⟩; have n2_ : Aside0 (wr.heap[gb784]? = some (.cells #[.int .i64 a0_0, .slice A0_1 l0_1.length c0_1] 35 (0, 0))) := ⟨by rw [← hq_]; exact (Hof.Bw BK784.out)⟩; have n3_ : Aside0 (wr.heap[gb785]? = some (.cells #[.int .i64 0, .int .i64 0, .int .i64 0, .slice none 0 0] 49 (0, 0))) := ⟨by rw [← hq_]; exact (Hof.Bw BK785.out)⟩; have n4_ : Aside0 (wr.heap[gb789]? = some (.cells #[.int .i64 a1, .int .i64 (t786.length : Int), .int .i64 a0_0, u790003] 49 (0, 0))) := ⟨by rw [← hq_]; exact (Hof.Bw BK789.out)⟩; have n5_ : Aside0 (Below w.heap.size w wr) := ⟨by rw [← hq_]; exact Hof.L⟩; clear HO_7 HO_790003 BK784 BK785 BK789 HB hq_; have HO_7 := n0_; have HO_790003 := n1_; have BK784 := n2_; have BK785 := n3_; have BK789 := n4_; have HB := n5_; clear n0_ n1_ n2_ n3_ n4_ n5_; have hcy784_0 : wr.cell? ⟨gb784, 0, none⟩ = some (.int .i64 a0_0) := (blk_cell BK784.out 0).trans rfl; have hfy784_0 := blk_frozen BK784.out 0; have hcy784_1 : wr.cell? ⟨gb784, 1, none⟩ = some (.slice A0_1 l0_1.length c0_1) := (blk_cell BK784.out 1).trans rfl; have hfy784_1 := blk_frozen BK784.out 1; have hcy785_0 : wr.cell? ⟨gb785, 0, none⟩ = some (.int .i64 0) := (blk_cell BK785.out 0).trans rfl; have hfy785_0 := blk_frozen BK785.out 0; have hcy785_1 : wr.cell? ⟨gb785, 1, none⟩ = some (.int .i64 0) := (blk_cell BK785.out 1).trans rfl; have hfy785_1 := blk_frozen BK785.out 1; have hcy785_2 : wr.cell? ⟨gb785, 2, none⟩ = some (.int .i64 0) := (blk_cell BK785.out 2).trans rfl; have hfy785_2 := blk_frozen BK785.out 2; have hcy785_3 : wr.cell? ⟨gb785, 3, none⟩ = some (.slice none 0 0) := (blk_cell BK785.out 3).trans rfl; have hfy785_3 := blk_frozen BK785.out 3; have hcy789_0 : wr.cell? ⟨gb789, 0, none⟩ = some (.int .i64 a1) := (blk_cell BK789.out 0).trans rfl; have hfy789_0 := blk_frozen BK789.out 0; have hcy789_1 : wr.cell? ⟨gb789, 1, none⟩ = some (.int .i64 (t786.length : Int)) := (blk_cell BK789.out 1).trans rfl; have hfy789_1 := blk_frozen BK789.out 1; have hcy789_2 : wr.cell? ⟨gb789, 2, none⟩ = some (.int .i64 a0_0) := (blk_cell BK789.out 2).trans rfl; have hfy789_2 := blk_frozen BK789.out 2; have hcy789_3 : wr.cell? ⟨gb789, 3, none⟩ = some (u790003) := (blk_cell BK789.out 3).trans rfl; have hfy789_3 := blk_frozen BK789.out 3))))
           have n0_ := Aside0.mk (Kd.R_drew HO_7.out)
           have n1_ := Aside0.mk (Kd.R_drew HO_790003.out)
           have n2_ := Aside0.mk (blk_drew BK784.out)
           have n3_ := Aside0.mk (blk_drew BK785.out)
           have n4_ := Aside0.mk (blk_drew BK789.out)
           have n5_ := Aside0.mk (below_drew1 HB.out)
           clear HO_7
           clear HO_790003
           clear BK784
           clear BK785
           clear BK789
           clear HB
           have HO_7 := n0_
           have HO_790003 := n1_
           have BK784 := n2_
           have BK785 := n3_
           have BK789 := n4_
           have HB := n5_
           clear n0_ n1_ n2_ n3_ n4_ n5_
           have p791 : 0 ≤ (x9_1 : Int) := Hof.D
           have q791 : x9_1 < (t786.length : Int) := Hof.D
           obtain ⟨ad791, e791, hx791_0⟩ := Kd.at_int (Kd.R_reads' HO_7.out).2.2 x9_1 p791 q791
           cases e791
           replace p791 := eq_true p791
           replace q791 := eq_true q791
           refine start_ (n := 13) (S := fun w' => w'.cell? ⟨gb789, 0, none⟩ = some (.int .i64 a1) ∧ w'.cell? ⟨gb789, 1, none⟩ = some (.int .i64 (t786.length : Int)) ∧ w'.cell? ⟨gb789, 2, none⟩ = some (.int .i64 a0_0) ∧ w'.cell? ⟨gb789, 3, none⟩ = some (u790003) ∧ w'.cell? (ad791.add (x9_1).toNat) = some (.int .i64 (rd t786 x9_1))) (ds := [10, 12]) #[false, false, false, false, false, false, false, false, false, false, false, false, false] (by kernel_rfl) rfl rfl ⟨(blk_cell BK789.out 0).trans rfl, (blk_cell BK789.out 1).trans rfl, (blk_cell BK789.out 2).trans rfl, (blk_cell BK789.out 3).trans rfl, hx791_0⟩ (fun hHeld => ?_); refine with_tabW spec_l26Start.tab10 spec_l26Start.bits10 (fun HT_ HW_ => ?_)
           generalize wr.drew = w26 at HO_7 HO_790003 BK784 BK785 BK789 HB hx791_0 hHeld ⊢
           refine Hof.pu 0 34 HT_ ?_
           refine Hof.pu 2 36 HT_ ?_
           refine Hof.pu 3 37 HT_ ?_
           refine Hof.pu 4 38 HT_ ?_
           refine Hof.pu 5 39 HT_ ?_
           refine Hof.tk 1 35 HT_ HW_ hHeld ?_
           refine Hof.tk 6 40 HT_ HW_ hHeld ?_
           refine Hof.pu 7 41 HT_ ?_
           refine one_ (i := 8) (N := some 42) #[true, true, true, true, true, true, true, true, true, false, false, false, false] rfl rfl (one_of HT_.out (by kernel_rfl)) (by decide) (fun K hK => ?_)
           refine goes_ Try.func91 (by kernel_rfl) rfl #[.bool (x10_2 == (rd t786 x9_1))] (by rfl) rfl rfl (by (try simp only [List.map_toArray, List.map_cons, List.map_nil]); first | done | rfl) ?_
           with_reducible refine (spec_l1Bit.calls (x10_2 == (rd t786 x9_1)) t792 _ A21.out).mono ?_
           rintro e w' ⟨rfl, ⟨nd, rfl⟩⟩
           refine ⟨_, rfl, ?_⟩
           refine hK.out _ _ ⟨(blk_cell BK789.out 0).trans rfl, (blk_cell BK789.out 1).trans rfl, (blk_cell BK789.out 2).trans rfl, (blk_cell BK789.out 3).trans rfl, hHeld.2.2.2.2⟩ (fun hHeld => ?_)
           clear hK K
           refine norm_ (a' := ?_) ?_ ?_
           rotate_left
           ·show Act.put _ (some 42) _ = _
            simp only [Act.put, List.setIfInBounds_toArray, List.set_cons_zero, List.set_cons_succ, i64_w, i32_w]
            rfl
           refine one_ (i := 9) (N := some 43) #[true, true, true, true, true, true, true, true, true, true, false, false, false] rfl rfl (one_of HT_.out (by kernel_rfl)) (by decide) (fun K hK => ?_)
           refine value_ (w1 := ?_) (v := ?_) (by rfl) rfl ?_ ?_
           rotate_left 2
           ·go_simp
            constructor
            ·rfl
            ·rfl
           refine hK.out _ _ ⟨(blk_cell (blk_alloc BK789.out _) 0).trans rfl, (blk_cell (blk_alloc BK789.out _) 1).trans rfl, (blk_cell (blk_alloc BK789.out _) 2).trans rfl, (blk_cell (blk_alloc BK789.out _) 3).trans rfl, (World.cell?_alloc_lt _ _ _ (World.block_lt_of_cell? _ _ (hHeld.2.2.2.2))).trans (hHeld.2.2.2.2)⟩ (fun hHeld => ?_)
           clear hK K
           refine norm_ (a' := ?_) ?_ ?_
           rotate_left
           ·show Act.put _ (some 43) _ = _
            simp only [Act.put, List.setIfInBounds_toArray, List.set_cons_zero, List.set_cons_succ, i64_w, i32_w]
            rfl
           refine last_ (i := 10) (N := some 44) #[true, true, true, true, true, true, true, true, true, true, true, false, false] rfl rfl (one_of HT_.out (by kernel_rfl)) (by decide) (fun K hK => ?_)
           refine Kd.R_append_step (Kd.int .i64) (w0 := w) w.heap.size (by rfl) (.tmp 35) (.tmp 43) 24 3 (.int .i64 0) 8 rfl Try.underlying24 info3 rfl (by decide) (by omega) u790003 x790003_2 t792 [.int .i64 t792] (fun k_ => some k_ ≠ (.slice (some ad791) t786.length co8 : Value).ownBlock) (fun _ => False) rfl rfl ?aP (fun _ hk => hk.elim) ?aF ?aO ?aB ?aS ?aL ?_
           (case aP => exact rfl)
           (case aB => exact Hof.L)
           (case aF => exact (fun k_ hk => Kd.fresh' (Kd.R_lt (Hof.Rw HO_7.out)) k_ hk))
           (case aO => exact (Hof.Rw HO_790003.out))
           (case aS => exact (below_size Hof.L))
           (case aL => have := LMc22.out; omega)
           intro v794 w27 ho hb hg hat
           rw [← Ny793.out] at ho
           have n0_ := Aside0.mk (Kd.R_after (ok := (fun _ => True)) (Hof.Rw (Kd.R_mono HO_7.out (fun _ hk => ⟨trivial, hk⟩))) hg hat)
           have n1_ := Aside0.mk (blk_grown (g := gb784) (o := .cells #[.int .i64 a0_0, .slice A0_1 l0_1.length c0_1] 35 (0, 0)) (Hof.Bw BK784.out) hg (Kd.R_ne HO_790003.out BK784.out (by decide)))
           have n2_ := Aside0.mk (blk_grown (g := gb785) (o := .cells #[.int .i64 0, .int .i64 0, .int .i64 0, .slice none 0 0] 49 (0, 0)) (Hof.Bw BK785.out) hg (Kd.R_ne HO_790003.out BK785.out (by decide)))
           have n3_ := Aside0.mk (blk_grown (g := gb789) (o := .cells #[.int .i64 a1, .int .i64 (t786.length : Int), .int .i64 a0_0, u790003] 49 (0, 0)) (Hof.Bw BK789.out) hg (Kd.R_ne HO_790003.out BK789.out (by decide)))
           have n4_ := Aside0.mk hb
           have n5_ := Aside0.mk ho
           clear HO_7
           clear BK784
           clear BK785
           clear BK789
           clear HB
           clear HO_790003
           have HO_7 := n0_
           have BK784 := n1_
           have BK785 := n2_
           have BK789 := n3_
           have HB := n4_
           have HO795 := n5_
           clear n0_ n1_ n2_ n3_ n4_ n5_
           clear ho hb hg hat
           obtain ⟨Ao28, co28, eo28⟩ := Kd.R_slice HO795.out
           (first | subst eo28 | (injection eo28 with f1_ f2_ f3_; have f4_ := f1_.symm; have f5_ := f3_.symm; clear f1_ f2_ f3_; subst f4_; subst f5_))
           refine hK.out _ _ ?_
           clear hK K
           refine norm_ (a' := ?_) ?_ ?_
           rotate_left
           ·show Act.put _ (some 44) _ = _
            simp only [Act.put, List.setIfInBounds_toArray, List.set_cons_zero, List.set_cons_succ, i64_w, i32_w]
            rfl
           refine Hof.pu 11 45 HT_ ?_
           refine last_ (i := 12) (N := none) #[true, true, true, true, true, true, true, true, true, true, true, true, true] rfl rfl (one_of HT_.out (by kernel_rfl)) (by decide) (fun K hK => ?_)
           have hs29 : w27.cell? ⟨gb789, 3, none⟩ = some (u790003) := (blk_cell BK789.out 3).trans rfl
           have hfs29 := blk_frozen BK789.out 3
           have hns29_0 := NB784_789.out
           have hns29_1 := NB785_789.out
           have hms29_0 := NB789_784.out
           have hms29_1 := NB789_785.out
           refine skip_ (w1 := ?_) (by rfl) rfl ?_ ?_
           rotate_left
           ·go_simp
            rfl
           refine hK.out _ _ ?_
           clear hK K
           refine done_ (done_of HT_.out (by kernel_rfl)) ?_
           try go_wp2
           go_roundg k2
           case measure => have := HK1.out; have := HK2.out; omega
           case rel => exact ⟨(wrap64 (x10_2 + 1)), (y793), (.slice Ao28 y793.length co28), Hof.F, H', ⟨by have := HK1.out; have := HK2.out; omega⟩, ⟨Hof.Rw (Kd.R_mono (Kd.R_far (p := ⟨gb789, 3, none⟩) (Kd.R_types HO_7.out BK789.out (by decide)) (fun _ hk => hk.2) (.slice Ao28 y793.length co28)) (fun _ hk => hk.1.2))⟩, ⟨Hof.Rw (Kd.R_mono (Kd.R_far (p := ⟨gb789, 3, none⟩) (Kd.R_types HO795.out BK789.out (by decide)) (fun _ hk => hk.2) (.slice Ao28 y793.length co28)) (fun _ hk => hk.1))⟩, ⟨Hof.B⟩, ⟨Hof.B⟩, ⟨Hof.B⟩, ⟨Hof.L⟩⟩
          ·rw [if_neg c22] at H
           exact absurd H (by simp)
         ·rw [if_neg c20] at H
          exact absurd H (by simp)
        ·rw [if_neg c19] at H
         exact absurd H (by simp)
       ·replace c18 := Bool.eq_false_iff.mpr c18
        subst c18
        replace H : ((spec_CircuitOf.f k2 a0_0 l0_1 a2 x10_2).bind fun t796 => (if 0 ≤ x9_1 then (if x9_1 < (t786.length : Int) then ((spec_l2Has.f t796 (rd t786 x9_1)).bind fun t798 => ((spec_l1Bit.f t798).bind fun t799 => (if x790003_2.length < 17592186044416 then (spec_l26Start.l1 k2 a2 t786 x9_1 (wrap64 (x10_2 + 1)) a0_0 l0_1 a1 (t786.length : Int) a0_0 (x790003_2 ++ [t799])) else (none)))) else (none)) else (none))) = some (r1, r2, r3, r4) := by rw [if_neg (show ¬ (false = true) by decide)] at H; exact H
        obtain ⟨t796, A30, H⟩ := Hof.be H
        (try dsimp only at H)
        by_cases c31 : 0 ≤ x9_1
        ·rw [if_pos c31] at H
         have c31b0 := decide_eq_true c31
         clear c31
         by_cases c32 : x9_1 < (t786.length : Int)
         ·rw [if_pos c32] at H
          have c32b0 := decide_eq_true c32
          clear c32
          obtain ⟨t798, A33, H⟩ := Hof.be H
          (try dsimp only at H)
          obtain ⟨t799, A34, H⟩ := Hof.be H
          (try dsimp only at H)
          by_cases c35 : x790003_2.length < 17592186044416
          ·rw [if_pos c35] at H
           have LMc35 := Aside0.mk c35
           clear c35
           obtain ⟨y800, hy800⟩ : ∃ y_ : List Int, y_ = (x790003_2 ++ [t799]) := ⟨_, rfl⟩
           replace H : (spec_l26Start.l1 k2 a2 t786 x9_1 (wrap64 (x10_2 + 1)) a0_0 l0_1 a1 (t786.length : Int) a0_0 y800) = some (r1, r2, r3, r4) := by (try rw [hy800]); exact Hof.Z
           have Ny800 := Aside0.mk hy800
           clear hy800
           have H' := Aside0.mk H
           clear H
           have hnb36 := NB784_785.out
           have hnc36 := NB785_784.out
           have hnb37 := NB784_789.out
           have hnc37 := NB789_784.out
           obtain ⟨hcz38_0, hcz38_1, hfz38_0, hfz38_1⟩ := Hof.blk2 BK784.out
           try go_wp2_with (first | (refine Hof.gl (some 33) Try.func58 #[.int .i64 a2, .int .i64 x10_2] ?_; (with_reducible refine (spec_l2Has.calls a2 x10_2 false _ A17.out).mono ?_); rintro e w' ⟨rfl, ⟨nd, rfl⟩⟩; refine ⟨_, rfl, ?_⟩; (try (rw [drewN_self wr]; generalize hq_ : World.drewN wr _ = wr; have n0_ : Aside0 (Kd.R (Kd.int .i64) 3 wr w.heap.size (fun k_ => some k_ ≠ (u790003 : Value).ownBlock) (.slice Ao8 t786.length co8) t786) := ⟨by rw [← hq_]; exact (Hof.Rw HO_7.out)⟩; have n1_ : Aside0 (Kd.R (Kd.int .i64) 3 wr w.heap.size (fun k_ => some k_ ≠ (.slice Ao8 t786.length co8 : Value).ownBlock) u790003 x790003_2) := ⟨by rw [← hq_]; exact (Hof.Rw HO_790003.out)⟩; have n2_ : Aside0 (wr.heap[gb784]? = some (.cells #[.int .i64 a0_0, .slice A0_1 l0_1.length c0_1] 35 (0, 0))) := ⟨by rw [← hq_]; exact (Hof.Bw BK784.out)⟩; have n3_ : Aside0 (wr.heap[gb785]? = some (.cells #[.int .i64 0, .int .i64 0, .int .i64 0, .slice none 0 0] 49 (0, 0))) := ⟨by rw [← hq_]; exact (Hof.Bw BK785.out)⟩; have n4_ : Aside0 (wr.heap[gb789]? = some (.cells #[.int .i64 a1, .int .i64 (t786.length : Int), .int .i64 a0_0, u790003] 49 (0, 0))) := ⟨by rw [← hq_]; exact (Hof.Bw BK789.out)⟩; have n5_ : Aside0 (Below w.heap.size w wr) := ⟨by rw [← hq_]; exact Hof.L⟩; clear HO_7 HO_790003 BK784 BK785 BK789 HB hq_; have HO_7 := n0_; have HO_790003 := n1_; have BK784 := n2_; have BK785 := n3_; have BK789 := n4_; have HB := n5_; clear n0_ n1_ n2_ n3_ n4_ n5_; have hcy784_0 : wr.cell? ⟨gb784, 0, none⟩ = some (.int .i64 a0_0) := (blk_cell BK784.out 0).trans rfl; have hfy784_0 := blk_frozen BK784.out 0; have hcy784_1 : wr.cell? ⟨gb784, 1, none⟩ = some (.slice A0_1 l0_1.length c0_1) := (blk_cell BK784.out 1).trans rfl; have hfy784_1 := blk_frozen BK784.out 1; have hcy785_0 : wr.cell? ⟨gb785, 0, none⟩ = some (.int .i64 0) := (blk_cell BK785.out 0).trans rfl; have hfy785_0 := blk_frozen BK785.out 0; have hcy785_1 : wr.cell? ⟨gb785, 1, none⟩ = some (.int .i64 0) := (blk_cell BK785.out 1).trans rfl; have hfy785_1 := blk_frozen BK785.out 1; have hcy785_2 : wr.cell? ⟨gb785, 2, none⟩ = some (.int .i64 0) := (blk_cell BK785.out 2).trans rfl; have hfy785_2 := blk_frozen BK785.out 2; have hcy785_3 : wr.cell? ⟨gb785, 3, none⟩ = some (.slice none 0 0) := (blk_cell BK785.out 3).trans rfl; have hfy785_3 := blk_frozen BK785.out 3; have hcy789_0 : wr.cell? ⟨gb789, 0, none⟩ = some (.int .i64 a1) := (blk_cell BK789.out 0).trans rfl; have hfy789_0 := blk_frozen BK789.out 0; have hcy789_1 : wr.cell? ⟨gb789, 1, none⟩ = some (.int .i64 (t786.length : Int)) := (blk_cell BK789.out 1).trans rfl; have hfy789_1 := blk_frozen BK789.out 1; have hcy789_2 : wr.cell? ⟨gb789, 2, none⟩ = some (.int .i64 a0_0) := (blk_cell BK789.out 2).trans rfl; have hfy789_2 := blk_frozen BK789.out 2; have hcy789_3 : wr.cell? ⟨gb789, 3, none⟩ = some (u790003) := (blk_cell BK789.out 3).trans rfl; have hfy789_3 := blk_frozen BK789.out 3))))
           have n0_ := Aside0.mk (Kd.R_drew HO_7.out)
           have n1_ := Aside0.mk (Kd.R_drew HO_790003.out)
           have n2_ := Aside0.mk (blk_drew BK784.out)
           have n3_ := Aside0.mk (blk_drew BK785.out)
           have n4_ := Aside0.mk (blk_drew BK789.out)
           have n5_ := Aside0.mk (below_drew1 HB.out)
           clear HO_7
           clear HO_790003
           clear BK784
           clear BK785
           clear BK789
           clear HB
           have HO_7 := n0_
           have HO_790003 := n1_
           have BK784 := n2_
           have BK785 := n3_
           have BK789 := n4_
           have HB := n5_
           clear n0_ n1_ n2_ n3_ n4_ n5_
           have p797 : 0 ≤ (x9_1 : Int) := Hof.D
           have q797 : x9_1 < (t786.length : Int) := Hof.D
           obtain ⟨ad797, e797, hx797_0⟩ := Kd.at_int (Kd.R_reads' HO_7.out).2.2 x9_1 p797 q797
           cases e797
           replace p797 := eq_true p797
           replace q797 := eq_true q797
           refine start_ (n := 16) (S := fun w' => w'.cell? ⟨gb789, 0, none⟩ = some (.int .i64 a1) ∧ w'.cell? ⟨gb789, 1, none⟩ = some (.int .i64 (t786.length : Int)) ∧ w'.cell? ⟨gb789, 2, none⟩ = some (.int .i64 a0_0) ∧ w'.cell? ⟨gb789, 3, none⟩ = some (u790003) ∧ w'.cell? ⟨gb784, 0, none⟩ = some (.int .i64 a0_0) ∧ w'.cell? ⟨gb784, 1, none⟩ = some (.slice A0_1 l0_1.length c0_1) ∧ w'.cell? (ad797.add (x9_1).toNat) = some (.int .i64 (rd t786 x9_1))) (ds := [13, 15]) #[false, false, false, false, false, false, false, false, false, false, false, false, false, false, false, false] (by kernel_rfl) rfl rfl ⟨(blk_cell BK789.out 0).trans rfl, (blk_cell BK789.out 1).trans rfl, (blk_cell BK789.out 2).trans rfl, (blk_cell BK789.out 3).trans rfl, (blk_cell BK784.out 0).trans rfl, (blk_cell BK784.out 1).trans rfl, hx797_0⟩ (fun hHeld => ?_); refine with_tabW spec_l26Start.tab11 spec_l26Start.bits11 (fun HT_ HW_ => ?_)
           generalize wr.drew = w39 at HO_7 HO_790003 BK784 BK785 BK789 HB hx797_0 hHeld ⊢
           refine Hof.pu 0 46 HT_ ?_
           refine Hof.pu 3 49 HT_ ?_
           refine Hof.pu 4 50 HT_ ?_
           refine Hof.pu 6 52 HT_ ?_
           refine Hof.pu 7 53 HT_ ?_
           refine Hof.pu 8 54 HT_ ?_
           refine Hof.tk 1 47 HT_ HW_ hHeld ?_
           refine Hof.tk 2 48 HT_ HW_ hHeld ?_
           refine Hof.tk 9 55 HT_ HW_ hHeld ?_
           refine one_ (i := 5) (N := some 51) #[true, true, true, true, true, true, true, true, true, true, false, false, false, false, false, false] rfl rfl (one_of HT_.out (by kernel_rfl)) (by decide) (fun K hK => ?_)
           refine goes_ Try.func116 (by kernel_rfl) rfl #[.agg #[.int .i64 a0_0, .slice A0_1 l0_1.length c0_1], .int .i64 a2, .int .i64 x10_2] (by rfl) rfl rfl (by (try simp only [List.map_toArray, List.map_cons, List.map_nil]); first | done | rfl) ?_
           with_reducible refine (spec_CircuitOf.calls k2 a0_0 _ _ l0_1 a2 x10_2 t796 _ ?side1 ?side2 A30.out).mono ?_
           (case side1 => exact Hof.Cw (Kd.C_below HR0_1.out HB.out))
           (case side2 => exact HC0_1.out)
           rintro e w40 ⟨rfl, hb⟩
           have HS6_ := (hb.cell (World.block_lt_of_cell? _ _ (hHeld.2.2.2.2.2.2))).trans (hHeld.2.2.2.2.2.2)
           refine ⟨_, rfl, ?_⟩
           have n0_ := Hof.rb HO_7 hb
           have n1_ := Hof.rb HO_790003 hb
           have n2_ := Hof.bb BK784 hb
           have n3_ := Hof.bb BK785 hb
           have n4_ := Hof.bb BK789 hb
           have n5_ := Aside0.mk (below_step Hof.L hb)
           clear HO_7
           clear HO_790003
           clear BK784
           clear BK785
           clear BK789
           clear HB
           have HO_7 := n0_
           have HO_790003 := n1_
           have BK784 := n2_
           have BK785 := n3_
           have BK789 := n4_
           have HB := n5_
           clear n0_ n1_ n2_ n3_ n4_ n5_
           (try clear hb)
           (try clear hb2)
           (try clear hk)
           (try clear hi)
           refine hK.out _ _ ⟨(blk_cell BK789.out 0).trans rfl, (blk_cell BK789.out 1).trans rfl, (blk_cell BK789.out 2).trans rfl, (blk_cell BK789.out 3).trans rfl, (blk_cell BK784.out 0).trans rfl, (blk_cell BK784.out 1).trans rfl, HS6_⟩ (fun hHeld => ?_)
           clear hK K
           refine norm_ (a' := ?_) ?_ ?_
           rotate_left
           ·show Act.put _ (some 51) _ = _
            simp only [Act.put, List.setIfInBounds_toArray, List.set_cons_zero, List.set_cons_succ, i64_w, i32_w]
            rfl
           refine one_ (i := 10) (N := some 56) #[true, true, true, true, true, true, true, true, true, true, true, false, false, false, false, false] rfl rfl (one_of HT_.out (by kernel_rfl)) (by decide) (fun K hK => ?_)
           refine goes_ Try.func58 (by kernel_rfl) rfl #[.int .i64 t796, .int .i64 (rd t786 x9_1)] (by rfl) rfl rfl (by (try simp only [List.map_toArray, List.map_cons, List.map_nil]); first | done | rfl) ?_
           with_reducible refine (spec_l2Has.calls t796 (rd t786 x9_1) t798 _ A33.out).mono ?_
           rintro e w' ⟨rfl, ⟨nd, rfl⟩⟩
           refine ⟨_, rfl, ?_⟩
           refine hK.out _ _ ⟨(blk_cell BK789.out 0).trans rfl, (blk_cell BK789.out 1).trans rfl, (blk_cell BK789.out 2).trans rfl, (blk_cell BK789.out 3).trans rfl, (blk_cell BK784.out 0).trans rfl, (blk_cell BK784.out 1).trans rfl, hHeld.2.2.2.2.2.2⟩ (fun hHeld => ?_)
           clear hK K
           refine norm_ (a' := ?_) ?_ ?_
           rotate_left
           ·show Act.put _ (some 56) _ = _
            simp only [Act.put, List.setIfInBounds_toArray, List.set_cons_zero, List.set_cons_succ, i64_w, i32_w]
            rfl
           refine one_ (i := 11) (N := some 57) #[true, true, true, true, true, true, true, true, true, true, true, true, false, false, false, false] rfl rfl (one_of HT_.out (by kernel_rfl)) (by decide) (fun K hK => ?_)
           refine goes_ Try.func91 (by kernel_rfl) rfl #[.bool t798] (by rfl) rfl rfl (by (try simp only [List.map_toArray, List.map_cons, List.map_nil]); first | done | rfl) ?_
           with_reducible refine (spec_l1Bit.calls t798 t799 _ A34.out).mono ?_
           rintro e w' ⟨rfl, ⟨nd, rfl⟩⟩
           refine ⟨_, rfl, ?_⟩
           refine hK.out _ _ ⟨(blk_cell BK789.out 0).trans rfl, (blk_cell BK789.out 1).trans rfl, (blk_cell BK789.out 2).trans rfl, (blk_cell BK789.out 3).trans rfl, (blk_cell BK784.out 0).trans rfl, (blk_cell BK784.out 1).trans rfl, hHeld.2.2.2.2.2.2⟩ (fun hHeld => ?_)
           clear hK K
           refine norm_ (a' := ?_) ?_ ?_
           rotate_left
           ·show Act.put _ (some 57) _ = _
            simp only [Act.put, List.setIfInBounds_toArray, List.set_cons_zero, List.set_cons_succ, i64_w, i32_w]
            rfl
           refine one_ (i := 12) (N := some 58) #[true, true, true, true, true, true, true, true, true, true, true, true, true, false, false, false] rfl rfl (one_of HT_.out (by kernel_rfl)) (by decide) (fun K hK => ?_)
           refine value_ (w1 := ?_) (v := ?_) (by rfl) rfl ?_ ?_
           rotate_left 2
           ·go_simp
            constructor
            ·rfl
            ·rfl
           refine hK.out _ _ ⟨(blk_cell (blk_alloc BK789.out _) 0).trans rfl, (blk_cell (blk_alloc BK789.out _) 1).trans rfl, (blk_cell (blk_alloc BK789.out _) 2).trans rfl, (blk_cell (blk_alloc BK789.out _) 3).trans rfl, (blk_cell (blk_alloc BK784.out _) 0).trans rfl, (blk_cell (blk_alloc BK784.out _) 1).trans rfl, (World.cell?_alloc_lt _ _ _ (World.block_lt_of_cell? _ _ (hHeld.2.2.2.2.2.2))).trans (hHeld.2.2.2.2.2.2)⟩ (fun hHeld => ?_)
           clear hK K
           refine norm_ (a' := ?_) ?_ ?_
           rotate_left
           ·show Act.put _ (some 58) _ = _
            simp only [Act.put, List.setIfInBounds_toArray, List.set_cons_zero, List.set_cons_succ, i64_w, i32_w]
            rfl
           refine last_ (i := 13) (N := some 59) #[true, true, true, true, true, true, true, true, true, true, true, true, true, true, false, false] rfl rfl (one_of HT_.out (by kernel_rfl)) (by decide) (fun K hK => ?_)
           refine Kd.R_append_step (Kd.int .i64) (w0 := w) w.heap.size (by rfl) (.tmp 47) (.tmp 58) 24 3 (.int .i64 0) 8 rfl Try.underlying24 info3 rfl (by decide) (by omega) u790003 x790003_2 t799 [.int .i64 t799] (fun k_ => some k_ ≠ (.slice (some ad797) t786.length co8 : Value).ownBlock) (fun _ => False) rfl rfl ?aP (fun _ hk => hk.elim) ?aF ?aO ?aB ?aS ?aL ?_
           (case aP => exact rfl)
           (case aB => exact Hof.L)
           (case aF => exact (fun k_ hk => Kd.fresh' (Kd.R_lt (Hof.Rw HO_7.out)) k_ hk))
           (case aO => exact (Hof.Rw HO_790003.out))
           (case aS => exact (below_size Hof.L))
           (case aL => have := LMc35.out; omega)
           intro v801 w41 ho hb hg hat
           rw [← Ny800.out] at ho
           have n0_ := Aside0.mk (Kd.R_after (ok := (fun _ => True)) (Hof.Rw (Kd.R_mono HO_7.out (fun _ hk => ⟨trivial, hk⟩))) hg hat)
           have n1_ := Aside0.mk (blk_grown (g := gb784) (o := .cells #[.int .i64 a0_0, .slice A0_1 l0_1.length c0_1] 35 (0, 0)) (Hof.Bw BK784.out) hg (Kd.R_ne HO_790003.out BK784.out (by decide)))
           have n2_ := Aside0.mk (blk_grown (g := gb785) (o := .cells #[.int .i64 0, .int .i64 0, .int .i64 0, .slice none 0 0] 49 (0, 0)) (Hof.Bw BK785.out) hg (Kd.R_ne HO_790003.out BK785.out (by decide)))
           have n3_ := Aside0.mk (blk_grown (g := gb789) (o := .cells #[.int .i64 a1, .int .i64 (t786.length : Int), .int .i64 a0_0, u790003] 49 (0, 0)) (Hof.Bw BK789.out) hg (Kd.R_ne HO_790003.out BK789.out (by decide)))
           have n4_ := Aside0.mk hb
           have n5_ := Aside0.mk ho
           clear HO_7
           clear BK784
           clear BK785
           clear BK789
           clear HB
           clear HO_790003
           have HO_7 := n0_
           have BK784 := n1_
           have BK785 := n2_
           have BK789 := n3_
           have HB := n4_
           have HO802 := n5_
           clear n0_ n1_ n2_ n3_ n4_ n5_
           clear ho hb hg hat
           obtain ⟨Ao42, co42, eo42⟩ := Kd.R_slice HO802.out
           (first | subst eo42 | (injection eo42 with f1_ f2_ f3_; have f4_ := f1_.symm; have f5_ := f3_.symm; clear f1_ f2_ f3_; subst f4_; subst f5_))
           refine hK.out _ _ ?_
           clear hK K
           refine norm_ (a' := ?_) ?_ ?_
           rotate_left
           ·show Act.put _ (some 59) _ = _
            simp only [Act.put, List.setIfInBounds_toArray, List.set_cons_zero, List.set_cons_succ, i64_w, i32_w]
            rfl
           refine Hof.pu 14 60 HT_ ?_
           refine last_ (i := 15) (N := none) #[true, true, true, true, true, true, true, true, true, true, true, true, true, true, true, true] rfl rfl (one_of HT_.out (by kernel_rfl)) (by decide) (fun K hK => ?_)
           have hs43 : w41.cell? ⟨gb789, 3, none⟩ = some (u790003) := (blk_cell BK789.out 3).trans rfl
           have hfs43 := blk_frozen BK789.out 3
           have hns43_0 := NB784_789.out
           have hns43_1 := NB785_789.out
           have hms43_0 := NB789_784.out
           have hms43_1 := NB789_785.out
           refine skip_ (w1 := ?_) (by rfl) rfl ?_ ?_
           rotate_left
           ·go_simp
            rfl
           refine hK.out _ _ ?_
           clear hK K
           refine done_ (done_of HT_.out (by kernel_rfl)) ?_
           try go_wp2
           go_roundg k2
           case measure => have := HK1.out; have := HK2.out; omega
           case rel => exact ⟨(wrap64 (x10_2 + 1)), (y800), (.slice Ao42 y800.length co42), Hof.F, H', ⟨by have := HK1.out; have := HK2.out; omega⟩, ⟨Hof.Rw (Kd.R_mono (Kd.R_far (p := ⟨gb789, 3, none⟩) (Kd.R_types HO_7.out BK789.out (by decide)) (fun _ hk => hk.2) (.slice Ao42 y800.length co42)) (fun _ hk => hk.1.2))⟩, ⟨Hof.Rw (Kd.R_mono (Kd.R_far (p := ⟨gb789, 3, none⟩) (Kd.R_types HO802.out BK789.out (by decide)) (fun _ hk => hk.2) (.slice Ao42 y800.length co42)) (fun _ hk => hk.1))⟩, ⟨Hof.B⟩, ⟨Hof.B⟩, ⟨Hof.B⟩, ⟨Hof.L⟩⟩
          ·rw [if_neg c35] at H
           exact absurd H (by simp)
         ·rw [if_neg c32] at H
          exact absurd H (by simp)
        ·rw [if_neg c31] at H
         exact absurd H (by simp)
      ·rw [if_neg c16] at H
       have c16b0 : decide (x10_2 < a0_0) = false := decide_eq_false c16
       clear c16
       have H' := Aside0.mk H
       clear H
       have hnb44 := NB784_785.out
       have hnc44 := NB785_784.out
       have hnb45 := NB784_789.out
       have hnc45 := NB789_784.out
       obtain ⟨hcz46_0, hcz46_1, hfz46_0, hfz46_1⟩ := Hof.blk2 BK784.out
       go_wp2
       go_roundg k2
       case measure => have := HK1.out; have := HK2.out; omega
       case rel => exact ⟨(wrap64 (x9_1 + 1)), (x790003_2), (u790003), Hof.F, H', ⟨by have := HK1.out; have := HK2.out; omega⟩, ⟨Hof.Rw HO_7.out⟩, ⟨Hof.Rw HO_790003.out⟩, ⟨Hof.Bw BK784.out⟩, ⟨Hof.Bw BK785.out⟩, ⟨Hof.Bw BK789.out⟩, ⟨Hof.L⟩⟩
   ·rw [if_neg c15] at H
    have c15b0 : decide (x9_1 < (t786.length : Int)) = false := decide_eq_false c15
    clear c15
    simp only [Option.some.injEq, Prod.mk.injEq] at H
    obtain ⟨rfl, rfl, rfl, rfl⟩ := H
    have hnb47 := NB789_784.out
    have hnc47 := NB784_789.out
    have hnb48 := NB789_785.out
    have hnc48 := NB785_789.out
    obtain ⟨hcz49_0, hcz49_1, hcz49_2, hcz49_3, hfz49_0, hfz49_1, hfz49_2, hfz49_3⟩ := Hof.blk4 BK789.out
    have hnb50 := NB785_784.out
    have hnc50 := NB784_785.out
    obtain ⟨hcz51_0, hcz51_1, hcz51_2, hcz51_3, hfz51_0, hfz51_1, hfz51_2, hfz51_3⟩ := Hof.blk4 BK785.out
    obtain ⟨Ao52, co52, eo52⟩ := Kd.R_slice HO_790003.out
    subst eo52
    go_wp2
    refine bodyPost_ret (results_cell_row rfl _ _ gb785 49 #[.int .i64 a1, .int .i64 (t786.length : Int), .int .i64 a0_0, .slice Ao52 x790003_1.length co52] (0, 0) _ rfl Hof.B Try.underlying49 rfl (by kernel_rfl)) rfl ?_
    exact ⟨_, Hof.E, by (with_reducible repeat (first | apply Kd.R_alloc | apply Kd.R_drewN | apply Kd.R_drew)); exact Kd.R_mono (Kd.R_far (p := ⟨gb785, 3, none⟩) (Kd.R_far (p := ⟨gb785, 2, none⟩) (Kd.R_far (p := ⟨gb785, 1, none⟩) (Kd.R_far (p := ⟨gb785, 0, none⟩) (Kd.R_types HO_790003.out BK785.out (by decide)) (fun _ hk => hk.2) (.int .i64 a1)) (fun _ hk => hk.2) (.int .i64 (t786.length : Int))) (fun _ hk => hk.2) (.int .i64 a0_0)) (fun _ hk => hk.2) (.slice Ao52 x790003_1.length co52)) (fun _ hk => trivial), Hof.L⟩
mutual
def spec_EqualMatroid.j0 : Nat → Bool → Int → List Int → Int → List Int → Option (Bool)
 | 0, _, _, _, _, _ => none
 | k + 1, x19, x804000, x804001, x805000, x805001 => if x19 = true then (some false) else (spec_EqualMatroid.l0 k 0 x804000 x804001 x805000 x805001)
def spec_EqualMatroid.l0 : Nat → Int → Int → List Int → Int → List Int → Option (Bool)
 | 0, _, _, _, _, _ => none
 | k + 1, x5, x804000, x804001, x805000, x805001 => if x5 < (x804001.length : Int) then (if 0 ≤ x5 then (if x5 < (x805001.length : Int) then (if (rd x804001 x5) = (rd x805001 x5) then (spec_EqualMatroid.l0 k (wrap64 (x5 + 1)) x804000 x804001 x805000 x805001) else (some false)) else (none)) else (none)) else (some true)
end
def spec_EqualMatroid.f (k : Nat) (a0_0 : Int) (l0_1 : List Int) (a1_0 : Int) (l1_1 : List Int) : Option (Bool) := if a0_0 = a1_0 then (spec_EqualMatroid.j0 k ((l0_1.length : Int) != (l1_1.length : Int)) a0_0 l0_1 a1_0 l1_1) else (spec_EqualMatroid.j0 k true a0_0 l0_1 a1_0 l1_1)
set_option maxHeartbeats 8000000 in
set_option maxRecDepth 100000 in
theorem spec_EqualMatroid.calls (k : Nat) (a0_0 : Int) (A0_1 : Option Addr) (c0_1 : Nat) (l0_1 : List Int) (a1_0 : Int) (A1_1 : Option Addr) (c1_1 : Nat) (l1_1 : List Int) (r : Bool) (w : World) (hr0_1 : Kd.C (Kd.int .i64) w A0_1 l0_1.length l0_1) (hc0_1 : l0_1.length ≤ c0_1) (hr1_1 : Kd.C (Kd.int .i64) w A1_1 l1_1.length l1_1) (hc1_1 : l1_1.length ≤ c1_1) (h : spec_EqualMatroid.f k a0_0 l0_1 a1_0 l1_1 = some r) :
  Calls Try.prog 78 #[.agg #[.int .i64 a0_0, .slice A0_1 l0_1.length c0_1], .agg #[.int .i64 a1_0, .slice A1_1 l1_1.length c1_1]] w fun e w' => e = .returned (.bool r) ∧ Below w.heap.size w w' := by
 have hu35 := Try.underlying35
 have HR0_1 := Aside0.mk hr0_1
 have HC0_1 := Aside0.mk hc0_1
 clear hr0_1 hc0_1
 have HR1_1 := Aside0.mk hr1_1
 have HC1_1 := Aside0.mk hc1_1
 clear hr1_1 hc1_1
 have HB := Aside0.mk (Below.refl w.heap.size w)
 unfold spec_EqualMatroid.f at h
 have H := h
 clear h
 have HC3 := Aside0.mk H
 clear H
 go_enter Try.func78, Try.ntmps78
 go_upto_region 1 with (first | ((with_reducible refine gate_dst (N := 2) rfl ?_); (try (refine gate_guard (by rfl) ?_; dsimp only)); refine box_event ?hg (N := 2) ?hd (cs := #[.int .i64 a0_0, .slice A0_1 l0_1.length c0_1]) (t := 35) ?hr ?_; (case hd => rfl); (case hg => rfl); (case hr => first | (go_simp; done) | (go_simp; rfl)); intro gb803 hg w4 hbox hb; have BK803 := Aside0.mk hbox; have GW803 := Hof.gw hg HB; have GE803 := Hof.gw hg HB; replace HB := Hof.lb HB hb; clear hb hbox hg) | ((with_reducible refine gate_dst (N := 3) rfl ?_); (try (refine gate_guard (by rfl) ?_; dsimp only)); refine box_event ?hg (N := 3) ?hd (cs := #[.int .i64 a1_0, .slice A1_1 l1_1.length c1_1]) (t := 35) ?hr ?_; (case hd => rfl); (case hg => rfl); (case hr => first | (go_simp; done) | (go_simp; rfl)); intro gb804 hg w5 hbox hb; have BK804 := Aside0.mk hbox; have GW804 := Hof.gw hg HB; have GE804 := Hof.gw hg HB; replace HB := Hof.lb HB hb; have NB803_804 := Hof.nl hg BK803; have NB804_803 := Hof.ng hg BK803; replace BK803 := Hof.bb BK803 hb; clear hb hbox hg))
 repeat (go_quiet (first | ((with_reducible refine gate_dst (N := 2) rfl ?_); (try (refine gate_guard (by rfl) ?_; dsimp only)); refine box_event ?hg (N := 2) ?hd (cs := #[.int .i64 a0_0, .slice A0_1 l0_1.length c0_1]) (t := 35) ?hr ?_; (case hd => rfl); (case hg => rfl); (case hr => first | (go_simp; done) | (go_simp; rfl)); intro gb803 hg w4 hbox hb; have BK803 := Aside0.mk hbox; have GW803 := Hof.gw hg HB; have GE803 := Hof.gw hg HB; replace HB := Hof.lb HB hb; clear hb hbox hg) | ((with_reducible refine gate_dst (N := 3) rfl ?_); (try (refine gate_guard (by rfl) ?_; dsimp only)); refine box_event ?hg (N := 3) ?hd (cs := #[.int .i64 a1_0, .slice A1_1 l1_1.length c1_1]) (t := 35) ?hr ?_; (case hd => rfl); (case hg => rfl); (case hr => first | (go_simp; done) | (go_simp; rfl)); intro gb804 hg w5 hbox hb; have BK804 := Aside0.mk hbox; have GW804 := Hof.gw hg HB; have GE804 := Hof.gw hg HB; replace HB := Hof.lb HB hb; have NB803_804 := Hof.nl hg BK803; have NB804_803 := Hof.ng hg BK803; replace BK803 := Hof.bb BK803 hb; clear hb hbox hg)); go_upto_region 1 with (first | ((with_reducible refine gate_dst (N := 2) rfl ?_); (try (refine gate_guard (by rfl) ?_; dsimp only)); refine box_event ?hg (N := 2) ?hd (cs := #[.int .i64 a0_0, .slice A0_1 l0_1.length c0_1]) (t := 35) ?hr ?_; (case hd => rfl); (case hg => rfl); (case hr => first | (go_simp; done) | (go_simp; rfl)); intro gb803 hg w4 hbox hb; have BK803 := Aside0.mk hbox; have GW803 := Hof.gw hg HB; have GE803 := Hof.gw hg HB; replace HB := Hof.lb HB hb; clear hb hbox hg) | ((with_reducible refine gate_dst (N := 3) rfl ?_); (try (refine gate_guard (by rfl) ?_; dsimp only)); refine box_event ?hg (N := 3) ?hd (cs := #[.int .i64 a1_0, .slice A1_1 l1_1.length c1_1]) (t := 35) ?hr ?_; (case hd => rfl); (case hg => rfl); (case hr => first | (go_simp; done) | (go_simp; rfl)); intro gb804 hg w5 hbox hb; have BK804 := Aside0.mk hbox; have GW804 := Hof.gw hg HB; have GE804 := Hof.gw hg HB; replace HB := Hof.lb HB hb; have NB803_804 := Hof.nl hg BK803; have NB804_803 := Hof.ng hg BK803; replace BK803 := Hof.bb BK803 hb; clear hb hbox hg)))
 (try simp only [Act.put, List.setIfInBounds_toArray, List.set_cons_zero, List.set_cons_succ])
 go_cut [19] (fun v19 wc => ∃ (kq : Nat) (x19_2 : Bool), v19 = .bool x19_2 ∧ Aside0 (spec_EqualMatroid.j0 kq x19_2 a0_0 l0_1 a1_0 l1_1 = some r) ∧ Aside0 (kq ≤ k) ∧ Aside0 (wc.heap[gb803]? = some (.cells #[.int .i64 a0_0, (.slice A0_1 l0_1.length c0_1)] 35 (0, 0))) ∧ Aside0 (wc.heap[gb804]? = some (.cells #[.int .i64 a1_0, (.slice A1_1 l1_1.length c1_1)] 35 (0, 0))) ∧ Aside0 (Below w.heap.size w wc))
 case first =>
  have H := HC3.out
  clear HC3
  by_cases c6 : a0_0 = a1_0
  ·rw [if_pos c6] at H
   have c6b0 : (a0_0 == a1_0) = true := beq_iff_eq.mpr c6
   have c6b1 : (a0_0 != a1_0) = false := bne_eq_false_iff_eq.mpr c6
   clear c6
   (first | rw [c6b0] | (simp only [i64_w, i32_w]; rw [c6b0]) | skip)
   have H' := Aside0.mk H
   clear H
   have hnb7 := NB803_804.out
   have hnc7 := NB804_803.out
   obtain ⟨hcz8_0, hcz8_1, hfz8_0, hfz8_1⟩ := Hof.blk2 BK803.out
   obtain ⟨hcz9_0, hcz9_1, hfz9_0, hfz9_1⟩ := Hof.blk2 BK804.out
   go_wp2
   repeat (go_quiet (fail); try go_wp2)
   go_meet
   case rel => exact ⟨_, (((l0_1.length : Int) != (l1_1.length : Int))), Hof.F, H', ⟨by first | omega | exact Nat.le_refl _⟩, ⟨Hof.Bw BK803.out⟩, ⟨Hof.Bw BK804.out⟩, ⟨Hof.Lw HB.out⟩⟩
  ·rw [if_neg c6] at H
   have c6b0 : (a0_0 == a1_0) = false := beq_eq_false_iff_ne.mpr c6
   have c6b1 : (a0_0 != a1_0) = true := bne_iff_ne.mpr c6
   (first | rw [c6b0] | (simp only [i64_w, i32_w]; rw [c6b0]) | skip)
   have H' := Aside0.mk H
   clear H
   have hnb10 := NB803_804.out
   have hnc10 := NB804_803.out
   obtain ⟨hcz11_0, hcz11_1, hfz11_0, hfz11_1⟩ := Hof.blk2 BK803.out
   obtain ⟨hcz12_0, hcz12_1, hfz12_0, hfz12_1⟩ := Hof.blk2 BK804.out
   go_wp2
   repeat (go_quiet (fail); try go_wp2)
   go_meet
   case rel => exact ⟨_, (true), Hof.F, H', ⟨by first | omega | exact Nat.le_refl _⟩, ⟨Hof.Bw BK803.out⟩, ⟨Hof.Bw BK804.out⟩, ⟨Hof.Lw HB.out⟩⟩
 case rest =>
  clear HC3
  obtain ⟨kq, x19_2, rfl, HA, HJ2, BK803, BK804, HB⟩ := hcut
  cases kq with
  | zero => exact absurd HA.out (by simp [spec_EqualMatroid.j0])
  | succ kj2 =>
   have H := HA.out
   clear HA
   simp only [spec_EqualMatroid.j0] at H
   by_cases c13 : x19_2 = true
   ·subst c13
    replace H : (some false) = some r := by rw [if_pos rfl] at H; exact H
    obtain rfl := Option.some.inj H
    go_wp2
    repeat (go_quiet (fail); try go_wp2)
    go_ret
    exact ⟨Hof.E, Hof.L⟩
   ·replace c13 := Bool.eq_false_iff.mpr c13
    subst c13
    replace H : (spec_EqualMatroid.l0 kj2 0 a0_0 l0_1 a1_0 l1_1) = some r := by rw [if_neg (show ¬ (false = true) by decide)] at H; exact H
    have H' := Aside0.mk H
    clear H
    go_wp2
    repeat (go_quiet (fail); try go_wp2)
    go_loopg [5] kj2 (fun kq v5 w' => ∃ (x5_2 : Int), v5 = .int .i64 x5_2 ∧ Aside0 (spec_EqualMatroid.l0 kq x5_2 a0_0 l0_1 a1_0 l1_1 = some r) ∧ Aside0 (kq ≤ kj2) ∧ Aside0 (w'.heap[gb803]? = some (.cells #[.int .i64 a0_0, (.slice A0_1 l0_1.length c0_1)] 35 (0, 0))) ∧ Aside0 (w'.heap[gb804]? = some (.cells #[.int .i64 a1_0, (.slice A1_1 l1_1.length c1_1)] 35 (0, 0))) ∧ Aside0 (Below w.heap.size w w'))
    case atStart => exact ⟨(0), Hof.F, H', ⟨Nat.le_refl _⟩, ⟨Hof.Bw BK803.out⟩, ⟨Hof.Bw BK804.out⟩, ⟨Hof.Lw HB.out⟩⟩
    case round =>
     clear H'
     obtain ⟨x5_2, rfl, HA, HK2, BK803, BK804, HB⟩ := hrel
     cases gk with
     | zero => exact absurd HA.out (by simp [spec_EqualMatroid.l0])
     | succ k2 =>
      have H := HA.out
      clear HA
      simp only [spec_EqualMatroid.l0] at H
      by_cases c14 : x5_2 < (l0_1.length : Int)
      ·rw [if_pos c14] at H
       have c14b0 := decide_eq_true c14
       clear c14
       by_cases c15 : 0 ≤ x5_2
       ·rw [if_pos c15] at H
        have c15b0 := decide_eq_true c15
        clear c15
        by_cases c16 : x5_2 < (l1_1.length : Int)
        ·rw [if_pos c16] at H
         have c16b0 := decide_eq_true c16
         clear c16
         by_cases c17 : (rd l0_1 x5_2) = (rd l1_1 x5_2)
         ·rw [if_pos c17] at H
          have c17b0 : ((rd l0_1 x5_2) == (rd l1_1 x5_2)) = true := beq_iff_eq.mpr c17
          have c17b1 : ((rd l0_1 x5_2) != (rd l1_1 x5_2)) = false := bne_eq_false_iff_eq.mpr c17
          clear c17
          have H' := Aside0.mk H
          clear H
          have hnb18 := NB803_804.out
          have hnc18 := NB804_803.out
          obtain ⟨hcz19_0, hcz19_1, hfz19_0, hfz19_1⟩ := Hof.blk2 BK803.out
          have p805 : 0 ≤ (x5_2 : Int) := Hof.D
          have q805 : x5_2 < (l0_1.length : Int) := Hof.D
          obtain ⟨ad805, e805, hx805_0⟩ := Kd.at_int HR0_1.out x5_2 p805 q805
          cases e805
          try replace hx805_0 := (HB.out.cell (World.block_lt_of_cell? w _ hx805_0)).trans hx805_0
          replace p805 := eq_true p805
          replace q805 := eq_true q805
          obtain ⟨hcz20_0, hcz20_1, hfz20_0, hfz20_1⟩ := Hof.blk2 BK804.out
          have p806 : 0 ≤ (x5_2 : Int) := Hof.D
          have q806 : x5_2 < (l1_1.length : Int) := Hof.D
          obtain ⟨ad806, e806, hx806_0⟩ := Kd.at_int HR1_1.out x5_2 p806 q806
          cases e806
          try replace hx806_0 := (HB.out.cell (World.block_lt_of_cell? w _ hx806_0)).trans hx806_0
          replace p806 := eq_true p806
          replace q806 := eq_true q806
          go_wp2
          repeat (go_quiet (fail); try go_wp2)
          go_roundg k2
          case measure => have := HJ2.out; have := HK2.out; omega
          case rel => exact ⟨(wrap64 (x5_2 + 1)), Hof.F, H', ⟨by have := HJ2.out; have := HK2.out; omega⟩, ⟨Hof.Bw BK803.out⟩, ⟨Hof.Bw BK804.out⟩, ⟨Hof.Lw HB.out⟩⟩
         ·rw [if_neg c17] at H
          have c17b0 : ((rd l0_1 x5_2) == (rd l1_1 x5_2)) = false := beq_eq_false_iff_ne.mpr c17
          have c17b1 : ((rd l0_1 x5_2) != (rd l1_1 x5_2)) = true := bne_iff_ne.mpr c17
          obtain rfl := Option.some.inj H
          have hnb21 := NB803_804.out
          have hnc21 := NB804_803.out
          obtain ⟨hcz22_0, hcz22_1, hfz22_0, hfz22_1⟩ := Hof.blk2 BK803.out
          have p805 : 0 ≤ (x5_2 : Int) := Hof.D
          have q805 : x5_2 < (l0_1.length : Int) := Hof.D
          obtain ⟨ad805, e805, hx805_0⟩ := Kd.at_int HR0_1.out x5_2 p805 q805
          cases e805
          try replace hx805_0 := (HB.out.cell (World.block_lt_of_cell? w _ hx805_0)).trans hx805_0
          replace p805 := eq_true p805
          replace q805 := eq_true q805
          obtain ⟨hcz23_0, hcz23_1, hfz23_0, hfz23_1⟩ := Hof.blk2 BK804.out
          have p806 : 0 ≤ (x5_2 : Int) := Hof.D
          have q806 : x5_2 < (l1_1.length : Int) := Hof.D
          obtain ⟨ad806, e806, hx806_0⟩ := Kd.at_int HR1_1.out x5_2 p806 q806
          cases e806
          try replace hx806_0 := (HB.out.cell (World.block_lt_of_cell? w _ hx806_0)).trans hx806_0
          replace p806 := eq_true p806
          replace q806 := eq_true q806
          go_wp2
          repeat (go_quiet (fail); try go_wp2)
          go_ret
          exact ⟨Hof.E, Hof.L⟩
        ·rw [if_neg c16] at H
         exact absurd H (by simp)
       ·rw [if_neg c15] at H
        exact absurd H (by simp)
      ·rw [if_neg c14] at H
       have c14b0 : decide (x5_2 < (l0_1.length : Int)) = false := decide_eq_false c14
       clear c14
       obtain rfl := Option.some.inj H
       have hnb24 := NB803_804.out
       have hnc24 := NB804_803.out
       obtain ⟨hcz25_0, hcz25_1, hfz25_0, hfz25_1⟩ := Hof.blk2 BK803.out
       go_wp2
       repeat (go_quiet (fail); try go_wp2)
       go_ret
       exact ⟨Hof.E, Hof.L⟩
def spec_l12Prime.f (a0 : Int) : Option (Bool) := if a0 = 2 then (some true) else (if a0 = 3 then (some true) else (if a0 = 5 then (some true) else (some (a0 == 7))))
set_option maxHeartbeats 8000000 in
set_option maxRecDepth 100000 in
theorem spec_l12Prime.calls (a0 : Int) (r : Bool) (w : World) (h : spec_l12Prime.f a0 = some r) :
  Calls Try.prog 143 #[.int .i64 a0] w fun e w' => e = .returned (.bool r) ∧ Drawn0 w w' := by
 unfold spec_l12Prime.f at h
 have H := h
 clear h
 by_cases c2 : a0 = 2
 ·rw [if_pos c2] at H
  have c2b0 : (a0 == 2) = true := beq_iff_eq.mpr c2
  have c2b1 : (a0 != 2) = false := bne_eq_false_iff_eq.mpr c2
  clear c2
  obtain rfl := Option.some.inj H
  go_enter Try.func143, Try.ntmps143
  go_wp2
  go_ret
  exact ⟨Hof.F, Hof.G⟩
 ·rw [if_neg c2] at H
  have c2b0 : (a0 == 2) = false := beq_eq_false_iff_ne.mpr c2
  have c2b1 : (a0 != 2) = true := bne_iff_ne.mpr c2
  by_cases c3 : a0 = 3
  ·rw [if_pos c3] at H
   have c3b0 : (a0 == 3) = true := beq_iff_eq.mpr c3
   have c3b1 : (a0 != 3) = false := bne_eq_false_iff_eq.mpr c3
   clear c3
   obtain rfl := Option.some.inj H
   go_enter Try.func143, Try.ntmps143
   go_wp2
   go_ret
   exact ⟨Hof.F, Hof.G⟩
  ·rw [if_neg c3] at H
   have c3b0 : (a0 == 3) = false := beq_eq_false_iff_ne.mpr c3
   have c3b1 : (a0 != 3) = true := bne_iff_ne.mpr c3
   by_cases c4 : a0 = 5
   ·rw [if_pos c4] at H
    have c4b0 : (a0 == 5) = true := beq_iff_eq.mpr c4
    have c4b1 : (a0 != 5) = false := bne_eq_false_iff_eq.mpr c4
    clear c4
    obtain rfl := Option.some.inj H
    go_enter Try.func143, Try.ntmps143
    go_wp2
    go_ret
    exact ⟨Hof.F, Hof.G⟩
   ·rw [if_neg c4] at H
    have c4b0 : (a0 == 5) = false := beq_eq_false_iff_ne.mpr c4
    have c4b1 : (a0 != 5) = true := bne_iff_ne.mpr c4
    obtain rfl := Option.some.inj H
    go_enter Try.func143, Try.ntmps143
    go_wp2
    go_ret
    exact ⟨Hof.F, Hof.G⟩
mutual
def spec_IsMatrix.j0 : Nat → Bool → Int → Int → Int → List Int → Option (Bool)
 | 0, _, _, _, _, _ => none
 | k + 1, x30, x808000, x808001, x808002, x808003 => if x30 = true then (some false) else (spec_IsMatrix.l0 k 0 x808000 x808001 x808002 x808003)
def spec_IsMatrix.l0 : Nat → Int → Int → Int → Int → List Int → Option (Bool)
 | 0, _, _, _, _, _ => none
 | k + 1, x3, x808000, x808001, x808002, x808003 => if x3 < (x808003.length : Int) then (if 0 ≤ x3 then ((spec_l1In.f (rd x808003 x3) 0 (wrap64 (x808000 - 1))).bind fun t812 => (if t812 = true then (spec_IsMatrix.l0 k (wrap64 (x3 + 1)) x808000 x808001 x808002 x808003) else (some false))) else (none)) else (some true)
end
def spec_IsMatrix.f (k : Nat) (a0_0 : Int) (a0_1 : Int) (a0_2 : Int) (l0_3 : List Int) : Option (Bool) := (spec_l12Prime.f a0_0).bind fun t808 => (if t808 = true then ((spec_l1In.f a0_1 0 8).bind fun t809 => (if t809 = true then ((spec_l1In.f a0_2 0 8).bind fun t810 => (if t810 = true then (spec_IsMatrix.j0 k ((l0_3.length : Int) != (wrap64 (a0_1 * a0_2))) a0_0 a0_1 a0_2 l0_3) else (spec_IsMatrix.j0 k true a0_0 a0_1 a0_2 l0_3))) else (spec_IsMatrix.j0 k true a0_0 a0_1 a0_2 l0_3))) else (spec_IsMatrix.j0 k true a0_0 a0_1 a0_2 l0_3))
set_option maxHeartbeats 8000000 in
set_option maxRecDepth 100000 in
theorem spec_IsMatrix.calls (k : Nat) (a0_0 : Int) (a0_1 : Int) (a0_2 : Int) (A0_3 : Option Addr) (c0_3 : Nat) (l0_3 : List Int) (r : Bool) (w : World) (hr0_3 : Kd.C (Kd.int .i64) w A0_3 l0_3.length l0_3) (hc0_3 : l0_3.length ≤ c0_3) (h : spec_IsMatrix.f k a0_0 a0_1 a0_2 l0_3 = some r) :
  Calls Try.prog 117 #[.agg #[.int .i64 a0_0, .int .i64 a0_1, .int .i64 a0_2, .slice A0_3 l0_3.length c0_3]] w fun e w' => e = .returned (.bool r) ∧ Below w.heap.size w w' := by
 have hu49 := Try.underlying49
 have HR0_3 := Aside0.mk hr0_3
 have HC0_3 := Aside0.mk hc0_3
 clear hr0_3 hc0_3
 have HB := Aside0.mk (Below.refl w.heap.size w)
 unfold spec_IsMatrix.f at h
 have H := h
 clear h
 have HC2 := Aside0.mk H
 clear H
 go_enter Try.func117, Try.ntmps117
 go_upto_region 1 with (first | ((with_reducible refine gate_dst (N := 1) rfl ?_); (try (refine gate_guard (by rfl) ?_; dsimp only)); refine box_event ?hg (N := 1) ?hd (cs := #[.int .i64 a0_0, .int .i64 a0_1, .int .i64 a0_2, .slice A0_3 l0_3.length c0_3]) (t := 49) ?hr ?_; (case hd => rfl); (case hg => rfl); (case hr => first | (go_simp; done) | (go_simp; rfl)); intro gb807 hg w3 hbox hb; have BK807 := Aside0.mk hbox; have GW807 := Hof.gw hg HB; have GE807 := Hof.gw hg HB; replace HB := Hof.lb HB hb; clear hb hbox hg))
 repeat (go_quiet (first | ((with_reducible refine gate_dst (N := 1) rfl ?_); (try (refine gate_guard (by rfl) ?_; dsimp only)); refine box_event ?hg (N := 1) ?hd (cs := #[.int .i64 a0_0, .int .i64 a0_1, .int .i64 a0_2, .slice A0_3 l0_3.length c0_3]) (t := 49) ?hr ?_; (case hd => rfl); (case hg => rfl); (case hr => first | (go_simp; done) | (go_simp; rfl)); intro gb807 hg w3 hbox hb; have BK807 := Aside0.mk hbox; have GW807 := Hof.gw hg HB; have GE807 := Hof.gw hg HB; replace HB := Hof.lb HB hb; clear hb hbox hg)); go_upto_region 1 with (first | ((with_reducible refine gate_dst (N := 1) rfl ?_); (try (refine gate_guard (by rfl) ?_; dsimp only)); refine box_event ?hg (N := 1) ?hd (cs := #[.int .i64 a0_0, .int .i64 a0_1, .int .i64 a0_2, .slice A0_3 l0_3.length c0_3]) (t := 49) ?hr ?_; (case hd => rfl); (case hg => rfl); (case hr => first | (go_simp; done) | (go_simp; rfl)); intro gb807 hg w3 hbox hb; have BK807 := Aside0.mk hbox; have GW807 := Hof.gw hg HB; have GE807 := Hof.gw hg HB; replace HB := Hof.lb HB hb; clear hb hbox hg)))
 (try simp only [Act.put, List.setIfInBounds_toArray, List.set_cons_zero, List.set_cons_succ])
 go_cut [30] (fun v30 wc => ∃ (kq : Nat) (x30_1 : Bool), v30 = .bool x30_1 ∧ Aside0 (spec_IsMatrix.j0 kq x30_1 a0_0 a0_1 a0_2 l0_3 = some r) ∧ Aside0 (kq ≤ k) ∧ Aside0 (wc.heap[gb807]? = some (.cells #[.int .i64 a0_0, .int .i64 a0_1, .int .i64 a0_2, (.slice A0_3 l0_3.length c0_3)] 49 (0, 0))) ∧ Aside0 (Below w.heap.size w wc))
 case first =>
  have H := HC2.out
  clear HC2
  obtain ⟨t808, A4, H⟩ := Hof.be H
  (try dsimp only at H)
  by_cases c5 : t808 = true
  ·subst c5
   replace H : ((spec_l1In.f a0_1 0 8).bind fun t809 => (if t809 = true then ((spec_l1In.f a0_2 0 8).bind fun t810 => (if t810 = true then (spec_IsMatrix.j0 k ((l0_3.length : Int) != (wrap64 (a0_1 * a0_2))) a0_0 a0_1 a0_2 l0_3) else (spec_IsMatrix.j0 k true a0_0 a0_1 a0_2 l0_3))) else (spec_IsMatrix.j0 k true a0_0 a0_1 a0_2 l0_3))) = some r := by rw [if_pos rfl] at H; exact H
   obtain ⟨t809, A6, H⟩ := Hof.be H
   (try dsimp only at H)
   by_cases c7 : t809 = true
   ·subst c7
    replace H : ((spec_l1In.f a0_2 0 8).bind fun t810 => (if t810 = true then (spec_IsMatrix.j0 k ((l0_3.length : Int) != (wrap64 (a0_1 * a0_2))) a0_0 a0_1 a0_2 l0_3) else (spec_IsMatrix.j0 k true a0_0 a0_1 a0_2 l0_3))) = some r := by rw [if_pos rfl] at H; exact H
    obtain ⟨t810, A8, H⟩ := Hof.be H
    (try dsimp only at H)
    by_cases c9 : t810 = true
    ·subst c9
     replace H : (spec_IsMatrix.j0 k ((l0_3.length : Int) != (wrap64 (a0_1 * a0_2))) a0_0 a0_1 a0_2 l0_3) = some r := by rw [if_pos rfl] at H; exact H
     have H' := Aside0.mk H
     clear H
     obtain ⟨hcz10_0, hcz10_1, hcz10_2, hcz10_3, hfz10_0, hfz10_1, hfz10_2, hfz10_3⟩ := Hof.blk4 BK807.out
     go_wp2_with (first | (go_at_call 143; (with_reducible refine (spec_l12Prime.calls a0_0 true _ A4.out).mono ?_); rintro e w' ⟨rfl, ⟨nd, rfl⟩⟩; (try exact Hof.W)) | (go_at_call 89; (with_reducible refine (spec_l1In.calls a0_1 0 8 true _ A6.out).mono ?_); rintro e w' ⟨rfl, ⟨nd, rfl⟩⟩; (try exact Hof.W)) | (go_at_call 89; (with_reducible refine (spec_l1In.calls a0_2 0 8 true _ A8.out).mono ?_); rintro e w' ⟨rfl, ⟨nd, rfl⟩⟩; (try exact Hof.W)))
     repeat (go_quiet (first | (go_at_call 143; (with_reducible refine (spec_l12Prime.calls a0_0 true _ A4.out).mono ?_); rintro e w' ⟨rfl, ⟨nd, rfl⟩⟩; (try exact Hof.W)) | (go_at_call 89; (with_reducible refine (spec_l1In.calls a0_1 0 8 true _ A6.out).mono ?_); rintro e w' ⟨rfl, ⟨nd, rfl⟩⟩; (try exact Hof.W)) | (go_at_call 89; (with_reducible refine (spec_l1In.calls a0_2 0 8 true _ A8.out).mono ?_); rintro e w' ⟨rfl, ⟨nd, rfl⟩⟩; (try exact Hof.W))); try go_wp2_with (first | (go_at_call 143; (with_reducible refine (spec_l12Prime.calls a0_0 true _ A4.out).mono ?_); rintro e w' ⟨rfl, ⟨nd, rfl⟩⟩; (try exact Hof.W)) | (go_at_call 89; (with_reducible refine (spec_l1In.calls a0_1 0 8 true _ A6.out).mono ?_); rintro e w' ⟨rfl, ⟨nd, rfl⟩⟩; (try exact Hof.W)) | (go_at_call 89; (with_reducible refine (spec_l1In.calls a0_2 0 8 true _ A8.out).mono ?_); rintro e w' ⟨rfl, ⟨nd, rfl⟩⟩; (try exact Hof.W))))
     go_meet
     case rel => exact ⟨_, (((l0_3.length : Int) != (wrap64 (a0_1 * a0_2)))), (by first | rfl | (simp; done) | (simp [*]; done) | (simp only [i64_w]; done) | (simp only [i64_w, i32_w]; rfl)), H', ⟨by first | omega | exact Nat.le_refl _⟩, ⟨Hof.Bw BK807.out⟩, ⟨Hof.Lw HB.out⟩⟩
    ·replace c9 := Bool.eq_false_iff.mpr c9
     subst c9
     replace H : (spec_IsMatrix.j0 k true a0_0 a0_1 a0_2 l0_3) = some r := by rw [if_neg (show ¬ (false = true) by decide)] at H; exact H
     have H' := Aside0.mk H
     clear H
     obtain ⟨hcz11_0, hcz11_1, hcz11_2, hcz11_3, hfz11_0, hfz11_1, hfz11_2, hfz11_3⟩ := Hof.blk4 BK807.out
     go_wp2_with (first | (go_at_call 143; (with_reducible refine (spec_l12Prime.calls a0_0 true _ A4.out).mono ?_); rintro e w' ⟨rfl, ⟨nd, rfl⟩⟩; (try exact Hof.W)) | (go_at_call 89; (with_reducible refine (spec_l1In.calls a0_1 0 8 true _ A6.out).mono ?_); rintro e w' ⟨rfl, ⟨nd, rfl⟩⟩; (try exact Hof.W)) | (go_at_call 89; (with_reducible refine (spec_l1In.calls a0_2 0 8 false _ A8.out).mono ?_); rintro e w' ⟨rfl, ⟨nd, rfl⟩⟩; (try exact Hof.W)))
     repeat (go_quiet (first | (go_at_call 143; (with_reducible refine (spec_l12Prime.calls a0_0 true _ A4.out).mono ?_); rintro e w' ⟨rfl, ⟨nd, rfl⟩⟩; (try exact Hof.W)) | (go_at_call 89; (with_reducible refine (spec_l1In.calls a0_1 0 8 true _ A6.out).mono ?_); rintro e w' ⟨rfl, ⟨nd, rfl⟩⟩; (try exact Hof.W)) | (go_at_call 89; (with_reducible refine (spec_l1In.calls a0_2 0 8 false _ A8.out).mono ?_); rintro e w' ⟨rfl, ⟨nd, rfl⟩⟩; (try exact Hof.W))); try go_wp2_with (first | (go_at_call 143; (with_reducible refine (spec_l12Prime.calls a0_0 true _ A4.out).mono ?_); rintro e w' ⟨rfl, ⟨nd, rfl⟩⟩; (try exact Hof.W)) | (go_at_call 89; (with_reducible refine (spec_l1In.calls a0_1 0 8 true _ A6.out).mono ?_); rintro e w' ⟨rfl, ⟨nd, rfl⟩⟩; (try exact Hof.W)) | (go_at_call 89; (with_reducible refine (spec_l1In.calls a0_2 0 8 false _ A8.out).mono ?_); rintro e w' ⟨rfl, ⟨nd, rfl⟩⟩; (try exact Hof.W))))
     go_meet
     case rel => exact ⟨_, (true), (by first | rfl | (simp; done) | (simp [*]; done) | (simp only [i64_w]; done) | (simp only [i64_w, i32_w]; rfl)), H', ⟨by first | omega | exact Nat.le_refl _⟩, ⟨Hof.Bw BK807.out⟩, ⟨Hof.Lw HB.out⟩⟩
   ·replace c7 := Bool.eq_false_iff.mpr c7
    subst c7
    replace H : (spec_IsMatrix.j0 k true a0_0 a0_1 a0_2 l0_3) = some r := by rw [if_neg (show ¬ (false = true) by decide)] at H; exact H
    have H' := Aside0.mk H
    clear H
    obtain ⟨hcz12_0, hcz12_1, hcz12_2, hcz12_3, hfz12_0, hfz12_1, hfz12_2, hfz12_3⟩ := Hof.blk4 BK807.out
    go_wp2_with (first | (go_at_call 143; (with_reducible refine (spec_l12Prime.calls a0_0 true _ A4.out).mono ?_); rintro e w' ⟨rfl, ⟨nd, rfl⟩⟩; (try exact Hof.W)) | (go_at_call 89; (with_reducible refine (spec_l1In.calls a0_1 0 8 false _ A6.out).mono ?_); rintro e w' ⟨rfl, ⟨nd, rfl⟩⟩; (try exact Hof.W)))
    repeat (go_quiet (first | (go_at_call 143; (with_reducible refine (spec_l12Prime.calls a0_0 true _ A4.out).mono ?_); rintro e w' ⟨rfl, ⟨nd, rfl⟩⟩; (try exact Hof.W)) | (go_at_call 89; (with_reducible refine (spec_l1In.calls a0_1 0 8 false _ A6.out).mono ?_); rintro e w' ⟨rfl, ⟨nd, rfl⟩⟩; (try exact Hof.W))); try go_wp2_with (first | (go_at_call 143; (with_reducible refine (spec_l12Prime.calls a0_0 true _ A4.out).mono ?_); rintro e w' ⟨rfl, ⟨nd, rfl⟩⟩; (try exact Hof.W)) | (go_at_call 89; (with_reducible refine (spec_l1In.calls a0_1 0 8 false _ A6.out).mono ?_); rintro e w' ⟨rfl, ⟨nd, rfl⟩⟩; (try exact Hof.W))))
    go_meet
    case rel => exact ⟨_, (true), (by first | rfl | (simp; done) | (simp [*]; done) | (simp only [i64_w]; done) | (simp only [i64_w, i32_w]; rfl)), H', ⟨by first | omega | exact Nat.le_refl _⟩, ⟨Hof.Bw BK807.out⟩, ⟨Hof.Lw HB.out⟩⟩
  ·replace c5 := Bool.eq_false_iff.mpr c5
   subst c5
   replace H : (spec_IsMatrix.j0 k true a0_0 a0_1 a0_2 l0_3) = some r := by rw [if_neg (show ¬ (false = true) by decide)] at H; exact H
   have H' := Aside0.mk H
   clear H
   obtain ⟨hcz13_0, hcz13_1, hcz13_2, hcz13_3, hfz13_0, hfz13_1, hfz13_2, hfz13_3⟩ := Hof.blk4 BK807.out
   go_wp2_with (first | (go_at_call 143; (with_reducible refine (spec_l12Prime.calls a0_0 false _ A4.out).mono ?_); rintro e w' ⟨rfl, ⟨nd, rfl⟩⟩; (try exact Hof.W)))
   repeat (go_quiet (first | (go_at_call 143; (with_reducible refine (spec_l12Prime.calls a0_0 false _ A4.out).mono ?_); rintro e w' ⟨rfl, ⟨nd, rfl⟩⟩; (try exact Hof.W))); try go_wp2_with (first | (go_at_call 143; (with_reducible refine (spec_l12Prime.calls a0_0 false _ A4.out).mono ?_); rintro e w' ⟨rfl, ⟨nd, rfl⟩⟩; (try exact Hof.W))))
   go_meet
   case rel => exact ⟨_, (true), (by first | rfl | (simp; done) | (simp [*]; done) | (simp only [i64_w]; done) | (simp only [i64_w, i32_w]; rfl)), H', ⟨by first | omega | exact Nat.le_refl _⟩, ⟨Hof.Bw BK807.out⟩, ⟨Hof.Lw HB.out⟩⟩
 case rest =>
  clear HC2
  obtain ⟨kq, x30_1, rfl, HA, HJ1, BK807, HB⟩ := hcut
  cases kq with
  | zero => exact absurd HA.out (by simp [spec_IsMatrix.j0])
  | succ kj1 =>
   have H := HA.out
   clear HA
   simp only [spec_IsMatrix.j0] at H
   by_cases c14 : x30_1 = true
   ·subst c14
    replace H : (some false) = some r := by rw [if_pos rfl] at H; exact H
    obtain rfl := Option.some.inj H
    go_wp2
    repeat (go_quiet (fail); try go_wp2)
    go_ret
    exact ⟨Hof.E, Hof.L⟩
   ·replace c14 := Bool.eq_false_iff.mpr c14
    subst c14
    replace H : (spec_IsMatrix.l0 kj1 0 a0_0 a0_1 a0_2 l0_3) = some r := by rw [if_neg (show ¬ (false = true) by decide)] at H; exact H
    have H' := Aside0.mk H
    clear H
    go_wp2
    repeat (go_quiet (fail); try go_wp2)
    go_loopg [3] kj1 (fun kq v3 w' => ∃ (x3_2 : Int), v3 = .int .i64 x3_2 ∧ Aside0 (spec_IsMatrix.l0 kq x3_2 a0_0 a0_1 a0_2 l0_3 = some r) ∧ Aside0 (kq ≤ kj1) ∧ Aside0 (w'.heap[gb807]? = some (.cells #[.int .i64 a0_0, .int .i64 a0_1, .int .i64 a0_2, (.slice A0_3 l0_3.length c0_3)] 49 (0, 0))) ∧ Aside0 (Below w.heap.size w w'))
    case atStart => exact ⟨(0), (by first | rfl | (simp; done) | (simp [*]; done) | (simp only [i64_w]; done) | (simp only [i64_w, i32_w]; rfl)), H', ⟨Nat.le_refl _⟩, ⟨Hof.Bw BK807.out⟩, ⟨Hof.Lw HB.out⟩⟩
    case round =>
     clear H'
     obtain ⟨x3_2, rfl, HA, HK2, BK807, HB⟩ := hrel
     cases gk with
     | zero => exact absurd HA.out (by simp [spec_IsMatrix.l0])
     | succ k2 =>
      have H := HA.out
      clear HA
      simp only [spec_IsMatrix.l0] at H
      by_cases c15 : x3_2 < (l0_3.length : Int)
      ·rw [if_pos c15] at H
       have c15b0 := decide_eq_true c15
       clear c15
       by_cases c16 : 0 ≤ x3_2
       ·rw [if_pos c16] at H
        have c16b0 := decide_eq_true c16
        clear c16
        obtain ⟨t812, A17, H⟩ := Hof.be H
        (try dsimp only at H)
        by_cases c18 : t812 = true
        ·subst c18
         replace H : (spec_IsMatrix.l0 k2 (wrap64 (x3_2 + 1)) a0_0 a0_1 a0_2 l0_3) = some r := by rw [if_pos rfl] at H; exact H
         have H' := Aside0.mk H
         clear H
         obtain ⟨hcz19_0, hcz19_1, hcz19_2, hcz19_3, hfz19_0, hfz19_1, hfz19_2, hfz19_3⟩ := Hof.blk4 BK807.out
         have p811 : 0 ≤ (x3_2 : Int) := Hof.D
         have q811 : x3_2 < (l0_3.length : Int) := Hof.D
         obtain ⟨ad811, e811, hx811_0⟩ := Kd.at_int HR0_3.out x3_2 p811 q811
         cases e811
         try replace hx811_0 := (HB.out.cell (World.block_lt_of_cell? w _ hx811_0)).trans hx811_0
         replace p811 := eq_true p811
         replace q811 := eq_true q811
         go_wp2_with (first | (go_at_call 89; (with_reducible refine (spec_l1In.calls (rd l0_3 x3_2) 0 (wrap64 (a0_0 - 1)) true _ A17.out).mono ?_); rintro e w' ⟨rfl, ⟨nd, rfl⟩⟩; (try exact Hof.W)))
         repeat (go_quiet (first | (go_at_call 89; (with_reducible refine (spec_l1In.calls (rd l0_3 x3_2) 0 (wrap64 (a0_0 - 1)) true _ A17.out).mono ?_); rintro e w' ⟨rfl, ⟨nd, rfl⟩⟩; (try exact Hof.W))); try go_wp2_with (first | (go_at_call 89; (with_reducible refine (spec_l1In.calls (rd l0_3 x3_2) 0 (wrap64 (a0_0 - 1)) true _ A17.out).mono ?_); rintro e w' ⟨rfl, ⟨nd, rfl⟩⟩; (try exact Hof.W))))
         go_roundg k2
         case measure => have := HJ1.out; have := HK2.out; omega
         case rel => exact ⟨(wrap64 (x3_2 + 1)), (by first | rfl | (simp; done) | (simp [*]; done) | (simp only [i64_w]; done) | (simp only [i64_w, i32_w]; rfl)), H', ⟨by have := HJ1.out; have := HK2.out; omega⟩, ⟨Hof.Bw BK807.out⟩, ⟨Hof.Lw HB.out⟩⟩
        ·replace c18 := Bool.eq_false_iff.mpr c18
         subst c18
         replace H : (some false) = some r := by rw [if_neg (show ¬ (false = true) by decide)] at H; exact H
         obtain rfl := Option.some.inj H
         obtain ⟨hcz20_0, hcz20_1, hcz20_2, hcz20_3, hfz20_0, hfz20_1, hfz20_2, hfz20_3⟩ := Hof.blk4 BK807.out
         have p811 : 0 ≤ (x3_2 : Int) := Hof.D
         have q811 : x3_2 < (l0_3.length : Int) := Hof.D
         obtain ⟨ad811, e811, hx811_0⟩ := Kd.at_int HR0_3.out x3_2 p811 q811
         cases e811
         try replace hx811_0 := (HB.out.cell (World.block_lt_of_cell? w _ hx811_0)).trans hx811_0
         replace p811 := eq_true p811
         replace q811 := eq_true q811
         go_wp2_with (first | (go_at_call 89; (with_reducible refine (spec_l1In.calls (rd l0_3 x3_2) 0 (wrap64 (a0_0 - 1)) false _ A17.out).mono ?_); rintro e w' ⟨rfl, ⟨nd, rfl⟩⟩; (try exact Hof.W)))
         repeat (go_quiet (first | (go_at_call 89; (with_reducible refine (spec_l1In.calls (rd l0_3 x3_2) 0 (wrap64 (a0_0 - 1)) false _ A17.out).mono ?_); rintro e w' ⟨rfl, ⟨nd, rfl⟩⟩; (try exact Hof.W))); try go_wp2_with (first | (go_at_call 89; (with_reducible refine (spec_l1In.calls (rd l0_3 x3_2) 0 (wrap64 (a0_0 - 1)) false _ A17.out).mono ?_); rintro e w' ⟨rfl, ⟨nd, rfl⟩⟩; (try exact Hof.W))))
         go_ret
         exact ⟨Hof.E, Hof.L⟩
       ·rw [if_neg c16] at H
        exact absurd H (by simp)
      ·rw [if_neg c15] at H
       have c15b0 : decide (x3_2 < (l0_3.length : Int)) = false := decide_eq_false c15
       clear c15
       obtain rfl := Option.some.inj H
       obtain ⟨hcz21_0, hcz21_1, hcz21_2, hcz21_3, hfz21_0, hfz21_1, hfz21_2, hfz21_3⟩ := Hof.blk4 BK807.out
       go_wp2
       repeat (go_quiet (fail); try go_wp2)
       go_ret
       exact ⟨Hof.E, Hof.L⟩
def spec_FullSet.f (a0 : Int) : Option (Int) := (spec_l1In.f a0 0 8).bind fun t401 => (if t401 = true then (if 0 ≤ (IntKind.u64.wrap (a0)) then (some (wrap64 ((shl .i64 1 (IntKind.u64.wrap (a0))) - 1))) else (none)) else (some 0))
set_option maxHeartbeats 8000000 in
set_option maxRecDepth 100000 in
theorem spec_FullSet.calls (a0 : Int) (r : Int) (w : World) (h : spec_FullSet.f a0 = some r) :
  Calls Try.prog 49 #[.int .i64 a0] w fun e w' => e = .returned (.int .i64 r) ∧ Drawn0 w w' := by
 unfold spec_FullSet.f at h
 have H := h
 clear h
 obtain ⟨t401, A2, H⟩ := Hof.be H
 (try dsimp only at H)
 by_cases c3 : t401 = true
 ·subst c3
  replace H : (if 0 ≤ (IntKind.u64.wrap (a0)) then (some (wrap64 ((shl .i64 1 (IntKind.u64.wrap (a0))) - 1))) else (none)) = some r := by rw [if_pos rfl] at H; exact H
  obtain ⟨ji4, hji4⟩ : ∃ j_ : Int, (IntKind.u64.wrap (a0)) = j_ := ⟨_, rfl⟩
  replace H : (if 0 ≤ (ji4) then (some (wrap64 ((shl .i64 1 (ji4)) - 1))) else (none)) = some r := by first | (rw [hji4] at H; exact H) | (simp only [hji4] at H ⊢; exact H)
  (try rw [hji4] at A2)
  by_cases c5 : 0 ≤ (ji4)
  ·rw [if_pos c5] at H
   have c5b0 := eq_true c5
   have c5b1 : decide (0 ≤ (ji4)) = true := decide_eq_true c5
   clear c5
   obtain ⟨ji6, hji6⟩ : ∃ j_ : Int, (shl .i64 1 (ji4)) = j_ := ⟨_, rfl⟩
   replace H : (some (wrap64 ((ji6) - 1))) = some r := by first | (rw [hji6] at H; exact H) | (simp only [hji6] at H ⊢; exact H)
   (try rw [hji6] at A2)
   have hji6_ : (IntKind.i64.wrap (1 * 2 ^ min (ji4).toNat 64)) = ji6 := hji6
   have hji6z : (ji4) ≤ 64 → (IntKind.i64.wrap (1 * 2 ^ (ji4).toNat)) = ji6 := shl_small hji6
   have hji6u : (IntKind.i64.wrap (2 ^ min (ji4).toNat 64)) = ji6 := by have h_ := hji6_; rw [Int.one_mul] at h_; exact h_
   have hji6v : (ji4) ≤ 64 → (IntKind.i64.wrap (2 ^ (ji4).toNat)) = ji6 := fun hle_ => by have h_ := hji6z hle_; rw [Int.one_mul] at h_; exact h_
   have hji6y : (wrap64 (1 * 2 ^ min (ji4).toNat 64)) = ji6 := (i64_w _).symm.trans hji6_
   have hji6x : (ji4) ≤ 64 → (wrap64 (1 * 2 ^ (ji4).toNat)) = ji6 := fun h_ => (i64_w _).symm.trans (hji6z h_)
   obtain rfl := Option.some.inj H
   go_enter Try.func49, Try.ntmps49
   go_wp2_with (first | (refine Hof.gl (some 4) Try.func89 #[.int .i64 a0, .int .i64 0, .int .i64 8] ?_; (with_reducible refine (spec_l1In.calls a0 0 8 true _ A2.out).mono ?_); rintro e w' ⟨rfl, ⟨nd, rfl⟩⟩; refine ⟨_, rfl, ?_⟩))
   go_ret
   exact ⟨by first | rfl | (simp; done) | (simp only [← hji4, ← hji6] <;> (first | rfl | simp)) | (simp [*]; done), Hof.G⟩
  ·rw [if_neg c5] at H
   exact absurd H (by simp)
 ·replace c3 := Bool.eq_false_iff.mpr c3
  subst c3
  replace H : (some 0) = some r := by rw [if_neg (show ¬ (false = true) by decide)] at H; exact H
  obtain rfl := Option.some.inj H
  go_enter Try.func49, Try.ntmps49
  go_wp2_with (first | (refine Hof.gl (some 4) Try.func89 #[.int .i64 a0, .int .i64 0, .int .i64 8] ?_; (with_reducible refine (spec_l1In.calls a0 0 8 false _ A2.out).mono ?_); rintro e w' ⟨rfl, ⟨nd, rfl⟩⟩; refine ⟨_, rfl, ?_⟩))
  go_ret
  exact ⟨Hof.F, Hof.G⟩
def spec_CountOf.l0 : Nat → Int → Int → Option (Int)
 | 0, _, _ => none
 | k + 1, x0, x3 => if x0 > 0 then (spec_CountOf.l0 k (x0 / 2) (wrap64 (x3 + (Go.bits .and .i64 x0 1)))) else (some x3)
def spec_CountOf.f (k : Nat) (a0 : Int) : Option (Int) := (spec_IsSet.f 8 a0).bind fun t578 => (if t578 = true then (spec_CountOf.l0 k a0 0) else (some 0))
theorem spec_CountOf.mono_l : ∀ k, (∀ y0 y1, LeO (spec_CountOf.l0 k y0 y1) (spec_CountOf.l0 (k + 1) y0 y1))
 | 0 => fun _ _ r h => by simp [spec_CountOf.l0] at h
 | k + 1 => by
  have ih0 := spec_CountOf.mono_l k
  ·intro y0 y1
   unfold spec_CountOf.l0
   repeat' first
   | (with_reducible exact ih0 _ _)
   | (with_reducible exact LeO.refl _)
   | (with_reducible exact LeO.none _)
   | (with_reducible refine LeO.ite ?_ ?_)
   | (with_reducible refine LeO.bind ?_ (fun _ => ?_))
   | exact ih0 _ _
   | exact LeO.none _
   | refine LeO.ite ?_ ?_
   | refine LeO.bind ?_ (fun _ => ?_)
theorem spec_CountOf.mono : ∀ a0 k, LeO (spec_CountOf.f k a0) (spec_CountOf.f (k + 1) a0) := by
 intro a0 k
 have ih0 := spec_CountOf.mono_l k
 unfold spec_CountOf.f
 repeat' first
   | (with_reducible exact ih0 _ _)
   | (with_reducible exact LeO.refl _)
   | (with_reducible exact LeO.none _)
   | (with_reducible refine LeO.ite ?_ ?_)
   | (with_reducible refine LeO.bind ?_ (fun _ => ?_))
   | exact ih0 _ _
   | exact LeO.none _
   | refine LeO.ite ?_ ?_
   | refine LeO.bind ?_ (fun _ => ?_)
set_option maxHeartbeats 8000000 in
set_option maxRecDepth 100000 in
theorem spec_CountOf.calls (k : Nat) (a0 : Int) (r : Int) (w : World) (h : spec_CountOf.f k a0 = some r) :
  Calls Try.prog 96 #[.int .i64 a0] w fun e w' => e = .returned (.int .i64 r) ∧ Drawn0 w w' := by
 unfold spec_CountOf.f at h
 have H := h
 clear h
 obtain ⟨t578, A2, H⟩ := Hof.be H
 (try dsimp only at H)
 by_cases c3 : t578 = true
 ·subst c3
  replace H : (spec_CountOf.l0 k a0 0) = some r := by rw [if_pos rfl] at H; exact H
  have H' := Aside0.mk H
  clear H
  go_enter Try.func96, Try.ntmps96
  go_wp2_with (first | (refine Hof.gl (some 5) Try.func56 #[.int .i64 8, .int .i64 a0] ?_; (with_reducible refine (spec_IsSet.calls 8 a0 true _ A2.out).mono ?_); rintro e w' ⟨rfl, ⟨nd, rfl⟩⟩; refine ⟨_, rfl, ?_⟩))
  go_loopg [0, 3] k (fun kq v0 v3 w' => ∃ (x0_1 : Int) (x3_1 : Int), v0 = .int .i64 x0_1 ∧ v3 = .int .i64 x3_1 ∧ Aside0 (spec_CountOf.l0 kq x0_1 x3_1 = some r) ∧ Aside0 (kq ≤ k) ∧ Drawn0 w w')
  case atStart => exact ⟨(a0), (0), Hof.F, Hof.F, H', ⟨Nat.le_refl _⟩, Hof.G⟩
  case round =>
   clear H'
   obtain ⟨x0_1, x3_1, rfl, rfl, HA, HK1, ⟨m1, rfl⟩⟩ := hrel
   cases gk with
   | zero => exact absurd HA.out (by simp [spec_CountOf.l0])
   | succ k1 =>
    have H := HA.out
    clear HA
    simp only [spec_CountOf.l0] at H
    by_cases c4 : x0_1 > 0
    ·rw [if_pos c4] at H
     have c4b0 := decide_eq_true c4
     clear c4
     have H' := Aside0.mk H
     clear H
     go_wp2
     go_roundg k1
     case measure => have := HK1.out; omega
     case rel => exact ⟨(x0_1 / 2), (wrap64 (x3_1 + (Go.bits .and .i64 x0_1 1))), Hof.F, Hof.F, H', ⟨by have := HK1.out; omega⟩, Hof.G⟩
    ·rw [if_neg c4] at H
     have c4b0 : decide (0 < x0_1) = false := decide_eq_false c4
     clear c4
     obtain rfl := Option.some.inj H
     go_wp2
     go_ret
     exact ⟨Hof.F, Hof.G⟩
 ·replace c3 := Bool.eq_false_iff.mpr c3
  subst c3
  replace H : (some 0) = some r := by rw [if_neg (show ¬ (false = true) by decide)] at H; exact H
  obtain rfl := Option.some.inj H
  go_enter Try.func96, Try.ntmps96
  go_wp2_with (first | (refine Hof.gl (some 5) Try.func56 #[.int .i64 8, .int .i64 a0] ?_; (with_reducible refine (spec_IsSet.calls 8 a0 false _ A2.out).mono ?_); rintro e w' ⟨rfl, ⟨nd, rfl⟩⟩; refine ⟨_, rfl, ?_⟩))
  go_ret
  exact ⟨Hof.F, Hof.G⟩
mutual
def spec_l4Rank.l0 : Nat → Int → Int → Int → Int → List Int → Int → Int → Option (Int)
 | 0, _, _, _, _, _, _, _ => none
 | k + 1, x0, x1, x2, x4, x11, x12, x13 => if x13 < x2 then ((spec_l2Has.f x4 x13).bind fun t819 => (if t819 = true then (spec_l4Rank.l1 k x0 x1 x2 x4 x11 x12 x13 x12) else (spec_l4Rank.l0 k x0 x1 x2 x4 x11 x12 (wrap64 (x13 + 1))))) else (some x12)
def spec_l4Rank.j2 : Nat → Int → Int → Int → Int → List Int → Int → Int → Int → Option (Int)
 | 0, _, _, _, _, _, _, _, _ => none
 | k + 1, x0, x1, x2, x4, x11, x12, x13, x14 => if x14 ≥ x1 then (spec_l4Rank.l0 k x0 x1 x2 x4 x11 x12 (wrap64 (x13 + 1))) else (spec_l4Rank.l2 k x0 x1 x2 x4 x11 x12 x13 x14 0)
def spec_l4Rank.l2 : Nat → Int → Int → Int → Int → List Int → Int → Int → Int → Int → Option (Int)
 | 0, _, _, _, _, _, _, _, _, _ => none
 | k + 1, x0, x1, x2, x4, x11, x12, x13, x14, x15 => if x15 < x2 then (if 0 ≤ (wrap64 ((wrap64 (x14 * x2)) + x15)) then (if (wrap64 ((wrap64 (x14 * x2)) + x15)) < (x11.length : Int) then (if 0 ≤ (wrap64 ((wrap64 (x12 * x2)) + x15)) then (if (wrap64 ((wrap64 (x12 * x2)) + x15)) < (x11.length : Int) then (spec_l4Rank.l2 k x0 x1 x2 x4 ((x11.set ((wrap64 ((wrap64 (x14 * x2)) + x15)) : Int).toNat (rd x11 (wrap64 ((wrap64 (x12 * x2)) + x15)))).set ((wrap64 ((wrap64 (x12 * x2)) + x15)) : Int).toNat (rd x11 (wrap64 ((wrap64 (x14 * x2)) + x15)))) x12 x13 x14 (wrap64 (x15 + 1))) else (none)) else (none)) else (none)) else (none)) else (spec_l4Rank.l3 k x0 x1 x2 x4 x11 x12 x13 (wrap64 (x12 + 1)))
def spec_l4Rank.l3 : Nat → Int → Int → Int → Int → List Int → Int → Int → Int → Option (Int)
 | 0, _, _, _, _, _, _, _, _ => none
 | k + 1, x0, x1, x2, x4, x11, x12, x13, x17 => if x17 < x1 then (if 0 ≤ (wrap64 ((wrap64 (x17 * x2)) + x13)) then (if (wrap64 ((wrap64 (x17 * x2)) + x13)) < (x11.length : Int) then (if 0 ≤ (wrap64 ((wrap64 (x12 * x2)) + x13)) then (if (wrap64 ((wrap64 (x12 * x2)) + x13)) < (x11.length : Int) then (spec_l4Rank.l4 k x0 x1 x2 x4 x11 x12 x13 x17 (rd x11 (wrap64 ((wrap64 (x17 * x2)) + x13))) (rd x11 (wrap64 ((wrap64 (x12 * x2)) + x13))) 0) else (none)) else (none)) else (none)) else (none)) else (spec_l4Rank.l0 k x0 x1 x2 x4 x11 (wrap64 (x12 + 1)) (wrap64 (x13 + 1)))
def spec_l4Rank.l4 : Nat → Int → Int → Int → Int → List Int → Int → Int → Int → Int → Int → Int → Option (Int)
 | 0, _, _, _, _, _, _, _, _, _, _, _ => none
 | k + 1, x0, x1, x2, x4, x11, x12, x13, x17, x18, x19, x20 => if x20 < x2 then (if 0 ≤ (wrap64 ((wrap64 (x17 * x2)) + x20)) then (if (wrap64 ((wrap64 (x17 * x2)) + x20)) < (x11.length : Int) then (if 0 ≤ (wrap64 ((wrap64 (x12 * x2)) + x20)) then (if (wrap64 ((wrap64 (x12 * x2)) + x20)) < (x11.length : Int) then (if x0 = 0 then (none) else (spec_l4Rank.l4 k x0 x1 x2 x4 (x11.set ((wrap64 ((wrap64 (x17 * x2)) + x20)) : Int).toNat (Int.tmod (wrap64 ((Int.tmod (wrap64 ((wrap64 ((rd x11 (wrap64 ((wrap64 (x17 * x2)) + x20))) * x19)) - (wrap64 ((rd x11 (wrap64 ((wrap64 (x12 * x2)) + x20))) * x18)))) x0) + x0)) x0)) x12 x13 x17 x18 x19 (wrap64 (x20 + 1)))) else (none)) else (none)) else (none)) else (none)) else (spec_l4Rank.l3 k x0 x1 x2 x4 x11 x12 x13 (wrap64 (x17 + 1)))
def spec_l4Rank.l1 : Nat → Int → Int → Int → Int → List Int → Int → Int → Int → Option (Int)
 | 0, _, _, _, _, _, _, _, _ => none
 | k + 1, x0, x1, x2, x4, x11, x12, x13, x14 => if x14 < x1 then (if 0 ≤ (wrap64 ((wrap64 (x14 * x2)) + x13)) then (if (wrap64 ((wrap64 (x14 * x2)) + x13)) < (x11.length : Int) then (if (rd x11 (wrap64 ((wrap64 (x14 * x2)) + x13))) = 0 then (spec_l4Rank.l1 k x0 x1 x2 x4 x11 x12 x13 (wrap64 (x14 + 1))) else (spec_l4Rank.j2 k x0 x1 x2 x4 x11 x12 x13 x14)) else (none)) else (none)) else (spec_l4Rank.j2 k x0 x1 x2 x4 x11 x12 x13 x14)
end
def spec_l4Rank.f (k : Nat) (a0 : Int) (a1 : Int) (a2 : Int) (l3 : List Int) (a4 : Int) : Option (Int) := (some (([] : List Int) : List Int)).bind fun y813 => (if y813.length + l3.length < 17592186044416 then (spec_l4Rank.l0 k a0 a1 a2 a4 (y813 ++ l3) 0 0) else (none))
def spec_l4Rank.T25 : Bool × List (List Nat × List Nat) := (true, [([], []), ([], []), ([], []), ([1, 2], [1, 2]), ([], []), ([3, 4], [3, 4]), ([], []), ([], []), ([], []), ([7, 8], [7, 8]), ([], []), ([9, 10], [9, 10]), ([6, 11], [6, 11]), ([12], [12]), ([], []), ([13, 14], [13, 14]), ([], []), ([], []), ([], []), ([17, 18], [17, 18]), ([], []), ([19, 20], [19, 20]), ([16, 21], [16, 21]), ([22], [22]), ([], []), ([23, 24], [23, 24]), ([15, 25], [15, 25]), ([], []), ([26, 27], [26, 27]), ([], []), ([28, 29], [28, 29]), ([], []), ([30, 31], [30, 31]), ([0, 5, 0, 1, 2, 3, 4, 5, 6, 7, 8, 9, 10, 11, 12, 13, 14, 15, 16, 17, 18, 19, 20, 21, 22, 23, 24, 25, 26, 27, 28, 29, 30, 31, 32], [0, 5]), ([33, 32, 0, 1, 2, 3, 4, 5, 6, 7, 8, 9, 10, 11, 12, 13, 14, 15, 16, 17, 18, 19, 20, 21, 22, 23, 24, 25, 26, 27, 28, 29, 30, 31, 32], [32, 33])])
def spec_l4Rank.B25 : List Nat := [0, 0, 0, 6, 0, 30, 0, 0, 0, 384, 0, 1920, 4032, 8128, 0, 32704, 0, 0, 0, 393216, 0, 1966080, 4128768, 8323072, 0, 33488896, 67108800, 0, 268435392, 0, 1073741760, 0, 4294967232, 8589934591, 17179869183]
theorem spec_l4Rank.tab25 : rtab .any (opsOf Try.f144 25) = spec_l4Rank.T25 := by kernel_rfl
theorem spec_l4Rank.bits25 : waitsOk spec_l4Rank.T25.2 spec_l4Rank.B25 = true := by kernel_rfl
set_option maxHeartbeats 8000000 in
set_option maxRecDepth 100000 in
theorem spec_l4Rank.calls (k : Nat) (a0 : Int) (a1 : Int) (a2 : Int) (A3 : Option Addr) (c3 : Nat) (l3 : List Int) (a4 : Int) (r : Int) (w : World) (hr3 : Kd.C (Kd.int .i64) w A3 l3.length l3) (hc3 : l3.length ≤ c3) (h : spec_l4Rank.f k a0 a1 a2 l3 a4 = some r) :
  Calls Try.prog 144 #[.int .i64 a0, .int .i64 a1, .int .i64 a2, .slice A3 l3.length c3, .int .i64 a4] w fun e w' => e = .returned (.int .i64 r) ∧ Below w.heap.size w w' := by
 have HR3 := Aside0.mk hr3
 have HC3 := Aside0.mk hc3
 clear hr3 hc3
 have HB := Aside0.mk (Below.refl w.heap.size w)
 unfold spec_l4Rank.f at h
 have H := h
 clear h
 obtain ⟨y813, hy813⟩ : ∃ y_ : List Int, y_ = (([] : List Int)) := ⟨_, rfl⟩
 replace H : (if y813.length + l3.length < 17592186044416 then (spec_l4Rank.l0 k a0 a1 a2 a4 (y813 ++ l3) 0 0) else (none)) = some r := by (try rw [hy813]); exact Hof.Z
 have Ny813 := Aside0.mk hy813
 clear hy813
 by_cases c6 : y813.length + l3.length < 17592186044416
 ·rw [if_pos c6] at H
  have LMc6 := Aside0.mk c6
  clear c6
  obtain ⟨y816, hy816⟩ : ∃ y_ : List Int, y_ = (y813 ++ l3) := ⟨_, rfl⟩
  replace H : (spec_l4Rank.l0 k a0 a1 a2 a4 y816 0 0) = some r := by (try rw [hy816]); exact Hof.Z
  have Ny816 := Aside0.mk hy816
  clear hy816
  have H' := Aside0.mk H
  clear H
  go_enter Try.func144, Try.ntmps144
  go_wp2_with (first | (refine Hof.lt (Kd.int .i64) 3 21 ?_; intro v814 w7 ho8 hb hg_ hnew_; clear hg_ hnew_; (first | rw [← Ny813.out] at ho8 | (simp only [Int.reduceToNat] at ho8; rw [← Ny813.out] at ho8)); have HO815 := Aside0.mk (Kd.R_lower ho8 (below_size (Hof.Lw HB.out))); replace HB := Hof.lb HB hb; clear hb ho8) | ((with_reducible refine gate_builtin (b := .append) (xs := #[.tmp 21, .tmp 22]) rfl ?_); at_builtin; refine Kd.R_append_rows (Kd.int .i64) (w0 := w) w.heap.size rfl (.tmp 21) (.tmp 22) 24 3 (.int .i64 0) 8 rfl Try.underlying24 info3 rfl (by decide) (by omega) v814 y813 l3 _ _ _ (fun _ => True) (fun _ => False) rfl rfl (by exact Hof.Rw HO815.out) (by repeat (first | exact (Kd.C_below HR3.out HB.out) | (with_reducible refine Kd.C_alloc ?_ _) | (with_reducible refine Kd.C_drewN ?_ _) | (with_reducible refine Kd.C_drew ?_))) (fun _ _ h => h) (fun _ h => h.elim) (by exact fun _ _ => trivial) (by exact Hof.Lw HB.out) (by exact below_size (Hof.Lw HB.out)) (by have := LMc6.out; omega) ?_; intro v817 w9 ho hb hg hat; rw [← Ny816.out] at ho; have n0_ := Aside0.mk hb; have n1_ := Aside0.mk ho; clear HB; clear HO815; have HB := n0_; have HO818 := n1_; clear n0_ n1_; clear ho hb hg hat))
  go_loopg [12, 13] k (fun kq v12 v13 w' => ∃ (x11_1 : List Int) (x12_1 : Int) (x13_1 : Int), v12 = .int .i64 x12_1 ∧ v13 = .int .i64 x13_1 ∧ Aside0 (spec_l4Rank.l0 kq a0 a1 a2 a4 x11_1 x12_1 x13_1 = some r) ∧ Aside0 (kq ≤ k) ∧ Aside0 (Kd.R (Kd.int .i64) 3 w' w.heap.size (fun _ => True) v817 x11_1) ∧ Aside0 (Below w.heap.size w w'))
  case atStart => exact ⟨(y816), (0), (0), Hof.F, Hof.F, H', ⟨Nat.le_refl _⟩, ⟨Hof.Rw HO818.out⟩, ⟨Hof.Lw HB.out⟩⟩
  case round =>
   clear H'
   obtain ⟨x11_1, x12_1, x13_1, rfl, rfl, HA, HK1, HO_11, HB⟩ := hrel
   cases gk with
   | zero => exact absurd HA.out (by simp [spec_l4Rank.l0])
   | succ k1 =>
    have H := HA.out
    clear HA
    simp only [spec_l4Rank.l0] at H
    by_cases c10 : x13_1 < a2
    ·rw [if_pos c10] at H
     have c10b0 := decide_eq_true c10
     clear c10
     obtain ⟨t819, A11, H⟩ := Hof.be H
     (try dsimp only at H)
     by_cases c12 : t819 = true
     ·subst c12
      replace H : (spec_l4Rank.l1 k1 a0 a1 a2 a4 x11_1 x12_1 x13_1 x12_1) = some r := by rw [if_pos rfl] at H; exact H
      have HC13 := Aside0.mk H
      clear H
      go_upto_block 2 with (first | (refine Hof.gl (some 31) Try.func58 #[.int .i64 a4, .int .i64 x13_1] ?_; (with_reducible refine (spec_l2Has.calls a4 x13_1 true _ A11.out).mono ?_); rintro e w' ⟨rfl, ⟨nd, rfl⟩⟩; refine ⟨_, rfl, ?_⟩))
      (try simp only [Act.put, List.setIfInBounds_toArray, List.set_cons_zero, List.set_cons_succ])
      go_cut [14] (fun v14 wc => ∃ (kq : Nat) (x14_12 : Int), v14 = .int .i64 x14_12 ∧ Aside0 (spec_l4Rank.j2 kq a0 a1 a2 a4 x11_1 x12_1 x13_1 x14_12 = some r) ∧ Aside0 (kq ≤ k1) ∧ Aside0 (Kd.R (Kd.int .i64) 3 wc w.heap.size (fun _ => True) v817 x11_1) ∧ Aside0 (Below w.heap.size w wc))
      case first =>
       have H := HC13.out
       clear HC13
       have H' := Aside0.mk H
       clear H
       go_wp2
       go_loopg [14] k1 (fun kq v14 w' => ∃ (x14_2 : Int), v14 = .int .i64 x14_2 ∧ Aside0 (spec_l4Rank.l1 kq a0 a1 a2 a4 x11_1 x12_1 x13_1 x14_2 = some r) ∧ Aside0 (kq ≤ k1) ∧ Aside0 (Kd.R (Kd.int .i64) 3 w' w.heap.size (fun _ => True) v817 x11_1) ∧ Aside0 (Below w.heap.size w w'))
       case atStart => exact ⟨(x12_1), Hof.F, H', ⟨Nat.le_refl _⟩, ⟨Hof.Rw HO_11.out⟩, ⟨Hof.Lw HB.out⟩⟩
       case round =>
        clear H'
        obtain ⟨x14_2, rfl, HA, HK2, HO_11, HB⟩ := hrel
        cases gk with
        | zero => exact absurd HA.out (by simp [spec_l4Rank.l1])
        | succ k2 =>
         have H := HA.out
         clear HA
         simp only [spec_l4Rank.l1] at H
         by_cases c14 : x14_2 < a1
         ·rw [if_pos c14] at H
          have c14b0 := decide_eq_true c14
          clear c14
          (first | rw [c14b0] | (simp only [i64_w, i32_w]; rw [c14b0]) | skip)
          obtain ⟨ji15, hji15⟩ : ∃ j_ : Int, (wrap64 ((wrap64 (x14_2 * a2)) + x13_1)) = j_ := ⟨_, rfl⟩
          replace H : (if 0 ≤ (ji15) then (if (ji15) < (x11_1.length : Int) then (if (rd x11_1 (ji15)) = 0 then (spec_l4Rank.l1 k2 a0 a1 a2 a4 x11_1 x12_1 x13_1 (wrap64 (x14_2 + 1))) else (spec_l4Rank.j2 k2 a0 a1 a2 a4 x11_1 x12_1 x13_1 x14_2)) else (none)) else (none)) = some r := by first | (rw [hji15] at H; exact H) | (simp only [hji15] at H ⊢; exact H)
          have hji15w : (IntKind.i64.wrap ((wrap64 (x14_2 * a2)) + x13_1)) = ji15 := (i64_w _).trans hji15
          by_cases c16 : 0 ≤ (ji15)
          ·rw [if_pos c16] at H
           have c16b0 := decide_eq_true c16
           clear c16
           by_cases c17 : (ji15) < (x11_1.length : Int)
           ·rw [if_pos c17] at H
            have c17b0 := decide_eq_true c17
            clear c17
            by_cases c18 : (rd x11_1 (ji15)) = 0
            ·rw [if_pos c18] at H
             have c18b0 : ((rd x11_1 (ji15)) == 0) = true := beq_iff_eq.mpr c18
             have c18b1 : ((rd x11_1 (ji15)) != 0) = false := bne_eq_false_iff_eq.mpr c18
             clear c18
             have H' := Aside0.mk H
             clear H
             obtain ⟨Ao19, co19, eo19⟩ := Kd.R_slice HO_11.out
             subst eo19
             have p820 : 0 ≤ ((ji15) : Int) := Hof.D
             have q820 : (ji15) < (x11_1.length : Int) := Hof.D
             obtain ⟨ad820, e820, hx820_0⟩ := Kd.at_int (Kd.R_reads' HO_11.out).2.2 (ji15) p820 q820
             cases e820
             replace p820 := eq_true p820
             replace q820 := eq_true q820
             go_wp2
             go_roundg k2
             case measure => have := HK1.out; have := HK2.out; omega
             case rel => exact ⟨(wrap64 (x14_2 + 1)), Hof.F, H', ⟨by have := HK1.out; have := HK2.out; omega⟩, ⟨Hof.Rw HO_11.out⟩, ⟨Hof.Lw HB.out⟩⟩
            ·rw [if_neg c18] at H
             have c18b0 : ((rd x11_1 (ji15)) == 0) = false := beq_eq_false_iff_ne.mpr c18
             have c18b1 : ((rd x11_1 (ji15)) != 0) = true := bne_iff_ne.mpr c18
             have H' := Aside0.mk H
             clear H
             obtain ⟨Ao20, co20, eo20⟩ := Kd.R_slice HO_11.out
             subst eo20
             have p820 : 0 ≤ ((ji15) : Int) := Hof.D
             have q820 : (ji15) < (x11_1.length : Int) := Hof.D
             obtain ⟨ad820, e820, hx820_0⟩ := Kd.at_int (Kd.R_reads' HO_11.out).2.2 (ji15) p820 q820
             cases e820
             replace p820 := eq_true p820
             replace q820 := eq_true q820
             go_wp2
             go_meet
             case rel => exact ⟨_, (x14_2), Hof.F, H', ⟨by have := HK1.out; have := HK2.out; first | omega | exact Nat.le_refl _⟩, ⟨Hof.Rw HO_11.out⟩, ⟨Hof.Lw HB.out⟩⟩
           ·rw [if_neg c17] at H
            exact absurd H (by simp)
          ·rw [if_neg c16] at H
           exact absurd H (by simp)
         ·rw [if_neg c14] at H
          have c14b0 : decide (x14_2 < a1) = false := decide_eq_false c14
          clear c14
          (first | rw [c14b0] | (simp only [i64_w, i32_w]; rw [c14b0]) | skip)
          have H' := Aside0.mk H
          clear H
          go_wp2
          go_meet
          case rel => exact ⟨_, (x14_2), Hof.F, H', ⟨by have := HK1.out; have := HK2.out; first | omega | exact Nat.le_refl _⟩, ⟨Hof.Rw HO_11.out⟩, ⟨Hof.Lw HB.out⟩⟩
      case rest =>
       clear HC13
       try clear q8
       try clear hx8
       try clear hx820_0
       try clear q820
       obtain ⟨kq, x14_12, rfl, HA, HJ12, HO_11, HB⟩ := hcut
       cases kq with
       | zero => exact absurd HA.out (by simp [spec_l4Rank.j2])
       | succ kj12 =>
        have H := HA.out
        clear HA
        simp only [spec_l4Rank.j2] at H
        by_cases c21 : x14_12 ≥ a1
        ·rw [if_pos c21] at H
         have c21b0 := decide_eq_true c21
         clear c21
         have H' := Aside0.mk H
         clear H
         go_wp2
         go_roundg kj12
         case measure => have := HK1.out; have := HJ12.out; omega
         case rel => exact ⟨(x11_1), (x12_1), (wrap64 (x13_1 + 1)), Hof.F, Hof.F, H', ⟨by have := HK1.out; have := HJ12.out; omega⟩, ⟨Hof.Rw HO_11.out⟩, ⟨Hof.Lw HB.out⟩⟩
        ·rw [if_neg c21] at H
         have c21b0 : decide (a1 ≤ x14_12) = false := decide_eq_false c21
         clear c21
         have H' := Aside0.mk H
         clear H
         go_wp2
         go_loopg [15] kj12 (fun kq v15 w' => ∃ (x11_3 : List Int) (x15_3 : Int), v15 = .int .i64 x15_3 ∧ Aside0 (spec_l4Rank.l2 kq a0 a1 a2 a4 x11_3 x12_1 x13_1 x14_12 x15_3 = some r) ∧ Aside0 (kq ≤ kj12) ∧ Aside0 (Kd.R (Kd.int .i64) 3 w' w.heap.size (fun _ => True) v817 x11_3) ∧ Aside0 (Below w.heap.size w w'))
         case atStart => exact ⟨(x11_1), (0), Hof.F, H', ⟨Nat.le_refl _⟩, ⟨Hof.Rw HO_11.out⟩, ⟨Hof.Lw HB.out⟩⟩
         case round =>
          clear H'
          try clear q8
          try clear hx8
          try clear hx820_0
          try clear q8
          try clear q820
          obtain ⟨x11_3, x15_3, rfl, HA, HK3, HO_11, HB⟩ := hrel
          cases gk with
          | zero => exact absurd HA.out (by simp [spec_l4Rank.l2])
          | succ k3 =>
           have H := HA.out
           clear HA
           simp only [spec_l4Rank.l2] at H
           by_cases c22 : x15_3 < a2
           ·rw [if_pos c22] at H
            have c22b0 := decide_eq_true c22
            clear c22
            obtain ⟨ji23, hji23⟩ : ∃ j_ : Int, (wrap64 ((wrap64 (x14_12 * a2)) + x15_3)) = j_ := ⟨_, rfl⟩
            replace H : (if 0 ≤ (ji23) then (if (ji23) < (x11_3.length : Int) then (if 0 ≤ (wrap64 ((wrap64 (x12_1 * a2)) + x15_3)) then (if (wrap64 ((wrap64 (x12_1 * a2)) + x15_3)) < (x11_3.length : Int) then (spec_l4Rank.l2 k3 a0 a1 a2 a4 ((x11_3.set ((ji23) : Int).toNat (rd x11_3 (wrap64 ((wrap64 (x12_1 * a2)) + x15_3)))).set ((wrap64 ((wrap64 (x12_1 * a2)) + x15_3)) : Int).toNat (rd x11_3 (ji23))) x12_1 x13_1 x14_12 (wrap64 (x15_3 + 1))) else (none)) else (none)) else (none)) else (none)) = some r := by first | (rw [hji23] at H; exact H) | (simp only [hji23] at H ⊢; exact H)
            have hji23w : (IntKind.i64.wrap ((wrap64 (x14_12 * a2)) + x15_3)) = ji23 := (i64_w _).trans hji23
            by_cases c24 : 0 ≤ (ji23)
            ·rw [if_pos c24] at H
             have c24b0 := decide_eq_true c24
             clear c24
             by_cases c25 : (ji23) < (x11_3.length : Int)
             ·rw [if_pos c25] at H
              have c25b0 := decide_eq_true c25
              clear c25
              obtain ⟨ji26, hji26⟩ : ∃ j_ : Int, (wrap64 ((wrap64 (x12_1 * a2)) + x15_3)) = j_ := ⟨_, rfl⟩
              replace H : (if 0 ≤ (ji26) then (if (ji26) < (x11_3.length : Int) then (spec_l4Rank.l2 k3 a0 a1 a2 a4 ((x11_3.set ((ji23) : Int).toNat (rd x11_3 (ji26))).set ((ji26) : Int).toNat (rd x11_3 (ji23))) x12_1 x13_1 x14_12 (wrap64 (x15_3 + 1))) else (none)) else (none)) = some r := by first | (rw [hji26] at H; exact H) | (simp only [hji26] at H ⊢; exact H)
              have hji26w : (IntKind.i64.wrap ((wrap64 (x12_1 * a2)) + x15_3)) = ji26 := (i64_w _).trans hji26
              by_cases c27 : 0 ≤ (ji26)
              ·rw [if_pos c27] at H
               have c27b0 := decide_eq_true c27
               clear c27
               by_cases c28 : (ji26) < (x11_3.length : Int)
               ·rw [if_pos c28] at H
                have c28b0 := decide_eq_true c28
                clear c28
                obtain ⟨y823, hy823⟩ : ∃ y_ : List Int, y_ = (x11_3.set ((ji23) : Int).toNat (rd x11_3 (ji26))) := ⟨_, rfl⟩
                replace H : (spec_l4Rank.l2 k3 a0 a1 a2 a4 (y823.set ((ji26) : Int).toNat (rd x11_3 (ji23))) x12_1 x13_1 x14_12 (wrap64 (x15_3 + 1))) = some r := by (try rw [hy823]); exact Hof.Z
                have Ny823 := Aside0.mk hy823
                clear hy823
                obtain ⟨y824, hy824⟩ : ∃ y_ : List Int, y_ = (y823.set ((ji26) : Int).toNat (rd x11_3 (ji23))) := ⟨_, rfl⟩
                replace H : (spec_l4Rank.l2 k3 a0 a1 a2 a4 y824 x12_1 x13_1 x14_12 (wrap64 (x15_3 + 1))) = some r := by (try rw [hy824]); exact Hof.Z
                have Ny824 := Aside0.mk hy824
                clear hy824
                have H' := Aside0.mk H
                clear H
                obtain ⟨Ao31, co31, eo31⟩ := Kd.R_slice HO_11.out
                subst eo31
                have p821 : 0 ≤ ((ji23) : Int) := Hof.D
                have q821 : (ji23) < (x11_3.length : Int) := Hof.D
                obtain ⟨ad821, e821, hx821_0⟩ := Kd.at_int (Kd.R_reads' HO_11.out).2.2 (ji23) p821 q821
                cases e821
                replace p821 := eq_true p821
                replace q821 := eq_true q821
                have p822 : 0 ≤ ((ji26) : Int) := Hof.D
                have q822 : (ji26) < (x11_3.length : Int) := Hof.D
                obtain ⟨ad822, e822, hx822_0⟩ := Kd.at_int (Kd.R_reads' HO_11.out).2.2 (ji26) p822 q822
                obtain rfl : ad821 = ad822 := (by injection e822)
                replace p822 := eq_true p822
                replace q822 := eq_true q822
                have p29 : 0 ≤ ((ji23) : Int) := Hof.D
                have q29 : ((ji23) : Int) < ((x11_3.length : Int) : Int) := Hof.D
                obtain ⟨go29, co29, eo29, gb29, gl29, cl29, HG29⟩ := Kd.R_form HO_11.out (by omega)
                (first | cases eo29 | (injection eo29 with ea_ en_ ec_; (first | subst ea_ | (injection ea_ with ea_; subst ea_)); subst ec_; clear en_))
                have GB29 := Aside0.mk gb29
                have GG29 := Aside0.mk HG29
                clear gb29 gl29 HG29
                (first | simp only [add_plain] at hx821_0 | skip)
                (first | simp only [add_plain] at hx822_0 | skip)
                obtain ⟨hx29_0, hf29_0⟩ := Kd.R_celln 0 HO_11.out ((ji23) : Int) p29 q29
                replace p29 := eq_true p29
                replace q29 := eq_true q29
                have HP32 := Kd.R_putg HO_11.out ((ji23) : Int) (rd x11_3 (ji26))
                go_wp2_with (first | ((with_reducible refine gate_store (t := 3) (p := 80) rfl ?_); refine store_event (t := 3) (p := 80) (v := ?vo_w33) (w1 := (wr.setCell ⟨go29, ((ji23) : Int).toNat, none⟩ (.int .i64 (rd x11_3 (ji26))))) ?hg ?ho ?hn ?hr ?_; (case ho => rfl); (case hg => rfl); (case hn => rfl); (case hr => first | (go_simp; done) | (go_simp; rfl)); intro w33 hw; have hg : wr.grownBy w33 (some go29) := (by rw [hw]; exact HP32.2); have hp_ : Kd.R (Kd.int .i64) 3 w33 w.heap.size (fun _ => True) (.slice (some ⟨go29, 0, none⟩) x11_3.length co31) y823 := (by rw [hw, Ny823.out]; exact HP32.1); clear HP32; replace HO_11 := Aside0.mk hp_; replace HB := Aside0.mk ((by rw [hw]; exact below_set (HB.out) GB29.out : Below w.heap.size w w33)); clear hg hw hp_; have p30 : 0 ≤ ((ji26) : Int) := Hof.D; have q30 : ((ji26) : Int) < ((x11_3.length : Int) : Int) := Hof.D; obtain ⟨hx30_0, hf30_0⟩ := Kd.R_celln 0 HO_11.out ((ji26) : Int) p30 q30; replace p30 := eq_true p30; replace q30 := eq_true q30; obtain ⟨hy34_, hz34_⟩ := Kd.R_celln 0 HO_11.out ((ji26) : Int) (Hof.D) (Hof.D); have HP34 := Kd.R_putg HO_11.out ((ji26) : Int) (rd x11_3 (ji23))) | ((with_reducible refine gate_store (t := 3) (p := 88) rfl ?_); refine store_event (t := 3) (p := 88) (v := ?vo_w35) (w1 := (w33.setCell ⟨go29, ((ji26) : Int).toNat, none⟩ (.int .i64 (rd x11_3 (ji23))))) ?hg ?ho ?hn ?hr ?_; (case ho => rfl); (case hg => rfl); (case hn => rfl); (case hr => first | (go_simp; done) | (go_simp; rfl)); intro w35 hw; have hg : w33.grownBy w35 (some go29) := (by rw [hw]; exact HP34.2); have hp_ : Kd.R (Kd.int .i64) 3 w35 w.heap.size (fun _ => True) (.slice (some ⟨go29, 0, none⟩) x11_3.length co31) y824 := (by rw [hw, Ny824.out]; exact HP34.1); clear HP34; replace HO_11 := Aside0.mk hp_; replace HB := Aside0.mk ((by rw [hw]; exact below_set (HB.out) GB29.out : Below w.heap.size w w35)); clear hg hw hp_))
                go_roundg k3
                case measure => have := HK1.out; have := HJ12.out; have := HK3.out; omega
                case rel => exact ⟨(y824), (wrap64 (x15_3 + 1)), Hof.F, H', ⟨by have := HK1.out; have := HJ12.out; have := HK3.out; omega⟩, ⟨Hof.Rw HO_11.out⟩, ⟨Hof.Lw HB.out⟩⟩
               ·rw [if_neg c28] at H
                exact absurd H (by simp)
              ·rw [if_neg c27] at H
               exact absurd H (by simp)
             ·rw [if_neg c25] at H
              exact absurd H (by simp)
            ·rw [if_neg c24] at H
             exact absurd H (by simp)
           ·rw [if_neg c22] at H
            have c22b0 : decide (x15_3 < a2) = false := decide_eq_false c22
            clear c22
            have H' := Aside0.mk H
            clear H
            go_wp2
            go_loopg [17] k3 (fun kq v17 w' => ∃ (x11_4 : List Int) (x17_4 : Int), v17 = .int .i64 x17_4 ∧ Aside0 (spec_l4Rank.l3 kq a0 a1 a2 a4 x11_4 x12_1 x13_1 x17_4 = some r) ∧ Aside0 (kq ≤ k3) ∧ Aside0 (Kd.R (Kd.int .i64) 3 w' w.heap.size (fun _ => True) v817 x11_4) ∧ Aside0 (Below w.heap.size w w'))
            case atStart => exact ⟨(x11_3), (wrap64 (x12_1 + 1)), Hof.F, H', ⟨Nat.le_refl _⟩, ⟨Hof.Rw HO_11.out⟩, ⟨Hof.Lw HB.out⟩⟩
            case round =>
             clear H'
             try clear q2
             try clear hx2
             try clear q3
             try clear hx3
             try clear q8
             try clear hx8
             try clear q29
             try clear hx29
             try clear hf29
             try clear q30
             try clear hx30
             try clear hf30
             try clear hx29_0
             try clear hx30_0
             try clear hx820_0
             try clear hx821_0
             try clear hx822_0
             try clear q29
             try clear q30
             try clear q8
             try clear q820
             try clear q821
             try clear q822
             obtain ⟨x11_4, x17_4, rfl, HA, HK4, HO_11, HB⟩ := hrel
             cases gk with
             | zero => exact absurd HA.out (by simp [spec_l4Rank.l3])
             | succ k4 =>
              have H := HA.out
              clear HA
              simp only [spec_l4Rank.l3] at H
              by_cases c36 : x17_4 < a1
              ·rw [if_pos c36] at H
               have c36b0 := decide_eq_true c36
               clear c36
               obtain ⟨ji37, hji37⟩ : ∃ j_ : Int, (wrap64 ((wrap64 (x17_4 * a2)) + x13_1)) = j_ := ⟨_, rfl⟩
               replace H : (if 0 ≤ (ji37) then (if (ji37) < (x11_4.length : Int) then (if 0 ≤ (wrap64 ((wrap64 (x12_1 * a2)) + x13_1)) then (if (wrap64 ((wrap64 (x12_1 * a2)) + x13_1)) < (x11_4.length : Int) then (spec_l4Rank.l4 k4 a0 a1 a2 a4 x11_4 x12_1 x13_1 x17_4 (rd x11_4 (ji37)) (rd x11_4 (wrap64 ((wrap64 (x12_1 * a2)) + x13_1))) 0) else (none)) else (none)) else (none)) else (none)) = some r := by first | (rw [hji37] at H; exact H) | (simp only [hji37] at H ⊢; exact H)
               have hji37w : (IntKind.i64.wrap ((wrap64 (x17_4 * a2)) + x13_1)) = ji37 := (i64_w _).trans hji37
               by_cases c38 : 0 ≤ (ji37)
               ·rw [if_pos c38] at H
                have c38b0 := decide_eq_true c38
                clear c38
                by_cases c39 : (ji37) < (x11_4.length : Int)
                ·rw [if_pos c39] at H
                 have c39b0 := decide_eq_true c39
                 clear c39
                 obtain ⟨ji40, hji40⟩ : ∃ j_ : Int, (wrap64 ((wrap64 (x12_1 * a2)) + x13_1)) = j_ := ⟨_, rfl⟩
                 replace H : (if 0 ≤ (ji40) then (if (ji40) < (x11_4.length : Int) then (spec_l4Rank.l4 k4 a0 a1 a2 a4 x11_4 x12_1 x13_1 x17_4 (rd x11_4 (ji37)) (rd x11_4 (ji40)) 0) else (none)) else (none)) = some r := by first | (rw [hji40] at H; exact H) | (simp only [hji40] at H ⊢; exact H)
                 have hji40w : (IntKind.i64.wrap ((wrap64 (x12_1 * a2)) + x13_1)) = ji40 := (i64_w _).trans hji40
                 by_cases c41 : 0 ≤ (ji40)
                 ·rw [if_pos c41] at H
                  have c41b0 := decide_eq_true c41
                  clear c41
                  by_cases c42 : (ji40) < (x11_4.length : Int)
                  ·rw [if_pos c42] at H
                   have c42b0 := decide_eq_true c42
                   clear c42
                   have H' := Aside0.mk H
                   clear H
                   obtain ⟨Ao43, co43, eo43⟩ := Kd.R_slice HO_11.out
                   subst eo43
                   have p825 : 0 ≤ ((ji37) : Int) := Hof.D
                   have q825 : (ji37) < (x11_4.length : Int) := Hof.D
                   obtain ⟨ad825, e825, hx825_0⟩ := Kd.at_int (Kd.R_reads' HO_11.out).2.2 (ji37) p825 q825
                   cases e825
                   replace p825 := eq_true p825
                   replace q825 := eq_true q825
                   have p826 : 0 ≤ ((ji40) : Int) := Hof.D
                   have q826 : (ji40) < (x11_4.length : Int) := Hof.D
                   obtain ⟨ad826, e826, hx826_0⟩ := Kd.at_int (Kd.R_reads' HO_11.out).2.2 (ji40) p826 q826
                   obtain rfl : ad825 = ad826 := (by injection e826)
                   replace p826 := eq_true p826
                   replace q826 := eq_true q826
                   obtain ⟨go9_, co9_, eo9_, -, -, -⟩ := Kd.R_form HO_11.out (by have p_ := of_eq_true p826; have q_ := of_eq_true q826; omega)
                   (first | cases eo9_ | (injection eo9_ with ea_ en_ ec_; (first | subst ea_ | (injection ea_ with ea_; subst ea_)); subst ec_; clear en_))
                   try simp only [add_plain] at hx825_0
                   try simp only [add_plain] at hx826_0
                   go_wp2
                   try simp only [add_plain]
                   go_loopg [20] k4 (fun kq v20 w' => ∃ (x11_5 : List Int) (x20_5 : Int), v20 = .int .i64 x20_5 ∧ Aside0 (spec_l4Rank.l4 kq a0 a1 a2 a4 x11_5 x12_1 x13_1 x17_4 (rd x11_4 (ji37)) (rd x11_4 (ji40)) x20_5 = some r) ∧ Aside0 (kq ≤ k4) ∧ Aside0 (Kd.R (Kd.int .i64) 3 w' w.heap.size (fun _ => True) (.slice (some (⟨go9_, 0, none⟩ : Addr)) x11_4.length co43) x11_5) ∧ Aside0 (Below w.heap.size w w'))
                   case atStart => exact ⟨(x11_4), (0), Hof.F, H', ⟨Nat.le_refl _⟩, ⟨Hof.Rw HO_11.out⟩, ⟨Hof.Lw HB.out⟩⟩
                   case round =>
                    clear H'
                    try clear q2
                    try clear hx2
                    try clear q3
                    try clear hx3
                    try clear q8
                    try clear hx8
                    try clear q29
                    try clear hx29
                    try clear hf29
                    try clear q30
                    try clear hx30
                    try clear hf30
                    try clear hx29_0
                    try clear hx30_0
                    try clear hx820_0
                    try clear hx821_0
                    try clear hx822_0
                    try clear hx825_0
                    try clear hx826_0
                    try clear q2
                    try clear q29
                    try clear q3
                    try clear q30
                    try clear q8
                    try clear q820
                    try clear q821
                    try clear q822
                    try clear q825
                    try clear q826
                    obtain ⟨x11_5, x20_5, rfl, HA, HK5, HO_11, HB⟩ := hrel
                    have hl11_5 := (Kd.R_reads' HO_11.out).1
                    rw [hl11_5] at HO_11
                    (try simp only [hl11_5])
                    cases gk with
                    | zero => exact absurd HA.out (by simp [spec_l4Rank.l4])
                    | succ k5 =>
                     have H := HA.out
                     clear HA
                     simp only [spec_l4Rank.l4] at H
                     by_cases c44 : x20_5 < a2
                     ·rw [if_pos c44] at H
                      have c44b0 := decide_eq_true c44
                      clear c44
                      obtain ⟨ji45, hji45⟩ : ∃ j_ : Int, (wrap64 ((wrap64 (x17_4 * a2)) + x20_5)) = j_ := ⟨_, rfl⟩
                      replace H : (if 0 ≤ (ji45) then (if (ji45) < (x11_5.length : Int) then (if 0 ≤ (wrap64 ((wrap64 (x12_1 * a2)) + x20_5)) then (if (wrap64 ((wrap64 (x12_1 * a2)) + x20_5)) < (x11_5.length : Int) then (if a0 = 0 then (none) else (spec_l4Rank.l4 k5 a0 a1 a2 a4 (x11_5.set ((ji45) : Int).toNat (Int.tmod (wrap64 ((Int.tmod (wrap64 ((wrap64 ((rd x11_5 (ji45)) * (rd x11_4 (ji40)))) - (wrap64 ((rd x11_5 (wrap64 ((wrap64 (x12_1 * a2)) + x20_5))) * (rd x11_4 (ji37)))))) a0) + a0)) a0)) x12_1 x13_1 x17_4 (rd x11_4 (ji37)) (rd x11_4 (ji40)) (wrap64 (x20_5 + 1)))) else (none)) else (none)) else (none)) else (none)) = some r := by first | (rw [hji45] at H; exact H) | (simp only [hji45] at H ⊢; exact H)
                      have hji45w : (IntKind.i64.wrap ((wrap64 (x17_4 * a2)) + x20_5)) = ji45 := (i64_w _).trans hji45
                      by_cases c46 : 0 ≤ (ji45)
                      ·rw [if_pos c46] at H
                       have c46b0 := decide_eq_true c46
                       clear c46
                       by_cases c47 : (ji45) < (x11_5.length : Int)
                       ·rw [if_pos c47] at H
                        have c47b0 := decide_eq_true c47
                        clear c47
                        obtain ⟨ji48, hji48⟩ : ∃ j_ : Int, (wrap64 ((wrap64 (x12_1 * a2)) + x20_5)) = j_ := ⟨_, rfl⟩
                        replace H : (if 0 ≤ (ji48) then (if (ji48) < (x11_5.length : Int) then (if a0 = 0 then (none) else (spec_l4Rank.l4 k5 a0 a1 a2 a4 (x11_5.set ((ji45) : Int).toNat (Int.tmod (wrap64 ((Int.tmod (wrap64 ((wrap64 ((rd x11_5 (ji45)) * (rd x11_4 (ji40)))) - (wrap64 ((rd x11_5 (ji48)) * (rd x11_4 (ji37)))))) a0) + a0)) a0)) x12_1 x13_1 x17_4 (rd x11_4 (ji37)) (rd x11_4 (ji40)) (wrap64 (x20_5 + 1)))) else (none)) else (none)) = some r := by first | (rw [hji48] at H; exact H) | (simp only [hji48] at H ⊢; exact H)
                        have hji48w : (IntKind.i64.wrap ((wrap64 (x12_1 * a2)) + x20_5)) = ji48 := (i64_w _).trans hji48
                        by_cases c49 : 0 ≤ (ji48)
                        ·rw [if_pos c49] at H
                         have c49b0 := decide_eq_true c49
                         clear c49
                         by_cases c50 : (ji48) < (x11_5.length : Int)
                         ·rw [if_pos c50] at H
                          have c50b0 := decide_eq_true c50
                          clear c50
                          by_cases c51 : a0 = 0
                          ·rw [if_pos c51] at H
                           exact absurd H (by simp)
                          ·rw [if_neg c51] at H
                           have c51b0 : (a0 == 0) = false := beq_eq_false_iff_ne.mpr c51
                           have c51b1 : (a0 != 0) = true := bne_iff_ne.mpr c51
                           obtain ⟨y829, hy829⟩ : ∃ y_ : List Int, y_ = (x11_5.set ((ji45) : Int).toNat (Int.tmod (wrap64 ((Int.tmod (wrap64 ((wrap64 ((rd x11_5 (ji45)) * (rd x11_4 (ji40)))) - (wrap64 ((rd x11_5 (ji48)) * (rd x11_4 (ji37)))))) a0) + a0)) a0)) := ⟨_, rfl⟩
                           replace H : (spec_l4Rank.l4 k5 a0 a1 a2 a4 y829 x12_1 x13_1 x17_4 (rd x11_4 (ji37)) (rd x11_4 (ji40)) (wrap64 (x20_5 + 1))) = some r := by (try rw [hy829]); exact Hof.Z
                           have Ny829 := Aside0.mk hy829
                           clear hy829
                           have H' := Aside0.mk H
                           clear H
                           try go_wp2
                           have n0_ := Aside0.mk (Kd.R_drew HO_11.out)
                           have n1_ := Aside0.mk (below_drew1 HB.out)
                           clear HO_11
                           clear HB
                           have HO_11 := n0_
                           have HB := n1_
                           clear n0_ n1_
                           have p827 : 0 ≤ ((ji45) : Int) := Hof.D
                           have q827 : (ji45) < (x11_5.length : Int) := Hof.D
                           obtain ⟨ad827, e827, hx827_0⟩ := Kd.at_int (Kd.R_reads' HO_11.out).2.2 (ji45) p827 q827
                           obtain rfl : (⟨go9_, 0, none⟩ : Addr) = ad827 := (by injection e827)
                           replace p827 := eq_true p827
                           replace q827 := eq_true q827
                           have p828 : 0 ≤ ((ji48) : Int) := Hof.D
                           have q828 : (ji48) < (x11_5.length : Int) := Hof.D
                           obtain ⟨ad828, e828, hx828_0⟩ := Kd.at_int (Kd.R_reads' HO_11.out).2.2 (ji48) p828 q828
                           obtain rfl : (⟨go9_, 0, none⟩ : Addr) = ad828 := (by injection e828)
                           replace p828 := eq_true p828
                           replace q828 := eq_true q828
                           have p52 : 0 ≤ ((ji45) : Int) := Hof.D
                           have q52 : ((ji45) : Int) < ((x11_5.length : Int) : Int) := Hof.D
                           obtain ⟨go52, co52, eo52, gb52, gl52, cl52, HG52⟩ := Kd.R_form HO_11.out (by omega)
                           (first | cases eo52 | (injection eo52 with ea_ en_ ec_; (first | subst ea_ | (injection ea_ with ea_; subst ea_)); subst ec_; clear en_))
                           have GB52 := Aside0.mk gb52
                           have GG52 := Aside0.mk HG52
                           clear gb52 gl52 HG52
                           (first | simp only [add_plain] at hx825_0 | skip)
                           (first | simp only [add_plain] at hx826_0 | skip)
                           (first | simp only [add_plain] at hx827_0 | skip)
                           (first | simp only [add_plain] at hx828_0 | skip)
                           obtain ⟨hx52_0, hf52_0⟩ := Kd.R_celln 0 HO_11.out ((ji45) : Int) p52 q52
                           replace p52 := eq_true p52
                           replace q52 := eq_true q52
                           have HP54 := Kd.R_putn HO_11.out ((ji45) : Int) (Int.tmod (wrap64 ((Int.tmod (wrap64 ((wrap64 ((rd x11_5 (ji45)) * (rd x11_4 (ji40)))) - (wrap64 ((rd x11_5 (ji48)) * (rd x11_4 (ji37)))))) a0) + a0)) a0)
                           rw [← Ny829.out] at HP54
                           have HQ54 := Aside0.mk HP54
                           clear HP54
                           refine start_ (n := 35) (S := fun w' => w'.cell? ⟨go9_, ((ji45)).toNat, none⟩ = some (.int .i64 (rd x11_5 (ji45))) ∧ w'.cell? ⟨go9_, ((ji48)).toNat, none⟩ = some (.int .i64 (rd x11_5 (ji48)))) (ds := [34]) #[false, false, false, false, false, false, false, false, false, false, false, false, false, false, false, false, false, false, false, false, false, false, false, false, false, false, false, false, false, false, false, false, false, false, false] (by kernel_rfl) rfl rfl ⟨hx827_0, hx828_0⟩ (fun hHeld => ?_); refine with_tabW spec_l4Rank.tab25 spec_l4Rank.bits25 (fun HT_ HW_ => ?_)
                           generalize wr.drew = w53 at HO_11 HB GG52 HQ54 hf52_0 hx52_0 hx827_0 hx828_0 hHeld ⊢
                           refine Hof.pu 0 117 HT_ ?_
                           refine Hof.pu 1 118 HT_ ?_
                           refine Hof.pu 2 119 HT_ ?_
                           refine Hof.pu 3 120 HT_ ?_
                           refine Hof.pu 4 121 HT_ ?_
                           refine Hof.pu 5 122 HT_ ?_
                           refine Hof.pu 6 123 HT_ ?_
                           refine Hof.pu 7 124 HT_ ?_
                           refine Hof.pu 8 125 HT_ ?_
                           refine Hof.pu 9 126 HT_ ?_
                           refine Hof.pu 10 127 HT_ ?_
                           refine Hof.pu 11 128 HT_ ?_
                           refine Hof.pu 12 129 HT_ ?_
                           refine Hof.pu 14 131 HT_ ?_
                           refine Hof.pu 16 133 HT_ ?_
                           refine Hof.pu 17 134 HT_ ?_
                           refine Hof.pu 18 135 HT_ ?_
                           refine Hof.pu 19 136 HT_ ?_
                           refine Hof.pu 20 137 HT_ ?_
                           refine Hof.pu 21 138 HT_ ?_
                           refine Hof.pu 22 139 HT_ ?_
                           refine Hof.pu 24 141 HT_ ?_
                           refine Hof.pu 27 144 HT_ ?_
                           refine Hof.pu 29 146 HT_ ?_
                           refine Hof.pu 31 148 HT_ ?_
                           refine Hof.tk 13 130 HT_ HW_ hHeld ?_
                           refine Hof.pu 15 132 HT_ ?_
                           refine Hof.tk 23 140 HT_ HW_ hHeld ?_
                           refine Hof.pu 25 142 HT_ ?_
                           refine Hof.pu 26 143 HT_ ?_
                           refine Hof.pu 28 145 HT_ ?_
                           refine Hof.pu 30 147 HT_ ?_
                           refine Hof.pu 32 149 HT_ ?_
                           refine Hof.pu 33 150 HT_ ?_
                           refine last_ (i := 34) (N := none) #[true, true, true, true, true, true, true, true, true, true, true, true, true, true, true, true, true, true, true, true, true, true, true, true, true, true, true, true, true, true, true, true, true, true, true] rfl rfl (one_of HT_.out (by kernel_rfl)) (by decide) (fun K hK => ?_)
                           refine skip_ (w1 := ?_) (by rfl) rfl ?_ ?_
                           rotate_left
                           ·go_simp
                            rfl
                           refine hK.out _ _ ?_
                           clear hK K
                           refine done_ (done_of HT_.out (by kernel_rfl)) ?_
                           try go_wp2
                           (try simp only [← hl11_5])
                           go_roundg k5
                           case measure => have := HK1.out; have := HJ12.out; have := HK3.out; have := HK4.out; have := HK5.out; omega
                           case rel => exact ⟨(y829), (wrap64 (x20_5 + 1)), Hof.F, H', ⟨by have := HK1.out; have := HJ12.out; have := HK3.out; have := HK4.out; have := HK5.out; omega⟩, ⟨by (try simp only [hl11_5]); (with_reducible repeat (first | apply Kd.R_alloc | apply Kd.R_drewN | apply Kd.R_drew)); exact HQ54.out⟩, ⟨by repeat (first | (with_reducible first | exact HB.out | apply below_alloc | apply pw_below_drewN | apply below_drew1 | refine below_set ?_ GB52.out) | exact HB.out)⟩⟩
                         ·rw [if_neg c50] at H
                          exact absurd H (by simp)
                        ·rw [if_neg c49] at H
                         exact absurd H (by simp)
                       ·rw [if_neg c47] at H
                        exact absurd H (by simp)
                      ·rw [if_neg c46] at H
                       exact absurd H (by simp)
                     ·rw [if_neg c44] at H
                      have c44b0 : decide (x20_5 < a2) = false := decide_eq_false c44
                      clear c44
                      have H' := Aside0.mk H
                      clear H
                      go_wp2
                      (try simp only [← hl11_5])
                      go_roundg k5
                      case measure => have := HK1.out; have := HJ12.out; have := HK3.out; have := HK4.out; have := HK5.out; omega
                      case rel => exact ⟨(x11_5), (wrap64 (x17_4 + 1)), Hof.F, H', ⟨by have := HK1.out; have := HJ12.out; have := HK3.out; have := HK4.out; have := HK5.out; omega⟩, ⟨by (try simp only [hl11_5]); (with_reducible repeat (first | apply Kd.R_alloc | apply Kd.R_drewN | apply Kd.R_drew)); exact HO_11.out⟩, ⟨Hof.Lw HB.out⟩⟩
                  ·rw [if_neg c42] at H
                   exact absurd H (by simp)
                 ·rw [if_neg c41] at H
                  exact absurd H (by simp)
                ·rw [if_neg c39] at H
                 exact absurd H (by simp)
               ·rw [if_neg c38] at H
                exact absurd H (by simp)
              ·rw [if_neg c36] at H
               have c36b0 : decide (x17_4 < a1) = false := decide_eq_false c36
               clear c36
               have H' := Aside0.mk H
               clear H
               go_wp2
               go_roundg k4
               case measure => have := HK1.out; have := HJ12.out; have := HK3.out; have := HK4.out; omega
               case rel => exact ⟨(x11_4), (wrap64 (x12_1 + 1)), (wrap64 (x13_1 + 1)), Hof.F, Hof.F, H', ⟨by have := HK1.out; have := HJ12.out; have := HK3.out; have := HK4.out; omega⟩, ⟨Hof.Rw HO_11.out⟩, ⟨Hof.Lw HB.out⟩⟩
     ·replace c12 := Bool.eq_false_iff.mpr c12
      subst c12
      replace H : (spec_l4Rank.l0 k1 a0 a1 a2 a4 x11_1 x12_1 (wrap64 (x13_1 + 1))) = some r := by rw [if_neg (show ¬ (false = true) by decide)] at H; exact H
      have H' := Aside0.mk H
      clear H
      go_wp2_with (first | (refine Hof.gl (some 31) Try.func58 #[.int .i64 a4, .int .i64 x13_1] ?_; (with_reducible refine (spec_l2Has.calls a4 x13_1 false _ A11.out).mono ?_); rintro e w' ⟨rfl, ⟨nd, rfl⟩⟩; refine ⟨_, rfl, ?_⟩))
      go_roundg k1
      case measure => have := HK1.out; omega
      case rel => exact ⟨(x11_1), (x12_1), (wrap64 (x13_1 + 1)), Hof.F, Hof.F, H', ⟨by have := HK1.out; omega⟩, ⟨Hof.Rw HO_11.out⟩, ⟨Hof.Lw HB.out⟩⟩
    ·rw [if_neg c10] at H
     have c10b0 : decide (x13_1 < a2) = false := decide_eq_false c10
     clear c10
     obtain rfl := Option.some.inj H
     go_wp2
     go_ret
     exact ⟨Hof.E, Hof.L⟩
 ·rw [if_neg c6] at H
  exact absurd H (by simp)
def spec_l4Matrix.l0 : Nat → Int → Int → Int → List Int → Int → Int → Int → List Int → Option (Int × List Int)
 | 0, _, _, _, _, _, _, _, _ => none
 | k + 1, x0, x1, x2, x3, x10, x11, x832000, x832001 => (spec_FullSet.f x2).bind fun t834 => (if x11 ≤ t834 then ((spec_CountOf.f k x11).bind fun t835 => (if t835 = x10 then ((spec_l4Rank.f k x0 x1 x2 x3 x11).bind fun t836 => (if t836 = x10 then (if x832001.length < 17592186044416 then (spec_l4Matrix.l0 k x0 x1 x2 x3 x10 (wrap64 (x11 + 1)) x832000 (x832001 ++ [x11])) else (none)) else (spec_l4Matrix.l0 k x0 x1 x2 x3 x10 (wrap64 (x11 + 1)) x832000 x832001))) else (spec_l4Matrix.l0 k x0 x1 x2 x3 x10 (wrap64 (x11 + 1)) x832000 x832001))) else (some (x832000, x832001)))
def spec_l4Matrix.f (k : Nat) (a0 : Int) (a1 : Int) (a2 : Int) (l3 : List Int) : Option (Int × List Int) := (spec_FullSet.f a2).bind fun t832 => ((spec_l4Rank.f k a0 a1 a2 l3 t832).bind fun t833 => (spec_l4Matrix.l0 k a0 a1 a2 l3 t833 0 a2 ([] : List Int)))
set_option maxHeartbeats 8000000 in
set_option maxRecDepth 100000 in
theorem spec_l4Matrix.calls (k : Nat) (a0 : Int) (a1 : Int) (a2 : Int) (A3 : Option Addr) (c3 : Nat) (l3 : List Int) (r1 : Int) (r2 : List Int) (w : World) (hr3 : Kd.C (Kd.int .i64) w A3 l3.length l3) (hc3 : l3.length ≤ c3) (h : spec_l4Matrix.f k a0 a1 a2 l3 = some (r1, r2)) :
  Calls Try.prog 118 #[.int .i64 a0, .int .i64 a1, .int .i64 a2, .slice A3 l3.length c3] w fun e w' => ∃ v1_ : Value, e = .returned (.agg #[.int .i64 r1, v1_]) ∧ Kd.R (Kd.int .i64) 3 w' w.heap.size (fun _ => True) v1_ r2 ∧ Below w.heap.size w w' := by
 have hu35 := Try.underlying35
 have HR3 := Aside0.mk hr3
 have HC3 := Aside0.mk hc3
 clear hr3 hc3
 have HB := Aside0.mk (Below.refl w.heap.size w)
 unfold spec_l4Matrix.f at h
 have H := h
 clear h
 obtain ⟨t832, A5, H⟩ := Hof.be H
 (try dsimp only at H)
 obtain ⟨t833, A6, H⟩ := Hof.be H
 (try dsimp only at H)
 have H' := Aside0.mk H
 clear H
 go_enter Try.func118, Try.ntmps118
 go_wp2_with (first | ((with_reducible refine gate_dst (N := 8) rfl ?_); refine Hof.bx 8 #[.int .i64 0, .slice none 0 0] 35 ?_; intro gb830 hg w7 hbox hb; have BK830 := Aside0.mk hbox; have GW830 := Hof.gw hg HB; have GE830 := Hof.gw hg HB; replace HB := Hof.lb HB hb; clear hb hbox hg) | ((with_reducible refine gate_dst (N := 9) rfl ?_); refine Hof.bx 9 #[.int .i64 0, .slice none 0 0] 35 ?_; intro gb831 hg w8 hbox hb; have BK831 := Aside0.mk hbox; have GW831 := Hof.gL (w := w) hg Hof.L; have GE831 := Hof.gL (w := w) hg Hof.L; replace HB := Aside0.mk (below_step Hof.L hb); have NB830_831 := Hof.nl hg BK830; have NB831_830 := Hof.ng hg BK830; replace BK830 := Hof.bb BK830 hb; clear hb hbox hg; have hnb9 := NB831_830.out; have hnc9 := NB830_831.out; obtain ⟨hcz10_0, hcz10_1, hfz10_0, hfz10_1⟩ := Hof.blk2 BK831.out) | ((with_reducible refine gate_callee (f := 49) rfl ?_); refine Hof.gl (some 19) Try.func49 #[.int .i64 a2] ?_; (with_reducible refine (spec_FullSet.calls a2 t832 _ A5.out).mono ?_); rintro e w' ⟨rfl, ⟨nd, rfl⟩⟩; refine ⟨_, rfl, ?_⟩) | ((with_reducible refine gate_callee (f := 144) rfl ?_); refine Hof.gl (some 20) Try.func144 #[.int .i64 a0, .int .i64 a1, .int .i64 a2, .slice A3 l3.length c3, .int .i64 t832] ?_; (with_reducible refine (spec_l4Rank.calls k a0 a1 a2 _ _ l3 t832 t833 _ ?side1 ?side2 A6.out).mono ?_); (case side1 => exact Kd.C_below HR3.out Hof.L); (case side2 => exact HC3.out); rintro e w11 ⟨rfl, hb⟩; refine ⟨_, rfl, ?_⟩; replace BK830 := Aside0.mk (blk_below (g := gb830) (o := .cells #[.int .i64 0, .slice none 0 0] 35 (0, 0)) Hof.B hb); replace BK831 := Aside0.mk (blk_below (g := gb831) (o := .cells #[.int .i64 a2, .slice none 0 0] 35 (0, 0)) Hof.B hb); replace HB := Aside0.mk (below_step Hof.L hb); (try clear hb); (try clear hb2); (try clear hk); (try clear hi)))
 go_loopg [11] k (fun kq v11 w' => ∃ (x11_1 : Int) (x832001_1 : List Int) (u832001 : Value), v11 = .int .i64 x11_1 ∧ Aside0 (spec_l4Matrix.l0 kq a0 a1 a2 l3 t833 x11_1 a2 x832001_1 = some (r1, r2)) ∧ Aside0 (kq ≤ k) ∧ Aside0 (Kd.R (Kd.int .i64) 3 w' w.heap.size (fun _ => True) u832001 x832001_1) ∧ Aside0 (w'.heap[gb830]? = some (.cells #[.int .i64 0, (.slice none 0 0)] 35 (0, 0))) ∧ Aside0 (w'.heap[gb831]? = some (.cells #[.int .i64 a2, u832001] 35 (0, 0))) ∧ Aside0 (Below w.heap.size w w'))
 case atStart => exact ⟨(0), (([] : List Int)), (.slice none 0 0), Hof.F, H', ⟨Nat.le_refl _⟩, ⟨Hof.N⟩, ⟨Hof.Bw BK830.out⟩, ⟨Hof.Bw BK831.out⟩, ⟨Hof.L⟩⟩
 case round =>
  clear H'
  obtain ⟨x11_1, x832001_1, u832001, rfl, HA, HK1, HO_832001, BK830, BK831, HB⟩ := hrel
  cases gk with
  | zero => exact absurd HA.out (by simp [spec_l4Matrix.l0])
  | succ k1 =>
   have H := HA.out
   clear HA
   simp only [spec_l4Matrix.l0] at H
   obtain ⟨t834, A12, H⟩ := Hof.be H
   (try dsimp only at H)
   by_cases c13 : x11_1 ≤ t834
   ·rw [if_pos c13] at H
    have c13b0 := decide_eq_true c13
    clear c13
    obtain ⟨t835, A14, H⟩ := Hof.be H
    (try dsimp only at H)
    by_cases c15 : t835 = t833
    ·rw [if_pos c15] at H
     have c15b0 : (t835 == t833) = true := beq_iff_eq.mpr c15
     have c15b1 : (t835 != t833) = false := bne_eq_false_iff_eq.mpr c15
     clear c15
     obtain ⟨t836, A16, H⟩ := Hof.be H
     (try dsimp only at H)
     by_cases c17 : t836 = t833
     ·rw [if_pos c17] at H
      have c17b0 : (t836 == t833) = true := beq_iff_eq.mpr c17
      have c17b1 : (t836 != t833) = false := bne_eq_false_iff_eq.mpr c17
      clear c17
      by_cases c18 : x832001_1.length < 17592186044416
      ·rw [if_pos c18] at H
       have LMc18 := Aside0.mk c18
       clear c18
       obtain ⟨y837, hy837⟩ : ∃ y_ : List Int, y_ = (x832001_1 ++ [x11_1]) := ⟨_, rfl⟩
       replace H : (spec_l4Matrix.l0 k1 a0 a1 a2 l3 t833 (wrap64 (x11_1 + 1)) a2 y837) = some (r1, r2) := by (try rw [hy837]); exact Hof.Z
       have Ny837 := Aside0.mk hy837
       clear hy837
       have H' := Aside0.mk H
       clear H
       go_wp2_with (first | ((with_reducible refine gate_callee (f := 49) rfl ?_); refine Hof.gl (some 23) Try.func49 #[.int .i64 a2] ?_; (with_reducible refine (spec_FullSet.calls a2 t834 _ A12.out).mono ?_); rintro e w' ⟨rfl, ⟨nd, rfl⟩⟩; refine ⟨_, rfl, ?_⟩; (try (rw [drewN_self wr]; generalize hq_ : World.drewN wr _ = wr; have n0_ : Aside0 (Kd.R (Kd.int .i64) 3 wr w.heap.size (fun _ => True) u832001 x832001_1) := ⟨by rw [← hq_]; exact (Hof.Rw HO_832001.out)⟩; have n1_ : Aside0 (wr.heap[gb830]? = some (.cells #[.int .i64 0, .slice none 0 0] 35 (0, 0))) := ⟨by rw [← hq_]; exact (Hof.Bw BK830.out)⟩; have n2_ : Aside0 (wr.heap[gb831]? = some (.cells #[.int .i64 a2, u832001] 35 (0, 0))) := ⟨by rw [← hq_]; exact (Hof.Bw BK831.out)⟩; have n3_ : Aside0 (Below w.heap.size w wr) := ⟨by rw [← hq_]; exact Hof.L⟩; clear HO_832001 BK830 BK831 HB hq_; have HO_832001 := n0_; have BK830 := n1_; have BK831 := n2_; have HB := n3_; clear n0_ n1_ n2_ n3_; have hcy830_0 : wr.cell? ⟨gb830, 0, none⟩ = some (.int .i64 0) := (blk_cell BK830.out 0).trans rfl; have hfy830_0 := blk_frozen BK830.out 0; have hcy830_1 : wr.cell? ⟨gb830, 1, none⟩ = some (.slice none 0 0) := (blk_cell BK830.out 1).trans rfl; have hfy830_1 := blk_frozen BK830.out 1; have hcy831_0 : wr.cell? ⟨gb831, 0, none⟩ = some (.int .i64 a2) := (blk_cell BK831.out 0).trans rfl; have hfy831_0 := blk_frozen BK831.out 0; have hcy831_1 : wr.cell? ⟨gb831, 1, none⟩ = some (u832001) := (blk_cell BK831.out 1).trans rfl; have hfy831_1 := blk_frozen BK831.out 1))) | ((with_reducible refine gate_callee (f := 96) rfl ?_); refine Hof.gl (some 28) Try.func96 #[.int .i64 x11_1] ?_; (with_reducible refine (spec_CountOf.calls k1 x11_1 t835 _ A14.out).mono ?_); rintro e w' ⟨rfl, ⟨nd, rfl⟩⟩; refine ⟨_, rfl, ?_⟩; (try (rw [drewN_self wr]; generalize hq_ : World.drewN wr _ = wr; have n0_ : Aside0 (Kd.R (Kd.int .i64) 3 wr w.heap.size (fun _ => True) u832001 x832001_1) := ⟨by rw [← hq_]; exact (Hof.Rw HO_832001.out)⟩; have n1_ : Aside0 (wr.heap[gb830]? = some (.cells #[.int .i64 0, .slice none 0 0] 35 (0, 0))) := ⟨by rw [← hq_]; exact (Hof.Bw BK830.out)⟩; have n2_ : Aside0 (wr.heap[gb831]? = some (.cells #[.int .i64 a2, u832001] 35 (0, 0))) := ⟨by rw [← hq_]; exact (Hof.Bw BK831.out)⟩; have n3_ : Aside0 (Below w.heap.size w wr) := ⟨by rw [← hq_]; exact Hof.L⟩; clear HO_832001 BK830 BK831 HB hq_; have HO_832001 := n0_; have BK830 := n1_; have BK831 := n2_; have HB := n3_; clear n0_ n1_ n2_ n3_; have hcy830_0 : wr.cell? ⟨gb830, 0, none⟩ = some (.int .i64 0) := (blk_cell BK830.out 0).trans rfl; have hfy830_0 := blk_frozen BK830.out 0; have hcy830_1 : wr.cell? ⟨gb830, 1, none⟩ = some (.slice none 0 0) := (blk_cell BK830.out 1).trans rfl; have hfy830_1 := blk_frozen BK830.out 1; have hcy831_0 : wr.cell? ⟨gb831, 0, none⟩ = some (.int .i64 a2) := (blk_cell BK831.out 0).trans rfl; have hfy831_0 := blk_frozen BK831.out 0; have hcy831_1 : wr.cell? ⟨gb831, 1, none⟩ = some (u832001) := (blk_cell BK831.out 1).trans rfl; have hfy831_1 := blk_frozen BK831.out 1))) | (go_at_call 144; (with_reducible refine (spec_l4Rank.calls k1 a0 a1 a2 _ _ l3 x11_1 t836 _ ?side1 ?side2 A16.out).mono ?_); (case side1 => exact Hof.Cw (Kd.C_below HR3.out HB.out)); (case side2 => exact HC3.out); rintro e w19 ⟨rfl, hb⟩; replace HO_832001 := Hof.rb HO_832001 hb; replace BK830 := Hof.bb BK830 hb; replace BK831 := Hof.bb BK831 hb; replace HB := Aside0.mk (below_step Hof.L hb); (try clear hb); (try clear hb2); (try clear hk); (try clear hi); have hnb20 := NB831_830.out; have hnc20 := NB830_831.out; obtain ⟨hcz21_0, hcz21_1, hfz21_0, hfz21_1⟩ := Hof.blk2 BK831.out) | ((with_reducible refine gate_builtin (b := .append) (xs := #[.tmp 42, .tmp 44]) rfl ?_); at_builtin; refine Kd.R_append (Kd.int .i64) (w0 := w) w.heap.size rfl (.tmp 42) (.tmp 44) 24 3 (.int .i64 0) 8 rfl Try.underlying24 info3 rfl (by decide) (by omega) u832001 x832001_1 x11_1 [.int .i64 x11_1] (fun _ => True) (fun _ => False) rfl rfl (by exact rfl) (fun _ hk => hk.elim) (by exact fun _ _ => trivial) (by exact Hof.Rw HO_832001.out) (by exact Hof.L) (by exact below_size Hof.L) (by have := LMc18.out; omega) ?_; intro v838 w22 ho hb hg hat; rw [← Ny837.out] at ho; have n0_ := Aside0.mk (blk_grown (g := gb830) (o := .cells #[.int .i64 0, .slice none 0 0] 35 (0, 0)) (Hof.Bw BK830.out) hg (Kd.R_ne HO_832001.out BK830.out (by decide))); have n1_ := Aside0.mk (blk_grown (g := gb831) (o := .cells #[.int .i64 a2, u832001] 35 (0, 0)) (Hof.Bw BK831.out) hg (Kd.R_ne HO_832001.out BK831.out (by decide))); have n2_ := Aside0.mk hb; have n3_ := Aside0.mk ho; clear BK830; clear BK831; clear HB; clear HO_832001; have BK830 := n0_; have BK831 := n1_; have HB := n2_; have HO839 := n3_; clear n0_ n1_ n2_ n3_; clear ho hb hg hat; obtain ⟨Ao23, co23, eo23⟩ := Kd.R_slice HO839.out; subst eo23; obtain ⟨hcz24_0, hcz24_1, hfz24_0, hfz24_1⟩ := Hof.blk2 BK831.out))
       go_roundg k1
       case measure => have := HK1.out; omega
       case rel => exact ⟨(wrap64 (x11_1 + 1)), (y837), (.slice Ao23 y837.length co23), Hof.F, H', ⟨by have := HK1.out; omega⟩, ⟨Hof.Rw (Kd.R_mono (Kd.R_far (p := ⟨gb831, 1, none⟩) (Kd.R_types HO839.out BK831.out (by decide)) (fun _ hk => hk.2) (.slice Ao23 y837.length co23)) (fun _ hk => trivial))⟩, ⟨Hof.B⟩, ⟨Hof.B⟩, ⟨Hof.L⟩⟩
      ·rw [if_neg c18] at H
       exact absurd H (by simp)
     ·rw [if_neg c17] at H
      have c17b0 : (t836 == t833) = false := beq_eq_false_iff_ne.mpr c17
      have c17b1 : (t836 != t833) = true := bne_iff_ne.mpr c17
      have H' := Aside0.mk H
      clear H
      go_wp2_with (first | ((with_reducible refine gate_callee (f := 49) rfl ?_); refine Hof.gl (some 23) Try.func49 #[.int .i64 a2] ?_; (with_reducible refine (spec_FullSet.calls a2 t834 _ A12.out).mono ?_); rintro e w' ⟨rfl, ⟨nd, rfl⟩⟩; refine ⟨_, rfl, ?_⟩) | ((with_reducible refine gate_callee (f := 96) rfl ?_); refine Hof.gl (some 28) Try.func96 #[.int .i64 x11_1] ?_; (with_reducible refine (spec_CountOf.calls k1 x11_1 t835 _ A14.out).mono ?_); rintro e w' ⟨rfl, ⟨nd, rfl⟩⟩; refine ⟨_, rfl, ?_⟩) | (go_at_call 144; (with_reducible refine (spec_l4Rank.calls k1 a0 a1 a2 _ _ l3 x11_1 t836 _ ?side1 ?side2 A16.out).mono ?_); (case side1 => exact Hof.Cw (Kd.C_below HR3.out Hof.L)); (case side2 => exact HC3.out); rintro e w25 ⟨rfl, hb⟩; replace HO_832001 := Hof.rb HO_832001 hb; replace BK830 := Hof.bb BK830 hb; replace BK831 := Hof.bb BK831 hb; replace HB := Aside0.mk (below_step Hof.L hb); (try clear hb); (try clear hb2); (try clear hk); (try clear hi)))
      go_roundg k1
      case measure => have := HK1.out; omega
      case rel => exact ⟨(wrap64 (x11_1 + 1)), (x832001_1), (u832001), Hof.F, H', ⟨by have := HK1.out; omega⟩, ⟨Hof.Rw HO_832001.out⟩, ⟨Hof.Bw BK830.out⟩, ⟨Hof.Bw BK831.out⟩, ⟨Hof.L⟩⟩
    ·rw [if_neg c15] at H
     have c15b0 : (t835 == t833) = false := beq_eq_false_iff_ne.mpr c15
     have c15b1 : (t835 != t833) = true := bne_iff_ne.mpr c15
     have H' := Aside0.mk H
     clear H
     go_wp2_with (first | ((with_reducible refine gate_callee (f := 49) rfl ?_); refine Hof.gl (some 23) Try.func49 #[.int .i64 a2] ?_; (with_reducible refine (spec_FullSet.calls a2 t834 _ A12.out).mono ?_); rintro e w' ⟨rfl, ⟨nd, rfl⟩⟩; refine ⟨_, rfl, ?_⟩) | ((with_reducible refine gate_callee (f := 96) rfl ?_); refine Hof.gl (some 28) Try.func96 #[.int .i64 x11_1] ?_; (with_reducible refine (spec_CountOf.calls k1 x11_1 t835 _ A14.out).mono ?_); rintro e w' ⟨rfl, ⟨nd, rfl⟩⟩; refine ⟨_, rfl, ?_⟩))
     go_roundg k1
     case measure => have := HK1.out; omega
     case rel => exact ⟨(wrap64 (x11_1 + 1)), (x832001_1), (u832001), Hof.F, H', ⟨by have := HK1.out; omega⟩, ⟨Hof.Rw HO_832001.out⟩, ⟨Hof.Bw BK830.out⟩, ⟨Hof.Bw BK831.out⟩, ⟨Hof.L⟩⟩
   ·rw [if_neg c13] at H
    have c13b0 : decide (x11_1 ≤ t834) = false := decide_eq_false c13
    clear c13
    simp only [Option.some.injEq, Prod.mk.injEq] at H
    obtain ⟨rfl, rfl⟩ := H
    go_wp2_with (first | ((with_reducible refine gate_callee (f := 49) rfl ?_); refine Hof.gl (some 23) Try.func49 #[.int .i64 a2] ?_; (with_reducible refine (spec_FullSet.calls a2 t834 _ A12.out).mono ?_); rintro e w' ⟨rfl, ⟨nd, rfl⟩⟩; refine ⟨_, rfl, ?_⟩; (try (rw [drewN_self wr]; generalize hq_ : World.drewN wr _ = wr; have n0_ : Aside0 (Kd.R (Kd.int .i64) 3 wr w.heap.size (fun _ => True) u832001 x832001_1) := ⟨by rw [← hq_]; exact (Hof.Rw HO_832001.out)⟩; have n1_ : Aside0 (wr.heap[gb830]? = some (.cells #[.int .i64 0, .slice none 0 0] 35 (0, 0))) := ⟨by rw [← hq_]; exact (Hof.Bw BK830.out)⟩; have n2_ : Aside0 (wr.heap[gb831]? = some (.cells #[.int .i64 a2, u832001] 35 (0, 0))) := ⟨by rw [← hq_]; exact (Hof.Bw BK831.out)⟩; have n3_ : Aside0 (Below w.heap.size w wr) := ⟨by rw [← hq_]; exact Hof.L⟩; clear HO_832001 BK830 BK831 HB hq_; have HO_832001 := n0_; have BK830 := n1_; have BK831 := n2_; have HB := n3_; clear n0_ n1_ n2_ n3_; have hcy830_0 : wr.cell? ⟨gb830, 0, none⟩ = some (.int .i64 0) := (blk_cell BK830.out 0).trans rfl; have hfy830_0 := blk_frozen BK830.out 0; have hcy830_1 : wr.cell? ⟨gb830, 1, none⟩ = some (.slice none 0 0) := (blk_cell BK830.out 1).trans rfl; have hfy830_1 := blk_frozen BK830.out 1; have hcy831_0 : wr.cell? ⟨gb831, 0, none⟩ = some (.int .i64 a2) := (blk_cell BK831.out 0).trans rfl; have hfy831_0 := blk_frozen BK831.out 0; have hcy831_1 : wr.cell? ⟨gb831, 1, none⟩ = some (u832001) := (blk_cell BK831.out 1).trans rfl; have hfy831_1 := blk_frozen BK831.out 1)); have hnb26 := NB831_830.out; have hnc26 := NB830_831.out; obtain ⟨hcz27_0, hcz27_1, hfz27_0, hfz27_1⟩ := Hof.blk2 BK831.out; obtain ⟨hcz28_0, hcz28_1, hfz28_0, hfz28_1⟩ := Hof.blk2 BK830.out; obtain ⟨Ao29, co29, eo29⟩ := Kd.R_slice HO_832001.out; subst eo29))
    refine bodyPost_ret (results_cell_row rfl _ _ gb830 35 #[.int .i64 a2, .slice Ao29 x832001_1.length co29] (0, 0) _ rfl Hof.B Try.underlying35 rfl (by kernel_rfl)) rfl ?_
    exact ⟨_, Hof.E, by (with_reducible repeat (first | apply Kd.R_alloc | apply Kd.R_drewN | apply Kd.R_drew)); exact Kd.R_mono (Kd.R_far (p := ⟨gb830, 1, none⟩) (Kd.R_far (p := ⟨gb830, 0, none⟩) (Kd.R_types HO_832001.out BK830.out (by decide)) (fun _ hk => hk.2) (.int .i64 a2)) (fun _ hk => hk.2) (.slice Ao29 x832001_1.length co29)) (fun _ hk => trivial), Hof.L⟩
def spec_FromMatrix.f (k : Nat) (a0_0 : Int) (a0_1 : Int) (a0_2 : Int) (l0_3 : List Int) : Option (Int × List Int) := (spec_IsMatrix.f k a0_0 a0_1 a0_2 l0_3).bind fun t842 => (if t842 = true then ((spec_l4Matrix.f k a0_0 a0_1 a0_2 l0_3).bind fun bt843 => (some (bt843.1, bt843.2))) else (some (0, ([] : List Int))))
set_option maxHeartbeats 8000000 in
set_option maxRecDepth 100000 in
theorem spec_FromMatrix.calls (k : Nat) (a0_0 : Int) (a0_1 : Int) (a0_2 : Int) (A0_3 : Option Addr) (c0_3 : Nat) (l0_3 : List Int) (r1 : Int) (r2 : List Int) (w : World) (hr0_3 : Kd.C (Kd.int .i64) w A0_3 l0_3.length l0_3) (hc0_3 : l0_3.length ≤ c0_3) (h : spec_FromMatrix.f k a0_0 a0_1 a0_2 l0_3 = some (r1, r2)) :
  Calls Try.prog 79 #[.agg #[.int .i64 a0_0, .int .i64 a0_1, .int .i64 a0_2, .slice A0_3 l0_3.length c0_3]] w fun e w' => ∃ v1_ : Value, e = .returned (.agg #[.int .i64 r1, v1_]) ∧ Kd.R (Kd.int .i64) 3 w' w.heap.size (fun _ => True) v1_ r2 ∧ Below w.heap.size w w' := by
 have hu49 := Try.underlying49
 have hu35 := Try.underlying35
 have HR0_3 := Aside0.mk hr0_3
 have HC0_3 := Aside0.mk hc0_3
 clear hr0_3 hc0_3
 have HB := Aside0.mk (Below.refl w.heap.size w)
 unfold spec_FromMatrix.f at h
 have H := h
 clear h
 obtain ⟨t842, A2, H⟩ := Hof.be H
 (try dsimp only at H)
 by_cases c3 : t842 = true
 ·subst c3
  replace H : ((spec_l4Matrix.f k a0_0 a0_1 a0_2 l0_3).bind fun bt843 => (some (bt843.1, bt843.2))) = some (r1, r2) := by rw [if_pos rfl] at H; exact H
  obtain ⟨⟨t843, t844⟩, A4, H⟩ := Hof.be H
  (try dsimp only at H)
  simp only [Option.some.injEq, Prod.mk.injEq] at H
  obtain ⟨rfl, rfl⟩ := H
  go_enter Try.func79, Try.ntmps79
  go_wp2_with (first | (refine Hof.bx 1 #[.int .i64 a0_0, .int .i64 a0_1, .int .i64 a0_2, .slice A0_3 l0_3.length c0_3] 49 ?_; intro gb840 hg w5 hbox hb; have BK840 := Aside0.mk hbox; have GW840 := Hof.gw hg HB; have GE840 := Hof.gw hg HB; replace HB := Hof.lb HB hb; clear hb hbox hg) | (refine Hof.bx 2 #[.int .i64 0, .slice none 0 0] 35 ?_; intro gb841 hg w6 hbox hb; have BK841 := Aside0.mk hbox; have GW841 := Hof.gw hg HB; have GE841 := Hof.gw hg HB; replace HB := Hof.lb HB hb; have NB840_841 := Hof.nl hg BK840; have NB841_840 := Hof.ng hg BK840; replace BK840 := Hof.bb BK840 hb; clear hb hbox hg; have hnb7 := NB840_841.out; have hnc7 := NB841_840.out; obtain ⟨hcz8_0, hcz8_1, hcz8_2, hcz8_3, hfz8_0, hfz8_1, hfz8_2, hfz8_3⟩ := Hof.blk4 BK840.out) | (refine Hof.gl (some 4) Try.func117 #[.agg #[.int .i64 a0_0, .int .i64 a0_1, .int .i64 a0_2, .slice A0_3 l0_3.length c0_3]] ?_; (with_reducible refine (spec_IsMatrix.calls k a0_0 a0_1 a0_2 _ _ l0_3 true _ ?side1 ?side2 A2.out).mono ?_); (case side1 => exact Hof.Cw (Kd.C_below HR0_3.out HB.out)); (case side2 => exact HC0_3.out); rintro e w9 ⟨rfl, hb⟩; refine ⟨_, rfl, ?_⟩; replace BK840 := Hof.bb BK840 hb; replace BK841 := Hof.bb BK841 hb; replace HB := Hof.lb HB hb; (try clear hb); (try clear hb2); (try clear hk); (try clear hi); obtain ⟨hcz10_0, hcz10_1, hcz10_2, hcz10_3, hfz10_0, hfz10_1, hfz10_2, hfz10_3⟩ := Hof.blk4 BK840.out) | (refine Hof.gl (some 15) Try.func118 #[.int .i64 a0_0, .int .i64 a0_1, .int .i64 a0_2, .slice A0_3 l0_3.length c0_3] ?_; (with_reducible refine (spec_l4Matrix.calls k a0_0 a0_1 a0_2 _ _ l0_3 t843 t844 _ ?side1 ?side2 A4.out).mono ?_); (case side1 => exact Hof.Cw (Kd.C_below HR0_3.out HB.out)); (case side2 => exact HC0_3.out); rintro e w11 ⟨v845, rfl, ho0, hb⟩; refine ⟨_, rfl, ?_⟩; have HO846 := Aside0.mk (Kd.R_lower ho0 (below_size (Hof.Lw HB.out))); replace BK840 := Hof.bb BK840 hb; replace BK841 := Hof.bb BK841 hb; replace HB := Hof.lb HB hb; (try clear hb); (try clear hb2); (try clear hk); (try clear hi); (try clear ho0); obtain ⟨hcz12_0, hcz12_1, hfz12_0, hfz12_1⟩ := Hof.blk2 BK841.out; obtain ⟨Ao13, co13, eo13⟩ := Kd.R_slice HO846.out; subst eo13))
  refine bodyPost_ret (results_cell_row rfl _ _ gb841 35 #[.int .i64 t843, .slice Ao13 t844.length co13] (0, 0) _ rfl Hof.B Try.underlying35 rfl (by kernel_rfl)) rfl ?_
  exact ⟨_, Hof.E, by (with_reducible repeat (first | apply Kd.R_alloc | apply Kd.R_drewN | apply Kd.R_drew)); exact Kd.R_mono (Kd.R_far (p := ⟨gb841, 1, none⟩) (Kd.R_far (p := ⟨gb841, 0, none⟩) (Kd.R_types HO846.out BK841.out (by decide)) (fun _ hk => hk.2) (.int .i64 t843)) (fun _ hk => hk.2) (.slice Ao13 t844.length co13)) (fun _ hk => trivial), Hof.L⟩
 ·replace c3 := Bool.eq_false_iff.mpr c3
  subst c3
  replace H : (some (0, ([] : List Int))) = some (r1, r2) := by rw [if_neg (show ¬ (false = true) by decide)] at H; exact H
  simp only [Option.some.injEq, Prod.mk.injEq] at H
  obtain ⟨rfl, rfl⟩ := H
  go_enter Try.func79, Try.ntmps79
  go_wp2_with (first | (refine Hof.bx 1 #[.int .i64 a0_0, .int .i64 a0_1, .int .i64 a0_2, .slice A0_3 l0_3.length c0_3] 49 ?_; intro gb840 hg w14 hbox hb; have BK840 := Aside0.mk hbox; have GW840 := Hof.gw hg HB; have GE840 := Hof.gw hg HB; replace HB := Hof.lb HB hb; clear hb hbox hg) | (refine Hof.bx 2 #[.int .i64 0, .slice none 0 0] 35 ?_; intro gb841 hg w15 hbox hb; have BK841 := Aside0.mk hbox; have GW841 := Hof.gw hg HB; have GE841 := Hof.gw hg HB; replace HB := Hof.lb HB hb; have NB840_841 := Hof.nl hg BK840; have NB841_840 := Hof.ng hg BK840; replace BK840 := Hof.bb BK840 hb; clear hb hbox hg; have hnb16 := NB840_841.out; have hnc16 := NB841_840.out; obtain ⟨hcz17_0, hcz17_1, hcz17_2, hcz17_3, hfz17_0, hfz17_1, hfz17_2, hfz17_3⟩ := Hof.blk4 BK840.out) | (refine Hof.gl (some 4) Try.func117 #[.agg #[.int .i64 a0_0, .int .i64 a0_1, .int .i64 a0_2, .slice A0_3 l0_3.length c0_3]] ?_; (with_reducible refine (spec_IsMatrix.calls k a0_0 a0_1 a0_2 _ _ l0_3 false _ ?side1 ?side2 A2.out).mono ?_); (case side1 => exact Hof.Cw (Kd.C_below HR0_3.out HB.out)); (case side2 => exact HC0_3.out); rintro e w18 ⟨rfl, hb⟩; refine ⟨_, rfl, ?_⟩; replace BK840 := Hof.bb BK840 hb; replace BK841 := Hof.bb BK841 hb; replace HB := Hof.lb HB hb; (try clear hb); (try clear hb2); (try clear hk); (try clear hi); obtain ⟨hcz19_0, hcz19_1, hfz19_0, hfz19_1⟩ := Hof.blk2 BK841.out))
  refine bodyPost_ret (results_cell_row rfl _ _ gb841 35 #[.int .i64 0, .slice none 0 0] (0, 0) _ rfl Hof.B Try.underlying35 rfl (by kernel_rfl)) rfl ?_
  exact ⟨_, Hof.E, Hof.N, Hof.L⟩
mutual
def spec_l26Next.l0 : Nat → Int → Int → Int → Int → Int → List Int → Option (Bool × List Int)
 | 0, _, _, _, _, _, _ => none
 | k + 1, x1, x5, x848000, x848001, x848002, x848003 => if x5 ≥ 0 then (if x848002 = 0 then (none) else ((spec_l2Has.f x1 (Int.tmod x5 x848002)).bind fun t848 => (if t848 = true then (spec_l26Next.j1 k x1 x5 true x848000 x848001 x848002 x848003) else (if 0 ≤ x5 then (if x5 < (x848003.length : Int) then (spec_l26Next.j1 k x1 x5 ((rd x848003 x5) == 0) x848000 x848001 x848002 x848003) else (none)) else (none))))) else (some (false, x848003))
def spec_l26Next.j1 : Nat → Int → Int → Bool → Int → Int → Int → List Int → Option (Bool × List Int)
 | 0, _, _, _, _, _, _, _ => none
 | k + 1, x1, x5, x27, x848000, x848001, x848002, x848003 => if x27 = true then (spec_l26Next.l0 k x1 (wrap64 (x5 - 1)) x848000 x848001 x848002 x848003) else (if 0 ≤ x5 then (if x5 < (x848003.length : Int) then (if (rd x848003 x5) < (wrap64 (x848000 - 1)) then (some (true, (x848003.set (x5 : Int).toNat (wrap64 ((rd x848003 x5) + 1))))) else (spec_l26Next.l0 k x1 (wrap64 (x5 - 1)) x848000 x848001 x848002 (x848003.set (x5 : Int).toNat 1))) else (none)) else (none))
end
def spec_l26Next.f (k : Nat) (a0_0 : Int) (a0_1 : Int) (a0_2 : Int) (l0_3 : List Int) (a1 : Int) : Option (Bool × List Int) := spec_l26Next.l0 k a1 (wrap64 ((l0_3.length : Int) - 1)) a0_0 a0_1 a0_2 l0_3
def spec_l26Next.T5 : Bool × List (List Nat × List Nat) := (true, [([], []), ([0], [0]), ([], []), ([1, 2], [1, 2]), ([3], [3]), ([], []), ([5], [5]), ([6], [6]), ([4, 7], [4, 7])])
def spec_l26Next.B5 : List Nat := [0, 1, 0, 7, 15, 0, 32, 96, 255]
theorem spec_l26Next.tab5 : rtab .any (opsOf Try.f80 5) = spec_l26Next.T5 := by kernel_rfl
theorem spec_l26Next.bits5 : waitsOk spec_l26Next.T5.2 spec_l26Next.B5 = true := by kernel_rfl
def spec_l26Next.T6 : Bool × List (List Nat × List Nat) := (true, [([], []), ([0], [0]), ([], []), ([], []), ([3], [3]), ([], []), ([4, 5], [4, 5]), ([6], [6]), ([7], [7]), ([1, 2, 0, 1, 2, 3, 4, 5, 6, 7, 8], [1, 2]), ([9, 8, 0, 1, 2, 3, 4, 5, 6, 7, 8], [8, 9])])
def spec_l26Next.B6 : List Nat := [0, 1, 0, 0, 8, 0, 56, 120, 248, 511, 1023]
theorem spec_l26Next.tab6 : rtab .any (opsOf Try.f80 6) = spec_l26Next.T6 := by kernel_rfl
theorem spec_l26Next.bits6 : waitsOk spec_l26Next.T6.2 spec_l26Next.B6 = true := by kernel_rfl
set_option maxHeartbeats 8000000 in
set_option maxRecDepth 100000 in
theorem spec_l26Next.calls (k : Nat) (a0_0 : Int) (a0_1 : Int) (a0_2 : Int) (P0_3_ : Nat → Prop) (u9000_ : Value) (l0_3 : List Int) (a1 : Int) (r1 : Bool) (r2 : List Int) (w0 w : World) (hB : Below w0.heap.size w0 w) (ho0_3 : Kd.R (Kd.int .i64) 3 w w0.heap.size P0_3_ u9000_ l0_3) (h : spec_l26Next.f k a0_0 a0_1 a0_2 l0_3 a1 = some (r1, r2)) :
  Calls Try.prog 80 #[.agg #[.int .i64 a0_0, .int .i64 a0_1, .int .i64 a0_2, u9000_], .int .i64 a1] w fun e w' => e = .returned (.bool r1) ∧ Kd.R (Kd.int .i64) 3 w' w0.heap.size (fun k_ => (P0_3_ k_ ∨ w.heap.size ≤ k_)) u9000_ r2 ∧ Below w0.heap.size w0 w' ∧ Kept w w' (fun k_ => P0_3_ k_) := by
 have hu49 := Try.underlying49
 have HO0_3 := Aside0.mk (show Kd.R (Kd.int .i64) 3 w w0.heap.size (fun k_ => (P0_3_ k_ ∨ w.heap.size ≤ k_)) u9000_ l0_3 from Kd.R_mono ho0_3 (fun k_ hk => (.inl hk)))
 have HK := Aside0.mk (Kept.refl w (fun k_ => P0_3_ k_))
 have HW0 := Aside0.mk hB.size
 have HB := Aside0.mk hB
 clear hB
 unfold spec_l26Next.f at h
 have H := h
 clear h
 have H' := Aside0.mk H
 clear H
 obtain ⟨Ao3, co3, eo3⟩ := Kd.R_slice HO0_3.out
 subst eo3
 go_enter Try.func80, Try.ntmps80
 go_wp2_with (first | (refine Hof.bx 2 #[.int .i64 a0_0, .int .i64 a0_1, .int .i64 a0_2, .slice Ao3 l0_3.length co3] 49 ?_; intro gb847 hg w4 hbox hb; replace HO0_3 := Hof.rb HO0_3 hb; have BK847 := Aside0.mk hbox; have GW847 := Aside0.mk ((by rw [hg]; exact (by first | exact HK.out.1 | exact (show Kept w _ (fun k_ => P0_3_ k_) from by repeat (first | (with_reducible first | exact HK.out | apply Kept.alloc | apply Kept.drewN | apply Kept.drew) | exact HK.out)).1) : w.heap.size ≤ gb847)); replace HK := Aside0.mk (Kept.below (S := (fun k_ => P0_3_ k_)) (by repeat (first | (with_reducible first | exact HK.out | apply Kept.alloc | apply Kept.drewN | apply Kept.drew) | exact HK.out)) hb); have GE847 := Hof.gw hg HB; replace HB := Hof.lb HB hb; clear hb hbox hg; obtain ⟨hcz5_0, hcz5_1, hcz5_2, hcz5_3, hfz5_0, hfz5_1, hfz5_2, hfz5_3⟩ := Hof.blk4 BK847.out))
 go_loopg [5] k (fun kq v5 w' => ∃ (x5_1 : Int) (x848003_1 : List Int), v5 = .int .i64 x5_1 ∧ Aside0 (spec_l26Next.l0 kq a1 x5_1 a0_0 a0_1 a0_2 x848003_1 = some (r1, r2)) ∧ Aside0 (kq ≤ k) ∧ Aside0 (Kd.R (Kd.int .i64) 3 w' w0.heap.size (fun k_ => (P0_3_ k_ ∨ w.heap.size ≤ k_)) (.slice Ao3 l0_3.length co3) x848003_1) ∧ Aside0 (w'.heap[gb847]? = some (.cells #[.int .i64 a0_0, .int .i64 a0_1, .int .i64 a0_2, (.slice Ao3 l0_3.length co3)] 49 (0, 0))) ∧ Aside0 (Kept w w' (fun k_ => P0_3_ k_)) ∧ Aside0 (Below w0.heap.size w0 w'))
 case atStart => exact ⟨(wrap64 ((l0_3.length : Int) - 1)), (l0_3), Hof.F, H', ⟨Nat.le_refl _⟩, ⟨Hof.Rw HO0_3.out⟩, ⟨Hof.Bw BK847.out⟩, ⟨by repeat (first | (with_reducible first | exact HK.out | apply Kept.alloc | apply Kept.drewN | apply Kept.drew | refine Kept.setCell ?_ (.inr GW847.out) _) | exact HK.out)⟩, ⟨Hof.Lw HB.out⟩⟩
 case round =>
  clear H'
  obtain ⟨x5_1, x848003_1, rfl, HA, HK1, HO_848003, BK847, HK, HB⟩ := hrel
  have hl848003_1 := (Kd.R_reads' HO_848003.out).1
  rw [hl848003_1] at HO_848003
  (try simp only [hl848003_1])
  (try simp only [hl848003_1] at BK847)
  cases gk with
  | zero => exact absurd HA.out (by simp [spec_l26Next.l0])
  | succ k1 =>
   have H := HA.out
   clear HA
   simp only [spec_l26Next.l0] at H
   by_cases c6 : x5_1 ≥ 0
   ·rw [if_pos c6] at H
    have c6b0 := decide_eq_true c6
    clear c6
    have HC7 := Aside0.mk H
    clear H
    go_upto_region 4 with (fail)
    go_cut [27] (fun v27 wc => ∃ (kq : Nat) (x27_6 : Bool), v27 = .bool x27_6 ∧ Aside0 (spec_l26Next.j1 kq a1 x5_1 x27_6 a0_0 a0_1 a0_2 x848003_1 = some (r1, r2)) ∧ Aside0 (kq ≤ k1) ∧ Aside0 (Kd.R (Kd.int .i64) 3 wc w0.heap.size (fun k_ => (P0_3_ k_ ∨ w.heap.size ≤ k_)) (.slice Ao3 x848003_1.length co3) x848003_1) ∧ Aside0 (wc.heap[gb847]? = some (.cells #[.int .i64 a0_0, .int .i64 a0_1, .int .i64 a0_2, (.slice Ao3 x848003_1.length co3)] 49 (0, 0))) ∧ Aside0 (Kept w wc (fun k_ => P0_3_ k_)) ∧ Aside0 (Below w0.heap.size w0 wc))
    case first =>
     have H := HC7.out
     clear HC7
     by_cases c8 : a0_2 = 0
     ·rw [if_pos c8] at H
      exact absurd H (by simp)
     ·rw [if_neg c8] at H
      have c8b0 : (a0_2 == 0) = false := beq_eq_false_iff_ne.mpr c8
      have c8b1 : (a0_2 != 0) = true := bne_iff_ne.mpr c8
      (first | rw [c8b0] | (simp only [i64_w, i32_w]; rw [c8b0]) | skip)
      obtain ⟨t848, A9, H⟩ := Hof.be H
      (try dsimp only at H)
      by_cases c10 : t848 = true
      ·subst c10
       replace H : (spec_l26Next.j1 k1 a1 x5_1 true a0_0 a0_1 a0_2 x848003_1) = some (r1, r2) := by rw [if_pos rfl] at H; exact H
       have H' := Aside0.mk H
       clear H
       obtain ⟨hcz11_0, hcz11_1, hcz11_2, hcz11_3, hfz11_0, hfz11_1, hfz11_2, hfz11_3⟩ := Hof.blk4 BK847.out
       go_wp2_with (first | (refine Hof.gl (some 19) Try.func58 #[.int .i64 a1, .int .i64 (Int.tmod x5_1 a0_2)] ?_; (with_reducible refine (spec_l2Has.calls a1 (Int.tmod x5_1 a0_2) true _ A9.out).mono ?_); rintro e w' ⟨rfl, ⟨nd, rfl⟩⟩; refine ⟨_, rfl, ?_⟩))
       go_meet
       case rel => exact ⟨_, (true), Hof.F, H', ⟨by have := HK1.out; first | omega | exact Nat.le_refl _⟩, ⟨by (try simp only [hl848003_1]); (with_reducible repeat (first | apply Kd.R_alloc | apply Kd.R_drewN | apply Kd.R_drew)); exact HO_848003.out⟩, ⟨by (try simp only [hl848003_1]); (with_reducible repeat (first | refine blk_drewN ?_ _ | refine blk_drew ?_ | refine blk_alloc ?_ _)); exact BK847.out⟩, ⟨by repeat (first | (with_reducible first | exact HK.out | apply Kept.alloc | apply Kept.drewN | apply Kept.drew | refine Kept.setCell ?_ (.inr GW847.out) _) | exact HK.out)⟩, ⟨Hof.Lw HB.out⟩⟩
      ·replace c10 := Bool.eq_false_iff.mpr c10
       subst c10
       replace H : (if 0 ≤ x5_1 then (if x5_1 < (x848003_1.length : Int) then (spec_l26Next.j1 k1 a1 x5_1 ((rd x848003_1 x5_1) == 0) a0_0 a0_1 a0_2 x848003_1) else (none)) else (none)) = some (r1, r2) := by rw [if_neg (show ¬ (false = true) by decide)] at H; exact H
       by_cases c12 : 0 ≤ x5_1
       ·rw [if_pos c12] at H
        have c12b0 := decide_eq_true c12
        clear c12
        by_cases c13 : x5_1 < (x848003_1.length : Int)
        ·rw [if_pos c13] at H
         have c13b0 := decide_eq_true c13
         clear c13
         have H' := Aside0.mk H
         clear H
         obtain ⟨hcz14_0, hcz14_1, hcz14_2, hcz14_3, hfz14_0, hfz14_1, hfz14_2, hfz14_3⟩ := Hof.blk4 BK847.out
         go_wp2_with (first | (refine Hof.gl (some 19) Try.func58 #[.int .i64 a1, .int .i64 (Int.tmod x5_1 a0_2)] ?_; (with_reducible refine (spec_l2Has.calls a1 (Int.tmod x5_1 a0_2) false _ A9.out).mono ?_); rintro e w' ⟨rfl, ⟨nd, rfl⟩⟩; refine ⟨_, rfl, ?_⟩; have p849 : 0 ≤ (x5_1 : Int) := Hof.D; have q849 : x5_1 < (x848003_1.length : Int) := Hof.D; obtain ⟨ad849, e849, hx849_0⟩ := Kd.at_int (Kd.R_reads' HO_848003.out).2.2 x5_1 p849 q849; cases e849; replace p849 := eq_true p849; replace q849 := eq_true q849))
         go_meet
         case rel => exact ⟨_, (((rd x848003_1 x5_1) == 0)), Hof.F, H', ⟨by have := HK1.out; first | omega | exact Nat.le_refl _⟩, ⟨by (try simp only [hl848003_1]); (with_reducible repeat (first | apply Kd.R_alloc | apply Kd.R_drewN | apply Kd.R_drew)); exact HO_848003.out⟩, ⟨by (try simp only [hl848003_1]); (with_reducible repeat (first | refine blk_drewN ?_ _ | refine blk_drew ?_ | refine blk_alloc ?_ _)); exact BK847.out⟩, ⟨by repeat (first | (with_reducible first | exact HK.out | apply Kept.alloc | apply Kept.drewN | apply Kept.drew | refine Kept.setCell ?_ (.inr GW847.out) _) | exact HK.out)⟩, ⟨Hof.Lw HB.out⟩⟩
        ·rw [if_neg c13] at H
         exact absurd H (by simp)
       ·rw [if_neg c12] at H
        exact absurd H (by simp)
    case rest =>
     clear HC7
     try clear q8
     try clear hx8
     try clear hx849_0
     try clear q849
     obtain ⟨kq, x27_6, rfl, HA, HJ6, HO_848003, BK847, HK, HB⟩ := hcut
     cases kq with
     | zero => exact absurd HA.out (by simp [spec_l26Next.j1])
     | succ kj6 =>
      have H := HA.out
      clear HA
      simp only [spec_l26Next.j1] at H
      by_cases c15 : x27_6 = true
      ·subst c15
       replace H : (spec_l26Next.l0 kj6 a1 (wrap64 (x5_1 - 1)) a0_0 a0_1 a0_2 x848003_1) = some (r1, r2) := by rw [if_pos rfl] at H; exact H
       have H' := Aside0.mk H
       clear H
       go_wp2
       (try simp only [← hl848003_1])
       go_roundg kj6
       case measure => have := HK1.out; have := HJ6.out; omega
       case rel => exact ⟨(wrap64 (x5_1 - 1)), (x848003_1), Hof.F, H', ⟨by have := HK1.out; have := HJ6.out; omega⟩, ⟨by (try simp only [hl848003_1]); (with_reducible repeat (first | apply Kd.R_alloc | apply Kd.R_drewN | apply Kd.R_drew)); exact HO_848003.out⟩, ⟨by (try simp only [hl848003_1]); (with_reducible repeat (first | refine blk_drewN ?_ _ | refine blk_drew ?_ | refine blk_alloc ?_ _)); exact BK847.out⟩, ⟨by repeat (first | (with_reducible first | exact HK.out | apply Kept.alloc | apply Kept.drewN | apply Kept.drew | refine Kept.setCell ?_ (.inr GW847.out) _) | exact HK.out)⟩, ⟨Hof.Lw HB.out⟩⟩
      ·replace c15 := Bool.eq_false_iff.mpr c15
       subst c15
       replace H : (if 0 ≤ x5_1 then (if x5_1 < (x848003_1.length : Int) then (if (rd x848003_1 x5_1) < (wrap64 (a0_0 - 1)) then (some (true, (x848003_1.set (x5_1 : Int).toNat (wrap64 ((rd x848003_1 x5_1) + 1))))) else (spec_l26Next.l0 kj6 a1 (wrap64 (x5_1 - 1)) a0_0 a0_1 a0_2 (x848003_1.set (x5_1 : Int).toNat 1))) else (none)) else (none)) = some (r1, r2) := by rw [if_neg (show ¬ (false = true) by decide)] at H; exact H
       by_cases c16 : 0 ≤ x5_1
       ·rw [if_pos c16] at H
        have c16b0 := decide_eq_true c16
        clear c16
        by_cases c17 : x5_1 < (x848003_1.length : Int)
        ·rw [if_pos c17] at H
         have c17b0 := decide_eq_true c17
         clear c17
         by_cases c18 : (rd x848003_1 x5_1) < (wrap64 (a0_0 - 1))
         ·rw [if_pos c18] at H
          have c18b0 := decide_eq_true c18
          clear c18
          obtain ⟨y852, hy852⟩ : ∃ y_ : List Int, y_ = (x848003_1.set (x5_1 : Int).toNat (wrap64 ((rd x848003_1 x5_1) + 1))) := ⟨_, rfl⟩
          replace H : (some (true, y852)) = some (r1, r2) := by (try rw [hy852]); exact Hof.Z
          have Ny852 := Aside0.mk hy852
          clear hy852
          simp only [Option.some.injEq, Prod.mk.injEq] at H
          obtain ⟨rfl, rfl⟩ := H
          try go_wp2
          have n0_ := Aside0.mk (Kd.R_drew HO_848003.out)
          have n1_ := Aside0.mk (blk_drew BK847.out)
          have n2_ := Aside0.mk (Kept.drew HK.out)
          have n3_ := Aside0.mk (below_drew1 HB.out)
          clear HO_848003
          clear BK847
          clear HK
          clear HB
          have HO_848003 := n0_
          have BK847 := n1_
          have HK := n2_
          have HB := n3_
          clear n0_ n1_ n2_ n3_
          have p850 : 0 ≤ (x5_1 : Int) := Hof.D
          have q850 : x5_1 < (x848003_1.length : Int) := Hof.D
          obtain ⟨ad850, e850, hx850_0⟩ := Kd.at_int (Kd.R_reads' HO_848003.out).2.2 x5_1 p850 q850
          cases e850
          replace p850 := eq_true p850
          replace q850 := eq_true q850
          refine start_ (n := 9) (S := fun w' => w'.cell? ⟨gb847, 0, none⟩ = some (.int .i64 a0_0) ∧ w'.cell? ⟨gb847, 1, none⟩ = some (.int .i64 a0_1) ∧ w'.cell? ⟨gb847, 2, none⟩ = some (.int .i64 a0_2) ∧ w'.cell? ⟨gb847, 3, none⟩ = some (.slice (some ad850) x848003_1.length co3) ∧ w'.cell? (ad850.add (x5_1).toNat) = some (.int .i64 (rd x848003_1 x5_1))) (ds := []) #[false, false, false, false, false, false, false, false, false] (by kernel_rfl) rfl rfl ⟨(blk_cell BK847.out 0).trans rfl, (blk_cell BK847.out 1).trans rfl, (blk_cell BK847.out 2).trans rfl, (blk_cell BK847.out 3).trans rfl, hx850_0⟩ (fun hHeld => ?_); refine with_tabW spec_l26Next.tab5 spec_l26Next.bits5 (fun HT_ HW_ => ?_)
          generalize wc.drew = w20 at HO_848003 BK847 HK HB hx850_0 hHeld ⊢
          refine Hof.pu 0 28 HT_ ?_
          refine Hof.pu 2 30 HT_ ?_
          refine Hof.pu 5 33 HT_ ?_
          refine Hof.tk 1 29 HT_ HW_ hHeld ?_
          refine Hof.pu 3 31 HT_ ?_
          refine Hof.tk 4 32 HT_ HW_ hHeld ?_
          refine Hof.tk 6 34 HT_ HW_ hHeld ?_
          refine Hof.pu 7 35 HT_ ?_
          refine Hof.pu 8 36 HT_ ?_
          refine done_ (done_of HT_.out (by kernel_rfl)) ?_
          try go_wp2
          have n0_ := Aside0.mk (Kd.R_drew HO_848003.out)
          have n1_ := Aside0.mk (blk_drew BK847.out)
          have n2_ := Aside0.mk (Kept.drew HK.out)
          have n3_ := Aside0.mk (below_drew1 HB.out)
          clear HO_848003
          clear BK847
          clear HK
          clear HB
          have HO_848003 := n0_
          have BK847 := n1_
          have HK := n2_
          have HB := n3_
          clear n0_ n1_ n2_ n3_
          have p851 : 0 ≤ (x5_1 : Int) := Hof.D
          have q851 : x5_1 < (x848003_1.length : Int) := Hof.D
          obtain ⟨ad851, e851, hx851_0⟩ := Kd.at_int (Kd.R_reads' HO_848003.out).2.2 x5_1 p851 q851
          obtain rfl : ad850 = ad851 := (by injection e851)
          replace p851 := eq_true p851
          replace q851 := eq_true q851
          have p19 : 0 ≤ (x5_1 : Int) := Hof.D
          have q19 : (x5_1 : Int) < ((x848003_1.length : Int) : Int) := Hof.D
          obtain ⟨go19, co19, eo19, gb19, gl19, cl19, HG19⟩ := Kd.R_form HO_848003.out (by omega)
          (first | cases eo19 | (injection eo19 with ea_ en_ ec_; (first | subst ea_ | (injection ea_ with ea_; subst ea_)); subst ec_; clear en_))
          have GB19 := Aside0.mk gb19
          have GG19 := Aside0.mk HG19
          clear gb19 gl19 HG19
          have HMgo19 := Aside0.mk (show (P0_3_ go19 ∨ w.heap.size ≤ go19) from (HO_848003.out.1 _ rfl))
          (first | simp only [add_plain] at hx850_0 | skip)
          (first | simp only [add_plain] at hx851_0 | skip)
          obtain ⟨hx19_0, hf19_0⟩ := Kd.R_celln 0 HO_848003.out (x5_1 : Int) p19 q19
          replace p19 := eq_true p19
          replace q19 := eq_true q19
          have HP22 := Kd.R_putn HO_848003.out (x5_1 : Int) (wrap64 ((rd x848003_1 x5_1) + 1))
          rw [← Ny852.out] at HP22
          have HQ22 := Aside0.mk HP22
          clear HP22
          refine start_ (n := 11) (S := fun w' => w'.cell? ⟨gb847, 0, none⟩ = some (.int .i64 a0_0) ∧ w'.cell? ⟨gb847, 1, none⟩ = some (.int .i64 a0_1) ∧ w'.cell? ⟨gb847, 2, none⟩ = some (.int .i64 a0_2) ∧ w'.cell? ⟨gb847, 3, none⟩ = some (.slice (some ⟨go19, 0, none⟩) x848003_1.length co3) ∧ w'.cell? ⟨go19, (x5_1).toNat, none⟩ = some (.int .i64 (rd x848003_1 x5_1))) (ds := [10]) #[false, false, false, false, false, false, false, false, false, false, false] (by kernel_rfl) rfl rfl ⟨(blk_cell BK847.out 0).trans rfl, (blk_cell BK847.out 1).trans rfl, (blk_cell BK847.out 2).trans rfl, (blk_cell BK847.out 3).trans rfl, hx851_0⟩ (fun hHeld => ?_); refine with_tabW spec_l26Next.tab6 spec_l26Next.bits6 (fun HT_ HW_ => ?_)
          generalize w20.drew = w21 at HO_848003 BK847 HK HB GG19 HQ22 hf19_0 hx19_0 hx850_0 hx851_0 hHeld ⊢
          refine Hof.pu 0 37 HT_ ?_
          refine Hof.pu 2 39 HT_ ?_
          refine Hof.pu 3 40 HT_ ?_
          refine Hof.pu 5 42 HT_ ?_
          refine Hof.tk 1 38 HT_ HW_ hHeld ?_
          refine Hof.tk 4 41 HT_ HW_ hHeld ?_
          refine Hof.pu 6 43 HT_ ?_
          refine Hof.tk 7 44 HT_ HW_ hHeld ?_
          refine Hof.pu 8 45 HT_ ?_
          refine Hof.pu 9 46 HT_ ?_
          refine last_ (i := 10) (N := none) #[true, true, true, true, true, true, true, true, true, true, true] rfl rfl (one_of HT_.out (by kernel_rfl)) (by decide) (fun K hK => ?_)
          refine skip_ (w1 := ?_) (by rfl) rfl ?_ ?_
          rotate_left
          ·go_simp
           rfl
          refine hK.out _ _ ?_
          clear hK K
          refine done_ (done_of HT_.out (by kernel_rfl)) ?_
          try go_wp2
          go_ret
          exact ⟨Hof.E, (by first | exact (Hof.Rw HQ22.out) | (simp only [hl848003_1]; exact (Hof.Rw HQ22.out))), by repeat (first | (with_reducible first | exact HB.out | apply below_alloc | apply pw_below_drewN | apply below_drew1 | refine below_set ?_ GB19.out | refine below_set ?_ GE847.out) | exact HB.out), by repeat (first | (with_reducible first | exact HK.out | apply Kept.alloc | apply Kept.drewN | apply Kept.drew | refine Kept.setCell ?_ HMgo19.out _ | refine Kept.setCell ?_ (.inr GW847.out) _) | exact HK.out)⟩
         ·rw [if_neg c18] at H
          have c18b0 : decide ((rd x848003_1 x5_1) < (wrap64 (a0_0 - 1))) = false := decide_eq_false c18
          clear c18
          obtain ⟨y853, hy853⟩ : ∃ y_ : List Int, y_ = (x848003_1.set (x5_1 : Int).toNat 1) := ⟨_, rfl⟩
          replace H : (spec_l26Next.l0 kj6 a1 (wrap64 (x5_1 - 1)) a0_0 a0_1 a0_2 y853) = some (r1, r2) := by (try rw [hy853]); exact Hof.Z
          have Ny853 := Aside0.mk hy853
          clear hy853
          have H' := Aside0.mk H
          clear H
          try go_wp2
          have n0_ := Aside0.mk (Kd.R_drew HO_848003.out)
          have n1_ := Aside0.mk (blk_drew BK847.out)
          have n2_ := Aside0.mk (Kept.drew HK.out)
          have n3_ := Aside0.mk (below_drew1 HB.out)
          clear HO_848003
          clear BK847
          clear HK
          clear HB
          have HO_848003 := n0_
          have BK847 := n1_
          have HK := n2_
          have HB := n3_
          clear n0_ n1_ n2_ n3_
          have p850 : 0 ≤ (x5_1 : Int) := Hof.D
          have q850 : x5_1 < (x848003_1.length : Int) := Hof.D
          obtain ⟨ad850, e850, hx850_0⟩ := Kd.at_int (Kd.R_reads' HO_848003.out).2.2 x5_1 p850 q850
          cases e850
          replace p850 := eq_true p850
          replace q850 := eq_true q850
          refine start_ (n := 9) (S := fun w' => w'.cell? ⟨gb847, 0, none⟩ = some (.int .i64 a0_0) ∧ w'.cell? ⟨gb847, 1, none⟩ = some (.int .i64 a0_1) ∧ w'.cell? ⟨gb847, 2, none⟩ = some (.int .i64 a0_2) ∧ w'.cell? ⟨gb847, 3, none⟩ = some (.slice (some ad850) x848003_1.length co3) ∧ w'.cell? (ad850.add (x5_1).toNat) = some (.int .i64 (rd x848003_1 x5_1))) (ds := []) #[false, false, false, false, false, false, false, false, false] (by kernel_rfl) rfl rfl ⟨(blk_cell BK847.out 0).trans rfl, (blk_cell BK847.out 1).trans rfl, (blk_cell BK847.out 2).trans rfl, (blk_cell BK847.out 3).trans rfl, hx850_0⟩ (fun hHeld => ?_); refine with_tabW spec_l26Next.tab5 spec_l26Next.bits5 (fun HT_ HW_ => ?_)
          generalize wc.drew = w24 at HO_848003 BK847 HK HB hx850_0 hHeld ⊢
          refine Hof.pu 0 28 HT_ ?_
          refine Hof.pu 2 30 HT_ ?_
          refine Hof.pu 5 33 HT_ ?_
          refine Hof.tk 1 29 HT_ HW_ hHeld ?_
          refine Hof.pu 3 31 HT_ ?_
          refine Hof.tk 4 32 HT_ HW_ hHeld ?_
          refine Hof.tk 6 34 HT_ HW_ hHeld ?_
          refine Hof.pu 7 35 HT_ ?_
          refine Hof.pu 8 36 HT_ ?_
          refine done_ (done_of HT_.out (by kernel_rfl)) ?_
          obtain ⟨hcz25_0, hcz25_1, hcz25_2, hcz25_3, hfz25_0, hfz25_1, hfz25_2, hfz25_3⟩ := Hof.blk4 BK847.out
          have p23 : 0 ≤ (x5_1 : Int) := Hof.D
          have q23 : (x5_1 : Int) < ((x848003_1.length : Int) : Int) := Hof.D
          obtain ⟨go23, co23, eo23, gb23, gl23, cl23, HG23⟩ := Kd.R_form HO_848003.out (by omega)
          (first | cases eo23 | (injection eo23 with ea_ en_ ec_; (first | subst ea_ | (injection ea_ with ea_; subst ea_)); subst ec_; clear en_))
          have GB23 := Aside0.mk gb23
          have GG23 := Aside0.mk HG23
          clear gb23 gl23 HG23
          have HMgo23 := Aside0.mk (show (P0_3_ go23 ∨ w.heap.size ≤ go23) from (HO_848003.out.1 _ rfl))
          (first | simp only [add_plain] at hx850_0 | skip)
          obtain ⟨hx23_0, hf23_0⟩ := Kd.R_celln 0 HO_848003.out (x5_1 : Int) p23 q23
          replace p23 := eq_true p23
          replace q23 := eq_true q23
          obtain ⟨hy26_, hz26_⟩ := Kd.R_celln 0 HO_848003.out (x5_1 : Int) (Hof.D) (Hof.D)
          have HP26 := Kd.R_putg HO_848003.out (x5_1 : Int) 1
          try go_wp2_with (first | ((with_reducible refine gate_store (t := 3) (p := 50) rfl ?_); refine store_event (t := 3) (p := 50) (v := ?vo_w27) (w1 := (w24.setCell ⟨go23, (x5_1 : Int).toNat, none⟩ (.int .i64 1))) ?hg ?ho ?hn ?hr ?_; (case ho => rfl); (case hg => rfl); (case hn => rfl); (case hr => first | (go_simp; done) | (go_simp; rfl)); intro w27 hw; have hg : w24.grownBy w27 (some go23) := (by rw [hw]; exact HP26.2); have hp_ : Kd.R (Kd.int .i64) 3 w27 w0.heap.size (fun k_ => (P0_3_ k_ ∨ w.heap.size ≤ k_)) (.slice (some ⟨go23, 0, none⟩) x848003_1.length co3) y853 := (by rw [hw, Ny853.out]; exact HP26.1); clear HP26; replace BK847 := Aside0.mk (blk_grown (g := gb847) (o := .cells #[.int .i64 a0_0, .int .i64 a0_1, .int .i64 a0_2, .slice (some ⟨go23, 0, none⟩) x848003_1.length co3] 49 (0, 0)) (Hof.Bw BK847.out) hg (Kd.R_ne HO_848003.out BK847.out (by decide))); replace HB := Aside0.mk ((by rw [hw]; exact below_set (HB.out) GB23.out : Below w0.heap.size w0 w27)); replace HK := Aside0.mk (Kept.of_grown (S := (fun k_ => P0_3_ k_)) hg (by repeat (first | (with_reducible first | exact HK.out | apply Kept.alloc | apply Kept.drewN | apply Kept.drew | refine Kept.setCell ?_ (.inr GW847.out) _) | exact HK.out)) (fun k_ e_ => (HO_848003.out.1 k_ e_))); replace HO_848003 := Aside0.mk hp_; clear hg hw hp_))
          (try simp only [← hl848003_1])
          go_roundg kj6
          case measure => have := HK1.out; have := HJ6.out; omega
          case rel => exact ⟨(wrap64 (x5_1 - 1)), (y853), Hof.F, H', ⟨by have := HK1.out; have := HJ6.out; omega⟩, ⟨by (try simp only [hl848003_1]); (with_reducible repeat (first | apply Kd.R_alloc | apply Kd.R_drewN | apply Kd.R_drew)); exact HO_848003.out⟩, ⟨by (try simp only [hl848003_1]); (with_reducible repeat (first | refine blk_drewN ?_ _ | refine blk_drew ?_ | refine blk_alloc ?_ _)); exact BK847.out⟩, ⟨by repeat (first | (with_reducible first | exact HK.out | apply Kept.alloc | apply Kept.drewN | apply Kept.drew | refine Kept.setCell ?_ (.inr GW847.out) _) | exact HK.out)⟩, ⟨Hof.Lw HB.out⟩⟩
        ·rw [if_neg c17] at H
         exact absurd H (by simp)
       ·rw [if_neg c16] at H
        exact absurd H (by simp)
   ·rw [if_neg c6] at H
    have c6b0 : decide (0 ≤ x5_1) = false := decide_eq_false c6
    clear c6
    simp only [Option.some.injEq, Prod.mk.injEq] at H
    obtain ⟨rfl, rfl⟩ := H
    go_wp2
    go_ret
    exact ⟨Hof.E, (by first | exact (Hof.Rw HO_848003.out) | (simp only [hl848003_1]; exact (Hof.Rw HO_848003.out))), Hof.L, by repeat (first | (with_reducible first | exact HK.out | apply Kept.alloc | apply Kept.drewN | apply Kept.drew | refine Kept.setCell ?_ (.inr GW847.out) _) | exact HK.out)⟩
end Go.Proofs.Ytmpodackojmojaa.Pr
end
