/- The claim FnExactActivityTable: every text that its row comes to, laid together by slim.py (the words of the kit's print, the printed walks, the pure law, the row). -/
import Derived.Lib.OwnBridge
import Derived.Lib.RowBridge
import Derived.Shelf.Slices.CompactI
import Derived.Shelf.Slices.In.SortNone
import Derived.Shelf.Sort.Plain
import Derived.Sort.Grow
import Derived.Sort.OwnSortedInts
import Derived.Test.YtbjnkcfkhonkhaaProg
import Derived.Test.YtbjnkcfkhonkhaaYFnExactActivityTable2
section
namespace Go.Proofs.Ytbjnkcfkhonkhaa.Pr
open Go.RowKit Go.Proofs.YtbjnkcfkhonkhaaW.PrintWords Go.Proofs.YtbjnkcfkhonkhaaW.PrintLast Go.Proofs.YtbjnkcfkhonkhaaW.PrintMore
attribute [local go_sem] max2_int min2_int max_two min_two max_three min_three max_four min_four
set_option linter.unusedVariables false
set_option linter.unusedSimpArgs false
def impl_circuit.l0 : Nat → Int → Int → Int → List Int → Int → Int → Int → List Int → Option (Int)
 | 0, _, _, _, _, _, _, _, _ => none
 | k + 1, x1, x2, x7, x13, x14, x15, x1296000, x1296001 => if x15 < x14 then (if 0 ≤ x15 then (if x15 < (x13.length : Int) then (if 0 ≤ (rd x13 x15) then (if 0 ≤ x2 then ((impl_HasSet.f k x1296001 (Go.bits .or .i64 (Go.bits .andNot .i64 x1 (shl .i64 1 (rd x13 x15))) (shl .i64 1 x2))).bind fun t1300 => (if t1300 = true then (impl_circuit.l0 k x1 x2 (Go.bits .or .i64 x7 (shl .i64 1 (rd x13 x15))) x13 x14 (wrap64 (x15 + 1)) x1296000 x1296001) else (impl_circuit.l0 k x1 x2 x7 x13 x14 (wrap64 (x15 + 1)) x1296000 x1296001))) else (none)) else (none)) else (none)) else (none)) else (some x7)
def impl_circuit.f (k : Nat) (a0_0 : Int) (l0_1 : List Int) (a1 : Int) (a2 : Int) : Option (Int) := if 0 ≤ a2 then ((impl_ElementsOf.f k a1).bind fun t1296 => (impl_circuit.l0 k a1 a2 (shl .i64 1 a2) t1296 (t1296.length : Int) 0 a0_0 l0_1)) else (none)
set_option maxHeartbeats 8000000 in
set_option maxRecDepth 100000 in
theorem impl_circuit.calls (k : Nat) (a0_0 : Int) (A0_1 : Option Addr) (c0_1 : Nat) (l0_1 : List Int) (a1 : Int) (a2 : Int) (r : Int) (w : World) (hr0_1 : Kd.C (Kd.int .i64) w A0_1 l0_1.length l0_1) (hc0_1 : l0_1.length ≤ c0_1) (h : impl_circuit.f k a0_0 l0_1 a1 a2 = some r) :
  Calls Try.prog 146 #[.agg #[.int .i64 a0_0, .slice A0_1 l0_1.length c0_1], .int .i64 a1, .int .i64 a2] w fun e w' => e = .returned (.int .i64 r) ∧ Below w.heap.size w w' := by
 have hu45 := Try.underlying45
 have HR0_1 := Aside0.mk hr0_1
 have HC0_1 := Aside0.mk hc0_1
 clear hr0_1 hc0_1
 have HB := Aside0.mk (Below.refl w.heap.size w)
 have H : (if 0 ≤ a2 then ((impl_ElementsOf.f k a1).bind fun t1296 => (impl_circuit.l0 k a1 a2 (shl .i64 1 a2) t1296 (t1296.length : Int) 0 a0_0 l0_1)) else (none)) = some r := h
 clear h
 by_cases c4 : 0 ≤ a2
 ·rw [if_pos c4] at H
  have c4b0 := eq_true c4
  have c4b1 : decide (0 ≤ a2) = true := decide_eq_true c4
  clear c4
  obtain ⟨ji5, hji5⟩ : ∃ j_ : Int, (shl .i64 1 a2) = j_ := ⟨_, rfl⟩
  replace H : ((impl_ElementsOf.f k a1).bind fun t1296 => (impl_circuit.l0 k a1 a2 ji5 t1296 (t1296.length : Int) 0 a0_0 l0_1)) = some r := by first | (rw [hji5] at H; exact H) | (simp only [hji5] at H ⊢; exact H)
  have hji5_ : (IntKind.i64.wrap (1 * 2 ^ min a2.toNat 64)) = ji5 := hji5
  have hji5z : a2 ≤ 64 → (IntKind.i64.wrap (1 * 2 ^ a2.toNat)) = ji5 := shl_small hji5
  have hji5u : (IntKind.i64.wrap (2 ^ min a2.toNat 64)) = ji5 := by have h_ := hji5_; rw [Int.one_mul] at h_; exact h_
  have hji5v : a2 ≤ 64 → (IntKind.i64.wrap (2 ^ a2.toNat)) = ji5 := fun hle_ => by have h_ := hji5z hle_; rw [Int.one_mul] at h_; exact h_
  have hji5y : (wrap64 (1 * 2 ^ min a2.toNat 64)) = ji5 := (i64_w _).symm.trans hji5_
  have hji5x : a2 ≤ 64 → (wrap64 (1 * 2 ^ a2.toNat)) = ji5 := fun h_ => (i64_w _).symm.trans (hji5z h_)
  replace H := Option.bind_eq_some_iff.mp H
  obtain ⟨t1296, A60, H⟩ := H
  (try dsimp only at H)
  have A6 := Aside0.mk A60
  clear A60
  have H' := Aside0.mk H
  clear H
  go_enter Try.func146, Try.ntmps146
  go_wp2_with (first | ((with_reducible refine gate_dst (N := 3) rfl ?_); refine box_event ?hg (N := 3) ?hd (cs := #[.int .i64 a0_0, .slice A0_1 l0_1.length c0_1]) (t := 45) ?hr ?_; (case hd => rfl); (case hg => rfl); (case hr => first | (go_simp; done) | (go_simp; rfl)); intro gb1295 hg w7 hbox hb; have BK1295 := Aside0.mk hbox; have GW1295 := Aside0.mk ((by rw [hg]; exact (below_size (Hof.Lw HB.out)) : w.heap.size ≤ gb1295)); have GE1295 := Aside0.mk ((by rw [hg]; exact (below_size (Hof.Lw HB.out)) : w.heap.size ≤ gb1295)); replace HB := Aside0.mk (below_step (Hof.Lw HB.out) hb); clear hb hbox hg) | (go_at_call 68; (with_reducible refine (impl_ElementsOf.calls k a1 t1296 _ A6.out).mono ?_); rintro e w8 ⟨v1297, rfl, ho0, hb⟩; have HO1298 := Aside0.mk (Kd.R_lower ho0 (below_size (Hof.Lw HB.out))); replace BK1295 := Aside0.mk (blk_below (Hof.Bw BK1295.out) hb); replace HB := Aside0.mk (below_step (Hof.Lw HB.out) hb); (try clear hb); (try clear hb2); (try clear hk); (try clear hi); (try clear ho0); obtain ⟨Ao9, co9, eo9⟩ := Kd.R_slice HO1298.out; subst eo9))
  repeat (go_quiet (first | ((with_reducible refine gate_dst (N := 3) rfl ?_); refine box_event ?hg (N := 3) ?hd (cs := #[.int .i64 a0_0, .slice A0_1 l0_1.length c0_1]) (t := 45) ?hr ?_; (case hd => rfl); (case hg => rfl); (case hr => first | (go_simp; done) | (go_simp; rfl)); intro gb1295 hg w7 hbox hb; have BK1295 := Aside0.mk hbox; have GW1295 := Aside0.mk ((by rw [hg]; exact (below_size (Hof.Lw HB.out)) : w.heap.size ≤ gb1295)); have GE1295 := Aside0.mk ((by rw [hg]; exact (below_size (Hof.Lw HB.out)) : w.heap.size ≤ gb1295)); replace HB := Aside0.mk (below_step (Hof.Lw HB.out) hb); clear hb hbox hg) | (go_at_call 68; (with_reducible refine (impl_ElementsOf.calls k a1 t1296 _ A6.out).mono ?_); rintro e w8 ⟨v1297, rfl, ho0, hb⟩; have HO1298 := Aside0.mk (Kd.R_lower ho0 (below_size (Hof.Lw HB.out))); replace BK1295 := Aside0.mk (blk_below (Hof.Bw BK1295.out) hb); replace HB := Aside0.mk (below_step (Hof.Lw HB.out) hb); (try clear hb); (try clear hb2); (try clear hk); (try clear hi); (try clear ho0); obtain ⟨Ao9, co9, eo9⟩ := Kd.R_slice HO1298.out; subst eo9)); try go_wp2_with (first | ((with_reducible refine gate_dst (N := 3) rfl ?_); refine box_event ?hg (N := 3) ?hd (cs := #[.int .i64 a0_0, .slice A0_1 l0_1.length c0_1]) (t := 45) ?hr ?_; (case hd => rfl); (case hg => rfl); (case hr => first | (go_simp; done) | (go_simp; rfl)); intro gb1295 hg w7 hbox hb; have BK1295 := Aside0.mk hbox; have GW1295 := Aside0.mk ((by rw [hg]; exact (below_size (Hof.Lw HB.out)) : w.heap.size ≤ gb1295)); have GE1295 := Aside0.mk ((by rw [hg]; exact (below_size (Hof.Lw HB.out)) : w.heap.size ≤ gb1295)); replace HB := Aside0.mk (below_step (Hof.Lw HB.out) hb); clear hb hbox hg) | (go_at_call 68; (with_reducible refine (impl_ElementsOf.calls k a1 t1296 _ A6.out).mono ?_); rintro e w8 ⟨v1297, rfl, ho0, hb⟩; have HO1298 := Aside0.mk (Kd.R_lower ho0 (below_size (Hof.Lw HB.out))); replace BK1295 := Aside0.mk (blk_below (Hof.Bw BK1295.out) hb); replace HB := Aside0.mk (below_step (Hof.Lw HB.out) hb); (try clear hb); (try clear hb2); (try clear hk); (try clear hi); (try clear ho0); obtain ⟨Ao9, co9, eo9⟩ := Kd.R_slice HO1298.out; subst eo9)))
  go_loopg [7, 15] k (fun kq v7 v15 w' => ∃ (x7_1 : Int) (x15_1 : Int), v7 = .int .i64 x7_1 ∧ v15 = .int .i64 x15_1 ∧ Aside0 (impl_circuit.l0 kq a1 a2 x7_1 t1296 (t1296.length : Int) x15_1 a0_0 l0_1 = some r) ∧ Aside0 (kq ≤ k) ∧ Aside0 (Kd.R (Kd.int .i64) 3 w' w.heap.size (fun _ => True) (.slice Ao9 t1296.length co9) t1296) ∧ Aside0 (w'.heap[gb1295]? = some (.cells #[.int .i64 a0_0, (.slice A0_1 l0_1.length c0_1)] 45 (0, 0))) ∧ Aside0 (Below w.heap.size w w'))
  case atStart => exact ⟨(ji5), (0), (by first | rfl | (simp; done) | (simp only [← hji5] <;> (first | rfl | simp)) | (simp [*]; done)), (by first | rfl | (simp; done) | (simp [*]; done)), H', ⟨Nat.le_refl _⟩, ⟨Hof.Rw HO1298.out⟩, ⟨Hof.Bw BK1295.out⟩, ⟨Hof.Lw HB.out⟩⟩
  case round =>
   clear H'
   try clear c1
   try clear p2
   try clear c4
   try clear c4b0
   try clear c4b1
   try clear p6
   obtain ⟨x7_1, x15_1, rfl, rfl, HA, HK1, HO_13, BK1295, HB⟩ := hrel
   cases gk with
   | zero => exact absurd HA.out (by simp [impl_circuit.l0])
   | succ k1 =>
    have H := HA.out
    clear HA
    simp only [impl_circuit.l0] at H
    by_cases c10 : x15_1 < (t1296.length : Int)
    ·rw [if_pos c10] at H
     have c10b0 : decide (x15_1 < (t1296.length : Int)) = true := decide_eq_true c10
     clear c10
     by_cases c11 : 0 ≤ x15_1
     ·rw [if_pos c11] at H
      have c11b0 : decide (0 ≤ x15_1) = true := decide_eq_true c11
      clear c11
      by_cases c12 : x15_1 < (t1296.length : Int)
      ·rw [if_pos c12] at H
       have c12b0 : decide (x15_1 < (t1296.length : Int)) = true := decide_eq_true c12
       clear c12
       by_cases c13 : 0 ≤ (rd t1296 x15_1)
       ·rw [if_pos c13] at H
        have c13b0 := eq_true c13
        have c13b1 : decide (0 ≤ (rd t1296 x15_1)) = true := decide_eq_true c13
        clear c13
        obtain ⟨ji14, hji14⟩ : ∃ j_ : Int, (shl .i64 1 (rd t1296 x15_1)) = j_ := ⟨_, rfl⟩
        replace H : (if 0 ≤ a2 then ((impl_HasSet.f k1 l0_1 (Go.bits .or .i64 (Go.bits .andNot .i64 a1 (ji14)) (shl .i64 1 a2))).bind fun t1300 => (if t1300 = true then (impl_circuit.l0 k1 a1 a2 (Go.bits .or .i64 x7_1 (ji14)) t1296 (t1296.length : Int) (wrap64 (x15_1 + 1)) a0_0 l0_1) else (impl_circuit.l0 k1 a1 a2 x7_1 t1296 (t1296.length : Int) (wrap64 (x15_1 + 1)) a0_0 l0_1))) else (none)) = some r := by first | (rw [hji14] at H; exact H) | (simp only [hji14] at H ⊢; exact H)
        have hji14_ : (IntKind.i64.wrap (1 * 2 ^ min (rd t1296 x15_1).toNat 64)) = ji14 := hji14
        have hji14z : (rd t1296 x15_1) ≤ 64 → (IntKind.i64.wrap (1 * 2 ^ (rd t1296 x15_1).toNat)) = ji14 := shl_small hji14
        have hji14u : (IntKind.i64.wrap (2 ^ min (rd t1296 x15_1).toNat 64)) = ji14 := by have h_ := hji14_; rw [Int.one_mul] at h_; exact h_
        have hji14v : (rd t1296 x15_1) ≤ 64 → (IntKind.i64.wrap (2 ^ (rd t1296 x15_1).toNat)) = ji14 := fun hle_ => by have h_ := hji14z hle_; rw [Int.one_mul] at h_; exact h_
        have hji14y : (wrap64 (1 * 2 ^ min (rd t1296 x15_1).toNat 64)) = ji14 := (i64_w _).symm.trans hji14_
        have hji14x : (rd t1296 x15_1) ≤ 64 → (wrap64 (1 * 2 ^ (rd t1296 x15_1).toNat)) = ji14 := fun h_ => (i64_w _).symm.trans (hji14z h_)
        by_cases c15 : 0 ≤ a2
        ·rw [if_pos c15] at H
         have c15b0 := eq_true c15
         have c15b1 : decide (0 ≤ a2) = true := decide_eq_true c15
         clear c15
         replace H : ((impl_HasSet.f k1 l0_1 (Go.bits .or .i64 (Go.bits .andNot .i64 a1 (ji14)) (ji5))).bind fun t1300 => (if t1300 = true then (impl_circuit.l0 k1 a1 a2 (Go.bits .or .i64 x7_1 (ji14)) t1296 (t1296.length : Int) (wrap64 (x15_1 + 1)) a0_0 l0_1) else (impl_circuit.l0 k1 a1 a2 x7_1 t1296 (t1296.length : Int) (wrap64 (x15_1 + 1)) a0_0 l0_1))) = some r := by first | (rw [hji5] at H; exact H) | (simp only [hji5] at H ⊢; exact H)
         replace H := Option.bind_eq_some_iff.mp H
         obtain ⟨t1300, A170, H⟩ := H
         (try dsimp only at H)
         have A17 := Aside0.mk A170
         clear A170
         by_cases c18 : t1300 = true
         ·subst c18
          have H1 : (impl_circuit.l0 k1 a1 a2 (Go.bits .or .i64 x7_1 (ji14)) t1296 (t1296.length : Int) (wrap64 (x15_1 + 1)) a0_0 l0_1) = some r := by rw [if_pos rfl] at H; exact H
          clear H
          have H := H1
          clear H1
          have c19b0 := eq_true (of_decide_eq_true (by first | (with_reducible assumption) | assumption) : 0 ≤ (rd t1296 x15_1))
          have H' := Aside0.mk H
          clear H
          have p1299 : 0 ≤ (x15_1 : Int) := of_decide_eq_true (by first | (with_reducible assumption) | assumption)
          have q1299 : x15_1 < (t1296.length : Int) := of_decide_eq_true (by first | (with_reducible assumption) | assumption)
          obtain ⟨ad1299, e1299, hx1299_0⟩ := Kd.at_int (Kd.R_reads' HO_13.out).2.2 x15_1 p1299 q1299
          cases e1299
          replace p1299 := eq_true p1299
          replace q1299 := eq_true q1299
          obtain ⟨hcz21_0, hcz21_1, hfz21_0, hfz21_1⟩ := Hof.blk2 BK1295.out
          go_wp2_with (first | (go_at_call 144; (with_reducible refine (impl_HasSet.calls k1 _ _ l0_1 (Go.bits .or .i64 (Go.bits .andNot .i64 a1 (ji14)) (ji5)) true _ ?side1 ?side2 A17.out).mono ?_); (case side1 => exact Hof.Cw (Kd.C_below HR0_1.out HB.out)); (case side2 => exact HC0_1.out); rintro e w' ⟨rfl, ⟨nd, rfl⟩⟩; (try first | exact ⟨rfl, _, World.drewN_drewN _ _ _⟩ | exact ⟨rfl, _, Eq.trans (World.drewN_drewN _ _ _) (congrArg (World.drewN _) (Nat.add_assoc _ _ _))⟩)))
          repeat (go_quiet (first | (go_at_call 144; (with_reducible refine (impl_HasSet.calls k1 _ _ l0_1 (Go.bits .or .i64 (Go.bits .andNot .i64 a1 (ji14)) (ji5)) true _ ?side1 ?side2 A17.out).mono ?_); (case side1 => exact Hof.Cw (Kd.C_below HR0_1.out HB.out)); (case side2 => exact HC0_1.out); rintro e w' ⟨rfl, ⟨nd, rfl⟩⟩; (try first | exact ⟨rfl, _, World.drewN_drewN _ _ _⟩ | exact ⟨rfl, _, Eq.trans (World.drewN_drewN _ _ _) (congrArg (World.drewN _) (Nat.add_assoc _ _ _))⟩))); try go_wp2_with (first | (go_at_call 144; (with_reducible refine (impl_HasSet.calls k1 _ _ l0_1 (Go.bits .or .i64 (Go.bits .andNot .i64 a1 (ji14)) (ji5)) true _ ?side1 ?side2 A17.out).mono ?_); (case side1 => exact Hof.Cw (Kd.C_below HR0_1.out HB.out)); (case side2 => exact HC0_1.out); rintro e w' ⟨rfl, ⟨nd, rfl⟩⟩; (try first | exact ⟨rfl, _, World.drewN_drewN _ _ _⟩ | exact ⟨rfl, _, Eq.trans (World.drewN_drewN _ _ _) (congrArg (World.drewN _) (Nat.add_assoc _ _ _))⟩))))
          go_roundg k1
          case measure => have := HK1.out; omega
          case rel => exact ⟨(Go.bits .or .i64 x7_1 (ji14)), (wrap64 (x15_1 + 1)), (by first | rfl | (simp; done) | (simp only [← hji14] <;> (first | rfl | simp)) | (simp [*]; done)), (by first | rfl | (simp; done) | (simp [*]; done)), H', ⟨by have := HK1.out; omega⟩, ⟨Hof.Rw HO_13.out⟩, ⟨Hof.Bw BK1295.out⟩, ⟨Hof.Lw HB.out⟩⟩
         ·replace c18 := Bool.eq_false_iff.mpr c18
          subst c18
          have H1 : (impl_circuit.l0 k1 a1 a2 x7_1 t1296 (t1296.length : Int) (wrap64 (x15_1 + 1)) a0_0 l0_1) = some r := by rw [if_neg (show ¬ (false = true) by decide)] at H; exact H
          clear H
          have H := H1
          clear H1
          have H' := Aside0.mk H
          clear H
          have p1299 : 0 ≤ (x15_1 : Int) := of_decide_eq_true (by first | (with_reducible assumption) | assumption)
          have q1299 : x15_1 < (t1296.length : Int) := of_decide_eq_true (by first | (with_reducible assumption) | assumption)
          obtain ⟨ad1299, e1299, hx1299_0⟩ := Kd.at_int (Kd.R_reads' HO_13.out).2.2 x15_1 p1299 q1299
          cases e1299
          replace p1299 := eq_true p1299
          replace q1299 := eq_true q1299
          obtain ⟨hcz22_0, hcz22_1, hfz22_0, hfz22_1⟩ := Hof.blk2 BK1295.out
          go_wp2_with (first | (go_at_call 144; (with_reducible refine (impl_HasSet.calls k1 _ _ l0_1 (Go.bits .or .i64 (Go.bits .andNot .i64 a1 (ji14)) (ji5)) false _ ?side1 ?side2 A17.out).mono ?_); (case side1 => exact Hof.Cw (Kd.C_below HR0_1.out HB.out)); (case side2 => exact HC0_1.out); rintro e w' ⟨rfl, ⟨nd, rfl⟩⟩; (try first | exact ⟨rfl, _, World.drewN_drewN _ _ _⟩ | exact ⟨rfl, _, Eq.trans (World.drewN_drewN _ _ _) (congrArg (World.drewN _) (Nat.add_assoc _ _ _))⟩)))
          repeat (go_quiet (first | (go_at_call 144; (with_reducible refine (impl_HasSet.calls k1 _ _ l0_1 (Go.bits .or .i64 (Go.bits .andNot .i64 a1 (ji14)) (ji5)) false _ ?side1 ?side2 A17.out).mono ?_); (case side1 => exact Hof.Cw (Kd.C_below HR0_1.out HB.out)); (case side2 => exact HC0_1.out); rintro e w' ⟨rfl, ⟨nd, rfl⟩⟩; (try first | exact ⟨rfl, _, World.drewN_drewN _ _ _⟩ | exact ⟨rfl, _, Eq.trans (World.drewN_drewN _ _ _) (congrArg (World.drewN _) (Nat.add_assoc _ _ _))⟩))); try go_wp2_with (first | (go_at_call 144; (with_reducible refine (impl_HasSet.calls k1 _ _ l0_1 (Go.bits .or .i64 (Go.bits .andNot .i64 a1 (ji14)) (ji5)) false _ ?side1 ?side2 A17.out).mono ?_); (case side1 => exact Hof.Cw (Kd.C_below HR0_1.out HB.out)); (case side2 => exact HC0_1.out); rintro e w' ⟨rfl, ⟨nd, rfl⟩⟩; (try first | exact ⟨rfl, _, World.drewN_drewN _ _ _⟩ | exact ⟨rfl, _, Eq.trans (World.drewN_drewN _ _ _) (congrArg (World.drewN _) (Nat.add_assoc _ _ _))⟩))))
          go_roundg k1
          case measure => have := HK1.out; omega
          case rel => exact ⟨(x7_1), (wrap64 (x15_1 + 1)), (by first | rfl | (simp; done) | (simp [*]; done)), (by first | rfl | (simp; done) | (simp [*]; done)), H', ⟨by have := HK1.out; omega⟩, ⟨Hof.Rw HO_13.out⟩, ⟨Hof.Bw BK1295.out⟩, ⟨Hof.Lw HB.out⟩⟩
        ·rw [if_neg c15] at H
         exact absurd H (by simp)
       ·rw [if_neg c13] at H
        exact absurd H (by simp)
      ·rw [if_neg c12] at H
       exact absurd H (by simp)
     ·rw [if_neg c11] at H
      exact absurd H (by simp)
    ·rw [if_neg c10] at H
     have c10b0 : decide (x15_1 < (t1296.length : Int)) = false := decide_eq_false c10
     clear c10
     obtain rfl := Option.some.inj H
     go_wp2
     repeat (go_quiet (fail); try go_wp2)
     go_ret
     exact ⟨by first | rfl | (simp [errW_none, errW_some] <;> rfl) | (simp only [← hji5]; first | rfl | (simp [errW_none, errW_some] <;> rfl)) | (simp [*, errW_none, errW_some] <;> rfl), by repeat (first | (with_reducible first | exact HB.out | apply below_alloc | apply pw_below_drewN | apply below_drew1 | refine below_set ?_ GE1295.out) | exact HB.out)⟩
 ·rw [if_neg c4] at H
  exact absurd H (by simp)
end Go.Proofs.Ytbjnkcfkhonkhaa.Pr
end
section
namespace Go.Proofs.Ytbjnkcfkhonkhaa.Pr
open Go.RowKit Go.Proofs.YtbjnkcfkhonkhaaW.PrintWords Go.Proofs.YtbjnkcfkhonkhaaW.PrintLast Go.Proofs.YtbjnkcfkhonkhaaW.PrintMore
attribute [local go_sem] max2_int min2_int max_two min_two max_three min_three max_four min_four
set_option linter.unusedVariables false
set_option linter.unusedSimpArgs false
mutual
def impl_ExternalActivity.j0 : Nat → Int → Bool → Int → List Int → Option (Int)
 | 0, _, _, _, _ => none
 | k + 1, x1, x17, x1302000, x1302001 => if x17 = true then (some 0) else ((impl_FullSet.f x1302000).bind fun t1304 => ((impl_ElementsOf.f k (Go.bits .andNot .i64 t1304 x1)).bind fun t1305 => (impl_ExternalActivity.l0 k x1 0 t1305 (t1305.length : Int) 0 x1302000 x1302001)))
def impl_ExternalActivity.l0 : Nat → Int → Int → List Int → Int → Int → Int → List Int → Option (Int)
 | 0, _, _, _, _, _, _, _ => none
 | k + 1, x1, x5, x23, x24, x25, x1302000, x1302001 => if x25 < x24 then (if 0 ≤ x25 then (if x25 < (x23.length : Int) then ((impl_circuit.f k x1302000 x1302001 x1 (rd x23 x25)).bind fun t1309 => ((impl_leastElement.f k t1309).bind fun t1310 => (if t1310 = (rd x23 x25) then (if 0 ≤ (rd x23 x25) then (impl_ExternalActivity.l0 k x1 (Go.bits .or .i64 x5 (shl .i64 1 (rd x23 x25))) x23 x24 (wrap64 (x25 + 1)) x1302000 x1302001) else (none)) else (impl_ExternalActivity.l0 k x1 x5 x23 x24 (wrap64 (x25 + 1)) x1302000 x1302001)))) else (none)) else (none)) else (some x5)
end
def impl_ExternalActivity.f (k : Nat) (a0_0 : Int) (l0_1 : List Int) (a1 : Int) : Option (Int) := (impl_IsMatroid.f k a0_0 l0_1).bind fun t1302 => (if t1302 = true then ((impl_HasSet.f k l0_1 a1).bind fun t1303 => (impl_ExternalActivity.j0 k a1 (!t1303) a0_0 l0_1)) else (impl_ExternalActivity.j0 k a1 true a0_0 l0_1))
set_option maxHeartbeats 8000000 in
set_option maxRecDepth 100000 in
theorem impl_ExternalActivity.calls (k : Nat) (a0_0 : Int) (A0_1 : Option Addr) (c0_1 : Nat) (l0_1 : List Int) (a1 : Int) (r : Int) (w : World) (hr0_1 : Kd.C (Kd.int .i64) w A0_1 l0_1.length l0_1) (hc0_1 : l0_1.length ≤ c0_1) (h : impl_ExternalActivity.f k a0_0 l0_1 a1 = some r) :
  Calls Try.prog 112 #[.agg #[.int .i64 a0_0, .slice A0_1 l0_1.length c0_1], .int .i64 a1] w fun e w' => e = .returned (.int .i64 r) ∧ Below w.heap.size w w' := by
 have hu45 := Try.underlying45
 have HR0_1 := Aside0.mk hr0_1
 have HC0_1 := Aside0.mk hc0_1
 clear hr0_1 hc0_1
 have HB := Aside0.mk (Below.refl w.heap.size w)
 have H : ((impl_IsMatroid.f k a0_0 l0_1).bind fun t1302 => (if t1302 = true then ((impl_HasSet.f k l0_1 a1).bind fun t1303 => (impl_ExternalActivity.j0 k a1 (!t1303) a0_0 l0_1)) else (impl_ExternalActivity.j0 k a1 true a0_0 l0_1))) = some r := h
 clear h
 have HC3 := Aside0.mk H
 clear H
 go_enter Try.func112, Try.ntmps112
 go_upto_region 1 with (first | ((with_reducible refine gate_dst (N := 2) rfl ?_); refine box_event ?hg (N := 2) ?hd (cs := #[.int .i64 a0_0, .slice A0_1 l0_1.length c0_1]) (t := 45) ?hr ?_; (case hd => rfl); (case hg => rfl); (case hr => first | (go_simp; done) | (go_simp; rfl)); intro gb1301 hg w4 hbox hb; have BK1301 := Aside0.mk hbox; have GW1301 := Aside0.mk ((by rw [hg]; exact (below_size (Hof.Lw HB.out)) : w.heap.size ≤ gb1301)); have GE1301 := Aside0.mk ((by rw [hg]; exact (below_size (Hof.Lw HB.out)) : w.heap.size ≤ gb1301)); replace HB := Aside0.mk (below_step (Hof.Lw HB.out) hb); clear hb hbox hg))
 (try simp only [Act.put, List.setIfInBounds_toArray, List.set_cons_zero, List.set_cons_succ])
 go_cut [17] (fun v17 wc => ∃ (kq : Nat) (x17_2 : Bool), v17 = .bool x17_2 ∧ Aside0 (impl_ExternalActivity.j0 kq a1 x17_2 a0_0 l0_1 = some r) ∧ Aside0 (kq ≤ k) ∧ Aside0 (wc.heap[gb1301]? = some (.cells #[.int .i64 a0_0, (.slice A0_1 l0_1.length c0_1)] 45 (0, 0))) ∧ Aside0 (Below w.heap.size w wc))
 case first =>
  have H := HC3.out
  clear HC3
  replace H := Option.bind_eq_some_iff.mp H
  obtain ⟨t1302, A50, H⟩ := H
  (try dsimp only at H)
  have A5 := Aside0.mk A50
  clear A50
  by_cases c6 : t1302 = true
  ·subst c6
   have H1 : ((impl_HasSet.f k l0_1 a1).bind fun t1303 => (impl_ExternalActivity.j0 k a1 (!t1303) a0_0 l0_1)) = some r := by rw [if_pos rfl] at H; exact H
   clear H
   have H := H1
   clear H1
   replace H := Option.bind_eq_some_iff.mp H
   obtain ⟨t1303, A70, H⟩ := H
   (try dsimp only at H)
   have A7 := Aside0.mk A70
   clear A70
   have H' := Aside0.mk H
   clear H
   obtain ⟨hcz8_0, hcz8_1, hfz8_0, hfz8_1⟩ := Hof.blk2 BK1301.out
   go_wp2_with (first | ((with_reducible refine gate_callee (f := 85) rfl ?_); refine goesL_ (some 9) rfl rfl Try.func85 (by kernel_rfl) rfl #[.agg #[.int .i64 a0_0, .slice A0_1 l0_1.length c0_1]] rfl (by (try simp only [List.map_toArray, List.map_cons, List.map_nil]); first | done | rfl) ?_; (with_reducible refine (impl_IsMatroid.calls k a0_0 _ _ l0_1 true _ ?side1 ?side2 A5.out).mono ?_); (case side1 => exact Hof.Cw (Kd.C_below HR0_1.out HB.out)); (case side2 => exact HC0_1.out); rintro e w9 ⟨rfl, hb⟩; refine ⟨_, rfl, ?_⟩; replace BK1301 := Aside0.mk (blk_below (Hof.Bw BK1301.out) hb); replace HB := Aside0.mk (below_step (Hof.Lw HB.out) hb); (try clear hb); (try clear hb2); (try clear hk); (try clear hi); obtain ⟨hcz10_0, hcz10_1, hfz10_0, hfz10_1⟩ := Hof.blk2 BK1301.out) | (go_at_call 144; (with_reducible refine (impl_HasSet.calls k _ _ l0_1 a1 t1303 _ ?side1 ?side2 A7.out).mono ?_); (case side1 => exact Hof.Cw (Kd.C_below HR0_1.out HB.out)); (case side2 => exact HC0_1.out); rintro e w' ⟨rfl, ⟨nd, rfl⟩⟩))
   go_meet
   case rel => exact ⟨_, (!t1303), (by first | rfl | (simp; done) | (simp [*]; done)), H', ⟨by first | omega | exact Nat.le_refl _⟩, ⟨Hof.Bw BK1301.out⟩, ⟨Hof.Lw HB.out⟩⟩
  ·replace c6 := Bool.eq_false_iff.mpr c6
   subst c6
   have H1 : (impl_ExternalActivity.j0 k a1 true a0_0 l0_1) = some r := by rw [if_neg (show ¬ (false = true) by decide)] at H; exact H
   clear H
   have H := H1
   clear H1
   have H' := Aside0.mk H
   clear H
   obtain ⟨hcz11_0, hcz11_1, hfz11_0, hfz11_1⟩ := Hof.blk2 BK1301.out
   go_wp2_with (first | ((with_reducible refine gate_callee (f := 85) rfl ?_); refine goesL_ (some 9) rfl rfl Try.func85 (by kernel_rfl) rfl #[.agg #[.int .i64 a0_0, .slice A0_1 l0_1.length c0_1]] rfl (by (try simp only [List.map_toArray, List.map_cons, List.map_nil]); first | done | rfl) ?_; (with_reducible refine (impl_IsMatroid.calls k a0_0 _ _ l0_1 false _ ?side1 ?side2 A5.out).mono ?_); (case side1 => exact Hof.Cw (Kd.C_below HR0_1.out HB.out)); (case side2 => exact HC0_1.out); rintro e w12 ⟨rfl, hb⟩; refine ⟨_, rfl, ?_⟩; replace BK1301 := Aside0.mk (blk_below (Hof.Bw BK1301.out) hb); replace HB := Aside0.mk (below_step (Hof.Lw HB.out) hb); (try clear hb); (try clear hb2); (try clear hk); (try clear hi)))
   go_meet
   case rel => exact ⟨_, (true), (by first | rfl | (simp; done) | (simp [*]; done)), H', ⟨by first | omega | exact Nat.le_refl _⟩, ⟨Hof.Bw BK1301.out⟩, ⟨Hof.Lw HB.out⟩⟩
 case rest =>
  clear HC3
  try clear c1
  try clear p2
  try clear c6
  try clear c8
  try clear c11
  try clear hcz10_0
  try clear hcz10_1
  try clear hcz11_0
  try clear hcz11_1
  try clear hcz8_0
  try clear hcz8_1
  try clear hfz10_0
  try clear hfz10_1
  try clear hfz11_0
  try clear hfz11_1
  try clear hfz8_0
  try clear hfz8_1
  obtain ⟨kq, x17_2, rfl, HA, HJ2, BK1301, HB⟩ := hcut
  cases kq with
  | zero => exact absurd HA.out (by simp [impl_ExternalActivity.j0])
  | succ kj2 =>
   have H := HA.out
   clear HA
   simp only [impl_ExternalActivity.j0] at H
   by_cases c13 : x17_2 = true
   ·subst c13
    have H1 : (some 0) = some r := by rw [if_pos rfl] at H; exact H
    clear H
    have H := H1
    clear H1
    obtain rfl := Option.some.inj H
    go_wp2
    go_ret
    exact ⟨by first | rfl | (simp [errW_none, errW_some] <;> rfl) | (simp [*, errW_none, errW_some] <;> rfl), by repeat (first | (with_reducible first | exact HB.out | apply below_alloc | apply pw_below_drewN | apply below_drew1 | refine below_set ?_ GE1301.out) | exact HB.out)⟩
   ·replace c13 := Bool.eq_false_iff.mpr c13
    subst c13
    have H1 : ((impl_FullSet.f a0_0).bind fun t1304 => ((impl_ElementsOf.f kj2 (Go.bits .andNot .i64 t1304 a1)).bind fun t1305 => (impl_ExternalActivity.l0 kj2 a1 0 t1305 (t1305.length : Int) 0 a0_0 l0_1))) = some r := by rw [if_neg (show ¬ (false = true) by decide)] at H; exact H
    clear H
    have H := H1
    clear H1
    replace H := Option.bind_eq_some_iff.mp H
    obtain ⟨t1304, A140, H⟩ := H
    (try dsimp only at H)
    have A14 := Aside0.mk A140
    clear A140
    replace H := Option.bind_eq_some_iff.mp H
    obtain ⟨t1305, A150, H⟩ := H
    (try dsimp only at H)
    have A15 := Aside0.mk A150
    clear A150
    have H' := Aside0.mk H
    clear H
    obtain ⟨hcz16_0, hcz16_1, hfz16_0, hfz16_1⟩ := Hof.blk2 BK1301.out
    go_wp2_with (first | ((with_reducible refine gate_callee (f := 79) rfl ?_); refine goesL_ (some 20) rfl rfl Try.func79 (by kernel_rfl) rfl #[.int .i64 a0_0] rfl (by (try simp only [List.map_toArray, List.map_cons, List.map_nil]); first | done | rfl) ?_; (with_reducible refine (impl_FullSet.calls a0_0 t1304 _ A14.out).mono ?_); rintro e w' ⟨rfl, ⟨nd, rfl⟩⟩; refine ⟨_, rfl, ?_⟩) | ((with_reducible refine gate_callee (f := 68) rfl ?_); refine goesL_ (some 23) rfl rfl Try.func68 (by kernel_rfl) rfl #[.int .i64 (Go.bits .andNot .i64 t1304 a1)] rfl (by (try simp only [List.map_toArray, List.map_cons, List.map_nil]); first | done | rfl) ?_; (with_reducible refine (impl_ElementsOf.calls kj2 (Go.bits .andNot .i64 t1304 a1) t1305 _ A15.out).mono ?_); rintro e w17 ⟨v1306, rfl, ho0, hb⟩; refine ⟨_, rfl, ?_⟩; have HO1307 := Aside0.mk (Kd.R_lower ho0 (below_size (Hof.Lw HB.out))); replace BK1301 := Aside0.mk (blk_below (Hof.Bw BK1301.out) hb); replace HB := Aside0.mk (below_step (Hof.Lw HB.out) hb); (try clear hb); (try clear hb2); (try clear hk); (try clear hi); (try clear ho0); obtain ⟨Ao18, co18, eo18⟩ := Kd.R_slice HO1307.out; subst eo18))
    go_loopg [5, 25] kj2 (fun kq v5 v25 w' => ∃ (x5_2 : Int) (x25_2 : Int), v5 = .int .i64 x5_2 ∧ v25 = .int .i64 x25_2 ∧ Aside0 (impl_ExternalActivity.l0 kq a1 x5_2 t1305 (t1305.length : Int) x25_2 a0_0 l0_1 = some r) ∧ Aside0 (kq ≤ kj2) ∧ Aside0 (Kd.R (Kd.int .i64) 3 w' w.heap.size (fun _ => True) (.slice Ao18 t1305.length co18) t1305) ∧ Aside0 (w'.heap[gb1301]? = some (.cells #[.int .i64 a0_0, (.slice A0_1 l0_1.length c0_1)] 45 (0, 0))) ∧ Aside0 (Below w.heap.size w w'))
    case atStart => exact ⟨(0), (0), (by first | rfl | (simp; done) | (simp [*]; done)), (by first | rfl | (simp; done) | (simp [*]; done)), H', ⟨Nat.le_refl _⟩, ⟨Hof.Rw HO1307.out⟩, ⟨Hof.Bw BK1301.out⟩, ⟨Hof.Lw HB.out⟩⟩
    case round =>
     clear H'
     try clear c1
     try clear p2
     try clear c6
     try clear c7
     try clear c8
     try clear c11
     try clear c13
     try clear hcz10_0
     try clear hcz10_1
     try clear hcz11_0
     try clear hcz11_1
     try clear hcz16_0
     try clear hcz16_1
     try clear hcz8_0
     try clear hcz8_1
     try clear hfz10_0
     try clear hfz10_1
     try clear hfz11_0
     try clear hfz11_1
     try clear hfz16_0
     try clear hfz16_1
     try clear hfz8_0
     try clear hfz8_1
     try clear p2
     obtain ⟨x5_2, x25_2, rfl, rfl, HA, HK2, HO_23, BK1301, HB⟩ := hrel
     cases gk with
     | zero => exact absurd HA.out (by simp [impl_ExternalActivity.l0])
     | succ k2 =>
      have H := HA.out
      clear HA
      simp only [impl_ExternalActivity.l0] at H
      by_cases c19 : x25_2 < (t1305.length : Int)
      ·rw [if_pos c19] at H
       have c19b0 : decide (x25_2 < (t1305.length : Int)) = true := decide_eq_true c19
       clear c19
       by_cases c20 : 0 ≤ x25_2
       ·rw [if_pos c20] at H
        have c20b0 : decide (0 ≤ x25_2) = true := decide_eq_true c20
        clear c20
        by_cases c21 : x25_2 < (t1305.length : Int)
        ·rw [if_pos c21] at H
         have c21b0 : decide (x25_2 < (t1305.length : Int)) = true := decide_eq_true c21
         clear c21
         replace H := Option.bind_eq_some_iff.mp H
         obtain ⟨t1309, A220, H⟩ := H
         (try dsimp only at H)
         have A22 := Aside0.mk A220
         clear A220
         replace H := Option.bind_eq_some_iff.mp H
         obtain ⟨t1310, A230, H⟩ := H
         (try dsimp only at H)
         have A23 := Aside0.mk A230
         clear A230
         by_cases c24 : t1310 = (rd t1305 x25_2)
         ·rw [if_pos c24] at H
          have c24b0 : (t1310 == (rd t1305 x25_2)) = true := beq_iff_eq.mpr c24
          have c24b1 : (t1310 != (rd t1305 x25_2)) = false := bne_eq_false_iff_eq.mpr c24
          clear c24
          by_cases c25 : 0 ≤ (rd t1305 x25_2)
          ·rw [if_pos c25] at H
           have c25b0 := eq_true c25
           have c25b1 : decide (0 ≤ (rd t1305 x25_2)) = true := decide_eq_true c25
           clear c25
           obtain ⟨ji26, hji26⟩ : ∃ j_ : Int, (shl .i64 1 (rd t1305 x25_2)) = j_ := ⟨_, rfl⟩
           replace H : (impl_ExternalActivity.l0 k2 a1 (Go.bits .or .i64 x5_2 (ji26)) t1305 (t1305.length : Int) (wrap64 (x25_2 + 1)) a0_0 l0_1) = some r := by first | (rw [hji26] at H; exact H) | (simp only [hji26] at H ⊢; exact H)
           (try rw [hji26] at A22)
           (try rw [hji26] at A23)
           have hji26_ : (IntKind.i64.wrap (1 * 2 ^ min (rd t1305 x25_2).toNat 64)) = ji26 := hji26
           have hji26z : (rd t1305 x25_2) ≤ 64 → (IntKind.i64.wrap (1 * 2 ^ (rd t1305 x25_2).toNat)) = ji26 := shl_small hji26
           have hji26u : (IntKind.i64.wrap (2 ^ min (rd t1305 x25_2).toNat 64)) = ji26 := by have h_ := hji26_; rw [Int.one_mul] at h_; exact h_
           have hji26v : (rd t1305 x25_2) ≤ 64 → (IntKind.i64.wrap (2 ^ (rd t1305 x25_2).toNat)) = ji26 := fun hle_ => by have h_ := hji26z hle_; rw [Int.one_mul] at h_; exact h_
           have hji26y : (wrap64 (1 * 2 ^ min (rd t1305 x25_2).toNat 64)) = ji26 := (i64_w _).symm.trans hji26_
           have hji26x : (rd t1305 x25_2) ≤ 64 → (wrap64 (1 * 2 ^ (rd t1305 x25_2).toNat)) = ji26 := fun h_ => (i64_w _).symm.trans (hji26z h_)
           have H' := Aside0.mk H
           clear H
           have p1308 : 0 ≤ (x25_2 : Int) := of_decide_eq_true (by first | (with_reducible assumption) | assumption)
           have q1308 : x25_2 < (t1305.length : Int) := of_decide_eq_true (by first | (with_reducible assumption) | assumption)
           obtain ⟨ad1308, e1308, hx1308_0⟩ := Kd.at_int (Kd.R_reads' HO_23.out).2.2 x25_2 p1308 q1308
           cases e1308
           replace p1308 := eq_true p1308
           replace q1308 := eq_true q1308
           obtain ⟨hcz27_0, hcz27_1, hfz27_0, hfz27_1⟩ := Hof.blk2 BK1301.out
           go_wp2_with (first | ((with_reducible refine gate_callee (f := 146) rfl ?_); refine goesL_ (some 32) rfl rfl Try.func146 (by kernel_rfl) rfl #[.agg #[.int .i64 a0_0, .slice A0_1 l0_1.length c0_1], .int .i64 a1, .int .i64 (rd t1305 x25_2)] rfl (by (try simp only [List.map_toArray, List.map_cons, List.map_nil]); first | done | rfl) ?_; (with_reducible refine (impl_circuit.calls k2 a0_0 _ _ l0_1 a1 (rd t1305 x25_2) t1309 _ ?side1 ?side2 A22.out).mono ?_); (case side1 => exact Hof.Cw (Kd.C_below HR0_1.out HB.out)); (case side2 => exact HC0_1.out); rintro e w28 ⟨rfl, hb⟩; refine ⟨_, rfl, ?_⟩; replace HO_23 := Aside0.mk (Kd.R_below (Hof.Rw HO_23.out) hb); replace BK1301 := Aside0.mk (blk_below (Hof.Bw BK1301.out) hb); replace HB := Aside0.mk (below_step (Hof.Lw HB.out) hb); (try clear hb); (try clear hb2); (try clear hk); (try clear hi)) | ((with_reducible refine gate_callee (f := 101) rfl ?_); refine goesL_ (some 33) rfl rfl Try.func101 (by kernel_rfl) rfl #[.int .i64 t1309] rfl (by (try simp only [List.map_toArray, List.map_cons, List.map_nil]); first | done | rfl) ?_; (with_reducible refine (impl_leastElement.calls k2 t1309 t1310 _ A23.out).mono ?_); rintro e w29 ⟨rfl, hb⟩; refine ⟨_, rfl, ?_⟩; replace HO_23 := Aside0.mk (Kd.R_below (Hof.Rw HO_23.out) hb); replace BK1301 := Aside0.mk (blk_below (Hof.Bw BK1301.out) hb); replace HB := Aside0.mk (below_step (Hof.Lw HB.out) hb); (try clear hb); (try clear hb2); (try clear hk); (try clear hi)))
           go_roundg k2
           case measure => have := HJ2.out; have := HK2.out; omega
           case rel => exact ⟨(Go.bits .or .i64 x5_2 (ji26)), (wrap64 (x25_2 + 1)), (by first | rfl | (simp; done) | (simp only [← hji26] <;> (first | rfl | simp)) | (simp [*]; done)), (by first | rfl | (simp; done) | (simp [*]; done)), H', ⟨by have := HJ2.out; have := HK2.out; omega⟩, ⟨Hof.Rw HO_23.out⟩, ⟨Hof.Bw BK1301.out⟩, ⟨Hof.Lw HB.out⟩⟩
          ·rw [if_neg c25] at H
           exact absurd H (by simp)
         ·rw [if_neg c24] at H
          have c24b0 : (t1310 == (rd t1305 x25_2)) = false := beq_eq_false_iff_ne.mpr c24
          have c24b1 : (t1310 != (rd t1305 x25_2)) = true := bne_iff_ne.mpr c24
          have H' := Aside0.mk H
          clear H
          have p1308 : 0 ≤ (x25_2 : Int) := of_decide_eq_true (by first | (with_reducible assumption) | assumption)
          have q1308 : x25_2 < (t1305.length : Int) := of_decide_eq_true (by first | (with_reducible assumption) | assumption)
          obtain ⟨ad1308, e1308, hx1308_0⟩ := Kd.at_int (Kd.R_reads' HO_23.out).2.2 x25_2 p1308 q1308
          cases e1308
          replace p1308 := eq_true p1308
          replace q1308 := eq_true q1308
          obtain ⟨hcz30_0, hcz30_1, hfz30_0, hfz30_1⟩ := Hof.blk2 BK1301.out
          go_wp2_with (first | ((with_reducible refine gate_callee (f := 146) rfl ?_); refine goesL_ (some 32) rfl rfl Try.func146 (by kernel_rfl) rfl #[.agg #[.int .i64 a0_0, .slice A0_1 l0_1.length c0_1], .int .i64 a1, .int .i64 (rd t1305 x25_2)] rfl (by (try simp only [List.map_toArray, List.map_cons, List.map_nil]); first | done | rfl) ?_; (with_reducible refine (impl_circuit.calls k2 a0_0 _ _ l0_1 a1 (rd t1305 x25_2) t1309 _ ?side1 ?side2 A22.out).mono ?_); (case side1 => exact Hof.Cw (Kd.C_below HR0_1.out HB.out)); (case side2 => exact HC0_1.out); rintro e w31 ⟨rfl, hb⟩; refine ⟨_, rfl, ?_⟩; replace HO_23 := Aside0.mk (Kd.R_below (Hof.Rw HO_23.out) hb); replace BK1301 := Aside0.mk (blk_below (Hof.Bw BK1301.out) hb); replace HB := Aside0.mk (below_step (Hof.Lw HB.out) hb); (try clear hb); (try clear hb2); (try clear hk); (try clear hi)) | ((with_reducible refine gate_callee (f := 101) rfl ?_); refine goesL_ (some 33) rfl rfl Try.func101 (by kernel_rfl) rfl #[.int .i64 t1309] rfl (by (try simp only [List.map_toArray, List.map_cons, List.map_nil]); first | done | rfl) ?_; (with_reducible refine (impl_leastElement.calls k2 t1309 t1310 _ A23.out).mono ?_); rintro e w32 ⟨rfl, hb⟩; refine ⟨_, rfl, ?_⟩; replace HO_23 := Aside0.mk (Kd.R_below (Hof.Rw HO_23.out) hb); replace BK1301 := Aside0.mk (blk_below (Hof.Bw BK1301.out) hb); replace HB := Aside0.mk (below_step (Hof.Lw HB.out) hb); (try clear hb); (try clear hb2); (try clear hk); (try clear hi)))
          go_roundg k2
          case measure => have := HJ2.out; have := HK2.out; omega
          case rel => exact ⟨(x5_2), (wrap64 (x25_2 + 1)), (by first | rfl | (simp; done) | (simp [*]; done)), (by first | rfl | (simp; done) | (simp [*]; done)), H', ⟨by have := HJ2.out; have := HK2.out; omega⟩, ⟨Hof.Rw HO_23.out⟩, ⟨Hof.Bw BK1301.out⟩, ⟨Hof.Lw HB.out⟩⟩
        ·rw [if_neg c21] at H
         exact absurd H (by simp)
       ·rw [if_neg c20] at H
        exact absurd H (by simp)
      ·rw [if_neg c19] at H
       have c19b0 : decide (x25_2 < (t1305.length : Int)) = false := decide_eq_false c19
       clear c19
       obtain rfl := Option.some.inj H
       go_wp2
       go_ret
       exact ⟨by first | rfl | (simp [errW_none, errW_some] <;> rfl) | (simp [*, errW_none, errW_some] <;> rfl), by repeat (first | (with_reducible first | exact HB.out | apply below_alloc | apply pw_below_drewN | apply below_drew1 | refine below_set ?_ GE1301.out) | exact HB.out)⟩
end Go.Proofs.Ytbjnkcfkhonkhaa.Pr
end
section
namespace Go.Proofs.Ytbjnkcfkhonkhaa.Lay
open Go.Shelf Go.Proofs
def laysSort_ren : Go.Shelf.Ren := ⟨fun | 189 => 138 | 125 => 165 | 257 => 164 | 128 => 183 | 129 => 184 | 294 => 174 | 295 => 175 | 296 => 176 | 297 => 177 | 298 => 178 | 299 => 179 | 216 => 180 | 300 => 181 | 301 => 182 | 328 => 187 | 329 => 188 | 330 => 189 | 331 => 190 | 332 => 191 | 215 => 192 | 343 => 193 | n => n, fun | 28 => 31 | 3 => 3 | 46 => 94 | 0 => 0 | 51 => 113 | 53 => 115 | 4 => 4 | 183 => 125 | 182 => 124 | 131 => 129 | 5 => 5 | 9 => 9 | 218 => 131 | 222 => 135 | 228 => 137 | 229 => 138 | n => n, fun | n => n⟩
theorem laysSort : Go.Proofs.Lays.n189 Try.prog laysSort_ren := {
 mixed := by kernel_rfl
 f125 := Try.func165.trans (congrArg some (by kernel_rfl))
 f128 := Try.func183.trans (congrArg some (by kernel_rfl))
 f129 := Try.func184.trans (congrArg some (by kernel_rfl))
 f189 := Try.func138.trans (congrArg some (by kernel_rfl))
 f215 := Try.func192.trans (congrArg some (by kernel_rfl))
 f216 := Try.func180.trans (congrArg some (by kernel_rfl))
 f257 := Try.func164.trans (congrArg some (by kernel_rfl))
 f294 := Try.func174.trans (congrArg some (by kernel_rfl))
 f295 := Try.func175.trans (congrArg some (by kernel_rfl))
 f296 := Try.func176.trans (congrArg some (by kernel_rfl))
 f297 := Try.func177.trans (congrArg some (by kernel_rfl))
 f298 := Try.func178.trans (congrArg some (by kernel_rfl))
 f299 := Try.func179.trans (congrArg some (by kernel_rfl))
 f300 := Try.func181.trans (congrArg some (by kernel_rfl))
 f301 := Try.func182.trans (congrArg some (by kernel_rfl))
 f328 := Try.func187.trans (congrArg some (by kernel_rfl))
 f329 := Try.func188.trans (congrArg some (by kernel_rfl))
 f330 := Try.func189.trans (congrArg some (by kernel_rfl))
 f331 := Try.func190.trans (congrArg some (by kernel_rfl))
 f332 := Try.func191.trans (congrArg some (by kernel_rfl))
 f343 := Try.func193.trans (congrArg some (by kernel_rfl))
 t0 := Try.underlying0
 a0 := Try.isAgg0
 z0 := Try.sizeOf0
 v0 := Try.zeroValue0
 t3 := Try.underlying3
 a3 := Try.isAgg3
 z3 := Try.sizeOf3
 v3 := Try.zeroValue3
 t4 := Try.underlying4
 a4 := Try.isAgg4
 z4 := Try.sizeOf4
 v4 := Try.zeroValue4
 t5 := Try.underlying5
 a5 := Try.isAgg5
 z5 := Try.sizeOf5
 v5 := Try.zeroValue5
 t9 := Try.underlying9
 a9 := Try.isAgg9
 z9 := Try.sizeOf9
 v9 := Try.zeroValue9
 t28 := Try.underlying31
 a28 := Try.isAgg31
 z28 := Try.sizeOf31
 v28 := Try.zeroValue31
 t46 := Try.underlying94
 a46 := Try.isAgg94
 z46 := Try.sizeOf94
 v46 := Try.zeroValue94
 t51 := Try.underlying113
 a51 := Try.isAgg113
 z51 := Try.sizeOf113
 v51 := Try.zeroValue113
 t53 := Try.underlying115
 a53 := Try.isAgg115
 z53 := Try.sizeOf115
 v53 := Try.zeroValue115
 t131 := Try.underlying129
 a131 := Try.isAgg129
 z131 := Try.sizeOf129
 v131 := Try.zeroValue129
 t182 := Try.underlying124
 a182 := Try.isAgg124
 z182 := Try.sizeOf124
 v182 := Try.zeroValue124
 t183 := Try.underlying125
 a183 := Try.isAgg125
 z183 := Try.sizeOf125
 v183 := Try.zeroValue125
 t218 := Try.underlying131
 a218 := Try.isAgg131
 z218 := Try.sizeOf131
 v218 := Try.zeroValue131
 t222 := Try.underlying135
 a222 := Try.isAgg135
 z222 := Try.sizeOf135
 v222 := Try.zeroValue135
 t228 := Try.underlying137
 a228 := Try.isAgg137
 z228 := Try.sizeOf137
 v228 := Try.zeroValue137
 t229 := Try.underlying138
 a229 := Try.isAgg138
 z229 := Try.sizeOf138
 v229 := Try.zeroValue138 }
def laysCompact_ren : Go.Shelf.Ren := ⟨fun | 20 => 139 | n => n, fun | 22 => 31 | 3 => 3 | 4 => 4 | 0 => 0 | n => n, fun | n => n⟩
theorem laysCompact : Go.Proofs.Lays2.n20 Try.prog laysCompact_ren := {
 mixed := by kernel_rfl
 f20 := Try.func139.trans (congrArg some (by kernel_rfl))
 t0 := Try.underlying0
 a0 := Try.isAgg0
 z0 := Try.sizeOf0
 v0 := Try.zeroValue0
 t3 := Try.underlying3
 a3 := Try.isAgg3
 z3 := Try.sizeOf3
 v3 := Try.zeroValue3
 t4 := Try.underlying4
 a4 := Try.isAgg4
 z4 := Try.sizeOf4
 v4 := Try.zeroValue4
 t22 := Try.underlying31
 a22 := Try.isAgg31
 z22 := Try.sizeOf31
 v22 := Try.zeroValue31
 i3 := by kernel_rfl }
end Go.Proofs.Ytbjnkcfkhonkhaa.Lay
end
section
namespace Go.Proofs.Ytbjnkcfkhonkhaa.SortR
open Go.RowKit Go.Shelf Go.Sort Go.Proofs.YtbjnkcfkhonkhaaW.PrintWords
def sorted (xs : List Int) : List Int := xs.mergeSort fun x y => decide (x ≤ y)
theorem sorted_length (xs : List Int) : (sorted xs).length = xs.length := List.length_mergeSort xs
theorem sort_calls {w : World} {base : Nat} {ok : Nat → Prop} {v : Value} {xs : List Int} (h : (Kd.int .i64).R 3 w base ok v xs) (hs : xs.length < 4611686018427387904) :
  Calls Try.prog 138 #[v] w fun e w' => e = .returned (.tuple #[]) ∧ (Kd.int .i64).R 3 w' base ok v (sorted xs) ∧ (∀ w0 : World, Below base w0 w → Below base w0 w') ∧ w.grownBy w' v.ownBlock := by
 have ho := Kd.own_of_R h
 rcases ho.2 with ⟨rfl, h0⟩ | ⟨g, cap, cur, rfl, hbase, hb, h1, h2, h3, h4⟩
 ·have hx : xs = [] := List.length_eq_zero_iff.1 h0
  subst hx
  refine (Any.slices_Sort_int_none Lay.laysSort none 0 w).mono ?_
  rintro e w' ⟨rfl, rfl⟩
  exact ⟨rfl, by simpa [sorted] using h, fun _ hb => hb, ⟨rfl, rfl, rfl, Nat.le_refl _, fun _ _ _ => rfl⟩⟩
 ·have hH : Holds (Value.int .i64) w g 0 xs.toArray := by
   obtain ⟨g', cap', he, _, _, _, _, _, hH⟩ := Lib.holds_of_ownsRow ho (by simp)
   injection he with e1 _ _
   injection e1 with e1
   injection e1 with e1 _ _
   subst e1
   exact hH
  have hlt : g < w.heap.size := (Array.getElem?_eq_some_iff.1 hb).1
  refine (Any.slices_Sort_int Lay.laysSort g 0 cap xs w hH hlt hs).mono ?_
  rintro e w' ⟨rfl, n, os, rfl⟩
  have hown := ownsRow_sortedI (n := n) (os := os) (ts := sorted xs) (sorted_length xs) hbase hb h1 h2 h3
  rw [← sorted_length xs] at hown
  have hg : w.grownBy (grow (putRow (Value.int .i64) (Sort.ahead w n) g 0 (sorted xs).toArray) os) (some g) := grownBy_sortedI _
  refine ⟨rfl, ?_, fun w0 hb0 => ?_, ?_⟩
  ·have := Kd.R_of_own (enc := Value.int .i64) (h1 := fun _ => rfl) (ok := ok) hown (fun k hk => h.1 k (by simpa [Value.ownBlock] using hk))
   rw [sorted_length xs] at this
   exact this
  ·exact hb0.grown hg (by omega) (fun j hj => by cases hj; exact hbase)
  ·exact hg
theorem compact_calls {w : World} {base : Nat} {ok : Nat → Prop} {v : Value} {xs : List Int} (h : (Kd.int .i64).R 3 w base ok v xs) (hs : xs.length ≤ 9223372036854775807) :
  Calls Try.prog 139 #[v] w fun e w' => ∃ v', e = .returned v' ∧ (Kd.int .i64).R 3 w' base ok v' (Lib.compact xs) ∧ (∀ w0 : World, Below base w0 w → Below base w0 w') := by
 have ho := Kd.own_of_R h
 rcases ho.2 with ⟨rfl, h0⟩ | ⟨g, cap, cur, rfl, hbase, hb, h1, h2, h3, h4⟩
 ·have hx : xs = [] := List.length_eq_zero_iff.1 h0
  subst hx
  refine (Any.slices_Compact_int_empty Lay.laysCompact none 0 w).mono ?_
  rintro e w' ⟨rfl, rfl⟩
  exact ⟨_, rfl, by simpa [Lib.compact, Lib.compactUpTo] using h, fun _ hb => hb⟩
 ·have hH : Holds (Value.int .i64) w g 0 xs.toArray := by
   obtain ⟨g', cap', he, _, _, _, _, _, hH⟩ := Lib.holds_of_ownsRow ho (by simp)
   injection he with e1 _ _
   injection e1 with e1
   injection e1 with e1 _ _
   subst e1
   exact hH
  refine (Any.slices_Compact_int Lay.laysCompact g 0 cap xs w hH hs h1).mono ?_
  rintro e w' ⟨rfl, q, rfl⟩
  have hle := Lib.compact_length_le xs
  have hc := Lib.ownsRow_putRow (q := q) (k := (Lib.compact xs).length) (ys := Lib.compact xs ++ List.replicate (xs.length - (Lib.compact xs).length) 0) ho (by simp; omega) hle
  rw [List.take_left] at hc
  refine ⟨_, rfl, ?_, fun w0 hb0 => Lib.below_putRow hb0 hbase⟩
  exact Kd.R_of_own (enc := Value.int .i64) (h1 := fun _ => rfl) (ok := ok) hc (fun k hk => h.1 k (by simpa [Value.ownBlock] using hk))
end Go.Proofs.Ytbjnkcfkhonkhaa.SortR
end
section
namespace Go.Proofs.Ytbjnkcfkhonkhaa.Pr
open Go.RowKit Go.Proofs.YtbjnkcfkhonkhaaW.PrintWords Go.Proofs.YtbjnkcfkhonkhaaW.PrintLast Go.Proofs.YtbjnkcfkhonkhaaW.PrintMore
attribute [local go_sem] max2_int min2_int max_two min_two max_three min_three max_four min_four
set_option linter.unusedVariables false
set_option linter.unusedSimpArgs false
def impl_SortSets.f (l0 : List Int) : Option (List Int) := if l0.length < 17592186044416 then (some (Lib.compact (SortR.sorted l0))) else (none)
set_option maxHeartbeats 8000000 in
set_option maxRecDepth 100000 in
theorem impl_SortSets.calls (A0 : Option Addr) (c0 : Nat) (l0 : List Int) (r : List Int) (w : World) (hr0 : Kd.C (Kd.int .i64) w A0 l0.length l0) (hc0 : l0.length ≤ c0) (h : impl_SortSets.f l0 = some r) :
  Calls Try.prog 102 #[.slice A0 l0.length c0] w fun e w' => ∃ v0_ : Value, e = .returned (v0_) ∧ Kd.R (Kd.int .i64) 3 w' w.heap.size (fun _ => True) v0_ r ∧ Below w.heap.size w w' := by
 unfold impl_SortSets.f at h
 by_cases hl : l0.length < 17592186044416
 ·rw [if_pos hl] at h
  obtain rfl := Option.some.inj h
  have HL := Aside0.mk hl
  have HR := Aside0.mk hr0
  have HC := Aside0.mk hc0
  clear hr0 hc0 h hl
  go_enter Try.func102, Try.ntmps102
  go_wp2_with (first | ((with_reducible refine gate_dst (N := 4) rfl ?_); refine Kd.R_lit (Kd.int .i64) _ 3 ?hg (N := 4) ?hd (xs := ([] : List Int)) (inner := []) (ok := fun _ => True) (okp := fun _ => True) ?hr ?hp (fun _ hk => hk) trivial (Below.refl _ _) (Nat.le_refl _) (by simp) ?_; (case hd => rfl); (case hg => rfl); (case hr => first | (go_simp; done) | (go_simp; rfl)); (case hp => exact (Reps.none _ _)); intro v4 w1 ho1 hb1 hg_ hnew_; have HO1 := Aside0.mk ho1; have HB1 := Aside0.mk hb1; have HR1 := Aside0.mk (Kd.C_below HR.out hb1); clear hg_ hnew_ ho1 hb1) | ((with_reducible refine gate_builtin (b := .append) (xs := #[.tmp 4, .tmp 5]) rfl ?_); at_builtin; refine Kd.R_append_rows (Kd.int .i64) (w0 := w) w.heap.size rfl (.tmp 4) (.tmp 5) 31 3 (.int .i64 0) 8 rfl Try.underlying31 info3 rfl (by decide) (by omega) v4 ([] : List Int) l0 _ _ _ (fun _ => True) (fun _ => False) rfl rfl HO1.out HR1.out (fun _ _ h => h) (fun _ h => h.elim) (fun _ _ => trivial) HB1.out HB1.out.size (by have := HL.out; simp; omega) ?_; intro v6 w2 ho2 hb2 hg2 hat2; have HO2 := Aside0.mk ho2; have HB2 := Aside0.mk hb2; clear ho2 hb2 hg2 hat2; simp only [List.nil_append] at HO2) | ((with_reducible refine gate_callee (f := 138) rfl ?_); refine goesL_ (some 8) rfl rfl Try.func138 (by kernel_rfl) rfl #[v6] rfl (by (try simp only [List.map_toArray, List.map_cons, List.map_nil]); first | done | rfl) ?_; (with_reducible refine (SortR.sort_calls HO2.out (by have := HL.out; omega)).mono ?_); rintro e w3 ⟨rfl, ho3, hb3, hg3⟩; refine ⟨_, rfl, ?_⟩; have HO3 := Aside0.mk ho3; have HB3 := Aside0.mk (hb3 w HB2.out); clear ho3 hb3 hg3) | ((with_reducible refine gate_callee (f := 139) rfl ?_); refine goesL_ (some 10) rfl rfl Try.func139 (by kernel_rfl) rfl #[v6] rfl (by (try simp only [List.map_toArray, List.map_cons, List.map_nil]); first | done | rfl) ?_; (with_reducible refine (SortR.compact_calls HO3.out (by have := HL.out; have := SortR.sorted_length l0; omega)).mono ?_); rintro e w4 ⟨v10, rfl, ho4, hb4⟩; refine ⟨_, rfl, ?_⟩; have HO4 := Aside0.mk ho4; have HB4 := Aside0.mk (hb4 w HB3.out); clear ho4 hb4))
  go_ret
  exact ⟨_, rfl, HO4.out, HB4.out⟩
 ·rw [if_neg hl] at h
  exact absurd h (by simp)
end Go.Proofs.Ytbjnkcfkhonkhaa.Pr
end
section
namespace Go.Proofs.Ytbjnkcfkhonkhaa.Pr
open Go.RowKit Go.Proofs.YtbjnkcfkhonkhaaW.PrintWords Go.Proofs.YtbjnkcfkhonkhaaW.PrintLast Go.Proofs.YtbjnkcfkhonkhaaW.PrintMore
attribute [local go_sem] max2_int min2_int max_two min_two max_three min_three max_four min_four
set_option linter.unusedVariables false
set_option linter.unusedSimpArgs false
def impl_areSetsOf.l0 : Nat → Int → List Int → Int → Int → Option (Bool)
 | 0, _, _, _, _ => none
 | k + 1, x0, x7, x8, x9 => if x9 < x8 then (if 0 ≤ x9 then (if x9 < (x7.length : Int) then ((impl_IsSet.f x0 (rd x7 x9)).bind fun t1312 => (if t1312 = true then (impl_areSetsOf.l0 k x0 x7 x8 (wrap64 (x9 + 1))) else (some false))) else (none)) else (none)) else ((impl_isSize.f x0).bind fun t1313 => (some t1313))
def impl_areSetsOf.f (k : Nat) (a0 : Int) (l1 : List Int) : Option (Bool) := impl_areSetsOf.l0 k a0 l1 (l1.length : Int) 0
set_option maxHeartbeats 8000000 in
set_option maxRecDepth 100000 in
theorem impl_areSetsOf.calls (k : Nat) (a0 : Int) (A1 : Option Addr) (c1 : Nat) (l1 : List Int) (r : Bool) (w : World) (hr1 : Kd.C (Kd.int .i64) w A1 l1.length l1) (hc1 : l1.length ≤ c1) (h : impl_areSetsOf.f k a0 l1 = some r) :
  Calls Try.prog 185 #[.int .i64 a0, .slice A1 l1.length c1] w fun e w' => e = .returned (.bool r) ∧ Drawn0 w w' := by
 have HR1 := Aside0.mk hr1
 have HC1 := Aside0.mk hc1
 clear hr1 hc1
 have H : (impl_areSetsOf.l0 k a0 l1 (l1.length : Int) 0) = some r := h
 clear h
 have H' := Aside0.mk H
 clear H
 go_enter Try.func185, Try.ntmps185
 go_wp2
 go_loopg [9] k (fun kq v9 w' => ∃ (x9_1 : Int), v9 = .int .i64 x9_1 ∧ Aside0 (impl_areSetsOf.l0 kq a0 l1 (l1.length : Int) x9_1 = some r) ∧ Aside0 (kq ≤ k) ∧ Drawn0 w w')
 case atStart => exact ⟨(0), (by first | rfl | (simp; done) | (simp [*]; done)), H', ⟨Nat.le_refl _⟩, by repeat (first | exact Drawn0.refl _ | apply Drawn0.step)⟩
 case round =>
  clear H'
  try clear c1
  try clear p2
  obtain ⟨x9_1, rfl, HA, HK1, ⟨m1, rfl⟩⟩ := hrel
  cases gk with
  | zero => exact absurd HA.out (by simp [impl_areSetsOf.l0])
  | succ k1 =>
   have H := HA.out
   clear HA
   simp only [impl_areSetsOf.l0] at H
   by_cases c3 : x9_1 < (l1.length : Int)
   ·rw [if_pos c3] at H
    have c3b0 : decide (x9_1 < (l1.length : Int)) = true := decide_eq_true c3
    clear c3
    by_cases c4 : 0 ≤ x9_1
    ·rw [if_pos c4] at H
     have c4b0 : decide (0 ≤ x9_1) = true := decide_eq_true c4
     clear c4
     by_cases c5 : x9_1 < (l1.length : Int)
     ·rw [if_pos c5] at H
      have c5b0 : decide (x9_1 < (l1.length : Int)) = true := decide_eq_true c5
      clear c5
      replace H := Option.bind_eq_some_iff.mp H
      obtain ⟨t1312, A60, H⟩ := H
      (try dsimp only at H)
      have A6 := Aside0.mk A60
      clear A60
      by_cases c7 : t1312 = true
      ·subst c7
       have H1 : (impl_areSetsOf.l0 k1 a0 l1 (l1.length : Int) (wrap64 (x9_1 + 1))) = some r := by rw [if_pos rfl] at H; exact H
       clear H
       have H := H1
       clear H1
       have H' := Aside0.mk H
       clear H
       have p1311 : 0 ≤ (x9_1 : Int) := of_decide_eq_true (by first | (with_reducible assumption) | assumption)
       have q1311 : x9_1 < (l1.length : Int) := of_decide_eq_true (by first | (with_reducible assumption) | assumption)
       obtain ⟨ad1311, e1311, hx1311_0⟩ := Kd.at_int HR1.out x9_1 p1311 q1311
       cases e1311
       replace p1311 := eq_true p1311
       replace q1311 := eq_true q1311
       go_wp2_with (first | ((with_reducible refine gate_callee (f := 67) rfl ?_); refine goesL_ (some 15) rfl rfl Try.func67 (by kernel_rfl) rfl #[.int .i64 a0, .int .i64 (rd l1 x9_1)] rfl (by (try simp only [List.map_toArray, List.map_cons, List.map_nil]); first | done | rfl) ?_; (with_reducible refine (impl_IsSet.calls a0 (rd l1 x9_1) true _ A6.out).mono ?_); rintro e w' ⟨rfl, ⟨nd, rfl⟩⟩; refine ⟨_, rfl, ?_⟩))
       go_roundg k1
       case measure => have := HK1.out; omega
       case rel => exact ⟨(wrap64 (x9_1 + 1)), (by first | rfl | (simp; done) | (simp [*]; done)), H', ⟨by have := HK1.out; omega⟩, by repeat (first | exact Drawn0.refl _ | apply Drawn0.step)⟩
      ·replace c7 := Bool.eq_false_iff.mpr c7
       subst c7
       have H1 : (some false) = some r := by rw [if_neg (show ¬ (false = true) by decide)] at H; exact H
       clear H
       have H := H1
       clear H1
       obtain rfl := Option.some.inj H
       have p1311 : 0 ≤ (x9_1 : Int) := of_decide_eq_true (by first | (with_reducible assumption) | assumption)
       have q1311 : x9_1 < (l1.length : Int) := of_decide_eq_true (by first | (with_reducible assumption) | assumption)
       obtain ⟨ad1311, e1311, hx1311_0⟩ := Kd.at_int HR1.out x9_1 p1311 q1311
       cases e1311
       replace p1311 := eq_true p1311
       replace q1311 := eq_true q1311
       go_wp2_with (first | ((with_reducible refine gate_callee (f := 67) rfl ?_); refine goesL_ (some 15) rfl rfl Try.func67 (by kernel_rfl) rfl #[.int .i64 a0, .int .i64 (rd l1 x9_1)] rfl (by (try simp only [List.map_toArray, List.map_cons, List.map_nil]); first | done | rfl) ?_; (with_reducible refine (impl_IsSet.calls a0 (rd l1 x9_1) false _ A6.out).mono ?_); rintro e w' ⟨rfl, ⟨nd, rfl⟩⟩; refine ⟨_, rfl, ?_⟩))
       go_ret
       exact ⟨by first | rfl | (simp; done) | (simp [*]; done), by repeat (first | exact Drawn0.refl _ | apply Drawn0.step)⟩
     ·rw [if_neg c5] at H
      exact absurd H (by simp)
    ·rw [if_neg c4] at H
     exact absurd H (by simp)
   ·rw [if_neg c3] at H
    have c3b0 : decide (x9_1 < (l1.length : Int)) = false := decide_eq_false c3
    clear c3
    replace H := Option.bind_eq_some_iff.mp H
    obtain ⟨t1313, A80, H⟩ := H
    (try dsimp only at H)
    have A8 := Aside0.mk A80
    clear A80
    obtain rfl := Option.some.inj H
    go_wp2_with (first | ((with_reducible refine gate_callee (f := 57) rfl ?_); refine goesL_ (some 19) rfl rfl Try.func57 (by kernel_rfl) rfl #[.int .i64 a0] rfl (by (try simp only [List.map_toArray, List.map_cons, List.map_nil]); first | done | rfl) ?_; (with_reducible refine (impl_isSize.calls a0 t1313 _ A8.out).mono ?_); rintro e w' ⟨rfl, ⟨nd, rfl⟩⟩; refine ⟨_, rfl, ?_⟩))
    go_ret
    exact ⟨by first | rfl | (simp; done) | (simp [*]; done), by repeat (first | exact Drawn0.refl _ | apply Drawn0.step)⟩
end Go.Proofs.Ytbjnkcfkhonkhaa.Pr
end
section
namespace Go.Proofs.Ytbjnkcfkhonkhaa.Pr
open Go.RowKit Go.Proofs.YtbjnkcfkhonkhaaW.PrintWords Go.Proofs.YtbjnkcfkhonkhaaW.PrintLast Go.Proofs.YtbjnkcfkhonkhaaW.PrintMore
attribute [local go_sem] max2_int min2_int max_two min_two max_three min_three max_four min_four
set_option linter.unusedVariables false
set_option linter.unusedSimpArgs false
def impl_ComplementSets.l0 : Nat → Int → List Int → List Int → Int → Int → Option (List Int)
 | 0, _, _, _, _, _ => none
 | k + 1, x0, x5, x13, x14, x15 => if x15 < x14 then (if 0 ≤ x15 then (if x15 < (x13.length : Int) then ((impl_FullSet.f x0).bind fun t1319 => (if x5.length < 17592186044416 then (impl_ComplementSets.l0 k x0 (x5 ++ [Go.bits .andNot .i64 t1319 (rd x13 x15)]) x13 x14 (wrap64 (x15 + 1))) else (none))) else (none)) else (none)) else ((impl_SortSets.f x5).bind fun t1323 => (some t1323))
def impl_ComplementSets.f (k : Nat) (a0 : Int) (l1 : List Int) : Option (List Int) := (impl_areSetsOf.f k a0 l1).bind fun t1314 => (if t1314 = true then (impl_ComplementSets.l0 k a0 (([] : List Int)) l1 (l1.length : Int) 0) else (some ([] : List Int)))
set_option maxHeartbeats 8000000 in
set_option maxRecDepth 100000 in
theorem impl_ComplementSets.calls (k : Nat) (a0 : Int) (A1 : Option Addr) (c1 : Nat) (l1 : List Int) (r : List Int) (w : World) (hr1 : Kd.C (Kd.int .i64) w A1 l1.length l1) (hc1 : l1.length ≤ c1) (h : impl_ComplementSets.f k a0 l1 = some r) :
  Calls Try.prog 168 #[.int .i64 a0, .slice A1 l1.length c1] w fun e w' => ∃ v0_ : Value, e = .returned (v0_) ∧ Kd.R (Kd.int .i64) 3 w' w.heap.size (fun _ => True) v0_ r ∧ Below w.heap.size w w' := by
 have HR1 := Aside0.mk hr1
 have HC1 := Aside0.mk hc1
 clear hr1 hc1
 have HB := Aside0.mk (Below.refl w.heap.size w)
 have H : ((impl_areSetsOf.f k a0 l1).bind fun t1314 => (if t1314 = true then (impl_ComplementSets.l0 k a0 (([] : List Int)) l1 (l1.length : Int) 0) else (some ([] : List Int)))) = some r := h
 clear h
 replace H := Option.bind_eq_some_iff.mp H
 obtain ⟨t1314, A30, H⟩ := H
 (try dsimp only at H)
 have A3 := Aside0.mk A30
 clear A30
 by_cases c4 : t1314 = true
 ·subst c4
  have H1 : (impl_ComplementSets.l0 k a0 (([] : List Int)) l1 (l1.length : Int) 0) = some r := by rw [if_pos rfl] at H; exact H
  clear H
  have H := H1
  clear H1
  obtain ⟨y1315, hy1315⟩ : ∃ y_ : List Int, y_ = (([] : List Int)) := ⟨_, rfl⟩
  replace H : (impl_ComplementSets.l0 k a0 y1315 l1 (l1.length : Int) 0) = some r := by first | (rw [hy1315]; with_reducible exact H) | (have H2_ := (Option.bind_some _ _).symm.trans H; rw [hy1315]; with_reducible exact H2_) | (have H2_ := (Option.bind_some _ _).symm.trans H; with_reducible exact H2_) | with_reducible exact H | (rw [hy1315]; exact H) | exact H
  have Ny1315 := Aside0.mk hy1315
  clear hy1315
  have H' := Aside0.mk H
  clear H
  go_enter Try.func168, Try.ntmps168
  go_wp2_with (first | ((with_reducible refine gate_callee (f := 185) rfl ?_); refine goesL_ (some 10) rfl rfl Try.func185 (by kernel_rfl) rfl #[.int .i64 a0, .slice A1 l1.length c1] rfl (by (try simp only [List.map_toArray, List.map_cons, List.map_nil]); first | done | rfl) ?_; (with_reducible refine (impl_areSetsOf.calls k a0 _ _ l1 true _ ?side1 ?side2 A3.out).mono ?_); (case side1 => exact Hof.Cw HR1.out); (case side2 => exact HC1.out); rintro e w' ⟨rfl, ⟨nd, rfl⟩⟩; refine ⟨_, rfl, ?_⟩) | ((with_reducible refine gate_dst (N := 12) rfl ?_); refine Kd.R_lit (Kd.int .i64) _ 3 ?hg (N := 12) ?hd (xs := ([] : List Int)) (inner := []) (ok := fun _ => True) (okp := fun _ => True) ?hr ?hp (fun _ hk => hk) trivial (Below.refl _ _) (Nat.le_refl _) (by simp) ?_; (case hd => rfl); (case hg => rfl); (case hr => first | (go_simp; done) | (go_simp; rfl)); (case hp => exact (Reps.none _ _)); intro v1316 w5 ho6 hb hg_ hnew_; clear hg_ hnew_; (first | rw [← Ny1315.out] at ho6 | (simp only [Int.reduceToNat] at ho6; rw [← Ny1315.out] at ho6)); have HO1317 := Aside0.mk (Kd.R_lower ho6 (below_size (Hof.Lw HB.out))); replace HB := Aside0.mk (below_step (Hof.Lw HB.out) hb); clear hb ho6))
  go_loopg [5, 15] k (fun kq v5 v15 w' => ∃ (x5_1 : List Int) (x15_1 : Int), v15 = .int .i64 x15_1 ∧ Aside0 (impl_ComplementSets.l0 kq a0 x5_1 l1 (l1.length : Int) x15_1 = some r) ∧ Aside0 (kq ≤ k) ∧ Aside0 (Kd.R (Kd.int .i64) 3 w' w.heap.size (fun _ => True) v5 x5_1) ∧ Aside0 (Below w.heap.size w w'))
  case atStart => exact ⟨(y1315), (0), (by first | rfl | (simp; done) | (simp [*]; done)), H', ⟨Nat.le_refl _⟩, ⟨Hof.Rw HO1317.out⟩, ⟨Hof.Lw HB.out⟩⟩
  case round =>
   clear H'
   try clear c1
   try clear p2
   try clear c4
   obtain ⟨x5_1, x15_1, rfl, HA, HK1, HO_5, HB⟩ := hrel
   cases gk with
   | zero => exact absurd HA.out (by simp [impl_ComplementSets.l0])
   | succ k1 =>
    have H := HA.out
    clear HA
    simp only [impl_ComplementSets.l0] at H
    by_cases c7 : x15_1 < (l1.length : Int)
    ·rw [if_pos c7] at H
     have c7b0 : decide (x15_1 < (l1.length : Int)) = true := decide_eq_true c7
     clear c7
     by_cases c8 : 0 ≤ x15_1
     ·rw [if_pos c8] at H
      have c8b0 : decide (0 ≤ x15_1) = true := decide_eq_true c8
      clear c8
      by_cases c9 : x15_1 < (l1.length : Int)
      ·rw [if_pos c9] at H
       have c9b0 : decide (x15_1 < (l1.length : Int)) = true := decide_eq_true c9
       clear c9
       replace H := Option.bind_eq_some_iff.mp H
       obtain ⟨t1319, A100, H⟩ := H
       (try dsimp only at H)
       have A10 := Aside0.mk A100
       clear A100
       by_cases c11 : x5_1.length < 17592186044416
       ·rw [if_pos c11] at H
        have LMc11 := Aside0.mk c11
        clear c11
        obtain ⟨y1320, hy1320⟩ : ∃ y_ : List Int, y_ = (x5_1 ++ [Go.bits .andNot .i64 t1319 (rd l1 x15_1)]) := ⟨_, rfl⟩
        replace H : (impl_ComplementSets.l0 k1 a0 y1320 l1 (l1.length : Int) (wrap64 (x15_1 + 1))) = some r := by first | (rw [hy1320]; with_reducible exact H) | (have H2_ := (Option.bind_some _ _).symm.trans H; rw [hy1320]; with_reducible exact H2_) | (have H2_ := (Option.bind_some _ _).symm.trans H; with_reducible exact H2_) | with_reducible exact H | (rw [hy1320]; exact H) | exact H
        have Ny1320 := Aside0.mk hy1320
        clear hy1320
        have H' := Aside0.mk H
        clear H
        have p1318 : 0 ≤ (x15_1 : Int) := of_decide_eq_true (by first | (with_reducible assumption) | assumption)
        have q1318 : x15_1 < (l1.length : Int) := of_decide_eq_true (by first | (with_reducible assumption) | assumption)
        obtain ⟨ad1318, e1318, hx1318_0⟩ := Kd.at_int HR1.out x15_1 p1318 q1318
        cases e1318
        try replace hx1318_0 := (HB.out.cell (World.block_lt_of_cell? w _ hx1318_0)).trans hx1318_0
        replace p1318 := eq_true p1318
        replace q1318 := eq_true q1318
        go_wp2_with (first | ((with_reducible refine gate_callee (f := 79) rfl ?_); refine goesL_ (some 21) rfl rfl Try.func79 (by kernel_rfl) rfl #[.int .i64 a0] rfl (by (try simp only [List.map_toArray, List.map_cons, List.map_nil]); first | done | rfl) ?_; (with_reducible refine (impl_FullSet.calls a0 t1319 _ A10.out).mono ?_); rintro e w' ⟨rfl, ⟨nd, rfl⟩⟩; refine ⟨_, rfl, ?_⟩) | ((with_reducible refine gate_builtin (b := .append) (xs := #[.tmp 19, .tmp 24]) rfl ?_); at_builtin; refine Kd.R_append (Kd.int .i64) (w0 := w) w.heap.size rfl (.tmp 19) (.tmp 24) 31 3 (.int .i64 0) 8 rfl Try.underlying31 info3 rfl (by decide) (by omega) u5 x5_1 (Go.bits .andNot .i64 t1319 (rd l1 x15_1)) [.int .i64 (Go.bits .andNot .i64 t1319 (rd l1 x15_1))] (fun _ => True) (fun _ => False) rfl rfl ?aP (fun _ hk => hk.elim) ?aF ?aO ?aB ?aS ?aL ?_; (case aP => exact rfl); (case aB => exact (Hof.Lw HB.out)); (case aF => exact (fun _ _ => trivial)); (case aO => exact (Hof.Rw HO_5.out)); (case aS => exact (below_size (Hof.Lw HB.out))); (case aL => have := LMc11.out; omega); intro v1321 w12 ho hb hg hat; rw [← Ny1320.out] at ho; have n0_ := Aside0.mk hb; have n1_ := Aside0.mk ho; clear HB; clear HO_5; have HB := n0_; have HO1322 := n1_; clear n0_ n1_; clear ho hb hg hat))
        go_roundg k1
        case measure => have := HK1.out; omega
        case rel => exact ⟨(y1320), (wrap64 (x15_1 + 1)), (by first | rfl | (simp; done) | (simp [*]; done)), H', ⟨by have := HK1.out; omega⟩, ⟨Hof.Rw HO1322.out⟩, ⟨Hof.Lw HB.out⟩⟩
       ·rw [if_neg c11] at H
        exact absurd H (by simp)
      ·rw [if_neg c9] at H
       exact absurd H (by simp)
     ·rw [if_neg c8] at H
      exact absurd H (by simp)
    ·rw [if_neg c7] at H
     have c7b0 : decide (x15_1 < (l1.length : Int)) = false := decide_eq_false c7
     clear c7
     replace H := Option.bind_eq_some_iff.mp H
     obtain ⟨t1323, A130, H⟩ := H
     (try dsimp only at H)
     have A13 := Aside0.mk A130
     clear A130
     obtain rfl := Option.some.inj H
     obtain ⟨Ao14, co14, eo14⟩ := Kd.R_slice HO_5.out
     subst eo14
     go_wp2_with (first | ((with_reducible refine gate_callee (f := 102) rfl ?_); refine goesL_ (some 28) rfl rfl Try.func102 (by kernel_rfl) rfl #[.slice Ao14 x5_1.length co14] rfl (by (try simp only [List.map_toArray, List.map_cons, List.map_nil]); first | done | rfl) ?_; (with_reducible refine (impl_SortSets.calls _ _ x5_1 t1323 _ ?side1 ?side2 A13.out).mono ?_); (case side1 => exact Hof.Cw ((Kd.R_reads' HO_5.out).2.2)); (case side2 => exact (Kd.R_reads' HO_5.out).2.1); rintro e w15 ⟨v1324, rfl, ho0, hb⟩; refine ⟨_, rfl, ?_⟩; have HO1325 := Aside0.mk (Kd.R_lower (Kd.R_new' ho0 (Kd.R_lt (Hof.Rw HO_5.out))) (below_size (Hof.Lw HB.out))); replace HO_5 := Aside0.mk (Kd.R_elder' (Hof.Rw HO_5.out) (Kd.R_base ho0) hb); replace HB := Aside0.mk (below_step (Hof.Lw HB.out) hb); (try clear hb); (try clear hb2); (try clear hk); (try clear hi); (try clear ho0)))
     go_ret
     exact ⟨_, by first | rfl | (simp [errW_none, errW_some] <;> rfl) | (simp [*, errW_none, errW_some] <;> rfl), by (with_reducible repeat (first | apply Kd.R_alloc | apply Kd.R_drewN | apply Kd.R_drew)); exact Kd.R_mono HO1325.out (fun _ hk => trivial), by repeat (first | (with_reducible first | exact HB.out | apply below_alloc | apply pw_below_drewN | apply below_drew1) | exact HB.out)⟩
 ·replace c4 := Bool.eq_false_iff.mpr c4
  subst c4
  have H1 : (some ([] : List Int)) = some r := by rw [if_neg (show ¬ (false = true) by decide)] at H; exact H
  clear H
  have H := H1
  clear H1
  obtain rfl := Option.some.inj H
  go_enter Try.func168, Try.ntmps168
  go_wp2_with (first | ((with_reducible refine gate_callee (f := 185) rfl ?_); refine goesL_ (some 10) rfl rfl Try.func185 (by kernel_rfl) rfl #[.int .i64 a0, .slice A1 l1.length c1] rfl (by (try simp only [List.map_toArray, List.map_cons, List.map_nil]); first | done | rfl) ?_; (with_reducible refine (impl_areSetsOf.calls k a0 _ _ l1 false _ ?side1 ?side2 A3.out).mono ?_); (case side1 => exact Hof.Cw HR1.out); (case side2 => exact HC1.out); rintro e w' ⟨rfl, ⟨nd, rfl⟩⟩; refine ⟨_, rfl, ?_⟩))
  go_ret
  exact ⟨_, by first | rfl | (simp [errW_none, errW_some] <;> rfl) | (simp [*, errW_none, errW_some] <;> rfl), by first | exact Kd.R_nil _ _ _ _ _ | exact Kd.N_nil _ _ _ _ _ | exact Kd.V_nil _ _ _ _ _ | exact Kd.Q_nil _ _ _ _ _ | exact Kd.S_nil _ _ _ _ _, by repeat (first | (with_reducible first | exact HB.out | apply below_alloc | apply pw_below_drewN | apply below_drew1) | exact HB.out)⟩
end Go.Proofs.Ytbjnkcfkhonkhaa.Pr
end
section
namespace Go.Proofs.Ytbjnkcfkhonkhaa.Pr
open Go.RowKit Go.Proofs.YtbjnkcfkhonkhaaW.PrintWords Go.Proofs.YtbjnkcfkhonkhaaW.PrintLast Go.Proofs.YtbjnkcfkhonkhaaW.PrintMore
attribute [local go_sem] max2_int min2_int max_two min_two max_three min_three max_four min_four
set_option linter.unusedVariables false
set_option linter.unusedSimpArgs false
def impl_DualOf.f (k : Nat) (a0_0 : Int) (l0_1 : List Int) : Option (Int × List Int) := (impl_IsMatroid.f k a0_0 l0_1).bind fun t1328 => (if t1328 = true then ((impl_ComplementSets.f k a0_0 l0_1).bind fun t1329 => (some (a0_0, t1329))) else (some (0, ([] : List Int))))
def impl_DualOf.T3 : Bool × List (List Nat × List Nat) := (true, [([], []), ([0], [0]), ([], []), ([2], [2]), ([], []), ([4], [4]), ([3, 5], [3, 5]), ([1, 6], [1, 6]), ([7, 6, 0, 1, 2, 3, 4, 5, 6, 7], [7])])
def impl_DualOf.B3 : List Nat := [0, 1, 0, 4, 0, 16, 60, 127, 255]
theorem impl_DualOf.tab3 : rtab .any (opsOf Try.f145 3) = impl_DualOf.T3 := by kernel_rfl
theorem impl_DualOf.bits3 : waitsOk impl_DualOf.T3.2 impl_DualOf.B3 = true := by kernel_rfl
set_option maxHeartbeats 8000000 in
set_option maxRecDepth 100000 in
theorem impl_DualOf.calls (k : Nat) (a0_0 : Int) (A0_1 : Option Addr) (c0_1 : Nat) (l0_1 : List Int) (r1 : Int) (r2 : List Int) (w : World) (hr0_1 : Kd.C (Kd.int .i64) w A0_1 l0_1.length l0_1) (hc0_1 : l0_1.length ≤ c0_1) (h : impl_DualOf.f k a0_0 l0_1 = some (r1, r2)) :
  Calls Try.prog 145 #[.agg #[.int .i64 a0_0, .slice A0_1 l0_1.length c0_1]] w fun e w' => ∃ v1_ : Value, e = .returned (.agg #[.int .i64 r1, v1_]) ∧ Kd.R (Kd.int .i64) 3 w' w.heap.size (fun _ => True) v1_ r2 ∧ Below w.heap.size w w' := by
 have hu45 := Try.underlying45
 have HR0_1 := Aside0.mk hr0_1
 have HC0_1 := Aside0.mk hc0_1
 clear hr0_1 hc0_1
 have HB := Aside0.mk (Below.refl w.heap.size w)
 have H : ((impl_IsMatroid.f k a0_0 l0_1).bind fun t1328 => (if t1328 = true then ((impl_ComplementSets.f k a0_0 l0_1).bind fun t1329 => (some (a0_0, t1329))) else (some (0, ([] : List Int))))) = some (r1, r2) := h
 clear h
 replace H := Option.bind_eq_some_iff.mp H
 obtain ⟨t1328, A20, H⟩ := H
 (try dsimp only at H)
 have A2 := Aside0.mk A20
 clear A20
 by_cases c3 : t1328 = true
 ·subst c3
  have H1 : ((impl_ComplementSets.f k a0_0 l0_1).bind fun t1329 => (some (a0_0, t1329))) = some (r1, r2) := by rw [if_pos rfl] at H; exact H
  clear H
  have H := H1
  clear H1
  replace H := Option.bind_eq_some_iff.mp H
  obtain ⟨t1329, A40, H⟩ := H
  (try dsimp only at H)
  have A4 := Aside0.mk A40
  clear A40
  simp only [Option.some.injEq, Prod.mk.injEq] at H
  obtain ⟨rfl, rfl⟩ := H
  go_enter Try.func145, Try.ntmps145
  try go_wp2_with (first | ((with_reducible refine gate_dst (N := 1) rfl ?_); refine box_event ?hg (N := 1) ?hd (cs := #[.int .i64 a0_0, .slice A0_1 l0_1.length c0_1]) (t := 45) ?hr ?_; (case hd => rfl); (case hg => rfl); (case hr => first | (go_simp; done) | (go_simp; rfl)); intro gb1326 hg w5 hbox hb; have BK1326 := Aside0.mk hbox; have GW1326 := Aside0.mk ((by rw [hg]; exact (below_size (Hof.Lw HB.out)) : w.heap.size ≤ gb1326)); have GE1326 := Aside0.mk ((by rw [hg]; exact (below_size (Hof.Lw HB.out)) : w.heap.size ≤ gb1326)); replace HB := Aside0.mk (below_step (Hof.Lw HB.out) hb); clear hb hbox hg) | ((with_reducible refine gate_dst (N := 2) rfl ?_); refine box_event ?hg (N := 2) ?hd (cs := #[.int .i64 0, .slice none 0 0]) (t := 45) ?hr ?_; (case hd => rfl); (case hg => rfl); (case hr => first | (go_simp; done) | (go_simp; rfl)); intro gb1327 hg w6 hbox hb; have BK1327 := Aside0.mk hbox; have GW1327 := Aside0.mk ((by rw [hg]; exact (below_size (Hof.Lw HB.out)) : w.heap.size ≤ gb1327)); have GE1327 := Aside0.mk ((by rw [hg]; exact (below_size (Hof.Lw HB.out)) : w.heap.size ≤ gb1327)); replace HB := Aside0.mk (below_step (Hof.Lw HB.out) hb); have NB1326_1327 := Aside0.mk ((by rw [hg]; exact Nat.ne_of_lt (blk_lt (g := gb1326) (o := .cells #[.int .i64 a0_0, .slice A0_1 l0_1.length c0_1] 45 (0, 0)) (Hof.Bw BK1326.out)) : gb1326 ≠ gb1327)); have NB1327_1326 := Aside0.mk ((by rw [hg]; exact Nat.ne_of_gt (blk_lt (g := gb1326) (o := .cells #[.int .i64 a0_0, .slice A0_1 l0_1.length c0_1] 45 (0, 0)) (Hof.Bw BK1326.out)) : gb1327 ≠ gb1326)); replace BK1326 := Aside0.mk (blk_below (Hof.Bw BK1326.out) hb); clear hb hbox hg; have hnb7 := NB1326_1327.out; have hnc7 := NB1327_1326.out; obtain ⟨hcz8_0, hcz8_1, hfz8_0, hfz8_1⟩ := Hof.blk2 BK1326.out) | ((with_reducible refine gate_callee (f := 85) rfl ?_); refine goesL_ (some 4) rfl rfl Try.func85 (by kernel_rfl) rfl #[.agg #[.int .i64 a0_0, .slice A0_1 l0_1.length c0_1]] rfl (by (try simp only [List.map_toArray, List.map_cons, List.map_nil]); first | done | rfl) ?_; (with_reducible refine (impl_IsMatroid.calls k a0_0 _ _ l0_1 true _ ?side1 ?side2 A2.out).mono ?_); (case side1 => exact Hof.Cw (Kd.C_below HR0_1.out HB.out)); (case side2 => exact HC0_1.out); rintro e w9 ⟨rfl, hb⟩; refine ⟨_, rfl, ?_⟩; replace BK1326 := Aside0.mk (blk_below (Hof.Bw BK1326.out) hb); replace BK1327 := Aside0.mk (blk_below (Hof.Bw BK1327.out) hb); replace HB := Aside0.mk (below_step (Hof.Lw HB.out) hb); (try clear hb); (try clear hb2); (try clear hk); (try clear hi)))
  have n0_ := Aside0.mk (blk_drew BK1326.out)
  have n1_ := Aside0.mk (blk_drew BK1327.out)
  have n2_ := Aside0.mk (below_drew1 HB.out)
  clear BK1326
  clear BK1327
  clear HB
  have BK1326 := n0_
  have BK1327 := n1_
  have HB := n2_
  clear n0_ n1_ n2_
  refine start_ (n := 9) (S := fun w' => w'.cell? ⟨gb1326, 0, none⟩ = some (.int .i64 a0_0) ∧ w'.cell? ⟨gb1326, 1, none⟩ = some (.slice A0_1 l0_1.length c0_1)) (ds := []) #[false, false, false, false, false, false, false, false, false] (by kernel_rfl) rfl rfl ⟨(blk_cell BK1326.out 0).trans rfl, (blk_cell BK1326.out 1).trans rfl⟩ (fun hHeld => ?_); refine with_tabW impl_DualOf.tab3 impl_DualOf.bits3 (fun HT_ HW_ => ?_)
  generalize w9.drew = w10 at BK1326 BK1327 HB hHeld ⊢
  refine pure_ (i := 0) (N := some 7) (v := ?_) (a' := ?_) #[true, false, false, false, false, false, false, false, false] rfl rfl (any_of HT_.out (by kernel_rfl)) (fun _ _ _ h => h) (Or.inl ⟨by rfl, ?_⟩) ?_ ?_
  rotate_left
  ·intro w'
   go_simp
   with_reducible rfl
  rotate_left
  ·simp only [Act.put, List.setIfInBounds_toArray, List.set_cons_zero, List.set_cons_succ, i64_w, i32_w]
   rfl
  refine pure_ (i := 2) (N := some 9) (v := ?_) (a' := ?_) #[true, false, true, false, false, false, false, false, false] rfl rfl (any_of HT_.out (by kernel_rfl)) (fun _ _ _ h => h) (Or.inl ⟨by rfl, ?_⟩) ?_ ?_
  rotate_left
  ·intro w'
   go_simp
   with_reducible rfl
  rotate_left
  ·simp only [Act.put, List.setIfInBounds_toArray, List.set_cons_zero, List.set_cons_succ, i64_w, i32_w]
   rfl
  refine pure_ (i := 4) (N := some 11) (v := ?_) (a' := ?_) #[true, false, true, false, true, false, false, false, false] rfl rfl (any_of HT_.out (by kernel_rfl)) (fun _ _ _ h => h) (Or.inl ⟨by rfl, ?_⟩) ?_ ?_
  rotate_left
  ·intro w'
   go_simp
   with_reducible rfl
  rotate_left
  ·simp only [Act.put, List.setIfInBounds_toArray, List.set_cons_zero, List.set_cons_succ, i64_w, i32_w]
   rfl
  refine take_ (i := 1) (N := some 8) (v := ?_) (a' := ?_) #[true, true, true, false, true, false, false, false, false] rfl rfl (take_ofW HT_.out HW_.out (by kernel_rfl)) (fun _ _ _ h => h) (Or.inl ⟨by rfl, ?_⟩) hHeld ?_ ?_
  rotate_left
  ·rintro w' ⟨s0, s1⟩
   go_simp
   with_reducible rfl
  rotate_left
  ·simp only [Act.put, List.setIfInBounds_toArray, List.set_cons_zero, List.set_cons_succ, i64_w, i32_w]
   rfl
  refine take_ (i := 3) (N := some 10) (v := ?_) (a' := ?_) #[true, true, true, true, true, false, false, false, false] rfl rfl (take_ofW HT_.out HW_.out (by kernel_rfl)) (fun _ _ _ h => h) (Or.inl ⟨by rfl, ?_⟩) hHeld ?_ ?_
  rotate_left
  ·rintro w' ⟨s0, s1⟩
   go_simp
   with_reducible rfl
  rotate_left
  ·simp only [Act.put, List.setIfInBounds_toArray, List.set_cons_zero, List.set_cons_succ, i64_w, i32_w]
   rfl
  refine take_ (i := 5) (N := some 12) (v := ?_) (a' := ?_) #[true, true, true, true, true, true, false, false, false] rfl rfl (take_ofW HT_.out HW_.out (by kernel_rfl)) (fun _ _ _ h => h) (Or.inl ⟨by rfl, ?_⟩) hHeld ?_ ?_
  rotate_left
  ·rintro w' ⟨s0, s1⟩
   go_simp
   with_reducible rfl
  rotate_left
  ·simp only [Act.put, List.setIfInBounds_toArray, List.set_cons_zero, List.set_cons_succ, i64_w, i32_w]
   rfl
  refine one_ (i := 6) (N := some 13) #[true, true, true, true, true, true, true, false, false] rfl rfl (one_of HT_.out (by kernel_rfl)) (by decide) (fun K hK => ?_)
  refine goes_ Try.func168 (by kernel_rfl) rfl #[.int .i64 a0_0, .slice A0_1 l0_1.length c0_1] (by rfl) rfl rfl (by (try simp only [List.map_toArray, List.map_cons, List.map_nil]); first | done | rfl) ?_
  with_reducible refine (impl_ComplementSets.calls k a0_0 _ _ l0_1 t1329 _ ?side1 ?side2 A4.out).mono ?_
  (case side1 => exact Hof.Cw (Kd.C_below HR0_1.out HB.out))
  (case side2 => exact HC0_1.out)
  rintro e w11 ⟨v1330, rfl, ho0, hb⟩
  refine ⟨_, rfl, ?_⟩
  have n0_ := Aside0.mk (Kd.R_lower ho0 (below_size (Hof.Lw HB.out)))
  have n1_ := Aside0.mk (blk_below (Hof.Bw BK1326.out) hb)
  have n2_ := Aside0.mk (blk_below (Hof.Bw BK1327.out) hb)
  have n3_ := Aside0.mk (below_step (Hof.Lw HB.out) hb)
  clear BK1326
  clear BK1327
  clear HB
  have HO1331 := n0_
  have BK1326 := n1_
  have BK1327 := n2_
  have HB := n3_
  clear n0_ n1_ n2_ n3_
  (try clear hb)
  (try clear hb2)
  (try clear hk)
  (try clear hi)
  (try clear ho0)
  obtain ⟨Ao12, co12, eo12⟩ := Kd.R_slice HO1331.out
  (first | subst eo12 | (injection eo12 with f1_ f2_ f3_; have f4_ := f1_.symm; have f5_ := f3_.symm; clear f1_ f2_ f3_; subst f4_; subst f5_))
  refine hK.out _ _ ⟨(blk_cell BK1326.out 0).trans rfl, (blk_cell BK1326.out 1).trans rfl⟩ (fun hHeld => ?_)
  clear hK K
  refine norm_ (a' := ?_) ?_ ?_
  rotate_left
  ·show Act.put _ (some 13) _ = _
   simp only [Act.put, List.setIfInBounds_toArray, List.set_cons_zero, List.set_cons_succ, i64_w, i32_w]
   rfl
  refine pure_ (i := 7) (N := some 14) (v := ?_) (a' := ?_) #[true, true, true, true, true, true, true, true, false] rfl rfl (any_of HT_.out (by kernel_rfl)) (fun _ _ _ h => h) (Or.inl ⟨by rfl, ?_⟩) ?_ ?_
  rotate_left
  ·intro w'
   go_simp
   with_reducible rfl
  rotate_left
  ·simp only [Act.put, List.setIfInBounds_toArray, List.set_cons_zero, List.set_cons_succ, i64_w, i32_w]
   rfl
  refine one_ (i := 8) (N := none) #[true, true, true, true, true, true, true, true, true] rfl rfl (one_of HT_.out (by kernel_rfl)) (by decide) (fun K hK => ?_)
  have hs13 : w11.cell? ⟨gb1327, 0, none⟩ = some (.int .i64 0) := (blk_cell BK1327.out 0).trans rfl
  have hfs13 := blk_frozen BK1327.out 0
  have hns13_0 := NB1326_1327.out
  have hms13_0 := NB1327_1326.out
  have hs14 : w11.cell? ⟨gb1327, 1, none⟩ = some (.slice none 0 0) := (blk_cell BK1327.out 1).trans rfl
  have hfs14 := blk_frozen BK1327.out 1
  have hns14_0 := NB1326_1327.out
  have hms14_0 := NB1327_1326.out
  refine skip_ (w1 := ?_) (by rfl) rfl ?_ ?_
  rotate_left
  ·go_simp
   rfl
  refine hK.out _ _ ⟨((cell_far (p := ⟨gb1327, _, none⟩) NB1326_1327.out _).trans (((cell_far (p := ⟨gb1327, _, none⟩) NB1326_1327.out _).trans (hHeld.1)))), ((cell_far (p := ⟨gb1327, _, none⟩) NB1326_1327.out _).trans (((cell_far (p := ⟨gb1327, _, none⟩) NB1326_1327.out _).trans (hHeld.2))))⟩ (fun hHeld => ?_)
  clear hK K
  refine done_ (done_of HT_.out (by kernel_rfl)) ?_
  try go_wp2
  refine bodyPost_ret (results_cell_row rfl _ _ gb1327 45 #[.int .i64 a0_0, .slice Ao12 t1329.length co12] (0, 0) _ rfl (by (with_reducible repeat (first | refine blk_drewN ?_ _ | refine blk_drew ?_ | refine blk_alloc ?_ _)); refine blk_put (cs := #[.int .i64 a0_0, .slice none 0 0]) ?_ 1 _ rfl; (with_reducible repeat (first | refine blk_drewN ?_ _ | refine blk_drew ?_ | refine blk_alloc ?_ _)); refine blk_put (cs := #[.int .i64 0, .slice none 0 0]) ?_ 0 _ rfl; (with_reducible repeat (first | refine blk_drewN ?_ _ | refine blk_drew ?_ | refine blk_alloc ?_ _)); exact BK1327.out) Try.underlying45 rfl (by kernel_rfl)) rfl ?_
  exact ⟨_, by first | rfl | (simp [errW_none, errW_some] <;> rfl) | (simp [*, errW_none, errW_some] <;> rfl), by (with_reducible repeat (first | apply Kd.R_alloc | apply Kd.R_drewN | apply Kd.R_drew)); exact Kd.R_mono (Kd.R_far (p := ⟨gb1327, 1, none⟩) (Kd.R_far (p := ⟨gb1327, 0, none⟩) (Kd.R_types HO1331.out BK1327.out (by decide)) (fun _ hk => hk.2) (.int .i64 a0_0)) (fun _ hk => hk.2) (.slice Ao12 t1329.length co12)) (fun _ hk => trivial), by repeat (first | (with_reducible first | exact HB.out | apply below_alloc | apply pw_below_drewN | apply below_drew1 | refine below_set ?_ GE1326.out | refine below_set ?_ GE1327.out) | exact HB.out)⟩
 ·replace c3 := Bool.eq_false_iff.mpr c3
  subst c3
  have H1 : (some (0, ([] : List Int))) = some (r1, r2) := by rw [if_neg (show ¬ (false = true) by decide)] at H; exact H
  clear H
  have H := H1
  clear H1
  simp only [Option.some.injEq, Prod.mk.injEq] at H
  obtain ⟨rfl, rfl⟩ := H
  go_enter Try.func145, Try.ntmps145
  go_wp2_with (first | ((with_reducible refine gate_dst (N := 1) rfl ?_); refine box_event ?hg (N := 1) ?hd (cs := #[.int .i64 a0_0, .slice A0_1 l0_1.length c0_1]) (t := 45) ?hr ?_; (case hd => rfl); (case hg => rfl); (case hr => first | (go_simp; done) | (go_simp; rfl)); intro gb1326 hg w15 hbox hb; have BK1326 := Aside0.mk hbox; have GW1326 := Aside0.mk ((by rw [hg]; exact (below_size (Hof.Lw HB.out)) : w.heap.size ≤ gb1326)); have GE1326 := Aside0.mk ((by rw [hg]; exact (below_size (Hof.Lw HB.out)) : w.heap.size ≤ gb1326)); replace HB := Aside0.mk (below_step (Hof.Lw HB.out) hb); clear hb hbox hg) | ((with_reducible refine gate_dst (N := 2) rfl ?_); refine box_event ?hg (N := 2) ?hd (cs := #[.int .i64 0, .slice none 0 0]) (t := 45) ?hr ?_; (case hd => rfl); (case hg => rfl); (case hr => first | (go_simp; done) | (go_simp; rfl)); intro gb1327 hg w16 hbox hb; have BK1327 := Aside0.mk hbox; have GW1327 := Aside0.mk ((by rw [hg]; exact (below_size (Hof.Lw HB.out)) : w.heap.size ≤ gb1327)); have GE1327 := Aside0.mk ((by rw [hg]; exact (below_size (Hof.Lw HB.out)) : w.heap.size ≤ gb1327)); replace HB := Aside0.mk (below_step (Hof.Lw HB.out) hb); have NB1326_1327 := Aside0.mk ((by rw [hg]; exact Nat.ne_of_lt (blk_lt (g := gb1326) (o := .cells #[.int .i64 a0_0, .slice A0_1 l0_1.length c0_1] 45 (0, 0)) (Hof.Bw BK1326.out)) : gb1326 ≠ gb1327)); have NB1327_1326 := Aside0.mk ((by rw [hg]; exact Nat.ne_of_gt (blk_lt (g := gb1326) (o := .cells #[.int .i64 a0_0, .slice A0_1 l0_1.length c0_1] 45 (0, 0)) (Hof.Bw BK1326.out)) : gb1327 ≠ gb1326)); replace BK1326 := Aside0.mk (blk_below (Hof.Bw BK1326.out) hb); clear hb hbox hg; have hnb17 := NB1326_1327.out; have hnc17 := NB1327_1326.out; obtain ⟨hcz18_0, hcz18_1, hfz18_0, hfz18_1⟩ := Hof.blk2 BK1326.out) | ((with_reducible refine gate_callee (f := 85) rfl ?_); refine goesL_ (some 4) rfl rfl Try.func85 (by kernel_rfl) rfl #[.agg #[.int .i64 a0_0, .slice A0_1 l0_1.length c0_1]] rfl (by (try simp only [List.map_toArray, List.map_cons, List.map_nil]); first | done | rfl) ?_; (with_reducible refine (impl_IsMatroid.calls k a0_0 _ _ l0_1 false _ ?side1 ?side2 A2.out).mono ?_); (case side1 => exact Hof.Cw (Kd.C_below HR0_1.out HB.out)); (case side2 => exact HC0_1.out); rintro e w19 ⟨rfl, hb⟩; refine ⟨_, rfl, ?_⟩; replace BK1326 := Aside0.mk (blk_below (Hof.Bw BK1326.out) hb); replace BK1327 := Aside0.mk (blk_below (Hof.Bw BK1327.out) hb); replace HB := Aside0.mk (below_step (Hof.Lw HB.out) hb); (try clear hb); (try clear hb2); (try clear hk); (try clear hi); obtain ⟨hcz20_0, hcz20_1, hfz20_0, hfz20_1⟩ := Hof.blk2 BK1327.out))
  refine bodyPost_ret (results_cell_row rfl _ _ gb1327 45 #[.int .i64 0, .slice none 0 0] (0, 0) _ rfl (by (with_reducible repeat (first | refine blk_drewN ?_ _ | refine blk_drew ?_ | refine blk_alloc ?_ _)); refine blk_put (cs := #[.int .i64 0, .slice none 0 0]) ?_ 1 _ rfl; (with_reducible repeat (first | refine blk_drewN ?_ _ | refine blk_drew ?_ | refine blk_alloc ?_ _)); refine blk_put (cs := #[.int .i64 0, .slice none 0 0]) ?_ 0 _ rfl; (with_reducible repeat (first | refine blk_drewN ?_ _ | refine blk_drew ?_ | refine blk_alloc ?_ _)); exact BK1327.out) Try.underlying45 rfl (by kernel_rfl)) rfl ?_
  exact ⟨_, by first | rfl | (simp [errW_none, errW_some] <;> rfl) | (simp [*, errW_none, errW_some] <;> rfl), by first | exact Kd.R_nil _ _ _ _ _ | exact Kd.N_nil _ _ _ _ _ | exact Kd.V_nil _ _ _ _ _ | exact Kd.Q_nil _ _ _ _ _ | exact Kd.S_nil _ _ _ _ _, by repeat (first | (with_reducible first | exact HB.out | apply below_alloc | apply pw_below_drewN | apply below_drew1 | refine below_set ?_ GE1326.out | refine below_set ?_ GE1327.out) | exact HB.out)⟩
end Go.Proofs.Ytbjnkcfkhonkhaa.Pr
end
section
namespace Go.Proofs.Ytbjnkcfkhonkhaa.Pr
open Go.RowKit Go.Proofs.YtbjnkcfkhonkhaaW.PrintWords Go.Proofs.YtbjnkcfkhonkhaaW.PrintLast Go.Proofs.YtbjnkcfkhonkhaaW.PrintMore
attribute [local go_sem] max2_int min2_int max_two min_two max_three min_three max_four min_four
set_option linter.unusedVariables false
set_option linter.unusedSimpArgs false
def impl_InternalActivity.j0 : Nat → Int → Bool → Int → List Int → Option (Int)
 | 0, _, _, _, _ => none
 | k + 1, x1, x14, x1333000, x1333001 => if x14 = true then (some 0) else ((impl_DualOf.f k x1333000 x1333001).bind fun bt1335 => ((impl_FullSet.f x1333000).bind fun t1339 => ((impl_ExternalActivity.f k bt1335.1 bt1335.2 (Go.bits .andNot .i64 t1339 x1)).bind fun t1340 => (some t1340))))
def impl_InternalActivity.f (k : Nat) (a0_0 : Int) (l0_1 : List Int) (a1 : Int) : Option (Int) := (impl_IsMatroid.f k a0_0 l0_1).bind fun t1333 => (if t1333 = true then ((impl_HasSet.f k l0_1 a1).bind fun t1334 => (impl_InternalActivity.j0 k a1 (!t1334) a0_0 l0_1)) else (impl_InternalActivity.j0 k a1 true a0_0 l0_1))
def impl_InternalActivity.T3 : Bool × List (List Nat × List Nat) := (true, [([], []), ([0], [0]), ([], []), ([2], [2]), ([3, 1], [3]), ([], []), ([4, 5], [4, 5]), ([1, 6, 4], [1, 6]), ([7, 7, 0, 1, 2, 3, 4, 5, 6, 7], [7])])
def impl_InternalActivity.B3 : List Nat := [0, 1, 0, 4, 15, 0, 63, 127, 255]
theorem impl_InternalActivity.tab3 : rtab .any (opsOf Try.f111 3) = impl_InternalActivity.T3 := by kernel_rfl
theorem impl_InternalActivity.bits3 : waitsOk impl_InternalActivity.T3.2 impl_InternalActivity.B3 = true := by kernel_rfl
set_option maxHeartbeats 8000000 in
set_option maxRecDepth 100000 in
theorem impl_InternalActivity.calls (k : Nat) (a0_0 : Int) (A0_1 : Option Addr) (c0_1 : Nat) (l0_1 : List Int) (a1 : Int) (r : Int) (w : World) (hr0_1 : Kd.C (Kd.int .i64) w A0_1 l0_1.length l0_1) (hc0_1 : l0_1.length ≤ c0_1) (h : impl_InternalActivity.f k a0_0 l0_1 a1 = some r) :
  Calls Try.prog 111 #[.agg #[.int .i64 a0_0, .slice A0_1 l0_1.length c0_1], .int .i64 a1] w fun e w' => e = .returned (.int .i64 r) ∧ Below w.heap.size w w' := by
 have hu45 := Try.underlying45
 have HR0_1 := Aside0.mk hr0_1
 have HC0_1 := Aside0.mk hc0_1
 clear hr0_1 hc0_1
 have HB := Aside0.mk (Below.refl w.heap.size w)
 have H : ((impl_IsMatroid.f k a0_0 l0_1).bind fun t1333 => (if t1333 = true then ((impl_HasSet.f k l0_1 a1).bind fun t1334 => (impl_InternalActivity.j0 k a1 (!t1334) a0_0 l0_1)) else (impl_InternalActivity.j0 k a1 true a0_0 l0_1))) = some r := h
 clear h
 have HC3 := Aside0.mk H
 clear H
 go_enter Try.func111, Try.ntmps111
 go_upto_region 1 with (first | ((with_reducible refine gate_dst (N := 2) rfl ?_); refine box_event ?hg (N := 2) ?hd (cs := #[.int .i64 a0_0, .slice A0_1 l0_1.length c0_1]) (t := 45) ?hr ?_; (case hd => rfl); (case hg => rfl); (case hr => first | (go_simp; done) | (go_simp; rfl)); intro gb1332 hg w4 hbox hb; have BK1332 := Aside0.mk hbox; have GW1332 := Aside0.mk ((by rw [hg]; exact (below_size (Hof.Lw HB.out)) : w.heap.size ≤ gb1332)); have GE1332 := Aside0.mk ((by rw [hg]; exact (below_size (Hof.Lw HB.out)) : w.heap.size ≤ gb1332)); replace HB := Aside0.mk (below_step (Hof.Lw HB.out) hb); clear hb hbox hg))
 (try simp only [Act.put, List.setIfInBounds_toArray, List.set_cons_zero, List.set_cons_succ])
 go_cut [14] (fun v14 wc => ∃ (kq : Nat) (x14_2 : Bool), v14 = .bool x14_2 ∧ Aside0 (impl_InternalActivity.j0 kq a1 x14_2 a0_0 l0_1 = some r) ∧ Aside0 (kq ≤ k) ∧ Aside0 (wc.heap[gb1332]? = some (.cells #[.int .i64 a0_0, (.slice A0_1 l0_1.length c0_1)] 45 (0, 0))) ∧ Aside0 (Below w.heap.size w wc))
 case first =>
  have H := HC3.out
  clear HC3
  replace H := Option.bind_eq_some_iff.mp H
  obtain ⟨t1333, A50, H⟩ := H
  (try dsimp only at H)
  have A5 := Aside0.mk A50
  clear A50
  by_cases c6 : t1333 = true
  ·subst c6
   have H1 : ((impl_HasSet.f k l0_1 a1).bind fun t1334 => (impl_InternalActivity.j0 k a1 (!t1334) a0_0 l0_1)) = some r := by rw [if_pos rfl] at H; exact H
   clear H
   have H := H1
   clear H1
   replace H := Option.bind_eq_some_iff.mp H
   obtain ⟨t1334, A70, H⟩ := H
   (try dsimp only at H)
   have A7 := Aside0.mk A70
   clear A70
   have H' := Aside0.mk H
   clear H
   obtain ⟨hcz8_0, hcz8_1, hfz8_0, hfz8_1⟩ := Hof.blk2 BK1332.out
   go_wp2_with (first | ((with_reducible refine gate_callee (f := 85) rfl ?_); refine goesL_ (some 6) rfl rfl Try.func85 (by kernel_rfl) rfl #[.agg #[.int .i64 a0_0, .slice A0_1 l0_1.length c0_1]] rfl (by (try simp only [List.map_toArray, List.map_cons, List.map_nil]); first | done | rfl) ?_; (with_reducible refine (impl_IsMatroid.calls k a0_0 _ _ l0_1 true _ ?side1 ?side2 A5.out).mono ?_); (case side1 => exact Hof.Cw (Kd.C_below HR0_1.out HB.out)); (case side2 => exact HC0_1.out); rintro e w9 ⟨rfl, hb⟩; refine ⟨_, rfl, ?_⟩; replace BK1332 := Aside0.mk (blk_below (Hof.Bw BK1332.out) hb); replace HB := Aside0.mk (below_step (Hof.Lw HB.out) hb); (try clear hb); (try clear hb2); (try clear hk); (try clear hi); obtain ⟨hcz10_0, hcz10_1, hfz10_0, hfz10_1⟩ := Hof.blk2 BK1332.out) | (go_at_call 144; (with_reducible refine (impl_HasSet.calls k _ _ l0_1 a1 t1334 _ ?side1 ?side2 A7.out).mono ?_); (case side1 => exact Hof.Cw (Kd.C_below HR0_1.out HB.out)); (case side2 => exact HC0_1.out); rintro e w' ⟨rfl, ⟨nd, rfl⟩⟩))
   go_meet
   case rel => exact ⟨_, (!t1334), (by first | rfl | (simp; done) | (simp [*]; done)), H', ⟨by first | omega | exact Nat.le_refl _⟩, ⟨Hof.Bw BK1332.out⟩, ⟨Hof.Lw HB.out⟩⟩
  ·replace c6 := Bool.eq_false_iff.mpr c6
   subst c6
   have H1 : (impl_InternalActivity.j0 k a1 true a0_0 l0_1) = some r := by rw [if_neg (show ¬ (false = true) by decide)] at H; exact H
   clear H
   have H := H1
   clear H1
   have H' := Aside0.mk H
   clear H
   obtain ⟨hcz11_0, hcz11_1, hfz11_0, hfz11_1⟩ := Hof.blk2 BK1332.out
   go_wp2_with (first | ((with_reducible refine gate_callee (f := 85) rfl ?_); refine goesL_ (some 6) rfl rfl Try.func85 (by kernel_rfl) rfl #[.agg #[.int .i64 a0_0, .slice A0_1 l0_1.length c0_1]] rfl (by (try simp only [List.map_toArray, List.map_cons, List.map_nil]); first | done | rfl) ?_; (with_reducible refine (impl_IsMatroid.calls k a0_0 _ _ l0_1 false _ ?side1 ?side2 A5.out).mono ?_); (case side1 => exact Hof.Cw (Kd.C_below HR0_1.out HB.out)); (case side2 => exact HC0_1.out); rintro e w12 ⟨rfl, hb⟩; refine ⟨_, rfl, ?_⟩; replace BK1332 := Aside0.mk (blk_below (Hof.Bw BK1332.out) hb); replace HB := Aside0.mk (below_step (Hof.Lw HB.out) hb); (try clear hb); (try clear hb2); (try clear hk); (try clear hi)))
   go_meet
   case rel => exact ⟨_, (true), (by first | rfl | (simp; done) | (simp [*]; done)), H', ⟨by first | omega | exact Nat.le_refl _⟩, ⟨Hof.Bw BK1332.out⟩, ⟨Hof.Lw HB.out⟩⟩
 case rest =>
  clear HC3
  try clear c1
  try clear p2
  try clear c6
  try clear c8
  try clear c11
  try clear hcz10_0
  try clear hcz10_1
  try clear hcz11_0
  try clear hcz11_1
  try clear hcz8_0
  try clear hcz8_1
  try clear hfz10_0
  try clear hfz10_1
  try clear hfz11_0
  try clear hfz11_1
  try clear hfz8_0
  try clear hfz8_1
  obtain ⟨kq, x14_2, rfl, HA, HJ2, BK1332, HB⟩ := hcut
  cases kq with
  | zero => exact absurd HA.out (by simp [impl_InternalActivity.j0])
  | succ kj2 =>
   have H := HA.out
   clear HA
   simp only [impl_InternalActivity.j0] at H
   by_cases c13 : x14_2 = true
   ·subst c13
    have H1 : (some 0) = some r := by rw [if_pos rfl] at H; exact H
    clear H
    have H := H1
    clear H1
    obtain rfl := Option.some.inj H
    go_wp2
    go_ret
    exact ⟨by first | rfl | (simp [errW_none, errW_some] <;> rfl) | (simp [*, errW_none, errW_some] <;> rfl), by repeat (first | (with_reducible first | exact HB.out | apply below_alloc | apply pw_below_drewN | apply below_drew1 | refine below_set ?_ GE1332.out) | exact HB.out)⟩
   ·replace c13 := Bool.eq_false_iff.mpr c13
    subst c13
    have H1 : ((impl_DualOf.f kj2 a0_0 l0_1).bind fun bt1335 => ((impl_FullSet.f a0_0).bind fun t1339 => ((impl_ExternalActivity.f kj2 bt1335.1 bt1335.2 (Go.bits .andNot .i64 t1339 a1)).bind fun t1340 => (some t1340)))) = some r := by rw [if_neg (show ¬ (false = true) by decide)] at H; exact H
    clear H
    have H := H1
    clear H1
    replace H := Option.bind_eq_some_iff.mp H
    obtain ⟨⟨t1335, t1336⟩, A140, H⟩ := H
    (try dsimp only at H)
    have A14 := Aside0.mk A140
    clear A140
    replace H := Option.bind_eq_some_iff.mp H
    obtain ⟨t1339, A150, H⟩ := H
    (try dsimp only at H)
    have A15 := Aside0.mk A150
    clear A150
    replace H := Option.bind_eq_some_iff.mp H
    obtain ⟨t1340, A160, H⟩ := H
    (try dsimp only at H)
    have A16 := Aside0.mk A160
    clear A160
    obtain rfl := Option.some.inj H
    try go_wp2
    have n0_ := Aside0.mk (blk_drew BK1332.out)
    have n1_ := Aside0.mk (below_drew1 HB.out)
    clear BK1332
    clear HB
    have BK1332 := n0_
    have HB := n1_
    clear n0_ n1_
    refine start_ (n := 9) (S := fun w' => w'.cell? ⟨gb1332, 0, none⟩ = some (.int .i64 a0_0) ∧ w'.cell? ⟨gb1332, 1, none⟩ = some (.slice A0_1 l0_1.length c0_1)) (ds := []) #[false, false, false, false, false, false, false, false, false] (by kernel_rfl) rfl rfl ⟨(blk_cell BK1332.out 0).trans rfl, (blk_cell BK1332.out 1).trans rfl⟩ (fun hHeld => ?_); refine with_tabW impl_InternalActivity.tab3 impl_InternalActivity.bits3 (fun HT_ HW_ => ?_)
    generalize wc.drew = w17 at BK1332 HB hHeld ⊢
    refine pure_ (i := 2) (N := some 17) (v := ?_) (a' := ?_) #[false, false, true, false, false, false, false, false, false] rfl rfl (any_of HT_.out (by kernel_rfl)) (fun _ _ _ h => h) (Or.inl ⟨by rfl, ?_⟩) ?_ ?_
    rotate_left
    ·intro w'
     go_simp
     with_reducible rfl
    rotate_left
    ·simp only [Act.put, List.setIfInBounds_toArray, List.set_cons_zero, List.set_cons_succ, i64_w, i32_w]
     rfl
    refine pure_ (i := 5) (N := some 20) (v := ?_) (a' := ?_) #[false, false, true, false, false, true, false, false, false] rfl rfl (any_of HT_.out (by kernel_rfl)) (fun _ _ _ h => h) (Or.inl ⟨by rfl, ?_⟩) ?_ ?_
    rotate_left
    ·intro w'
     go_simp
     with_reducible rfl
    rotate_left
    ·simp only [Act.put, List.setIfInBounds_toArray, List.set_cons_zero, List.set_cons_succ, i64_w, i32_w]
     rfl
    refine take_ (i := 0) (N := some 15) (v := ?_) (a' := ?_) #[true, false, true, false, false, true, false, false, false] rfl rfl (take_ofW HT_.out HW_.out (by kernel_rfl)) (fun _ _ _ h => h) (Or.inl ⟨by rfl, ?_⟩) hHeld ?_ ?_
    rotate_left
    ·rintro w' ⟨s0, s1⟩
     go_simp
     with_reducible rfl
    rotate_left
    ·simp only [Act.put, List.setIfInBounds_toArray, List.set_cons_zero, List.set_cons_succ, i64_w, i32_w]
     rfl
    refine take_ (i := 3) (N := some 18) (v := ?_) (a' := ?_) #[true, false, true, true, false, true, false, false, false] rfl rfl (take_ofW HT_.out HW_.out (by kernel_rfl)) (fun _ _ _ h => h) (Or.inl ⟨by rfl, ?_⟩) hHeld ?_ ?_
    rotate_left
    ·rintro w' ⟨s0, s1⟩
     go_simp
     with_reducible rfl
    rotate_left
    ·simp only [Act.put, List.setIfInBounds_toArray, List.set_cons_zero, List.set_cons_succ, i64_w, i32_w]
     rfl
    refine one_ (i := 1) (N := some 16) #[true, true, true, true, false, true, false, false, false] rfl rfl (one_of HT_.out (by kernel_rfl)) (by decide) (fun K hK => ?_)
    refine goes_ Try.func145 (by kernel_rfl) rfl #[.agg #[.int .i64 a0_0, .slice A0_1 l0_1.length c0_1]] (by rfl) rfl rfl (by (try simp only [List.map_toArray, List.map_cons, List.map_nil]); first | done | rfl) ?_
    with_reducible refine (impl_DualOf.calls kj2 a0_0 _ _ l0_1 t1335 t1336 _ ?side1 ?side2 A14.out).mono ?_
    (case side1 => exact Hof.Cw (Kd.C_below HR0_1.out HB.out))
    (case side2 => exact HC0_1.out)
    rintro e w18 ⟨v1337, rfl, ho0, hb⟩
    refine ⟨_, rfl, ?_⟩
    have n0_ := Aside0.mk (Kd.R_lower ho0 (below_size (Hof.Lw HB.out)))
    have n1_ := Aside0.mk (blk_below (Hof.Bw BK1332.out) hb)
    have n2_ := Aside0.mk (below_step (Hof.Lw HB.out) hb)
    clear BK1332
    clear HB
    have HO1338 := n0_
    have BK1332 := n1_
    have HB := n2_
    clear n0_ n1_ n2_
    (try clear hb)
    (try clear hb2)
    (try clear hk)
    (try clear hi)
    (try clear ho0)
    refine hK.out _ _ ⟨(blk_cell BK1332.out 0).trans rfl, (blk_cell BK1332.out 1).trans rfl⟩ (fun hHeld => ?_)
    clear hK K
    refine norm_ (a' := ?_) ?_ ?_
    rotate_left
    ·show Act.put _ (some 16) _ = _
     simp only [Act.put, List.setIfInBounds_toArray, List.set_cons_zero, List.set_cons_succ, i64_w, i32_w]
     rfl
    refine one_ (i := 4) (N := some 19) #[true, true, true, true, true, true, false, false, false] rfl rfl (one_of HT_.out (by kernel_rfl)) (by decide) (fun K hK => ?_)
    refine goes_ Try.func79 (by kernel_rfl) rfl #[.int .i64 a0_0] (by rfl) rfl rfl (by (try simp only [List.map_toArray, List.map_cons, List.map_nil]); first | done | rfl) ?_
    with_reducible refine (impl_FullSet.calls a0_0 t1339 _ A15.out).mono ?_
    rintro e w' ⟨rfl, ⟨nd, rfl⟩⟩
    refine ⟨_, rfl, ?_⟩
    obtain ⟨Ao19, co19, eo19⟩ := Kd.R_slice HO1338.out
    (first | subst eo19 | (injection eo19 with f1_ f2_ f3_; have f4_ := f1_.symm; have f5_ := f3_.symm; clear f1_ f2_ f3_; subst f4_; subst f5_))
    refine hK.out _ _ ⟨(blk_cell BK1332.out 0).trans rfl, (blk_cell BK1332.out 1).trans rfl⟩ (fun hHeld => ?_)
    clear hK K
    refine norm_ (a' := ?_) ?_ ?_
    rotate_left
    ·show Act.put _ (some 19) _ = _
     simp only [Act.put, List.setIfInBounds_toArray, List.set_cons_zero, List.set_cons_succ, i64_w, i32_w]
     rfl
    refine pure_ (i := 6) (N := some 21) (v := ?_) (a' := ?_) #[true, true, true, true, true, true, true, false, false] rfl rfl (any_of HT_.out (by kernel_rfl)) (fun _ _ _ h => h) (Or.inl ⟨by rfl, ?_⟩) ?_ ?_
    rotate_left
    ·intro w'
     go_simp
     with_reducible rfl
    rotate_left
    ·simp only [Act.put, List.setIfInBounds_toArray, List.set_cons_zero, List.set_cons_succ, i64_w, i32_w]
     rfl
    refine one_ (i := 7) (N := some 22) #[true, true, true, true, true, true, true, true, false] rfl rfl (one_of HT_.out (by kernel_rfl)) (by decide) (fun K hK => ?_)
    refine goes_ Try.func112 (by kernel_rfl) rfl #[.agg #[.int .i64 t1335, .slice Ao19 t1336.length co19], .int .i64 (Go.bits .andNot .i64 t1339 a1)] (by rfl) rfl rfl (by (try simp only [List.map_toArray, List.map_cons, List.map_nil]); first | done | rfl) ?_
    with_reducible refine (impl_ExternalActivity.calls kj2 t1335 _ _ t1336 (Go.bits .andNot .i64 t1339 a1) t1340 _ ?side1 ?side2 A16.out).mono ?_
    (case side1 => exact Hof.Cw ((Kd.R_reads' HO1338.out).2.2))
    (case side2 => exact (Kd.R_reads' HO1338.out).2.1)
    rintro e w20 ⟨rfl, hb⟩
    refine ⟨_, rfl, ?_⟩
    have n0_ := Aside0.mk (Kd.R_below (Hof.Rw HO1338.out) hb)
    have n1_ := Aside0.mk (blk_below (Hof.Bw BK1332.out) hb)
    have n2_ := Aside0.mk (below_step (Hof.Lw HB.out) hb)
    clear HO1338
    clear BK1332
    clear HB
    have HO1338 := n0_
    have BK1332 := n1_
    have HB := n2_
    clear n0_ n1_ n2_
    (try clear hb)
    (try clear hb2)
    (try clear hk)
    (try clear hi)
    refine hK.out _ _ ⟨(blk_cell BK1332.out 0).trans rfl, (blk_cell BK1332.out 1).trans rfl⟩ (fun hHeld => ?_)
    clear hK K
    refine norm_ (a' := ?_) ?_ ?_
    rotate_left
    ·show Act.put _ (some 22) _ = _
     simp only [Act.put, List.setIfInBounds_toArray, List.set_cons_zero, List.set_cons_succ, i64_w, i32_w]
     rfl
    refine pure_ (i := 8) (N := some 4) (v := ?_) (a' := ?_) #[true, true, true, true, true, true, true, true, true] rfl rfl (any_of HT_.out (by kernel_rfl)) (fun _ _ _ h => h) (Or.inl ⟨by rfl, ?_⟩) ?_ ?_
    rotate_left
    ·intro w'
     go_simp
     with_reducible rfl
    rotate_left
    ·simp only [Act.put, List.setIfInBounds_toArray, List.set_cons_zero, List.set_cons_succ, i64_w, i32_w]
     rfl
    refine done_ (done_of HT_.out (by kernel_rfl)) ?_
    try go_wp2
    go_ret
    exact ⟨by first | rfl | (simp [errW_none, errW_some] <;> rfl) | (simp [*, errW_none, errW_some] <;> rfl), by repeat (first | (with_reducible first | exact HB.out | apply below_alloc | apply pw_below_drewN | apply below_drew1 | refine below_set ?_ GE1332.out) | exact HB.out)⟩
end Go.Proofs.Ytbjnkcfkhonkhaa.Pr
end
section
namespace Go.Proofs.Ytbjnkcfkhonkhaa.Pr
open Go.RowKit Go.Proofs.YtbjnkcfkhonkhaaW.PrintWords Go.Proofs.YtbjnkcfkhonkhaaW.PrintLast Go.Proofs.YtbjnkcfkhonkhaaW.PrintMore
attribute [local go_sem] max2_int min2_int max_two min_two max_three min_three max_four min_four
set_option linter.unusedVariables false
set_option linter.unusedSimpArgs false
def impl_ActivityTable.l0 : Nat → List (List Int) → List Int → Int → Int → Int → List Int → Option ((List (List Int)))
 | 0, _, _, _, _, _, _ => none
 | k + 1, x4, x20, x21, x22, x1342000, x1342001 => if x22 < x21 then (if 0 ≤ x22 then (if x22 < (x20.length : Int) then ((impl_InternalActivity.f k x1342000 x1342001 (rd x20 x22)).bind fun t1347 => ((impl_CountOf.f t1347).bind fun t1348 => (if 0 ≤ t1348 then (if t1348 < (x4.length : Int) then ((impl_ExternalActivity.f k x1342000 x1342001 (rd x20 x22)).bind fun t1350 => ((impl_CountOf.f t1350).bind fun t1351 => (if 0 ≤ t1351 then (if t1351 < ((rd_L1 x4 t1348).length : Int) then (impl_ActivityTable.l0 k (x4.set (t1348 : Int).toNat ((rd_L1 x4 t1348).set (t1351 : Int).toNat (wrap64 ((rd (rd_L1 x4 t1348) t1351) + 1)))) x20 x21 (wrap64 (x22 + 1)) x1342000 x1342001) else (none)) else (none)))) else (none)) else (none)))) else (none)) else (none)) else (some x4)
def impl_ActivityTable.f (k : Nat) (a0_0 : Int) (l0_1 : List Int) : Option ((List (List Int))) := (impl_RankOfMatroid.f k a0_0 l0_1).bind fun t1342 => (if t1342 < 0 then (some ([] : List (List Int))) else ((impl_newTable.f k (wrap64 (t1342 + 1)) (wrap64 ((wrap64 (a0_0 - t1342)) + 1))).bind fun t1343 => (impl_ActivityTable.l0 k t1343 l0_1 (l0_1.length : Int) 0 a0_0 l0_1)))
def impl_ActivityTable.T8 : Bool × List (List Nat × List Nat) := (true, [([], []), ([], []), ([], []), ([1, 2], [1, 2]), ([3, 3], [3]), ([0, 4], [0, 4]), ([5], [5]), ([], []), ([], []), ([7, 8, 4], [7, 8]), ([9, 9], [9]), ([6, 10], [6, 10]), ([11], [11]), ([12], [12]), ([6, 10, 0, 1, 2, 3, 4, 5, 6, 7, 8, 9, 10, 11, 12, 13], [6, 10]), ([14, 13, 10, 0, 1, 2, 3, 4, 5, 6, 7, 8, 9, 10, 11, 12, 13], [13, 14])])
def impl_ActivityTable.B8 : List Nat := [0, 0, 0, 6, 14, 31, 63, 0, 0, 414, 926, 2047, 4095, 8191, 16383, 32767]
theorem impl_ActivityTable.tab8 : rtab .any (opsOf Try.f51 8) = impl_ActivityTable.T8 := by kernel_rfl
theorem impl_ActivityTable.bits8 : waitsOk impl_ActivityTable.T8.2 impl_ActivityTable.B8 = true := by kernel_rfl
set_option maxHeartbeats 8000000 in
set_option maxRecDepth 100000 in
theorem impl_ActivityTable.calls (k : Nat) (a0_0 : Int) (A0_1 : Option Addr) (c0_1 : Nat) (l0_1 : List Int) (r : List (List Int)) (w : World) (hr0_1 : Kd.C (Kd.int .i64) w A0_1 l0_1.length l0_1) (hc0_1 : l0_1.length ≤ c0_1) (h : impl_ActivityTable.f k a0_0 l0_1 = some r) :
  Calls Try.prog 51 #[.agg #[.int .i64 a0_0, .slice A0_1 l0_1.length c0_1]] w fun e w' => ∃ v0_ : Value, e = .returned (v0_) ∧ Kd.S (Kd.slice 3 (Kd.int .i64)) 31 w' w.heap.size (fun _ => True) v0_ r ∧ Below w.heap.size w w' := by
 have hu45 := Try.underlying45
 have HR0_1 := Aside0.mk hr0_1
 have HC0_1 := Aside0.mk hc0_1
 clear hr0_1 hc0_1
 have HB := Aside0.mk (Below.refl w.heap.size w)
 have H : ((impl_RankOfMatroid.f k a0_0 l0_1).bind fun t1342 => (if t1342 < 0 then (some ([] : List (List Int))) else ((impl_newTable.f k (wrap64 (t1342 + 1)) (wrap64 ((wrap64 (a0_0 - t1342)) + 1))).bind fun t1343 => (impl_ActivityTable.l0 k t1343 l0_1 (l0_1.length : Int) 0 a0_0 l0_1)))) = some r := h
 clear h
 replace H := Option.bind_eq_some_iff.mp H
 obtain ⟨t1342, A20, H⟩ := H
 (try dsimp only at H)
 have A2 := Aside0.mk A20
 clear A20
 by_cases c3 : t1342 < 0
 ·rw [if_pos c3] at H
  have c3b0 : decide (t1342 < 0) = true := decide_eq_true c3
  clear c3
  obtain rfl := Option.some.inj H
  go_enter Try.func51, Try.ntmps51
  go_wp2_with (first | ((with_reducible refine gate_dst (N := 1) rfl ?_); refine box_event ?hg (N := 1) ?hd (cs := #[.int .i64 a0_0, .slice A0_1 l0_1.length c0_1]) (t := 45) ?hr ?_; (case hd => rfl); (case hg => rfl); (case hr => first | (go_simp; done) | (go_simp; rfl)); intro gb1341 hg w4 hbox hb; have BK1341 := Aside0.mk hbox; have GW1341 := Aside0.mk ((by rw [hg]; exact (below_size (Hof.Lw HB.out)) : w.heap.size ≤ gb1341)); have GE1341 := Aside0.mk ((by rw [hg]; exact (below_size (Hof.Lw HB.out)) : w.heap.size ≤ gb1341)); replace HB := Aside0.mk (below_step (Hof.Lw HB.out) hb); clear hb hbox hg; obtain ⟨hcz5_0, hcz5_1, hfz5_0, hfz5_1⟩ := Hof.blk2 BK1341.out) | ((with_reducible refine gate_callee (f := 78) rfl ?_); refine goesL_ (some 8) rfl rfl Try.func78 (by kernel_rfl) rfl #[.agg #[.int .i64 a0_0, .slice A0_1 l0_1.length c0_1]] rfl (by (try simp only [List.map_toArray, List.map_cons, List.map_nil]); first | done | rfl) ?_; (with_reducible refine (impl_RankOfMatroid.calls k a0_0 _ _ l0_1 t1342 _ ?side1 ?side2 A2.out).mono ?_); (case side1 => exact Hof.Cw (Kd.C_below HR0_1.out HB.out)); (case side2 => exact HC0_1.out); rintro e w6 ⟨rfl, hb⟩; refine ⟨_, rfl, ?_⟩; replace BK1341 := Aside0.mk (blk_below (Hof.Bw BK1341.out) hb); replace HB := Aside0.mk (below_step (Hof.Lw HB.out) hb); (try clear hb); (try clear hb2); (try clear hk); (try clear hi)))
  go_ret
  exact ⟨_, by first | rfl | (simp [errW_none, errW_some] <;> rfl) | (simp [*, errW_none, errW_some] <;> rfl), by first | exact Kd.S_nil _ _ _ _ _ | exact Kd.N_nil _ _ _ _ _ | exact Kd.V_nil _ _ _ _ _ | exact Kd.Q_nil _ _ _ _ _ | exact Kd.R_nil _ _ _ _ _, by repeat (first | (with_reducible first | exact HB.out | apply below_alloc | apply pw_below_drewN | apply below_drew1 | refine below_set ?_ GE1341.out) | exact HB.out)⟩
 ·rw [if_neg c3] at H
  have c3b0 : decide (t1342 < 0) = false := decide_eq_false c3
  clear c3
  replace H := Option.bind_eq_some_iff.mp H
  obtain ⟨t1343, A70, H⟩ := H
  (try dsimp only at H)
  have A7 := Aside0.mk A70
  clear A70
  have H' := Aside0.mk H
  clear H
  go_enter Try.func51, Try.ntmps51
  go_wp2_with (first | ((with_reducible refine gate_dst (N := 1) rfl ?_); refine box_event ?hg (N := 1) ?hd (cs := #[.int .i64 a0_0, .slice A0_1 l0_1.length c0_1]) (t := 45) ?hr ?_; (case hd => rfl); (case hg => rfl); (case hr => first | (go_simp; done) | (go_simp; rfl)); intro gb1341 hg w8 hbox hb; have BK1341 := Aside0.mk hbox; have GW1341 := Aside0.mk ((by rw [hg]; exact (below_size (Hof.Lw HB.out)) : w.heap.size ≤ gb1341)); have GE1341 := Aside0.mk ((by rw [hg]; exact (below_size (Hof.Lw HB.out)) : w.heap.size ≤ gb1341)); replace HB := Aside0.mk (below_step (Hof.Lw HB.out) hb); clear hb hbox hg; obtain ⟨hcz9_0, hcz9_1, hfz9_0, hfz9_1⟩ := Hof.blk2 BK1341.out) | ((with_reducible refine gate_callee (f := 78) rfl ?_); refine goesL_ (some 8) rfl rfl Try.func78 (by kernel_rfl) rfl #[.agg #[.int .i64 a0_0, .slice A0_1 l0_1.length c0_1]] rfl (by (try simp only [List.map_toArray, List.map_cons, List.map_nil]); first | done | rfl) ?_; (with_reducible refine (impl_RankOfMatroid.calls k a0_0 _ _ l0_1 t1342 _ ?side1 ?side2 A2.out).mono ?_); (case side1 => exact Hof.Cw (Kd.C_below HR0_1.out HB.out)); (case side2 => exact HC0_1.out); rintro e w10 ⟨rfl, hb⟩; refine ⟨_, rfl, ?_⟩; replace BK1341 := Aside0.mk (blk_below (Hof.Bw BK1341.out) hb); replace HB := Aside0.mk (below_step (Hof.Lw HB.out) hb); (try clear hb); (try clear hb2); (try clear hk); (try clear hi); obtain ⟨hcz11_0, hcz11_1, hfz11_0, hfz11_1⟩ := Hof.blk2 BK1341.out) | ((with_reducible refine gate_callee (f := 58) rfl ?_); refine goesL_ (some 18) rfl rfl Try.func58 (by kernel_rfl) rfl #[.int .i64 (wrap64 (t1342 + 1)), .int .i64 (wrap64 ((wrap64 (a0_0 - t1342)) + 1))] rfl (by (try simp only [List.map_toArray, List.map_cons, List.map_nil]); first | done | rfl) ?_; (with_reducible refine (impl_newTable.calls k (wrap64 (t1342 + 1)) (wrap64 ((wrap64 (a0_0 - t1342)) + 1)) t1343 _ A7.out).mono ?_); rintro e w12 ⟨v1344, rfl, ho0, hb⟩; refine ⟨_, rfl, ?_⟩; have HO1345 := Aside0.mk (Kd.S_lower ho0 (below_size (Hof.Lw HB.out))); replace BK1341 := Aside0.mk (blk_below (Hof.Bw BK1341.out) hb); replace HB := Aside0.mk (below_step (Hof.Lw HB.out) hb); (try clear hb); (try clear hb2); (try clear hk); (try clear hi); (try clear ho0); obtain ⟨hcz13_0, hcz13_1, hfz13_0, hfz13_1⟩ := Hof.blk2 BK1341.out))
  go_loopg [22] k (fun kq v22 w' => ∃ (x4_1 : List (List Int)) (x22_1 : Int), v22 = .int .i64 x22_1 ∧ Aside0 (impl_ActivityTable.l0 kq x4_1 l0_1 (l0_1.length : Int) x22_1 a0_0 l0_1 = some r) ∧ Aside0 (kq ≤ k) ∧ Aside0 (Kd.S (Kd.slice 3 (Kd.int .i64)) 31 w' w.heap.size (fun _ => True) v1344 x4_1) ∧ Aside0 (w'.heap[gb1341]? = some (.cells #[.int .i64 a0_0, (.slice A0_1 l0_1.length c0_1)] 45 (0, 0))) ∧ Aside0 (Below w.heap.size w w'))
  case atStart => exact ⟨(t1343), (0), (by first | rfl | (simp; done) | (simp [*]; done)), H', ⟨Nat.le_refl _⟩, ⟨Hof.Sw HO1345.out⟩, ⟨Hof.Bw BK1341.out⟩, ⟨Hof.Lw HB.out⟩⟩
  case round =>
   clear H'
   try clear p2
   try clear c3
   try clear c3b0
   try clear c5
   try clear p6
   try clear c7
   try clear hcz11_0
   try clear hcz11_1
   try clear hcz13_0
   try clear hcz13_1
   try clear hcz5_0
   try clear hcz5_1
   try clear hcz9_0
   try clear hcz9_1
   try clear hfz11_0
   try clear hfz11_1
   try clear hfz13_0
   try clear hfz13_1
   try clear hfz5_0
   try clear hfz5_1
   try clear hfz9_0
   try clear hfz9_1
   obtain ⟨x4_1, x22_1, rfl, HA, HK1, HO_4, BK1341, HB⟩ := hrel
   cases gk with
   | zero => exact absurd HA.out (by simp [impl_ActivityTable.l0])
   | succ k1 =>
    have H := HA.out
    clear HA
    simp only [impl_ActivityTable.l0] at H
    by_cases c14 : x22_1 < (l0_1.length : Int)
    ·rw [if_pos c14] at H
     have c14b0 : decide (x22_1 < (l0_1.length : Int)) = true := decide_eq_true c14
     clear c14
     by_cases c15 : 0 ≤ x22_1
     ·rw [if_pos c15] at H
      have c15b0 : decide (0 ≤ x22_1) = true := decide_eq_true c15
      clear c15
      by_cases c16 : x22_1 < (l0_1.length : Int)
      ·rw [if_pos c16] at H
       have c16b0 : decide (x22_1 < (l0_1.length : Int)) = true := decide_eq_true c16
       clear c16
       replace H := Option.bind_eq_some_iff.mp H
       obtain ⟨t1347, A170, H⟩ := H
       (try dsimp only at H)
       have A17 := Aside0.mk A170
       clear A170
       replace H := Option.bind_eq_some_iff.mp H
       obtain ⟨t1348, A180, H⟩ := H
       (try dsimp only at H)
       have A18 := Aside0.mk A180
       clear A180
       by_cases c19 : 0 ≤ t1348
       ·rw [if_pos c19] at H
        have c19b0 : decide (0 ≤ t1348) = true := decide_eq_true c19
        clear c19
        by_cases c20 : t1348 < (x4_1.length : Int)
        ·rw [if_pos c20] at H
         have c20b0 : decide (t1348 < (x4_1.length : Int)) = true := decide_eq_true c20
         clear c20
         replace H := Option.bind_eq_some_iff.mp H
         obtain ⟨t1350, A210, H⟩ := H
         (try dsimp only at H)
         have A21 := Aside0.mk A210
         clear A210
         replace H := Option.bind_eq_some_iff.mp H
         obtain ⟨t1351, A220, H⟩ := H
         (try dsimp only at H)
         have A22 := Aside0.mk A220
         clear A220
         by_cases c23 : 0 ≤ t1351
         ·rw [if_pos c23] at H
          have c23b0 : decide (0 ≤ t1351) = true := decide_eq_true c23
          clear c23
          by_cases c24 : t1351 < ((rd_L1 x4_1 t1348).length : Int)
          ·rw [if_pos c24] at H
           have c24b0 : decide (t1351 < ((rd_L1 x4_1 t1348).length : Int)) = true := decide_eq_true c24
           clear c24
           obtain ⟨y1353, hy1353⟩ : ∃ y_ : List Int, y_ = ((rd_L1 x4_1 t1348).set (t1351 : Int).toNat (wrap64 ((rd (rd_L1 x4_1 t1348) t1351) + 1))) := ⟨_, rfl⟩
           replace H : (impl_ActivityTable.l0 k1 (x4_1.set (t1348 : Int).toNat y1353) l0_1 (l0_1.length : Int) (wrap64 (x22_1 + 1)) a0_0 l0_1) = some r := by first | (rw [hy1353]; with_reducible exact H) | (have H2_ := (Option.bind_some _ _).symm.trans H; rw [hy1353]; with_reducible exact H2_) | (have H2_ := (Option.bind_some _ _).symm.trans H; with_reducible exact H2_) | with_reducible exact H | (rw [hy1353]; exact H) | exact H
           have Ny1353 := Aside0.mk hy1353
           clear hy1353
           obtain ⟨y1355, hy1355⟩ : ∃ y_ : List (List Int), y_ = (x4_1.set (t1348 : Int).toNat y1353) := ⟨_, rfl⟩
           replace H : (impl_ActivityTable.l0 k1 y1355 l0_1 (l0_1.length : Int) (wrap64 (x22_1 + 1)) a0_0 l0_1) = some r := by first | (rw [hy1355]; with_reducible exact H) | (have H2_ := (Option.bind_some _ _).symm.trans H; rw [hy1355]; with_reducible exact H2_) | (have H2_ := (Option.bind_some _ _).symm.trans H; with_reducible exact H2_) | with_reducible exact H | (rw [hy1355]; exact H) | exact H
           have Ny1355 := Aside0.mk hy1355
           clear hy1355
           have H' := Aside0.mk H
           clear H
           have p1346 : 0 ≤ (x22_1 : Int) := of_decide_eq_true (by first | (with_reducible assumption) | assumption)
           have q1346 : x22_1 < (l0_1.length : Int) := of_decide_eq_true (by first | (with_reducible assumption) | assumption)
           obtain ⟨ad1346, e1346, hx1346_0⟩ := Kd.at_int HR0_1.out x22_1 p1346 q1346
           cases e1346
           try replace hx1346_0 := (HB.out.cell (World.block_lt_of_cell? w _ hx1346_0)).trans hx1346_0
           replace p1346 := eq_true p1346
           replace q1346 := eq_true q1346
           try go_wp2
           have n0_ := Aside0.mk (Kd.S_drew HO_4.out)
           have n1_ := Aside0.mk (blk_drew BK1341.out)
           have n2_ := Aside0.mk (below_drew1 HB.out)
           clear HO_4
           clear BK1341
           clear HB
           have HO_4 := n0_
           have BK1341 := n1_
           have HB := n2_
           clear n0_ n1_ n2_
           have p1349 : 0 ≤ (t1348 : Int) := of_decide_eq_true (by first | (with_reducible assumption) | assumption)
           have q1349 : t1348 < (x4_1.length : Int) := of_decide_eq_true (by first | (with_reducible assumption) | assumption)
           (try (obtain ⟨Aq1349, cq1349, eq1349⟩ := Kd.S_slice HO_4.out; subst eq1349))
           obtain ⟨ad1349, A1349_0, c1349_0, e1349, hx1349_0, hl1349_0, hi1349_0⟩ := at_L1 (Kd.S_reads' HO_4.out).2.2 t1348 p1349 q1349
           cases e1349
           obtain ⟨ce1349, hce1349, hMe1349, hcc1349⟩ := Kd.S_get HO_4.out [] t1348 p1349 (by first | exact q1349 | exact of_decide_eq_true (by first | (with_reducible assumption) | assumption) | (have e_ := (Kd.S_reads' HO_4.out).1; omega))
           obtain ⟨ve1349_0, rfl, ge1349_0⟩ := hMe1349
           have hv1349_0 := hcc1349 0 _ rfl
           rw [Nat.add_zero, show ((Kd.slice 3 (Kd.int .i64))).sz = 1 from rfl, Nat.mul_one] at hv1349_0
           replace hv1349_0 := Option.some.inj (hv1349_0.symm.trans hx1349_0)
           rw [hv1349_0] at ge1349_0
           have HL1349_0 := Aside0.mk (show Kd.R (Kd.int .i64) 3 _ _ _ _ (rd_L1 x4_1 t1348) from ge1349_0)
           clear hv1349_0 ge1349_0
           have HX1349_0 := Aside0.mk hx1349_0
           clear hcc1349 hce1349
           have HR1349_0 := Aside0.mk hi1349_0
           have HC1349_0 := Aside0.mk hl1349_0
           clear hi1349_0 hl1349_0
           replace p1349 := eq_true p1349
           replace q1349 := eq_true q1349
           have p1352 : 0 ≤ (t1351 : Int) := of_decide_eq_true (by first | (with_reducible assumption) | assumption)
           have q1352 : t1351 < ((rd_L1 x4_1 t1348).length : Int) := of_decide_eq_true (by first | (with_reducible assumption) | assumption)
           obtain ⟨ad1352, e1352, hx1352_0⟩ := Kd.at_int HR1349_0.out t1351 p1352 q1352
           cases e1352
           clear p1352 q1352
           refine start_ (n := 16) (S := fun w' => w'.cell? ⟨gb1341, 0, none⟩ = some (.int .i64 a0_0) ∧ w'.cell? ⟨gb1341, 1, none⟩ = some (.slice (some ad1346) l0_1.length c0_1) ∧ w'.cell? (ad1349.add (t1348).toNat) = some (.slice (some ad1352) (rd_L1 x4_1 t1348).length c1349_0) ∧ w'.cell? (ad1352.add (t1351).toNat) = some (.int .i64 (rd (rd_L1 x4_1 t1348) t1351))) (ds := [15]) #[false, false, false, false, false, false, false, false, false, false, false, false, false, false, false, false] (by kernel_rfl) rfl rfl ⟨(blk_cell BK1341.out 0).trans rfl, (blk_cell BK1341.out 1).trans rfl, hx1349_0, hx1352_0⟩ (fun hHeld => ?_); refine with_tabW impl_ActivityTable.tab8 impl_ActivityTable.bits8 (fun HT_ HW_ => ?_)
           generalize wr.drew = w26 at HO_4 BK1341 HB HL1349_0 HR1349_0 HX1349_0 hx1349_0 hx1352_0 hHeld ⊢
           refine pure_ (i := 0) (N := some 26) (v := ?_) (a' := ?_) #[true, false, false, false, false, false, false, false, false, false, false, false, false, false, false, false] rfl rfl (any_of HT_.out (by kernel_rfl)) (fun _ _ _ h => h) (Or.inl ⟨by rfl, ?_⟩) ?_ ?_
           rotate_left
           ·intro w'
            go_simp
            with_reducible rfl
           rotate_left
           ·simp only [Act.put, List.setIfInBounds_toArray, List.set_cons_zero, List.set_cons_succ, i64_w, i32_w]
            rfl
           refine pure_ (i := 2) (N := some 28) (v := ?_) (a' := ?_) #[true, false, true, false, false, false, false, false, false, false, false, false, false, false, false, false] rfl rfl (any_of HT_.out (by kernel_rfl)) (fun _ _ _ h => h) (Or.inl ⟨by rfl, ?_⟩) ?_ ?_
           rotate_left
           ·intro w'
            go_simp
            with_reducible rfl
           rotate_left
           ·simp only [Act.put, List.setIfInBounds_toArray, List.set_cons_zero, List.set_cons_succ, i64_w, i32_w]
            rfl
           refine pure_ (i := 8) (N := some 34) (v := ?_) (a' := ?_) #[true, false, true, false, false, false, false, false, true, false, false, false, false, false, false, false] rfl rfl (any_of HT_.out (by kernel_rfl)) (fun _ _ _ h => h) (Or.inl ⟨by rfl, ?_⟩) ?_ ?_
           rotate_left
           ·intro w'
            go_simp
            with_reducible rfl
           rotate_left
           ·simp only [Act.put, List.setIfInBounds_toArray, List.set_cons_zero, List.set_cons_succ, i64_w, i32_w]
            rfl
           refine take_ (i := 1) (N := some 27) (v := ?_) (a' := ?_) #[true, true, true, false, false, false, false, false, true, false, false, false, false, false, false, false] rfl rfl (take_ofW HT_.out HW_.out (by kernel_rfl)) (fun _ _ _ h => h) (Or.inl ⟨by rfl, ?_⟩) hHeld ?_ ?_
           rotate_left
           ·rintro w' ⟨s0, s1, s2, s3⟩
            go_simp
            with_reducible rfl
           rotate_left
           ·simp only [Act.put, List.setIfInBounds_toArray, List.set_cons_zero, List.set_cons_succ, i64_w, i32_w]
            rfl
           refine take_ (i := 7) (N := some 33) (v := ?_) (a' := ?_) #[true, true, true, false, false, false, false, true, true, false, false, false, false, false, false, false] rfl rfl (take_ofW HT_.out HW_.out (by kernel_rfl)) (fun _ _ _ h => h) (Or.inl ⟨by rfl, ?_⟩) hHeld ?_ ?_
           rotate_left
           ·rintro w' ⟨s0, s1, s2, s3⟩
            go_simp
            with_reducible rfl
           rotate_left
           ·simp only [Act.put, List.setIfInBounds_toArray, List.set_cons_zero, List.set_cons_succ, i64_w, i32_w]
            rfl
           refine one_ (i := 3) (N := some 29) #[true, true, true, true, false, false, false, true, true, false, false, false, false, false, false, false] rfl rfl (one_of HT_.out (by kernel_rfl)) (by decide) (fun K hK => ?_)
           refine goes_ Try.func111 (by kernel_rfl) rfl #[.agg #[.int .i64 a0_0, .slice (some ad1346) l0_1.length c0_1], .int .i64 (rd l0_1 x22_1)] (by rfl) rfl rfl (by (try simp only [List.map_toArray, List.map_cons, List.map_nil]); first | done | rfl) ?_
           with_reducible refine (impl_InternalActivity.calls k1 a0_0 _ _ l0_1 (rd l0_1 x22_1) t1347 _ ?side1 ?side2 A17.out).mono ?_
           (case side1 => exact Hof.Cw (Kd.C_below HR0_1.out HB.out))
           (case side2 => exact HC0_1.out)
           rintro e w27 ⟨rfl, hb⟩
           have HS2_ := (hb.cell (World.block_lt_of_cell? _ _ (hHeld.2.2.1))).trans (hHeld.2.2.1)
           have HS3_ := (hb.cell (World.block_lt_of_cell? _ _ (hHeld.2.2.2))).trans (hHeld.2.2.2)
           refine ⟨_, rfl, ?_⟩
           replace HL1349_0 := Aside0.mk (Kd.R_below (Hof.Rw HL1349_0.out) hb)
           replace HR1349_0 := Aside0.mk (Kd.C_below HR1349_0.out hb)
           replace HX1349_0 := Aside0.mk (pw_cell_below hb HX1349_0.out)
           have n0_ := Aside0.mk (Kd.S_below (Hof.Sw HO_4.out) hb)
           have n1_ := Aside0.mk (blk_below (Hof.Bw BK1341.out) hb)
           have n2_ := Aside0.mk (below_step (Hof.Lw HB.out) hb)
           clear HO_4
           clear BK1341
           clear HB
           have HO_4 := n0_
           have BK1341 := n1_
           have HB := n2_
           clear n0_ n1_ n2_
           (try clear hb)
           (try clear hb2)
           (try clear hk)
           (try clear hi)
           refine hK.out _ _ ⟨(blk_cell BK1341.out 0).trans rfl, (blk_cell BK1341.out 1).trans rfl, HS2_, HS3_⟩ (fun hHeld => ?_)
           clear hK K
           refine norm_ (a' := ?_) ?_ ?_
           rotate_left
           ·show Act.put _ (some 29) _ = _
            simp only [Act.put, List.setIfInBounds_toArray, List.set_cons_zero, List.set_cons_succ, i64_w, i32_w]
            rfl
           refine one_ (i := 4) (N := some 30) #[true, true, true, true, true, false, false, true, true, false, false, false, false, false, false, false] rfl rfl (one_of HT_.out (by kernel_rfl)) (by decide) (fun K hK => ?_)
           refine goes_ Try.func82 (by kernel_rfl) rfl #[.int .i64 t1347] (by rfl) rfl rfl (by (try simp only [List.map_toArray, List.map_cons, List.map_nil]); first | done | rfl) ?_
           with_reducible refine (impl_CountOf.calls t1347 t1348 _ A18.out).mono ?_
           rintro e w' ⟨rfl, ⟨nd, rfl⟩⟩
           refine ⟨_, rfl, ?_⟩
           obtain ⟨Ao28, co28, eo28⟩ := Kd.S_slice HO_4.out
           (first | subst eo28 | (injection eo28 with f1_ f2_ f3_; have f4_ := f1_.symm; have f5_ := f3_.symm; clear f1_ f2_ f3_; subst f4_; subst f5_))
           refine hK.out _ _ ⟨(blk_cell BK1341.out 0).trans rfl, (blk_cell BK1341.out 1).trans rfl, hHeld.2.2.1, hHeld.2.2.2⟩ (fun hHeld => ?_)
           clear hK K
           refine norm_ (a' := ?_) ?_ ?_
           rotate_left
           ·show Act.put _ (some 30) _ = _
            simp only [Act.put, List.setIfInBounds_toArray, List.set_cons_zero, List.set_cons_succ, i64_w, i32_w]
            rfl
           refine pure_ (i := 5) (N := some 31) (v := ?_) (a' := ?_) #[true, true, true, true, true, true, false, true, true, false, false, false, false, false, false, false] rfl rfl (any_of HT_.out (by kernel_rfl)) (fun _ _ _ h => h) (Or.inl ⟨by rfl, ?_⟩) ?_ ?_
           rotate_left
           ·intro w'
            go_simp
            with_reducible rfl
           rotate_left
           ·simp only [Act.put, List.setIfInBounds_toArray, List.set_cons_zero, List.set_cons_succ, i64_w, i32_w]
            rfl
           refine take_ (i := 6) (N := some 32) (v := ?_) (a' := ?_) #[true, true, true, true, true, true, true, true, true, false, false, false, false, false, false, false] rfl rfl (take_ofW HT_.out HW_.out (by kernel_rfl)) (fun _ _ _ h => h) (Or.inl ⟨by rfl, ?_⟩) hHeld ?_ ?_
           rotate_left
           ·rintro w' ⟨s0, s1, s2, s3⟩
            go_simp
            with_reducible rfl
           rotate_left
           ·simp only [Act.put, List.setIfInBounds_toArray, List.set_cons_zero, List.set_cons_succ, i64_w, i32_w]
            rfl
           refine one_ (i := 9) (N := some 35) #[true, true, true, true, true, true, true, true, true, true, false, false, false, false, false, false] rfl rfl (one_of HT_.out (by kernel_rfl)) (by decide) (fun K hK => ?_)
           refine goes_ Try.func112 (by kernel_rfl) rfl #[.agg #[.int .i64 a0_0, .slice (some ad1346) l0_1.length c0_1], .int .i64 (rd l0_1 x22_1)] (by rfl) rfl rfl (by (try simp only [List.map_toArray, List.map_cons, List.map_nil]); first | done | rfl) ?_
           with_reducible refine (impl_ExternalActivity.calls k1 a0_0 _ _ l0_1 (rd l0_1 x22_1) t1350 _ ?side1 ?side2 A21.out).mono ?_
           (case side1 => exact Hof.Cw (Kd.C_below HR0_1.out HB.out))
           (case side2 => exact HC0_1.out)
           rintro e w29 ⟨rfl, hb⟩
           have HS2_ := (hb.cell (World.block_lt_of_cell? _ _ (hHeld.2.2.1))).trans (hHeld.2.2.1)
           have HS3_ := (hb.cell (World.block_lt_of_cell? _ _ (hHeld.2.2.2))).trans (hHeld.2.2.2)
           refine ⟨_, rfl, ?_⟩
           have n0_ := Aside0.mk (Kd.S_below (Hof.Sw HO_4.out) hb)
           have n1_ := Aside0.mk (Kd.R_below (Hof.Rw HL1349_0.out) hb)
           have n2_ := Aside0.mk (blk_below (Hof.Bw BK1341.out) hb)
           have n3_ := Aside0.mk (Kd.C_below (by repeat (first | (with_reducible exact HR1349_0.out) | (with_reducible refine Kd.C_alloc ?_ _) | (with_reducible refine Kd.C_drewN ?_ _) | (with_reducible refine Kd.C_drew ?_) | exact HR1349_0.out)) hb)
           have n4_ := Aside0.mk (pw_cell_below hb HX1349_0.out)
           have n5_ := Aside0.mk (below_step (Hof.Lw HB.out) hb)
           clear HO_4
           clear HL1349_0
           clear BK1341
           clear HR1349_0
           clear HX1349_0
           clear HB
           have HO_4 := n0_
           have HL1349_0 := n1_
           have BK1341 := n2_
           have HR1349_0 := n3_
           have HX1349_0 := n4_
           have HB := n5_
           clear n0_ n1_ n2_ n3_ n4_ n5_
           (try clear hb)
           (try clear hb2)
           (try clear hk)
           (try clear hi)
           refine hK.out _ _ ⟨(blk_cell BK1341.out 0).trans rfl, (blk_cell BK1341.out 1).trans rfl, HS2_, HS3_⟩ (fun hHeld => ?_)
           clear hK K
           refine norm_ (a' := ?_) ?_ ?_
           rotate_left
           ·show Act.put _ (some 35) _ = _
            simp only [Act.put, List.setIfInBounds_toArray, List.set_cons_zero, List.set_cons_succ, i64_w, i32_w]
            rfl
           refine one_ (i := 10) (N := some 36) #[true, true, true, true, true, true, true, true, true, true, true, false, false, false, false, false] rfl rfl (one_of HT_.out (by kernel_rfl)) (by decide) (fun K hK => ?_)
           refine goes_ Try.func82 (by kernel_rfl) rfl #[.int .i64 t1350] (by rfl) rfl rfl (by (try simp only [List.map_toArray, List.map_cons, List.map_nil]); first | done | rfl) ?_
           with_reducible refine (impl_CountOf.calls t1350 t1351 _ A22.out).mono ?_
           rintro e w' ⟨rfl, ⟨nd, rfl⟩⟩
           refine ⟨_, rfl, ?_⟩
           have p1352 : 0 ≤ (t1351 : Int) := of_decide_eq_true (by first | (with_reducible assumption) | assumption)
           have q1352 : t1351 < ((rd_L1 x4_1 t1348).length : Int) := of_decide_eq_true (by first | (with_reducible assumption) | assumption)
           have hx1352_0 := hHeld.2.2.2
           replace p1352 := eq_true p1352
           replace q1352 := eq_true q1352
           have p25 : 0 ≤ (t1351 : Int) := of_decide_eq_true (by first | (with_reducible assumption) | assumption)
           have q25 : (t1351 : Int) < (((rd_L1 x4_1 t1348).length : Int) : Int) := of_decide_eq_true (by first | (with_reducible assumption) | assumption)
           obtain ⟨go25, co25, eo25, gb25, gl25, cl25, HG25⟩ := Kd.R_form HL1349_0.out (by omega)
           (first | cases eo25 | (injection eo25 with ea_ en_ ec_; (first | subst ea_ | (injection ea_ with ea_; subst ea_)); subst ec_; clear en_))
           have GB25 := Aside0.mk gb25
           have GG25 := Aside0.mk HG25
           clear gb25 gl25 HG25
           (first | simp only [add_plain] at hx1352_0 | skip)
           obtain ⟨hx25_0, hf25_0⟩ := Kd.R_celln 0 HL1349_0.out (t1351 : Int) p25 q25
           replace p25 := eq_true p25
           replace q25 := eq_true q25
           have hq30 : (t1348 : Int) < (x4_1.length : Int) := (by have h_ : (t1348 : Int) < ((x4_1.length : Int) : Int) := of_decide_eq_true (by first | (with_reducible assumption) | assumption); first | exact h_ | (have e_ := (Kd.S_reads' HO_4.out).1; omega) | simpa only [List.length_set, List.length_set] using h_)
           obtain ⟨oki30, ce30, hcl30, hM30, hcc30, hok30, hbk30⟩ := Kd.S_borrow HO_4.out [] (t1348 : Int) (of_decide_eq_true (by first | (with_reducible assumption) | assumption)) hq30
           obtain ⟨ve30_0, rfl, ge30_0⟩ := hM30
           have hv30 := hcc30 0 _ rfl
           rw [Nat.add_zero, show ((Kd.slice 3 (Kd.int .i64))).sz = 1 from rfl, Nat.mul_one] at hv30
           replace hv30 := Option.some.inj (hv30.symm.trans HX1349_0.out)
           subst hv30
           clear hcc30 hcl30
           replace ge30_0 := (show Kd.R (Kd.int .i64) 3 _ _ _ _ (rd_L1 x4_1 t1348) from ge30_0)
           have HP30 := Kd.R_putg ge30_0 (t1351 : Int) (wrap64 ((rd (rd_L1 x4_1 t1348) t1351) + 1))
           rw [← Ny1353.out] at HP30
           have HS30 := hbk30 HP30.2 (fun k_ e_ => by injection e_ with e_; subst e_; exact ge30_0.1 _ rfl) (x' := y1353) (Kd.M_row HP30.1)
           rw [← Ny1355.out] at HS30
           have HQ30 := Aside0.mk HS30
           clear HP30 HS30 hbk30 hok30
           refine hK.out _ _ ⟨(blk_cell BK1341.out 0).trans rfl, (blk_cell BK1341.out 1).trans rfl, hHeld.2.2.1, hHeld.2.2.2⟩ (fun hHeld => ?_)
           clear hK K
           refine norm_ (a' := ?_) ?_ ?_
           rotate_left
           ·show Act.put _ (some 36) _ = _
            simp only [Act.put, List.setIfInBounds_toArray, List.set_cons_zero, List.set_cons_succ, i64_w, i32_w]
            rfl
           refine pure_ (i := 11) (N := some 37) (v := ?_) (a' := ?_) #[true, true, true, true, true, true, true, true, true, true, true, true, false, false, false, false] rfl rfl (any_of HT_.out (by kernel_rfl)) (fun _ _ _ h => h) (Or.inl ⟨by rfl, ?_⟩) ?_ ?_
           rotate_left
           ·intro w'
            go_simp
            with_reducible rfl
           rotate_left
           ·simp only [Act.put, List.setIfInBounds_toArray, List.set_cons_zero, List.set_cons_succ, i64_w, i32_w]
            rfl
           refine take_ (i := 12) (N := some 38) (v := ?_) (a' := ?_) #[true, true, true, true, true, true, true, true, true, true, true, true, true, false, false, false] rfl rfl (take_ofW HT_.out HW_.out (by kernel_rfl)) (fun _ _ _ h => h) (Or.inl ⟨by rfl, ?_⟩) hHeld ?_ ?_
           rotate_left
           ·rintro w' ⟨s0, s1, s2, s3⟩; (try simp only [add_plain] at s3)
            go_simp
            with_reducible rfl
           rotate_left
           ·simp only [Act.put, List.setIfInBounds_toArray, List.set_cons_zero, List.set_cons_succ, i64_w, i32_w]
            rfl
           refine pure_ (i := 13) (N := some 39) (v := ?_) (a' := ?_) #[true, true, true, true, true, true, true, true, true, true, true, true, true, true, false, false] rfl rfl (any_of HT_.out (by kernel_rfl)) (fun _ _ _ h => h) (Or.inl ⟨by rfl, ?_⟩) ?_ ?_
           rotate_left
           ·intro w'
            go_simp
            with_reducible rfl
           rotate_left
           ·simp only [Act.put, List.setIfInBounds_toArray, List.set_cons_zero, List.set_cons_succ, i64_w, i32_w]
            rfl
           refine pure_ (i := 14) (N := some 40) (v := ?_) (a' := ?_) #[true, true, true, true, true, true, true, true, true, true, true, true, true, true, true, false] rfl rfl (any_of HT_.out (by kernel_rfl)) (fun _ _ _ h => h) (Or.inl ⟨by rfl, ?_⟩) ?_ ?_
           rotate_left
           ·intro w'
            go_simp
            with_reducible rfl
           rotate_left
           ·simp only [Act.put, List.setIfInBounds_toArray, List.set_cons_zero, List.set_cons_succ, i64_w, i32_w]
            rfl
           refine last_ (i := 15) (N := none) #[true, true, true, true, true, true, true, true, true, true, true, true, true, true, true, true] rfl rfl (one_of HT_.out (by kernel_rfl)) (by decide) (fun K hK => ?_)
           refine skip_ (w1 := ?_) (by rfl) rfl ?_ ?_
           rotate_left
           ·go_simp
            rfl
           refine hK.out _ _ ?_
           clear hK K
           refine done_ (done_of HT_.out (by kernel_rfl)) ?_
           try go_wp2
           go_roundg k1
           case measure => have := HK1.out; omega
           case rel => exact ⟨(y1355), (wrap64 (x22_1 + 1)), (by first | rfl | (simp; done) | (simp [*]; done)), H', ⟨by have := HK1.out; omega⟩, ⟨HQ30.out⟩, ⟨by (with_reducible repeat (first | refine blk_drewN ?_ _ | refine blk_drew ?_ | refine blk_alloc ?_ _)); refine blk_far ?_ (by have h_ := Kd.R_ne HL1349_0.out BK1341.out (by decide); intro e_; exact h_ (by rw [e_]; rfl)) _; (with_reducible repeat (first | refine blk_drewN ?_ _ | refine blk_drew ?_ | refine blk_alloc ?_ _)); exact BK1341.out⟩, ⟨by repeat (first | (with_reducible first | exact HB.out | apply below_alloc | apply pw_below_drewN | apply below_drew1 | refine below_set ?_ GB25.out | refine below_set ?_ GE1341.out) | exact HB.out)⟩⟩
          ·rw [if_neg c24] at H
           exact absurd H (by simp)
         ·rw [if_neg c23] at H
          exact absurd H (by simp)
        ·rw [if_neg c20] at H
         exact absurd H (by simp)
       ·rw [if_neg c19] at H
        exact absurd H (by simp)
      ·rw [if_neg c16] at H
       exact absurd H (by simp)
     ·rw [if_neg c15] at H
      exact absurd H (by simp)
    ·rw [if_neg c14] at H
     have c14b0 : decide (x22_1 < (l0_1.length : Int)) = false := decide_eq_false c14
     clear c14
     obtain rfl := Option.some.inj H
     go_wp2
     go_ret
     exact ⟨_, by first | rfl | (simp [errW_none, errW_some] <;> rfl) | (simp [*, errW_none, errW_some] <;> rfl), by (with_reducible repeat (first | apply Kd.S_alloc | apply Kd.S_drewN | apply Kd.S_drew)); exact HO_4.out, by repeat (first | (with_reducible first | exact HB.out | apply below_alloc | apply pw_below_drewN | apply below_drew1 | refine below_set ?_ GE1341.out) | exact HB.out)⟩
end Go.Proofs.Ytbjnkcfkhonkhaa.Pr
end
section
namespace Go.Proofs.Ytbjnkcfkhonkhaa.Pr
open Go.RowKit Go.Proofs.YtbjnkcfkhonkhaaW.PrintWords Go.Proofs.YtbjnkcfkhonkhaaW.PrintLast Go.Proofs.YtbjnkcfkhonkhaaW.PrintMore
attribute [local go_sem] max2_int min2_int max_two min_two max_three min_three max_four min_four
set_option linter.unusedVariables false
set_option linter.unusedSimpArgs false
def laws_FnExactActivityTable.j0 : Nat → List (List Int) → List (List Int) → Bool → Int → List Int → Option (Bool)
 | 0, _, _, _, _, _ => none
 | k + 1, x4, x6, x42, x1357000, x1357001 => if x42 = true then (some false) else ((laws_markIntSS.f k x6 1).bind fun bt1382 => ((laws_heldIntSS.f k bt1382.2 1).bind fun t1383 => (if t1383 < 0 then (some false) else (if t1383 = bt1382.1 then ((laws_toMatroid.f k x1357000 x1357001).bind fun bt1384 => ((impl_ActivityTable.f k bt1384.1 bt1384.2).bind fun t1388 => ((laws_eqIntSS.f k t1388 x4).bind fun t1391 => (if t1391 = true then ((laws_heldIntSS.f k bt1382.2 1).bind fun t1392 => (if t1392 < 0 then (some false) else (if t1392 = bt1382.1 then (some true) else (some false)))) else (some false))))) else (some false)))))
def laws_FnExactActivityTable.f (k : Nat) (a0_0 : Int) (l0_1 : List Int) : Option (Bool) := (laws_szMatroid.f a0_0 l0_1 1048576).bind fun t1357 => (if t1357 < 0 then (some true) else ((laws_toMatroid.f k a0_0 l0_1).bind fun bt1358 => ((spec_ActivityTable.f k bt1358.1 bt1358.2).bind fun t1362 => ((laws_toMatroid.f k a0_0 l0_1).bind fun bt1365 => ((impl_ActivityTable.f k bt1365.1 bt1365.2).bind fun t1370 => ((laws_eqIntSS.f k t1370 t1362).bind fun t1373 => (if t1373 = true then ((laws_toMatroid.f k a0_0 l0_1).bind fun bt1374 => ((laws_eqMatroid.f k bt1365.1 bt1365.2 bt1374.1 bt1374.2).bind fun t1378 => (if t1378 = true then ((laws_markMatroid.f k bt1365.1 bt1365.2 1).bind fun bt1379 => (if bt1379.1 < 0 then (laws_FnExactActivityTable.j0 k t1362 t1370 true a0_0 l0_1) else ((laws_eqIntSS.f k t1370 t1362).bind fun t1381 => (laws_FnExactActivityTable.j0 k t1362 t1370 (!t1381) a0_0 l0_1)))) else (some false)))) else (some false))))))))
set_option maxHeartbeats 8000000 in
set_option maxRecDepth 100000 in
theorem laws_FnExactActivityTable.calls (k : Nat) (a0_0 : Int) (A0_1 : Option Addr) (c0_1 : Nat) (l0_1 : List Int) (r : Bool) (w : World) (hr0_1 : Kd.C (Kd.int .i64) w A0_1 l0_1.length l0_1) (hc0_1 : l0_1.length ≤ c0_1) (hT : Aside0 (r = true)) (h : laws_FnExactActivityTable.f k a0_0 l0_1 = some r) :
  Calls Try.prog 12 #[.agg #[.int .i64 a0_0, .slice A0_1 l0_1.length c0_1]] w fun e w' => e = .returned (.bool r) ∧ Below w.heap.size w w' := by
 have hu42 := Try.underlying42
 have hu45 := Try.underlying45
 have HR0_1 := Aside0.mk hr0_1
 have HC0_1 := Aside0.mk hc0_1
 clear hr0_1 hc0_1
 have HB := Aside0.mk (Below.refl w.heap.size w)
 have H : ((laws_szMatroid.f a0_0 l0_1 1048576).bind fun t1357 => (if t1357 < 0 then (some true) else ((laws_toMatroid.f k a0_0 l0_1).bind fun bt1358 => ((spec_ActivityTable.f k bt1358.1 bt1358.2).bind fun t1362 => ((laws_toMatroid.f k a0_0 l0_1).bind fun bt1365 => ((impl_ActivityTable.f k bt1365.1 bt1365.2).bind fun t1370 => ((laws_eqIntSS.f k t1370 t1362).bind fun t1373 => (if t1373 = true then ((laws_toMatroid.f k a0_0 l0_1).bind fun bt1374 => ((laws_eqMatroid.f k bt1365.1 bt1365.2 bt1374.1 bt1374.2).bind fun t1378 => (if t1378 = true then ((laws_markMatroid.f k bt1365.1 bt1365.2 1).bind fun bt1379 => (if bt1379.1 < 0 then (laws_FnExactActivityTable.j0 k t1362 t1370 true a0_0 l0_1) else ((laws_eqIntSS.f k t1370 t1362).bind fun t1381 => (laws_FnExactActivityTable.j0 k t1362 t1370 (!t1381) a0_0 l0_1)))) else (some false)))) else (some false))))))))) = some r := h
 clear h
 replace H := Option.bind_eq_some_iff.mp H
 obtain ⟨t1357, A20, H⟩ := H
 (try dsimp only at H)
 have A2 := Aside0.mk A20
 clear A20
 by_cases c3 : t1357 < 0
 ·rw [if_pos c3] at H
  have c3b0 : decide (t1357 < 0) = true := decide_eq_true c3
  clear c3
  obtain rfl := Option.some.inj H
  go_enter Try.func12, Try.ntmps12
  go_wp2_with (first | ((with_reducible refine gate_dst (N := 1) rfl ?_); refine box_event ?hg (N := 1) ?hd (cs := #[.int .i64 a0_0, .slice A0_1 l0_1.length c0_1]) (t := 42) ?hr ?_; (case hd => rfl); (case hg => rfl); (case hr => first | (go_simp; done) | (go_simp; rfl)); intro gb1356 hg w4 hbox hb; have BK1356 := Aside0.mk hbox; have GW1356 := Aside0.mk ((by rw [hg]; exact (below_size (Hof.Lw HB.out)) : w.heap.size ≤ gb1356)); have GE1356 := Aside0.mk ((by rw [hg]; exact (below_size (Hof.Lw HB.out)) : w.heap.size ≤ gb1356)); replace HB := Aside0.mk (below_step (Hof.Lw HB.out) hb); clear hb hbox hg; obtain ⟨hcz5_0, hcz5_1, hfz5_0, hfz5_1⟩ := Hof.blk2 BK1356.out) | ((with_reducible refine gate_callee (f := 32) rfl ?_); refine goesL_ (some 13) rfl rfl Try.func32 (by kernel_rfl) rfl #[.agg #[.int .i64 a0_0, .slice A0_1 l0_1.length c0_1], .int .i64 1048576] rfl (by (try simp only [List.map_toArray, List.map_cons, List.map_nil]); first | done | rfl) ?_; (with_reducible refine (laws_szMatroid.calls a0_0 _ _ l0_1 1048576 t1357 _ ?side1 ?side2 A2.out).mono ?_); (case side1 => exact Hof.Cw (Kd.C_below HR0_1.out HB.out)); (case side2 => exact HC0_1.out); rintro e w6 ⟨rfl, hb⟩; refine ⟨_, rfl, ?_⟩; replace BK1356 := Aside0.mk (blk_below (Hof.Bw BK1356.out) hb); replace HB := Aside0.mk (below_step (by repeat (first | (with_reducible first | exact HB.out | apply below_alloc | apply pw_below_drewN | apply below_drew1 | refine below_set ?_ GE1356.out) | exact HB.out)) hb); (try clear hb); (try clear hb2); (try clear hk); (try clear hi)))
  go_ret
  exact ⟨by first | rfl | (simp [errW_none, errW_some] <;> rfl) | (simp [*, errW_none, errW_some] <;> rfl), by repeat (first | (with_reducible first | exact HB.out | apply below_alloc | apply pw_below_drewN | apply below_drew1 | refine below_set ?_ GE1356.out) | exact HB.out)⟩
 ·rw [if_neg c3] at H
  have c3b0 : decide (t1357 < 0) = false := decide_eq_false c3
  clear c3
  replace H := Option.bind_eq_some_iff.mp H
  obtain ⟨⟨t1358, t1359⟩, A70, H⟩ := H
  (try dsimp only at H)
  have A7 := Aside0.mk A70
  clear A70
  replace H := Option.bind_eq_some_iff.mp H
  obtain ⟨t1362, A80, H⟩ := H
  (try dsimp only at H)
  have A8 := Aside0.mk A80
  clear A80
  replace H := Option.bind_eq_some_iff.mp H
  obtain ⟨⟨t1365, t1366⟩, A90, H⟩ := H
  (try dsimp only at H)
  have A9 := Aside0.mk A90
  clear A90
  replace H := Option.bind_eq_some_iff.mp H
  obtain ⟨t1370, A100, H⟩ := H
  (try dsimp only at H)
  have A10 := Aside0.mk A100
  clear A100
  replace H := Option.bind_eq_some_iff.mp H
  obtain ⟨t1373, A110, H⟩ := H
  (try dsimp only at H)
  have A11 := Aside0.mk A110
  clear A110
  by_cases c12 : t1373 = true
  ·subst c12
   have H1 : ((laws_toMatroid.f k a0_0 l0_1).bind fun bt1374 => ((laws_eqMatroid.f k t1365 t1366 bt1374.1 bt1374.2).bind fun t1378 => (if t1378 = true then ((laws_markMatroid.f k t1365 t1366 1).bind fun bt1379 => (if bt1379.1 < 0 then (laws_FnExactActivityTable.j0 k t1362 t1370 true a0_0 l0_1) else ((laws_eqIntSS.f k t1370 t1362).bind fun t1381 => (laws_FnExactActivityTable.j0 k t1362 t1370 (!t1381) a0_0 l0_1)))) else (some false)))) = some r := by rw [if_pos rfl] at H; exact H
   clear H
   have H := H1
   clear H1
   replace H := Option.bind_eq_some_iff.mp H
   obtain ⟨⟨t1374, t1375⟩, A130, H⟩ := H
   (try dsimp only at H)
   have A13 := Aside0.mk A130
   clear A130
   replace H := Option.bind_eq_some_iff.mp H
   obtain ⟨t1378, A140, H⟩ := H
   (try dsimp only at H)
   have A14 := Aside0.mk A140
   clear A140
   by_cases c15 : t1378 = true
   ·subst c15
    have H1 : ((laws_markMatroid.f k t1365 t1366 1).bind fun bt1379 => (if bt1379.1 < 0 then (laws_FnExactActivityTable.j0 k t1362 t1370 true a0_0 l0_1) else ((laws_eqIntSS.f k t1370 t1362).bind fun t1381 => (laws_FnExactActivityTable.j0 k t1362 t1370 (!t1381) a0_0 l0_1)))) = some r := by rw [if_pos rfl] at H; exact H
    clear H
    have H := H1
    clear H1
    replace H := Option.bind_eq_some_iff.mp H
    obtain ⟨⟨t1379, t1380⟩, A160, H⟩ := H
    (try dsimp only at H)
    have A16 := Aside0.mk A160
    clear A160
    have HC17 := Aside0.mk H
    clear H
    go_enter Try.func12, Try.ntmps12
    try go_wp2_with (first | ((with_reducible refine gate_dst (N := 1) rfl ?_); refine box_event ?hg (N := 1) ?hd (cs := #[.int .i64 a0_0, .slice A0_1 l0_1.length c0_1]) (t := 42) ?hr ?_; (case hd => rfl); (case hg => rfl); (case hr => first | (go_simp; done) | (go_simp; rfl)); intro gb1356 hg w18 hbox hb; have BK1356 := Aside0.mk hbox; have GW1356 := Aside0.mk ((by rw [hg]; exact (below_size (Hof.Lw HB.out)) : w.heap.size ≤ gb1356)); have GE1356 := Aside0.mk ((by rw [hg]; exact (below_size (Hof.Lw HB.out)) : w.heap.size ≤ gb1356)); replace HB := Aside0.mk (below_step (Hof.Lw HB.out) hb); clear hb hbox hg; obtain ⟨hcz19_0, hcz19_1, hfz19_0, hfz19_1⟩ := Hof.blk2 BK1356.out) | ((with_reducible refine gate_callee (f := 32) rfl ?_); refine goesL_ (some 13) rfl rfl Try.func32 (by kernel_rfl) rfl #[.agg #[.int .i64 a0_0, .slice A0_1 l0_1.length c0_1], .int .i64 1048576] rfl (by (try simp only [List.map_toArray, List.map_cons, List.map_nil]); first | done | rfl) ?_; (with_reducible refine (laws_szMatroid.calls a0_0 _ _ l0_1 1048576 t1357 _ ?side1 ?side2 A2.out).mono ?_); (case side1 => exact Hof.Cw (Kd.C_below HR0_1.out HB.out)); (case side2 => exact HC0_1.out); rintro e w20 ⟨rfl, hb⟩; refine ⟨_, rfl, ?_⟩; replace BK1356 := Aside0.mk (blk_below (Hof.Bw BK1356.out) hb); replace HB := Aside0.mk (below_step (by repeat (first | (with_reducible first | exact HB.out | apply below_alloc | apply pw_below_drewN | apply below_drew1 | refine below_set ?_ GE1356.out) | exact HB.out)) hb); (try clear hb); (try clear hb2); (try clear hk); (try clear hi); obtain ⟨hcz21_0, hcz21_1, hfz21_0, hfz21_1⟩ := Hof.blk2 BK1356.out) | ((with_reducible refine gate_callee (f := 34) rfl ?_); refine goesL_ (some 17) rfl rfl Try.func34 (by kernel_rfl) rfl #[.agg #[.int .i64 a0_0, .slice A0_1 l0_1.length c0_1]] rfl (by (try simp only [List.map_toArray, List.map_cons, List.map_nil]); first | done | rfl) ?_; (with_reducible refine (laws_toMatroid.calls k a0_0 _ _ l0_1 t1358 t1359 _ ?side1 ?side2 A7.out).mono ?_); (case side1 => exact Hof.Cw (Kd.C_below HR0_1.out HB.out)); (case side2 => exact HC0_1.out); rintro e w22 ⟨v1360, rfl, ho0, hb⟩; refine ⟨_, rfl, ?_⟩; have HO1361 := Aside0.mk (Kd.R_lower ho0 (below_size (by repeat (first | (with_reducible first | exact HB.out | apply below_alloc | apply pw_below_drewN | apply below_drew1 | refine below_set ?_ GE1356.out) | exact HB.out)))); replace BK1356 := Aside0.mk (blk_below (Hof.Bw BK1356.out) hb); replace HB := Aside0.mk (below_step (by repeat (first | (with_reducible first | exact HB.out | apply below_alloc | apply pw_below_drewN | apply below_drew1 | refine below_set ?_ GE1356.out) | exact HB.out)) hb); (try clear hb); (try clear hb2); (try clear hk); (try clear hi); (try clear ho0); obtain ⟨Ao23, co23, eo23⟩ := Kd.R_slice HO1361.out; subst eo23) | ((with_reducible refine gate_callee (f := 50) rfl ?_); refine goesL_ (some 18) rfl rfl Try.func50 (by kernel_rfl) rfl #[.agg #[.int .i64 t1358, .slice Ao23 t1359.length co23]] rfl (by (try simp only [List.map_toArray, List.map_cons, List.map_nil]); first | done | rfl) ?_; (with_reducible refine (spec_ActivityTable.calls k t1358 _ _ t1359 t1362 _ ?side1 ?side2 A8.out).mono ?_); (case side1 => exact Hof.Cw ((Kd.R_reads' HO1361.out).2.2)); (case side2 => exact (Kd.R_reads' HO1361.out).2.1); rintro e w24 ⟨v1363, rfl, ho0, hb⟩; refine ⟨_, rfl, ?_⟩; have HO1364 := Aside0.mk (Kd.S_lower (Kd.S_new' ho0 (Kd.R_lt (Hof.Rw HO1361.out))) (below_size (by repeat (first | (with_reducible first | exact HB.out | apply below_alloc | apply pw_below_drewN | apply below_drew1 | refine below_set ?_ GE1356.out) | exact HB.out)))); replace HO1361 := Aside0.mk (Kd.R_below (Hof.Rw HO1361.out) hb); replace BK1356 := Aside0.mk (blk_below (Hof.Bw BK1356.out) hb); replace HB := Aside0.mk (below_step (by repeat (first | (with_reducible first | exact HB.out | apply below_alloc | apply pw_below_drewN | apply below_drew1 | refine below_set ?_ GE1356.out) | exact HB.out)) hb); (try clear hb); (try clear hb2); (try clear hk); (try clear hi); (try clear ho0); obtain ⟨hcz25_0, hcz25_1, hfz25_0, hfz25_1⟩ := Hof.blk2 BK1356.out) | ((with_reducible refine gate_callee (f := 34) rfl ?_); refine goesL_ (some 20) rfl rfl Try.func34 (by kernel_rfl) rfl #[.agg #[.int .i64 a0_0, .slice A0_1 l0_1.length c0_1]] rfl (by (try simp only [List.map_toArray, List.map_cons, List.map_nil]); first | done | rfl) ?_; (with_reducible refine (laws_toMatroid.calls k a0_0 _ _ l0_1 t1365 t1366 _ ?side1 ?side2 A9.out).mono ?_); (case side1 => exact Hof.Cw (Kd.C_below HR0_1.out HB.out)); (case side2 => exact HC0_1.out); rintro e w26 ⟨v1367, rfl, ho0, hb⟩; refine ⟨_, rfl, ?_⟩; replace HO1364 := Aside0.mk (Kd.S_elder' (Hof.Sw HO1364.out) (Kd.R_base ho0) hb); have HO1368 := Aside0.mk (Kd.R_lower (Kd.R_new' ho0 (Kd.R_lt (Hof.Rw HO1361.out))) (below_size (by repeat (first | (with_reducible first | exact HB.out | apply below_alloc | apply pw_below_drewN | apply below_drew1 | refine below_set ?_ GE1356.out) | exact HB.out)))); replace HO1361 := Aside0.mk (Kd.R_elder' (Hof.Rw HO1361.out) (Kd.R_base ho0) hb); replace BK1356 := Aside0.mk (blk_below (Hof.Bw BK1356.out) hb); replace HB := Aside0.mk (below_step (by repeat (first | (with_reducible first | exact HB.out | apply below_alloc | apply pw_below_drewN | apply below_drew1 | refine below_set ?_ GE1356.out) | exact HB.out)) hb); (try clear hb); (try clear hb2); (try clear hk); (try clear hi); (try clear ho0)) | ((with_reducible refine gate_dst (N := 5) rfl ?_); refine box_event ?hg (N := 5) ?hd (cs := #[.int .i64 0, .slice none 0 0]) (t := 45) ?hr ?_; (case hd => rfl); (case hg => rfl); (case hr => first | (go_simp; done) | (go_simp; rfl)); intro gb1369 hg w27 hbox hb; replace HO1361 := Aside0.mk (Kd.R_below (Hof.Rw HO1361.out) hb); replace HO1364 := Aside0.mk (Kd.S_below (Hof.Sw HO1364.out) hb); replace HO1368 := Aside0.mk (Kd.R_below (Hof.Rw HO1368.out) hb); have BK1369 := Aside0.mk hbox; have GW1369 := Aside0.mk ((by rw [hg]; exact (below_size (by repeat (first | (with_reducible first | exact HB.out | apply below_alloc | apply pw_below_drewN | apply below_drew1 | refine below_set ?_ GE1356.out) | exact HB.out))) : w.heap.size ≤ gb1369)); have GE1369 := Aside0.mk ((by rw [hg]; exact (below_size (by repeat (first | (with_reducible first | exact HB.out | apply below_alloc | apply pw_below_drewN | apply below_drew1 | refine below_set ?_ GE1356.out) | exact HB.out))) : w.heap.size ≤ gb1369)); replace HB := Aside0.mk (below_step (by repeat (first | (with_reducible first | exact HB.out | apply below_alloc | apply pw_below_drewN | apply below_drew1 | refine below_set ?_ GE1356.out) | exact HB.out)) hb); have NB1356_1369 := Aside0.mk ((by rw [hg]; exact Nat.ne_of_lt (blk_lt (g := gb1356) (o := .cells #[.int .i64 a0_0, .slice A0_1 l0_1.length c0_1] 42 (0, 0)) (Hof.Bw BK1356.out)) : gb1356 ≠ gb1369)); have NB1369_1356 := Aside0.mk ((by rw [hg]; exact Nat.ne_of_gt (blk_lt (g := gb1356) (o := .cells #[.int .i64 a0_0, .slice A0_1 l0_1.length c0_1] 42 (0, 0)) (Hof.Bw BK1356.out)) : gb1369 ≠ gb1356)); replace BK1356 := Aside0.mk (blk_below (Hof.Bw BK1356.out) hb); clear hb hbox hg; have hnb28 := NB1369_1356.out; have hnc28 := NB1356_1369.out; obtain ⟨hcz29_0, hcz29_1, hfz29_0, hfz29_1⟩ := Hof.blk2 BK1369.out; obtain ⟨Ao30, co30, eo30⟩ := Kd.R_slice HO1368.out; subst eo30) | ((with_reducible refine gate_callee (f := 51) rfl ?_); refine goesL_ (some 22) rfl rfl Try.func51 (by kernel_rfl) rfl #[.agg #[.int .i64 t1365, .slice Ao30 t1366.length co30]] rfl (by (try simp only [List.map_toArray, List.map_cons, List.map_nil]); first | done | rfl) ?_; (with_reducible refine (impl_ActivityTable.calls k t1365 _ _ t1366 t1370 _ ?side1 ?side2 A10.out).mono ?_); (case side1 => refine (Kd.R_reads' (e := 3) (base := w.heap.size) (ok := fun k_ => (True ∧ some k_ ≠ (.slice Ao23 t1359.length co23 : Value).ownBlock)) (n := t1366.length) (c := co30) ?_).2.2; exact (Hof.Rw ((Kd.R_mono (Kd.R_far (p := ⟨gb1369, 1, none⟩) (Kd.R_far (p := ⟨gb1369, 0, none⟩) (Kd.R_types HO1368.out BK1369.out (by decide)) (fun _ hk => hk.2) (.int .i64 t1365)) (fun _ hk => hk.2) (.slice Ao30 t1366.length co30)) (fun _ h_ => h_.1))))); (case side2 => exact (Kd.R_reads' HO1368.out).2.1); rintro e w31 ⟨v1371, rfl, ho0, hb⟩; refine ⟨_, rfl, ?_⟩; have HO1372 := Aside0.mk (Kd.S_lower (Kd.S_new' (Kd.S_new' (Kd.S_new' (Kd.S_bound ho0) (Kd.R_lt (Hof.Rw ((Kd.R_mono (Kd.R_far (p := ⟨gb1369, 1, none⟩) (Kd.R_far (p := ⟨gb1369, 0, none⟩) (Kd.R_types HO1361.out BK1369.out (by decide)) (fun _ hk => hk.2) (.int .i64 t1365)) (fun _ hk => hk.2) (.slice Ao30 t1366.length co30)) (fun _ h_ => h_.1)))))) (Kd.S_lt (Hof.Sw ((Kd.S_mono (Kd.S_far (p := ⟨gb1369, 1, none⟩) (Kd.S_far (p := ⟨gb1369, 0, none⟩) (Kd.S_types HO1364.out BK1369.out (by decide)) (fun _ hk => hk.2) (.int .i64 t1365)) (fun _ hk => hk.2) (.slice Ao30 t1366.length co30)) (fun _ h_ => h_.1)))))) (Kd.R_lt (Hof.Rw ((Kd.R_mono (Kd.R_far (p := ⟨gb1369, 1, none⟩) (Kd.R_far (p := ⟨gb1369, 0, none⟩) (Kd.R_types HO1368.out BK1369.out (by decide)) (fun _ hk => hk.2) (.int .i64 t1365)) (fun _ hk => hk.2) (.slice Ao30 t1366.length co30)) (fun _ h_ => h_.1)))))) (below_size (by repeat (first | (with_reducible first | exact HB.out | apply below_alloc | apply pw_below_drewN | apply below_drew1 | refine below_set ?_ GE1356.out | refine below_set ?_ GE1369.out) | exact HB.out)))); replace HO1361 := Aside0.mk (Kd.R_below (Hof.Rw ((Kd.R_mono (Kd.R_far (p := ⟨gb1369, 1, none⟩) (Kd.R_far (p := ⟨gb1369, 0, none⟩) (Kd.R_types HO1361.out BK1369.out (by decide)) (fun _ hk => hk.2) (.int .i64 t1365)) (fun _ hk => hk.2) (.slice Ao30 t1366.length co30)) (fun _ h_ => h_.1)))) hb); replace HO1364 := Aside0.mk (Kd.S_elder' (Kd.S_bound (Hof.Sw ((Kd.S_mono (Kd.S_far (p := ⟨gb1369, 1, none⟩) (Kd.S_far (p := ⟨gb1369, 0, none⟩) (Kd.S_types HO1364.out BK1369.out (by decide)) (fun _ hk => hk.2) (.int .i64 t1365)) (fun _ hk => hk.2) (.slice Ao30 t1366.length co30)) (fun _ h_ => h_.1))))) (Kd.S_base ho0) hb); replace HO1368 := Aside0.mk (Kd.R_below (Hof.Rw ((Kd.R_mono (Kd.R_far (p := ⟨gb1369, 1, none⟩) (Kd.R_far (p := ⟨gb1369, 0, none⟩) (Kd.R_types HO1368.out BK1369.out (by decide)) (fun _ hk => hk.2) (.int .i64 t1365)) (fun _ hk => hk.2) (.slice Ao30 t1366.length co30)) (fun _ h_ => h_.1)))) hb); replace BK1356 := Aside0.mk (blk_below (g := gb1356) (o := .cells #[.int .i64 a0_0, .slice A0_1 l0_1.length c0_1] 42 (0, 0)) (by (with_reducible repeat (first | refine blk_drewN ?_ _ | refine blk_drew ?_ | refine blk_alloc ?_ _)); refine blk_far ?_ NB1356_1369.out _; (with_reducible repeat (first | refine blk_drewN ?_ _ | refine blk_drew ?_ | refine blk_alloc ?_ _)); refine blk_far ?_ NB1356_1369.out _; (with_reducible repeat (first | refine blk_drewN ?_ _ | refine blk_drew ?_ | refine blk_alloc ?_ _)); exact BK1356.out) hb); replace BK1369 := Aside0.mk (blk_below (g := gb1369) (o := .cells #[.int .i64 t1365, .slice Ao30 t1366.length co30] 45 (0, 0)) (by (with_reducible repeat (first | refine blk_drewN ?_ _ | refine blk_drew ?_ | refine blk_alloc ?_ _)); refine blk_put (cs := #[.int .i64 t1365, .slice none 0 0]) ?_ 1 _ rfl; (with_reducible repeat (first | refine blk_drewN ?_ _ | refine blk_drew ?_ | refine blk_alloc ?_ _)); refine blk_put (cs := #[.int .i64 0, .slice none 0 0]) ?_ 0 _ rfl; (with_reducible repeat (first | refine blk_drewN ?_ _ | refine blk_drew ?_ | refine blk_alloc ?_ _)); exact BK1369.out) hb); replace HB := Aside0.mk (below_step (by repeat (first | (with_reducible first | exact HB.out | apply below_alloc | apply pw_below_drewN | apply below_drew1 | refine below_set ?_ GE1356.out | refine below_set ?_ GE1369.out) | exact HB.out)) hb); (try clear hb); (try clear hb2); (try clear hk); (try clear hi); (try clear ho0); obtain ⟨Ao32, co32, eo32⟩ := Kd.S_slice HO1372.out; subst eo32; obtain ⟨Ao33, co33, eo33⟩ := Kd.S_slice HO1364.out; subst eo33) | ((with_reducible refine gate_callee (f := 18) rfl ?_); refine goesL_ (some 25) rfl rfl Try.func18 (by kernel_rfl) rfl #[.slice Ao32 t1370.length co32, .slice Ao33 t1362.length co33] rfl (by (try simp only [List.map_toArray, List.map_cons, List.map_nil]); first | done | rfl) ?_; (with_reducible refine (laws_eqIntSS.calls k _ _ t1370 _ _ t1362 true _ ?side1 ?side2 ?side3 ?side4 A11.out).mono ?_); (case side1 => exact Hof.Cw ((Kd.S_reads' HO1372.out).2.2)); (case side2 => exact (Kd.S_reads' HO1372.out).2.1); (case side3 => exact Hof.Cw ((Kd.S_reads' HO1364.out).2.2)); (case side4 => exact (Kd.S_reads' HO1364.out).2.1); rintro e w' ⟨rfl, ⟨nd, rfl⟩⟩; refine ⟨_, rfl, ?_⟩))
    (try (rw [drewN_self w31]; generalize hq_ : World.drewN w31 _ = w31; obtain ⟨zB, m4_, m6_⟩ : ∃ z : Nat, Kd.S (Kd.slice 3 (Kd.int .i64)) 31 w31 w.heap.size (fun k_ => some k_ ≠ (.slice Ao23 t1359.length co23 : Value).ownBlock ∧ some k_ ≠ (.slice Ao30 t1366.length co30 : Value).ownBlock ∧ some k_ ≠ (.slice Ao32 t1370.length co32 : Value).ownBlock ∧ k_ < z) (.slice Ao33 t1362.length co33) t1362 ∧ Kd.S (Kd.slice 3 (Kd.int .i64)) 31 w31 w.heap.size (fun k_ => some k_ ≠ (.slice Ao23 t1359.length co23 : Value).ownBlock ∧ some k_ ≠ (.slice Ao33 t1362.length co33 : Value).ownBlock ∧ some k_ ≠ (.slice Ao30 t1366.length co30 : Value).ownBlock ∧ z ≤ k_ ∧ k_ ≠ gb1356 ∧ k_ ≠ gb1369) (.slice Ao32 t1370.length co32) t1370 := ⟨_, by rw [← hq_]; exact (Hof.Sw (Kd.S_mono HO1364.out (fun _ hk => ⟨hk.1.1.1.2, ⟨hk.1.1.2, ⟨hk.2, hk.1.2.2.1⟩⟩⟩))), by rw [← hq_]; exact (Hof.Sw (Kd.S_mono (Kd.S_types (Kd.S_types HO1372.out BK1356.out (by decide)) BK1369.out (by decide)) (fun _ hk => ⟨hk.1.1.1.1.2, ⟨hk.1.1.1.2, ⟨hk.1.1.2, ⟨hk.1.1.1.1.1.2.1, hk.1.2, hk.2⟩⟩⟩⟩)))⟩; have n0_ : Aside0 (Kd.R (Kd.int .i64) 3 w31 w.heap.size (fun k_ => some k_ ≠ (.slice Ao30 t1366.length co30 : Value).ownBlock) (.slice Ao23 t1359.length co23) t1359) := ⟨by rw [← hq_]; exact (Hof.Rw (Kd.R_mono HO1361.out (fun _ hk => hk.2)))⟩; have n1_ := Aside0.mk m4_; have n2_ : Aside0 (Kd.R (Kd.int .i64) 3 w31 w.heap.size (fun k_ => some k_ ≠ (.slice Ao23 t1359.length co23 : Value).ownBlock) (.slice Ao30 t1366.length co30) t1366) := ⟨by rw [← hq_]; exact (Hof.Rw (Kd.R_mono HO1368.out (fun _ hk => hk.2)))⟩; have n3_ := Aside0.mk m6_; have n4_ : Aside0 (w31.heap[gb1356]? = some (.cells #[.int .i64 a0_0, .slice A0_1 l0_1.length c0_1] 42 (0, 0))) := ⟨by rw [← hq_]; exact (Hof.Bw BK1356.out)⟩; have n5_ : Aside0 (w31.heap[gb1369]? = some (.cells #[.int .i64 t1365, .slice Ao30 t1366.length co30] 45 (0, 0))) := ⟨by rw [← hq_]; exact (Hof.Bw BK1369.out)⟩; have n6_ : Aside0 (Below w.heap.size w w31) := ⟨by rw [← hq_]; exact (by repeat (first | (with_reducible first | exact HB.out | apply below_alloc | apply pw_below_drewN | apply below_drew1 | refine below_set ?_ GE1356.out | refine below_set ?_ GE1369.out) | exact HB.out))⟩; clear HO1361 HO1364 HO1368 HO1372 BK1356 BK1369 HB hq_; have HO1361 := n0_; have HO1364 := n1_; have HO1368 := n2_; have HO1372 := n3_; have BK1356 := n4_; have BK1369 := n5_; have HB := n6_; clear n0_ n1_ n2_ n3_ n4_ n5_ n6_; have hcy1356_0 : w31.cell? ⟨gb1356, 0, none⟩ = some (.int .i64 a0_0) := (blk_cell BK1356.out 0).trans rfl; have hfy1356_0 := blk_frozen BK1356.out 0; have hcy1356_1 : w31.cell? ⟨gb1356, 1, none⟩ = some (.slice A0_1 l0_1.length c0_1) := (blk_cell BK1356.out 1).trans rfl; have hfy1356_1 := blk_frozen BK1356.out 1; have hcy1369_0 : w31.cell? ⟨gb1369, 0, none⟩ = some (.int .i64 t1365) := (blk_cell BK1369.out 0).trans rfl; have hfy1369_0 := blk_frozen BK1369.out 0; have hcy1369_1 : w31.cell? ⟨gb1369, 1, none⟩ = some (.slice Ao30 t1366.length co30) := (blk_cell BK1369.out 1).trans rfl; have hfy1369_1 := blk_frozen BK1369.out 1))
    have n0_ := Aside0.mk (Kd.R_drew HO1361.out)
    have n1_ := Aside0.mk (Kd.S_drew HO1364.out)
    have n2_ := Aside0.mk (Kd.R_drew HO1368.out)
    have n3_ := Aside0.mk (Kd.S_drew HO1372.out)
    have n4_ := Aside0.mk (blk_drew BK1356.out)
    have n5_ := Aside0.mk (blk_drew BK1369.out)
    have n6_ := Aside0.mk (below_drew1 HB.out)
    clear HO1361
    clear HO1364
    clear HO1368
    clear HO1372
    clear BK1356
    clear BK1369
    clear HB
    have HO1361 := n0_
    have HO1364 := n1_
    have HO1368 := n2_
    have HO1372 := n3_
    have BK1356 := n4_
    have BK1369 := n5_
    have HB := n6_
    clear n0_ n1_ n2_ n3_ n4_ n5_ n6_
    refine start_ (n := 5) (S := fun w' => w'.cell? ⟨gb1369, 0, none⟩ = some (.int .i64 t1365) ∧ w'.cell? ⟨gb1369, 1, none⟩ = some (.slice Ao30 t1366.length co30) ∧ w'.cell? ⟨gb1356, 0, none⟩ = some (.int .i64 a0_0) ∧ w'.cell? ⟨gb1356, 1, none⟩ = some (.slice A0_1 l0_1.length c0_1)) (ds := []) #[false, false, false, false, false] (by kernel_rfl) rfl rfl ⟨(blk_cell BK1369.out 0).trans rfl, (blk_cell BK1369.out 1).trans rfl, (blk_cell BK1356.out 0).trans rfl, (blk_cell BK1356.out 1).trans rfl⟩ (fun hHeld => ?_)
    generalize w31.drew = w34 at HO1361 HO1364 HO1368 HO1372 BK1356 BK1369 HB hHeld ⊢
    refine take_ (i := 0) (N := some 27) (v := ?_) (a' := ?_) #[true, false, false, false, false] rfl rfl (by kernel_rfl) (fun _ _ _ h => h) (Or.inl ⟨by rfl, ?_⟩) hHeld ?_ ?_
    rotate_left
    ·rintro w' ⟨s0, s1, s2, s3⟩
     go_simp
     with_reducible rfl
    rotate_left
    ·simp only [Act.put, List.setIfInBounds_toArray, List.set_cons_zero, List.set_cons_succ, i64_w, i32_w]
     rfl
    refine take_ (i := 1) (N := some 28) (v := ?_) (a' := ?_) #[true, true, false, false, false] rfl rfl (by kernel_rfl) (fun _ _ _ h => h) (Or.inl ⟨by rfl, ?_⟩) hHeld ?_ ?_
    rotate_left
    ·rintro w' ⟨s0, s1, s2, s3⟩
     go_simp
     with_reducible rfl
    rotate_left
    ·simp only [Act.put, List.setIfInBounds_toArray, List.set_cons_zero, List.set_cons_succ, i64_w, i32_w]
     rfl
    refine one_ (i := 2) (N := some 29) #[true, true, true, false, false] rfl rfl (by kernel_rfl) (by decide) (fun K hK => ?_)
    refine goes_ Try.func34 (by kernel_rfl) rfl #[.agg #[.int .i64 a0_0, .slice A0_1 l0_1.length c0_1]] (by rfl) rfl rfl (by (try simp only [List.map_toArray, List.map_cons, List.map_nil]); first | done | rfl) ?_
    with_reducible refine (laws_toMatroid.calls k a0_0 _ _ l0_1 t1374 t1375 _ ?side1 ?side2 A13.out).mono ?_
    (case side1 => exact Hof.Cw (Kd.C_below HR0_1.out HB.out))
    (case side2 => exact HC0_1.out)
    rintro e w35 ⟨v1376, rfl, ho0, hb⟩
    refine ⟨_, rfl, ?_⟩
    have n0_ := Aside0.mk (Kd.R_elder' (Hof.Rw HO1361.out) (Kd.R_base ho0) hb)
    have n1_ := Aside0.mk (Kd.S_elder' (Hof.Sw HO1364.out) (Kd.R_base ho0) hb)
    have n2_ := Aside0.mk (Kd.R_elder' (Hof.Rw HO1368.out) (Kd.R_base ho0) hb)
    have n3_ := Aside0.mk (Kd.S_elder' (Hof.Sw HO1372.out) (Kd.R_base ho0) hb)
    have n4_ := Aside0.mk (Kd.R_lower (Kd.R_new' (Kd.R_new' ho0 (Kd.R_lt (Hof.Rw HO1361.out))) (Kd.R_lt (Hof.Rw HO1368.out))) (below_size (by repeat (first | (with_reducible first | exact HB.out | apply below_alloc | apply pw_below_drewN | apply below_drew1 | refine below_set ?_ GE1356.out | refine below_set ?_ GE1369.out) | exact HB.out))))
    have n5_ := Aside0.mk (blk_below (Hof.Bw BK1356.out) hb)
    have n6_ := Aside0.mk (blk_below (Hof.Bw BK1369.out) hb)
    have n7_ := Aside0.mk (below_step (by repeat (first | (with_reducible first | exact HB.out | apply below_alloc | apply pw_below_drewN | apply below_drew1 | refine below_set ?_ GE1356.out | refine below_set ?_ GE1369.out) | exact HB.out)) hb)
    clear HO1361
    clear HO1364
    clear HO1368
    clear HO1372
    clear BK1356
    clear BK1369
    clear HB
    have HO1361 := n0_
    have HO1364 := n1_
    have HO1368 := n2_
    have HO1372 := n3_
    have HO1377 := n4_
    have BK1356 := n5_
    have BK1369 := n6_
    have HB := n7_
    clear n0_ n1_ n2_ n3_ n4_ n5_ n6_ n7_
    (try clear hb)
    (try clear hb2)
    (try clear hk)
    (try clear hi)
    (try clear ho0)
    obtain ⟨Ao36, co36, eo36⟩ := Kd.R_slice HO1377.out
    (first | subst eo36 | (injection eo36 with f1_ f2_ f3_; have f4_ := f1_.symm; have f5_ := f3_.symm; clear f1_ f2_ f3_; subst f4_; subst f5_))
    refine hK.out _ _ ⟨(blk_cell BK1369.out 0).trans rfl, (blk_cell BK1369.out 1).trans rfl, (blk_cell BK1356.out 0).trans rfl, (blk_cell BK1356.out 1).trans rfl⟩ (fun hHeld => ?_)
    clear hK K
    refine norm_ (a' := ?_) ?_ ?_
    rotate_left
    ·show Act.put _ (some 29) _ = _
     simp only [Act.put, List.setIfInBounds_toArray, List.set_cons_zero, List.set_cons_succ, i64_w, i32_w]
     rfl
    refine one_ (i := 3) (N := some 30) #[true, true, true, true, false] rfl rfl (by kernel_rfl) (by decide) (fun K hK => ?_)
    refine goes_ Try.func36 (by kernel_rfl) rfl #[.agg #[.int .i64 t1365, .slice Ao30 t1366.length co30], .agg #[.int .i64 t1374, .slice Ao36 t1375.length co36]] (by rfl) rfl rfl (by (try simp only [List.map_toArray, List.map_cons, List.map_nil]); first | done | rfl) ?_
    with_reducible refine (laws_eqMatroid.calls k t1365 _ _ t1366 t1374 _ _ t1375 true _ ?side1 ?side2 ?side3 ?side4 A14.out).mono ?_
    (case side1 => exact Hof.Cw ((Kd.R_reads' HO1368.out).2.2))
    (case side2 => exact (Kd.R_reads' HO1368.out).2.1)
    (case side3 => exact Hof.Cw ((Kd.R_reads' HO1377.out).2.2))
    (case side4 => exact (Kd.R_reads' HO1377.out).2.1)
    rintro e w37 ⟨rfl, hb⟩
    refine ⟨_, rfl, ?_⟩
    have n0_ := Aside0.mk (Kd.R_below (Hof.Rw HO1361.out) hb)
    have n1_ := Aside0.mk (Kd.S_below (Hof.Sw HO1364.out) hb)
    have n2_ := Aside0.mk (Kd.R_below (Hof.Rw HO1368.out) hb)
    have n3_ := Aside0.mk (Kd.S_below (Hof.Sw HO1372.out) hb)
    have n4_ := Aside0.mk (Kd.R_below (Hof.Rw HO1377.out) hb)
    have n5_ := Aside0.mk (blk_below (Hof.Bw BK1356.out) hb)
    have n6_ := Aside0.mk (blk_below (Hof.Bw BK1369.out) hb)
    have n7_ := Aside0.mk (below_step (by repeat (first | (with_reducible first | exact HB.out | apply below_alloc | apply pw_below_drewN | apply below_drew1 | refine below_set ?_ GE1356.out | refine below_set ?_ GE1369.out) | exact HB.out)) hb)
    clear HO1361
    clear HO1364
    clear HO1368
    clear HO1372
    clear HO1377
    clear BK1356
    clear BK1369
    clear HB
    have HO1361 := n0_
    have HO1364 := n1_
    have HO1368 := n2_
    have HO1372 := n3_
    have HO1377 := n4_
    have BK1356 := n5_
    have BK1369 := n6_
    have HB := n7_
    clear n0_ n1_ n2_ n3_ n4_ n5_ n6_ n7_
    (try clear hb)
    (try clear hb2)
    (try clear hk)
    (try clear hi)
    refine hK.out _ _ ⟨(blk_cell BK1369.out 0).trans rfl, (blk_cell BK1369.out 1).trans rfl, (blk_cell BK1356.out 0).trans rfl, (blk_cell BK1356.out 1).trans rfl⟩ (fun hHeld => ?_)
    clear hK K
    refine norm_ (a' := ?_) ?_ ?_
    rotate_left
    ·show Act.put _ (some 30) _ = _
     simp only [Act.put, List.setIfInBounds_toArray, List.set_cons_zero, List.set_cons_succ, i64_w, i32_w]
     rfl
    refine pure_ (i := 4) (N := some 31) (v := ?_) (a' := ?_) #[true, true, true, true, true] rfl rfl (by kernel_rfl) (fun _ _ _ h => h) (Or.inl ⟨by rfl, ?_⟩) ?_ ?_
    rotate_left
    ·intro w'
     go_simp
     with_reducible rfl
    rotate_left
    ·simp only [Act.put, List.setIfInBounds_toArray, List.set_cons_zero, List.set_cons_succ, i64_w, i32_w]
     rfl
    refine done_ (by kernel_rfl) ?_
    obtain ⟨hcz38_0, hcz38_1, hfz38_0, hfz38_1⟩ := Hof.blk2 BK1369.out
    go_upto_region 14 with (first | ((with_reducible refine gate_callee (f := 37) rfl ?_); refine goesL_ (some 34) rfl rfl Try.func37 (by kernel_rfl) rfl #[.agg #[.int .i64 t1365, .slice Ao30 t1366.length co30], .int .i64 1] rfl (by (try simp only [List.map_toArray, List.map_cons, List.map_nil]); first | done | rfl) ?_; (with_reducible refine (laws_markMatroid.calls k t1365 (fun k_ => some k_ = (.slice Ao30 t1366.length co30 : Value).ownBlock) (.slice Ao30 t1366.length co30) t1366 1 t1379 t1380 w _ ?side1 ?side2 A16.out).mono ?_); (case side1 => repeat (first | (with_reducible first | exact HB.out | apply below_alloc | apply pw_below_drewN | apply below_drew1 | refine below_set ?_ GE1356.out | refine below_set ?_ GE1369.out) | exact HB.out)); (case side2 => exact Kd.R_tight rfl HO1368.out); rintro e w39 ⟨rfl, hy0, hb, hkp⟩; refine ⟨_, rfl, ?_⟩; replace BK1356 := Aside0.mk (blk_kept (Hof.Bw BK1356.out) hkp (fun hs_ => (fun e_ => (Kd.R_ne HO1368.out BK1356.out (by decide)) e_) hs_)); replace HO1361 := Aside0.mk (Kd.R_mono (ok' := fun k_ => some k_ ≠ (.slice Ao30 t1366.length co30 : Value).ownBlock ∧ some k_ ≠ (.slice Ao36 t1375.length co36 : Value).ownBlock) (Kd.R_keptB (HO1361.out) hkp (fun k_ hk_ hs_ => (by first | exact (hk_.1.2) hs_ | (simp_all; done)))) (fun k_ hk_ => (by first | exact ⟨hk_.1.1.2, hk_.1.2⟩ | (simp_all; done)))); replace HO1364 := Aside0.mk (Kd.S_mono (ok' := fun k_ => some k_ ≠ (.slice Ao23 t1359.length co23 : Value).ownBlock ∧ some k_ ≠ (.slice Ao30 t1366.length co30 : Value).ownBlock ∧ some k_ ≠ (.slice Ao32 t1370.length co32 : Value).ownBlock ∧ some k_ ≠ (.slice Ao36 t1375.length co36 : Value).ownBlock ∧ k_ < zB) (Kd.S_keptB (HO1364.out) hkp (fun k_ hk_ hs_ => (by first | exact (hk_.1.1.2) hs_ | (simp_all; done)))) (fun k_ hk_ => (by first | exact ⟨hk_.1.1.1.1.2, hk_.1.1.1.2, hk_.1.1.2, hk_.1.2⟩ | (simp_all; done)))); replace BK1369 := Aside0.mk (blk_kept (Hof.Bw BK1369.out) hkp (fun hs_ => (fun e_ => (Kd.R_ne HO1368.out BK1369.out (by decide)) e_) hs_)); replace HO1368 := Aside0.mk (Kd.R_reok rfl hy0 (fun k_ e_ => HO1368.out.1 k_ e_)); replace HO1372 := Aside0.mk (Kd.S_mono (ok' := fun k_ => some k_ ≠ (.slice Ao23 t1359.length co23 : Value).ownBlock ∧ some k_ ≠ (.slice Ao33 t1362.length co33 : Value).ownBlock ∧ some k_ ≠ (.slice Ao30 t1366.length co30 : Value).ownBlock ∧ some k_ ≠ (.slice Ao36 t1375.length co36 : Value).ownBlock ∧ zB ≤ k_ ∧ k_ ≠ gb1356 ∧ k_ ≠ gb1369) (Kd.S_keptB (HO1372.out) hkp (fun k_ hk_ hs_ => (by first | exact (hk_.1.2) hs_ | (simp_all; done)))) (fun k_ hk_ => (by first | exact ⟨hk_.1.1.1.1.2, hk_.1.1.1.2, hk_.1.1.2, hk_.1.2⟩ | (simp_all; done)))); replace HO1377 := Aside0.mk (Kd.R_mono (ok' := fun k_ => some k_ ≠ (.slice Ao23 t1359.length co23 : Value).ownBlock ∧ some k_ ≠ (.slice Ao30 t1366.length co30 : Value).ownBlock) (Kd.R_keptB (HO1377.out) hkp (fun k_ hk_ hs_ => (by first | exact (hk_.2) hs_ | (simp_all; done)))) (fun k_ hk_ => (by first | exact ⟨hk_.1.1.2, hk_.1.2⟩ | (simp_all; done)))); replace HB := Aside0.mk hb; (try clear hb); (try clear hkp); (try clear hy0)))
    (try simp only [Act.put, List.setIfInBounds_toArray, List.set_cons_zero, List.set_cons_succ])
    go_cut [42] (fun v42 wc => ∃ (kq : Nat) (x42_16 : Bool), v42 = .bool x42_16 ∧ Aside0 (laws_FnExactActivityTable.j0 kq t1362 t1370 x42_16 a0_0 l0_1 = some r) ∧ Aside0 (kq ≤ k) ∧ Aside0 (Kd.S (Kd.slice 3 (Kd.int .i64)) 31 wc w.heap.size (fun k_ => some k_ ≠ ((.slice Ao32 t1370.length co32) : Value).ownBlock ∧ some k_ ≠ ((.slice Ao30 t1366.length co30) : Value).ownBlock ∧ k_ < zB) (.slice Ao33 t1362.length co33) t1362) ∧ Aside0 (Kd.S (Kd.slice 3 (Kd.int .i64)) 31 wc w.heap.size (fun k_ => some k_ ≠ ((.slice Ao33 t1362.length co33) : Value).ownBlock ∧ some k_ ≠ ((.slice Ao30 t1366.length co30) : Value).ownBlock ∧ zB ≤ k_ ∧ k_ ≠ gb1356 ∧ k_ ≠ gb1369) (.slice Ao32 t1370.length co32) t1370) ∧ Aside0 (Kd.R (Kd.int .i64) 3 wc w.heap.size (fun _ => True) (.slice Ao30 t1366.length co30) t1380) ∧ Aside0 (wc.heap[gb1356]? = some (.cells #[.int .i64 a0_0, (.slice A0_1 l0_1.length c0_1)] 42 (0, 0))) ∧ Aside0 (wc.heap[gb1369]? = some (.cells #[.int .i64 t1365, (.slice Ao30 t1366.length co30)] 45 (0, 0))) ∧ Aside0 (Below w.heap.size w wc))
    case first =>
     have H := HC17.out
     clear HC17
     by_cases c40 : t1379 < 0
     ·rw [if_pos c40] at H
      have c40b0 : decide (t1379 < 0) = true := decide_eq_true c40
      clear c40
      (first | rw [c40b0] | (simp only [i64_w, i32_w]; rw [c40b0]) | skip)
      have H' := Aside0.mk H
      clear H
      go_wp2
      go_meet
      case rel => exact ⟨_, (true), (by first | rfl | (simp; done) | (simp [*]; done)), H', ⟨by first | omega | exact Nat.le_refl _⟩, ⟨Hof.Sw (Kd.S_mono HO1364.out (fun _ hk => (by first | exact ⟨hk.2.2.1, hk.2.1⟩ | (simp_all; done))))⟩, ⟨Hof.Sw (Kd.S_mono HO1372.out (fun _ hk => (by first | exact ⟨hk.2.1, hk.2.2.1⟩ | (simp_all; done))))⟩, ⟨Hof.Rw (Kd.R_mono HO1368.out (fun _ hk => trivial))⟩, ⟨Hof.Bw BK1356.out⟩, ⟨Hof.Bw BK1369.out⟩, ⟨by repeat (first | (with_reducible first | exact HB.out | apply below_alloc | apply pw_below_drewN | apply below_drew1 | refine below_set ?_ GE1356.out | refine below_set ?_ GE1369.out) | exact HB.out)⟩⟩
     ·rw [if_neg c40] at H
      have c40b0 : decide (t1379 < 0) = false := decide_eq_false c40
      clear c40
      (first | rw [c40b0] | (simp only [i64_w, i32_w]; rw [c40b0]) | skip)
      replace H := Option.bind_eq_some_iff.mp H
      obtain ⟨t1381, A410, H⟩ := H
      (try dsimp only at H)
      have A41 := Aside0.mk A410
      clear A410
      have H' := Aside0.mk H
      clear H
      go_wp2_with (first | (go_at_call 18; (with_reducible refine (laws_eqIntSS.calls k _ _ t1370 _ _ t1362 t1381 _ ?side1 ?side2 ?side3 ?side4 A41.out).mono ?_); (case side1 => exact Hof.Cw ((Kd.S_reads' HO1372.out).2.2)); (case side2 => exact (Kd.S_reads' HO1372.out).2.1); (case side3 => exact Hof.Cw ((Kd.S_reads' HO1364.out).2.2)); (case side4 => exact (Kd.S_reads' HO1364.out).2.1); rintro e w' ⟨rfl, ⟨nd, rfl⟩⟩))
      go_meet
      case rel => exact ⟨_, (!t1381), (by first | rfl | (simp; done) | (simp [*]; done)), H', ⟨by first | omega | exact Nat.le_refl _⟩, ⟨Hof.Sw (Kd.S_mono HO1364.out (fun _ hk => (by first | exact ⟨hk.2.2.1, hk.2.1⟩ | (simp_all; done))))⟩, ⟨Hof.Sw (Kd.S_mono HO1372.out (fun _ hk => (by first | exact ⟨hk.2.1, hk.2.2.1⟩ | (simp_all; done))))⟩, ⟨Hof.Rw (Kd.R_mono HO1368.out (fun _ hk => trivial))⟩, ⟨Hof.Bw BK1356.out⟩, ⟨Hof.Bw BK1369.out⟩, ⟨by repeat (first | (with_reducible first | exact HB.out | apply below_alloc | apply pw_below_drewN | apply below_drew1 | refine below_set ?_ GE1356.out | refine below_set ?_ GE1369.out) | exact HB.out)⟩⟩
    case rest =>
     clear HC17
     try clear c1
     try clear c2
     try clear p2
     try clear c3
     try clear c3b0
     try clear c4
     try clear c5
     try clear c12
     try clear c15
     try clear c18
     try clear c28
     try clear c32
     try clear c34
     try clear c36
     try clear c37
     try clear c40
     try clear c40b0
     try clear hcz19_0
     try clear hcz19_1
     try clear hcz21_0
     try clear hcz21_1
     try clear hcz25_0
     try clear hcz25_1
     try clear hcz29_0
     try clear hcz29_1
     try clear hcz38_0
     try clear hcz38_1
     try clear hcz5_0
     try clear hcz5_1
     try clear hfz19_0
     try clear hfz19_1
     try clear hfz21_0
     try clear hfz21_1
     try clear hfz25_0
     try clear hfz25_1
     try clear hfz29_0
     try clear hfz29_1
     try clear hfz38_0
     try clear hfz38_1
     try clear hfz5_0
     try clear hfz5_1
     obtain ⟨kq, x42_16, rfl, HA, HJ16, HO_4, HO_6, HO_1370001, BK1356, BK1369, HB⟩ := hcut
     have hl1370001_16 := (Kd.R_reads' HO_1370001.out).1
     rw [hl1370001_16] at HO_1370001
     (try simp only [hl1370001_16])
     (try simp only [hl1370001_16] at BK1356)
     (try simp only [hl1370001_16] at BK1369)
     (try simp only [hl1370001_16] at HO_4)
     (try simp only [hl1370001_16] at HO_6)
     cases kq with
     | zero => exact absurd HA.out (by simp [laws_FnExactActivityTable.j0])
     | succ kj16 =>
      have H := HA.out
      clear HA
      simp only [laws_FnExactActivityTable.j0] at H
      by_cases c42 : x42_16 = true
      ·subst c42
       have H1 : (some false) = some r := by rw [if_pos rfl] at H; exact H
       clear H
       have H := H1
       clear H1
       obtain rfl := Option.some.inj H
       exact absurd hT.out (by decide)
      ·replace c42 := Bool.eq_false_iff.mpr c42
       subst c42
       have H1 : ((laws_markIntSS.f kj16 t1370 1).bind fun bt1382 => ((laws_heldIntSS.f kj16 bt1382.2 1).bind fun t1383 => (if t1383 < 0 then (some false) else (if t1383 = bt1382.1 then ((laws_toMatroid.f kj16 a0_0 l0_1).bind fun bt1384 => ((impl_ActivityTable.f kj16 bt1384.1 bt1384.2).bind fun t1388 => ((laws_eqIntSS.f kj16 t1388 t1362).bind fun t1391 => (if t1391 = true then ((laws_heldIntSS.f kj16 bt1382.2 1).bind fun t1392 => (if t1392 < 0 then (some false) else (if t1392 = bt1382.1 then (some true) else (some false)))) else (some false))))) else (some false))))) = some r := by rw [if_neg (show ¬ (false = true) by decide)] at H; exact H
       clear H
       have H := H1
       clear H1
       replace H := Option.bind_eq_some_iff.mp H
       obtain ⟨⟨t1382, mt2⟩, A430, H⟩ := H
       (try dsimp only at H)
       have A43 := Aside0.mk A430
       clear A430
       replace H := Option.bind_eq_some_iff.mp H
       obtain ⟨t1383, A440, H⟩ := H
       (try dsimp only at H)
       have A44 := Aside0.mk A440
       clear A440
       by_cases c45 : t1383 < 0
       ·rw [if_pos c45] at H
        have c45b0 : decide (t1383 < 0) = true := decide_eq_true c45
        clear c45
        obtain rfl := Option.some.inj H
        exact absurd hT.out (by decide)
       ·rw [if_neg c45] at H
        have c45b0 : decide (t1383 < 0) = false := decide_eq_false c45
        clear c45
        by_cases c46 : t1383 = t1382
        ·rw [if_pos c46] at H
         have c46b0 : (t1383 == t1382) = true := beq_iff_eq.mpr c46
         have c46b1 : (t1383 != t1382) = false := bne_eq_false_iff_eq.mpr c46
         clear c46
         replace H := Option.bind_eq_some_iff.mp H
         obtain ⟨⟨t1384, t1385⟩, A470, H⟩ := H
         (try dsimp only at H)
         have A47 := Aside0.mk A470
         clear A470
         replace H := Option.bind_eq_some_iff.mp H
         obtain ⟨t1388, A480, H⟩ := H
         (try dsimp only at H)
         have A48 := Aside0.mk A480
         clear A480
         replace H := Option.bind_eq_some_iff.mp H
         obtain ⟨t1391, A490, H⟩ := H
         (try dsimp only at H)
         have A49 := Aside0.mk A490
         clear A490
         by_cases c50 : t1391 = true
         ·subst c50
          have H1 : ((laws_heldIntSS.f kj16 mt2 1).bind fun t1392 => (if t1392 < 0 then (some false) else (if t1392 = t1382 then (some true) else (some false)))) = some r := by rw [if_pos rfl] at H; exact H
          clear H
          have H := H1
          clear H1
          replace H := Option.bind_eq_some_iff.mp H
          obtain ⟨t1392, A510, H⟩ := H
          (try dsimp only at H)
          have A51 := Aside0.mk A510
          clear A510
          by_cases c52 : t1392 < 0
          ·rw [if_pos c52] at H
           have c52b0 : decide (t1392 < 0) = true := decide_eq_true c52
           clear c52
           obtain rfl := Option.some.inj H
           exact absurd hT.out (by decide)
          ·rw [if_neg c52] at H
           have c52b0 : decide (t1392 < 0) = false := decide_eq_false c52
           clear c52
           by_cases c53 : t1392 = t1382
           ·rw [if_pos c53] at H
            have c53b0 : (t1392 == t1382) = true := beq_iff_eq.mpr c53
            have c53b1 : (t1392 != t1382) = false := bne_eq_false_iff_eq.mpr c53
            clear c53
            obtain rfl := Option.some.inj H
            go_wp2_with (first | ((with_reducible refine gate_callee (f := 19) rfl ?_); refine goesL_ (some 45) rfl rfl Try.func19 (by kernel_rfl) rfl #[.slice Ao32 t1370.length co32, .int .i64 1] rfl (by (try simp only [List.map_toArray, List.map_cons, List.map_nil]); first | done | rfl) ?_; (with_reducible refine (laws_markIntSS.calls kj16 _ _ t1370 1 t1382 mt2 w _ (Hof.Lw HB.out) (Hof.Sw HO_6.out) A43.out).mono ?_); rintro e w54 ⟨rfl, hs0, hb, hkp⟩; refine ⟨_, rfl, ?_⟩; replace HO_4 := Aside0.mk (Kd.S_kept (Hof.Sw HO_4.out) hkp (fun k_ hk_ hs_ => absurd hs_.2.2.1 (Nat.not_le_of_lt hk_.2.2))); replace HO_1370001 := Aside0.mk (Kd.R_mono (Kd.R_kept (Kd.R_tight rfl (Hof.Rw HO_1370001.out)) hkp (fun k_ hk_ hs_ => hs_.2.1 hk_)) (fun _ _ => trivial)); replace BK1356 := Aside0.mk (blk_kept (Hof.Bw BK1356.out) hkp (fun hs_ => hs_.2.2.2.1 rfl)); replace BK1369 := Aside0.mk (blk_kept (Hof.Bw BK1369.out) hkp (fun hs_ => hs_.2.2.2.2 rfl)); replace HO_6 := Aside0.mk hs0; have HL6 := Aside0.mk (Kd.S_reads' HO_6.out).1; replace HB := Aside0.mk hb; clear hs0 hb hkp) | ((with_reducible refine gate_callee (f := 20) rfl ?_); refine goesL_ (some 48) rfl rfl Try.func20 (by kernel_rfl) rfl #[.slice Ao32 t1370.length co32, .int .i64 1] rfl (by (try simp only [List.map_toArray, List.map_cons, List.map_nil]); first | done | rfl) ?_; (with_reducible refine (calls_of_args (args' := #[.slice Ao32 mt2.length co32, .int .i64 1]) (by rw [HL6.out]) (laws_heldIntSS.calls kj16 _ _ mt2 1 t1383 _ (Hof.Cw (Kd.S_reads' HO_6.out).2.2) (by have h1_ := HL6.out; have h2_ := (Kd.S_reads' HO_6.out).2.1; omega) A44.out)).mono ?_); rintro e w' ⟨rfl, ⟨nd, rfl⟩⟩; refine ⟨_, rfl, ?_⟩; have hnb55 := NB1356_1369.out; have hnc55 := NB1369_1356.out; obtain ⟨hcz56_0, hcz56_1, hfz56_0, hfz56_1⟩ := Hof.blk2 BK1356.out) | ((with_reducible refine gate_callee (f := 34) rfl ?_); refine goesL_ (some 55) rfl rfl Try.func34 (by kernel_rfl) rfl #[.agg #[.int .i64 a0_0, .slice A0_1 l0_1.length c0_1]] rfl (by (try simp only [List.map_toArray, List.map_cons, List.map_nil]); first | done | rfl) ?_; (with_reducible refine (laws_toMatroid.calls kj16 a0_0 _ _ l0_1 t1384 t1385 _ ?side1 ?side2 A47.out).mono ?_); (case side1 => exact Hof.Cw (Kd.C_below HR0_1.out (by repeat (first | (with_reducible first | exact HB.out | apply below_alloc | apply pw_below_drewN | apply below_drew1 | refine below_set ?_ GE1356.out | refine below_set ?_ GE1369.out) | exact HB.out)))); (case side2 => exact HC0_1.out); rintro e w57 ⟨v1386, rfl, ho0, hb⟩; refine ⟨_, rfl, ?_⟩; replace HO_4 := Aside0.mk (Kd.S_elder' (Hof.Sw HO_4.out) (Kd.R_base ho0) hb); replace HO_6 := Aside0.mk (Kd.S_elder' (Hof.Sw HO_6.out) (Kd.R_base ho0) hb); have HO1387 := Aside0.mk (Kd.R_lower (Kd.R_new' ho0 (Kd.R_lt (Hof.Rw HO_1370001.out))) (below_size (by repeat (first | (with_reducible first | exact HB.out | apply below_alloc | apply pw_below_drewN | apply below_drew1 | refine below_set ?_ GE1356.out | refine below_set ?_ GE1369.out) | exact HB.out)))); replace HO_1370001 := Aside0.mk (Kd.R_elder' (Hof.Rw HO_1370001.out) (Kd.R_base ho0) hb); replace BK1356 := Aside0.mk (blk_below (Hof.Bw BK1356.out) hb); replace BK1369 := Aside0.mk (blk_below (Hof.Bw BK1369.out) hb); replace HB := Aside0.mk (below_step (by repeat (first | (with_reducible first | exact HB.out | apply below_alloc | apply pw_below_drewN | apply below_drew1 | refine below_set ?_ GE1356.out | refine below_set ?_ GE1369.out) | exact HB.out)) hb); (try clear hb); (try clear hb2); (try clear hk); (try clear hi); (try clear ho0); obtain ⟨Ao58, co58, eo58⟩ := Kd.R_slice HO1387.out; subst eo58) | ((with_reducible refine gate_callee (f := 51) rfl ?_); refine goesL_ (some 56) rfl rfl Try.func51 (by kernel_rfl) rfl #[.agg #[.int .i64 t1384, .slice Ao58 t1385.length co58]] rfl (by (try simp only [List.map_toArray, List.map_cons, List.map_nil]); first | done | rfl) ?_; (with_reducible refine (impl_ActivityTable.calls kj16 t1384 _ _ t1385 t1388 _ ?side1 ?side2 A48.out).mono ?_); (case side1 => exact Hof.Cw ((Kd.R_reads' HO1387.out).2.2)); (case side2 => exact (Kd.R_reads' HO1387.out).2.1); rintro e w59 ⟨v1389, rfl, ho0, hb⟩; refine ⟨_, rfl, ?_⟩; have HO1390 := Aside0.mk (Kd.S_lower (Kd.S_new' (Kd.S_new' (Kd.S_new' (Kd.S_new' ho0 (Kd.S_lt (Hof.Sw HO_4.out))) (Kd.S_lt (Hof.Sw HO_6.out))) (Kd.R_lt (Hof.Rw HO_1370001.out))) (Kd.R_lt (Hof.Rw HO1387.out))) (below_size (by repeat (first | (with_reducible first | exact HB.out | apply below_alloc | apply pw_below_drewN | apply below_drew1 | refine below_set ?_ GE1356.out | refine below_set ?_ GE1369.out) | exact HB.out)))); replace HO_4 := Aside0.mk (Kd.S_elder' (Hof.Sw HO_4.out) (Kd.S_base ho0) hb); replace HO_6 := Aside0.mk (Kd.S_elder' (Hof.Sw HO_6.out) (Kd.S_base ho0) hb); replace HO_1370001 := Aside0.mk (Kd.R_below (Hof.Rw HO_1370001.out) hb); replace HO1387 := Aside0.mk (Kd.R_below (Hof.Rw HO1387.out) hb); replace BK1356 := Aside0.mk (blk_below (Hof.Bw BK1356.out) hb); replace BK1369 := Aside0.mk (blk_below (Hof.Bw BK1369.out) hb); replace HB := Aside0.mk (below_step (by repeat (first | (with_reducible first | exact HB.out | apply below_alloc | apply pw_below_drewN | apply below_drew1 | refine below_set ?_ GE1356.out | refine below_set ?_ GE1369.out) | exact HB.out)) hb); (try clear hb); (try clear hb2); (try clear hk); (try clear hi); (try clear ho0); obtain ⟨Ao60, co60, eo60⟩ := Kd.S_slice HO1390.out; subst eo60) | ((with_reducible refine gate_callee (f := 18) rfl ?_); refine goesL_ (some 59) rfl rfl Try.func18 (by kernel_rfl) rfl #[.slice Ao60 t1388.length co60, .slice Ao33 t1362.length co33] rfl (by (try simp only [List.map_toArray, List.map_cons, List.map_nil]); first | done | rfl) ?_; (with_reducible refine (laws_eqIntSS.calls kj16 _ _ t1388 _ _ t1362 true _ ?side1 ?side2 ?side3 ?side4 A49.out).mono ?_); (case side1 => exact Hof.Cw ((Kd.S_reads' HO1390.out).2.2)); (case side2 => exact (Kd.S_reads' HO1390.out).2.1); (case side3 => exact Hof.Cw ((Kd.S_reads' HO_4.out).2.2)); (case side4 => exact (Kd.S_reads' HO_4.out).2.1); rintro e w' ⟨rfl, ⟨nd, rfl⟩⟩; refine ⟨_, rfl, ?_⟩) | ((with_reducible refine gate_callee (f := 20) rfl ?_); refine goesL_ (some 63) rfl rfl Try.func20 (by kernel_rfl) rfl #[.slice Ao32 t1370.length co32, .int .i64 1] rfl (by (try simp only [List.map_toArray, List.map_cons, List.map_nil]); first | done | rfl) ?_; (with_reducible refine (calls_of_args (args' := #[.slice Ao32 mt2.length co32, .int .i64 1]) (by rw [HL6.out]) (laws_heldIntSS.calls kj16 _ _ mt2 1 t1392 _ (Hof.Cw (Kd.S_reads' HO_6.out).2.2) (by have h1_ := HL6.out; have h2_ := (Kd.S_reads' HO_6.out).2.1; omega) A51.out)).mono ?_); rintro e w' ⟨rfl, ⟨nd, rfl⟩⟩; refine ⟨_, rfl, ?_⟩))
            go_ret
            exact ⟨by first | rfl | (simp [errW_none, errW_some] <;> rfl) | (simp [*, errW_none, errW_some] <;> rfl), by repeat (first | (with_reducible first | exact HB.out | apply below_alloc | apply pw_below_drewN | apply below_drew1 | refine below_set ?_ GE1356.out | refine below_set ?_ GE1369.out) | exact HB.out)⟩
           ·rw [if_neg c53] at H
            have c53b0 : (t1392 == t1382) = false := beq_eq_false_iff_ne.mpr c53
            have c53b1 : (t1392 != t1382) = true := bne_iff_ne.mpr c53
            obtain rfl := Option.some.inj H
            exact absurd hT.out (by decide)
         ·replace c50 := Bool.eq_false_iff.mpr c50
          subst c50
          have H1 : (some false) = some r := by rw [if_neg (show ¬ (false = true) by decide)] at H; exact H
          clear H
          have H := H1
          clear H1
          obtain rfl := Option.some.inj H
          exact absurd hT.out (by decide)
        ·rw [if_neg c46] at H
         have c46b0 : (t1383 == t1382) = false := beq_eq_false_iff_ne.mpr c46
         have c46b1 : (t1383 != t1382) = true := bne_iff_ne.mpr c46
         obtain rfl := Option.some.inj H
         exact absurd hT.out (by decide)
   ·replace c15 := Bool.eq_false_iff.mpr c15
    subst c15
    have H1 : (some false) = some r := by rw [if_neg (show ¬ (false = true) by decide)] at H; exact H
    clear H
    have H := H1
    clear H1
    obtain rfl := Option.some.inj H
    exact absurd hT.out (by decide)
  ·replace c12 := Bool.eq_false_iff.mpr c12
   subst c12
   have H1 : (some false) = some r := by rw [if_neg (show ¬ (false = true) by decide)] at H; exact H
   clear H
   have H := H1
   clear H1
   obtain rfl := Option.some.inj H
   exact absurd hT.out (by decide)
end Go.Proofs.Ytbjnkcfkhonkhaa.Pr
end
section
namespace Go.Proofs.Ytbjnkcfkhonkhaa.Gen
open Go.RowKit Go.Proofs.YtbjnkcfkhonkhaaW.PrintWords Go.Proofs.YtbjnkcfkhonkhaaW.PrintMore
theorem w64 {i : Int} (h0 : -9223372036854775808 ≤ i) (h1 : i ≤ 9223372036854775807) : wrap64 i = i := by
 unfold wrap64
 omega
theorem w64s (i : Nat) (h1 : i < 9223372036854775807) : wrap64 ((i : Int) + 1) = ((i + 1 : Nat) : Int) := by
 unfold wrap64
 omega
theorem rd_nat (xs : List Int) (i : Nat) : rd xs (i : Int) = xs.getD i 0 := rfl
theorem count_loop {σ γ : Type} (L : Nat → σ → Int → Option γ) (n : Nat) (step : Nat → σ → σ) (P : Nat → σ → Prop) (K : Nat)
  (hstep : ∀ k i s, K ≤ k → i < n → P i s → L (k + 1) s (i : Int) = L k (step i s) ((i + 1 : Nat) : Int) ∧ P (i + 1) (step i s)) :
  ∀ (d i : Nat) (s : σ) (k : Nat), i + d = n → K + d ≤ k → P i s → ∃ s', L k s (i : Int) = L (k - d) s' (n : Int) ∧ P n s' ∧ s' = (List.range' i d).foldl (fun s j => step j s) s := by
 intro d
 induction d with
 | zero =>
  intro i s k hi hk hP
  obtain rfl : i = n := by omega
  exact ⟨s, by simp, hP, by simp⟩
 | succ d ih =>
  intro i s k hi hk hP
  obtain ⟨k, rfl⟩ : ∃ m, k = m + 1 := ⟨k - 1, by omega⟩
  obtain ⟨h1, h2⟩ := hstep k i s (by omega) (by omega) hP
  obtain ⟨s', h3, h4, h5⟩ := ih (i + 1) (step i s) k (by omega) (by omega) h2
  refine ⟨s', ?_, h4, ?_⟩
  ·rw [h1, h3]
   congr 1
   omega
  ·rw [h5, List.range'_succ]
   rfl
theorem fill_loop {β γ : Type} (L : Nat → List β → Int → Option γ) (f : Nat → β) (K n : Nat)
  (hstep : ∀ k i ys, K ≤ k → i < n → ys.length = n → L (k + 1) ys (i : Int) = L k (ys.set i (f i)) ((i + 1 : Nat) : Int))
  (ys : List β) (hy : ys.length = n) (k : Nat) (hk : K + n ≤ k) : L k ys 0 = L (k - n) ((List.range n).map f) (n : Int) := by
 obtain ⟨s', h1, h2, _⟩ := count_loop L n (fun i s => s.set i (f i)) (fun i s => s.length = n ∧ ∀ j, j < i → s[j]? = some (f j)) K
  (fun k i s hK hi hP => ⟨hstep k i s hK hi hP.1, by simpa using hP.1, fun j hj => by
   rw [List.getElem?_set]
   by_cases e : i = j
   ·subst e
    rw [if_pos rfl, if_pos (by omega)]
   ·rw [if_neg e]
    exact hP.2 j (by omega)⟩) n 0 ys k (by omega) hk ⟨hy, fun j hj => by omega⟩
 refine h1.trans ?_
 congr 1
 apply List.ext_getElem?
 intro j
 by_cases hj : j < n
 ·rw [h2.2 j hj]
  simp [hj]
 ·rw [List.getElem?_eq_none (by omega), List.getElem?_eq_none (by simp; omega)]
theorem map_getD {α β : Type} (xs : List α) (d : α) (g : α → β) : (List.range xs.length).map (fun i => g (xs.getD i d)) = xs.map g := by
 apply List.ext_getElem?
 intro j
 by_cases hj : j < xs.length
 ·simp [hj, List.getD]
 ·simp [hj]
theorem map_getD' {α : Type} (xs : List α) (d : α) : (List.range xs.length).map (fun i => xs.getD i d) = xs := by
 have := map_getD xs d id
 simpa using this
theorem all_loop (L : Nat → Int → Option Bool) (n : Nat) (p : Nat → Bool) (K : Nat) (last : Bool)
  (hstep : ∀ k i, K ≤ k → i < n → L (k + 1) (i : Int) = if p i = true then L k ((i + 1 : Nat) : Int) else some false)
  (hend : ∀ k, K ≤ k → L (k + 1) (n : Int) = some last) :
  ∀ (d i k : Nat), i + d = n → K + d < k → L k (i : Int) = some ((List.range' i d).all p && last) := by
 intro d
 induction d with
 | zero =>
  intro i k hi hk
  obtain rfl : i = n := by omega
  obtain ⟨k, rfl⟩ : ∃ m, k = m + 1 := ⟨k - 1, by omega⟩
  simp [hend k (by omega)]
 | succ d ih =>
  intro i k hi hk
  obtain ⟨k, rfl⟩ : ∃ m, k = m + 1 := ⟨k - 1, by omega⟩
  rw [hstep k i (by omega) (by omega), List.range'_succ]
  by_cases h : p i = true
  ·rw [if_pos h, ih (i + 1) k (by omega) (by omega)]
   simp [h]
  ·rw [if_neg h]
   simp [h]
theorem ev_loop {σ γ : Type} (L : Nat → σ → Int → Option γ) (n : Nat) (step : Nat → σ → σ) (P : Nat → σ → Prop) (r : γ)
  (hround : ∀ i s, i < n → P i s → P (i + 1) (step i s) ∧ (Ev (fun k => L k (step i s) ((i + 1 : Nat) : Int)) r → Ev (fun k => L k s (i : Int)) r)) :
  ∀ (d i : Nat) (s : σ), i + d = n → P i s → (P n ((List.range' i d).foldl (fun s j => step j s) s) → Ev (fun k => L k ((List.range' i d).foldl (fun s j => step j s) s) (n : Int)) r) → Ev (fun k => L k s (i : Int)) r := by
 intro d
 induction d with
 | zero =>
  intro i s hi hP h
  obtain rfl : i = n := by omega
  exact h (by simpa using hP)
 | succ d ih =>
  intro i s hi hP h
  obtain ⟨h1, h2⟩ := hround i s (by omega) hP
  refine h2 (ih (i + 1) (step i s) (by omega) h1 ?_)
  rw [List.range'_succ] at h
  exact h
theorem ev_at {γ : Type} {g : Nat → Option γ} {r : γ} (K : Nat) (h : ∀ k, K ≤ k → g k = some r) : Ev g r := ⟨K, h⟩
theorem foldl_append (p : Nat → Bool) (l : List Nat) (acc : List Int) : l.foldl (fun s j => if p j = true then s ++ [(j : Int)] else s) acc = acc ++ (l.filter p).map (fun j : Nat => (j : Int)) := by
 induction l generalizing acc with
 | nil => simp
 | cons a l ih =>
  rw [List.foldl_cons, ih]
  by_cases h : p a = true
  ·simp [h]
  ·simp [h]
theorem foldl_id {σ : Type} (f : σ → Nat → σ) (l : List Nat) (s : σ) (h : ∀ j ∈ l, ∀ s, f s j = s) : l.foldl f s = s := by
 induction l generalizing s with
 | nil => rfl
 | cons a l ih =>
  rw [List.foldl_cons, h a (by simp), ih _ (fun j hj => h j (by simp [hj]))]
theorem foldl_more {σ : Type} (f : σ → Nat → σ) (m d : Nat) (s : σ) (h : ∀ j, m ≤ j → ∀ s, f s j = s) : (List.range' 0 (m + d)).foldl f s = (List.range' 0 m).foldl f s := by
 rw [← List.range'_append_1, List.foldl_append]
 refine foldl_id _ _ _ fun j hj => h j ?_
 have := List.mem_range'_1.1 hj
 omega
theorem all_yes (l : List Nat) : (l.all fun _ => true) = true := List.all_eq_true.2 (fun _ _ => rfl)
end Go.Proofs.Ytbjnkcfkhonkhaa.Gen
end
section
namespace Go.Proofs.Ytbjnkcfkhonkhaa.Base
open Go.RowKit Go.Proofs.Ytbjnkcfkhonkhaa.Pr Go.Proofs.YtbjnkcfkhonkhaaW.PrintWords Go.Proofs.YtbjnkcfkhonkhaaW.PrintLast Go.Proofs.YtbjnkcfkhonkhaaW.PrintMore
theorem toIntS (xs : List Int) (hn : xs.length ≤ 1048576) (k : Nat) (hk : xs.length < k) : laws_toIntS.f k xs = some xs := by
 unfold laws_toIntS.f
 rw [if_pos (by omega), if_pos (by omega)]
 rw [Gen.fill_loop (fun k ys i => laws_toIntS.l0 k xs ys i) (fun i => xs.getD i 0) 0 xs.length (fun k i ys _ hi hy => by
  simp only [laws_toIntS.l0]
  rw [if_pos (by omega), if_pos (by omega), if_pos (by omega), Gen.w64s i (by omega), Gen.rd_nat]
  simp) _ (by simp) k (by omega), Gen.map_getD']
 obtain ⟨m, hm⟩ : ∃ m, k - xs.length = m + 1 := ⟨k - xs.length - 1, by omega⟩
 rw [hm]
 simp only [laws_toIntS.l0]
 rw [if_neg (by omega)]
theorem eqIntS (xs : List Int) (hn : xs.length ≤ 1048576) (k : Nat) (hk : xs.length < k) : laws_eqIntS.f k xs xs = some true := by
 unfold laws_eqIntS.f
 rw [if_pos rfl]
 have := Gen.all_loop (fun k i => laws_eqIntS.l0 k xs xs i) xs.length (fun _ => true) 0 true (fun k i _ hi => by
  simp only [laws_eqIntS.l0]
  rw [if_pos (by omega), if_pos (by omega), if_pos (by omega), if_pos (by trivial), Gen.w64s i (by omega), if_pos (by trivial)]) (fun k _ => by
  simp only [laws_eqIntS.l0]
  rw [if_neg (by omega)]) xs.length 0 k (by omega) (by omega)
 simpa [Gen.all_yes] using this
end Go.Proofs.Ytbjnkcfkhonkhaa.Base
end
section
namespace Go.Proofs.Ytbjnkcfkhonkhaa.Base
open Go.RowKit Go.Proofs.Ytbjnkcfkhonkhaa.Pr Go.Proofs.YtbjnkcfkhonkhaaW.PrintWords Go.Proofs.YtbjnkcfkhonkhaaW.PrintLast Go.Proofs.YtbjnkcfkhonkhaaW.PrintMore
theorem szIntS (xs : List Int) (left : Int) (hm : xs.length ≤ maxLen) (h1 : left ≤ 1048576) (h0 : 0 ≤ left) : ∃ z, laws_szIntS.f xs left = some z ∧ (z < 0 ∨ (xs.length ≤ 1048576 ∧ 0 ≤ z ∧ z ≤ left)) := by
 unfold maxLen at hm
 unfold laws_szIntS.f
 rw [Gen.w64 (by omega) (by omega)]
 by_cases h : left - (xs.length : Int) < 0
 ·exact ⟨-1, by rw [if_pos h], .inl (by omega)⟩
 ·exact ⟨_, by rw [if_neg h], .inr ⟨by omega, by omega, by omega⟩⟩
theorem szMatroid (n : Int) (xs : List Int) (left : Int) (hm : xs.length ≤ maxLen) (h1 : left ≤ 1048576) (h0 : 0 ≤ left) : ∃ z, laws_szMatroid.f n xs left = some z ∧ (z < 0 ∨ (xs.length ≤ 1048576 ∧ 0 ≤ z ∧ z ≤ left)) := by
 obtain ⟨z, hz, h⟩ := szIntS xs left hm h1 h0
 unfold laws_szMatroid.f
 rw [hz]
 simp only [Option.bind_some]
 by_cases hn : z < 0
 ·exact ⟨-1, by rw [if_pos hn], .inl (by omega)⟩
 ·exact ⟨z, by rw [if_neg hn], h⟩
theorem toIntSE (xs : List Int) (hn : xs.length ≤ 1048576) : Ev (fun k => laws_toIntS.f k xs) xs := Gen.ev_at (xs.length + 1) (fun k hk => toIntS xs hn k (by omega))
theorem eqIntSE (xs : List Int) (hn : xs.length ≤ 1048576) : Ev (fun k => laws_eqIntS.f k xs xs) true := Gen.ev_at (xs.length + 1) (fun k hk => eqIntS xs hn k (by omega))
theorem toMatroid (n : Int) (xs : List Int) (hn : xs.length ≤ 1048576) : Ev (fun k => laws_toMatroid.f k n xs) (n, xs) := by
 unfold laws_toMatroid.f
 exact Ev.bind (toIntSE xs hn) (Ev.now _)
theorem eqMatroid (n : Int) (xs : List Int) (hn : xs.length ≤ 1048576) : Ev (fun k => laws_eqMatroid.f k n xs n xs) true := by
 unfold laws_eqMatroid.f
 simp only [if_true]
 exact Ev.bind (eqIntSE xs hn) (Ev.now _)
end Go.Proofs.Ytbjnkcfkhonkhaa.Base
end
section
namespace Go.Proofs.Ytbjnkcfkhonkhaa.Base
open Go.RowKit Go.Proofs.Ytbjnkcfkhonkhaa.Pr Go.Proofs.YtbjnkcfkhonkhaaW.PrintWords Go.Proofs.YtbjnkcfkhonkhaaW.PrintLast Go.Proofs.YtbjnkcfkhonkhaaW.PrintMore
def marks (a : Int) (n : Nat) : List Int := (List.range n).map fun i : Nat => a + (i : Int)
theorem marks_length (a : Int) (n : Nat) : (marks a n).length = n := by simp [marks]
theorem markIntS (xs : List Int) (a : Int) (hn : xs.length ≤ 1048576) (h0 : 0 ≤ a) (h1 : a ≤ 2 ^ 50) : Ev (fun k => laws_markIntS.f k xs a) (a + (xs.length : Int), marks a xs.length) := by
 unfold laws_markIntS.f
 refine Gen.ev_loop (fun k (s : List Int × Int) i => laws_markIntS.l0 k s.1 s.2 i) xs.length (fun i s => (s.1.set i s.2, s.2 + 1)) (fun i s => s.2 = a + (i : Int) ∧ s.1.length = xs.length ∧ ∀ j, j < i → s.1[j]? = some (a + (j : Int))) _ (fun i s hi hP => ⟨?_, fun h => Ev.step (fun k => ?_) h⟩) xs.length 0 (xs, a) (by omega) ⟨by simp, rfl, fun j hj => by omega⟩ (fun hP => Gen.ev_at 1 (fun k hk => ?_))
 ·obtain ⟨p1, p2, p3⟩ := hP
  refine ⟨by show s.2 + 1 = _; rw [p1]; push_cast; omega, by simpa using p2, fun j hj => ?_⟩
  show (s.1.set i s.2)[j]? = _
  rw [List.getElem?_set]
  by_cases e : i = j
  ·subst e
   rw [if_pos rfl, if_pos (by omega), p1]
  ·rw [if_neg e]
   exact p3 j (by omega)
 ·obtain ⟨p1, p2, p3⟩ := hP
  simp only [laws_markIntS.l0]
  rw [if_pos (by omega), if_pos (by omega), Gen.w64s i (by omega), Gen.w64 (i := s.2 + 1) (by omega) (by omega)]
  rfl
 ·obtain ⟨q, rfl⟩ : ∃ q, k = q + 1 := ⟨k - 1, by omega⟩
  generalize (List.range' 0 xs.length).foldl (fun (s : List Int × Int) j => (s.1.set j s.2, s.2 + 1)) (xs, a) = s at hP ⊢
  obtain ⟨p1, p2, p3⟩ := hP
  simp only [laws_markIntS.l0]
  rw [if_neg (by omega), p1]
  congr 2
  apply List.ext_getElem?
  intro j
  by_cases hj : j < xs.length
  ·rw [p3 j hj]
   simp [marks, hj]
  ·rw [List.getElem?_eq_none (by omega), List.getElem?_eq_none (by rw [marks_length]; omega)]
theorem markMatroid (n : Int) (xs : List Int) (a : Int) (hn : xs.length ≤ 1048576) (h0 : 0 ≤ a) (h1 : a ≤ 2 ^ 50) : Ev (fun k => laws_markMatroid.f k n xs a) (a + (xs.length : Int), marks a xs.length) := by
 unfold laws_markMatroid.f
 exact Ev.bind (markIntS xs a hn h0 h1) (Ev.now _)
end Go.Proofs.Ytbjnkcfkhonkhaa.Base
end
section
namespace Go.Proofs.Ytbjnkcfkhonkhaa.Base
open Go.RowKit Go.Proofs.Ytbjnkcfkhonkhaa.Pr Go.Proofs.YtbjnkcfkhonkhaaW.PrintWords Go.Proofs.YtbjnkcfkhonkhaaW.PrintLast Go.Proofs.YtbjnkcfkhonkhaaW.PrintMore
theorem rdL (xs : List (List Int)) (i : Nat) : rd_L1 xs (i : Int) = xs.getD i [] := rfl
def Small (xs : List (List Int)) : Prop := xs.length ≤ 1048576 ∧ ∀ x ∈ xs, x.length ≤ 1048576
theorem Small.at_ {xs : List (List Int)} (h : Small xs) (i : Nat) : (xs.getD i []).length ≤ 1048576 := by
 by_cases hi : i < xs.length
 ·have := h.2 (xs[i]) (List.getElem_mem hi)
  simpa [List.getD, hi] using this
 ·simp [List.getD, hi]
end Go.Proofs.Ytbjnkcfkhonkhaa.Base
end
section
namespace Go.Proofs.Ytbjnkcfkhonkhaa.Base
open Go.RowKit Go.Proofs.Ytbjnkcfkhonkhaa.Pr Go.Proofs.YtbjnkcfkhonkhaaW.PrintWords Go.Proofs.YtbjnkcfkhonkhaaW.PrintLast Go.Proofs.YtbjnkcfkhonkhaaW.PrintMore
theorem eqIntSB (xs : List Int) (hn : xs.length ≤ 2097152) : Ev (fun k => laws_eqIntS.f k xs xs) true := by
 refine Gen.ev_at (xs.length + 1) (fun k hk => ?_)
 unfold laws_eqIntS.f
 rw [if_pos rfl]
 have := Gen.all_loop (fun k i => laws_eqIntS.l0 k xs xs i) xs.length (fun _ => true) 0 true (fun k i _ hi => by
  simp only [laws_eqIntS.l0]
  rw [if_pos (by omega), if_pos (by omega), if_pos (by omega), if_pos (by trivial), Gen.w64s i (by omega), if_pos (by trivial)]) (fun k _ => by
  simp only [laws_eqIntS.l0]
  rw [if_neg (by omega)]) xs.length 0 k (by omega) (by omega)
 simpa [Gen.all_yes] using this
def Mid (xs : List (List Int)) : Prop := xs.length ≤ 2097152 ∧ ∀ x ∈ xs, x.length ≤ 2097152
theorem Small.mid {xs : List (List Int)} (h : Small xs) : Mid xs := ⟨by have := h.1; omega, fun x hx => by have := h.2 x hx; omega⟩
theorem mid_at (ds rs : List (List Int)) (x : List Int) : (ds ++ x :: rs).getD ds.length [] = x := by simp [List.getD]
theorem eqIntSSB (xs : List (List Int)) (h : Mid xs) : Ev (fun k => laws_eqIntSS.f k xs xs) true := by
 have hn := h.1
 unfold laws_eqIntSS.f
 simp only [if_true]
 have key : ∀ (rs ds : List (List Int)), ds ++ rs = xs → Ev (fun k => laws_eqIntSS.l0 k xs xs (ds.length : Int)) true := by
  intro rs
  induction rs with
  | nil =>
   intro ds e
   refine Gen.ev_at 1 (fun k hk => ?_)
   obtain ⟨q, rfl⟩ : ∃ q, k = q + 1 := ⟨k - 1, by omega⟩
   have e' : ds.length = xs.length := by rw [← e]; simp
   simp only [laws_eqIntSS.l0]
   rw [if_neg (by omega)]
  | cons x rs ih =>
   intro ds e
   have hl : ds.length < xs.length := by rw [← e]; simp
   have hx : x.length ≤ 2097152 := h.2 x (by rw [← e]; simp)
   have hr : rd_L1 xs (ds.length : Int) = x := by rw [rdL, ← e]; exact mid_at ds rs x
   have := ih (ds ++ [x]) (by rw [← e]; simp)
   refine Ev.step (f := fun k => (laws_eqIntS.f k x x).bind fun t => if t = true then laws_eqIntSS.l0 k xs xs ((ds ++ [x]).length : Int) else some false) (fun k => ?_) ?_
   ·simp only [laws_eqIntSS.l0]
    rw [if_pos (by omega), if_pos (by omega), if_pos (by omega), hr, Gen.w64s ds.length (by omega)]
    simp
   ·refine Ev.bind (eqIntSB x hx) ?_
    simp only [if_true]
    exact this
 exact key xs [] rfl
def marksL : Int → List (List Int) → List (List Int)
 | _, [] => []
 | a, x :: xs => marks a x.length :: marksL (a + (x.length : Int)) xs
def total : List (List Int) → Nat
 | [] => 0
 | x :: xs => x.length + total xs
theorem total_le (xs : List (List Int)) (h : ∀ x ∈ xs, x.length ≤ 2097152) : total xs ≤ xs.length * 2097152 := by
 induction xs with
 | nil => simp [total]
 | cons x xs ih =>
  have := ih fun y hy => h y (by simp [hy])
  have := h x (by simp)
  simp only [total, List.length_cons]
  omega
theorem markIntSB (xs : List Int) (a : Int) (hn : xs.length ≤ 2097152) (h0 : 0 ≤ a) (h1 : a ≤ 2 ^ 60) : Ev (fun k => laws_markIntS.f k xs a) (a + (xs.length : Int), marks a xs.length) := by
 unfold laws_markIntS.f
 refine Gen.ev_loop (fun k (s : List Int × Int) i => laws_markIntS.l0 k s.1 s.2 i) xs.length (fun i s => (s.1.set i s.2, s.2 + 1)) (fun i s => s.2 = a + (i : Int) ∧ s.1.length = xs.length ∧ ∀ j, j < i → s.1[j]? = some (a + (j : Int))) _ (fun i s hi hP => ⟨?_, fun h => Ev.step (fun k => ?_) h⟩) xs.length 0 (xs, a) (by omega) ⟨by simp, rfl, fun j hj => by omega⟩ (fun hP => Gen.ev_at 1 (fun k hk => ?_))
 ·obtain ⟨p1, p2, p3⟩ := hP
  refine ⟨by show s.2 + 1 = _; rw [p1]; push_cast; omega, by simpa using p2, fun j hj => ?_⟩
  show (s.1.set i s.2)[j]? = _
  rw [List.getElem?_set]
  by_cases e : i = j
  ·subst e
   rw [if_pos rfl, if_pos (by omega), p1]
  ·rw [if_neg e]
   exact p3 j (by omega)
 ·obtain ⟨p1, p2, p3⟩ := hP
  simp only [laws_markIntS.l0]
  rw [if_pos (by omega), if_pos (by omega), Gen.w64s i (by omega), Gen.w64 (i := s.2 + 1) (by omega) (by omega)]
  rfl
 ·obtain ⟨q, rfl⟩ : ∃ q, k = q + 1 := ⟨k - 1, by omega⟩
  generalize (List.range' 0 xs.length).foldl (fun (s : List Int × Int) j => (s.1.set j s.2, s.2 + 1)) (xs, a) = s at hP ⊢
  obtain ⟨p1, p2, p3⟩ := hP
  simp only [laws_markIntS.l0]
  rw [if_neg (by omega), p1]
  congr 2
  apply List.ext_getElem?
  intro j
  by_cases hj : j < xs.length
  ·rw [p3 j hj]
   simp [marks, hj]
  ·rw [List.getElem?_eq_none (by omega), List.getElem?_eq_none (by rw [marks_length]; omega)]
theorem heldIntSB (a : Int) (n : Nat) (hn : n ≤ 2097152) (h0 : 0 ≤ a) (h1 : a ≤ 2 ^ 60) : Ev (fun k => laws_heldIntS.f k (marks a n) a) (a + (n : Int)) := by
 unfold laws_heldIntS.f
 refine Gen.ev_loop (fun k (s : Int) i => laws_heldIntS.l0 k (marks a n) s i) n (fun i s => s + 1) (fun i s => s = a + (i : Int)) _ (fun i s hi hP => ⟨?_, fun h => Ev.step (fun k => ?_) h⟩) n 0 a (by omega) (by simp) (fun hP => Gen.ev_at 1 (fun k hk => ?_))
 ·show s + 1 = _
  rw [hP]; push_cast; omega
 ·have hr : rd (marks a n) (i : Int) = s := by
   rw [Gen.rd_nat, hP]
   simp [marks, List.getD, hi]
  simp only [laws_heldIntS.l0]
  rw [if_pos (by rw [marks_length]; omega), if_pos (by omega), if_pos hr, Gen.w64s i (by omega), Gen.w64 (i := s + 1) (by omega) (by omega)]
 ·obtain ⟨q, rfl⟩ : ∃ q, k = q + 1 := ⟨k - 1, by omega⟩
  simp only [laws_heldIntS.l0]
  rw [if_neg (by rw [marks_length]; omega), hP]
theorem markIntSSB (xs : List (List Int)) (a : Int) (h : Mid xs) (h0 : 0 ≤ a) (h1 : a + (total xs : Int) ≤ 2 ^ 60) : Ev (fun k => laws_markIntSS.f k xs a) (a + (total xs : Int), marksL a xs) := by
 have hn := h.1
 unfold laws_markIntSS.f
 have key : ∀ (rs ds : List (List Int)) (a : Int), ds.length + rs.length = xs.length → (∀ x ∈ rs, x.length ≤ 2097152) → 0 ≤ a → a + (total rs : Int) ≤ 2 ^ 60 → Ev (fun k => laws_markIntSS.l0 k (ds ++ rs) a (ds.length : Int)) (a + (total rs : Int), ds ++ marksL a rs) := by
  intro rs
  induction rs with
  | nil =>
   intro ds a e _ _ _
   refine Gen.ev_at 1 (fun k hk => ?_)
   obtain ⟨q, rfl⟩ : ∃ q, k = q + 1 := ⟨k - 1, by omega⟩
   simp only [laws_markIntSS.l0]
   rw [if_neg (by simp)]
   simp [total, marksL]
  | cons x rs ih =>
   intro ds a e hx h0 h1
   simp only [List.length_cons] at e
   simp only [total] at h1
   have hxl : x.length ≤ 2097152 := hx x (by simp)
   have hr : laws_markIntSS.rdLL (ds ++ x :: rs) (ds.length : Int) = x := mid_at ds rs x
   have := ih (ds ++ [marks a x.length]) (a + (x.length : Int)) (by simp; omega) (fun y hy => hx y (by simp [hy])) (by omega) (by push_cast at h1 ⊢; omega)
   refine Ev.step (f := fun k => (laws_markIntS.f k x a).bind fun bt => laws_markIntSS.l0 k (ds ++ bt.2 :: rs) bt.1 ((ds.length + 1 : Nat) : Int)) (fun k => ?_) ?_
   ·simp only [laws_markIntSS.l0]
    rw [if_pos (by simp only [List.length_append, List.length_cons]; omega), if_pos (by omega), hr, Gen.w64s ds.length (by omega)]
    simp
   ·refine Ev.bind (markIntSB x a hxl h0 (by omega)) ?_
    simp only [total, marksL]
    have e2 : a + (x.length : Int) + (total rs : Int) = a + ((x.length + total rs : Nat) : Int) := by push_cast; omega
    rw [e2] at this
    simpa using this
 simpa using key xs [] a (by simp) h.2 h0 h1
theorem heldIntSSB (xs : List (List Int)) (a : Int) (h : Mid xs) (h0 : 0 ≤ a) (h1 : a + (total xs : Int) ≤ 2 ^ 60) : Ev (fun k => laws_heldIntSS.f k (marksL a xs) a) (a + (total xs : Int)) := by
 have hn := h.1
 unfold laws_heldIntSS.f
 have key : ∀ (rs ds : List (List Int)) (a : Int), ds.length + rs.length = xs.length → (∀ x ∈ rs, x.length ≤ 2097152) → 0 ≤ a → a + (total rs : Int) ≤ 2 ^ 60 → Ev (fun k => laws_heldIntSS.l0 k (ds ++ marksL a rs) a (ds.length : Int)) (a + (total rs : Int)) := by
  intro rs
  induction rs with
  | nil =>
   intro ds a e _ _ _
   refine Gen.ev_at 1 (fun k hk => ?_)
   obtain ⟨q, rfl⟩ : ∃ q, k = q + 1 := ⟨k - 1, by omega⟩
   simp only [laws_heldIntSS.l0]
   rw [if_neg (by simp [marksL])]
   simp [total]
  | cons x rs ih =>
   intro ds a e hx h0 h1
   simp only [List.length_cons] at e
   simp only [total] at h1
   have hxl : x.length ≤ 2097152 := hx x (by simp)
   have hr : rd_L1 (ds ++ marks a x.length :: marksL (a + (x.length : Int)) rs) (ds.length : Int) = marks a x.length := mid_at ds _ _
   have := ih (ds ++ [marks a x.length]) (a + (x.length : Int)) (by simp; omega) (fun y hy => hx y (by simp [hy])) (by omega) (by push_cast at h1 ⊢; omega)
   have e2 : a + (x.length : Int) + (total rs : Int) = a + ((x.length + total rs : Nat) : Int) := by push_cast; omega
   rw [e2] at this
   show Ev (fun k => laws_heldIntSS.l0 k (ds ++ marks a x.length :: marksL (a + (x.length : Int)) rs) a (ds.length : Int)) _
   refine Ev.step (f := fun k => (laws_heldIntS.f k (marks a x.length) a).bind fun t => if t < 0 then some (-1) else laws_heldIntSS.l0 k (ds ++ marks a x.length :: marksL (a + (x.length : Int)) rs) t ((ds.length + 1 : Nat) : Int)) (fun k => ?_) ?_
   ·simp only [laws_heldIntSS.l0]
    rw [if_pos (by simp only [List.length_append, List.length_cons]; omega), if_pos (by omega), hr, Gen.w64s ds.length (by omega)]
   ·refine Ev.bind (heldIntSB a x.length hxl h0 (by omega)) ?_
    simp only [if_neg (show ¬ (a + (x.length : Int) < 0) by omega), total]
    simpa using this
 simpa using key xs [] a (by simp) h.2 h0 h1
theorem Mid.total {xs : List (List Int)} (h : Mid xs) : Base.total xs ≤ 2097152 * 2097152 := Nat.le_trans (total_le xs h.2) (Nat.mul_le_mul_right _ h.1)
end Go.Proofs.Ytbjnkcfkhonkhaa.Base
end
section
namespace Go.Proofs.Ytbjnkcfkhonkhaa.Sets
open Go.RowKit Go.Proofs.YtbjnkcfkhonkhaaW.PrintWords Go.Proofs.YtbjnkcfkhonkhaaW.PrintMore
theorem ev_search {γ : Type} (L : Nat → Int → Option γ) (n : Nat) (p : Nat → Bool) (S : γ → Prop)
  (hyes : ∀ i, i < n → p i = true → ∃ r, S r ∧ Ev (fun k => L k (i : Int)) r)
  (hno : ∀ i, i < n → p i = false → ∀ r, Ev (fun k => L k ((i + 1 : Nat) : Int)) r → Ev (fun k => L k (i : Int)) r) :
  ∀ d i : Nat, i + d = n → ((List.range' i d).any p = true → ∃ r, S r ∧ Ev (fun k => L k (i : Int)) r) ∧ ((List.range' i d).any p = false → ∀ r, Ev (fun k => L k (n : Int)) r → Ev (fun k => L k (i : Int)) r) := by
 intro d
 induction d with
 | zero =>
  intro i hi
  obtain rfl : i = n := by omega
  exact ⟨fun h => by simp at h, fun _ r h => h⟩
 | succ d ih =>
  intro i hi
  obtain ⟨h1, h2⟩ := ih (i + 1) (by omega)
  rw [List.range'_succ, List.any_cons]
  cases hp : p i with
  | true => exact ⟨fun _ => hyes i (by omega) hp, fun h => by simp at h⟩
  | false =>
   refine ⟨fun h => ?_, fun h r hr => hno i (by omega) hp r (h2 (by simpa using h) r hr)⟩
   obtain ⟨r, hr, hE⟩ := h1 (by simpa using h)
   exact ⟨r, hr, hno i (by omega) hp r hE⟩
theorem wraps_i64 (n : Int) (h0 : 0 ≤ n) (h1 : n < 2 ^ 62) : IntKind.i64.wrap n = n := by
 rw [IntKind.wrap_i64]
 omega
theorem and_nat (a b : Nat) (ha : a < 2 ^ 62) (hb : b < 2 ^ 62) : Go.bits .and .i64 (a : Int) (b : Int) = ((a &&& b : Nat) : Int) := (bits_nat .i64 62 (by decide) wraps_i64 a b ha hb).1
theorem or_nat (a b : Nat) (ha : a < 2 ^ 62) (hb : b < 2 ^ 62) : Go.bits .or .i64 (a : Int) (b : Int) = ((a ||| b : Nat) : Int) := (bits_nat .i64 62 (by decide) wraps_i64 a b ha hb).2
def diff (a b : Nat) : Nat := a ^^^ (a &&& b)
theorem diff_bit (a b i : Nat) : (diff a b).testBit i = (a.testBit i && !b.testBit i) := by
 unfold diff
 rw [Nat.testBit_xor, Nat.testBit_and]
 cases a.testBit i <;> cases b.testBit i <;> rfl
theorem diff_lt {a b : Nat} {n : Nat} (ha : a < 2 ^ n) : diff a b < 2 ^ n := by
 apply Nat.lt_pow_two_of_testBit
 intro i hi
 rw [diff_bit, Nat.testBit_lt_two_pow (Nat.lt_of_lt_of_le ha (Nat.pow_le_pow_right (by decide) hi))]
 rfl
theorem andNot_nat (a b : Nat) (ha : a < 2 ^ 62) : Go.bits .andNot .i64 (a : Int) (b : Int) = ((diff a b : Nat) : Int) := by
 have h64 : (2 : Nat) ^ 62 ≤ 2 ^ 64 := by decide
 have key : (BitVec.ofNat 64 a &&& ~~~(BitVec.ofNat 64 b)).toNat = diff a b := by
  apply Nat.eq_of_testBit_eq
  intro i
  rw [diff_bit, BitVec.testBit_toNat, BitVec.getLsbD_and, BitVec.getLsbD_not, BitVec.getLsbD_ofNat, BitVec.getLsbD_ofNat]
  by_cases hi : i < 64
  ·simp [hi]
  ·have : a.testBit i = false := Nat.testBit_lt_two_pow (Nat.lt_of_lt_of_le ha (Nat.pow_le_pow_right (by decide) (by omega)))
   simp [hi, this]
 show IntKind.i64.wrap ((BitVec.ofInt 64 (a : Int) &&& ~~~(BitVec.ofInt 64 (b : Int))).toNat : Int) = _
 have e1 : BitVec.ofInt 64 (a : Int) = BitVec.ofNat 64 a := by simp
 have e2 : BitVec.ofInt 64 (b : Int) = BitVec.ofNat 64 b := by simp
 rw [e1, e2, key]
 have := diff_lt (b := b) ha
 exact wraps_i64 _ (by omega) (by exact_mod_cast this)
theorem shl_nat (e : Nat) (he : e < 62) : shl .i64 1 (e : Int) = ((2 ^ e : Nat) : Int) := by
 unfold shl
 have h1 : min ((e : Int)).toNat IntKind.i64.bits = e := by
  show min e 64 = e
  omega
 rw [h1, Int.one_mul]
 have h2 : (2 : Nat) ^ e < 2 ^ 62 := Nat.pow_lt_pow_right (by decide) he
 rw [wraps_i64 _ (by exact_mod_cast Nat.zero_le _) (by exact_mod_cast h2)]
 push_cast
 rfl
theorem shr_bit (a e : Nat) (he : e < 62) (ha : a < 2 ^ 62) : ((Go.bits .and .i64 (shr .i64 (a : Int) (e : Int)) 1) == 1) = a.testBit e := by
 unfold shr
 have h1 : min ((e : Int)).toNat IntKind.i64.bits = e := by
  show min e 64 = e
  omega
 rw [h1]
 have h2 : ((a : Int) / 2 ^ e) = ((a / 2 ^ e : Nat) : Int) := by push_cast; rfl
 have h3 : a / 2 ^ e < 2 ^ 62 := Nat.lt_of_le_of_lt (Nat.div_le_self _ _) ha
 rw [h2, show (1 : Int) = ((1 : Nat) : Int) from rfl, and_nat _ 1 h3 (by decide), Nat.testBit_eq_decide_div_mod_eq, Nat.and_one_is_mod]
 by_cases h : a / 2 ^ e % 2 = 1
 ·simp [h]
 ·have h4 : a / 2 ^ e % 2 = 0 := by omega
  simp [h4]
theorem bit_far {a n e : Nat} (ha : a < 2 ^ n) (he : n ≤ e) : a.testBit e = false := Nat.testBit_lt_two_pow (Nat.lt_of_lt_of_le ha (Nat.pow_le_pow_right (by decide) he))
theorem swap_eq : ∀ a, a < 256 → ∀ e, e < 8 → ∀ f, f < 8 → a.testBit e = true → a.testBit f = false → diff a (2 ^ e) ||| 2 ^ f = a - 2 ^ e + 2 ^ f := by decide +kernel
theorem bit_le : ∀ a, a < 256 → ∀ e, e < 8 → a.testBit e = true → 2 ^ e ≤ a := by decide +kernel
def elems (s : Nat) : List Nat := (List.range' 0 8).filter fun j => s.testBit j
def exch (l : List Nat) (a b e : Nat) : Bool := (List.range' 0 8).any fun f => b.testBit f && !a.testBit f && l.contains (a - 2 ^ e + 2 ^ f)
def fails (l : List Nat) : Bool := l.any fun a => l.any fun b => (List.range' 0 8).any fun e => a.testBit e && !b.testBit e && !exch l a b e
def ints (l : List Nat) : List Int := l.map fun j : Nat => (j : Int)
theorem ints_length (l : List Nat) : (ints l).length = l.length := by simp [ints]
theorem ints_getD (l : List Nat) (i : Nat) : (ints l).getD i 0 = ((l.getD i 0 : Nat) : Int) := by
 by_cases h : i < l.length
 ·simp [ints, List.getD, h]
 ·simp [ints, List.getD, h]
theorem ints_rd (l : List Nat) (i : Nat) : rd (ints l) (i : Int) = ((l.getD i 0 : Nat) : Int) := by rw [Gen.rd_nat, ints_getD]
theorem ints_contains (l : List Nat) (x : Nat) : (ints l).contains (x : Int) = l.contains x := by
 rw [Bool.eq_iff_iff]
 simp only [ints, List.contains_eq_mem, List.mem_map, decide_eq_true_eq]
 constructor
 ·rintro ⟨a, h, e⟩
  obtain rfl : a = x := by omega
  exact h
 ·exact fun h => ⟨x, h, rfl⟩
theorem any_index {α : Type} (l : List α) (d : α) (p : α → Bool) : ((List.range' 0 l.length).any fun i => p (l.getD i d)) = l.any p := by
 rw [Bool.eq_iff_iff]
 simp only [List.any_eq_true]
 constructor
 ·rintro ⟨i, hi, hp⟩
  have hlt : i < l.length := by have := List.mem_range'_1.1 hi; omega
  refine ⟨l[i], List.getElem_mem hlt, ?_⟩
  simpa [List.getD, hlt] using hp
 ·rintro ⟨x, hx, hp⟩
  obtain ⟨i, hi, rfl⟩ := List.getElem_of_mem hx
  exact ⟨i, List.mem_range'_1.2 (by omega), by simpa [List.getD, hi] using hp⟩
theorem any_more (p : Nat → Bool) (m d : Nat) (h : ∀ j, m ≤ j → p j = false) : (List.range' 0 (m + d)).any p = (List.range' 0 m).any p := by
 rw [← List.range'_append_1, List.any_append]
 have : (List.range' (0 + m) d).any p = false := by
  rw [List.any_eq_false]
  intro j hj
  have := List.mem_range'_1.1 hj
  rw [h j (by omega)]
  decide
 rw [this, Bool.or_false]
theorem range8 (m : Nat) (hm : m ≤ 8) (p : Nat → Bool) (h : ∀ j, m ≤ j → p j = false) : (List.range' 0 m).any p = (List.range' 0 8).any p := by
 have := any_more p m (8 - m) h
 rw [show m + (8 - m) = 8 by omega] at this
 exact this.symm
theorem elems_any (s : Nat) (q : Nat → Bool) : (elems s).any q = (List.range' 0 8).any fun j => s.testBit j && q j := by
 unfold elems
 rw [List.any_filter]
theorem elems_lt {s j : Nat} (h : j ∈ elems s) : j < 8 ∧ s.testBit j = true := by
 unfold elems at h
 obtain ⟨h1, h2⟩ := List.mem_filter.1 h
 have := List.mem_range'_1.1 h1
 exact ⟨by omega, h2⟩
theorem elems_length (s : Nat) : (elems s).length ≤ 8 := by
 unfold elems
 exact Nat.le_trans (List.length_filter_le _ _) (by simp)
theorem pow_le_256 {m : Nat} (hm : m ≤ 8) : (2 : Nat) ^ m ≤ 256 := Nat.pow_le_pow_right (n := 2) (by decide) hm
theorem swap_le : ∀ a, a < 256 → ∀ e, e < 8 → ∀ f, f < 8 → a.testBit e = true → a.testBit f = false → a - 2 ^ e + 2 ^ f < 256 := by decide +kernel
theorem getD_mem {α : Type} (l : List α) (d : α) (i : Nat) (h : i < l.length) : l.getD i d ∈ l := by
 have : l.getD i d = l[i] := by simp [List.getD, h]
 rw [this]
 exact List.getElem_mem h
end Go.Proofs.Ytbjnkcfkhonkhaa.Sets
end
section
namespace Go.Proofs.Ytbjnkcfkhonkhaa.Sort
open Go.RowKit Go.Proofs.Ytbjnkcfkhonkhaa.Pr Go.Proofs.Ytbjnkcfkhonkhaa.Sets Go.Proofs.YtbjnkcfkhonkhaaW.PrintWords Go.Proofs.YtbjnkcfkhonkhaaW.PrintLast Go.Proofs.YtbjnkcfkhonkhaaW.PrintMore
set_option linter.unusedVariables false
def ins (x : Int) : List Int → List Int
 | [] => [x]
 | a :: l => if a < x then a :: ins x l else if a = x then a :: l else x :: a :: l
def sset (l : List Int) : List Int := l.foldl (fun out x => ins x out) []
theorem mem_ins (x y : Int) (l : List Int) : y ∈ ins x l ↔ y = x ∨ y ∈ l := by
 induction l with
 | nil => simp [ins]
 | cons a l ih =>
  unfold ins
  split
  ·simp only [List.mem_cons, ih]
   constructor
   ·rintro (h | h | h) <;> simp [h]
   ·rintro (h | h | h) <;> simp [h]
  ·split
   ·rename_i h
    subst h
    simp
   ·simp
theorem ins_sorted (x : Int) (l : List Int) (h : l.Pairwise (· < ·)) : (ins x l).Pairwise (· < ·) := by
 induction l with
 | nil => simp [ins]
 | cons a l ih =>
  obtain ⟨h1, h2⟩ := List.pairwise_cons.1 h
  unfold ins
  split
  ·rename_i hlt
   refine List.pairwise_cons.2 ⟨fun y hy => ?_, ih h2⟩
   rcases (mem_ins x y l).1 hy with rfl | hy
   ·exact hlt
   ·exact h1 y hy
  ·split
   ·exact h
   ·rename_i ha hb
    refine List.pairwise_cons.2 ⟨fun y hy => ?_, h⟩
    rcases List.mem_cons.1 hy with rfl | hy
    ·omega
    ·have := h1 y hy
     omega
theorem ins_length (x : Int) (l : List Int) : (ins x l).length ≤ l.length + 1 := by
 induction l with
 | nil => simp [ins]
 | cons a l ih =>
  unfold ins
  split
  ·simp only [List.length_cons]; omega
  ·split <;> simp
theorem foldl_ins (l out : List Int) (ho : out.Pairwise (· < ·)) : (l.foldl (fun out x => ins x out) out).Pairwise (· < ·) ∧ (∀ y, y ∈ l.foldl (fun out x => ins x out) out ↔ y ∈ out ∨ y ∈ l) ∧ (l.foldl (fun out x => ins x out) out).length ≤ out.length + l.length := by
 induction l generalizing out with
 | nil => exact ⟨ho, fun y => by simp, by simp⟩
 | cons a l ih =>
  rw [List.foldl_cons]
  obtain ⟨h1, h2, h3⟩ := ih (ins a out) (ins_sorted a out ho)
  refine ⟨h1, fun y => ?_, ?_⟩
  ·rw [h2 y, mem_ins, List.mem_cons]
   constructor
   ·rintro ((h | h) | h) <;> simp [h]
   ·rintro (h | h | h) <;> simp [h]
  ·have := ins_length a out
   simp only [List.length_cons]
   omega
theorem sset_sorted (l : List Int) : (sset l).Pairwise (· < ·) := (foldl_ins l [] List.Pairwise.nil).1
theorem mem_sset (l : List Int) (y : Int) : y ∈ sset l ↔ y ∈ l := by
 have := (foldl_ins l [] List.Pairwise.nil).2.1 y
 simpa [sset] using this
theorem sset_length (l : List Int) : (sset l).length ≤ l.length := by
 have := (foldl_ins l [] List.Pairwise.nil).2.2
 simpa [sset] using this
theorem same_of (a b : List Int) (ha : a.Pairwise (· < ·)) (hb : b.Pairwise (· < ·)) (h : ∀ x, x ∈ a ↔ x ∈ b) : a = b := by
 induction a generalizing b with
 | nil =>
  cases b with
  | nil => rfl
  | cons y b => exact absurd ((h y).2 (by simp)) (by simp)
 | cons x a ih =>
  cases b with
  | nil => exact absurd ((h x).1 (by simp)) (by simp)
  | cons y b =>
   obtain ⟨a1, a2⟩ := List.pairwise_cons.1 ha
   obtain ⟨b1, b2⟩ := List.pairwise_cons.1 hb
   have hxy : x = y := by
    rcases List.mem_cons.1 ((h x).1 (by simp)) with e | e
    ·exact e
    ·rcases List.mem_cons.1 ((h y).2 (by simp)) with e' | e'
     ·exact e'.symm
     ·have := b1 x e
      have := a1 y e'
      omega
   subst hxy
   congr 1
   refine ih b a2 b2 fun z => ⟨fun hz => ?_, fun hz => ?_⟩
   ·rcases List.mem_cons.1 ((h z).1 (by simp [hz])) with rfl | e
    ·exact absurd (a1 z hz) (by omega)
    ·exact e
   ·rcases List.mem_cons.1 ((h z).2 (by simp [hz])) with rfl | e
    ·exact absurd (b1 z hz) (by omega)
    ·exact e
theorem compact_upto (d : Array Int) (hd : ∀ i j, i ≤ j → j < d.size → d[i]! ≤ d[j]!) : ∀ m, m ≤ d.size → (Lib.compactUpTo d m).Pairwise (· < ·) ∧ (∀ y, y ∈ Lib.compactUpTo d m ↔ ∃ j, j < m ∧ d[j]! = y) := by
 intro m
 induction m with
 | zero => exact fun _ => ⟨by simp [Lib.compactUpTo], fun y => by simp [Lib.compactUpTo]⟩
 | succ m ih =>
  intro hm
  obtain ⟨h1, h2⟩ := ih (by omega)
  rw [Lib.compactUpTo_succ]
  by_cases hk : Lib.keeps d m = true
  ·rw [if_pos hk]
   refine ⟨?_, fun y => ?_⟩
   ·rw [List.pairwise_append]
    refine ⟨h1, by simp, fun x hx y hy => ?_⟩
    obtain rfl : y = d[m]! := by simpa using hy
    obtain ⟨j, hj, rfl⟩ := (h2 x).1 hx
    have hne : d[m]! ≠ d[m - 1]! := by
     unfold Lib.keeps at hk
     rw [decide_eq_true_eq] at hk
     rcases hk with rfl | hk
     ·omega
     ·exact hk
    have e1 := hd j (m - 1) (by omega) (by omega)
    have e2 := hd (m - 1) m (by omega) (by omega)
    omega
   ·rw [List.mem_append, h2 y]
    constructor
    ·rintro (⟨j, hj, rfl⟩ | h)
     ·exact ⟨j, by omega, rfl⟩
     ·have e : y = d[m]! := by simpa using h
      exact ⟨m, by omega, e.symm⟩
    ·rintro ⟨j, hj, rfl⟩
     by_cases e : j = m
     ·subst e
      exact .inr (by simp)
     ·exact .inl ⟨j, by omega, rfl⟩
  ·rw [if_neg hk, List.append_nil]
   refine ⟨h1, fun y => ?_⟩
   rw [h2 y]
   constructor
   ·rintro ⟨j, hj, rfl⟩
    exact ⟨j, by omega, rfl⟩
   ·rintro ⟨j, hj, rfl⟩
    by_cases e : j = m
    ·subst e
     have hk' : ¬ (j = 0 ∨ d[j]! ≠ d[j - 1]!) := by
      unfold Lib.keeps at hk
      rw [decide_eq_true_eq] at hk
      exact hk
     have hj0 : j ≠ 0 := fun h => hk' (.inl h)
     have he : d[j]! = d[j - 1]! := Decidable.byContradiction fun h => hk' (.inr h)
     exact ⟨j - 1, by omega, he.symm⟩
    ·exact ⟨j, by omega, rfl⟩
theorem compact_sset (l : List Int) : Lib.compact (SortR.sorted l) = sset l := by
 have hs : (SortR.sorted l).Pairwise (fun x y => decide (x ≤ y) = true) := List.pairwise_mergeSort (le := fun x y => decide (x ≤ y)) (fun a b c h1 h2 => by simp only [decide_eq_true_eq] at *; omega) (fun a b => by simp only [Bool.or_eq_true, decide_eq_true_eq]; omega) l
 have hmem : ∀ y, y ∈ SortR.sorted l ↔ y ∈ l := fun y => (List.mergeSort_perm l _).mem_iff
 generalize SortR.sorted l = q at *
 have hd : ∀ i j, i ≤ j → j < q.toArray.size → q.toArray[i]! ≤ q.toArray[j]! := fun i j hij hj => by
  have hj' : j < q.length := by simpa using hj
  rcases Nat.lt_or_eq_of_le hij with h | rfl
  ·have := (List.pairwise_iff_getElem.1 hs) i j (by omega) hj' h
   simp only [decide_eq_true_eq] at this
   simpa [getElem!_pos, show i < q.length by omega, hj'] using this
  ·exact Int.le_refl _
 obtain ⟨h1, h2⟩ := compact_upto q.toArray hd q.length (by simp)
 refine same_of _ _ h1 (sset_sorted l) fun x => ?_
 rw [mem_sset, ← hmem]
 refine (h2 x).trans ⟨?_, fun h => ?_⟩
 ·rintro ⟨j, hj, rfl⟩
  have : q.toArray[j]! = q[j] := by simp [getElem!_pos, hj]
  rw [this]
  exact List.getElem_mem hj
 ·obtain ⟨j, hj, rfl⟩ := List.getElem_of_mem h
  exact ⟨j, hj, by simp [getElem!_pos, hj]⟩
theorem implSort (l : List Int) (hn : l.length ≤ 1048576) : impl_SortSets.f l = some (sset l) := by
 unfold impl_SortSets.f
 rw [if_pos (by omega), compact_sset]
theorem drop_cons (l : List Int) (i : Nat) (h : i < l.length) : l.drop i = l.getD i 0 :: l.drop (i + 1) := by
 rw [List.drop_eq_getElem_cons h]
 simp [List.getD, h]
theorem ins_at (x : Int) (out : List Int) : ∀ i, i ≤ out.length → (∀ j, j < i → out.getD j 0 < x) → ins x out = out.take i ++ ins x (out.drop i) := by
 intro i
 induction i with
 | zero => intro _ _; simp
 | succ i ih =>
  intro hi h
  rw [ih (by omega) fun j hj => h j (by omega), drop_cons out i (by omega)]
  have := h i (by omega)
  rw [ins, if_pos this, List.take_succ_eq_append_getElem (by omega), List.append_assoc]
  simp [List.getD, show i < out.length by omega]
theorem specSort (l : List Int) (hn : l.length ≤ 1048576) : Ev (fun k => spec_SortSets.f k l) (sset l) := by
 unfold spec_SortSets.f sset
 have e : l.foldl (fun out x => ins x out) [] = (List.range' 0 l.length).foldl (fun out i => ins (l.getD i 0) out) [] := by
  have e2 : l = (List.range' 0 l.length).map fun i => l.getD i 0 := by rw [← List.range_eq_range', Gen.map_getD']
  conv => lhs; rw [e2]
  rw [List.foldl_map]
 rw [e]
 refine Gen.ev_loop (fun k (out : List Int) i => spec_SortSets.l0 k l out i) l.length (fun i out => ins (l.getD i 0) out) (fun i out => out.length ≤ i) _ (fun i out hi hP => ⟨?_, fun h => ?_⟩) l.length 0 [] (by omega) (by simp) (fun _ => Gen.ev_at 1 (fun k hk => ?_))
 ·have := ins_length (l.getD i 0) out
  show (ins _ _).length ≤ _
  omega
 ·refine Ev.step (f := fun k => spec_SortSets.l1 k l out (i : Int) 0) (fun k => ?_) ?_
  ·simp only [spec_SortSets.l0]
   rw [if_pos (by omega)]
  ·have key : ∀ d a : Nat, a + d = out.length → (∀ j, j < a → out.getD j 0 < l.getD i 0) → Ev (fun k => spec_SortSets.l1 k l out (i : Int) (a : Int)) ((List.range' 0 l.length).foldl (fun out i => ins (l.getD i 0) out) []) := by
    intro d
    induction d with
    | zero =>
     intro a ha hlt
     obtain rfl : a = out.length := by omega
     have hins : ins (l.getD i 0) out = out.take out.length ++ [l.getD i 0] ++ out.drop out.length := by
      rw [ins_at _ _ out.length (Nat.le_refl _) hlt, List.drop_length, ins]
      simp
     rw [hins] at h
     refine Ev.step (fun k => ?_) h
     simp only [spec_SortSets.l1]
     rw [if_neg (by omega)]
     simp only [Option.bind_some, Int.toNat_natCast, Gen.rd_nat, List.nil_append, List.length_nil, Nat.zero_add]
     rw [if_pos (by omega), if_pos (by omega), if_pos (by simp), if_pos (by omega), if_pos (by omega), if_pos (by rw [List.length_take]; omega), if_pos (by simp; omega), Gen.w64s i (by omega)]
    | succ d ih =>
     intro a ha hlt
     have hlen : a < out.length := by omega
     by_cases h1 : out.getD a 0 < l.getD i 0
     ·refine Ev.step (fun k => ?_) (ih (a + 1) (by omega) fun j hj => ?_)
      ·simp only [spec_SortSets.l1]
       rw [if_pos (by omega), if_pos (by omega), if_pos (by omega), if_pos (by omega), Gen.rd_nat, Gen.rd_nat, if_pos h1, Gen.w64s a (by omega)]
      ·by_cases e : j = a
       ·subst e; exact h1
       ·exact hlt j (by omega)
     ·have hat := ins_at (l.getD i 0) out a (by omega) hlt
      rw [drop_cons out a hlen, ins, if_neg h1] at hat
      by_cases h2 : out.getD a 0 = l.getD i 0
      ·have hins : ins (l.getD i 0) out = out := by
        rw [hat, if_pos h2, ← drop_cons out a hlen, List.take_append_drop]
       rw [hins] at h
       refine Ev.step (fun k => ?_) h
       simp only [spec_SortSets.l1]
       rw [if_pos (by omega), if_pos (by omega), if_pos (by omega), if_pos (by omega), Gen.rd_nat, Gen.rd_nat, if_neg h1, if_pos h2, Gen.w64s i (by omega)]
      ·have hins : ins (l.getD i 0) out = out.take a ++ [l.getD i 0] ++ out.drop a := by
        rw [hat, if_neg h2, ← drop_cons out a hlen, List.append_assoc]
        rfl
       rw [hins] at h
       refine Ev.step (fun k => ?_) h
       simp only [spec_SortSets.l1]
       rw [if_pos (by omega), if_pos (by omega), if_pos (by omega), if_pos (by omega), Gen.rd_nat, Gen.rd_nat, if_neg h1, if_neg h2]
       simp only [Option.bind_some, Int.toNat_natCast, List.nil_append, List.length_nil, Nat.zero_add]
       rw [if_pos (by omega), if_pos (by simp; omega), if_pos (by rw [List.length_take]; omega), if_pos (by simp; omega), Gen.w64s i (by omega)]
   exact key out.length 0 (by omega) (fun j hj => by omega)
 ·obtain ⟨q, rfl⟩ : ∃ q, k = q + 1 := ⟨k - 1, by omega⟩
  simp only [spec_SortSets.l0]
  rw [if_neg (by omega)]
end Go.Proofs.Ytbjnkcfkhonkhaa.Sort
end
section
namespace Go.Proofs.Ytbjnkcfkhonkhaa.Mat
open Go.RowKit Go.Proofs.Ytbjnkcfkhonkhaa.Pr Go.Proofs.Ytbjnkcfkhonkhaa.Sets Go.Proofs.YtbjnkcfkhonkhaaW.PrintWords Go.Proofs.YtbjnkcfkhonkhaaW.PrintLast Go.Proofs.YtbjnkcfkhonkhaaW.PrintMore
set_option linter.unusedVariables false
def isSet (n s : Int) : Bool := decide (0 ≤ n ∧ n ≤ 8 ∧ 0 ≤ s ∧ s < 2 ^ n.toNat)
theorem implIsSet (n s : Int) : impl_IsSet.f n s = some (isSet n s) := by
 unfold impl_IsSet.f impl_isSize.f isSet
 by_cases h0 : n ≥ 0
 ·rw [if_pos h0]
  simp only [Option.bind_some]
  by_cases h1 : n ≤ 8
  ·rw [if_pos (decide_eq_true h1)]
   obtain ⟨m, rfl⟩ : ∃ m : Nat, n = m := ⟨n.toNat, by omega⟩
   by_cases h2 : s ≥ 0
   ·rw [if_pos h2, if_pos h0, shl_nat m (by omega)]
    congr 1
    rw [decide_eq_decide]
    simp only [Int.toNat_natCast]
    push_cast
    omega
   ·rw [if_neg h2, decide_eq_false (by omega)]
  ·rw [if_neg (by rw [decide_eq_true_eq]; exact h1), decide_eq_false (by omega)]
 ·rw [if_neg h0]
  simp only [Option.bind_some]
  rw [if_neg (by decide), decide_eq_false (by omega)]
theorem specIsSet (n s : Int) : spec_IsSet.f n s = some (isSet n s) := by
 unfold spec_IsSet.f spec_l1In.f isSet
 by_cases h0 : n ≥ 0
 ·rw [if_pos h0]
  simp only [Option.bind_some]
  by_cases h1 : n ≤ 8
  ·rw [if_pos (decide_eq_true h1)]
   obtain ⟨m, rfl⟩ : ∃ m : Nat, n = m := ⟨n.toNat, by omega⟩
   have hu : IntKind.u64.wrap (m : Int) = m := by
    have : m = 0 ∨ m = 1 ∨ m = 2 ∨ m = 3 ∨ m = 4 ∨ m = 5 ∨ m = 6 ∨ m = 7 ∨ m = 8 := by omega
    rcases this with rfl | rfl | rfl | rfl | rfl | rfl | rfl | rfl | rfl <;> decide +kernel
   have hp := pow_le_256 (m := m) (by omega)
   have hp1 : 1 ≤ 2 ^ m := Nat.one_le_two_pow
   rw [hu, if_pos h0, shl_nat m (by omega), Gen.w64 (by omega) (by omega)]
   by_cases h2 : s ≥ 0
   ·rw [if_pos h2]
    simp only [Option.bind_some]
    congr 1
    rw [decide_eq_decide]
    simp only [Int.toNat_natCast]
    have : ((2 : Int) ^ m) = ((2 ^ m : Nat) : Int) := by push_cast; rfl
    rw [this]
    omega
   ·rw [if_neg h2]
    simp only [Option.bind_some]
    rw [decide_eq_false (by omega)]
  ·rw [if_neg (by rw [decide_eq_true_eq]; exact h1), decide_eq_false (by omega)]
 ·rw [if_neg h0]
  simp only [Option.bind_some]
  rw [if_neg (by decide), decide_eq_false (by omega)]
def fam (n : Int) (l : List Int) : Bool := ((List.range' 0 l.length).all fun i => isSet n (l.getD i 0) && (decide (i = 0) || decide (l.getD (i - 1) 0 < l.getD i 0))) && decide (0 ≤ n ∧ n ≤ 8)
theorem implFamily (n : Int) (l : List Int) (hn : l.length ≤ 1048576) (k : Nat) (hk : l.length < k) : impl_IsFamily.f k n l = some (fam n l) := by
 unfold impl_IsFamily.f fam
 refine Gen.all_loop (fun k i => impl_IsFamily.l0 k n l l (l.length : Int) i) l.length (fun i => isSet n (l.getD i 0) && (decide (i = 0) || decide (l.getD (i - 1) 0 < l.getD i 0))) 0 (decide (0 ≤ n ∧ n ≤ 8)) (fun k i _ hi => ?_) (fun k _ => ?_) l.length 0 k (by omega) (by omega)
 ·simp only [impl_IsFamily.l0]
  rw [if_pos (by omega), if_pos (by omega), if_pos (by omega), implIsSet, Gen.rd_nat]
  simp only [Option.bind_some]
  cases isSet n (l.getD i 0) with
  | false => rfl
  | true =>
   rw [if_pos rfl, Gen.w64s i (by omega)]
   by_cases h0 : i = 0
   ·subst h0
    rw [if_neg (by decide), if_pos (by rfl)]
   ·rw [if_pos (by omega), Gen.w64 (by omega) (by omega), show (i : Int) - 1 = ((i - 1 : Nat) : Int) by omega, if_pos (by omega), if_pos (by omega), Gen.rd_nat]
    by_cases h1 : l.getD i 0 ≤ l.getD (i - 1) 0
    ·rw [if_pos h1, decide_eq_false h0, decide_eq_false (by omega)]
     rfl
    ·rw [if_neg h1, decide_eq_false h0, decide_eq_true (by omega)]
     rfl
 ·simp only [impl_IsFamily.l0]
  rw [if_neg (by omega)]
  unfold impl_isSize.f
  by_cases h0 : n ≥ 0
  ·rw [if_pos h0]
   simp only [Option.bind_some]
   congr 1
   rw [decide_eq_decide]
   omega
  ·rw [if_neg h0, decide_eq_false (by omega)]
   rfl
theorem specFamily (n : Int) (l : List Int) (hn : l.length ≤ 1048576) (k : Nat) (hk : l.length < k) : spec_IsFamily.f k n l = some (fam n l) := by
 unfold spec_IsFamily.f fam
 refine Gen.all_loop (fun k i => spec_IsFamily.l0 k n l i) l.length (fun i => isSet n (l.getD i 0) && (decide (i = 0) || decide (l.getD (i - 1) 0 < l.getD i 0))) 0 (decide (0 ≤ n ∧ n ≤ 8)) (fun k i _ hi => ?_) (fun k _ => ?_) l.length 0 k (by omega) (by omega)
 ·simp only [spec_IsFamily.l0]
  rw [if_pos (by omega), if_pos (by omega), specIsSet, Gen.rd_nat]
  simp only [Option.bind_some]
  cases isSet n (l.getD i 0) with
  | false => rfl
  | true =>
   rw [if_pos rfl, Gen.w64s i (by omega)]
   by_cases h0 : i = 0
   ·subst h0
    rw [if_neg (by decide), if_pos (by rfl)]
   ·rw [if_pos (by omega), Gen.w64 (by omega) (by omega), show (i : Int) - 1 = ((i - 1 : Nat) : Int) by omega, if_pos (by omega), if_pos (by omega), Gen.rd_nat]
    by_cases h1 : l.getD (i - 1) 0 ≥ l.getD i 0
    ·rw [if_pos h1, decide_eq_false h0, decide_eq_false (by omega)]
     rfl
    ·rw [if_neg h1, decide_eq_false h0, decide_eq_true (by omega)]
     rfl
 ·simp only [spec_IsFamily.l0]
  rw [if_neg (by omega)]
  unfold spec_l1In.f
  by_cases h0 : n ≥ 0
  ·rw [if_pos h0]
   simp only [Option.bind_some]
   congr 1
   rw [decide_eq_decide]
   omega
  ·rw [if_neg h0, decide_eq_false (by omega)]
   rfl
theorem fam_nat {n : Int} {l : List Int} (h : fam n l = true) : ∃ (m : Nat) (lN : List Nat), n = m ∧ m ≤ 8 ∧ l = ints lN ∧ ∀ s ∈ lN, s < 2 ^ m := by
 unfold fam at h
 rw [Bool.and_eq_true, decide_eq_true_eq] at h
 obtain ⟨hl, h0, h8⟩ := h
 have key : ∀ s ∈ l, 0 ≤ s ∧ s < 2 ^ n.toNat := fun s hs => by
  obtain ⟨i, hi, rfl⟩ := List.getElem_of_mem hs
  have := List.all_eq_true.1 hl i (List.mem_range'_1.2 (by omega))
  rw [Bool.and_eq_true] at this
  have h1 := this.1
  unfold isSet at h1
  rw [decide_eq_true_eq] at h1
  have e : l.getD i 0 = l[i] := by simp [List.getD, hi]
  rw [e] at h1
  exact ⟨h1.2.2.1, h1.2.2.2⟩
 refine ⟨n.toNat, l.map Int.toNat, by omega, by omega, ?_, fun s hs => ?_⟩
 ·unfold ints
  rw [List.map_map]
  conv => lhs; rw [← List.map_id l]
  refine List.map_congr_left fun s hs => ?_
  have := (key s hs).1
  show s = ((s.toNat : Nat) : Int)
  omega
 ·obtain ⟨x, hx, rfl⟩ := List.mem_map.1 hs
  obtain ⟨h1, h2⟩ := key x hx
  have e : ((2 : Int) ^ n.toNat) = ((2 ^ n.toNat : Nat) : Int) := by push_cast; rfl
  rw [e] at h2
  omega
theorem index (l : List Nat) (x : Nat) (hn : l.length ≤ 1048576) : ∀ (d i k : Nat), i + d = l.length → d < k → ∃ r, slices_Index_int_int.l0 k (ints l) (x : Int) ((ints l).length : Int) (i : Int) = some r ∧ decide (r ≥ 0) = (l.drop i).contains x := by
 intro d
 induction d with
 | zero =>
  intro i k hi hk
  obtain ⟨k, rfl⟩ : ∃ m, k = m + 1 := ⟨k - 1, by omega⟩
  refine ⟨-1, ?_, ?_⟩
  ·simp only [slices_Index_int_int.l0]
   rw [if_neg (by rw [ints_length]; omega)]
  ·rw [List.drop_of_length_le (by omega)]
   rfl
 | succ d ih =>
  intro i k hi hk
  obtain ⟨k, rfl⟩ : ∃ m, k = m + 1 := ⟨k - 1, by omega⟩
  have hlt : i < l.length := by omega
  simp only [slices_Index_int_int.l0]
  rw [if_pos (by rw [ints_length]; omega), if_pos (by omega), if_pos (by rw [ints_length]; omega), ints_rd, Gen.w64s i (by omega)]
  have hd : l.drop i = l.getD i 0 :: l.drop (i + 1) := by
   rw [List.drop_eq_getElem_cons hlt]
   simp [List.getD, hlt]
  rw [hd]
  by_cases h : x = l.getD i 0
  ·refine ⟨i, by rw [if_pos (by omega)], ?_⟩
   rw [← h, List.contains_cons, beq_self_eq_true, Bool.true_or, decide_eq_true (by omega)]
  ·obtain ⟨r, h1, h2⟩ := ih (i + 1) k (by omega) (by omega)
   refine ⟨r, by rw [if_neg (by omega)]; exact h1, ?_⟩
   rw [h2, List.contains_cons, beq_eq_false_iff_ne.2 h, Bool.false_or]
theorem implHas (l : List Nat) (x : Nat) (hn : l.length ≤ 1048576) (k : Nat) (hk : l.length < k) : impl_HasSet.f k (ints l) (x : Int) = some (l.contains x) := by
 unfold impl_HasSet.f slices_Contains_int_int.f slices_Index_int_int.f
 obtain ⟨r, h1, h2⟩ := index l x hn l.length 0 k (by omega) hk
 rw [show (0 : Int) = ((0 : Nat) : Int) from rfl, h1]
 simp only [Option.bind_some]
 rw [show ((0 : Nat) : Int) = (0 : Int) from rfl, h2, List.drop_zero]
theorem specHas (l : List Nat) (x : Nat) (hn : l.length ≤ 1048576) (k : Nat) (hk : l.length < k) : spec_HasSet.f k (ints l) (x : Int) = some (l.contains x) := by
 unfold spec_HasSet.f
 have key : ∀ (d i k : Nat), i + d = l.length → d < k → spec_HasSet.l0 k (ints l) (x : Int) (i : Int) = some ((l.drop i).contains x) := by
  intro d
  induction d with
  | zero =>
   intro i k hi hk
   obtain ⟨k, rfl⟩ : ∃ m, k = m + 1 := ⟨k - 1, by omega⟩
   simp only [spec_HasSet.l0]
   rw [if_neg (by rw [ints_length]; omega), List.drop_of_length_le (by omega)]
   rfl
  | succ d ih =>
   intro i k hi hk
   obtain ⟨k, rfl⟩ : ∃ m, k = m + 1 := ⟨k - 1, by omega⟩
   have hlt : i < l.length := by omega
   simp only [spec_HasSet.l0]
   rw [if_pos (by rw [ints_length]; omega), if_pos (by omega), ints_rd, Gen.w64s i (by omega)]
   have hd : l.drop i = l.getD i 0 :: l.drop (i + 1) := by
    rw [List.drop_eq_getElem_cons hlt]
    simp [List.getD, hlt]
   rw [hd, List.contains_cons]
   by_cases h : l.getD i 0 = x
   ·rw [if_pos (by omega), ← h, beq_self_eq_true, Bool.true_or]
   ·rw [if_neg (by omega), ih (i + 1) k (by omega) (by omega), beq_eq_false_iff_ne.2 (Ne.symm h), Bool.false_or]
 have := key l.length 0 k (by omega) hk
 rw [List.drop_zero] at this
 exact this
theorem implElem (s : Nat) (j : Nat) (hs : s < 256) (hj : j < 8) : impl_HasElement.f (s : Int) (j : Int) = some (s.testBit j) := by
 unfold impl_HasElement.f impl_isAny.f
 rw [if_pos (by omega)]
 simp only [Option.bind_some]
 rw [if_pos (decide_eq_true (by omega)), if_pos (by omega), if_pos (by omega), if_pos (by omega), shr_bit s j (by omega) (by omega)]
theorem foldl_elems (s : Nat) : ((List.range' 0 8).foldl (fun (acc : List Int) (j : Nat) => if s.testBit j = true then acc ++ [(j : Int)] else acc) []) = ints (elems s) := by
 rw [Gen.foldl_append (fun j => s.testBit j)]
 rfl
theorem implElements (s : Nat) (hs : s < 256) : Ev (fun k => impl_ElementsOf.f k (s : Int)) (ints (elems s)) := by
 unfold impl_ElementsOf.f
 refine Gen.ev_loop (fun k s3 i => impl_ElementsOf.l0 k (s : Int) s3 i) 8 (fun j s3 => if s.testBit j = true then s3 ++ [(j : Int)] else s3) (fun i s3 => s3.length ≤ i) _ (fun i s3 hi hP => ⟨?_, fun h => Ev.step (fun k => ?_) h⟩) 8 0 [] rfl (by simp) (fun _ => Gen.ev_at 1 (fun k hk => ?_))
 ·by_cases hh : s.testBit i = true
  ·rw [if_pos hh]; simp; omega
  ·rw [if_neg hh]; omega
 ·simp only [impl_ElementsOf.l0]
  rw [if_pos (by omega), implElem s i hs hi]
  simp only [Option.bind_some]
  rw [Gen.w64s i (by omega)]
  by_cases hh : s.testBit i = true
  ·rw [if_pos hh, if_pos (by omega), if_pos hh]
  ·rw [if_neg hh, if_neg hh]
 ·obtain ⟨m, rfl⟩ : ∃ m, k = m + 1 := ⟨k - 1, by omega⟩
  simp only [impl_ElementsOf.l0]
  rw [if_neg (by omega), foldl_elems]
end Go.Proofs.Ytbjnkcfkhonkhaa.Mat
end
section
namespace Go.Proofs.Ytbjnkcfkhonkhaa.Mat
open Go.RowKit Go.Proofs.Ytbjnkcfkhonkhaa.Pr Go.Proofs.Ytbjnkcfkhonkhaa.Sets Go.Proofs.YtbjnkcfkhonkhaaW.PrintWords Go.Proofs.YtbjnkcfkhonkhaaW.PrintLast Go.Proofs.YtbjnkcfkhonkhaaW.PrintMore
set_option linter.unusedVariables false
theorem indexFunc (g : Int → Option Bool) (fs : List Nat) (v : Nat → Bool) (hn : fs.length ≤ 1048576) (hg : ∀ f ∈ fs, g (f : Int) = some (v f)) :
  ∀ (d i k : Nat), i + d = fs.length → d < k → ∃ r, slices_IndexFunc_int_int.l0 g k (ints fs) (i : Int) = some r ∧ decide (r ≥ 0) = (fs.drop i).any v := by
 intro d
 induction d with
 | zero =>
  intro i k hi hk
  obtain ⟨k, rfl⟩ : ∃ m, k = m + 1 := ⟨k - 1, by omega⟩
  refine ⟨-1, ?_, ?_⟩
  ·simp only [slices_IndexFunc_int_int.l0]
   rw [if_neg (by rw [ints_length]; omega)]
  ·rw [List.drop_of_length_le (by omega)]
   rfl
 | succ d ih =>
  intro i k hi hk
  obtain ⟨k, rfl⟩ : ∃ m, k = m + 1 := ⟨k - 1, by omega⟩
  have hlt : i < fs.length := by omega
  simp only [slices_IndexFunc_int_int.l0]
  rw [if_pos (by rw [ints_length]; omega), if_pos (by omega), ints_rd, hg _ (getD_mem fs 0 i hlt), Gen.w64s i (by omega)]
  simp only [Option.bind_some]
  have hd : fs.drop i = fs.getD i 0 :: fs.drop (i + 1) := by
   rw [List.drop_eq_getElem_cons hlt]
   simp [List.getD, hlt]
  rw [hd, List.any_cons]
  cases hv : v (fs.getD i 0) with
  | true => exact ⟨i, by rw [if_pos rfl], by rw [decide_eq_true (by omega), Bool.true_or]⟩
  | false =>
   obtain ⟨r, h1, h2⟩ := ih (i + 1) k (by omega) (by omega)
   exact ⟨r, by rw [if_neg (by decide)]; exact h1, by rw [h2, Bool.false_or]⟩
theorem containsFunc (g : Int → Option Bool) (fs : List Nat) (v : Nat → Bool) (hn : fs.length ≤ 1048576) (hg : ∀ f ∈ fs, g (f : Int) = some (v f)) (k : Nat) (hk : fs.length < k) :
  slices_ContainsFunc_int_int.f k (ints fs) g = some (fs.any v) := by
 unfold slices_ContainsFunc_int_int.f slices_IndexFunc_int_int.f
 obtain ⟨r, h1, h2⟩ := indexFunc g fs v hn hg fs.length 0 k (by omega) hk
 rw [show (0 : Int) = ((0 : Nat) : Int) from rfl, h1]
 simp only [Option.bind_some]
 rw [show ((0 : Nat) : Int) = (0 : Int) from rfl, h2, List.drop_zero]
theorem swapImpl (l : List Nat) (a e f : Nat) (hn : l.length ≤ 1048576) (ha : a < 256) (he : e < 8) (hf : f < 8) (hae : a.testBit e = true) (haf : a.testBit f = false) (k : Nat) (hk : l.length < k) :
  impl_FirstFailure_1.f k (ints l) (a : Int) (e : Int) (f : Int) = some (l.contains (a - 2 ^ e + 2 ^ f)) := by
 unfold impl_FirstFailure_1.f
 have h1 : (2 : Nat) ^ e < 2 ^ 62 := Nat.pow_lt_pow_right (by decide) (by omega)
 have h2 : (2 : Nat) ^ f < 2 ^ 62 := Nat.pow_lt_pow_right (by decide) (by omega)
 have h3 : diff a (2 ^ e) < 2 ^ 8 := diff_lt (n := 8) (by omega)
 rw [if_pos (by omega), if_pos (by omega), shl_nat e (by omega), shl_nat f (by omega), andNot_nat a _ (by omega), or_nat _ _ (by omega) h2, swap_eq a ha e he f hf hae haf]
 exact implHas l _ hn k hk
theorem exch_elems (l : List Nat) (a b e : Nat) : exch l a b e = (elems (diff b a)).any fun f => l.contains (a - 2 ^ e + 2 ^ f) := by
 rw [elems_any]
 unfold exch
 congr 1
 funext f
 rw [diff_bit]
theorem fails_elems (l : List Nat) : fails l = l.any fun a => l.any fun b => (elems (diff a b)).any fun e => !exch l a b e := by
 unfold fails
 congr 1
 funext a
 congr 1
 funext b
 rw [elems_any]
 congr 1
 funext e
 rw [diff_bit]
theorem implFirst (m : Nat) (hm : m ≤ 8) (l : List Nat) (hl : ∀ s ∈ l, s < 2 ^ m) (hn : l.length ≤ 1048576) (hf : fam (m : Int) (ints l) = true) :
  ∃ x y z, Ev (fun k => impl_FirstFailure.f k (m : Int) (ints l)) (x, y, z, fails l) := by
 have h256 := pow_le_256 hm
 have hlt : ∀ i, i < l.length → l.getD i 0 < 256 := fun i hi => Nat.lt_of_lt_of_le (hl _ (getD_mem l 0 i hi)) h256
 have inner : ∀ x y : Nat, x < l.length → y < l.length → ∀ d i : Nat, i + d = (elems (diff (l.getD x 0) (l.getD y 0))).length → _ := fun x y hx hy =>
  ev_search (fun k z => impl_FirstFailure.l2 k (m : Int) (ints l) (x : Int) ((l.getD x 0 : Nat) : Int) (y : Int) ((l.getD y 0 : Nat) : Int) (ints (elems (diff (l.getD x 0) (l.getD y 0)))) z) (elems (diff (l.getD x 0) (l.getD y 0))).length
   (fun z => !exch l (l.getD x 0) (l.getD y 0) ((elems (diff (l.getD x 0) (l.getD y 0))).getD z 0)) (fun r => r.2.2.2 = true)
   (by
    intro z hz hp
    have ha := hlt x hx
    have hb := hlt y hy
    obtain ⟨he, hbit⟩ := elems_lt (getD_mem _ 0 z hz)
    rw [diff_bit, Bool.and_eq_true] at hbit
    have hl8 := elems_length (diff (l.getD x 0) (l.getD y 0))
    have hd : diff (l.getD y 0) (l.getD x 0) < 2 ^ 8 := diff_lt (n := 8) (by omega)
    refine ⟨(((l.getD x 0 : Nat) : Int), ((l.getD y 0 : Nat) : Int), (((elems (diff (l.getD x 0) (l.getD y 0))).getD z 0 : Nat) : Int), true), rfl, ?_⟩
    refine Ev.step (f := fun k => (impl_ElementsOf.f k (Go.bits .andNot .i64 ((l.getD y 0 : Nat) : Int) ((l.getD x 0 : Nat) : Int))).bind fun fs => ((slices_ContainsFunc_int_int.f k fs (fun f => impl_FirstFailure_1.f k (ints l) ((l.getD x 0 : Nat) : Int) (((elems (diff (l.getD x 0) (l.getD y 0))).getD z 0 : Nat) : Int) f)).bind fun t => (if t = true then (impl_FirstFailure.l2 k (m : Int) (ints l) (x : Int) ((l.getD x 0 : Nat) : Int) (y : Int) ((l.getD y 0 : Nat) : Int) (ints (elems (diff (l.getD x 0) (l.getD y 0)))) ((z + 1 : Nat) : Int)) else (some (((l.getD x 0 : Nat) : Int), ((l.getD y 0 : Nat) : Int), (((elems (diff (l.getD x 0) (l.getD y 0))).getD z 0 : Nat) : Int), true))))) (fun k => ?_) ?_
    ·simp only [impl_FirstFailure.l2]
     rw [if_pos (by rw [ints_length]; omega), if_pos (by omega), ints_rd, Gen.w64s z (by omega)]
    ·rw [andNot_nat _ _ (by omega)]
     refine Ev.bind (implElements _ (by omega)) ?_
     refine Ev.bind (a := exch l (l.getD x 0) (l.getD y 0) ((elems (diff (l.getD x 0) (l.getD y 0))).getD z 0)) (Gen.ev_at (1048577 + 8) (fun k hk => ?_)) ?_
     ·rw [exch_elems]
      refine containsFunc _ _ _ (by have := elems_length (diff (l.getD y 0) (l.getD x 0)); omega) (fun f hf => ?_) k (by have := elems_length (diff (l.getD y 0) (l.getD x 0)); omega)
      obtain ⟨hf8, hfb⟩ := elems_lt hf
      rw [diff_bit, Bool.and_eq_true] at hfb
      exact swapImpl l _ _ _ hn ha he hf8 hbit.1 (by simpa using hfb.2) k (by omega)
     ·have hp' : exch l (l.getD x 0) (l.getD y 0) ((elems (diff (l.getD x 0) (l.getD y 0))).getD z 0) = false := by simpa using hp
      rw [hp']
      exact Ev.now _)
   (by
    intro z hz hp r hr
    have ha := hlt x hx
    have hb := hlt y hy
    obtain ⟨he, hbit⟩ := elems_lt (getD_mem _ 0 z hz)
    rw [diff_bit, Bool.and_eq_true] at hbit
    have hl8 := elems_length (diff (l.getD x 0) (l.getD y 0))
    have hd : diff (l.getD y 0) (l.getD x 0) < 2 ^ 8 := diff_lt (n := 8) (by omega)
    refine Ev.step (f := fun k => (impl_ElementsOf.f k (Go.bits .andNot .i64 ((l.getD y 0 : Nat) : Int) ((l.getD x 0 : Nat) : Int))).bind fun fs => ((slices_ContainsFunc_int_int.f k fs (fun f => impl_FirstFailure_1.f k (ints l) ((l.getD x 0 : Nat) : Int) (((elems (diff (l.getD x 0) (l.getD y 0))).getD z 0 : Nat) : Int) f)).bind fun t => (if t = true then (impl_FirstFailure.l2 k (m : Int) (ints l) (x : Int) ((l.getD x 0 : Nat) : Int) (y : Int) ((l.getD y 0 : Nat) : Int) (ints (elems (diff (l.getD x 0) (l.getD y 0)))) ((z + 1 : Nat) : Int)) else (some (((l.getD x 0 : Nat) : Int), ((l.getD y 0 : Nat) : Int), (((elems (diff (l.getD x 0) (l.getD y 0))).getD z 0 : Nat) : Int), true))))) (fun k => ?_) ?_
    ·simp only [impl_FirstFailure.l2]
     rw [if_pos (by rw [ints_length]; omega), if_pos (by omega), ints_rd, Gen.w64s z (by omega)]
    ·rw [andNot_nat _ _ (by omega)]
     refine Ev.bind (implElements _ (by omega)) ?_
     refine Ev.bind (a := exch l (l.getD x 0) (l.getD y 0) ((elems (diff (l.getD x 0) (l.getD y 0))).getD z 0)) (Gen.ev_at (1048577 + 8) (fun k hk => ?_)) ?_
     ·rw [exch_elems]
      refine containsFunc _ _ _ (by have := elems_length (diff (l.getD y 0) (l.getD x 0)); omega) (fun f hf => ?_) k (by have := elems_length (diff (l.getD y 0) (l.getD x 0)); omega)
      obtain ⟨hf8, hfb⟩ := elems_lt hf
      rw [diff_bit, Bool.and_eq_true] at hfb
      exact swapImpl l _ _ _ hn ha he hf8 hbit.1 (by simpa using hfb.2) k (by omega)
     ·have hp' : exch l (l.getD x 0) (l.getD y 0) ((elems (diff (l.getD x 0) (l.getD y 0))).getD z 0) = true := by simpa using hp
      rw [hp']
      simp only [if_true]
      exact hr)
 have innerAny : ∀ x y : Nat, ((List.range' 0 (elems (diff (l.getD x 0) (l.getD y 0))).length).any fun z => !exch l (l.getD x 0) (l.getD y 0) ((elems (diff (l.getD x 0) (l.getD y 0))).getD z 0)) = (elems (diff (l.getD x 0) (l.getD y 0))).any fun e => !exch l (l.getD x 0) (l.getD y 0) e := fun x y => any_index (elems (diff (l.getD x 0) (l.getD y 0))) 0 (fun e => !exch l (l.getD x 0) (l.getD y 0) e)
 have middle : ∀ x : Nat, x < l.length → ∀ d i : Nat, i + d = l.length → _ := fun x hx =>
  ev_search (fun k y => impl_FirstFailure.l1 k (m : Int) (ints l) (x : Int) ((l.getD x 0 : Nat) : Int) y) l.length
   (fun y => (elems (diff (l.getD x 0) (l.getD y 0))).any fun e => !exch l (l.getD x 0) (l.getD y 0) e) (fun r => r.2.2.2 = true)
   (by
    intro y hy hp
    have ha := hlt x hx
    obtain ⟨h1, _⟩ := inner x y hx hy (elems (diff (l.getD x 0) (l.getD y 0))).length 0 (by omega)
    rw [innerAny] at h1
    obtain ⟨r, hr, hE⟩ := h1 hp
    refine ⟨r, hr, Ev.step (f := fun k => (impl_ElementsOf.f k (Go.bits .andNot .i64 ((l.getD x 0 : Nat) : Int) ((l.getD y 0 : Nat) : Int))).bind fun es => (impl_FirstFailure.l2 k (m : Int) (ints l) (x : Int) ((l.getD x 0 : Nat) : Int) (y : Int) ((l.getD y 0 : Nat) : Int) es 0)) (fun k => ?_) ?_⟩
    ·simp only [impl_FirstFailure.l1]
     rw [if_pos (by rw [ints_length]; omega), if_pos (by omega), ints_rd]
    ·rw [andNot_nat _ _ (by omega)]
     have hd : diff (l.getD x 0) (l.getD y 0) < 2 ^ 8 := diff_lt (n := 8) (by omega)
     exact Ev.bind (implElements _ (by omega)) hE)
   (by
    intro y hy hp r hr
    have ha := hlt x hx
    obtain ⟨_, h2⟩ := inner x y hx hy (elems (diff (l.getD x 0) (l.getD y 0))).length 0 (by omega)
    rw [innerAny] at h2
    refine Ev.step (f := fun k => (impl_ElementsOf.f k (Go.bits .andNot .i64 ((l.getD x 0 : Nat) : Int) ((l.getD y 0 : Nat) : Int))).bind fun es => (impl_FirstFailure.l2 k (m : Int) (ints l) (x : Int) ((l.getD x 0 : Nat) : Int) (y : Int) ((l.getD y 0 : Nat) : Int) es 0)) (fun k => ?_) ?_
    ·simp only [impl_FirstFailure.l1]
     rw [if_pos (by rw [ints_length]; omega), if_pos (by omega), ints_rd]
    ·rw [andNot_nat _ _ (by omega)]
     have hd : diff (l.getD x 0) (l.getD y 0) < 2 ^ 8 := diff_lt (n := 8) (by omega)
     refine Ev.bind (implElements _ (by omega)) (h2 hp r (Ev.step (fun k => ?_) hr))
     simp only [impl_FirstFailure.l2]
     rw [if_neg (by rw [ints_length]; omega), Gen.w64s y (by omega)])
 have middleAny : ∀ x : Nat, ((List.range' 0 l.length).any fun y => (elems (diff (l.getD x 0) (l.getD y 0))).any fun e => !exch l (l.getD x 0) (l.getD y 0) e) = l.any fun b => (elems (diff (l.getD x 0) b)).any fun e => !exch l (l.getD x 0) b e := fun x => any_index l 0 (fun b => (elems (diff (l.getD x 0) b)).any fun e => !exch l (l.getD x 0) b e)
 obtain ⟨o1, o2⟩ := ev_search (fun k x => impl_FirstFailure.l0 k (m : Int) (ints l) x) l.length
   (fun x => l.any fun b => (elems (diff (l.getD x 0) b)).any fun e => !exch l (l.getD x 0) b e) (fun r => r.2.2.2 = true)
   (by
    intro x hx hp
    obtain ⟨h1, _⟩ := middle x hx l.length 0 (by omega)
    rw [middleAny] at h1
    obtain ⟨r, hr, hE⟩ := h1 hp
    refine ⟨r, hr, Ev.step (fun k => ?_) hE⟩
    simp only [impl_FirstFailure.l0]
    rw [if_pos (by rw [ints_length]; omega), if_pos (by omega), ints_rd]
    rfl)
   (by
    intro x hx hp r hr
    obtain ⟨_, h2⟩ := middle x hx l.length 0 (by omega)
    rw [middleAny] at h2
    have h3 := h2 hp r (Ev.step (fun k => by
     simp only [impl_FirstFailure.l1]
     rw [if_neg (by rw [ints_length]; omega), Gen.w64s x (by omega)]) hr)
    refine Ev.step (fun k => ?_) h3
    simp only [impl_FirstFailure.l0]
    rw [if_pos (by rw [ints_length]; omega), if_pos (by omega), ints_rd]
    rfl) l.length 0 (by omega)
 have outerAny : ((List.range' 0 l.length).any fun x => l.any fun b => (elems (diff (l.getD x 0) b)).any fun e => !exch l (l.getD x 0) b e) = fails l := by
  rw [fails_elems]
  exact any_index l 0 (fun a => l.any fun b => (elems (diff a b)).any fun e => !exch l a b e)
 rw [outerAny] at o1 o2
 have start : ∀ r, Ev (fun k => impl_FirstFailure.l0 k (m : Int) (ints l) 0) r → Ev (fun k => impl_FirstFailure.f k (m : Int) (ints l)) r := fun r hr => by
  unfold impl_FirstFailure.f
  refine Ev.bind (Gen.ev_at (l.length + 1) (fun k hk => implFamily (m : Int) (ints l) (by rw [ints_length]; exact hn) k (by rw [ints_length]; omega))) ?_
  rw [hf]
  simp only [if_true]
  exact hr
 cases hfl : fails l with
 | true =>
  obtain ⟨⟨x, y, z, b⟩, hb, hE⟩ := o1 hfl
  simp only at hb
  subst hb
  exact ⟨x, y, z, start _ hE⟩
 | false =>
  refine ⟨0, 0, 0, start _ (o2 hfl _ (Gen.ev_at 1 (fun k hk => ?_)))⟩
  obtain ⟨q, rfl⟩ : ∃ q, k = q + 1 := ⟨k - 1, by omega⟩
  simp only [impl_FirstFailure.l0]
  rw [if_neg (by rw [ints_length]; omega)]
end Go.Proofs.Ytbjnkcfkhonkhaa.Mat
end
section
namespace Go.Proofs.Ytbjnkcfkhonkhaa.Mat
open Go.RowKit Go.Proofs.Ytbjnkcfkhonkhaa.Pr Go.Proofs.Ytbjnkcfkhonkhaa.Sets Go.Proofs.YtbjnkcfkhonkhaaW.PrintWords Go.Proofs.YtbjnkcfkhonkhaaW.PrintLast Go.Proofs.YtbjnkcfkhonkhaaW.PrintMore
set_option linter.unusedVariables false
theorem u64_small (e : Nat) (he : e < 62) : IntKind.u64.wrap (e : Int) = e := by
 unfold IntKind.wrap
 simp only [IntKind.bits, IntKind.signed, Bool.false_and, Bool.false_eq_true, if_false]
 omega
theorem l2Has (s e : Nat) (hs : s < 256) (he : e < 8) : spec_l2Has.f (s : Int) (e : Int) = some (s.testBit e) := by
 unfold spec_l2Has.f
 rw [u64_small e (by omega), if_pos (by omega), shr_bit s e (by omega) (by omega)]
theorem specExchange (m : Nat) (hm : m ≤ 8) (l : List Nat) (hn : l.length ≤ 1048576) (a b e : Nat) (ha : a < 256) (hb : b < 2 ^ m) (he : e < 8) (hae : a.testBit e = true) : Ev (fun k => spec_l4Exchange.f k (m : Int) (ints l) (a : Int) (b : Int) (e : Int)) (exch l a b e) := by
 have h256 := pow_le_256 hm
 unfold spec_l4Exchange.f
 have hle := bit_le a ha e he hae
 have key : ∀ f : Nat, f < m → a.testBit f = false → wrap64 ((wrap64 ((a : Int) - ((2 ^ e : Nat) : Int))) + ((2 ^ f : Nat) : Int)) = ((a - 2 ^ e + 2 ^ f : Nat) : Int) := fun f hf haf => by
  have h1 := swap_le a ha e he f (by omega) hae haf
  have h2 : 2 ^ f ≤ 256 := pow_le_256 (by omega)
  clear hae
  generalize (2 : Nat) ^ e = P at *
  generalize (2 : Nat) ^ f = Q at *
  rw [Gen.w64 (i := (a : Int) - (P : Int)) (by omega) (by omega), Gen.w64 (by omega) (by omega)]
  omega
 obtain ⟨o1, o2⟩ := ev_search (fun k f => spec_l4Exchange.l0 k (a : Int) (b : Int) (e : Int) f (m : Int) (ints l)) m (fun f => b.testBit f && !a.testBit f && l.contains (a - 2 ^ e + 2 ^ f)) (fun r => r = true)
  (by
   intro f hf hp
   rw [Bool.and_eq_true, Bool.and_eq_true] at hp
   obtain ⟨⟨h1, h2⟩, h3⟩ := hp
   have h2' : a.testBit f = false := by simpa using h2
   refine ⟨true, rfl, Gen.ev_at (l.length + 2) (fun k hk => ?_)⟩
   obtain ⟨q, rfl⟩ : ∃ q, k = q + 1 := ⟨k - 1, by omega⟩
   simp only [spec_l4Exchange.l0]
   rw [if_pos (by omega), l2Has b f (by omega) (by omega), h1]
   simp only [Option.bind_some, if_true]
   rw [l2Has a f ha (by omega), h2']
   simp only [Option.bind_some, Bool.false_eq_true, if_false]
   rw [u64_small e (by omega), u64_small f (by omega), if_pos (by omega), if_pos (by omega), shl_nat e (by omega), shl_nat f (by omega), key f hf h2', specHas l _ hn q (by omega), h3]
   rfl)
  (by
   intro f hf hp r hr
   by_cases h1 : b.testBit f = true
   ·by_cases h2 : a.testBit f = true
    ·refine Ev.step (fun k => ?_) hr
     simp only [spec_l4Exchange.l0]
     rw [if_pos (by omega), l2Has b f (by omega) (by omega), h1]
     simp only [Option.bind_some, if_true]
     rw [l2Has a f ha (by omega), h2]
     simp only [Option.bind_some, if_true]
     rw [Gen.w64s f (by omega)]
    ·have h2' : a.testBit f = false := by simpa using h2
     have h3 : l.contains (a - 2 ^ e + 2 ^ f) = false := by
      rw [h1, h2'] at hp
      simpa using hp
     refine Ev.step (f := fun k => (spec_HasSet.f k (ints l) ((a - 2 ^ e + 2 ^ f : Nat) : Int)).bind fun t => (if t = true then (some true) else (spec_l4Exchange.l0 k (a : Int) (b : Int) (e : Int) ((f + 1 : Nat) : Int) (m : Int) (ints l)))) (fun k => ?_) ?_
     ·simp only [spec_l4Exchange.l0]
      rw [if_pos (by omega), l2Has b f (by omega) (by omega), h1]
      simp only [Option.bind_some, if_true]
      rw [l2Has a f ha (by omega), h2']
      simp only [Option.bind_some, Bool.false_eq_true, if_false]
      rw [u64_small e (by omega), u64_small f (by omega), if_pos (by omega), if_pos (by omega), shl_nat e (by omega), shl_nat f (by omega), key f hf h2', Gen.w64s f (by omega)]
     ·refine Ev.bind (Gen.ev_at (l.length + 1) (fun k hk => specHas l _ hn k (by omega))) ?_
      rw [h3]
      exact hr
   ·have h1' : b.testBit f = false := by simpa using h1
    refine Ev.step (fun k => ?_) hr
    simp only [spec_l4Exchange.l0]
    rw [if_pos (by omega), l2Has b f (by omega) (by omega), h1']
    simp only [Option.bind_some, Bool.false_eq_true, if_false]
    rw [Gen.w64s f (by omega)]) m 0 (by omega)
 have e8 : ((List.range' 0 m).any fun f => b.testBit f && !a.testBit f && l.contains (a - 2 ^ e + 2 ^ f)) = exch l a b e := range8 m hm _ (fun j hj => by rw [bit_far hb hj]; rfl)
 rw [e8] at o1 o2
 cases hx : exch l a b e with
 | true =>
  obtain ⟨r, rfl, hE⟩ := o1 hx
  exact hE
 | false =>
  refine o2 hx _ (Gen.ev_at 1 (fun k hk => ?_))
  obtain ⟨q, rfl⟩ : ∃ q, k = q + 1 := ⟨k - 1, by omega⟩
  simp only [spec_l4Exchange.l0]
  rw [if_neg (by omega)]
theorem specFirst (m : Nat) (hm : m ≤ 8) (l : List Nat) (hl : ∀ s ∈ l, s < 2 ^ m) (hn : l.length ≤ 1048576) (hf : fam (m : Int) (ints l) = true) :
  ∃ x y z, Ev (fun k => spec_FirstFailure.f k (m : Int) (ints l)) (x, y, z, fails l) := by
 have h256 := pow_le_256 hm
 have hlt : ∀ i, i < l.length → l.getD i 0 < 256 := fun i hi => Nat.lt_of_lt_of_le (hl _ (getD_mem l 0 i hi)) h256
 have hltm : ∀ i, i < l.length → l.getD i 0 < 2 ^ m := fun i hi => hl _ (getD_mem l 0 i hi)
 have round : ∀ x y z : Nat, x < l.length → y < l.length → z < m → ∀ r, (((l.getD x 0).testBit z && !(l.getD y 0).testBit z && !exch l (l.getD x 0) (l.getD y 0) z) = true → r.2.2.2 = true → r = (((l.getD x 0 : Nat) : Int), ((l.getD y 0 : Nat) : Int), (z : Int), true) → Ev (fun k => spec_FirstFailure.l2 k (x : Int) (y : Int) (z : Int) (m : Int) (ints l)) r) ∧
   (((l.getD x 0).testBit z && !(l.getD y 0).testBit z && !exch l (l.getD x 0) (l.getD y 0) z) = false → Ev (fun k => spec_FirstFailure.l2 k (x : Int) (y : Int) ((z + 1 : Nat) : Int) (m : Int) (ints l)) r → Ev (fun k => spec_FirstFailure.l2 k (x : Int) (y : Int) (z : Int) (m : Int) (ints l)) r) := by
  intro x y z hx hy hz r
  have ha := hlt x hx
  have hb := hlt y hy
  have unf : ∀ k, spec_FirstFailure.l2 (k + 1) (x : Int) (y : Int) (z : Int) (m : Int) (ints l) = (if (l.getD x 0).testBit z = true then (if (l.getD y 0).testBit z = true then spec_FirstFailure.l2 k (x : Int) (y : Int) ((z + 1 : Nat) : Int) (m : Int) (ints l) else ((spec_l4Exchange.f k (m : Int) (ints l) ((l.getD x 0 : Nat) : Int) ((l.getD y 0 : Nat) : Int) (z : Int)).bind fun t => (if t = true then spec_FirstFailure.l2 k (x : Int) (y : Int) ((z + 1 : Nat) : Int) (m : Int) (ints l) else some (((l.getD x 0 : Nat) : Int), ((l.getD y 0 : Nat) : Int), (z : Int), true)))) else spec_FirstFailure.l2 k (x : Int) (y : Int) ((z + 1 : Nat) : Int) (m : Int) (ints l)) := fun k => by
   simp only [spec_FirstFailure.l2]
   rw [if_pos (by omega), if_pos (by omega), if_pos (by rw [ints_length]; omega), if_pos (by omega), if_pos (by rw [ints_length]; omega), ints_rd, ints_rd, l2Has _ z ha (by omega)]
   simp only [Option.bind_some]
   rw [l2Has _ z hb (by omega)]
   simp only [Option.bind_some]
   rw [Gen.w64s z (by omega)]
  cases h1 : (l.getD x 0).testBit z with
  | false =>
   refine ⟨fun h => by simp at h, fun _ hr => Ev.step (fun k => ?_) hr⟩
   rw [unf, h1, if_neg (by decide)]
  | true =>
   cases h2 : (l.getD y 0).testBit z with
   | true =>
    refine ⟨fun h => by simp at h, fun _ hr => Ev.step (fun k => ?_) hr⟩
    rw [unf, h1, h2, if_pos rfl, if_pos rfl]
   | false =>
    have hE := specExchange m hm l hn (l.getD x 0) (l.getD y 0) z ha (hltm y hy) (by omega) h1
    cases h3 : exch l (l.getD x 0) (l.getD y 0) z with
    | true =>
     rw [h3] at hE
     refine ⟨fun h => by simp at h, fun _ hr => Ev.step (fun k => ?_) (Ev.bind hE (f := fun k t => (if t = true then spec_FirstFailure.l2 k (x : Int) (y : Int) ((z + 1 : Nat) : Int) (m : Int) (ints l) else some (((l.getD x 0 : Nat) : Int), ((l.getD y 0 : Nat) : Int), (z : Int), true))) (by simp only [if_true]; exact hr))⟩
     rw [unf, h1, h2, if_pos rfl, if_neg (by decide)]
    | false =>
     rw [h3] at hE
     refine ⟨fun _ _ e => ?_, fun h => by simp at h⟩
     subst e
     refine Ev.step (fun k => ?_) (Ev.bind hE (f := fun k t => (if t = true then spec_FirstFailure.l2 k (x : Int) (y : Int) ((z + 1 : Nat) : Int) (m : Int) (ints l) else some (((l.getD x 0 : Nat) : Int), ((l.getD y 0 : Nat) : Int), (z : Int), true))) (by simp only [Bool.false_eq_true, if_false]; exact Ev.now _))
     rw [unf, h1, h2, if_pos rfl, if_neg (by decide)]
 have inner : ∀ x y : Nat, x < l.length → y < l.length → ∀ d i : Nat, i + d = m → _ := fun x y hx hy =>
  ev_search (fun k z => spec_FirstFailure.l2 k (x : Int) (y : Int) z (m : Int) (ints l)) m
   (fun z => (l.getD x 0).testBit z && !(l.getD y 0).testBit z && !exch l (l.getD x 0) (l.getD y 0) z) (fun r => r.2.2.2 = true)
   (fun z hz hp => ⟨_, rfl, (round x y z hx hy hz (((l.getD x 0 : Nat) : Int), ((l.getD y 0 : Nat) : Int), (z : Int), true)).1 hp rfl rfl⟩)
   (fun z hz hp r hr => (round x y z hx hy hz r).2 hp hr)
 have innerAny : ∀ x y : Nat, x < l.length → ((List.range' 0 m).any fun z => (l.getD x 0).testBit z && !(l.getD y 0).testBit z && !exch l (l.getD x 0) (l.getD y 0) z) = (List.range' 0 8).any fun e => (l.getD x 0).testBit e && !(l.getD y 0).testBit e && !exch l (l.getD x 0) (l.getD y 0) e := fun x y hx => range8 m hm _ (fun j hj => by rw [bit_far (hltm x hx) hj]; rfl)
 have middle : ∀ x : Nat, x < l.length → ∀ d i : Nat, i + d = l.length → _ := fun x hx =>
  ev_search (fun k y => spec_FirstFailure.l1 k (x : Int) y (m : Int) (ints l)) l.length
   (fun y => (List.range' 0 8).any fun e => (l.getD x 0).testBit e && !(l.getD y 0).testBit e && !exch l (l.getD x 0) (l.getD y 0) e) (fun r => r.2.2.2 = true)
   (by
    intro y hy hp
    obtain ⟨h1, _⟩ := inner x y hx hy m 0 (by omega)
    rw [innerAny x y hx] at h1
    obtain ⟨r, hr, hE⟩ := h1 hp
    refine ⟨r, hr, Ev.step (fun k => ?_) hE⟩
    simp only [spec_FirstFailure.l1]
    rw [if_pos (by rw [ints_length]; omega)]
    rfl)
   (by
    intro y hy hp r hr
    obtain ⟨_, h2⟩ := inner x y hx hy m 0 (by omega)
    rw [innerAny x y hx] at h2
    refine Ev.step (fun k => ?_) (h2 hp r (Ev.step (fun k => by
     simp only [spec_FirstFailure.l2]
     rw [if_neg (by omega), Gen.w64s y (by omega)]) hr))
    simp only [spec_FirstFailure.l1]
    rw [if_pos (by rw [ints_length]; omega)]
    rfl)
 have middleAny : ∀ x : Nat, ((List.range' 0 l.length).any fun y => (List.range' 0 8).any fun e => (l.getD x 0).testBit e && !(l.getD y 0).testBit e && !exch l (l.getD x 0) (l.getD y 0) e) = l.any fun b => (List.range' 0 8).any fun e => (l.getD x 0).testBit e && !b.testBit e && !exch l (l.getD x 0) b e := fun x => any_index l 0 (fun b => (List.range' 0 8).any fun e => (l.getD x 0).testBit e && !b.testBit e && !exch l (l.getD x 0) b e)
 obtain ⟨o1, o2⟩ := ev_search (fun k x => spec_FirstFailure.l0 k x (m : Int) (ints l)) l.length
   (fun x => l.any fun b => (List.range' 0 8).any fun e => (l.getD x 0).testBit e && !b.testBit e && !exch l (l.getD x 0) b e) (fun r => r.2.2.2 = true)
   (by
    intro x hx hp
    obtain ⟨h1, _⟩ := middle x hx l.length 0 (by omega)
    rw [middleAny] at h1
    obtain ⟨r, hr, hE⟩ := h1 hp
    refine ⟨r, hr, Ev.step (fun k => ?_) hE⟩
    simp only [spec_FirstFailure.l0]
    rw [if_pos (by rw [ints_length]; omega)]
    rfl)
   (by
    intro x hx hp r hr
    obtain ⟨_, h2⟩ := middle x hx l.length 0 (by omega)
    rw [middleAny] at h2
    refine Ev.step (fun k => ?_) (h2 hp r (Ev.step (fun k => by
     simp only [spec_FirstFailure.l1]
     rw [if_neg (by rw [ints_length]; omega), Gen.w64s x (by omega)]) hr))
    simp only [spec_FirstFailure.l0]
    rw [if_pos (by rw [ints_length]; omega)]
    rfl) l.length 0 (by omega)
 have outerAny : ((List.range' 0 l.length).any fun x => l.any fun b => (List.range' 0 8).any fun e => (l.getD x 0).testBit e && !b.testBit e && !exch l (l.getD x 0) b e) = fails l := by
  unfold fails
  exact any_index l 0 (fun a => l.any fun b => (List.range' 0 8).any fun e => a.testBit e && !b.testBit e && !exch l a b e)
 rw [outerAny] at o1 o2
 have start : ∀ r, Ev (fun k => spec_FirstFailure.l0 k 0 (m : Int) (ints l)) r → Ev (fun k => spec_FirstFailure.f k (m : Int) (ints l)) r := fun r hr => by
  unfold spec_FirstFailure.f
  refine Ev.bind (Gen.ev_at (l.length + 1) (fun k hk => specFamily (m : Int) (ints l) (by rw [ints_length]; exact hn) k (by rw [ints_length]; omega))) ?_
  rw [hf]
  simp only [if_true]
  exact hr
 cases hfl : fails l with
 | true =>
  obtain ⟨⟨x, y, z, b⟩, hb, hE⟩ := o1 hfl
  simp only at hb
  subst hb
  exact ⟨x, y, z, start _ hE⟩
 | false =>
  refine ⟨0, 0, 0, start _ (o2 hfl _ (Gen.ev_at 1 (fun k hk => ?_)))⟩
  obtain ⟨q, rfl⟩ : ∃ q, k = q + 1 := ⟨k - 1, by omega⟩
  simp only [spec_FirstFailure.l0]
  rw [if_neg (by rw [ints_length]; omega)]
def isMat (n : Int) (l : List Int) : Bool := fam n l && decide (0 < l.length) && !fails (l.map Int.toNat)
theorem toNat_ints (l : List Nat) : (ints l).map Int.toNat = l := by
 unfold ints
 rw [List.map_map]
 conv => rhs; rw [← List.map_id l]
 exact List.map_congr_left fun x _ => by simp
theorem implMat (n : Int) (l : List Int) (hn : l.length ≤ 1048576) : Ev (fun k => impl_IsMatroid.f k n l) (isMat n l) := by
 unfold impl_IsMatroid.f isMat
 have hF : Ev (fun k => impl_IsFamily.f k n l) (fam n l) := Gen.ev_at (l.length + 1) (fun k hk => implFamily n l hn k (by omega))
 cases hf : fam n l with
 | false =>
  rw [hf] at hF
  refine Ev.bind (a := (0, 0, 0, false)) ?_ (Ev.bind hF (by simp only [Bool.false_eq_true, if_false]; exact Ev.now _))
  unfold impl_FirstFailure.f
  exact Ev.bind hF (by simp only [Bool.false_eq_true, if_false]; exact Ev.now _)
 | true =>
  rw [hf] at hF
  obtain ⟨m, lN, rfl, hm, rfl, hl⟩ := fam_nat hf
  rw [toNat_ints]
  rw [ints_length] at hn
  obtain ⟨x, y, z, hE⟩ := implFirst m hm lN hl hn hf
  refine Ev.bind hE (Ev.bind hF ?_)
  simp only [if_true, ints_length]
  by_cases h0 : 0 < lN.length
  ·simp only [if_pos (show (lN.length : Int) > 0 by omega), decide_eq_true h0, Bool.true_and]
   exact Ev.now _
  ·simp only [if_neg (show ¬ (lN.length : Int) > 0 by omega), decide_eq_false h0, Bool.true_and, Bool.false_and]
   exact Ev.now _
theorem specMat (n : Int) (l : List Int) (hn : l.length ≤ 1048576) : Ev (fun k => spec_IsMatroid.f k n l) (isMat n l) := by
 unfold spec_IsMatroid.f isMat
 have hF : Ev (fun k => spec_IsFamily.f k n l) (fam n l) := Gen.ev_at (l.length + 1) (fun k hk => specFamily n l hn k (by omega))
 cases hf : fam n l with
 | false =>
  rw [hf] at hF
  refine Ev.bind (a := (0, 0, 0, false)) ?_ (Ev.bind hF (by simp only [Bool.false_eq_true, if_false]; exact Ev.now _))
  unfold spec_FirstFailure.f
  exact Ev.bind hF (by simp only [Bool.false_eq_true, if_false]; exact Ev.now _)
 | true =>
  rw [hf] at hF
  obtain ⟨m, lN, rfl, hm, rfl, hl⟩ := fam_nat hf
  rw [toNat_ints]
  rw [ints_length] at hn
  obtain ⟨x, y, z, hE⟩ := specFirst m hm lN hl hn hf
  refine Ev.bind hE (Ev.bind hF ?_)
  simp only [if_true, ints_length]
  by_cases h0 : 0 < lN.length
  ·simp only [if_pos (show (lN.length : Int) > 0 by omega), decide_eq_true h0, Bool.true_and]
   exact Ev.now _
  ·simp only [if_neg (show ¬ (lN.length : Int) > 0 by omega), decide_eq_false h0, Bool.true_and, Bool.false_and]
   exact Ev.now _
end Go.Proofs.Ytbjnkcfkhonkhaa.Mat
end
section
namespace Go.Proofs.Ytbjnkcfkhonkhaa.Rank
open Go.RowKit Go.Proofs.Ytbjnkcfkhonkhaa.Pr Go.Proofs.Ytbjnkcfkhonkhaa.Sets Go.Proofs.Ytbjnkcfkhonkhaa.Mat Go.Proofs.YtbjnkcfkhonkhaaW.PrintWords Go.Proofs.YtbjnkcfkhonkhaaW.PrintLast Go.Proofs.YtbjnkcfkhonkhaaW.PrintMore
set_option linter.unusedVariables false
def cnt (s : Nat) : Nat := (elems s).length
theorem cnt_le (s : Nat) : cnt s ≤ 8 := elems_length s
set_option maxRecDepth 100000 in
theorem implCountB : ∀ s : Nat, s < 256 → impl_CountOf.f (s : Int) = some (cnt s : Int) := by decide +kernel
theorem implCount (s : Nat) (h : s < 256) : impl_CountOf.f (s : Int) = some (cnt s : Int) := implCountB s h
set_option maxRecDepth 100000 in
theorem specCountB : ∀ s : Nat, s < 256 → spec_CountOf.f 10 (s : Int) = some (cnt s : Int) := by decide +kernel
theorem specCount (s : Nat) (h : s < 256) (k : Nat) (hk : 10 ≤ k) : spec_CountOf.f k (s : Int) = some (cnt s : Int) := by
 induction k with
 | zero => omega
 | succ k ih =>
  by_cases e : 10 ≤ k
  ·exact spec_CountOf.mono _ _ _ (ih e)
  ·obtain rfl : k = 9 := by omega
   exact specCountB s h
theorem specCountE (s : Nat) (h : s < 256) : Ev (fun k => spec_CountOf.f k (s : Int)) (cnt s : Int) := Gen.ev_at 10 (fun k hk => specCount s h k hk)
theorem foldl_index {σ : Type} (l : List Nat) (f : σ → Nat → σ) (s : σ) : (List.range' 0 l.length).foldl (fun s i => f s (l.getD i 0)) s = l.foldl f s := by
 have e : l = (List.range' 0 l.length).map fun i => l.getD i 0 := by
  rw [← List.range_eq_range', Gen.map_getD']
 conv => rhs; rw [e]
 rw [List.foldl_map]
theorem foldl_or (p : Nat → Bool) (q : List Nat) (o : Nat) (j : Nat) : (q.foldl (fun o e => if p e = true then o ||| 2 ^ e else o) o).testBit j = (o.testBit j || q.any fun e => p e && decide (e = j)) := by
 induction q generalizing o with
 | nil => simp
 | cons a q ih =>
  rw [List.foldl_cons, ih, List.any_cons]
  cases h : p a with
  | false => simp
  | true =>
   simp only [if_true, Nat.testBit_or, Nat.testBit_two_pow, Bool.true_and]
   rw [Bool.or_assoc]
theorem or_lt {a b n : Nat} (ha : a < 2 ^ n) (hb : b < 2 ^ n) : a ||| b < 2 ^ n := Nat.or_lt_two_pow ha hb
theorem pow_lt {e m : Nat} (h : e < m) : 2 ^ e < 2 ^ m := Nat.pow_lt_pow_right (by decide) h
theorem u64_nat (m : Nat) (h : m < 2 ^ 62) : IntKind.u64.wrap (m : Int) = m := by
 rw [IntKind.wrap_u64]
 omega
end Go.Proofs.Ytbjnkcfkhonkhaa.Rank
end
