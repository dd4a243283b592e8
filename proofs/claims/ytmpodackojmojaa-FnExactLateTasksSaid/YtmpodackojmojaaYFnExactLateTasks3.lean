/- The claim FnExactLateTasks: every text that its row comes to, laid together by slim.py (the words of the kit's print, the printed walks, the pure law, the row). -/
import Derived.Test.YtmpodackojmojaaYFnExactLateTasks2
section
namespace Go.Proofs.Ytmpodackojmojaa.Pr
open Go.RowKit Go.Proofs.YtmpodackojmojaaW.PrintWords Go.Proofs.YtmpodackojmojaaW.PrintLast Go.Proofs.YtmpodackojmojaaW.PrintMore
attribute [local go_sem] max2_int min2_int max_two min_two max_three min_three max_four min_four
set_option linter.unusedVariables false
set_option linter.unusedSimpArgs false
def impl_IsFamily.l0 : Nat → Int → List Int → List Int → Int → Int → Option (Bool)
 | 0, _, _, _, _, _ => none
 | k + 1, x0, x1, x7, x8, x9 => if x9 < x8 then (if 0 ≤ x9 then (if x9 < (x7.length : Int) then ((impl_IsSet.f x0 (rd x7 x9)).bind fun t484 => (if t484 = true then (if x9 > 0 then (if 0 ≤ (wrap64 (x9 - 1)) then (if (wrap64 (x9 - 1)) < (x1.length : Int) then (if (rd x7 x9) ≤ (rd x1 (wrap64 (x9 - 1))) then (some false) else (impl_IsFamily.l0 k x0 x1 x7 x8 (wrap64 (x9 + 1)))) else (none)) else (none)) else (impl_IsFamily.l0 k x0 x1 x7 x8 (wrap64 (x9 + 1)))) else (some false))) else (none)) else (none)) else ((impl_isSize.f x0).bind fun t486 => (some t486))
def impl_IsFamily.f (k : Nat) (a0 : Int) (l1 : List Int) : Option (Bool) := impl_IsFamily.l0 k a0 l1 l1 (l1.length : Int) 0
set_option maxHeartbeats 8000000 in
set_option maxRecDepth 100000 in
theorem impl_IsFamily.calls (k : Nat) (a0 : Int) (A1 : Option Addr) (c1 : Nat) (l1 : List Int) (r : Bool) (w : World) (hr1 : Kd.C (Kd.int .i64) w A1 l1.length l1) (hc1 : l1.length ≤ c1) (h : impl_IsFamily.f k a0 l1 = some r) :
  Calls Try.prog 120 #[.int .i64 a0, .slice A1 l1.length c1] w fun e w' => e = .returned (.bool r) ∧ Drawn0 w w' := by
 have HR1 := Aside0.mk hr1
 have HC1 := Aside0.mk hc1
 clear hr1 hc1
 have H : (impl_IsFamily.l0 k a0 l1 l1 (l1.length : Int) 0) = some r := h
 clear h
 have H' := Aside0.mk H
 clear H
 go_enter Try.func120, Try.ntmps120
 go_wp2
 go_loopg [9] k (fun kq v9 w' => ∃ (x9_1 : Int), v9 = .int .i64 x9_1 ∧ Aside0 (impl_IsFamily.l0 kq a0 l1 l1 (l1.length : Int) x9_1 = some r) ∧ Aside0 (kq ≤ k) ∧ Drawn0 w w')
 case atStart => exact ⟨(0), (by first | rfl | (simp; done) | (simp [*]; done)), H', ⟨Nat.le_refl _⟩, by repeat (first | exact Drawn0.refl _ | apply Drawn0.step)⟩
 case round =>
  clear H'
  try clear c1
  try clear p2
  obtain ⟨x9_1, rfl, HA, HK1, ⟨m1, rfl⟩⟩ := hrel
  cases gk with
  | zero => exact absurd HA.out (by simp [impl_IsFamily.l0])
  | succ k1 =>
   have H := HA.out
   clear HA
   simp only [impl_IsFamily.l0] at H
   by_cases c3 : x9_1 < (l1.length : Int)
   ·rw [if_pos c3] at H
    have c3b0 : decide (x9_1 < (l1.length : Int)) = true := decide_eq_true c3
    clear c3
    by_cases c4 : 0 ≤ x9_1
    ·rw [if_pos c4] at H
     have c4b0 : decide (0 ≤ x9_1) = true := decide_eq_true c4
     clear c4
     by_cases c5 : x9_1 < (l1.length : Int)
     ·rw [if_pos c5] at H
      have c5b0 : decide (x9_1 < (l1.length : Int)) = true := decide_eq_true c5
      clear c5
      replace H := Option.bind_eq_some_iff.mp H
      obtain ⟨t484, A60, H⟩ := H
      (try dsimp only at H)
      have A6 := Aside0.mk A60
      clear A60
      by_cases c7 : t484 = true
      ·subst c7
       have H1 : (if x9_1 > 0 then (if 0 ≤ (wrap64 (x9_1 - 1)) then (if (wrap64 (x9_1 - 1)) < (l1.length : Int) then (if (rd l1 x9_1) ≤ (rd l1 (wrap64 (x9_1 - 1))) then (some false) else (impl_IsFamily.l0 k1 a0 l1 l1 (l1.length : Int) (wrap64 (x9_1 + 1)))) else (none)) else (none)) else (impl_IsFamily.l0 k1 a0 l1 l1 (l1.length : Int) (wrap64 (x9_1 + 1)))) = some r := by rw [if_pos rfl] at H; exact H
       clear H
       have H := H1
       clear H1
       by_cases c8 : x9_1 > 0
       ·rw [if_pos c8] at H
        have c8b0 : decide (0 < x9_1) = true := decide_eq_true c8
        clear c8
        obtain ⟨ji9, hji9⟩ : ∃ j_ : Int, (wrap64 (x9_1 - 1)) = j_ := ⟨_, rfl⟩
        replace H : (if 0 ≤ (ji9) then (if (ji9) < (l1.length : Int) then (if (rd l1 x9_1) ≤ (rd l1 (ji9)) then (some false) else (impl_IsFamily.l0 k1 a0 l1 l1 (l1.length : Int) (wrap64 (x9_1 + 1)))) else (none)) else (none)) = some r := by first | (rw [hji9] at H; exact H) | (simp only [hji9] at H ⊢; exact H)
        (try rw [hji9] at A6)
        have hji9w : (IntKind.i64.wrap (x9_1 - 1)) = ji9 := (i64_w _).trans hji9
        by_cases c10 : 0 ≤ (ji9)
        ·rw [if_pos c10] at H
         have c10b0 : decide (0 ≤ (ji9)) = true := decide_eq_true c10
         clear c10
         by_cases c11 : (ji9) < (l1.length : Int)
         ·rw [if_pos c11] at H
          have c11b0 : decide ((ji9) < (l1.length : Int)) = true := decide_eq_true c11
          clear c11
          by_cases c12 : (rd l1 x9_1) ≤ (rd l1 (ji9))
          ·rw [if_pos c12] at H
           have c12b0 : decide ((rd l1 x9_1) ≤ (rd l1 (ji9))) = true := decide_eq_true c12
           clear c12
           obtain rfl := Option.some.inj H
           have p483 : 0 ≤ (x9_1 : Int) := of_decide_eq_true (by first | (with_reducible assumption) | assumption)
           have q483 : x9_1 < (l1.length : Int) := of_decide_eq_true (by first | (with_reducible assumption) | assumption)
           obtain ⟨ad483, e483, hx483_0⟩ := Kd.at_int HR1.out x9_1 p483 q483
           cases e483
           replace p483 := eq_true p483
           replace q483 := eq_true q483
           go_wp2_with (first | ((with_reducible refine gate_callee (f := 61) rfl ?_); refine goesL_ (some 16) rfl rfl Try.func61 (by kernel_rfl) rfl #[.int .i64 a0, .int .i64 (rd l1 x9_1)] rfl (by (try simp only [List.map_toArray, List.map_cons, List.map_nil]); first | done | rfl) ?_; (with_reducible refine (impl_IsSet.calls a0 (rd l1 x9_1) true _ A6.out).mono ?_); rintro e w' ⟨rfl, ⟨nd, rfl⟩⟩; refine ⟨_, rfl, ?_⟩; have p485 : 0 ≤ ((ji9) : Int) := of_decide_eq_true (by first | (with_reducible assumption) | assumption); have q485 : (ji9) < (l1.length : Int) := of_decide_eq_true (by first | (with_reducible assumption) | assumption); obtain ⟨ad485, e485, hx485_0⟩ := Kd.at_int HR1.out (ji9) p485 q485; obtain rfl : ad483 = ad485 := (by injection e485); replace p485 := eq_true p485; replace q485 := eq_true q485))
           go_ret
           exact ⟨by first | rfl | (simp; done) | (simp only [← hji9] <;> (first | rfl | simp)) | (simp [*]; done), by repeat (first | exact Drawn0.refl _ | apply Drawn0.step)⟩
          ·rw [if_neg c12] at H
           have c12b0 : decide ((rd l1 x9_1) ≤ (rd l1 (ji9))) = false := decide_eq_false c12
           clear c12
           have H' := Aside0.mk H
           clear H
           have p483 : 0 ≤ (x9_1 : Int) := of_decide_eq_true (by first | (with_reducible assumption) | assumption)
           have q483 : x9_1 < (l1.length : Int) := of_decide_eq_true (by first | (with_reducible assumption) | assumption)
           obtain ⟨ad483, e483, hx483_0⟩ := Kd.at_int HR1.out x9_1 p483 q483
           cases e483
           replace p483 := eq_true p483
           replace q483 := eq_true q483
           go_wp2_with (first | ((with_reducible refine gate_callee (f := 61) rfl ?_); refine goesL_ (some 16) rfl rfl Try.func61 (by kernel_rfl) rfl #[.int .i64 a0, .int .i64 (rd l1 x9_1)] rfl (by (try simp only [List.map_toArray, List.map_cons, List.map_nil]); first | done | rfl) ?_; (with_reducible refine (impl_IsSet.calls a0 (rd l1 x9_1) true _ A6.out).mono ?_); rintro e w' ⟨rfl, ⟨nd, rfl⟩⟩; refine ⟨_, rfl, ?_⟩; have p485 : 0 ≤ ((ji9) : Int) := of_decide_eq_true (by first | (with_reducible assumption) | assumption); have q485 : (ji9) < (l1.length : Int) := of_decide_eq_true (by first | (with_reducible assumption) | assumption); obtain ⟨ad485, e485, hx485_0⟩ := Kd.at_int HR1.out (ji9) p485 q485; obtain rfl : ad483 = ad485 := (by injection e485); replace p485 := eq_true p485; replace q485 := eq_true q485))
           go_roundg k1
           case measure => have := HK1.out; omega
           case rel => exact ⟨(wrap64 (x9_1 + 1)), (by first | rfl | (simp; done) | (simp [*]; done)), H', ⟨by have := HK1.out; omega⟩, by repeat (first | exact Drawn0.refl _ | apply Drawn0.step)⟩
         ·rw [if_neg c11] at H
          exact absurd H (by simp)
        ·rw [if_neg c10] at H
         exact absurd H (by simp)
       ·rw [if_neg c8] at H
        have c8b0 : decide (0 < x9_1) = false := decide_eq_false c8
        clear c8
        have H' := Aside0.mk H
        clear H
        have p483 : 0 ≤ (x9_1 : Int) := of_decide_eq_true (by first | (with_reducible assumption) | assumption)
        have q483 : x9_1 < (l1.length : Int) := of_decide_eq_true (by first | (with_reducible assumption) | assumption)
        obtain ⟨ad483, e483, hx483_0⟩ := Kd.at_int HR1.out x9_1 p483 q483
        cases e483
        replace p483 := eq_true p483
        replace q483 := eq_true q483
        go_wp2_with (first | ((with_reducible refine gate_callee (f := 61) rfl ?_); refine goesL_ (some 16) rfl rfl Try.func61 (by kernel_rfl) rfl #[.int .i64 a0, .int .i64 (rd l1 x9_1)] rfl (by (try simp only [List.map_toArray, List.map_cons, List.map_nil]); first | done | rfl) ?_; (with_reducible refine (impl_IsSet.calls a0 (rd l1 x9_1) true _ A6.out).mono ?_); rintro e w' ⟨rfl, ⟨nd, rfl⟩⟩; refine ⟨_, rfl, ?_⟩))
        go_roundg k1
        case measure => have := HK1.out; omega
        case rel => exact ⟨(wrap64 (x9_1 + 1)), (by first | rfl | (simp; done) | (simp [*]; done)), H', ⟨by have := HK1.out; omega⟩, by repeat (first | exact Drawn0.refl _ | apply Drawn0.step)⟩
      ·replace c7 := Bool.eq_false_iff.mpr c7
       subst c7
       have H1 : (some false) = some r := by rw [if_neg (show ¬ (false = true) by decide)] at H; exact H
       clear H
       have H := H1
       clear H1
       obtain rfl := Option.some.inj H
       have p483 : 0 ≤ (x9_1 : Int) := of_decide_eq_true (by first | (with_reducible assumption) | assumption)
       have q483 : x9_1 < (l1.length : Int) := of_decide_eq_true (by first | (with_reducible assumption) | assumption)
       obtain ⟨ad483, e483, hx483_0⟩ := Kd.at_int HR1.out x9_1 p483 q483
       cases e483
       replace p483 := eq_true p483
       replace q483 := eq_true q483
       go_wp2_with (first | ((with_reducible refine gate_callee (f := 61) rfl ?_); refine goesL_ (some 16) rfl rfl Try.func61 (by kernel_rfl) rfl #[.int .i64 a0, .int .i64 (rd l1 x9_1)] rfl (by (try simp only [List.map_toArray, List.map_cons, List.map_nil]); first | done | rfl) ?_; (with_reducible refine (impl_IsSet.calls a0 (rd l1 x9_1) false _ A6.out).mono ?_); rintro e w' ⟨rfl, ⟨nd, rfl⟩⟩; refine ⟨_, rfl, ?_⟩))
       go_ret
       exact ⟨by first | rfl | (simp; done) | (simp [*]; done), by repeat (first | exact Drawn0.refl _ | apply Drawn0.step)⟩
     ·rw [if_neg c5] at H
      exact absurd H (by simp)
    ·rw [if_neg c4] at H
     exact absurd H (by simp)
   ·rw [if_neg c3] at H
    have c3b0 : decide (x9_1 < (l1.length : Int)) = false := decide_eq_false c3
    clear c3
    replace H := Option.bind_eq_some_iff.mp H
    obtain ⟨t486, A130, H⟩ := H
    (try dsimp only at H)
    have A13 := Aside0.mk A130
    clear A130
    obtain rfl := Option.some.inj H
    go_wp2_with (first | ((with_reducible refine gate_callee (f := 105) rfl ?_); refine goesL_ (some 33) rfl rfl Try.func105 (by kernel_rfl) rfl #[.int .i64 a0] rfl (by (try simp only [List.map_toArray, List.map_cons, List.map_nil]); first | done | rfl) ?_; (with_reducible refine (impl_isSize.calls a0 t486 _ A13.out).mono ?_); rintro e w' ⟨rfl, ⟨nd, rfl⟩⟩; refine ⟨_, rfl, ?_⟩))
    go_ret
    exact ⟨by first | rfl | (simp; done) | (simp [*]; done), by repeat (first | exact Drawn0.refl _ | apply Drawn0.step)⟩
end Go.Proofs.Ytmpodackojmojaa.Pr
end
section
namespace Go.Proofs.Ytmpodackojmojaa.Pr
open Go.RowKit Go.Proofs.YtmpodackojmojaaW.PrintWords Go.Proofs.YtmpodackojmojaaW.PrintLast Go.Proofs.YtmpodackojmojaaW.PrintMore
attribute [local go_sem] max2_int min2_int max_two min_two max_three min_three max_four min_four
set_option linter.unusedVariables false
set_option linter.unusedSimpArgs false
def slices_IndexFunc_int_int.l0 (g : Int → Option Bool) : Nat → List Int → Int → Option Int
 | 0, _, _ => none
 | k + 1, x0, x8 => if x8 < (x0.length : Int) then (if 0 ≤ x8 then ((g (rd x0 x8)).bind fun t => (if t = true then (some x8) else (slices_IndexFunc_int_int.l0 g k x0 (wrap64 (x8 + 1))))) else (none)) else (some (-1))
def slices_IndexFunc_int_int.f (k : Nat) (l0 : List Int) (g : Int → Option Bool) : Option Int := slices_IndexFunc_int_int.l0 g k l0 0
set_option maxHeartbeats 8000000 in
set_option maxRecDepth 100000 in
theorem slices_IndexFunc_int_int.calls (k : Nat) (A0 : Option Addr) (c0 : Nat) (l0 : List Int) (fv : Value) (g : Int → Option Bool) (r : Int) (w : World) (hr0 : Kd.C (Kd.int .i64) w A0 l0.length l0) (hF : Hof.Fun1 Try.prog w fv g) (h : slices_IndexFunc_int_int.f k l0 g = some r) :
  Calls Try.prog 156 #[.slice A0 l0.length c0, fv] w fun e w' => e = .returned (.int .i64 r) ∧ Below w.heap.size w w' := by
 have HR0 := Aside0.mk hr0
 clear hr0
 have HB := Aside0.mk (Below.refl w.heap.size w)
 have H : (slices_IndexFunc_int_int.l0 g k l0 0) = some r := h
 clear h
 have H' := Aside0.mk H
 clear H
 go_enter Try.func156, Try.ntmps156
 go_wp2
 go_loopg [8] k (fun kq v8 w' => ∃ (x8_1 : Int), v8 = .int .i64 x8_1 ∧ Aside0 (slices_IndexFunc_int_int.l0 g kq l0 x8_1 = some r) ∧ Aside0 (kq ≤ k) ∧ Aside0 (Below w.heap.size w w'))
 case atStart => exact ⟨0, rfl, H', ⟨Nat.le_refl _⟩, HB⟩
 case round =>
  clear H' HB
  obtain ⟨x8_1, rfl, HA, HK1, HB⟩ := hrel
  cases gk with
  | zero => exact absurd HA.out (by simp [slices_IndexFunc_int_int.l0])
  | succ k1 =>
   have H := HA.out
   clear HA
   simp only [slices_IndexFunc_int_int.l0] at H
   by_cases c3 : x8_1 < (l0.length : Int)
   ·rw [if_pos c3] at H
    have c3b0 : decide (x8_1 < (l0.length : Int)) = true := decide_eq_true c3
    clear c3
    by_cases c4 : 0 ≤ x8_1
    ·rw [if_pos c4] at H
     have c4b0 : decide (0 ≤ x8_1) = true := decide_eq_true c4
     clear c4
     obtain ⟨t, A50, H⟩ := Option.bind_eq_some_iff.mp H
     have A5 := Aside0.mk A50
     clear A50
     have p165 : 0 ≤ (x8_1 : Int) := of_decide_eq_true (by assumption)
     have q165 : x8_1 < (l0.length : Int) := of_decide_eq_true (by assumption)
     obtain ⟨ad165, e165, hx165_0⟩ := Kd.at_int HR0.out x8_1 p165 q165
     cases e165
     replace hx165_0 := (HB.out.cell (World.block_lt_of_cell? w _ hx165_0)).trans hx165_0
     replace p165 := eq_true p165
     replace q165 := eq_true q165
     by_cases c6 : t = true
     ·subst c6
      have H1 : (some x8_1) = some r := by rw [if_pos rfl] at H; exact H
      clear H
      obtain rfl := Option.some.inj H1
      clear H1
      go_wp2_with (first | (refine Hof.goesF_ (some 16) rfl rfl 11 rfl hF A5.out HB.out rfl (by (try simp only [List.map_toArray, List.map_cons, List.map_nil]); first | done | rfl) ?_; intro w5 hb; have n1_ := Aside0.mk (below_step HB.out hb); clear HB; have HB := n1_; clear n1_ hb))
      go_ret
      exact ⟨rfl, HB.out⟩
     ·replace c6 := Bool.eq_false_iff.mpr c6
      subst c6
      have H1 : (slices_IndexFunc_int_int.l0 g k1 l0 (wrap64 (x8_1 + 1))) = some r := by rw [if_neg (show ¬ (false = true) by decide)] at H; exact H
      clear H
      have H' := Aside0.mk H1
      clear H1
      go_wp2_with (first | (refine Hof.goesF_ (some 16) rfl rfl 11 rfl hF A5.out HB.out rfl (by (try simp only [List.map_toArray, List.map_cons, List.map_nil]); first | done | rfl) ?_; intro w5 hb; have n1_ := Aside0.mk (below_step HB.out hb); clear HB; have HB := n1_; clear n1_ hb))
      go_roundg k1
      case measure => have := HK1.out; omega
      case rel => exact ⟨(wrap64 (x8_1 + 1)), rfl, H', ⟨by have := HK1.out; omega⟩, HB⟩
    ·rw [if_neg c4] at H
     exact absurd H (by simp)
   ·rw [if_neg c3] at H
    have c3b0 : decide (x8_1 < (l0.length : Int)) = false := decide_eq_false c3
    clear c3
    obtain rfl := Option.some.inj H
    go_wp2
    go_ret
    exact ⟨rfl, HB.out⟩
end Go.Proofs.Ytmpodackojmojaa.Pr
end
section
namespace Go.Proofs.Ytmpodackojmojaa.Pr
open Go.RowKit Go.Proofs.YtmpodackojmojaaW.PrintWords Go.Proofs.YtmpodackojmojaaW.PrintLast Go.Proofs.YtmpodackojmojaaW.PrintMore
attribute [local go_sem] max2_int min2_int max_two min_two max_three min_three max_four min_four
set_option linter.unusedVariables false
set_option linter.unusedSimpArgs false
def slices_ContainsFunc_int_int.f (k : Nat) (l0 : List Int) (g : Int → Option Bool) : Option Bool := (slices_IndexFunc_int_int.f k l0 g).bind fun t => some (decide (t ≥ 0))
set_option maxHeartbeats 8000000 in
set_option maxRecDepth 100000 in
theorem slices_ContainsFunc_int_int.calls (k : Nat) (A0 : Option Addr) (c0 : Nat) (l0 : List Int) (fv : Value) (g : Int → Option Bool) (r : Bool) (w : World) (hr0 : Kd.C (Kd.int .i64) w A0 l0.length l0) (hF : Hof.Fun1 Try.prog w fv g) (h : slices_ContainsFunc_int_int.f k l0 g = some r) :
  Calls Try.prog 132 #[.slice A0 l0.length c0, fv] w fun e w' => e = .returned (.bool r) ∧ Below w.heap.size w w' := by
 have HR0 := Aside0.mk hr0
 clear hr0
 unfold slices_ContainsFunc_int_int.f at h
 obtain ⟨t, h1, h⟩ := Option.bind_eq_some_iff.mp h
 have A1 := Aside0.mk h1
 clear h1
 obtain rfl := Option.some.inj h
 clear h
 go_enter Try.func132, Try.ntmps132
 go_wp2_with (first | ((with_reducible refine gate_callee (f := 156) rfl ?_); refine goesL_ (some 7) rfl rfl Try.func156 (by kernel_rfl) rfl #[.slice A0 l0.length c0, fv] rfl (by (try simp only [List.map_toArray, List.map_cons, List.map_nil]); first | done | rfl) ?_; (with_reducible refine (slices_IndexFunc_int_int.calls k _ _ l0 fv g t _ HR0.out hF A1.out).mono ?_); rintro e w5 ⟨rfl, hb⟩; refine ⟨_, rfl, ?_⟩; have HB := Aside0.mk hb; clear hb))
 go_ret
 exact ⟨rfl, HB.out⟩
end Go.Proofs.Ytmpodackojmojaa.Pr
end
section
namespace Go.Proofs.Ytmpodackojmojaa.Pr
open Go.RowKit Go.Proofs.YtmpodackojmojaaW.PrintWords Go.Proofs.YtmpodackojmojaaW.PrintLast Go.Proofs.YtmpodackojmojaaW.PrintMore
attribute [local go_sem] max2_int min2_int max_two min_two max_three min_three max_four min_four
set_option linter.unusedVariables false
set_option linter.unusedSimpArgs false
def slices_Contains_int_int.f (k : Nat) (l0 : List Int) (a1 : Int) : Option (Bool) := (slices_Index_int_int.f k l0 a1).bind fun t487 => (some (decide (t487 ≥ 0)))
set_option maxHeartbeats 8000000 in
set_option maxRecDepth 100000 in
theorem slices_Contains_int_int.calls (k : Nat) (A0 : Option Addr) (c0 : Nat) (l0 : List Int) (a1 : Int) (r : Bool) (w : World) (hr0 : Kd.C (Kd.int .i64) w A0 l0.length l0) (hc0 : l0.length ≤ c0) (h : slices_Contains_int_int.f k l0 a1 = some r) :
  Calls Try.prog 146 #[.slice A0 l0.length c0, .int .i64 a1] w fun e w' => e = .returned (.bool r) ∧ Drawn0 w w' := by
 have HR0 := Aside0.mk hr0
 have HC0 := Aside0.mk hc0
 clear hr0 hc0
 have H : ((slices_Index_int_int.f k l0 a1).bind fun t487 => (some (decide (t487 ≥ 0)))) = some r := h
 clear h
 replace H := Option.bind_eq_some_iff.mp H
 obtain ⟨t487, A30, H⟩ := H
 (try dsimp only at H)
 have A3 := Aside0.mk A30
 clear A30
 obtain rfl := Option.some.inj H
 go_enter Try.func146, Try.ntmps146
 go_wp2_with (first | ((with_reducible refine gate_callee (f := 65) rfl ?_); refine goesL_ (some 7) rfl rfl Try.func65 (by kernel_rfl) rfl #[.slice A0 l0.length c0, .int .i64 a1] rfl (by (try simp only [List.map_toArray, List.map_cons, List.map_nil]); first | done | rfl) ?_; (with_reducible refine (slices_Index_int_int.calls k _ _ l0 a1 t487 _ ?side1 ?side2 A3.out).mono ?_); (case side1 => exact Hof.Cw HR0.out); (case side2 => exact HC0.out); rintro e w' ⟨rfl, ⟨nd, rfl⟩⟩; refine ⟨_, rfl, ?_⟩))
 go_ret
 exact ⟨by first | rfl | (simp; done) | (simp [*]; done), by repeat (first | exact Drawn0.refl _ | apply Drawn0.step)⟩
end Go.Proofs.Ytmpodackojmojaa.Pr
end
section
namespace Go.Proofs.Ytmpodackojmojaa.Pr
open Go.RowKit Go.Proofs.YtmpodackojmojaaW.PrintWords Go.Proofs.YtmpodackojmojaaW.PrintLast Go.Proofs.YtmpodackojmojaaW.PrintMore
attribute [local go_sem] max2_int min2_int max_two min_two max_three min_three max_four min_four
set_option linter.unusedVariables false
set_option linter.unusedSimpArgs false
def impl_HasSet.f (k : Nat) (l0 : List Int) (a1 : Int) : Option (Bool) := (slices_Contains_int_int.f k l0 a1).bind fun t488 => (some t488)
set_option maxHeartbeats 8000000 in
set_option maxRecDepth 100000 in
theorem impl_HasSet.calls (k : Nat) (A0 : Option Addr) (c0 : Nat) (l0 : List Int) (a1 : Int) (r : Bool) (w : World) (hr0 : Kd.C (Kd.int .i64) w A0 l0.length l0) (hc0 : l0.length ≤ c0) (h : impl_HasSet.f k l0 a1 = some r) :
  Calls Try.prog 122 #[.slice A0 l0.length c0, .int .i64 a1] w fun e w' => e = .returned (.bool r) ∧ Drawn0 w w' := by
 have HR0 := Aside0.mk hr0
 have HC0 := Aside0.mk hc0
 clear hr0 hc0
 have H : ((slices_Contains_int_int.f k l0 a1).bind fun t488 => (some t488)) = some r := h
 clear h
 replace H := Option.bind_eq_some_iff.mp H
 obtain ⟨t488, A30, H⟩ := H
 (try dsimp only at H)
 have A3 := Aside0.mk A30
 clear A30
 obtain rfl := Option.some.inj H
 go_enter Try.func122, Try.ntmps122
 go_wp2_with (first | ((with_reducible refine gate_callee (f := 146) rfl ?_); refine goesL_ (some 7) rfl rfl Try.func146 (by kernel_rfl) rfl #[.slice A0 l0.length c0, .int .i64 a1] rfl (by (try simp only [List.map_toArray, List.map_cons, List.map_nil]); first | done | rfl) ?_; (with_reducible refine (slices_Contains_int_int.calls k _ _ l0 a1 t488 _ ?side1 ?side2 A3.out).mono ?_); (case side1 => exact Hof.Cw HR0.out); (case side2 => exact HC0.out); rintro e w' ⟨rfl, ⟨nd, rfl⟩⟩; refine ⟨_, rfl, ?_⟩))
 go_ret
 exact ⟨by first | rfl | (simp; done) | (simp [*]; done), by repeat (first | exact Drawn0.refl _ | apply Drawn0.step)⟩
end Go.Proofs.Ytmpodackojmojaa.Pr
end
section
namespace Go.Proofs.Ytmpodackojmojaa.Pr
open Go.RowKit Go.Proofs.YtmpodackojmojaaW.PrintWords Go.Proofs.YtmpodackojmojaaW.PrintLast Go.Proofs.YtmpodackojmojaaW.PrintMore
attribute [local go_sem] max2_int min2_int max_two min_two max_three min_three max_four min_four
set_option linter.unusedVariables false
set_option linter.unusedSimpArgs false
def impl_FirstFailure_1.f (k : Nat) (l : List Int) (a e f : Int) : Option Bool := if 0 ≤ e then (if 0 ≤ f then (impl_HasSet.f k l (Go.bits .or .i64 (Go.bits .andNot .i64 a (shl .i64 1 e)) (shl .i64 1 f))) else (none)) else (none)
mutual
def impl_FirstFailure.l0 : Nat → Int → List Int → Int → Option (Int × Int × Int × Bool)
 | 0, _, _, _ => none
 | k + 1, n, l, x => if x < (l.length : Int) then (if 0 ≤ x then (impl_FirstFailure.l1 k n l x (rd l x) 0) else (none)) else (some (0, 0, 0, false))
def impl_FirstFailure.l1 : Nat → Int → List Int → Int → Int → Int → Option (Int × Int × Int × Bool)
 | 0, _, _, _, _, _ => none
 | k + 1, n, l, x, a, y => if y < (l.length : Int) then (if 0 ≤ y then ((impl_ElementsOf.f k (Go.bits .andNot .i64 a (rd l y))).bind fun es => (impl_FirstFailure.l2 k n l x a y (rd l y) es 0)) else (none)) else (impl_FirstFailure.l0 k n l (wrap64 (x + 1)))
def impl_FirstFailure.l2 : Nat → Int → List Int → Int → Int → Int → Int → List Int → Int → Option (Int × Int × Int × Bool)
 | 0, _, _, _, _, _, _, _, _ => none
 | k + 1, n, l, x, a, y, b, es, z => if z < (es.length : Int) then (if 0 ≤ z then ((impl_ElementsOf.f k (Go.bits .andNot .i64 b a)).bind fun fs => ((slices_ContainsFunc_int_int.f k fs (fun f => impl_FirstFailure_1.f k l a (rd es z) f)).bind fun t => (if t = true then (impl_FirstFailure.l2 k n l x a y b es (wrap64 (z + 1))) else (some (a, b, rd es z, true))))) else (none)) else (impl_FirstFailure.l1 k n l x a (wrap64 (y + 1)))
end
def impl_FirstFailure.f (k : Nat) (a0_0 : Int) (l0_1 : List Int) : Option (Int × Int × Int × Bool) := (impl_IsFamily.f k a0_0 l0_1).bind fun t => (if t = true then (impl_FirstFailure.l0 k a0_0 l0_1 0) else (some (0, 0, 0, false)))
set_option maxHeartbeats 8000000 in
set_option maxRecDepth 100000 in
theorem impl_FirstFailure_1.calls (k : Nat) (a0_0 : Int) (A0_1 : Option Addr) (c0_1 : Nat) (l0_1 : List Int) (a e f : Int) (b : Bool) (gb1 gb5 gb9 : Nat) (w : World) (h1 : w.heap[gb1]? = some (.cells #[.int .i64 a0_0, (.slice A0_1 l0_1.length c0_1)] 35 (0, 0))) (h5 : w.heap[gb5]? = some (.cells #[.int .i64 a] 3 (0, 0))) (h9 : w.heap[gb9]? = some (.cells #[.int .i64 e] 3 (0, 0))) (hr0_1 : Kd.C (Kd.int .i64) w A0_1 l0_1.length l0_1) (hc0_1 : l0_1.length ≤ c0_1) (h : impl_FirstFailure_1.f k l0_1 a e f = some b) :
  Calls Try.prog 145 #[.int .i64 f, .pointer (some ⟨gb1, 0, none⟩), .pointer (some ⟨gb5, 0, none⟩), .pointer (some ⟨gb9, 0, none⟩)] w fun e w' => e = .returned (.bool b) ∧ Below w.heap.size w w' := by
 have hu27 := Try.underlying35
 have HR := Aside0.mk hr0_1
 have HC := Aside0.mk hc0_1
 have hcz5_0 : w.cell? ⟨gb1, 0, none⟩ = some (.int .i64 a0_0) := (blk_cell h1 0).trans rfl
 have hcz5_1 : w.cell? ⟨gb1, 1, none⟩ = some (.slice A0_1 l0_1.length c0_1) := (blk_cell h1 1).trans rfl
 have hcz6_0 : w.cell? ⟨gb5, 0, none⟩ = some (.int .i64 a) := (blk_cell h5 0).trans rfl
 have hcz7_0 : w.cell? ⟨gb9, 0, none⟩ = some (.int .i64 e) := (blk_cell h9 0).trans rfl
 clear hr0_1 hc0_1 h1 h5 h9
 have H := h
 clear h
 unfold impl_FirstFailure_1.f at H
 by_cases c13 : 0 ≤ e
 case neg => rw [if_neg c13] at H; exact absurd H (by simp)
 rw [if_pos c13] at H
 have c13b0 := eq_true c13
 have c13b1 : decide (0 ≤ e) = true := decide_eq_true c13
 clear c13
 by_cases c14 : 0 ≤ f
 case neg => rw [if_neg c14] at H; exact absurd H (by simp)
 rw [if_pos c14] at H
 have c14b0 := eq_true c14
 have c14b1 : decide (0 ≤ f) = true := decide_eq_true c14
 clear c14
 obtain ⟨ji14, hji14⟩ : ∃ j_ : Int, (shl .i64 1 e) = j_ := ⟨_, rfl⟩
 rw [hji14] at H
 have hji14_ : (IntKind.i64.wrap (1 * 2 ^ min e.toNat 64)) = ji14 := hji14
 have hji14z : e ≤ 64 → (IntKind.i64.wrap (1 * 2 ^ e.toNat)) = ji14 := shl_small hji14
 have hji14u : (IntKind.i64.wrap (2 ^ min e.toNat 64)) = ji14 := by have h_ := hji14_; rw [Int.one_mul] at h_; exact h_
 have hji14v : e ≤ 64 → (IntKind.i64.wrap (2 ^ e.toNat)) = ji14 := fun hle_ => by have h_ := hji14z hle_; rw [Int.one_mul] at h_; exact h_
 have hji14y : (wrap64 (1 * 2 ^ min e.toNat 64)) = ji14 := (i64_w _).symm.trans hji14_
 have hji14x : e ≤ 64 → (wrap64 (1 * 2 ^ e.toNat)) = ji14 := fun h_ => (i64_w _).symm.trans (hji14z h_)
 obtain ⟨ji16, hji16⟩ : ∃ j_ : Int, (shl .i64 1 f) = j_ := ⟨_, rfl⟩
 rw [hji16] at H
 have hji16_ : (IntKind.i64.wrap (1 * 2 ^ min f.toNat 64)) = ji16 := hji16
 have hji16z : f ≤ 64 → (IntKind.i64.wrap (1 * 2 ^ f.toNat)) = ji16 := shl_small hji16
 have hji16u : (IntKind.i64.wrap (2 ^ min f.toNat 64)) = ji16 := by have h_ := hji16_; rw [Int.one_mul] at h_; exact h_
 have hji16v : f ≤ 64 → (IntKind.i64.wrap (2 ^ f.toNat)) = ji16 := fun hle_ => by have h_ := hji16z hle_; rw [Int.one_mul] at h_; exact h_
 have hji16y : (wrap64 (1 * 2 ^ min f.toNat 64)) = ji16 := (i64_w _).symm.trans hji16_
 have hji16x : f ≤ 64 → (wrap64 (1 * 2 ^ f.toNat)) = ji16 := fun h_ => (i64_w _).symm.trans (hji16z h_)
 have A1 := Aside0.mk H
 clear H
 go_enter Try.func145, Try.ntmps145
 go_wp2_with fail
 go_quiet (first | (go_at_call 122; (with_reducible refine (impl_HasSet.calls k _ _ l0_1 (Go.bits .or .i64 (Go.bits .andNot .i64 a ji14) ji16) b _ ?side1 ?side2 A1.out).mono ?_); (case side1 => repeat (first | exact HR.out | (with_reducible refine Kd.C_alloc ?_ _) | (with_reducible refine Kd.C_drewN ?_ _) | (with_reducible refine Kd.C_drew ?_))); (case side2 => exact HC.out); rintro e w' ⟨rfl, ⟨nd, rfl⟩⟩; (first | exact ⟨rfl, _, World.drewN_drewN _ _ _⟩ | exact ⟨rfl, _, Eq.trans (World.drewN_drewN _ _ _) (congrArg (World.drewN _) (Nat.add_assoc _ _ _))⟩)))
 go_wp2
 go_ret
 exact ⟨rfl, by first | exact pw_below_drewN (Below.refl _ _) _ | exact Below.refl _ _⟩
theorem impl_FirstFailure_1.fun1 (k : Nat) (a0_0 : Int) (A0_1 : Option Addr) (c0_1 : Nat) (l0_1 : List Int) (a e : Int) (gb1 gb5 gb9 : Nat) (w : World) (h1 : w.heap[gb1]? = some (.cells #[.int .i64 a0_0, (.slice A0_1 l0_1.length c0_1)] 35 (0, 0))) (h5 : w.heap[gb5]? = some (.cells #[.int .i64 a] 3 (0, 0))) (h9 : w.heap[gb9]? = some (.cells #[.int .i64 e] 3 (0, 0))) (hr0_1 : Kd.C (Kd.int .i64) w A0_1 l0_1.length l0_1) (hc0_1 : l0_1.length ≤ c0_1) :
  Hof.Fun1 Try.prog w (.func (.func 145) #[] #[.pointer (some ⟨gb1, 0, none⟩), .pointer (some ⟨gb5, 0, none⟩), .pointer (some ⟨gb9, 0, none⟩)]) (fun f => impl_FirstFailure_1.f k l0_1 a e f) :=
 ⟨⟨145, #[.pointer (some ⟨gb1, 0, none⟩), .pointer (some ⟨gb5, 0, none⟩), .pointer (some ⟨gb9, 0, none⟩)], Try.f145, rfl, Try.func145, by kernel_rfl, rfl, fun f b w' hw hg => impl_FirstFailure_1.calls k a0_0 A0_1 c0_1 l0_1 a e f b gb1 gb5 gb9 w' (blk_below h1 hw) (blk_below h5 hw) (blk_below h9 hw) (Kd.C_below hr0_1 hw) hc0_1 hg⟩⟩
set_option maxHeartbeats 8000000 in
set_option maxRecDepth 100000 in
theorem impl_FirstFailure.calls (k : Nat) (a0_0 : Int) (A0_1 : Option Addr) (c0_1 : Nat) (l0_1 : List Int) (r1 : Int) (r2 : Int) (r3 : Int) (r4 : Bool) (w : World) (hr0_1 : Kd.C (Kd.int .i64) w A0_1 l0_1.length l0_1) (hc0_1 : l0_1.length ≤ c0_1) (h : impl_FirstFailure.f k a0_0 l0_1 = some (r1, r2, r3, r4)) :
  Calls Try.prog 119 #[.agg #[.int .i64 a0_0, .slice A0_1 l0_1.length c0_1]] w fun e w' => e = .returned (.tuple #[.agg #[.int .i64 r1, .int .i64 r2, .int .i64 r3], .bool r4]) ∧ Below w.heap.size w w' := by
 have hu27 := Try.underlying35
 have hu93 := Try.underlying108
 have HR := Aside0.mk hr0_1
 have HC := Aside0.mk hc0_1
 have HB := Aside0.mk (Below.refl w.heap.size w)
 clear hr0_1 hc0_1
 unfold impl_FirstFailure.f at h
 obtain ⟨t, h1, h⟩ := Option.bind_eq_some_iff.mp h
 have A1 := Aside0.mk h1
 clear h1
 cases t with
 | false =>
  rw [if_neg (by decide)] at h
  simp only [Option.some.injEq, Prod.mk.injEq] at h
  obtain ⟨rfl, rfl, rfl, rfl⟩ := h
  go_enter Try.func119, Try.ntmps119
  go_wp2_with (first | ((with_reducible refine gate_dst (N := 1) rfl ?_); refine box_event ?hg (N := 1) ?hd (cs := #[.int .i64 a0_0, .slice A0_1 l0_1.length c0_1]) (t := 35) ?hr ?_; (case hd => rfl); (case hg => rfl); (case hr => first | (go_simp; done) | (go_simp; rfl)); intro gb1 hg w3 hbox hb; have GEgb1 := Aside0.mk ((by rw [hg]; exact below_size HB.out) : w.heap.size ≤ gb1); have n0_ := Aside0.mk (below_step HB.out hb); clear HB; have HB := n0_; clear n0_; have BKgb1 := Aside0.mk hbox; have hczgb1_0 : w3.cell? ⟨gb1, 0, none⟩ = some ((.int .i64 a0_0)) := (blk_cell BKgb1.out 0).trans rfl; have hfzgb1_0 := blk_frozen BKgb1.out 0; have hczgb1_1 : w3.cell? ⟨gb1, 1, none⟩ = some ((.slice A0_1 l0_1.length c0_1)) := (blk_cell BKgb1.out 1).trans rfl; have hfzgb1_1 := blk_frozen BKgb1.out 1; clear hb hbox hg) | ((with_reducible refine gate_dst (N := 2) rfl ?_); refine box_event ?hg (N := 2) ?hd (cs := #[.int .i64 0, .int .i64 0, .int .i64 0]) (t := 108) ?hr ?_; (case hd => rfl); (case hg => rfl); (case hr => first | (go_simp; done) | (go_simp; rfl)); intro gb2 hg w4 hbox hb; have GEgb2 := Aside0.mk ((by rw [hg]; exact below_size HB.out) : w.heap.size ≤ gb2); have n0_ := Aside0.mk (below_step HB.out hb); clear HB; have HB := n0_; clear n0_; have BKgb2 := Aside0.mk hbox; have m_ := Aside0.mk (blk_below BKgb1.out hb); clear BKgb1; have BKgb1 := m_; clear m_; have hczgb1_0 : w4.cell? ⟨gb1, 0, none⟩ = some ((.int .i64 a0_0)) := (blk_cell BKgb1.out 0).trans rfl; have hfzgb1_0 := blk_frozen BKgb1.out 0; have hczgb1_1 : w4.cell? ⟨gb1, 1, none⟩ = some ((.slice A0_1 l0_1.length c0_1)) := (blk_cell BKgb1.out 1).trans rfl; have hfzgb1_1 := blk_frozen BKgb1.out 1; have hczgb2_0 : w4.cell? ⟨gb2, 0, none⟩ = some (.int .i64 0) := (blk_cell BKgb2.out 0).trans rfl; have hfzgb2_0 := blk_frozen BKgb2.out 0; have hczgb2_1 : w4.cell? ⟨gb2, 1, none⟩ = some (.int .i64 0) := (blk_cell BKgb2.out 1).trans rfl; have hfzgb2_1 := blk_frozen BKgb2.out 1; have hczgb2_2 : w4.cell? ⟨gb2, 2, none⟩ = some (.int .i64 0) := (blk_cell BKgb2.out 2).trans rfl; have hfzgb2_2 := blk_frozen BKgb2.out 2; clear hb hbox hg) | ((with_reducible refine gate_callee (f := 120) rfl ?_); refine goesL_ (some 15) rfl rfl Try.func120 (by kernel_rfl) rfl #[.int .i64 a0_0, .slice A0_1 l0_1.length c0_1] rfl (by (try simp only [List.map_toArray, List.map_cons, List.map_nil]); first | done | rfl) ?_; (with_reducible refine (impl_IsFamily.calls k a0_0 _ _ l0_1 false _ ?side1 ?side2 A1.out).mono ?_); (case side1 => exact Kd.C_below HR.out HB.out); (case side2 => exact HC.out); rintro e w5 ⟨rfl, hd⟩; refine ⟨_, rfl, ?_⟩; have hb := hd.below; clear hd; have n0_ := Aside0.mk (below_step HB.out hb); clear HB; have HB := n0_; clear n0_; have m_ := Aside0.mk (blk_below BKgb1.out hb); clear BKgb1; have BKgb1 := m_; clear m_; have m_ := Aside0.mk (blk_below BKgb2.out hb); clear BKgb2; have BKgb2 := m_; clear m_; clear hb; have hczgb1_0 : w5.cell? ⟨gb1, 0, none⟩ = some ((.int .i64 a0_0)) := (blk_cell BKgb1.out 0).trans rfl; have hfzgb1_0 := blk_frozen BKgb1.out 0; have hczgb1_1 : w5.cell? ⟨gb1, 1, none⟩ = some ((.slice A0_1 l0_1.length c0_1)) := (blk_cell BKgb1.out 1).trans rfl; have hfzgb1_1 := blk_frozen BKgb1.out 1; have hczgb2_0 : w5.cell? ⟨gb2, 0, none⟩ = some (.int .i64 0) := (blk_cell BKgb2.out 0).trans rfl; have hfzgb2_0 := blk_frozen BKgb2.out 0; have hczgb2_1 : w5.cell? ⟨gb2, 1, none⟩ = some (.int .i64 0) := (blk_cell BKgb2.out 1).trans rfl; have hfzgb2_1 := blk_frozen BKgb2.out 1; have hczgb2_2 : w5.cell? ⟨gb2, 2, none⟩ = some (.int .i64 0) := (blk_cell BKgb2.out 2).trans rfl; have hfzgb2_2 := blk_frozen BKgb2.out 2))
  refine bodyPost_ret (results_ct rfl _ _ gb2 108 #[.int .i64 0, .int .i64 0, .int .i64 0] (0, 0) _ rfl (by refine blk_put (cs := #[.int .i64 0, .int .i64 0, .int .i64 0]) ?_ 2 _ rfl; refine blk_put (cs := #[.int .i64 0, .int .i64 0, .int .i64 0]) ?_ 1 _ rfl; refine blk_put (cs := #[.int .i64 0, .int .i64 0, .int .i64 0]) ?_ 0 _ rfl; exact BKgb2.out) Try.underlying108 rfl (by kernel_rfl)) rfl ?_
  exact ⟨rfl, by repeat (first | exact HB.out | refine below_set ?_ GEgb2.out)⟩
 | true =>
  rw [if_pos rfl] at h
  have H' := Aside0.mk h
  clear h
  go_enter Try.func119, Try.ntmps119
  go_wp2_with (first | ((with_reducible refine gate_dst (N := 1) rfl ?_); refine box_event ?hg (N := 1) ?hd (cs := #[.int .i64 a0_0, .slice A0_1 l0_1.length c0_1]) (t := 35) ?hr ?_; (case hd => rfl); (case hg => rfl); (case hr => first | (go_simp; done) | (go_simp; rfl)); intro gb1 hg w3 hbox hb; have GEgb1 := Aside0.mk ((by rw [hg]; exact below_size HB.out) : w.heap.size ≤ gb1); have n0_ := Aside0.mk (below_step HB.out hb); clear HB; have HB := n0_; clear n0_; have BKgb1 := Aside0.mk hbox; have hczgb1_0 : w3.cell? ⟨gb1, 0, none⟩ = some ((.int .i64 a0_0)) := (blk_cell BKgb1.out 0).trans rfl; have hfzgb1_0 := blk_frozen BKgb1.out 0; have hczgb1_1 : w3.cell? ⟨gb1, 1, none⟩ = some ((.slice A0_1 l0_1.length c0_1)) := (blk_cell BKgb1.out 1).trans rfl; have hfzgb1_1 := blk_frozen BKgb1.out 1; clear hb hbox hg) | ((with_reducible refine gate_dst (N := 2) rfl ?_); refine box_event ?hg (N := 2) ?hd (cs := #[.int .i64 0, .int .i64 0, .int .i64 0]) (t := 108) ?hr ?_; (case hd => rfl); (case hg => rfl); (case hr => first | (go_simp; done) | (go_simp; rfl)); intro gb2 hg w4 hbox hb; have GEgb2 := Aside0.mk ((by rw [hg]; exact below_size HB.out) : w.heap.size ≤ gb2); have n0_ := Aside0.mk (below_step HB.out hb); clear HB; have HB := n0_; clear n0_; have BKgb2 := Aside0.mk hbox; have m_ := Aside0.mk (blk_below BKgb1.out hb); clear BKgb1; have BKgb1 := m_; clear m_; have hczgb1_0 : w4.cell? ⟨gb1, 0, none⟩ = some ((.int .i64 a0_0)) := (blk_cell BKgb1.out 0).trans rfl; have hfzgb1_0 := blk_frozen BKgb1.out 0; have hczgb1_1 : w4.cell? ⟨gb1, 1, none⟩ = some ((.slice A0_1 l0_1.length c0_1)) := (blk_cell BKgb1.out 1).trans rfl; have hfzgb1_1 := blk_frozen BKgb1.out 1; have hczgb2_0 : w4.cell? ⟨gb2, 0, none⟩ = some (.int .i64 0) := (blk_cell BKgb2.out 0).trans rfl; have hfzgb2_0 := blk_frozen BKgb2.out 0; have hczgb2_1 : w4.cell? ⟨gb2, 1, none⟩ = some (.int .i64 0) := (blk_cell BKgb2.out 1).trans rfl; have hfzgb2_1 := blk_frozen BKgb2.out 1; have hczgb2_2 : w4.cell? ⟨gb2, 2, none⟩ = some (.int .i64 0) := (blk_cell BKgb2.out 2).trans rfl; have hfzgb2_2 := blk_frozen BKgb2.out 2; clear hb hbox hg) | ((with_reducible refine gate_callee (f := 120) rfl ?_); refine goesL_ (some 15) rfl rfl Try.func120 (by kernel_rfl) rfl #[.int .i64 a0_0, .slice A0_1 l0_1.length c0_1] rfl (by (try simp only [List.map_toArray, List.map_cons, List.map_nil]); first | done | rfl) ?_; (with_reducible refine (impl_IsFamily.calls k a0_0 _ _ l0_1 true _ ?side1 ?side2 A1.out).mono ?_); (case side1 => exact Kd.C_below HR.out HB.out); (case side2 => exact HC.out); rintro e w5 ⟨rfl, hd⟩; refine ⟨_, rfl, ?_⟩; have hb := hd.below; clear hd; have n0_ := Aside0.mk (below_step HB.out hb); clear HB; have HB := n0_; clear n0_; have m_ := Aside0.mk (blk_below BKgb1.out hb); clear BKgb1; have BKgb1 := m_; clear m_; have m_ := Aside0.mk (blk_below BKgb2.out hb); clear BKgb2; have BKgb2 := m_; clear m_; clear hb; have hczgb1_0 : w5.cell? ⟨gb1, 0, none⟩ = some ((.int .i64 a0_0)) := (blk_cell BKgb1.out 0).trans rfl; have hfzgb1_0 := blk_frozen BKgb1.out 0; have hczgb1_1 : w5.cell? ⟨gb1, 1, none⟩ = some ((.slice A0_1 l0_1.length c0_1)) := (blk_cell BKgb1.out 1).trans rfl; have hfzgb1_1 := blk_frozen BKgb1.out 1; have hczgb2_0 : w5.cell? ⟨gb2, 0, none⟩ = some (.int .i64 0) := (blk_cell BKgb2.out 0).trans rfl; have hfzgb2_0 := blk_frozen BKgb2.out 0; have hczgb2_1 : w5.cell? ⟨gb2, 1, none⟩ = some (.int .i64 0) := (blk_cell BKgb2.out 1).trans rfl; have hfzgb2_1 := blk_frozen BKgb2.out 1; have hczgb2_2 : w5.cell? ⟨gb2, 2, none⟩ = some (.int .i64 0) := (blk_cell BKgb2.out 2).trans rfl; have hfzgb2_2 := blk_frozen BKgb2.out 2))
  clear hczgb1_0 hczgb1_1 hfzgb1_0 hfzgb1_1 hczgb2_0 hczgb2_1 hczgb2_2 hfzgb2_0 hfzgb2_1 hfzgb2_2
  go_loopg [21] k (fun kq v21 w' => ∃ (x1 : Int), v21 = .int .i64 x1 ∧ Aside0 (impl_FirstFailure.l0 kq a0_0 l0_1 x1 = some (r1, r2, r3, r4)) ∧ Aside0 (kq ≤ k) ∧ Aside0 (w'.heap[gb1]? = some (.cells #[.int .i64 a0_0, (.slice A0_1 l0_1.length c0_1)] 35 (0, 0))) ∧ Aside0 (w'.heap[gb2]? = some (.cells #[.int .i64 0, .int .i64 0, .int .i64 0] 108 (0, 0))) ∧ Aside0 (Below w.heap.size w w'))
  case atStart => exact ⟨0, rfl, H', ⟨Nat.le_refl _⟩, BKgb1, BKgb2, HB⟩
  case round =>
   clear H' BKgb1 BKgb2 HB
   obtain ⟨x1, rfl, HA, HK1, BKgb1, BKgb2, HB⟩ := hrel
   cases gk with
   | zero => exact absurd HA.out (by simp [impl_FirstFailure.l0])
   | succ k1 =>
    have H := HA.out
    clear HA
    simp only [impl_FirstFailure.l0] at H
    by_cases c3 : x1 < (l0_1.length : Int)
    case neg =>
     rw [if_neg c3] at H
     have c3b0 : decide (x1 < (l0_1.length : Int)) = false := decide_eq_false c3
     clear c3
     simp only [Option.some.injEq, Prod.mk.injEq] at H
     obtain ⟨rfl, rfl, rfl, rfl⟩ := H
     have hczgb2_0 : wr.cell? ⟨gb2, 0, none⟩ = some (.int .i64 0) := (blk_cell BKgb2.out 0).trans rfl
     have hfzgb2_0 := blk_frozen BKgb2.out 0
     have hczgb2_1 : wr.cell? ⟨gb2, 1, none⟩ = some (.int .i64 0) := (blk_cell BKgb2.out 1).trans rfl
     have hfzgb2_1 := blk_frozen BKgb2.out 1
     have hczgb2_2 : wr.cell? ⟨gb2, 2, none⟩ = some (.int .i64 0) := (blk_cell BKgb2.out 2).trans rfl
     have hfzgb2_2 := blk_frozen BKgb2.out 2
     go_wp2
     refine bodyPost_ret (results_ct rfl _ _ gb2 108 #[.int .i64 0, .int .i64 0, .int .i64 0] (0, 0) _ rfl (by refine blk_put (cs := #[.int .i64 0, .int .i64 0, .int .i64 0]) ?_ 2 _ rfl; refine blk_put (cs := #[.int .i64 0, .int .i64 0, .int .i64 0]) ?_ 1 _ rfl; refine blk_put (cs := #[.int .i64 0, .int .i64 0, .int .i64 0]) ?_ 0 _ rfl; exact BKgb2.out) Try.underlying108 rfl (by kernel_rfl)) rfl ?_
     exact ⟨rfl, by repeat (first | exact HB.out | refine below_set ?_ GEgb2.out)⟩
    rw [if_pos c3] at H
    have c3b0 : decide (x1 < (l0_1.length : Int)) = true := decide_eq_true c3
    clear c3
    by_cases c4 : 0 ≤ x1
    case neg => rw [if_neg c4] at H; exact absurd H (by simp)
    rw [if_pos c4] at H
    have c4b0 : decide (0 ≤ x1) = true := decide_eq_true c4
    clear c4
    obtain ⟨aa, haa⟩ : ∃ j_ : Int, rd l0_1 x1 = j_ := ⟨_, rfl⟩
    rw [haa] at H
    have H' := Aside0.mk H
    clear H
    have p1 : 0 ≤ (x1 : Int) := of_decide_eq_true (by assumption)
    have q1 : x1 < (l0_1.length : Int) := of_decide_eq_true (by assumption)
    obtain ⟨ad1, e1, hx1_0⟩ := Kd.at_int HR.out x1 p1 q1
    rw [haa] at hx1_0
    clear haa
    cases e1
    replace hx1_0 := (HB.out.cell (World.block_lt_of_cell? w _ hx1_0)).trans hx1_0
    replace p1 := eq_true p1
    replace q1 := eq_true q1
    have hczgb1_0 : wr.cell? ⟨gb1, 0, none⟩ = some ((.int .i64 a0_0)) := (blk_cell BKgb1.out 0).trans rfl
    have hfzgb1_0 := blk_frozen BKgb1.out 0
    have hczgb1_1 : wr.cell? ⟨gb1, 1, none⟩ = some ((.slice (some ad1) l0_1.length c0_1)) := (blk_cell BKgb1.out 1).trans rfl
    have hfzgb1_1 := blk_frozen BKgb1.out 1
    go_wp2_with (first | ((with_reducible refine gate_dst (N := 5) rfl ?_); refine box_event ?hg (N := 5) ?hd (cs := #[.int .i64 0]) (t := 3) ?hr ?_; (case hd => rfl); (case hg => rfl); (case hr => first | (go_simp; done) | (go_simp; rfl)); intro gb5 hg w7 hbox hb; have GEgb5 := Aside0.mk ((by rw [hg]; exact below_size HB.out) : w.heap.size ≤ gb5); have HG5 := Aside0.mk hg; have HN5 := Aside0.mk hb; have BKgb5 := Aside0.mk hbox; clear hb hg hbox; have hczgb5_0 : w7.cell? ⟨gb5, 0, none⟩ = some (.int .i64 0) := (blk_cell BKgb5.out 0).trans rfl; have hfzgb5_0 := blk_frozen BKgb5.out 0) | ((with_reducible refine gate_store (t := 3) (p := 5) rfl ?_); refine store_event (t := 3) (p := 5) (v := ?vo1) (w1 := (w7.setCell ⟨gb5, 0, none⟩ (.int .i64 aa))) ?hg ?ho ?hn ?hr ?_; (case ho => rfl); (case hg => rfl); (case hn => rfl); (case hr => first | (go_simp; done) | (go_simp; rfl)); intro w8 hw; have hb : Below wr.heap.size wr w8 := (by rw [hw]; exact below_set HN5.out (Nat.le_of_eq HG5.out.symm)); have m5 : Aside0 (w8.heap[gb5]? = some (.cells #[.int .i64 aa] 3 (0, 0))) := ⟨by rw [hw]; exact blk_put BKgb5.out 0 _ rfl⟩; clear BKgb5 hw hczgb5_0 hfzgb5_0; have BKgb5 := m5; clear m5; have n0_ := Aside0.mk (below_step HB.out hb); clear HB; have HB := n0_; clear n0_; have m_ := Aside0.mk (blk_below BKgb1.out hb); clear BKgb1; have BKgb1 := m_; clear m_; have m_ := Aside0.mk (blk_below BKgb2.out hb); clear BKgb2; have BKgb2 := m_; clear m_; clear hb HN5 HG5; have hczgb1_0 : w8.cell? ⟨gb1, 0, none⟩ = some ((.int .i64 a0_0)) := (blk_cell BKgb1.out 0).trans rfl; have hfzgb1_0 := blk_frozen BKgb1.out 0; have hczgb1_1 : w8.cell? ⟨gb1, 1, none⟩ = some ((.slice (some ad1) l0_1.length c0_1)) := (blk_cell BKgb1.out 1).trans rfl; have hfzgb1_1 := blk_frozen BKgb1.out 1))
    clear p1 q1 c3b0 c4b0 hx1_0 hczgb1_0 hczgb1_1 hfzgb1_0 hfzgb1_1
    go_loopg [28] k1 (fun kq v28 w' => ∃ (x2 : Int), v28 = .int .i64 x2 ∧ Aside0 (impl_FirstFailure.l1 kq a0_0 l0_1 x1 aa x2 = some (r1, r2, r3, r4)) ∧ Aside0 (kq ≤ k1) ∧ Aside0 (w'.heap[gb1]? = some (.cells #[.int .i64 a0_0, (.slice (some ad1) l0_1.length c0_1)] 35 (0, 0))) ∧ Aside0 (w'.heap[gb2]? = some (.cells #[.int .i64 0, .int .i64 0, .int .i64 0] 108 (0, 0))) ∧ Aside0 (w'.heap[gb5]? = some (.cells #[.int .i64 aa] 3 (0, 0))) ∧ Aside0 (Below w.heap.size w w'))
    case atStart => exact ⟨0, rfl, H', ⟨Nat.le_refl _⟩, BKgb1, BKgb2, BKgb5, HB⟩
    case round =>
     clear H' BKgb1 BKgb2 BKgb5 HB
     obtain ⟨x2, rfl, HA, HK2, BKgb1, BKgb2, BKgb5, HB⟩ := hrel
     cases gk with
     | zero => exact absurd HA.out (by simp [impl_FirstFailure.l1])
     | succ k2 =>
      have H := HA.out
      clear HA
      simp only [impl_FirstFailure.l1] at H
      by_cases c5 : x2 < (l0_1.length : Int)
      case neg =>
       rw [if_neg c5] at H
       have c5b0 : decide (x2 < (l0_1.length : Int)) = false := decide_eq_false c5
       clear c5
       have H' := Aside0.mk H
       clear H
       go_wp2
       go_roundg k2
       case measure => have := HK1.out; have := HK2.out; omega
       case rel => exact ⟨(wrap64 (x1 + 1)), rfl, H', ⟨by have := HK1.out; have := HK2.out; omega⟩, BKgb1, BKgb2, HB⟩
      rw [if_pos c5] at H
      have c5b0 : decide (x2 < (l0_1.length : Int)) = true := decide_eq_true c5
      clear c5
      by_cases c6 : 0 ≤ x2
      case neg => rw [if_neg c6] at H; exact absurd H (by simp)
      rw [if_pos c6] at H
      have c6b0 : decide (0 ≤ x2) = true := decide_eq_true c6
      clear c6
      obtain ⟨bb, hbb⟩ : ∃ j_ : Int, rd l0_1 x2 = j_ := ⟨_, rfl⟩
      rw [hbb] at H
      obtain ⟨es, A20, H⟩ := Option.bind_eq_some_iff.mp H
      have A2 := Aside0.mk A20
      clear A20
      have H' := Aside0.mk H
      clear H
      have p2 : 0 ≤ (x2 : Int) := of_decide_eq_true (by assumption)
      have q2 : x2 < (l0_1.length : Int) := of_decide_eq_true (by assumption)
      obtain ⟨ad2, e2, hx2_0⟩ := Kd.at_int HR.out x2 p2 q2
      obtain rfl : ad1 = ad2 := (by injection e2)
      clear e2
      rw [hbb] at hx2_0
      clear hbb
      replace hx2_0 := (HB.out.cell (World.block_lt_of_cell? w _ hx2_0)).trans hx2_0
      replace p2 := eq_true p2
      replace q2 := eq_true q2
      have hczgb1_0 : wr.cell? ⟨gb1, 0, none⟩ = some ((.int .i64 a0_0)) := (blk_cell BKgb1.out 0).trans rfl
      have hfzgb1_0 := blk_frozen BKgb1.out 0
      have hczgb1_1 : wr.cell? ⟨gb1, 1, none⟩ = some ((.slice (some ad1) l0_1.length c0_1)) := (blk_cell BKgb1.out 1).trans rfl
      have hfzgb1_1 := blk_frozen BKgb1.out 1
      have hczgb5_0 : wr.cell? ⟨gb5, 0, none⟩ = some (.int .i64 aa) := (blk_cell BKgb5.out 0).trans rfl
      have hfzgb5_0 := blk_frozen BKgb5.out 0
      go_wp2_with (first | ((with_reducible refine gate_callee (f := 62) rfl ?_); refine goesL_ (some 35) rfl rfl Try.func62 (by kernel_rfl) rfl #[.int .i64 (Go.bits .andNot .i64 aa bb)] rfl (by (try simp only [List.map_toArray, List.map_cons, List.map_nil]); first | done | rfl) ?_; (with_reducible refine (impl_ElementsOf.calls k2 (Go.bits .andNot .i64 aa bb) es _ A2.out).mono ?_); rintro e w9 ⟨v1, rfl, ho, hb⟩; refine ⟨_, rfl, ?_⟩; have HOes := Aside0.mk (Kd.R_lower ho (below_size HB.out)); have n0_ := Aside0.mk (below_step HB.out hb); clear HB; have HB := n0_; clear n0_ ho; have m_ := Aside0.mk (blk_below BKgb1.out hb); clear BKgb1; have BKgb1 := m_; clear m_; have m_ := Aside0.mk (blk_below BKgb2.out hb); clear BKgb2; have BKgb2 := m_; clear m_; have m_ := Aside0.mk (blk_below BKgb5.out hb); clear BKgb5; have BKgb5 := m_; clear m_; clear hb hczgb1_0 hczgb1_1 hfzgb1_0 hfzgb1_1 hczgb5_0 hfzgb5_0 hx2_0; obtain ⟨Ae, ce, eo⟩ := Kd.R_slice HOes.out; subst eo))
      clear p2 q2 c5b0 c6b0
      go_loopg [37] k2 (fun kq v37 w' => ∃ (x3 : Int), v37 = .int .i64 x3 ∧ Aside0 (impl_FirstFailure.l2 kq a0_0 l0_1 x1 aa x2 bb es x3 = some (r1, r2, r3, r4)) ∧ Aside0 (kq ≤ k2) ∧ Aside0 (w'.heap[gb1]? = some (.cells #[.int .i64 a0_0, (.slice (some ad1) l0_1.length c0_1)] 35 (0, 0))) ∧ Aside0 (w'.heap[gb2]? = some (.cells #[.int .i64 0, .int .i64 0, .int .i64 0] 108 (0, 0))) ∧ Aside0 (w'.heap[gb5]? = some (.cells #[.int .i64 aa] 3 (0, 0))) ∧ Aside0 (Kd.R (Kd.int .i64) 3 w' w.heap.size (fun _ => True) (.slice Ae es.length ce) es) ∧ Aside0 (Below w.heap.size w w'))
      case atStart => exact ⟨0, rfl, H', ⟨Nat.le_refl _⟩, BKgb1, BKgb2, BKgb5, HOes, HB⟩
      case round =>
       clear H' BKgb1 BKgb2 BKgb5 HOes HB
       obtain ⟨x3, rfl, HA, HK3, BKgb1, BKgb2, BKgb5, HOes, HB⟩ := hrel
       cases gk with
       | zero => exact absurd HA.out (by simp [impl_FirstFailure.l2])
       | succ k3 =>
        have H := HA.out
        clear HA
        simp only [impl_FirstFailure.l2] at H
        by_cases c7 : x3 < (es.length : Int)
        case neg =>
         rw [if_neg c7] at H
         have c7b0 : decide (x3 < (es.length : Int)) = false := decide_eq_false c7
         clear c7
         have H' := Aside0.mk H
         clear H
         go_wp2
         go_roundg k3
         case measure => have := HK1.out; have := HK2.out; have := HK3.out; omega
         case rel => exact ⟨(wrap64 (x2 + 1)), rfl, H', ⟨by have := HK1.out; have := HK2.out; have := HK3.out; omega⟩, BKgb1, BKgb2, BKgb5, HB⟩
        rw [if_pos c7] at H
        have c7b0 : decide (x3 < (es.length : Int)) = true := decide_eq_true c7
        clear c7
        by_cases c8 : 0 ≤ x3
        case neg => rw [if_neg c8] at H; exact absurd H (by simp)
        rw [if_pos c8] at H
        have c8b0 : decide (0 ≤ x3) = true := decide_eq_true c8
        clear c8
        obtain ⟨ee, hee⟩ : ∃ j_ : Int, rd es x3 = j_ := ⟨_, rfl⟩
        rw [hee] at H
        obtain ⟨fs, A30, H⟩ := Option.bind_eq_some_iff.mp H
        have A3 := Aside0.mk A30
        clear A30
        obtain ⟨t, A40, H⟩ := Option.bind_eq_some_iff.mp H
        have A4 := Aside0.mk A40
        clear A40
        have p3 : 0 ≤ (x3 : Int) := of_decide_eq_true (by assumption)
        have q3 : x3 < (es.length : Int) := of_decide_eq_true (by assumption)
        obtain ⟨ad3, e3, hx3_0⟩ := Kd.at_int (Kd.R_reads' HOes.out).2.2 x3 p3 q3
        rw [hee] at hx3_0
        clear hee
        cases e3
        replace p3 := eq_true p3
        replace q3 := eq_true q3
        cases t with
        | true =>
         rw [if_pos rfl] at H
         have H' := Aside0.mk H
         clear H
         have hczgb5_0 : wr.cell? ⟨gb5, 0, none⟩ = some (.int .i64 aa) := (blk_cell BKgb5.out 0).trans rfl
         have hfzgb5_0 := blk_frozen BKgb5.out 0
         have hczgb1_0 : wr.cell? ⟨gb1, 0, none⟩ = some ((.int .i64 a0_0)) := (blk_cell BKgb1.out 0).trans rfl
         have hfzgb1_0 := blk_frozen BKgb1.out 0
         have hczgb1_1 : wr.cell? ⟨gb1, 1, none⟩ = some ((.slice (some ad1) l0_1.length c0_1)) := (blk_cell BKgb1.out 1).trans rfl
         have hfzgb1_1 := blk_frozen BKgb1.out 1
         have hczgb2_0 : wr.cell? ⟨gb2, 0, none⟩ = some (.int .i64 0) := (blk_cell BKgb2.out 0).trans rfl
         have hfzgb2_0 := blk_frozen BKgb2.out 0
         have hczgb2_1 : wr.cell? ⟨gb2, 1, none⟩ = some (.int .i64 0) := (blk_cell BKgb2.out 1).trans rfl
         have hfzgb2_1 := blk_frozen BKgb2.out 1
         have hczgb2_2 : wr.cell? ⟨gb2, 2, none⟩ = some (.int .i64 0) := (blk_cell BKgb2.out 2).trans rfl
         have hfzgb2_2 := blk_frozen BKgb2.out 2
         go_wp2_with (first | ((with_reducible refine gate_dst (N := 9) rfl ?_); refine box_event ?hg (N := 9) ?hd (cs := #[.int .i64 0]) (t := 3) ?hr ?_; (case hd => rfl); (case hg => rfl); (case hr => first | (go_simp; done) | (go_simp; rfl)); intro gb9 hg w11 hbox hb; have GEgb9 := Aside0.mk ((by rw [hg]; exact below_size HB.out) : w.heap.size ≤ gb9); have HG9 := Aside0.mk hg; have HN9 := Aside0.mk hb; have BKgb9 := Aside0.mk hbox; clear hb hg hbox; have hczgb9_0 : w11.cell? ⟨gb9, 0, none⟩ = some (.int .i64 0) := (blk_cell BKgb9.out 0).trans rfl; have hfzgb9_0 := blk_frozen BKgb9.out 0) | ((with_reducible refine gate_store (t := 3) (p := 9) rfl ?_); refine store_event (t := 3) (p := 9) (v := ?vo2) (w1 := (w11.setCell ⟨gb9, 0, none⟩ (.int .i64 ee))) ?hg ?ho ?hn ?hr ?_; (case ho => rfl); (case hg => rfl); (case hn => rfl); (case hr => first | (go_simp; done) | (go_simp; rfl)); intro w12 hw; have hb : Below wr.heap.size wr w12 := (by rw [hw]; exact below_set HN9.out (Nat.le_of_eq HG9.out.symm)); have m5 : Aside0 (w12.heap[gb9]? = some (.cells #[.int .i64 ee] 3 (0, 0))) := ⟨by rw [hw]; exact blk_put BKgb9.out 0 _ rfl⟩; clear BKgb9 hw hczgb9_0 hfzgb9_0; have BKgb9 := m5; clear m5; have n0_ := Aside0.mk (below_step HB.out hb); clear HB; have HB := n0_; clear n0_; have m_ := Aside0.mk (Kd.R_below HOes.out hb); clear HOes; have HOes := m_; clear m_; have m_ := Aside0.mk (blk_below BKgb1.out hb); clear BKgb1; have BKgb1 := m_; clear m_; have m_ := Aside0.mk (blk_below BKgb2.out hb); clear BKgb2; have BKgb2 := m_; clear m_; have m_ := Aside0.mk (blk_below BKgb5.out hb); clear BKgb5; have BKgb5 := m_; clear m_; clear hb HN9 HG9; have hczgb1_0 : w12.cell? ⟨gb1, 0, none⟩ = some ((.int .i64 a0_0)) := (blk_cell BKgb1.out 0).trans rfl; have hfzgb1_0 := blk_frozen BKgb1.out 0; have hczgb1_1 : w12.cell? ⟨gb1, 1, none⟩ = some ((.slice (some ad1) l0_1.length c0_1)) := (blk_cell BKgb1.out 1).trans rfl; have hfzgb1_1 := blk_frozen BKgb1.out 1; have hczgb2_0 : w12.cell? ⟨gb2, 0, none⟩ = some (.int .i64 0) := (blk_cell BKgb2.out 0).trans rfl; have hfzgb2_0 := blk_frozen BKgb2.out 0; have hczgb2_1 : w12.cell? ⟨gb2, 1, none⟩ = some (.int .i64 0) := (blk_cell BKgb2.out 1).trans rfl; have hfzgb2_1 := blk_frozen BKgb2.out 1; have hczgb2_2 : w12.cell? ⟨gb2, 2, none⟩ = some (.int .i64 0) := (blk_cell BKgb2.out 2).trans rfl; have hfzgb2_2 := blk_frozen BKgb2.out 2; have hczgb5_0 : w12.cell? ⟨gb5, 0, none⟩ = some (.int .i64 aa) := (blk_cell BKgb5.out 0).trans rfl; have hfzgb5_0 := blk_frozen BKgb5.out 0; have hczgb9_0 : w12.cell? ⟨gb9, 0, none⟩ = some (.int .i64 ee) := (blk_cell BKgb9.out 0).trans rfl; have hfzgb9_0 := blk_frozen BKgb9.out 0) | ((with_reducible refine gate_callee (f := 62) rfl ?_); refine goesL_ (some 44) rfl rfl Try.func62 (by kernel_rfl) rfl #[.int .i64 (Go.bits .andNot .i64 bb aa)] rfl (by (try simp only [List.map_toArray, List.map_cons, List.map_nil]); first | done | rfl) ?_; (with_reducible refine (impl_ElementsOf.calls k3 (Go.bits .andNot .i64 bb aa) fs _ A3.out).mono ?_); rintro e w13 ⟨v1, rfl, ho, hb⟩; refine ⟨_, rfl, ?_⟩; obtain ⟨Af, cf, ef⟩ := Kd.R_slice ho; subst ef; have HOfs0 := Aside0.mk (Kd.R_reads' ho).2.2; clear ho; have n0_ := Aside0.mk (below_step HB.out hb); clear HB; have HB := n0_; clear n0_; have m_ := Aside0.mk (Kd.R_below HOes.out hb); clear HOes; have HOes := m_; clear m_; have m_ := Aside0.mk (blk_below BKgb1.out hb); clear BKgb1; have BKgb1 := m_; clear m_; have m_ := Aside0.mk (blk_below BKgb2.out hb); clear BKgb2; have BKgb2 := m_; clear m_; have m_ := Aside0.mk (blk_below BKgb5.out hb); clear BKgb5; have BKgb5 := m_; clear m_; have m_ := Aside0.mk (blk_below BKgb9.out hb); clear BKgb9; have BKgb9 := m_; clear m_; have HOfs := HOfs0; clear HOfs0; clear hb hczgb1_0 hczgb1_1 hfzgb1_0 hfzgb1_1 hczgb5_0 hfzgb5_0 hczgb2_0 hczgb2_1 hczgb2_2 hfzgb2_0 hfzgb2_1 hfzgb2_2 hczgb9_0 hfzgb9_0; have hczgb1_0 : w13.cell? ⟨gb1, 0, none⟩ = some ((.int .i64 a0_0)) := (blk_cell BKgb1.out 0).trans rfl; have hfzgb1_0 := blk_frozen BKgb1.out 0; have hczgb1_1 : w13.cell? ⟨gb1, 1, none⟩ = some ((.slice (some ad1) l0_1.length c0_1)) := (blk_cell BKgb1.out 1).trans rfl; have hfzgb1_1 := blk_frozen BKgb1.out 1; have hczgb2_0 : w13.cell? ⟨gb2, 0, none⟩ = some (.int .i64 0) := (blk_cell BKgb2.out 0).trans rfl; have hfzgb2_0 := blk_frozen BKgb2.out 0; have hczgb2_1 : w13.cell? ⟨gb2, 1, none⟩ = some (.int .i64 0) := (blk_cell BKgb2.out 1).trans rfl; have hfzgb2_1 := blk_frozen BKgb2.out 1; have hczgb2_2 : w13.cell? ⟨gb2, 2, none⟩ = some (.int .i64 0) := (blk_cell BKgb2.out 2).trans rfl; have hfzgb2_2 := blk_frozen BKgb2.out 2; have hczgb5_0 : w13.cell? ⟨gb5, 0, none⟩ = some (.int .i64 aa) := (blk_cell BKgb5.out 0).trans rfl; have hfzgb5_0 := blk_frozen BKgb5.out 0; have hczgb9_0 : w13.cell? ⟨gb9, 0, none⟩ = some (.int .i64 ee) := (blk_cell BKgb9.out 0).trans rfl; have hfzgb9_0 := blk_frozen BKgb9.out 0) | ((with_reducible refine gate_callee (f := 132) rfl ?_); refine goesL_ (some 46) rfl rfl Try.func132 (by kernel_rfl) rfl #[.slice Af fs.length cf, .func (.func 145) #[] #[.pointer (some ⟨gb1, 0, none⟩), .pointer (some ⟨gb5, 0, none⟩), .pointer (some ⟨gb9, 0, none⟩)]] rfl (by (try simp only [List.map_toArray, List.map_cons, List.map_nil]); first | done | rfl) ?_; (with_reducible refine (slices_ContainsFunc_int_int.calls k3 _ _ fs _ (fun f => impl_FirstFailure_1.f k3 l0_1 aa ee f) true _ HOfs.out (impl_FirstFailure_1.fun1 k3 a0_0 (some ad1) c0_1 l0_1 aa ee gb1 gb5 gb9 _ BKgb1.out BKgb5.out BKgb9.out (Kd.C_below HR.out HB.out) HC.out) A4.out).mono ?_); rintro e w14 ⟨rfl, hb⟩; refine ⟨_, rfl, ?_⟩; have n0_ := Aside0.mk (below_step HB.out hb); clear HB; have HB := n0_; clear n0_; have m_ := Aside0.mk (Kd.R_below HOes.out hb); clear HOes; have HOes := m_; clear m_; have m_ := Aside0.mk (blk_below BKgb1.out hb); clear BKgb1; have BKgb1 := m_; clear m_; have m_ := Aside0.mk (blk_below BKgb2.out hb); clear BKgb2; have BKgb2 := m_; clear m_; have m_ := Aside0.mk (blk_below BKgb5.out hb); clear BKgb5; have BKgb5 := m_; clear m_; have m_ := Aside0.mk (blk_below BKgb9.out hb); clear BKgb9; have BKgb9 := m_; clear m_; clear hb hczgb1_0 hczgb1_1 hfzgb1_0 hfzgb1_1 hczgb5_0 hfzgb5_0 hczgb2_0 hczgb2_1 hczgb2_2 hfzgb2_0 hfzgb2_1 hfzgb2_2 hczgb9_0 hfzgb9_0; have hczgb2_0 : w14.cell? ⟨gb2, 0, none⟩ = some (.int .i64 0) := (blk_cell BKgb2.out 0).trans rfl; have hfzgb2_0 := blk_frozen BKgb2.out 0; have hczgb2_1 : w14.cell? ⟨gb2, 1, none⟩ = some (.int .i64 0) := (blk_cell BKgb2.out 1).trans rfl; have hfzgb2_1 := blk_frozen BKgb2.out 1; have hczgb2_2 : w14.cell? ⟨gb2, 2, none⟩ = some (.int .i64 0) := (blk_cell BKgb2.out 2).trans rfl; have hfzgb2_2 := blk_frozen BKgb2.out 2; have hczgb5_0 : w14.cell? ⟨gb5, 0, none⟩ = some (.int .i64 aa) := (blk_cell BKgb5.out 0).trans rfl; have hfzgb5_0 := blk_frozen BKgb5.out 0; have hczgb9_0 : w14.cell? ⟨gb9, 0, none⟩ = some (.int .i64 ee) := (blk_cell BKgb9.out 0).trans rfl; have hfzgb9_0 := blk_frozen BKgb9.out 0))
         go_roundg k3
         case measure => have := HK1.out; have := HK2.out; have := HK3.out; omega
         case rel => exact ⟨(wrap64 (x3 + 1)), rfl, H', ⟨by have := HK1.out; have := HK2.out; have := HK3.out; omega⟩, BKgb1, BKgb2, BKgb5, HOes, HB⟩
        | false =>
         rw [if_neg (by decide)] at H
         simp only [Option.some.injEq, Prod.mk.injEq] at H
         obtain ⟨rfl, rfl, rfl, rfl⟩ := H
         have hczgb5_0 : wr.cell? ⟨gb5, 0, none⟩ = some (.int .i64 aa) := (blk_cell BKgb5.out 0).trans rfl
         have hfzgb5_0 := blk_frozen BKgb5.out 0
         have hczgb1_0 : wr.cell? ⟨gb1, 0, none⟩ = some ((.int .i64 a0_0)) := (blk_cell BKgb1.out 0).trans rfl
         have hfzgb1_0 := blk_frozen BKgb1.out 0
         have hczgb1_1 : wr.cell? ⟨gb1, 1, none⟩ = some ((.slice (some ad1) l0_1.length c0_1)) := (blk_cell BKgb1.out 1).trans rfl
         have hfzgb1_1 := blk_frozen BKgb1.out 1
         have hczgb2_0 : wr.cell? ⟨gb2, 0, none⟩ = some (.int .i64 0) := (blk_cell BKgb2.out 0).trans rfl
         have hfzgb2_0 := blk_frozen BKgb2.out 0
         have hczgb2_1 : wr.cell? ⟨gb2, 1, none⟩ = some (.int .i64 0) := (blk_cell BKgb2.out 1).trans rfl
         have hfzgb2_1 := blk_frozen BKgb2.out 1
         have hczgb2_2 : wr.cell? ⟨gb2, 2, none⟩ = some (.int .i64 0) := (blk_cell BKgb2.out 2).trans rfl
         have hfzgb2_2 := blk_frozen BKgb2.out 2
         go_wp2_with (first | ((with_reducible refine gate_dst (N := 9) rfl ?_); refine box_event ?hg (N := 9) ?hd (cs := #[.int .i64 0]) (t := 3) ?hr ?_; (case hd => rfl); (case hg => rfl); (case hr => first | (go_simp; done) | (go_simp; rfl)); intro gb9 hg w11 hbox hb; have GEgb9 := Aside0.mk ((by rw [hg]; exact below_size HB.out) : w.heap.size ≤ gb9); have HG9 := Aside0.mk hg; have HN9 := Aside0.mk hb; have BKgb9 := Aside0.mk hbox; clear hb hg hbox; have hczgb9_0 : w11.cell? ⟨gb9, 0, none⟩ = some (.int .i64 0) := (blk_cell BKgb9.out 0).trans rfl; have hfzgb9_0 := blk_frozen BKgb9.out 0) | ((with_reducible refine gate_store (t := 3) (p := 9) rfl ?_); refine store_event (t := 3) (p := 9) (v := ?vo3) (w1 := (w11.setCell ⟨gb9, 0, none⟩ (.int .i64 ee))) ?hg ?ho ?hn ?hr ?_; (case ho => rfl); (case hg => rfl); (case hn => rfl); (case hr => first | (go_simp; done) | (go_simp; rfl)); intro w12 hw; have hb : Below wr.heap.size wr w12 := (by rw [hw]; exact below_set HN9.out (Nat.le_of_eq HG9.out.symm)); have m5 : Aside0 (w12.heap[gb9]? = some (.cells #[.int .i64 ee] 3 (0, 0))) := ⟨by rw [hw]; exact blk_put BKgb9.out 0 _ rfl⟩; clear BKgb9 hw hczgb9_0 hfzgb9_0; have BKgb9 := m5; clear m5; have n0_ := Aside0.mk (below_step HB.out hb); clear HB; have HB := n0_; clear n0_; have m_ := Aside0.mk (Kd.R_below HOes.out hb); clear HOes; have HOes := m_; clear m_; have m_ := Aside0.mk (blk_below BKgb1.out hb); clear BKgb1; have BKgb1 := m_; clear m_; have m_ := Aside0.mk (blk_below BKgb2.out hb); clear BKgb2; have BKgb2 := m_; clear m_; have m_ := Aside0.mk (blk_below BKgb5.out hb); clear BKgb5; have BKgb5 := m_; clear m_; clear hb HN9 HG9; have hczgb1_0 : w12.cell? ⟨gb1, 0, none⟩ = some ((.int .i64 a0_0)) := (blk_cell BKgb1.out 0).trans rfl; have hfzgb1_0 := blk_frozen BKgb1.out 0; have hczgb1_1 : w12.cell? ⟨gb1, 1, none⟩ = some ((.slice (some ad1) l0_1.length c0_1)) := (blk_cell BKgb1.out 1).trans rfl; have hfzgb1_1 := blk_frozen BKgb1.out 1; have hczgb2_0 : w12.cell? ⟨gb2, 0, none⟩ = some (.int .i64 0) := (blk_cell BKgb2.out 0).trans rfl; have hfzgb2_0 := blk_frozen BKgb2.out 0; have hczgb2_1 : w12.cell? ⟨gb2, 1, none⟩ = some (.int .i64 0) := (blk_cell BKgb2.out 1).trans rfl; have hfzgb2_1 := blk_frozen BKgb2.out 1; have hczgb2_2 : w12.cell? ⟨gb2, 2, none⟩ = some (.int .i64 0) := (blk_cell BKgb2.out 2).trans rfl; have hfzgb2_2 := blk_frozen BKgb2.out 2; have hczgb5_0 : w12.cell? ⟨gb5, 0, none⟩ = some (.int .i64 aa) := (blk_cell BKgb5.out 0).trans rfl; have hfzgb5_0 := blk_frozen BKgb5.out 0; have hczgb9_0 : w12.cell? ⟨gb9, 0, none⟩ = some (.int .i64 ee) := (blk_cell BKgb9.out 0).trans rfl; have hfzgb9_0 := blk_frozen BKgb9.out 0) | ((with_reducible refine gate_callee (f := 62) rfl ?_); refine goesL_ (some 44) rfl rfl Try.func62 (by kernel_rfl) rfl #[.int .i64 (Go.bits .andNot .i64 bb aa)] rfl (by (try simp only [List.map_toArray, List.map_cons, List.map_nil]); first | done | rfl) ?_; (with_reducible refine (impl_ElementsOf.calls k3 (Go.bits .andNot .i64 bb aa) fs _ A3.out).mono ?_); rintro e w13 ⟨v1, rfl, ho, hb⟩; refine ⟨_, rfl, ?_⟩; obtain ⟨Af, cf, ef⟩ := Kd.R_slice ho; subst ef; have HOfs0 := Aside0.mk (Kd.R_reads' ho).2.2; clear ho; have n0_ := Aside0.mk (below_step HB.out hb); clear HB; have HB := n0_; clear n0_; have m_ := Aside0.mk (Kd.R_below HOes.out hb); clear HOes; have HOes := m_; clear m_; have m_ := Aside0.mk (blk_below BKgb1.out hb); clear BKgb1; have BKgb1 := m_; clear m_; have m_ := Aside0.mk (blk_below BKgb2.out hb); clear BKgb2; have BKgb2 := m_; clear m_; have m_ := Aside0.mk (blk_below BKgb5.out hb); clear BKgb5; have BKgb5 := m_; clear m_; have m_ := Aside0.mk (blk_below BKgb9.out hb); clear BKgb9; have BKgb9 := m_; clear m_; have HOfs := HOfs0; clear HOfs0; clear hb hczgb1_0 hczgb1_1 hfzgb1_0 hfzgb1_1 hczgb5_0 hfzgb5_0 hczgb2_0 hczgb2_1 hczgb2_2 hfzgb2_0 hfzgb2_1 hfzgb2_2 hczgb9_0 hfzgb9_0; have hczgb1_0 : w13.cell? ⟨gb1, 0, none⟩ = some ((.int .i64 a0_0)) := (blk_cell BKgb1.out 0).trans rfl; have hfzgb1_0 := blk_frozen BKgb1.out 0; have hczgb1_1 : w13.cell? ⟨gb1, 1, none⟩ = some ((.slice (some ad1) l0_1.length c0_1)) := (blk_cell BKgb1.out 1).trans rfl; have hfzgb1_1 := blk_frozen BKgb1.out 1; have hczgb2_0 : w13.cell? ⟨gb2, 0, none⟩ = some (.int .i64 0) := (blk_cell BKgb2.out 0).trans rfl; have hfzgb2_0 := blk_frozen BKgb2.out 0; have hczgb2_1 : w13.cell? ⟨gb2, 1, none⟩ = some (.int .i64 0) := (blk_cell BKgb2.out 1).trans rfl; have hfzgb2_1 := blk_frozen BKgb2.out 1; have hczgb2_2 : w13.cell? ⟨gb2, 2, none⟩ = some (.int .i64 0) := (blk_cell BKgb2.out 2).trans rfl; have hfzgb2_2 := blk_frozen BKgb2.out 2; have hczgb5_0 : w13.cell? ⟨gb5, 0, none⟩ = some (.int .i64 aa) := (blk_cell BKgb5.out 0).trans rfl; have hfzgb5_0 := blk_frozen BKgb5.out 0; have hczgb9_0 : w13.cell? ⟨gb9, 0, none⟩ = some (.int .i64 ee) := (blk_cell BKgb9.out 0).trans rfl; have hfzgb9_0 := blk_frozen BKgb9.out 0) | ((with_reducible refine gate_callee (f := 132) rfl ?_); refine goesL_ (some 46) rfl rfl Try.func132 (by kernel_rfl) rfl #[.slice Af fs.length cf, .func (.func 145) #[] #[.pointer (some ⟨gb1, 0, none⟩), .pointer (some ⟨gb5, 0, none⟩), .pointer (some ⟨gb9, 0, none⟩)]] rfl (by (try simp only [List.map_toArray, List.map_cons, List.map_nil]); first | done | rfl) ?_; (with_reducible refine (slices_ContainsFunc_int_int.calls k3 _ _ fs _ (fun f => impl_FirstFailure_1.f k3 l0_1 aa ee f) false _ HOfs.out (impl_FirstFailure_1.fun1 k3 a0_0 (some ad1) c0_1 l0_1 aa ee gb1 gb5 gb9 _ BKgb1.out BKgb5.out BKgb9.out (Kd.C_below HR.out HB.out) HC.out) A4.out).mono ?_); rintro e w14 ⟨rfl, hb⟩; refine ⟨_, rfl, ?_⟩; have n0_ := Aside0.mk (below_step HB.out hb); clear HB; have HB := n0_; clear n0_; have m_ := Aside0.mk (Kd.R_below HOes.out hb); clear HOes; have HOes := m_; clear m_; have m_ := Aside0.mk (blk_below BKgb1.out hb); clear BKgb1; have BKgb1 := m_; clear m_; have m_ := Aside0.mk (blk_below BKgb2.out hb); clear BKgb2; have BKgb2 := m_; clear m_; have m_ := Aside0.mk (blk_below BKgb5.out hb); clear BKgb5; have BKgb5 := m_; clear m_; have m_ := Aside0.mk (blk_below BKgb9.out hb); clear BKgb9; have BKgb9 := m_; clear m_; clear hb hczgb1_0 hczgb1_1 hfzgb1_0 hfzgb1_1 hczgb5_0 hfzgb5_0 hczgb2_0 hczgb2_1 hczgb2_2 hfzgb2_0 hfzgb2_1 hfzgb2_2 hczgb9_0 hfzgb9_0; have hczgb2_0 : w14.cell? ⟨gb2, 0, none⟩ = some (.int .i64 0) := (blk_cell BKgb2.out 0).trans rfl; have hfzgb2_0 := blk_frozen BKgb2.out 0; have hczgb2_1 : w14.cell? ⟨gb2, 1, none⟩ = some (.int .i64 0) := (blk_cell BKgb2.out 1).trans rfl; have hfzgb2_1 := blk_frozen BKgb2.out 1; have hczgb2_2 : w14.cell? ⟨gb2, 2, none⟩ = some (.int .i64 0) := (blk_cell BKgb2.out 2).trans rfl; have hfzgb2_2 := blk_frozen BKgb2.out 2; have hczgb5_0 : w14.cell? ⟨gb5, 0, none⟩ = some (.int .i64 aa) := (blk_cell BKgb5.out 0).trans rfl; have hfzgb5_0 := blk_frozen BKgb5.out 0; have hczgb9_0 : w14.cell? ⟨gb9, 0, none⟩ = some (.int .i64 ee) := (blk_cell BKgb9.out 0).trans rfl; have hfzgb9_0 := blk_frozen BKgb9.out 0))
         refine bodyPost_ret (results_ct rfl _ _ gb2 108 #[.int .i64 aa, .int .i64 bb, .int .i64 ee] (0, 0) _ rfl (by refine blk_put (cs := #[.int .i64 aa, .int .i64 bb, .int .i64 0]) ?_ 2 _ rfl; refine blk_put (cs := #[.int .i64 aa, .int .i64 0, .int .i64 0]) ?_ 1 _ rfl; refine blk_put (cs := #[.int .i64 0, .int .i64 0, .int .i64 0]) ?_ 0 _ rfl; exact BKgb2.out) Try.underlying108 rfl (by kernel_rfl)) rfl ?_
         exact ⟨rfl, by repeat (first | exact HB.out | refine below_set ?_ GEgb2.out)⟩
end Go.Proofs.Ytmpodackojmojaa.Pr
end
section
namespace Go.Proofs.Ytmpodackojmojaa.Pr
open Go.RowKit Go.Proofs.YtmpodackojmojaaW.PrintWords Go.Proofs.YtmpodackojmojaaW.PrintLast Go.Proofs.YtmpodackojmojaaW.PrintMore
attribute [local go_sem] max2_int min2_int max_two min_two max_three min_three max_four min_four
set_option linter.unusedVariables false
set_option linter.unusedSimpArgs false
def impl_IsMatroid.f (k : Nat) (a0_0 : Int) (l0_1 : List Int) : Option (Bool) := (impl_FirstFailure.f k a0_0 l0_1).bind fun bt490 => ((impl_IsFamily.f k a0_0 l0_1).bind fun t495 => (if t495 = true then (if (l0_1.length : Int) > 0 then (some (!bt490.2.2.2)) else (some false)) else (some false)))
set_option maxHeartbeats 8000000 in
set_option maxRecDepth 100000 in
theorem impl_IsMatroid.calls (k : Nat) (a0_0 : Int) (A0_1 : Option Addr) (c0_1 : Nat) (l0_1 : List Int) (r : Bool) (w : World) (hr0_1 : Kd.C (Kd.int .i64) w A0_1 l0_1.length l0_1) (hc0_1 : l0_1.length ≤ c0_1) (h : impl_IsMatroid.f k a0_0 l0_1 = some r) :
  Calls Try.prog 81 #[.agg #[.int .i64 a0_0, .slice A0_1 l0_1.length c0_1]] w fun e w' => e = .returned (.bool r) ∧ Below w.heap.size w w' := by
 have hu35 := Try.underlying35
 have hu108 := Try.underlying108
 have HR0_1 := Aside0.mk hr0_1
 have HC0_1 := Aside0.mk hc0_1
 clear hr0_1 hc0_1
 have HB := Aside0.mk (Below.refl w.heap.size w)
 have H : ((impl_FirstFailure.f k a0_0 l0_1).bind fun bt490 => ((impl_IsFamily.f k a0_0 l0_1).bind fun t495 => (if t495 = true then (if (l0_1.length : Int) > 0 then (some (!bt490.2.2.2)) else (some false)) else (some false)))) = some r := h
 clear h
 replace H := Option.bind_eq_some_iff.mp H
 obtain ⟨⟨t490, t491, t492, t493⟩, A20, H⟩ := H
 (try dsimp only at H)
 have A2 := Aside0.mk A20
 clear A20
 replace H := Option.bind_eq_some_iff.mp H
 obtain ⟨t495, A30, H⟩ := H
 (try dsimp only at H)
 have A3 := Aside0.mk A30
 clear A30
 by_cases c4 : t495 = true
 ·subst c4
  have H1 : (if (l0_1.length : Int) > 0 then (some (!t493)) else (some false)) = some r := by rw [if_pos rfl] at H; exact H
  clear H
  have H := H1
  clear H1
  by_cases c5 : (l0_1.length : Int) > 0
  ·rw [if_pos c5] at H
   have c5b0 : decide (0 < (l0_1.length : Int)) = true := decide_eq_true c5
   have c5b1 : decide (0 < l0_1.length) = true := decide_eq_true (by omega)
   clear c5
   obtain rfl := Option.some.inj H
   go_enter Try.func81, Try.ntmps81
   go_wp2_with (first | ((with_reducible refine gate_dst (N := 1) rfl ?_); (try (refine gate_guard (by rfl) ?_; dsimp only)); refine box_event ?hg (N := 1) ?hd (cs := #[.int .i64 a0_0, .slice A0_1 l0_1.length c0_1]) (t := 35) ?hr ?_; (case hd => rfl); (case hg => rfl); (case hr => first | (go_simp; done) | (go_simp; rfl)); intro gb489 hg w6 hbox hb; have BK489 := Aside0.mk hbox; have GW489 := Aside0.mk ((by rw [hg]; exact (below_size (Hof.Lw HB.out)) : w.heap.size ≤ gb489)); have GE489 := Aside0.mk ((by rw [hg]; exact (below_size (Hof.Lw HB.out)) : w.heap.size ≤ gb489)); replace HB := Aside0.mk (below_step (Hof.Lw HB.out) hb); clear hb hbox hg; obtain ⟨hcz7_0, hcz7_1, hfz7_0, hfz7_1⟩ := Hof.blk2 BK489.out) | ((with_reducible refine gate_callee (f := 119) rfl ?_); refine goesL_ (some 7) rfl rfl Try.func119 (by kernel_rfl) rfl #[.agg #[.int .i64 a0_0, .slice A0_1 l0_1.length c0_1]] rfl (by (try simp only [List.map_toArray, List.map_cons, List.map_nil]); first | done | rfl) ?_; (with_reducible refine (impl_FirstFailure.calls k a0_0 _ _ l0_1 t490 t491 t492 t493 _ ?side1 ?side2 A2.out).mono ?_); (case side1 => exact Hof.Cw (Kd.C_below HR0_1.out HB.out)); (case side2 => exact HC0_1.out); rintro e w8 ⟨rfl, hb⟩; refine ⟨_, rfl, ?_⟩; replace BK489 := Aside0.mk (blk_below (Hof.Bw BK489.out) hb); replace HB := Aside0.mk (below_step (by repeat (first | (with_reducible first | exact HB.out | apply below_alloc | apply pw_below_drewN | apply below_drew1 | refine below_set ?_ GE489.out) | exact HB.out)) hb); (try clear hb); (try clear hb2); (try clear hk); (try clear hi)) | ((with_reducible refine gate_dst (N := 3) rfl ?_); (try (refine gate_guard (by rfl) ?_; dsimp only)); refine box_event ?hg (N := 3) ?hd (cs := #[.int .i64 0, .int .i64 0, .int .i64 0]) (t := 108) ?hr ?_; (case hd => rfl); (case hg => rfl); (case hr => first | (go_simp; done) | (go_simp; rfl)); intro gb494 hg w9 hbox hb; have BK494 := Aside0.mk hbox; have GW494 := Aside0.mk ((by rw [hg]; exact (below_size (by repeat (first | (with_reducible first | exact HB.out | apply below_alloc | apply pw_below_drewN | apply below_drew1 | refine below_set ?_ GE489.out) | exact HB.out))) : w.heap.size ≤ gb494)); have GE494 := Aside0.mk ((by rw [hg]; exact (below_size (by repeat (first | (with_reducible first | exact HB.out | apply below_alloc | apply pw_below_drewN | apply below_drew1 | refine below_set ?_ GE489.out) | exact HB.out))) : w.heap.size ≤ gb494)); replace HB := Aside0.mk (below_step (by repeat (first | (with_reducible first | exact HB.out | apply below_alloc | apply pw_below_drewN | apply below_drew1 | refine below_set ?_ GE489.out) | exact HB.out)) hb); have NB489_494 := Aside0.mk ((by rw [hg]; exact Nat.ne_of_lt (blk_lt (g := gb489) (o := .cells #[.int .i64 a0_0, .slice A0_1 l0_1.length c0_1] 35 (0, 0)) (Hof.Bw BK489.out)) : gb489 ≠ gb494)); have NB494_489 := Aside0.mk ((by rw [hg]; exact Nat.ne_of_gt (blk_lt (g := gb489) (o := .cells #[.int .i64 a0_0, .slice A0_1 l0_1.length c0_1] 35 (0, 0)) (Hof.Bw BK489.out)) : gb494 ≠ gb489)); replace BK489 := Aside0.mk (blk_below (Hof.Bw BK489.out) hb); clear hb hbox hg; have hnb10 := NB494_489.out; have hnc10 := NB489_494.out; obtain ⟨hcz11_0, hcz11_1, hcz11_2, hfz11_0, hfz11_1, hfz11_2⟩ := Hof.blk3 BK494.out; obtain ⟨hcz12_0, hcz12_1, hfz12_0, hfz12_1⟩ := Hof.blk2 BK489.out) | ((with_reducible refine gate_callee (f := 120) rfl ?_); refine goesL_ (some 14) rfl rfl Try.func120 (by kernel_rfl) rfl #[.int .i64 a0_0, .slice A0_1 l0_1.length c0_1] rfl (by (try simp only [List.map_toArray, List.map_cons, List.map_nil]); first | done | rfl) ?_; (with_reducible refine (impl_IsFamily.calls k a0_0 _ _ l0_1 true _ ?side1 ?side2 A3.out).mono ?_); (case side1 => exact Kd.C_below HR0_1.out (by repeat (first | (with_reducible first | exact HB.out | apply below_alloc | apply pw_below_drewN | apply below_drew1 | refine below_set ?_ GE489.out | refine below_set ?_ GE494.out) | exact HB.out))); (case side2 => exact HC0_1.out); rintro e w' ⟨rfl, ⟨nd, rfl⟩⟩; refine ⟨_, rfl, ?_⟩))
   go_ret
   exact ⟨by first | rfl | (simp [errW_none, errW_some] <;> rfl) | (simp [*, errW_none, errW_some] <;> rfl), by repeat (first | (with_reducible first | exact HB.out | apply below_alloc | apply pw_below_drewN | apply below_drew1 | refine below_set ?_ GE489.out | refine below_set ?_ GE494.out) | exact HB.out)⟩
  ·rw [if_neg c5] at H
   have c5b0 : decide (0 < (l0_1.length : Int)) = false := decide_eq_false c5
   have c5b1 : decide (0 < l0_1.length) = false := decide_eq_false (by omega)
   clear c5
   obtain rfl := Option.some.inj H
   go_enter Try.func81, Try.ntmps81
   go_wp2_with (first | ((with_reducible refine gate_dst (N := 1) rfl ?_); (try (refine gate_guard (by rfl) ?_; dsimp only)); refine box_event ?hg (N := 1) ?hd (cs := #[.int .i64 a0_0, .slice A0_1 l0_1.length c0_1]) (t := 35) ?hr ?_; (case hd => rfl); (case hg => rfl); (case hr => first | (go_simp; done) | (go_simp; rfl)); intro gb489 hg w13 hbox hb; have BK489 := Aside0.mk hbox; have GW489 := Aside0.mk ((by rw [hg]; exact (below_size (Hof.Lw HB.out)) : w.heap.size ≤ gb489)); have GE489 := Aside0.mk ((by rw [hg]; exact (below_size (Hof.Lw HB.out)) : w.heap.size ≤ gb489)); replace HB := Aside0.mk (below_step (Hof.Lw HB.out) hb); clear hb hbox hg; obtain ⟨hcz14_0, hcz14_1, hfz14_0, hfz14_1⟩ := Hof.blk2 BK489.out) | ((with_reducible refine gate_callee (f := 119) rfl ?_); refine goesL_ (some 7) rfl rfl Try.func119 (by kernel_rfl) rfl #[.agg #[.int .i64 a0_0, .slice A0_1 l0_1.length c0_1]] rfl (by (try simp only [List.map_toArray, List.map_cons, List.map_nil]); first | done | rfl) ?_; (with_reducible refine (impl_FirstFailure.calls k a0_0 _ _ l0_1 t490 t491 t492 t493 _ ?side1 ?side2 A2.out).mono ?_); (case side1 => exact Hof.Cw (Kd.C_below HR0_1.out HB.out)); (case side2 => exact HC0_1.out); rintro e w15 ⟨rfl, hb⟩; refine ⟨_, rfl, ?_⟩; replace BK489 := Aside0.mk (blk_below (Hof.Bw BK489.out) hb); replace HB := Aside0.mk (below_step (by repeat (first | (with_reducible first | exact HB.out | apply below_alloc | apply pw_below_drewN | apply below_drew1 | refine below_set ?_ GE489.out) | exact HB.out)) hb); (try clear hb); (try clear hb2); (try clear hk); (try clear hi)) | ((with_reducible refine gate_dst (N := 3) rfl ?_); (try (refine gate_guard (by rfl) ?_; dsimp only)); refine box_event ?hg (N := 3) ?hd (cs := #[.int .i64 0, .int .i64 0, .int .i64 0]) (t := 108) ?hr ?_; (case hd => rfl); (case hg => rfl); (case hr => first | (go_simp; done) | (go_simp; rfl)); intro gb494 hg w16 hbox hb; have BK494 := Aside0.mk hbox; have GW494 := Aside0.mk ((by rw [hg]; exact (below_size (by repeat (first | (with_reducible first | exact HB.out | apply below_alloc | apply pw_below_drewN | apply below_drew1 | refine below_set ?_ GE489.out) | exact HB.out))) : w.heap.size ≤ gb494)); have GE494 := Aside0.mk ((by rw [hg]; exact (below_size (by repeat (first | (with_reducible first | exact HB.out | apply below_alloc | apply pw_below_drewN | apply below_drew1 | refine below_set ?_ GE489.out) | exact HB.out))) : w.heap.size ≤ gb494)); replace HB := Aside0.mk (below_step (by repeat (first | (with_reducible first | exact HB.out | apply below_alloc | apply pw_below_drewN | apply below_drew1 | refine below_set ?_ GE489.out) | exact HB.out)) hb); have NB489_494 := Aside0.mk ((by rw [hg]; exact Nat.ne_of_lt (blk_lt (g := gb489) (o := .cells #[.int .i64 a0_0, .slice A0_1 l0_1.length c0_1] 35 (0, 0)) (Hof.Bw BK489.out)) : gb489 ≠ gb494)); have NB494_489 := Aside0.mk ((by rw [hg]; exact Nat.ne_of_gt (blk_lt (g := gb489) (o := .cells #[.int .i64 a0_0, .slice A0_1 l0_1.length c0_1] 35 (0, 0)) (Hof.Bw BK489.out)) : gb494 ≠ gb489)); replace BK489 := Aside0.mk (blk_below (Hof.Bw BK489.out) hb); clear hb hbox hg; have hnb17 := NB494_489.out; have hnc17 := NB489_494.out; obtain ⟨hcz18_0, hcz18_1, hcz18_2, hfz18_0, hfz18_1, hfz18_2⟩ := Hof.blk3 BK494.out; obtain ⟨hcz19_0, hcz19_1, hfz19_0, hfz19_1⟩ := Hof.blk2 BK489.out) | ((with_reducible refine gate_callee (f := 120) rfl ?_); refine goesL_ (some 14) rfl rfl Try.func120 (by kernel_rfl) rfl #[.int .i64 a0_0, .slice A0_1 l0_1.length c0_1] rfl (by (try simp only [List.map_toArray, List.map_cons, List.map_nil]); first | done | rfl) ?_; (with_reducible refine (impl_IsFamily.calls k a0_0 _ _ l0_1 true _ ?side1 ?side2 A3.out).mono ?_); (case side1 => exact Kd.C_below HR0_1.out (by repeat (first | (with_reducible first | exact HB.out | apply below_alloc | apply pw_below_drewN | apply below_drew1 | refine below_set ?_ GE489.out | refine below_set ?_ GE494.out) | exact HB.out))); (case side2 => exact HC0_1.out); rintro e w' ⟨rfl, ⟨nd, rfl⟩⟩; refine ⟨_, rfl, ?_⟩))
   go_ret
   exact ⟨by first | rfl | (simp [errW_none, errW_some] <;> rfl) | (simp [*, errW_none, errW_some] <;> rfl), by repeat (first | (with_reducible first | exact HB.out | apply below_alloc | apply pw_below_drewN | apply below_drew1 | refine below_set ?_ GE489.out | refine below_set ?_ GE494.out) | exact HB.out)⟩
 ·replace c4 := Bool.eq_false_iff.mpr c4
  subst c4
  have H1 : (some false) = some r := by rw [if_neg (show ¬ (false = true) by decide)] at H; exact H
  clear H
  have H := H1
  clear H1
  obtain rfl := Option.some.inj H
  go_enter Try.func81, Try.ntmps81
  go_wp2_with (first | ((with_reducible refine gate_dst (N := 1) rfl ?_); (try (refine gate_guard (by rfl) ?_; dsimp only)); refine box_event ?hg (N := 1) ?hd (cs := #[.int .i64 a0_0, .slice A0_1 l0_1.length c0_1]) (t := 35) ?hr ?_; (case hd => rfl); (case hg => rfl); (case hr => first | (go_simp; done) | (go_simp; rfl)); intro gb489 hg w20 hbox hb; have BK489 := Aside0.mk hbox; have GW489 := Aside0.mk ((by rw [hg]; exact (below_size (Hof.Lw HB.out)) : w.heap.size ≤ gb489)); have GE489 := Aside0.mk ((by rw [hg]; exact (below_size (Hof.Lw HB.out)) : w.heap.size ≤ gb489)); replace HB := Aside0.mk (below_step (Hof.Lw HB.out) hb); clear hb hbox hg; obtain ⟨hcz21_0, hcz21_1, hfz21_0, hfz21_1⟩ := Hof.blk2 BK489.out) | ((with_reducible refine gate_callee (f := 119) rfl ?_); refine goesL_ (some 7) rfl rfl Try.func119 (by kernel_rfl) rfl #[.agg #[.int .i64 a0_0, .slice A0_1 l0_1.length c0_1]] rfl (by (try simp only [List.map_toArray, List.map_cons, List.map_nil]); first | done | rfl) ?_; (with_reducible refine (impl_FirstFailure.calls k a0_0 _ _ l0_1 t490 t491 t492 t493 _ ?side1 ?side2 A2.out).mono ?_); (case side1 => exact Hof.Cw (Kd.C_below HR0_1.out HB.out)); (case side2 => exact HC0_1.out); rintro e w22 ⟨rfl, hb⟩; refine ⟨_, rfl, ?_⟩; replace BK489 := Aside0.mk (blk_below (Hof.Bw BK489.out) hb); replace HB := Aside0.mk (below_step (by repeat (first | (with_reducible first | exact HB.out | apply below_alloc | apply pw_below_drewN | apply below_drew1 | refine below_set ?_ GE489.out) | exact HB.out)) hb); (try clear hb); (try clear hb2); (try clear hk); (try clear hi)) | ((with_reducible refine gate_dst (N := 3) rfl ?_); (try (refine gate_guard (by rfl) ?_; dsimp only)); refine box_event ?hg (N := 3) ?hd (cs := #[.int .i64 0, .int .i64 0, .int .i64 0]) (t := 108) ?hr ?_; (case hd => rfl); (case hg => rfl); (case hr => first | (go_simp; done) | (go_simp; rfl)); intro gb494 hg w23 hbox hb; have BK494 := Aside0.mk hbox; have GW494 := Aside0.mk ((by rw [hg]; exact (below_size (by repeat (first | (with_reducible first | exact HB.out | apply below_alloc | apply pw_below_drewN | apply below_drew1 | refine below_set ?_ GE489.out) | exact HB.out))) : w.heap.size ≤ gb494)); have GE494 := Aside0.mk ((by rw [hg]; exact (below_size (by repeat (first | (with_reducible first | exact HB.out | apply below_alloc | apply pw_below_drewN | apply below_drew1 | refine below_set ?_ GE489.out) | exact HB.out))) : w.heap.size ≤ gb494)); replace HB := Aside0.mk (below_step (by repeat (first | (with_reducible first | exact HB.out | apply below_alloc | apply pw_below_drewN | apply below_drew1 | refine below_set ?_ GE489.out) | exact HB.out)) hb); have NB489_494 := Aside0.mk ((by rw [hg]; exact Nat.ne_of_lt (blk_lt (g := gb489) (o := .cells #[.int .i64 a0_0, .slice A0_1 l0_1.length c0_1] 35 (0, 0)) (Hof.Bw BK489.out)) : gb489 ≠ gb494)); have NB494_489 := Aside0.mk ((by rw [hg]; exact Nat.ne_of_gt (blk_lt (g := gb489) (o := .cells #[.int .i64 a0_0, .slice A0_1 l0_1.length c0_1] 35 (0, 0)) (Hof.Bw BK489.out)) : gb494 ≠ gb489)); replace BK489 := Aside0.mk (blk_below (Hof.Bw BK489.out) hb); clear hb hbox hg; have hnb24 := NB494_489.out; have hnc24 := NB489_494.out; obtain ⟨hcz25_0, hcz25_1, hcz25_2, hfz25_0, hfz25_1, hfz25_2⟩ := Hof.blk3 BK494.out; obtain ⟨hcz26_0, hcz26_1, hfz26_0, hfz26_1⟩ := Hof.blk2 BK489.out) | ((with_reducible refine gate_callee (f := 120) rfl ?_); refine goesL_ (some 14) rfl rfl Try.func120 (by kernel_rfl) rfl #[.int .i64 a0_0, .slice A0_1 l0_1.length c0_1] rfl (by (try simp only [List.map_toArray, List.map_cons, List.map_nil]); first | done | rfl) ?_; (with_reducible refine (impl_IsFamily.calls k a0_0 _ _ l0_1 false _ ?side1 ?side2 A3.out).mono ?_); (case side1 => exact Kd.C_below HR0_1.out (by repeat (first | (with_reducible first | exact HB.out | apply below_alloc | apply pw_below_drewN | apply below_drew1 | refine below_set ?_ GE489.out | refine below_set ?_ GE494.out) | exact HB.out))); (case side2 => exact HC0_1.out); rintro e w' ⟨rfl, ⟨nd, rfl⟩⟩; refine ⟨_, rfl, ?_⟩))
  go_ret
  exact ⟨by first | rfl | (simp [errW_none, errW_some] <;> rfl) | (simp [*, errW_none, errW_some] <;> rfl), by repeat (first | (with_reducible first | exact HB.out | apply below_alloc | apply pw_below_drewN | apply below_drew1 | refine below_set ?_ GE489.out | refine below_set ?_ GE494.out) | exact HB.out)⟩
end Go.Proofs.Ytmpodackojmojaa.Pr
end
section
namespace Go.Proofs.Ytmpodackojmojaa.Pr
open Go.RowKit Go.Proofs.YtmpodackojmojaaW.PrintWords Go.Proofs.YtmpodackojmojaaW.PrintLast Go.Proofs.YtmpodackojmojaaW.PrintMore
attribute [local go_sem] max2_int min2_int max_two min_two max_three min_three max_four min_four
set_option linter.unusedVariables false
set_option linter.unusedSimpArgs false
def impl_SortSets.f (l0 : List Int) : Option (List Int) := if l0.length < 17592186044416 then (some (Lib.compact (SortR.sorted l0))) else (none)
set_option maxHeartbeats 8000000 in
set_option maxRecDepth 100000 in
theorem impl_SortSets.calls (A0 : Option Addr) (c0 : Nat) (l0 : List Int) (r : List Int) (w : World) (hr0 : Kd.C (Kd.int .i64) w A0 l0.length l0) (hc0 : l0.length ≤ c0) (h : impl_SortSets.f l0 = some r) :
  Calls Try.prog 131 #[.slice A0 l0.length c0] w fun e w' => ∃ v0_ : Value, e = .returned (v0_) ∧ Kd.R (Kd.int .i64) 3 w' w.heap.size (fun _ => True) v0_ r ∧ Below w.heap.size w w' := by
 unfold impl_SortSets.f at h
 by_cases hl : l0.length < 17592186044416
 ·rw [if_pos hl] at h
  obtain rfl := Option.some.inj h
  have HL := Aside0.mk hl
  have HR := Aside0.mk hr0
  have HC := Aside0.mk hc0
  clear hr0 hc0 h hl
  go_enter Try.func131, Try.ntmps131
  go_wp2_with (first | ((with_reducible refine gate_dst (N := 4) rfl ?_); refine Kd.R_lit (Kd.int .i64) _ 3 ?hg (N := 4) ?hd (xs := ([] : List Int)) (inner := []) (ok := fun _ => True) (okp := fun _ => True) ?hr ?hp (fun _ hk => hk) trivial (Below.refl _ _) (Nat.le_refl _) (by simp) ?_; (case hd => rfl); (case hg => rfl); (case hr => first | (go_simp; done) | (go_simp; rfl)); (case hp => exact (Reps.none _ _)); intro v4 w1 ho1 hb1 hg_ hnew_; have HO1 := Aside0.mk ho1; have HB1 := Aside0.mk hb1; have HR1 := Aside0.mk (Kd.C_below HR.out hb1); clear hg_ hnew_ ho1 hb1) | ((with_reducible refine gate_builtin (b := .append) (xs := #[.tmp 4, .tmp 5]) rfl ?_); at_builtin; refine Kd.R_append_rows (Kd.int .i64) (w0 := w) w.heap.size rfl (.tmp 4) (.tmp 5) 24 3 (.int .i64 0) 8 rfl Try.underlying24 info3 rfl (by decide) (by omega) v4 ([] : List Int) l0 _ _ _ (fun _ => True) (fun _ => False) rfl rfl HO1.out HR1.out (fun _ _ h => h) (fun _ h => h.elim) (fun _ _ => trivial) HB1.out HB1.out.size (by have := HL.out; simp; omega) ?_; intro v6 w2 ho2 hb2 hg2 hat2; have HO2 := Aside0.mk ho2; have HB2 := Aside0.mk hb2; clear ho2 hb2 hg2 hat2; simp only [List.nil_append] at HO2) | ((with_reducible refine gate_callee (f := 154) rfl ?_); refine goesL_ (some 8) rfl rfl Try.func154 (by kernel_rfl) rfl #[v6] rfl (by (try simp only [List.map_toArray, List.map_cons, List.map_nil]); first | done | rfl) ?_; (with_reducible refine (SortR.sort_calls HO2.out (by have := HL.out; omega)).mono ?_); rintro e w3 ⟨rfl, ho3, hb3, hg3⟩; refine ⟨_, rfl, ?_⟩; have HO3 := Aside0.mk ho3; have HB3 := Aside0.mk (hb3 w HB2.out); clear ho3 hb3 hg3) | ((with_reducible refine gate_callee (f := 155) rfl ?_); refine goesL_ (some 10) rfl rfl Try.func155 (by kernel_rfl) rfl #[v6] rfl (by (try simp only [List.map_toArray, List.map_cons, List.map_nil]); first | done | rfl) ?_; (with_reducible refine (SortR.compact_calls HO3.out (by have := HL.out; have := SortR.sorted_length l0; omega)).mono ?_); rintro e w4 ⟨v10, rfl, ho4, hb4⟩; refine ⟨_, rfl, ?_⟩; have HO4 := Aside0.mk ho4; have HB4 := Aside0.mk (hb4 w HB3.out); clear ho4 hb4))
  go_ret
  exact ⟨_, rfl, HO4.out, HB4.out⟩
 ·rw [if_neg hl] at h
  exact absurd h (by simp)
end Go.Proofs.Ytmpodackojmojaa.Pr
end
section
namespace Go.Proofs.Ytmpodackojmojaa.Pr
open Go.RowKit Go.Proofs.YtmpodackojmojaaW.PrintWords Go.Proofs.YtmpodackojmojaaW.PrintLast Go.Proofs.YtmpodackojmojaaW.PrintMore
attribute [local go_sem] max2_int min2_int max_two min_two max_three min_three max_four min_four
set_option linter.unusedVariables false
set_option linter.unusedSimpArgs false
def impl_areSets.l0 : Nat → List Int → Int → Int → Option (Bool)
 | 0, _, _, _ => none
 | k + 1, x5, x6, x7 => if x7 < x6 then (if 0 ≤ x7 then (if x7 < (x5.length : Int) then ((impl_isAny.f (rd x5 x7)).bind fun t497 => (if t497 = true then (impl_areSets.l0 k x5 x6 (wrap64 (x7 + 1))) else (some false))) else (none)) else (none)) else (some true)
def impl_areSets.f (k : Nat) (l0 : List Int) : Option (Bool) := impl_areSets.l0 k l0 (l0.length : Int) 0
set_option maxHeartbeats 8000000 in
set_option maxRecDepth 100000 in
theorem impl_areSets.calls (k : Nat) (A0 : Option Addr) (c0 : Nat) (l0 : List Int) (r : Bool) (w : World) (hr0 : Kd.C (Kd.int .i64) w A0 l0.length l0) (hc0 : l0.length ≤ c0) (h : impl_areSets.f k l0 = some r) :
  Calls Try.prog 130 #[.slice A0 l0.length c0] w fun e w' => e = .returned (.bool r) ∧ Drawn0 w w' := by
 have HR0 := Aside0.mk hr0
 have HC0 := Aside0.mk hc0
 clear hr0 hc0
 have H : (impl_areSets.l0 k l0 (l0.length : Int) 0) = some r := h
 clear h
 have H' := Aside0.mk H
 clear H
 go_enter Try.func130, Try.ntmps130
 go_wp2
 go_loopg [7] k (fun kq v7 w' => ∃ (x7_1 : Int), v7 = .int .i64 x7_1 ∧ Aside0 (impl_areSets.l0 kq l0 (l0.length : Int) x7_1 = some r) ∧ Aside0 (kq ≤ k) ∧ Drawn0 w w')
 case atStart => exact ⟨(0), (by first | rfl | (simp; done) | (simp [*]; done)), H', ⟨Nat.le_refl _⟩, by repeat (first | exact Drawn0.refl _ | apply Drawn0.step)⟩
 case round =>
  clear H'
  try clear c1
  obtain ⟨x7_1, rfl, HA, HK1, ⟨m1, rfl⟩⟩ := hrel
  cases gk with
  | zero => exact absurd HA.out (by simp [impl_areSets.l0])
  | succ k1 =>
   have H := HA.out
   clear HA
   simp only [impl_areSets.l0] at H
   by_cases c2 : x7_1 < (l0.length : Int)
   ·rw [if_pos c2] at H
    have c2b0 : decide (x7_1 < (l0.length : Int)) = true := decide_eq_true c2
    clear c2
    by_cases c3 : 0 ≤ x7_1
    ·rw [if_pos c3] at H
     have c3b0 : decide (0 ≤ x7_1) = true := decide_eq_true c3
     clear c3
     by_cases c4 : x7_1 < (l0.length : Int)
     ·rw [if_pos c4] at H
      have c4b0 : decide (x7_1 < (l0.length : Int)) = true := decide_eq_true c4
      clear c4
      replace H := Option.bind_eq_some_iff.mp H
      obtain ⟨t497, A50, H⟩ := H
      (try dsimp only at H)
      have A5 := Aside0.mk A50
      clear A50
      by_cases c6 : t497 = true
      ·subst c6
       have H1 : (impl_areSets.l0 k1 l0 (l0.length : Int) (wrap64 (x7_1 + 1))) = some r := by rw [if_pos rfl] at H; exact H
       clear H
       have H := H1
       clear H1
       have H' := Aside0.mk H
       clear H
       have p496 : 0 ≤ (x7_1 : Int) := of_decide_eq_true (by first | (with_reducible assumption) | assumption)
       have q496 : x7_1 < (l0.length : Int) := of_decide_eq_true (by first | (with_reducible assumption) | assumption)
       obtain ⟨ad496, e496, hx496_0⟩ := Kd.at_int HR0.out x7_1 p496 q496
       cases e496
       replace p496 := eq_true p496
       replace q496 := eq_true q496
       go_wp2_with (first | ((with_reducible refine gate_callee (f := 121) rfl ?_); refine goesL_ (some 12) rfl rfl Try.func121 (by kernel_rfl) rfl #[.int .i64 (rd l0 x7_1)] rfl (by (try simp only [List.map_toArray, List.map_cons, List.map_nil]); first | done | rfl) ?_; (with_reducible refine (impl_isAny.calls (rd l0 x7_1) true _ A5.out).mono ?_); rintro e w' ⟨rfl, ⟨nd, rfl⟩⟩; refine ⟨_, rfl, ?_⟩))
       go_roundg k1
       case measure => have := HK1.out; omega
       case rel => exact ⟨(wrap64 (x7_1 + 1)), (by first | rfl | (simp; done) | (simp [*]; done)), H', ⟨by have := HK1.out; omega⟩, by repeat (first | exact Drawn0.refl _ | apply Drawn0.step)⟩
      ·replace c6 := Bool.eq_false_iff.mpr c6
       subst c6
       have H1 : (some false) = some r := by rw [if_neg (show ¬ (false = true) by decide)] at H; exact H
       clear H
       have H := H1
       clear H1
       obtain rfl := Option.some.inj H
       have p496 : 0 ≤ (x7_1 : Int) := of_decide_eq_true (by first | (with_reducible assumption) | assumption)
       have q496 : x7_1 < (l0.length : Int) := of_decide_eq_true (by first | (with_reducible assumption) | assumption)
       obtain ⟨ad496, e496, hx496_0⟩ := Kd.at_int HR0.out x7_1 p496 q496
       cases e496
       replace p496 := eq_true p496
       replace q496 := eq_true q496
       go_wp2_with (first | ((with_reducible refine gate_callee (f := 121) rfl ?_); refine goesL_ (some 12) rfl rfl Try.func121 (by kernel_rfl) rfl #[.int .i64 (rd l0 x7_1)] rfl (by (try simp only [List.map_toArray, List.map_cons, List.map_nil]); first | done | rfl) ?_; (with_reducible refine (impl_isAny.calls (rd l0 x7_1) false _ A5.out).mono ?_); rintro e w' ⟨rfl, ⟨nd, rfl⟩⟩; refine ⟨_, rfl, ?_⟩))
       go_ret
       exact ⟨by first | rfl | (simp; done) | (simp [*]; done), by repeat (first | exact Drawn0.refl _ | apply Drawn0.step)⟩
     ·rw [if_neg c4] at H
      exact absurd H (by simp)
    ·rw [if_neg c3] at H
     exact absurd H (by simp)
   ·rw [if_neg c2] at H
    have c2b0 : decide (x7_1 < (l0.length : Int)) = false := decide_eq_false c2
    clear c2
    obtain rfl := Option.some.inj H
    go_wp2
    go_ret
    exact ⟨by first | rfl | (simp; done) | (simp [*]; done), by repeat (first | exact Drawn0.refl _ | apply Drawn0.step)⟩
end Go.Proofs.Ytmpodackojmojaa.Pr
end
section
namespace Go.Proofs.Ytmpodackojmojaa.Pr
open Go.RowKit Go.Proofs.YtmpodackojmojaaW.PrintWords Go.Proofs.YtmpodackojmojaaW.PrintLast Go.Proofs.YtmpodackojmojaaW.PrintMore
attribute [local go_sem] max2_int min2_int max_two min_two max_three min_three max_four min_four
set_option linter.unusedVariables false
set_option linter.unusedSimpArgs false
def impl_IsSubset.f (a0 : Int) (a1 : Int) : Option (Bool) := (impl_isAny.f a0).bind fun t498 => (if t498 = true then ((impl_isAny.f a1).bind fun t499 => (if t499 = true then (some ((Go.bits .andNot .i64 a0 a1) == 0)) else (some false))) else (some false))
set_option maxHeartbeats 8000000 in
set_option maxRecDepth 100000 in
theorem impl_IsSubset.calls (a0 : Int) (a1 : Int) (r : Bool) (w : World) (h : impl_IsSubset.f a0 a1 = some r) :
  Calls Try.prog 134 #[.int .i64 a0, .int .i64 a1] w fun e w' => e = .returned (.bool r) ∧ Drawn0 w w' := by
 have H : ((impl_isAny.f a0).bind fun t498 => (if t498 = true then ((impl_isAny.f a1).bind fun t499 => (if t499 = true then (some ((Go.bits .andNot .i64 a0 a1) == 0)) else (some false))) else (some false))) = some r := h
 clear h
 replace H := Option.bind_eq_some_iff.mp H
 obtain ⟨t498, A30, H⟩ := H
 (try dsimp only at H)
 have A3 := Aside0.mk A30
 clear A30
 by_cases c4 : t498 = true
 ·subst c4
  have H1 : ((impl_isAny.f a1).bind fun t499 => (if t499 = true then (some ((Go.bits .andNot .i64 a0 a1) == 0)) else (some false))) = some r := by rw [if_pos rfl] at H; exact H
  clear H
  have H := H1
  clear H1
  replace H := Option.bind_eq_some_iff.mp H
  obtain ⟨t499, A50, H⟩ := H
  (try dsimp only at H)
  have A5 := Aside0.mk A50
  clear A50
  by_cases c6 : t499 = true
  ·subst c6
   have H1 : (some ((Go.bits .andNot .i64 a0 a1) == 0)) = some r := by rw [if_pos rfl] at H; exact H
   clear H
   have H := H1
   clear H1
   obtain rfl := Option.some.inj H
   go_enter Try.func134, Try.ntmps134
   go_wp2_with (first | ((with_reducible refine gate_callee (f := 121) rfl ?_); refine goesL_ (some 6) rfl rfl Try.func121 (by kernel_rfl) rfl #[.int .i64 a0] rfl (by (try simp only [List.map_toArray, List.map_cons, List.map_nil]); first | done | rfl) ?_; (with_reducible refine (impl_isAny.calls a0 true _ A3.out).mono ?_); rintro e w' ⟨rfl, ⟨nd, rfl⟩⟩; refine ⟨_, rfl, ?_⟩) | (go_at_call 121; (with_reducible refine (impl_isAny.calls a1 true _ A5.out).mono ?_); rintro e w' ⟨rfl, ⟨nd, rfl⟩⟩))
   go_ret
   exact ⟨by first | rfl | (simp; done) | (simp [*]; done), by repeat (first | exact Drawn0.refl _ | apply Drawn0.step)⟩
  ·replace c6 := Bool.eq_false_iff.mpr c6
   subst c6
   have H1 : (some false) = some r := by rw [if_neg (show ¬ (false = true) by decide)] at H; exact H
   clear H
   have H := H1
   clear H1
   obtain rfl := Option.some.inj H
   go_enter Try.func134, Try.ntmps134
   go_wp2_with (first | ((with_reducible refine gate_callee (f := 121) rfl ?_); refine goesL_ (some 6) rfl rfl Try.func121 (by kernel_rfl) rfl #[.int .i64 a0] rfl (by (try simp only [List.map_toArray, List.map_cons, List.map_nil]); first | done | rfl) ?_; (with_reducible refine (impl_isAny.calls a0 true _ A3.out).mono ?_); rintro e w' ⟨rfl, ⟨nd, rfl⟩⟩; refine ⟨_, rfl, ?_⟩) | (go_at_call 121; (with_reducible refine (impl_isAny.calls a1 false _ A5.out).mono ?_); rintro e w' ⟨rfl, ⟨nd, rfl⟩⟩))
   go_ret
   exact ⟨by first | rfl | (simp; done) | (simp [*]; done), by repeat (first | exact Drawn0.refl _ | apply Drawn0.step)⟩
 ·replace c4 := Bool.eq_false_iff.mpr c4
  subst c4
  have H1 : (some false) = some r := by rw [if_neg (show ¬ (false = true) by decide)] at H; exact H
  clear H
  have H := H1
  clear H1
  obtain rfl := Option.some.inj H
  go_enter Try.func134, Try.ntmps134
  go_wp2_with (first | ((with_reducible refine gate_callee (f := 121) rfl ?_); refine goesL_ (some 6) rfl rfl Try.func121 (by kernel_rfl) rfl #[.int .i64 a0] rfl (by (try simp only [List.map_toArray, List.map_cons, List.map_nil]); first | done | rfl) ?_; (with_reducible refine (impl_isAny.calls a0 false _ A3.out).mono ?_); rintro e w' ⟨rfl, ⟨nd, rfl⟩⟩; refine ⟨_, rfl, ?_⟩))
  go_ret
  exact ⟨by first | rfl | (simp; done) | (simp [*]; done), by repeat (first | exact Drawn0.refl _ | apply Drawn0.step)⟩
end Go.Proofs.Ytmpodackojmojaa.Pr
end
section
namespace Go.Proofs.Ytmpodackojmojaa.Pr
open Go.RowKit Go.Proofs.YtmpodackojmojaaW.PrintWords Go.Proofs.YtmpodackojmojaaW.PrintLast Go.Proofs.YtmpodackojmojaaW.PrintMore
attribute [local go_sem] max2_int min2_int max_two min_two max_three min_three max_four min_four
set_option linter.unusedVariables false
set_option linter.unusedSimpArgs false
def impl_MaximalSets_1.f (s t : Int) : Option Bool := if t = s then (some false) else (impl_IsSubset.f s t)
def impl_MaximalSets.l0 : Nat → List Int → List Int → List Int → Int → Option (List Int)
 | 0, _, _, _, _ => none
 | k + 1, l, q, x3, x13 => if x13 < (q.length : Int) then (if 0 ≤ x13 then ((slices_ContainsFunc_int_int.f k l (fun t => impl_MaximalSets_1.f (rd q x13) t)).bind fun b => (if b = true then (impl_MaximalSets.l0 k l q x3 (wrap64 (x13 + 1))) else (if x3.length < 17592186044416 then (impl_MaximalSets.l0 k l q (x3 ++ [rd q x13]) (wrap64 (x13 + 1))) else (none)))) else (none)) else (some x3)
def impl_MaximalSets.f (k : Nat) (l0 : List Int) : Option (List Int) := (impl_areSets.f k l0).bind fun t => (if t = true then ((impl_SortSets.f l0).bind fun q => (impl_MaximalSets.l0 k l0 q [] 0)) else (some []))
set_option maxHeartbeats 8000000 in
set_option maxRecDepth 100000 in
theorem impl_MaximalSets_1.calls (s t : Int) (b : Bool) (gb : Nat) (w : World) (hbk : w.heap[gb]? = some (.cells #[.int .i64 s] 3 (0, 0))) (h : impl_MaximalSets_1.f s t = some b) :
  Calls Try.prog 133 #[.int .i64 t, .pointer (some ⟨gb, 0, none⟩)] w fun e w' => e = .returned (.bool b) ∧ Below w.heap.size w w' := by
 have hcz5_0 : w.cell? ⟨gb, 0, none⟩ = some (.int .i64 s) := (blk_cell hbk 0).trans rfl
 clear hbk
 unfold impl_MaximalSets_1.f at h
 by_cases c : t = s
 ·rw [if_pos c] at h
  obtain rfl := Option.some.inj h
  have c1 : (t != s) = false := by simp [c]
  clear h c
  go_enter Try.func133, Try.ntmps133
  go_wp2
  go_ret
  exact ⟨rfl, Below.refl _ _⟩
 ·rw [if_neg c] at h
  have c1 : (t != s) = true := by simp [c]
  have A1 := Aside0.mk h
  clear h c
  go_enter Try.func133, Try.ntmps133
  go_wp2_with (first | (go_at_call 134; (with_reducible refine (impl_IsSubset.calls s t b _ A1.out).mono ?_); rintro e w5 ⟨rfl, hd⟩; have HB := Aside0.mk hd.below; clear hd))
  go_ret
  exact ⟨rfl, HB.out⟩
theorem impl_MaximalSets_1.fun1 (s : Int) (gb : Nat) (w : World) (hbk : w.heap[gb]? = some (.cells #[.int .i64 s] 3 (0, 0))) :
  Hof.Fun1 Try.prog w (.func (.func 133) #[] #[.pointer (some ⟨gb, 0, none⟩)]) (fun t => impl_MaximalSets_1.f s t) :=
 ⟨⟨133, #[.pointer (some ⟨gb, 0, none⟩)], Try.f133, rfl, Try.func133, by kernel_rfl, rfl, fun t b w' hw hg => impl_MaximalSets_1.calls s t b gb w' (blk_below hbk hw) hg⟩⟩
set_option maxHeartbeats 8000000 in
set_option maxRecDepth 100000 in
theorem impl_MaximalSets.calls (k : Nat) (A0 : Option Addr) (c0 : Nat) (l0 : List Int) (r : List Int) (w : World) (hr0 : Kd.C (Kd.int .i64) w A0 l0.length l0) (hc0 : l0.length ≤ c0) (h : impl_MaximalSets.f k l0 = some r) :
  Calls Try.prog 109 #[.slice A0 l0.length c0] w fun e w' => ∃ v0_ : Value, e = .returned (v0_) ∧ Kd.R (Kd.int .i64) 3 w' w.heap.size (fun _ => True) v0_ r ∧ Below w.heap.size w w' := by
 have HR := Aside0.mk hr0
 have HC := Aside0.mk hc0
 have HB := Aside0.mk (Below.refl w.heap.size w)
 clear hr0 hc0
 unfold impl_MaximalSets.f at h
 obtain ⟨t, h1, h⟩ := Option.bind_eq_some_iff.mp h
 have A1 := Aside0.mk h1
 clear h1
 cases t with
 | false =>
  rw [if_neg (by decide)] at h
  obtain rfl := Option.some.inj h
  clear h
  go_enter Try.func109, Try.ntmps109
  go_wp2_with (first | ((with_reducible refine gate_dst (N := 6) rfl ?_); refine Kd.R_lit (Kd.int .i64) _ 3 ?hg (N := 6) ?hd (xs := []) (inner := []) (ok := fun _ => True) (okp := fun _ => True) ?hr ?hp (fun _ hk => hk) trivial (Below.refl _ _) (Nat.le_refl _) (by simp) ?_; (case hd => rfl); (case hg => rfl); (case hr => first | (go_simp; done) | (go_simp; rfl)); (case hp => exact (Reps.none _ _)); intro vout w101 ho hb hg_ hnew_; clear hg_ hnew_; have Nout := Aside0.mk (Kd.R_lower ho (below_size HB.out)); have n0_ := Aside0.mk (below_step HB.out hb); clear HB; have HB := n0_; clear n0_; have HOout := Nout; clear Nout ho hb) | ((with_reducible refine gate_callee (f := 130) rfl ?_); refine goesL_ (some 8) rfl rfl Try.func130 (by kernel_rfl) rfl #[.slice A0 l0.length c0] rfl (by (try simp only [List.map_toArray, List.map_cons, List.map_nil]); first | done | rfl) ?_; (with_reducible refine (impl_areSets.calls k _ _ l0 false _ (Kd.C_below HR.out HB.out) HC.out A1.out).mono ?_); rintro e w102 ⟨rfl, hd_⟩; refine ⟨_, rfl, ?_⟩; have hb := hd_.below; clear hd_; have m_ := Aside0.mk (Kd.R_below HOout.out hb); clear HOout; have HOout := m_; clear m_; have n0_ := Aside0.mk (below_step HB.out hb); clear HB; have HB := n0_; clear n0_; clear hb))
  go_ret
  exact ⟨_, rfl, Kd.R_nil _ _ _ _ _, HB.out⟩
 | true =>
  rw [if_pos rfl] at h
  obtain ⟨q, h2, h⟩ := Option.bind_eq_some_iff.mp h
  have A2 := Aside0.mk h2
  have H' := Aside0.mk h
  clear h h2
  go_enter Try.func109, Try.ntmps109
  go_wp2_with (first | ((with_reducible refine gate_dst (N := 6) rfl ?_); refine Kd.R_lit (Kd.int .i64) _ 3 ?hg (N := 6) ?hd (xs := []) (inner := []) (ok := fun _ => True) (okp := fun _ => True) ?hr ?hp (fun _ hk => hk) trivial (Below.refl _ _) (Nat.le_refl _) (by simp) ?_; (case hd => rfl); (case hg => rfl); (case hr => first | (go_simp; done) | (go_simp; rfl)); (case hp => exact (Reps.none _ _)); intro vout w101 ho hb hg_ hnew_; clear hg_ hnew_; have Nout := Aside0.mk (Kd.R_lower ho (below_size HB.out)); have n0_ := Aside0.mk (below_step HB.out hb); clear HB; have HB := n0_; clear n0_; have HOout := Nout; clear Nout ho hb) | ((with_reducible refine gate_callee (f := 130) rfl ?_); refine goesL_ (some 8) rfl rfl Try.func130 (by kernel_rfl) rfl #[.slice A0 l0.length c0] rfl (by (try simp only [List.map_toArray, List.map_cons, List.map_nil]); first | done | rfl) ?_; (with_reducible refine (impl_areSets.calls k _ _ l0 true _ (Kd.C_below HR.out HB.out) HC.out A1.out).mono ?_); rintro e w102 ⟨rfl, hd_⟩; refine ⟨_, rfl, ?_⟩; have hb := hd_.below; clear hd_; have m_ := Aside0.mk (Kd.R_below HOout.out hb); clear HOout; have HOout := m_; clear m_; have n0_ := Aside0.mk (below_step HB.out hb); clear HB; have HB := n0_; clear n0_; clear hb) | ((with_reducible refine gate_callee (f := 131) rfl ?_); refine goesL_ (some 11) rfl rfl Try.func131 (by kernel_rfl) rfl #[.slice A0 l0.length c0] rfl (by (try simp only [List.map_toArray, List.map_cons, List.map_nil]); first | done | rfl) ?_; (with_reducible refine (impl_SortSets.calls _ _ l0 q _ (Kd.C_below HR.out HB.out) HC.out A2.out).mono ?_); rintro e w103 ⟨vq, rfl, ho0, hb⟩; refine ⟨_, rfl, ?_⟩; have Nq := Aside0.mk (Kd.R_lower (Kd.R_mono (ok' := fun k_ => w102.heap.size ≤ k_ ∧ k_ < w103.heap.size) (Kd.R_bound ho0) (fun _ hk => ⟨hk.2.1, hk.2.2.1⟩)) (below_size HB.out)); have m_ := Aside0.mk (Kd.R_mono (ok' := fun k_ => k_ < w102.heap.size ∨ w103.heap.size ≤ k_) (Kd.R_bound HOout.out) (fun _ hk => .inl hk.2.2.1)); clear HOout; have HOout := m_; clear m_; have HS := Aside0.mk hb.size; have m_ := Aside0.mk (Kd.R_below HOout.out hb); clear HOout; have HOout := m_; clear m_; have n0_ := Aside0.mk (below_step HB.out hb); clear HB; have HB := n0_; clear n0_; have HOq := Nq; clear Nq ho0; clear hb; obtain ⟨Aq, cq, eq_⟩ := Kd.R_slice HOq.out; subst eq_))
  obtain ⟨n1, hn1⟩ : ∃ n, n = w102.heap.size := ⟨_, rfl⟩
  obtain ⟨n2, hn2⟩ : ∃ n, n = w103.heap.size := ⟨_, rfl⟩
  have HN2 := Aside0.mk (Nat.le_of_eq hn2)
  have HSW := Aside0.mk (show n2 ≤ w103.heap.size from Nat.le_of_eq hn2)
  rw [← hn1, ← hn2] at HOout HOq
  clear hn1 hn2 HS HN2
  have HN2 : Aside0 (n2 ≤ n2) := ⟨Nat.le_refl _⟩
  go_loopg [3, 13] k (fun kq v3 v13 w' => ∃ (x3_1 : List Int) (x13_1 : Int), v13 = .int .i64 x13_1 ∧ Aside0 (impl_MaximalSets.l0 kq l0 q x3_1 x13_1 = some r) ∧ Aside0 (kq ≤ k) ∧ Aside0 (Kd.R (Kd.int .i64) 3 w' w.heap.size (fun k_ => k_ < n1 ∨ n2 ≤ k_) v3 x3_1) ∧ Aside0 (Kd.R (Kd.int .i64) 3 w' w.heap.size (fun k_ => n1 ≤ k_ ∧ k_ < n2) (.slice Aq q.length cq) q) ∧ Aside0 (n2 ≤ w'.heap.size) ∧ Aside0 (Below w.heap.size w w'))
  case atStart => exact ⟨[], 0, rfl, H', ⟨Nat.le_refl _⟩, HOout, HOq, HSW, HB⟩
  case round =>
   clear H' HOout HOq HSW HB
   obtain ⟨x3_1, x13_1, rfl, HA, HK1, HOout, HOq, HSW, HB⟩ := hrel
   cases gk with
   | zero => exact absurd HA.out (by simp [impl_MaximalSets.l0])
   | succ k1 =>
    have H := HA.out
    clear HA
    simp only [impl_MaximalSets.l0] at H
    by_cases c3 : x13_1 < (q.length : Int)
    case neg =>
     rw [if_neg c3] at H
     have c3b0 : decide (x13_1 < (q.length : Int)) = false := decide_eq_false c3
     clear c3
     obtain rfl := Option.some.inj H
     go_wp2
     go_ret
     exact ⟨_, rfl, Kd.R_mono HOout.out (fun _ _ => trivial), HB.out⟩
    rw [if_pos c3] at H
    have c3b0 : decide (x13_1 < (q.length : Int)) = true := decide_eq_true c3
    clear c3
    by_cases c4 : 0 ≤ x13_1
    case neg => rw [if_neg c4] at H; exact absurd H (by simp)
    rw [if_pos c4] at H
    have c4b0 : decide (0 ≤ x13_1) = true := decide_eq_true c4
    clear c4
    obtain ⟨aa, haa⟩ : ∃ j_ : Int, rd q x13_1 = j_ := ⟨_, rfl⟩
    rw [haa] at H
    obtain ⟨t, A40, H⟩ := Option.bind_eq_some_iff.mp H
    have A4 := Aside0.mk A40
    clear A40
    have p1 : 0 ≤ (x13_1 : Int) := of_decide_eq_true (by assumption)
    have q1 : x13_1 < (q.length : Int) := of_decide_eq_true (by assumption)
    obtain ⟨ad1, e1, hx1_0⟩ := Kd.at_int (Kd.R_reads' HOq.out).2.2 x13_1 p1 q1
    rw [haa] at hx1_0
    clear haa
    cases e1
    replace p1 := eq_true p1
    replace q1 := eq_true q1
    cases t with
    | true =>
     rw [if_pos rfl] at H
     have H' := Aside0.mk H
     clear H
     go_wp2_with (first | ((with_reducible refine gate_dst (N := 5) rfl ?_); refine box_event ?hg (N := 5) ?hd (cs := #[.int .i64 0]) (t := 3) ?hr ?_; (case hd => rfl); (case hg => rfl); (case hr => first | (go_simp; done) | (go_simp; rfl)); intro gb5 hg w101 hbox hb; have GEgb5 := Aside0.mk ((by rw [hg]; exact below_size HB.out) : w.heap.size ≤ gb5); have HGgb5 := Aside0.mk hg; have HNgb5 := Aside0.mk hb; have BKgb5 := Aside0.mk hbox; clear hb hg hbox; have hczgb5_0 : w101.cell? ⟨gb5, 0, none⟩ = some (.int .i64 0) := (blk_cell BKgb5.out 0).trans rfl; have hfzgb5_0 := blk_frozen BKgb5.out 0) | ((with_reducible refine gate_store (t := 3) (p := 5) rfl ?_); refine store_event (t := 3) (p := 5) (v := ?vo1) (w1 := (w101.setCell ⟨gb5, 0, none⟩ (.int .i64 aa))) ?hg ?ho ?hn ?hr ?_; (case ho => rfl); (case hg => rfl); (case hn => rfl); (case hr => first | (go_simp; done) | (go_simp; rfl)); intro w102 hw; have hb := (show Below _ _ w102 from (by rw [hw]; exact below_set HNgb5.out (Nat.le_of_eq HGgb5.out.symm))); have m5 : Aside0 (w102.heap[gb5]? = some (.cells #[.int .i64 aa] 3 (0, 0))) := ⟨by rw [hw]; exact blk_put BKgb5.out 0 _ rfl⟩; clear BKgb5 hw hczgb5_0 hfzgb5_0; have m_ := Aside0.mk (Kd.R_below HOout.out hb); clear HOout; have HOout := m_; clear m_; have m_ := Aside0.mk (Kd.R_below HOq.out hb); clear HOq; have HOq := m_; clear m_; have m_ := Aside0.mk (Nat.le_trans HSW.out (hb).size); clear HSW; have HSW := m_; clear m_; have n0_ := Aside0.mk (below_step HB.out hb); clear HB; have HB := n0_; clear n0_; have BKgb5 := m5; clear m5 hb HNgb5 HGgb5; have hczgb5_0 : w102.cell? ⟨gb5, 0, none⟩ = some (.int .i64 aa) := (blk_cell BKgb5.out 0).trans rfl; have hfzgb5_0 := blk_frozen BKgb5.out 0) | ((with_reducible refine gate_callee (f := 132) rfl ?_); refine goesL_ (some 19) rfl rfl Try.func132 (by kernel_rfl) rfl #[.slice A0 l0.length c0, .func (.func 133) #[] #[.pointer (some ⟨gb5, 0, none⟩)]] rfl (by (try simp only [List.map_toArray, List.map_cons, List.map_nil]); first | done | rfl) ?_; (with_reducible refine (slices_ContainsFunc_int_int.calls k1 _ _ l0 _ (fun t => impl_MaximalSets_1.f aa t) true _ (Kd.C_below HR.out HB.out) (impl_MaximalSets_1.fun1 aa gb5 _ BKgb5.out) A4.out).mono ?_); rintro e w103 ⟨rfl, hb⟩; refine ⟨_, rfl, ?_⟩; clear hczgb5_0 hfzgb5_0; have m_ := Aside0.mk (blk_below BKgb5.out hb); clear BKgb5; have BKgb5 := m_; clear m_; have m_ := Aside0.mk (Kd.R_below HOout.out hb); clear HOout; have HOout := m_; clear m_; have m_ := Aside0.mk (Kd.R_below HOq.out hb); clear HOq; have HOq := m_; clear m_; have m_ := Aside0.mk (Nat.le_trans HSW.out (hb).size); clear HSW; have HSW := m_; clear m_; have n0_ := Aside0.mk (below_step HB.out hb); clear HB; have HB := n0_; clear n0_; clear hb; have hczgb5_0 : w103.cell? ⟨gb5, 0, none⟩ = some (.int .i64 aa) := (blk_cell BKgb5.out 0).trans rfl; have hfzgb5_0 := blk_frozen BKgb5.out 0))
     go_roundg k1
     case measure => have := HK1.out; omega
     case rel => exact ⟨x3_1, (wrap64 (x13_1 + 1)), rfl, H', ⟨by have := HK1.out; omega⟩, HOout, HOq, HSW, HB⟩
    | false =>
     rw [if_neg (by decide)] at H
     by_cases c7 : x3_1.length < 17592186044416
     case neg => rw [if_neg c7] at H; exact absurd H (by simp)
     rw [if_pos c7] at H
     have LM := Aside0.mk c7
     have H' := Aside0.mk H
     clear H c7
     go_wp2_with (first | ((with_reducible refine gate_dst (N := 5) rfl ?_); refine box_event ?hg (N := 5) ?hd (cs := #[.int .i64 0]) (t := 3) ?hr ?_; (case hd => rfl); (case hg => rfl); (case hr => first | (go_simp; done) | (go_simp; rfl)); intro gb5 hg w101 hbox hb; have GEgb5 := Aside0.mk ((by rw [hg]; exact below_size HB.out) : w.heap.size ≤ gb5); have HGgb5 := Aside0.mk hg; have HNgb5 := Aside0.mk hb; have BKgb5 := Aside0.mk hbox; clear hb hg hbox; have hczgb5_0 : w101.cell? ⟨gb5, 0, none⟩ = some (.int .i64 0) := (blk_cell BKgb5.out 0).trans rfl; have hfzgb5_0 := blk_frozen BKgb5.out 0) | ((with_reducible refine gate_store (t := 3) (p := 5) rfl ?_); refine store_event (t := 3) (p := 5) (v := ?vo1) (w1 := (w101.setCell ⟨gb5, 0, none⟩ (.int .i64 aa))) ?hg ?ho ?hn ?hr ?_; (case ho => rfl); (case hg => rfl); (case hn => rfl); (case hr => first | (go_simp; done) | (go_simp; rfl)); intro w102 hw; have hb := (show Below _ _ w102 from (by rw [hw]; exact below_set HNgb5.out (Nat.le_of_eq HGgb5.out.symm))); have m5 : Aside0 (w102.heap[gb5]? = some (.cells #[.int .i64 aa] 3 (0, 0))) := ⟨by rw [hw]; exact blk_put BKgb5.out 0 _ rfl⟩; clear BKgb5 hw hczgb5_0 hfzgb5_0; have m_ := Aside0.mk (Kd.R_below HOout.out hb); clear HOout; have HOout := m_; clear m_; have m_ := Aside0.mk (Kd.R_below HOq.out hb); clear HOq; have HOq := m_; clear m_; have m_ := Aside0.mk (Nat.le_trans HSW.out (hb).size); clear HSW; have HSW := m_; clear m_; have n0_ := Aside0.mk (below_step HB.out hb); clear HB; have HB := n0_; clear n0_; have BKgb5 := m5; clear m5 hb HNgb5 HGgb5; have hczgb5_0 : w102.cell? ⟨gb5, 0, none⟩ = some (.int .i64 aa) := (blk_cell BKgb5.out 0).trans rfl; have hfzgb5_0 := blk_frozen BKgb5.out 0) | ((with_reducible refine gate_callee (f := 132) rfl ?_); refine goesL_ (some 19) rfl rfl Try.func132 (by kernel_rfl) rfl #[.slice A0 l0.length c0, .func (.func 133) #[] #[.pointer (some ⟨gb5, 0, none⟩)]] rfl (by (try simp only [List.map_toArray, List.map_cons, List.map_nil]); first | done | rfl) ?_; (with_reducible refine (slices_ContainsFunc_int_int.calls k1 _ _ l0 _ (fun t => impl_MaximalSets_1.f aa t) false _ (Kd.C_below HR.out HB.out) (impl_MaximalSets_1.fun1 aa gb5 _ BKgb5.out) A4.out).mono ?_); rintro e w103 ⟨rfl, hb⟩; refine ⟨_, rfl, ?_⟩; clear hczgb5_0 hfzgb5_0; have m_ := Aside0.mk (blk_below BKgb5.out hb); clear BKgb5; have BKgb5 := m_; clear m_; have m_ := Aside0.mk (Kd.R_below HOout.out hb); clear HOout; have HOout := m_; clear m_; have m_ := Aside0.mk (Kd.R_below HOq.out hb); clear HOq; have HOq := m_; clear m_; have m_ := Aside0.mk (Nat.le_trans HSW.out (hb).size); clear HSW; have HSW := m_; clear m_; have n0_ := Aside0.mk (below_step HB.out hb); clear HB; have HB := n0_; clear n0_; clear hb; have hczgb5_0 : w103.cell? ⟨gb5, 0, none⟩ = some (.int .i64 aa) := (blk_cell BKgb5.out 0).trans rfl; have hfzgb5_0 := blk_frozen BKgb5.out 0) | ((with_reducible refine gate_builtin (b := .append) (xs := #[.tmp 21, .tmp 23]) rfl ?_); at_builtin; refine Kd.R_append (Kd.int .i64) (w0 := w) w.heap.size rfl (.tmp 21) (.tmp 23) 24 3 (.int .i64 0) 8 rfl Try.underlying24 info3 rfl (by decide) (by omega) u3 x3_1 aa [.int .i64 aa] (fun k_ => k_ < n1 ∨ n2 ≤ k_) (fun _ => False) rfl rfl ?aP (fun _ hk => hk.elim) ?aF ?aO ?aB ?aS ?aL ?_; (case aP => exact rfl); (case aB => exact HB.out); (case aF => exact (fun k_ hk_ => .inr (Nat.le_trans HN2.out (Nat.le_trans HSW.out hk_)))); (case aO => exact HOout.out); (case aS => exact below_size HB.out); (case aL => have := LM.out; omega); intro v9 w99 ho hb hg hat; have n2_ := Aside0.mk (Kd.R_grown HOq.out hg (fun k_ hk_ e_ => by have := HOout.out.1 k_ e_.symm; omega)); have n0_ := Aside0.mk hb; have n1_ := Aside0.mk ho; have n3_ := Aside0.mk (Nat.le_trans HSW.out (Nat.le_trans (show _ ≤ _ from Nat.le_refl _) hg.size)); clear HB HOout HOq HSW; have HSW := n3_; have HB := n0_; have HOout := n1_; have HOq := n2_; clear n0_ n1_ n2_ n3_ ho hb hg hat))
     go_roundg k1
     case measure => have := HK1.out; omega
     case rel => exact ⟨_, (wrap64 (x13_1 + 1)), rfl, H', ⟨by have := HK1.out; omega⟩, HOout, HOq, HSW, HB⟩
end Go.Proofs.Ytmpodackojmojaa.Pr
end
section
namespace Go.Proofs.Ytmpodackojmojaa.Pr
open Go.RowKit Go.Proofs.YtmpodackojmojaaW.PrintWords Go.Proofs.YtmpodackojmojaaW.PrintLast Go.Proofs.YtmpodackojmojaaW.PrintMore
attribute [local go_sem] max2_int min2_int max_two min_two max_three min_three max_four min_four
set_option linter.unusedVariables false
set_option linter.unusedSimpArgs false
def impl_fromIndependent.f (k : Nat) (a0 : Int) (l1 : List Int) : Option (Int × List Int × Bool) := (impl_MaximalSets.f k l1).bind fun t501 => ((impl_IsMatroid.f k a0 t501).bind fun t505 => (if t505 = true then (some (a0, t501, true)) else (some (0, ([] : List Int), false))))
set_option maxHeartbeats 8000000 in
set_option maxRecDepth 100000 in
theorem impl_fromIndependent.calls (k : Nat) (a0 : Int) (A1 : Option Addr) (c1 : Nat) (l1 : List Int) (r1 : Int) (r2 : List Int) (r3 : Bool) (w : World) (hr1 : Kd.C (Kd.int .i64) w A1 l1.length l1) (hc1 : l1.length ≤ c1) (h : impl_fromIndependent.f k a0 l1 = some (r1, r2, r3)) :
  Calls Try.prog 68 #[.int .i64 a0, .slice A1 l1.length c1] w fun e w' => ∃ v1_ : Value, e = .returned (.tuple #[.agg #[.int .i64 r1, v1_], .bool r3]) ∧ Kd.R (Kd.int .i64) 3 w' w.heap.size (fun _ => True) v1_ r2 ∧ Below w.heap.size w w' := by
 have hu35 := Try.underlying35
 have HR1 := Aside0.mk hr1
 have HC1 := Aside0.mk hc1
 clear hr1 hc1
 have HB := Aside0.mk (Below.refl w.heap.size w)
 have H : ((impl_MaximalSets.f k l1).bind fun t501 => ((impl_IsMatroid.f k a0 t501).bind fun t505 => (if t505 = true then (some (a0, t501, true)) else (some (0, ([] : List Int), false))))) = some (r1, r2, r3) := h
 clear h
 replace H := Option.bind_eq_some_iff.mp H
 obtain ⟨t501, A30, H⟩ := H
 (try dsimp only at H)
 have A3 := Aside0.mk A30
 clear A30
 replace H := Option.bind_eq_some_iff.mp H
 obtain ⟨t505, A40, H⟩ := H
 (try dsimp only at H)
 have A4 := Aside0.mk A40
 clear A40
 by_cases c5 : t505 = true
 ·subst c5
  have H1 : (some (a0, t501, true)) = some (r1, r2, r3) := by rw [if_pos rfl] at H; exact H
  clear H
  have H := H1
  clear H1
  simp only [Option.some.injEq, Prod.mk.injEq] at H
  obtain ⟨rfl, rfl, rfl⟩ := H
  go_enter Try.func68, Try.ntmps68
  go_wp2_with (first | ((with_reducible refine gate_dst (N := 4) rfl ?_); refine box_event ?hg (N := 4) ?hd (cs := #[.int .i64 0, .slice none 0 0]) (t := 35) ?hr ?_; (case hd => rfl); (case hg => rfl); (case hr => first | (go_simp; done) | (go_simp; rfl)); intro gb500 hg w6 hbox hb; have BK500 := Aside0.mk hbox; have GW500 := Aside0.mk ((by rw [hg]; exact (below_size (Hof.Lw HB.out)) : w.heap.size ≤ gb500)); have GE500 := Aside0.mk ((by rw [hg]; exact (below_size (Hof.Lw HB.out)) : w.heap.size ≤ gb500)); replace HB := Aside0.mk (below_step (Hof.Lw HB.out) hb); clear hb hbox hg) | ((with_reducible refine gate_callee (f := 109) rfl ?_); refine goesL_ (some 9) rfl rfl Try.func109 (by kernel_rfl) rfl #[.slice A1 l1.length c1] rfl (by (try simp only [List.map_toArray, List.map_cons, List.map_nil]); first | done | rfl) ?_; (with_reducible refine (impl_MaximalSets.calls k _ _ l1 t501 _ ?side1 ?side2 A3.out).mono ?_); (case side1 => exact Hof.Cw (Kd.C_below HR1.out HB.out)); (case side2 => exact HC1.out); rintro e w7 ⟨v502, rfl, ho0, hb⟩; refine ⟨_, rfl, ?_⟩; have HO503 := Aside0.mk (Kd.R_lower ho0 (below_size (by repeat (first | (with_reducible first | exact HB.out | apply below_alloc | apply pw_below_drewN | apply below_drew1 | refine below_set ?_ GE500.out) | exact HB.out)))); replace BK500 := Aside0.mk (blk_below (Hof.Bw BK500.out) hb); replace HB := Aside0.mk (below_step (by repeat (first | (with_reducible first | exact HB.out | apply below_alloc | apply pw_below_drewN | apply below_drew1 | refine below_set ?_ GE500.out) | exact HB.out)) hb); (try clear hb); (try clear hb2); (try clear hk); (try clear hi); (try clear ho0); obtain ⟨Ao8, co8, eo8⟩ := Kd.R_slice HO503.out; subst eo8) | ((with_reducible refine gate_dst (N := 6) rfl ?_); refine box_event ?hg (N := 6) ?hd (cs := #[.int .i64 0, .slice none 0 0]) (t := 35) ?hr ?_; (case hd => rfl); (case hg => rfl); (case hr => first | (go_simp; done) | (go_simp; rfl)); intro gb504 hg w9 hbox hb; replace HO503 := Aside0.mk (Kd.R_below (Hof.Rw HO503.out) hb); have BK504 := Aside0.mk hbox; have GW504 := Aside0.mk ((by rw [hg]; exact (below_size (by repeat (first | (with_reducible first | exact HB.out | apply below_alloc | apply pw_below_drewN | apply below_drew1 | refine below_set ?_ GE500.out) | exact HB.out))) : w.heap.size ≤ gb504)); have GE504 := Aside0.mk ((by rw [hg]; exact (below_size (by repeat (first | (with_reducible first | exact HB.out | apply below_alloc | apply pw_below_drewN | apply below_drew1 | refine below_set ?_ GE500.out) | exact HB.out))) : w.heap.size ≤ gb504)); replace HB := Aside0.mk (below_step (by repeat (first | (with_reducible first | exact HB.out | apply below_alloc | apply pw_below_drewN | apply below_drew1 | refine below_set ?_ GE500.out) | exact HB.out)) hb); have NB500_504 := Aside0.mk ((by rw [hg]; exact Nat.ne_of_lt (blk_lt (g := gb500) (o := .cells #[.int .i64 0, .slice none 0 0] 35 (0, 0)) (Hof.Bw BK500.out)) : gb500 ≠ gb504)); have NB504_500 := Aside0.mk ((by rw [hg]; exact Nat.ne_of_gt (blk_lt (g := gb500) (o := .cells #[.int .i64 0, .slice none 0 0] 35 (0, 0)) (Hof.Bw BK500.out)) : gb504 ≠ gb500)); replace BK500 := Aside0.mk (blk_below (Hof.Bw BK500.out) hb); clear hb hbox hg; have hnb10 := NB504_500.out; have hnc10 := NB500_504.out; obtain ⟨hcz11_0, hcz11_1, hfz11_0, hfz11_1⟩ := Hof.blk2 BK504.out) | ((with_reducible refine gate_callee (f := 81) rfl ?_); refine goesL_ (some 12) rfl rfl Try.func81 (by kernel_rfl) rfl #[.agg #[.int .i64 a0, .slice Ao8 t501.length co8]] rfl (by (try simp only [List.map_toArray, List.map_cons, List.map_nil]); first | done | rfl) ?_; (with_reducible refine (impl_IsMatroid.calls k a0 _ _ t501 true _ ?side1 ?side2 A4.out).mono ?_); (case side1 => refine (Kd.R_reads' (e := 3) (base := w.heap.size) (ok := fun k_ => True) (n := t501.length) (c := co8) ?_).2.2; exact (Hof.Rw ((Kd.R_mono (Kd.R_far (p := ⟨gb504, 1, none⟩) (Kd.R_far (p := ⟨gb504, 0, none⟩) (Kd.R_types HO503.out BK504.out (by decide)) (fun _ hk => hk.2) (.int .i64 a0)) (fun _ hk => hk.2) (.slice Ao8 t501.length co8)) (fun _ h_ => h_.1))))); (case side2 => exact (Kd.R_reads' HO503.out).2.1); rintro e w12 ⟨rfl, hb⟩; refine ⟨_, rfl, ?_⟩; replace HO503 := Aside0.mk (Kd.R_below (Hof.Rw ((Kd.R_mono (Kd.R_far (p := ⟨gb504, 1, none⟩) (Kd.R_far (p := ⟨gb504, 0, none⟩) (Kd.R_types HO503.out BK504.out (by decide)) (fun _ hk => hk.2) (.int .i64 a0)) (fun _ hk => hk.2) (.slice Ao8 t501.length co8)) (fun _ h_ => h_.1)))) hb); replace BK500 := Aside0.mk (blk_below (g := gb500) (o := .cells #[.int .i64 0, .slice none 0 0] 35 (0, 0)) (by (with_reducible repeat (first | refine blk_drewN ?_ _ | refine blk_drew ?_ | refine blk_alloc ?_ _)); refine blk_far ?_ NB500_504.out _; (with_reducible repeat (first | refine blk_drewN ?_ _ | refine blk_drew ?_ | refine blk_alloc ?_ _)); refine blk_far ?_ NB500_504.out _; (with_reducible repeat (first | refine blk_drewN ?_ _ | refine blk_drew ?_ | refine blk_alloc ?_ _)); exact BK500.out) hb); replace BK504 := Aside0.mk (blk_below (g := gb504) (o := .cells #[.int .i64 a0, .slice Ao8 t501.length co8] 35 (0, 0)) (by (with_reducible repeat (first | refine blk_drewN ?_ _ | refine blk_drew ?_ | refine blk_alloc ?_ _)); refine blk_put (cs := #[.int .i64 a0, .slice none 0 0]) ?_ 1 _ rfl; (with_reducible repeat (first | refine blk_drewN ?_ _ | refine blk_drew ?_ | refine blk_alloc ?_ _)); refine blk_put (cs := #[.int .i64 0, .slice none 0 0]) ?_ 0 _ rfl; (with_reducible repeat (first | refine blk_drewN ?_ _ | refine blk_drew ?_ | refine blk_alloc ?_ _)); exact BK504.out) hb); replace HB := Aside0.mk (below_step (by repeat (first | (with_reducible first | exact HB.out | apply below_alloc | apply pw_below_drewN | apply below_drew1 | refine below_set ?_ GE500.out | refine below_set ?_ GE504.out) | exact HB.out)) hb); (try clear hb); (try clear hb2); (try clear hk); (try clear hi); obtain ⟨hcz13_0, hcz13_1, hfz13_0, hfz13_1⟩ := Hof.blk2 BK504.out; obtain ⟨hcz14_0, hcz14_1, hfz14_0, hfz14_1⟩ := Hof.blk2 BK500.out))
  refine bodyPost_ret (results_ct rfl _ _ gb500 35 #[.int .i64 a0, .slice Ao8 t501.length co8] (0, 0) _ rfl (by (with_reducible repeat (first | refine blk_drewN ?_ _ | refine blk_drew ?_ | refine blk_alloc ?_ _)); refine blk_put (cs := #[.int .i64 a0, .slice none 0 0]) ?_ 1 _ rfl; (with_reducible repeat (first | refine blk_drewN ?_ _ | refine blk_drew ?_ | refine blk_alloc ?_ _)); refine blk_put (cs := #[.int .i64 0, .slice none 0 0]) ?_ 0 _ rfl; (with_reducible repeat (first | refine blk_drewN ?_ _ | refine blk_drew ?_ | refine blk_alloc ?_ _)); exact BK500.out) Try.underlying35 rfl (by kernel_rfl)) rfl ?_
  exact ⟨_, by first | rfl | (simp [errW_none, errW_some] <;> rfl) | (simp [*, errW_none, errW_some] <;> rfl), by (with_reducible repeat (first | apply Kd.R_alloc | apply Kd.R_drewN | apply Kd.R_drew)); exact Kd.R_mono (Kd.R_far (p := ⟨gb500, 1, none⟩) (Kd.R_far (p := ⟨gb500, 0, none⟩) (Kd.R_types HO503.out BK500.out (by decide)) (fun _ hk => hk.2) (.int .i64 a0)) (fun _ hk => hk.2) (.slice Ao8 t501.length co8)) (fun _ hk => trivial), by repeat (first | (with_reducible first | exact HB.out | apply below_alloc | apply pw_below_drewN | apply below_drew1 | refine below_set ?_ GE500.out | refine below_set ?_ GE504.out) | exact HB.out)⟩
 ·replace c5 := Bool.eq_false_iff.mpr c5
  subst c5
  have H1 : (some (0, ([] : List Int), false)) = some (r1, r2, r3) := by rw [if_neg (show ¬ (false = true) by decide)] at H; exact H
  clear H
  have H := H1
  clear H1
  simp only [Option.some.injEq, Prod.mk.injEq] at H
  obtain ⟨rfl, rfl, rfl⟩ := H
  go_enter Try.func68, Try.ntmps68
  go_wp2_with (first | ((with_reducible refine gate_dst (N := 4) rfl ?_); refine box_event ?hg (N := 4) ?hd (cs := #[.int .i64 0, .slice none 0 0]) (t := 35) ?hr ?_; (case hd => rfl); (case hg => rfl); (case hr => first | (go_simp; done) | (go_simp; rfl)); intro gb500 hg w15 hbox hb; have BK500 := Aside0.mk hbox; have GW500 := Aside0.mk ((by rw [hg]; exact (below_size (Hof.Lw HB.out)) : w.heap.size ≤ gb500)); have GE500 := Aside0.mk ((by rw [hg]; exact (below_size (Hof.Lw HB.out)) : w.heap.size ≤ gb500)); replace HB := Aside0.mk (below_step (Hof.Lw HB.out) hb); clear hb hbox hg) | ((with_reducible refine gate_callee (f := 109) rfl ?_); refine goesL_ (some 9) rfl rfl Try.func109 (by kernel_rfl) rfl #[.slice A1 l1.length c1] rfl (by (try simp only [List.map_toArray, List.map_cons, List.map_nil]); first | done | rfl) ?_; (with_reducible refine (impl_MaximalSets.calls k _ _ l1 t501 _ ?side1 ?side2 A3.out).mono ?_); (case side1 => exact Hof.Cw (Kd.C_below HR1.out HB.out)); (case side2 => exact HC1.out); rintro e w16 ⟨v502, rfl, ho0, hb⟩; refine ⟨_, rfl, ?_⟩; have HO503 := Aside0.mk (Kd.R_lower ho0 (below_size (by repeat (first | (with_reducible first | exact HB.out | apply below_alloc | apply pw_below_drewN | apply below_drew1 | refine below_set ?_ GE500.out) | exact HB.out)))); replace BK500 := Aside0.mk (blk_below (Hof.Bw BK500.out) hb); replace HB := Aside0.mk (below_step (by repeat (first | (with_reducible first | exact HB.out | apply below_alloc | apply pw_below_drewN | apply below_drew1 | refine below_set ?_ GE500.out) | exact HB.out)) hb); (try clear hb); (try clear hb2); (try clear hk); (try clear hi); (try clear ho0); obtain ⟨Ao17, co17, eo17⟩ := Kd.R_slice HO503.out; subst eo17) | ((with_reducible refine gate_dst (N := 6) rfl ?_); refine box_event ?hg (N := 6) ?hd (cs := #[.int .i64 0, .slice none 0 0]) (t := 35) ?hr ?_; (case hd => rfl); (case hg => rfl); (case hr => first | (go_simp; done) | (go_simp; rfl)); intro gb504 hg w18 hbox hb; replace HO503 := Aside0.mk (Kd.R_below (Hof.Rw HO503.out) hb); have BK504 := Aside0.mk hbox; have GW504 := Aside0.mk ((by rw [hg]; exact (below_size (by repeat (first | (with_reducible first | exact HB.out | apply below_alloc | apply pw_below_drewN | apply below_drew1 | refine below_set ?_ GE500.out) | exact HB.out))) : w.heap.size ≤ gb504)); have GE504 := Aside0.mk ((by rw [hg]; exact (below_size (by repeat (first | (with_reducible first | exact HB.out | apply below_alloc | apply pw_below_drewN | apply below_drew1 | refine below_set ?_ GE500.out) | exact HB.out))) : w.heap.size ≤ gb504)); replace HB := Aside0.mk (below_step (by repeat (first | (with_reducible first | exact HB.out | apply below_alloc | apply pw_below_drewN | apply below_drew1 | refine below_set ?_ GE500.out) | exact HB.out)) hb); have NB500_504 := Aside0.mk ((by rw [hg]; exact Nat.ne_of_lt (blk_lt (g := gb500) (o := .cells #[.int .i64 0, .slice none 0 0] 35 (0, 0)) (Hof.Bw BK500.out)) : gb500 ≠ gb504)); have NB504_500 := Aside0.mk ((by rw [hg]; exact Nat.ne_of_gt (blk_lt (g := gb500) (o := .cells #[.int .i64 0, .slice none 0 0] 35 (0, 0)) (Hof.Bw BK500.out)) : gb504 ≠ gb500)); replace BK500 := Aside0.mk (blk_below (Hof.Bw BK500.out) hb); clear hb hbox hg; have hnb19 := NB504_500.out; have hnc19 := NB500_504.out; obtain ⟨hcz20_0, hcz20_1, hfz20_0, hfz20_1⟩ := Hof.blk2 BK504.out) | ((with_reducible refine gate_callee (f := 81) rfl ?_); refine goesL_ (some 12) rfl rfl Try.func81 (by kernel_rfl) rfl #[.agg #[.int .i64 a0, .slice Ao17 t501.length co17]] rfl (by (try simp only [List.map_toArray, List.map_cons, List.map_nil]); first | done | rfl) ?_; (with_reducible refine (impl_IsMatroid.calls k a0 _ _ t501 false _ ?side1 ?side2 A4.out).mono ?_); (case side1 => refine (Kd.R_reads' (e := 3) (base := w.heap.size) (ok := fun k_ => True) (n := t501.length) (c := co17) ?_).2.2; exact (Hof.Rw ((Kd.R_mono (Kd.R_far (p := ⟨gb504, 1, none⟩) (Kd.R_far (p := ⟨gb504, 0, none⟩) (Kd.R_types HO503.out BK504.out (by decide)) (fun _ hk => hk.2) (.int .i64 a0)) (fun _ hk => hk.2) (.slice Ao17 t501.length co17)) (fun _ h_ => h_.1))))); (case side2 => exact (Kd.R_reads' HO503.out).2.1); rintro e w21 ⟨rfl, hb⟩; refine ⟨_, rfl, ?_⟩; replace HO503 := Aside0.mk (Kd.R_below (Hof.Rw ((Kd.R_mono (Kd.R_far (p := ⟨gb504, 1, none⟩) (Kd.R_far (p := ⟨gb504, 0, none⟩) (Kd.R_types HO503.out BK504.out (by decide)) (fun _ hk => hk.2) (.int .i64 a0)) (fun _ hk => hk.2) (.slice Ao17 t501.length co17)) (fun _ h_ => h_.1)))) hb); replace BK500 := Aside0.mk (blk_below (g := gb500) (o := .cells #[.int .i64 0, .slice none 0 0] 35 (0, 0)) (by (with_reducible repeat (first | refine blk_drewN ?_ _ | refine blk_drew ?_ | refine blk_alloc ?_ _)); refine blk_far ?_ NB500_504.out _; (with_reducible repeat (first | refine blk_drewN ?_ _ | refine blk_drew ?_ | refine blk_alloc ?_ _)); refine blk_far ?_ NB500_504.out _; (with_reducible repeat (first | refine blk_drewN ?_ _ | refine blk_drew ?_ | refine blk_alloc ?_ _)); exact BK500.out) hb); replace BK504 := Aside0.mk (blk_below (g := gb504) (o := .cells #[.int .i64 a0, .slice Ao17 t501.length co17] 35 (0, 0)) (by (with_reducible repeat (first | refine blk_drewN ?_ _ | refine blk_drew ?_ | refine blk_alloc ?_ _)); refine blk_put (cs := #[.int .i64 a0, .slice none 0 0]) ?_ 1 _ rfl; (with_reducible repeat (first | refine blk_drewN ?_ _ | refine blk_drew ?_ | refine blk_alloc ?_ _)); refine blk_put (cs := #[.int .i64 0, .slice none 0 0]) ?_ 0 _ rfl; (with_reducible repeat (first | refine blk_drewN ?_ _ | refine blk_drew ?_ | refine blk_alloc ?_ _)); exact BK504.out) hb); replace HB := Aside0.mk (below_step (by repeat (first | (with_reducible first | exact HB.out | apply below_alloc | apply pw_below_drewN | apply below_drew1 | refine below_set ?_ GE500.out | refine below_set ?_ GE504.out) | exact HB.out)) hb); (try clear hb); (try clear hb2); (try clear hk); (try clear hi); obtain ⟨hcz22_0, hcz22_1, hfz22_0, hfz22_1⟩ := Hof.blk2 BK500.out))
  refine bodyPost_ret (results_ct rfl _ _ gb500 35 #[.int .i64 0, .slice none 0 0] (0, 0) _ rfl (by (with_reducible repeat (first | refine blk_drewN ?_ _ | refine blk_drew ?_ | refine blk_alloc ?_ _)); refine blk_put (cs := #[.int .i64 0, .slice none 0 0]) ?_ 1 _ rfl; (with_reducible repeat (first | refine blk_drewN ?_ _ | refine blk_drew ?_ | refine blk_alloc ?_ _)); refine blk_put (cs := #[.int .i64 0, .slice none 0 0]) ?_ 0 _ rfl; (with_reducible repeat (first | refine blk_drewN ?_ _ | refine blk_drew ?_ | refine blk_alloc ?_ _)); exact BK500.out) Try.underlying35 rfl (by kernel_rfl)) rfl ?_
  exact ⟨_, by first | rfl | (simp [errW_none, errW_some] <;> rfl) | (simp [*, errW_none, errW_some] <;> rfl), by first | exact Kd.R_nil _ _ _ _ _ | exact Kd.N_nil _ _ _ _ _ | exact Kd.V_nil _ _ _ _ _ | exact Kd.Q_nil _ _ _ _ _ | exact Kd.S_nil _ _ _ _ _, by repeat (first | (with_reducible first | exact HB.out | apply below_alloc | apply pw_below_drewN | apply below_drew1 | refine below_set ?_ GE500.out | refine below_set ?_ GE504.out) | exact HB.out)⟩
end Go.Proofs.Ytmpodackojmojaa.Pr
end
section
namespace Go.Proofs.Ytmpodackojmojaa.Pr
open Go.RowKit Go.Proofs.YtmpodackojmojaaW.PrintWords Go.Proofs.YtmpodackojmojaaW.PrintLast Go.Proofs.YtmpodackojmojaaW.PrintMore
attribute [local go_sem] max2_int min2_int max_two min_two max_three min_three max_four min_four
set_option linter.unusedVariables false
set_option linter.unusedSimpArgs false
def impl_FullSet.f (a0 : Int) : Option (Int) := (impl_isSize.f a0).bind fun t506 => (if t506 = true then (if 0 ≤ a0 then (some (wrap64 ((shl .i64 1 a0) - 1))) else (none)) else (some 0))
set_option maxHeartbeats 8000000 in
set_option maxRecDepth 100000 in
theorem impl_FullSet.calls (a0 : Int) (r : Int) (w : World) (h : impl_FullSet.f a0 = some r) :
  Calls Try.prog 99 #[.int .i64 a0] w fun e w' => e = .returned (.int .i64 r) ∧ Drawn0 w w' := by
 have H : ((impl_isSize.f a0).bind fun t506 => (if t506 = true then (if 0 ≤ a0 then (some (wrap64 ((shl .i64 1 a0) - 1))) else (none)) else (some 0))) = some r := h
 clear h
 replace H := Option.bind_eq_some_iff.mp H
 obtain ⟨t506, A20, H⟩ := H
 (try dsimp only at H)
 have A2 := Aside0.mk A20
 clear A20
 by_cases c3 : t506 = true
 ·subst c3
  have H1 : (if 0 ≤ a0 then (some (wrap64 ((shl .i64 1 a0) - 1))) else (none)) = some r := by rw [if_pos rfl] at H; exact H
  clear H
  have H := H1
  clear H1
  by_cases c4 : 0 ≤ a0
  ·rw [if_pos c4] at H
   have c4b0 := eq_true c4
   have c4b1 : decide (0 ≤ a0) = true := decide_eq_true c4
   clear c4
   obtain ⟨ji5, hji5⟩ : ∃ j_ : Int, (shl .i64 1 a0) = j_ := ⟨_, rfl⟩
   replace H : (some (wrap64 ((ji5) - 1))) = some r := by first | (rw [hji5] at H; exact H) | (simp only [hji5] at H ⊢; exact H)
   (try rw [hji5] at A2)
   have hji5_ : (IntKind.i64.wrap (1 * 2 ^ min a0.toNat 64)) = ji5 := hji5
   have hji5z : a0 ≤ 64 → (IntKind.i64.wrap (1 * 2 ^ a0.toNat)) = ji5 := shl_small hji5
   have hji5u : (IntKind.i64.wrap (2 ^ min a0.toNat 64)) = ji5 := by have h_ := hji5_; rw [Int.one_mul] at h_; exact h_
   have hji5v : a0 ≤ 64 → (IntKind.i64.wrap (2 ^ a0.toNat)) = ji5 := fun hle_ => by have h_ := hji5z hle_; rw [Int.one_mul] at h_; exact h_
   have hji5y : (wrap64 (1 * 2 ^ min a0.toNat 64)) = ji5 := (i64_w _).symm.trans hji5_
   have hji5x : a0 ≤ 64 → (wrap64 (1 * 2 ^ a0.toNat)) = ji5 := fun h_ => (i64_w _).symm.trans (hji5z h_)
   obtain rfl := Option.some.inj H
   go_enter Try.func99, Try.ntmps99
   go_wp2_with (first | ((with_reducible refine gate_callee (f := 105) rfl ?_); refine goesL_ (some 4) rfl rfl Try.func105 (by kernel_rfl) rfl #[.int .i64 a0] rfl (by (try simp only [List.map_toArray, List.map_cons, List.map_nil]); first | done | rfl) ?_; (with_reducible refine (impl_isSize.calls a0 true _ A2.out).mono ?_); rintro e w' ⟨rfl, ⟨nd, rfl⟩⟩; refine ⟨_, rfl, ?_⟩))
   go_ret
   exact ⟨by first | rfl | (simp; done) | (simp only [← hji5] <;> (first | rfl | simp)) | (simp [*]; done), by repeat (first | exact Drawn0.refl _ | apply Drawn0.step)⟩
  ·rw [if_neg c4] at H
   exact absurd H (by simp)
 ·replace c3 := Bool.eq_false_iff.mpr c3
  subst c3
  have H1 : (some 0) = some r := by rw [if_neg (show ¬ (false = true) by decide)] at H; exact H
  clear H
  have H := H1
  clear H1
  obtain rfl := Option.some.inj H
  go_enter Try.func99, Try.ntmps99
  go_wp2_with (first | ((with_reducible refine gate_callee (f := 105) rfl ?_); refine goesL_ (some 4) rfl rfl Try.func105 (by kernel_rfl) rfl #[.int .i64 a0] rfl (by (try simp only [List.map_toArray, List.map_cons, List.map_nil]); first | done | rfl) ?_; (with_reducible refine (impl_isSize.calls a0 false _ A2.out).mono ?_); rintro e w' ⟨rfl, ⟨nd, rfl⟩⟩; refine ⟨_, rfl, ?_⟩))
  go_ret
  exact ⟨by first | rfl | (simp; done) | (simp [*]; done), by repeat (first | exact Drawn0.refl _ | apply Drawn0.step)⟩
end Go.Proofs.Ytmpodackojmojaa.Pr
end
section
namespace Go.Proofs.Ytmpodackojmojaa.Pr
open Go.RowKit Go.Proofs.YtmpodackojmojaaW.PrintWords Go.Proofs.YtmpodackojmojaaW.PrintLast Go.Proofs.YtmpodackojmojaaW.PrintMore
attribute [local go_sem] max2_int min2_int max_two min_two max_three min_three max_four min_four
set_option linter.unusedVariables false
set_option linter.unusedSimpArgs false
def impl_setsOf.l0 (g : Int → Option Bool) : Nat → Int → List Int → Int → Option (List Int)
 | 0, _, _, _ => none
 | k + 1, x0, x5, x6 => (impl_FullSet.f x0).bind fun t => (if x6 ≤ t then ((g x6).bind fun b => (if b = true then (if x5.length < 17592186044416 then (impl_setsOf.l0 g k x0 (x5 ++ [x6]) (wrap64 (x6 + 1))) else (none)) else (impl_setsOf.l0 g k x0 x5 (wrap64 (x6 + 1))))) else (some x5))
def impl_setsOf.f (k : Nat) (a0 : Int) (g : Int → Option Bool) : Option (List Int) := impl_setsOf.l0 g k a0 [] 0
set_option maxHeartbeats 8000000 in
set_option maxRecDepth 100000 in
theorem impl_setsOf.calls (k : Nat) (a0 : Int) (fv : Value) (g : Int → Option Bool) (r : List Int) (w : World) (hF : Hof.Fun1 Try.prog w fv g) (h : impl_setsOf.f k a0 g = some r) :
  Calls Try.prog 69 #[.int .i64 a0, fv] w fun e w' => ∃ v0_ : Value, e = .returned (v0_) ∧ Kd.R (Kd.int .i64) 3 w' w.heap.size (fun _ => True) v0_ r ∧ Below w.heap.size w w' := by
 have HB := Aside0.mk (Below.refl w.heap.size w)
 obtain ⟨y124, hy124⟩ : ∃ y_ : List Int, y_ = (([] : List Int)) := ⟨_, rfl⟩
 have H : (impl_setsOf.l0 g k a0 y124 0) = some r := by rw [hy124]; exact h
 clear h
 have Ny124 := Aside0.mk hy124
 clear hy124
 have H' := Aside0.mk H
 clear H
 go_enter Try.func69, Try.ntmps69
 go_wp2_with (first | ((with_reducible refine gate_dst (N := 7) rfl ?_); refine Kd.R_lit (Kd.int .i64) _ 3 ?hg (N := 7) ?hd (xs := ([] : List Int)) (inner := []) (ok := fun _ => True) (okp := fun _ => True) ?hr ?hp (fun _ hk => hk) trivial (Below.refl _ _) (Nat.le_refl _) (by simp) ?_; (case hd => rfl); (case hg => rfl); (case hr => first | (go_simp; done) | (go_simp; rfl)); (case hp => exact (Reps.none _ _)); intro v125 w2 ho3 hb hg_ hnew_; clear hg_ hnew_; rw [← Ny124.out] at ho3; have n0_ := Aside0.mk (Kd.R_lower ho3 (below_size HB.out)); have n1_ := Aside0.mk (below_step HB.out hb); clear HB; have HO126 := n0_; have HB := n1_; clear n0_ n1_; clear hb ho3))
 go_loopg [5, 6] k (fun kq v5 v6 w' => ∃ (x5_1 : List Int) (x6_1 : Int), v6 = .int .i64 x6_1 ∧ Aside0 (impl_setsOf.l0 g kq a0 x5_1 x6_1 = some r) ∧ Aside0 (kq ≤ k) ∧ Aside0 (Kd.R (Kd.int .i64) 3 w' w.heap.size (fun _ => True) v5 x5_1) ∧ Aside0 (Below w.heap.size w w'))
 case atStart => exact ⟨y124, 0, rfl, H', ⟨Nat.le_refl _⟩, HO126, HB⟩
 case round =>
  clear H'
  try clear HB
  try clear HO126
  obtain ⟨x5_1, x6_1, rfl, HA, HK1, HO_3, HB⟩ := hrel
  cases gk with
  | zero => exact absurd HA.out (by simp [impl_setsOf.l0])
  | succ k1 =>
   have H := HA.out
   clear HA
   simp only [impl_setsOf.l0] at H
   obtain ⟨t, A40, H⟩ := Option.bind_eq_some_iff.mp H
   have A4 := Aside0.mk A40
   clear A40
   by_cases c4 : x6_1 ≤ t
   ·rw [if_pos c4] at H
    have c4b0 : decide (x6_1 ≤ t) = true := decide_eq_true c4
    clear c4
    obtain ⟨t127, A50, H⟩ := Option.bind_eq_some_iff.mp H
    have A5 := Aside0.mk A50
    clear A50
    by_cases c6 : t127 = true
    ·subst c6
     have H1 : (if x5_1.length < 17592186044416 then (impl_setsOf.l0 g k1 a0 (x5_1 ++ [x6_1]) (wrap64 (x6_1 + 1))) else (none)) = some r := by rw [if_pos rfl] at H; exact H
     clear H
     have H := H1
     clear H1
     by_cases c7 : x5_1.length < 17592186044416
     ·rw [if_pos c7] at H
      have LMc7 := Aside0.mk c7
      clear c7
      obtain ⟨y128, hy128⟩ : ∃ y_ : List Int, y_ = (x5_1 ++ [x6_1]) := ⟨_, rfl⟩
      replace H : (impl_setsOf.l0 g k1 a0 y128 (wrap64 (x6_1 + 1))) = some r := by rw [hy128]; exact H
      have Ny128 := Aside0.mk hy128
      clear hy128
      have H' := Aside0.mk H
      clear H
      go_wp2_with (first | ((with_reducible refine gate_callee (f := 99) rfl ?_); refine goesL_ (some 10) rfl rfl Try.func99 (by kernel_rfl) rfl #[.int .i64 a0] rfl (by (try simp only [List.map_toArray, List.map_cons, List.map_nil]); first | done | rfl) ?_; (with_reducible refine (impl_FullSet.calls a0 t _ A4.out).mono ?_); rintro e w' ⟨rfl, hd⟩; refine ⟨_, rfl, ?_⟩; have n1_ := Aside0.mk (below_step HB.out hd.below); have n0_ := Aside0.mk (Kd.R_below HO_3.out hd.below); clear HB HO_3 hd; have HB := n1_; have HO_3 := n0_; clear n0_ n1_) | ((with_reducible refine gate_dst (N := 16) rfl ?_); refine Hof.goesF_ (some 16) rfl rfl 14 rfl hF A5.out HB.out rfl (by (try simp only [List.map_toArray, List.map_cons, List.map_nil]); first | done | rfl) ?_; intro w5 hb; have n1_ := Aside0.mk (below_step HB.out hb); have n0_ := Aside0.mk (Kd.R_below HO_3.out hb); clear HB HO_3 hb; have HB := n1_; have HO_3 := n0_; clear n0_ n1_) | ((with_reducible refine gate_builtin (b := .append) (xs := #[.tmp 17, .tmp 19]) rfl ?_); at_builtin; refine Kd.R_append (Kd.int .i64) (w0 := w) w.heap.size rfl (.tmp 17) (.tmp 19) 24 3 (.int .i64 0) 8 rfl Try.underlying24 info3 rfl (by decide) (by omega) u5 x5_1 x6_1 [.int .i64 x6_1] (fun _ => True) (fun _ => False) rfl rfl ?aP (fun _ hk => hk.elim) ?aF ?aO ?aB ?aS ?aL ?_; (case aP => exact rfl); (case aB => exact (by repeat (first | (with_reducible first | exact HB.out | apply below_alloc | apply pw_below_drewN | apply below_drew1) | exact HB.out))); (case aF => exact (fun _ _ => trivial)); (case aO => exact (by (with_reducible repeat (first | apply Kd.R_alloc | apply Kd.R_drewN | apply Kd.R_drew)); exact HO_3.out)); (case aS => exact (below_size (by repeat (first | (with_reducible first | exact HB.out | apply below_alloc | apply pw_below_drewN | apply below_drew1) | exact HB.out)))); (case aL => have := LMc7.out; omega); intro v129 w8 ho hb hg hat; rw [← Ny128.out] at ho; have n0_ := Aside0.mk (hb); have n1_ := Aside0.mk (ho); clear HB; clear HO_3; have HB := n0_; have HO130 := n1_; clear n0_ n1_; clear ho hb hg hat))
      go_roundg k1
      case measure => have := HK1.out; omega
      case rel => exact ⟨(y128), (wrap64 (x6_1 + 1)), rfl, H', ⟨by have := HK1.out; omega⟩, HO130, HB⟩
     ·rw [if_neg c7] at H
      exact absurd H (by simp)
    ·replace c6 := Bool.eq_false_iff.mpr c6
     subst c6
     have H1 : (impl_setsOf.l0 g k1 a0 x5_1 (wrap64 (x6_1 + 1))) = some r := by rw [if_neg (show ¬ (false = true) by decide)] at H; exact H
     clear H
     have H' := Aside0.mk H1
     clear H1
     go_wp2_with (first | ((with_reducible refine gate_callee (f := 99) rfl ?_); refine goesL_ (some 10) rfl rfl Try.func99 (by kernel_rfl) rfl #[.int .i64 a0] rfl (by (try simp only [List.map_toArray, List.map_cons, List.map_nil]); first | done | rfl) ?_; (with_reducible refine (impl_FullSet.calls a0 t _ A4.out).mono ?_); rintro e w' ⟨rfl, hd⟩; refine ⟨_, rfl, ?_⟩; have n1_ := Aside0.mk (below_step HB.out hd.below); have n0_ := Aside0.mk (Kd.R_below HO_3.out hd.below); clear HB HO_3 hd; have HB := n1_; have HO_3 := n0_; clear n0_ n1_) | ((with_reducible refine gate_dst (N := 16) rfl ?_); refine Hof.goesF_ (some 16) rfl rfl 14 rfl hF A5.out HB.out rfl (by (try simp only [List.map_toArray, List.map_cons, List.map_nil]); first | done | rfl) ?_; intro w5 hb; have n1_ := Aside0.mk (below_step HB.out hb); have n0_ := Aside0.mk (Kd.R_below HO_3.out hb); clear HB HO_3 hb; have HB := n1_; have HO_3 := n0_; clear n0_ n1_))
     go_roundg k1
     case measure => have := HK1.out; omega
     case rel => exact ⟨x5_1, (wrap64 (x6_1 + 1)), rfl, H', ⟨by have := HK1.out; omega⟩, HO_3, HB⟩
   ·rw [if_neg c4] at H
    have c4b0 : decide (x6_1 ≤ t) = false := decide_eq_false c4
    clear c4
    obtain rfl := Option.some.inj H
    go_wp2_with (first | ((with_reducible refine gate_callee (f := 99) rfl ?_); refine goesL_ (some 10) rfl rfl Try.func99 (by kernel_rfl) rfl #[.int .i64 a0] rfl (by (try simp only [List.map_toArray, List.map_cons, List.map_nil]); first | done | rfl) ?_; (with_reducible refine (impl_FullSet.calls a0 t _ A4.out).mono ?_); rintro e w' ⟨rfl, hd⟩; refine ⟨_, rfl, ?_⟩; have n1_ := Aside0.mk (below_step HB.out hd.below); have n0_ := Aside0.mk (Kd.R_below HO_3.out hd.below); clear HB HO_3 hd; have HB := n1_; have HO_3 := n0_; clear n0_ n1_))
    go_ret
    exact ⟨_, rfl, HO_3.out, HB.out⟩
end Go.Proofs.Ytmpodackojmojaa.Pr
end
section
namespace Go.Proofs.Ytmpodackojmojaa.Pr
open Go.RowKit Go.Proofs.YtmpodackojmojaaW.PrintWords Go.Proofs.YtmpodackojmojaaW.PrintLast Go.Proofs.YtmpodackojmojaaW.PrintMore
attribute [local go_sem] max2_int min2_int max_two min_two max_three min_three max_four min_four
set_option linter.unusedVariables false
set_option linter.unusedSimpArgs false
def impl_TaskMatroid_1.f (k : Nat) (l0 : List S73) (s : Int) : Option Bool := (impl_PlanOf.f k l0 s).bind fun t => some t.2
theorem impl_TaskMatroid_1.mono (l0 : List S73) (s : Int) (k : Nat) : LeO (impl_TaskMatroid_1.f k l0 s) (impl_TaskMatroid_1.f (k + 1) l0 s) := LeO.bind (impl_PlanOf.mono _ _ _) fun _ => LeO.refl _
set_option maxHeartbeats 8000000 in
set_option maxRecDepth 100000 in
theorem impl_TaskMatroid_1.calls (k : Nat) (A0 : Option Addr) (c0 : Nat) (l0 : List S73) (s : Int) (b : Bool) (gb : Nat) (w : World) (hbk : w.heap[gb]? = some (.cells #[.slice A0 l0.length c0] 27 (0, 0))) (hr0 : Kd.C k73 w A0 l0.length l0) (hc0 : l0.length ≤ c0) (h : impl_TaskMatroid_1.f k l0 s = some b) :
  Calls Try.prog 70 #[.int .i64 s, .pointer (some ⟨gb, 0, none⟩)] w fun e w' => e = .returned (.bool b) ∧ Below w.heap.size w w' := by
 have HR := Aside0.mk hr0
 have HC := Aside0.mk hc0
 have hcz5_0 : w.cell? ⟨gb, 0, none⟩ = some (.slice A0 l0.length c0) := (blk_cell hbk 0).trans rfl
 clear hr0 hc0 hbk
 unfold impl_TaskMatroid_1.f at h
 obtain ⟨⟨t, b'⟩, h1, h⟩ := Option.bind_eq_some_iff.mp h
 have A1 := Aside0.mk h1
 clear h1
 obtain rfl := Option.some.inj h
 clear h
 go_enter Try.func70, Try.ntmps70
 go_wp2_with (first | ((with_reducible refine gate_callee (f := 15) rfl ?_); refine goesL_ (some 9) rfl rfl Try.func15 (by kernel_rfl) rfl #[.slice A0 l0.length c0, .int .i64 s] rfl (by (try simp only [List.map_toArray, List.map_cons, List.map_nil]); first | done | rfl) ?_; (with_reducible refine (impl_PlanOf.calls k _ _ l0 s t b' _ HR.out HC.out A1.out).mono ?_); rintro e w6 ⟨v1, rfl, ho, hb⟩; refine ⟨_, rfl, ?_⟩; have HB := Aside0.mk hb; clear hb ho))
 go_ret
 exact ⟨rfl, HB.out⟩
theorem impl_TaskMatroid_1.fun1 (k : Nat) (A0 : Option Addr) (c0 : Nat) (l0 : List S73) (gb : Nat) (w : World) (hbk : w.heap[gb]? = some (.cells #[.slice A0 l0.length c0] 27 (0, 0))) (hr : Kd.C k73 w A0 l0.length l0) (hc : l0.length ≤ c0) :
  Hof.Fun1 Try.prog w (.func (.func 70) #[] #[.pointer (some ⟨gb, 0, none⟩)]) (fun s => impl_TaskMatroid_1.f k l0 s) :=
 ⟨⟨70, #[.pointer (some ⟨gb, 0, none⟩)], Try.f70, rfl, Try.func70, by kernel_rfl, rfl, fun s b w' hw hg => impl_TaskMatroid_1.calls k A0 c0 l0 s b gb w' (blk_below hbk hw) (Kd.C_below hr hw) hc hg⟩⟩
def impl_TaskMatroid.f (k : Nat) (l0 : List S73) : Option (Int × List Int) := (impl_AreTasks.f k l0).bind fun t894 => (if t894 = true then ((impl_setsOf.f k (l0.length : Int) (fun s => impl_TaskMatroid_1.f k l0 s)).bind fun t895 => ((impl_fromIndependent.f k (l0.length : Int) t895).bind fun bt898 => (some (bt898.1, bt898.2.1)))) else (some (0, ([] : List Int))))
def impl_TaskMatroid.T3 : Bool × List (List Nat × List Nat) := (true, [([], []), ([0], [0]), ([], []), ([2], [2]), ([], []), ([3, 4], [3, 4]), ([1, 5, 5], [1, 5]), ([6], [6]), ([7], [7]), ([7], [7]), ([], []), ([10, 8, 6, 0, 1, 2, 3, 4, 5, 6, 7, 8, 10], [8, 10]), ([9, 11, 0, 1, 2, 3, 4, 5, 6, 7, 8, 9, 10, 11], [9])])
def impl_TaskMatroid.B3 : List Nat := [0, 1, 0, 4, 0, 28, 63, 127, 255, 255, 0, 1535, 4095]
theorem impl_TaskMatroid.tab3 : rtab .any (opsOf Try.f22 3) = impl_TaskMatroid.T3 := by kernel_rfl
theorem impl_TaskMatroid.bits3 : waitsOk impl_TaskMatroid.T3.2 impl_TaskMatroid.B3 = true := by kernel_rfl
set_option maxHeartbeats 8000000 in
set_option maxRecDepth 100000 in
theorem impl_TaskMatroid.calls (k : Nat) (A0 : Option Addr) (c0 : Nat) (l0 : List S73) (r1 : Int) (r2 : List Int) (w : World) (hr0 : Kd.C k73 w A0 l0.length l0) (hc0 : l0.length ≤ c0) (h : impl_TaskMatroid.f k l0 = some (r1, r2)) :
  Calls Try.prog 22 #[.slice A0 l0.length c0] w fun e w' => ∃ v1_ : Value, e = .returned (.agg #[.int .i64 r1, v1_]) ∧ Kd.R (Kd.int .i64) 3 w' w.heap.size (fun _ => True) v1_ r2 ∧ Below w.heap.size w w' := by
 have hu35 := Try.underlying35
 have HR0 := Aside0.mk hr0
 have HC0 := Aside0.mk hc0
 clear hr0 hc0
 have HB := Aside0.mk (Below.refl w.heap.size w)
 have H : ((impl_AreTasks.f k l0).bind fun t894 => (if t894 = true then ((impl_setsOf.f k (l0.length : Int) (fun s => impl_TaskMatroid_1.f k l0 s)).bind fun t895 => ((impl_fromIndependent.f k (l0.length : Int) t895).bind fun bt898 => (some (bt898.1, bt898.2.1)))) else (some (0, ([] : List Int))))) = some (r1, r2) := h
 clear h
 replace H := Option.bind_eq_some_iff.mp H
 obtain ⟨t894, A20, H⟩ := H
 (try dsimp only at H)
 have A2 := Aside0.mk A20
 clear A20
 by_cases c3 : t894 = true
 ·subst c3
  have H1 : ((impl_setsOf.f k (l0.length : Int) (fun s => impl_TaskMatroid_1.f k l0 s)).bind fun t895 => ((impl_fromIndependent.f k (l0.length : Int) t895).bind fun bt898 => (some (bt898.1, bt898.2.1)))) = some (r1, r2) := by rw [if_pos rfl] at H; exact H
  clear H
  have H := H1
  clear H1
  replace H := Option.bind_eq_some_iff.mp H
  obtain ⟨t895, A40, H⟩ := H
  (try dsimp only at H)
  have A4 := Aside0.mk A40
  clear A40
  replace H := Option.bind_eq_some_iff.mp H
  obtain ⟨⟨t898, t899, t902⟩, A50, H⟩ := H
  (try dsimp only at H)
  have A5 := Aside0.mk A50
  clear A50
  simp only [Option.some.injEq, Prod.mk.injEq] at H
  obtain ⟨rfl, rfl⟩ := H
  go_enter Try.func22, Try.ntmps22
  try go_wp2_with (first | ((with_reducible refine gate_dst (N := 1) rfl ?_); refine box_event ?hg (N := 1) ?hd (cs := #[.slice A0 l0.length c0]) (t := 27) ?hr ?_; (case hd => rfl); (case hg => rfl); (case hr => first | (go_simp; done) | (go_simp; rfl)); intro gb892 hg w6 hbox hb; have BK892 := Aside0.mk hbox; have GW892 := Aside0.mk ((by rw [hg]; exact (below_size (Hof.Lw HB.out)) : w.heap.size ≤ gb892)); have GE892 := Aside0.mk ((by rw [hg]; exact (below_size (Hof.Lw HB.out)) : w.heap.size ≤ gb892)); replace HB := Aside0.mk (below_step (Hof.Lw HB.out) hb); clear hb hbox hg) | ((with_reducible refine gate_dst (N := 2) rfl ?_); refine box_event ?hg (N := 2) ?hd (cs := #[.int .i64 0, .slice none 0 0]) (t := 35) ?hr ?_; (case hd => rfl); (case hg => rfl); (case hr => first | (go_simp; done) | (go_simp; rfl)); intro gb893 hg w7 hbox hb; have BK893 := Aside0.mk hbox; have GW893 := Aside0.mk ((by rw [hg]; exact (below_size (Hof.Lw HB.out)) : w.heap.size ≤ gb893)); have GE893 := Aside0.mk ((by rw [hg]; exact (below_size (Hof.Lw HB.out)) : w.heap.size ≤ gb893)); replace HB := Aside0.mk (below_step (Hof.Lw HB.out) hb); have NB892_893 := Aside0.mk ((by rw [hg]; exact Nat.ne_of_lt (blk_lt (g := gb892) (o := .cells #[.slice A0 l0.length c0] 27 (0, 0)) (Hof.Bw BK892.out)) : gb892 ≠ gb893)); have NB893_892 := Aside0.mk ((by rw [hg]; exact Nat.ne_of_gt (blk_lt (g := gb892) (o := .cells #[.slice A0 l0.length c0] 27 (0, 0)) (Hof.Bw BK892.out)) : gb893 ≠ gb892)); replace BK892 := Aside0.mk (blk_below (Hof.Bw BK892.out) hb); clear hb hbox hg; have hnb8 := NB892_893.out; have hnc8 := NB893_892.out; obtain ⟨hcz9_0, hfz9_0⟩ := Hof.blk1 BK892.out) | ((with_reducible refine gate_callee (f := 60) rfl ?_); refine goesL_ (some 6) rfl rfl Try.func60 (by kernel_rfl) rfl #[.slice A0 l0.length c0] rfl (by (try simp only [List.map_toArray, List.map_cons, List.map_nil]); first | done | rfl) ?_; (with_reducible refine (impl_AreTasks.calls k _ _ l0 true _ ?side1 ?side2 A2.out).mono ?_); (case side1 => exact Hof.Cw (Kd.C_below HR0.out HB.out)); (case side2 => exact HC0.out); rintro e w10 ⟨rfl, hb⟩; refine ⟨_, rfl, ?_⟩; replace BK892 := Aside0.mk (blk_below (Hof.Bw BK892.out) hb); replace BK893 := Aside0.mk (blk_below (Hof.Bw BK893.out) hb); replace HB := Aside0.mk (below_step (Hof.Lw HB.out) hb); (try clear hb); (try clear hb2); (try clear hk); (try clear hi)))
  have n0_ := Aside0.mk (blk_drew BK892.out)
  have n1_ := Aside0.mk (blk_drew BK893.out)
  have n2_ := Aside0.mk (below_drew1 HB.out)
  clear BK892
  clear BK893
  clear HB
  have BK892 := n0_
  have BK893 := n1_
  have HB := n2_
  clear n0_ n1_ n2_
  refine start_ (n := 13) (S := fun w' => w'.cell? ⟨gb892, 0, none⟩ = some (.slice A0 l0.length c0)) (ds := []) #[false, false, false, false, false, false, false, false, false, false, false, false, false] (by kernel_rfl) rfl rfl ((blk_cell BK892.out 0).trans rfl) (fun hHeld => ?_); refine with_tabW impl_TaskMatroid.tab3 impl_TaskMatroid.bits3 (fun HT_ HW_ => ?_)
  generalize w10.drew = w11 at BK892 BK893 HB hHeld ⊢
  refine take_ (i := 0) (N := some 10) (v := ?_) (a' := ?_) #[true, false, false, false, false, false, false, false, false, false, false, false, false] rfl rfl (take_ofW HT_.out HW_.out (by kernel_rfl)) (fun _ _ _ h => h) (Or.inl ⟨by rfl, ?_⟩) hHeld ?_ ?_
  rotate_left
  ·rintro w' s0
   go_simp
   with_reducible rfl
  rotate_left
  ·simp only [Act.put, List.setIfInBounds_toArray, List.set_cons_zero, List.set_cons_succ, i64_w, i32_w]
   rfl
  refine take_ (i := 2) (N := some 12) (v := ?_) (a' := ?_) #[true, false, true, false, false, false, false, false, false, false, false, false, false] rfl rfl (take_ofW HT_.out HW_.out (by kernel_rfl)) (fun _ _ _ h => h) (Or.inl ⟨by rfl, ?_⟩) hHeld ?_ ?_
  rotate_left
  ·rintro w' s0
   go_simp
   with_reducible rfl
  rotate_left
  ·simp only [Act.put, List.setIfInBounds_toArray, List.set_cons_zero, List.set_cons_succ, i64_w, i32_w]
   rfl
  refine pure_ (i := 1) (N := some 11) (v := ?_) (a' := ?_) #[true, true, true, false, false, false, false, false, false, false, false, false, false] rfl rfl (any_of HT_.out (by kernel_rfl)) (fun _ _ _ h => h) (Or.inl ⟨by rfl, ?_⟩) ?_ ?_
  rotate_left
  ·intro w'
   go_simp
   with_reducible rfl
  rotate_left
  ·simp only [Act.put, List.setIfInBounds_toArray, List.set_cons_zero, List.set_cons_succ, i64_w, i32_w]
   rfl
  refine pure_ (i := 3) (N := some 13) (v := ?_) (a' := ?_) #[true, true, true, true, false, false, false, false, false, false, false, false, false] rfl rfl (any_of HT_.out (by kernel_rfl)) (fun _ _ _ h => h) (Or.inl ⟨by rfl, ?_⟩) ?_ ?_
  rotate_left
  ·intro w'
   go_simp
   with_reducible rfl
  rotate_left
  ·simp only [Act.put, List.setIfInBounds_toArray, List.set_cons_zero, List.set_cons_succ, i64_w, i32_w]
   rfl
  refine pure_ (i := 4) (N := some 14) (v := ?_) (a' := ?_) #[true, true, true, true, true, false, false, false, false, false, false, false, false] rfl rfl (any_of HT_.out (by kernel_rfl)) (fun _ _ _ h => h) (Or.inl ⟨by rfl, ?_⟩) ?_ ?_
  rotate_left
  ·intro w'
   go_simp
   with_reducible rfl
  rotate_left
  ·simp only [Act.put, List.setIfInBounds_toArray, List.set_cons_zero, List.set_cons_succ, i64_w, i32_w]
   rfl
  refine join_ (σ := Value × Value × Nat) 2 #[true, true, true, true, true, true, true, true, true, true, true, false, false] (fun s_ => [(15, s_.1), (16, .tuple #[.agg #[.int .i64 t898, s_.2.1], .bool t902]), (3, .pointer (some ⟨s_.2.2, 0, none⟩)), (9, .tuple #[.agg #[.int .i64 t898, s_.2.1], .bool t902]), (17, .agg #[.int .i64 t898, s_.2.1]), (18, .bool t902)]) (fun s_ w' => (w'.cell? ⟨gb892, 0, none⟩ = some (.slice A0 l0.length c0)) ∧ (Kd.R (Kd.int .i64) 3 w' w.heap.size (fun k_ => some k_ ≠ (s_.2.1 : Value).ownBlock) s_.1 t895) ∧ (Kd.R (Kd.int .i64) 3 w' w.heap.size (fun k_ => some k_ ≠ (s_.1 : Value).ownBlock) s_.2.1 t899) ∧ (w'.heap[gb892]? = some (.cells #[.slice A0 l0.length c0] 27 (0, 0))) ∧ (w'.heap[gb893]? = some (.cells #[.int .i64 0, .slice none 0 0] 35 (0, 0))) ∧ (w'.heap[s_.2.2]? = some (.cells #[.int .i64 0, .slice none 0 0] 35 (0, 0))) ∧ (w.heap.size ≤ s_.2.2) ∧ (w.heap.size ≤ s_.2.2) ∧ (gb892 ≠ s_.2.2) ∧ (s_.2.2 ≠ gb892) ∧ (gb893 ≠ s_.2.2) ∧ (s_.2.2 ≠ gb893) ∧ (Below w.heap.size w w')) ?_ ?_
  rotate_left
  ·intro hCont
   refine two_ (i := 5) (j := 10) (Ni := some 15) (Nj := some 3) #[true, true, true, true, true, true, false, false, false, false, false, false, false] #[true, true, true, true, true, false, false, false, false, false, true, false, false] rfl rfl rfl rfl (two_of HT_.out (by kernel_rfl)) (by decide) (by decide) (fun K hK => ?_) (fun K hK => ?_)
   ·skip
    refine goes_ Try.func69 (by kernel_rfl) rfl #[.int .i64 (l0.length : Int), .func (.func 70) #[] #[.pointer (some ⟨gb892, 0, none⟩)]] (by rfl) rfl rfl (by (try simp only [List.map_toArray, List.map_cons, List.map_nil]); first | done | rfl) ?_
    with_reducible refine (impl_setsOf.calls k (l0.length : Int) (.func (.func 70) #[] #[.pointer (some ⟨gb892, 0, none⟩)]) (fun s => impl_TaskMatroid_1.f k l0 s) t895 _ (impl_TaskMatroid_1.fun1 k _ c0 l0 gb892 _ BK892.out (Kd.C_below HR0.out HB.out) HC0.out) A4.out).mono ?_
    rintro e w12 ⟨v896, rfl, ho0, hb⟩
    refine ⟨_, rfl, ?_⟩
    have n0_ := Aside0.mk (Kd.R_lower ho0 (below_size (Hof.Lw HB.out)))
    have n1_ := Aside0.mk (blk_below (Hof.Bw BK892.out) hb)
    have n2_ := Aside0.mk (blk_below (Hof.Bw BK893.out) hb)
    have n3_ := Aside0.mk (below_step (Hof.Lw HB.out) hb)
    clear BK892
    clear BK893
    clear HB
    have HO897 := n0_
    have BK892 := n1_
    have BK893 := n2_
    have HB := n3_
    clear n0_ n1_ n2_ n3_
    (try clear hb)
    (try clear hb2)
    (try clear hk)
    (try clear hi)
    (try clear ho0)
    obtain ⟨Ao13, co13, eo13⟩ := Kd.R_slice HO897.out
    (first | subst eo13 | (injection eo13 with f1_ f2_ f3_; have f4_ := f1_.symm; have f5_ := f3_.symm; clear f1_ f2_ f3_; subst f4_; subst f5_))
    refine hK.out _ _ ((blk_cell BK892.out 0).trans rfl) (fun hHeld => ?_)
    clear hK K
    refine norm_ (a' := ?_) ?_ ?_
    rotate_left
    ·show Act.put _ (some 15) _ = _
     simp only [Act.put, List.setIfInBounds_toArray, List.set_cons_zero, List.set_cons_succ, i64_w, i32_w]
     rfl
    refine two_ (i := 6) (j := 10) (Ni := some 16) (Nj := some 3) #[true, true, true, true, true, true, true, false, false, false, false, false, false] #[true, true, true, true, true, true, false, false, false, false, true, false, false] rfl rfl rfl rfl (two_of HT_.out (by kernel_rfl)) (by decide) (by decide) (fun K hK => ?_) (fun K hK => ?_)
    ·skip
     refine goes_ Try.func68 (by kernel_rfl) rfl #[.int .i64 (l0.length : Int), .slice Ao13 t895.length co13] (by rfl) rfl rfl (by (try simp only [List.map_toArray, List.map_cons, List.map_nil]); first | done | rfl) ?_
     with_reducible refine (impl_fromIndependent.calls k (l0.length : Int) _ _ t895 t898 t899 t902 _ ?side1 ?side2 A5.out).mono ?_
     (case side1 => exact Hof.Cw ((Kd.R_reads' HO897.out).2.2))
     (case side2 => exact (Kd.R_reads' HO897.out).2.1)
     rintro e w14 ⟨v900, rfl, ho0, hb⟩
     refine ⟨_, rfl, ?_⟩
     have n0_ := Aside0.mk (Kd.R_elder' (Hof.Rw HO897.out) (Kd.R_base ho0) hb)
     have n1_ := Aside0.mk (Kd.R_lower (Kd.R_new' ho0 (Kd.R_lt (Hof.Rw HO897.out))) (below_size (Hof.Lw HB.out)))
     have n2_ := Aside0.mk (blk_below (Hof.Bw BK892.out) hb)
     have n3_ := Aside0.mk (blk_below (Hof.Bw BK893.out) hb)
     have n4_ := Aside0.mk (below_step (Hof.Lw HB.out) hb)
     clear HO897
     clear BK892
     clear BK893
     clear HB
     have HO897 := n0_
     have HO901 := n1_
     have BK892 := n2_
     have BK893 := n3_
     have HB := n4_
     clear n0_ n1_ n2_ n3_ n4_
     (try clear hb)
     (try clear hb2)
     (try clear hk)
     (try clear hi)
     (try clear ho0)
     refine hK.out _ _ ((blk_cell BK892.out 0).trans rfl) (fun hHeld => ?_)
     clear hK K
     refine norm_ (a' := ?_) ?_ ?_
     rotate_left
     ·show Act.put _ (some 16) _ = _
      simp only [Act.put, List.setIfInBounds_toArray, List.set_cons_zero, List.set_cons_succ, i64_w, i32_w]
      rfl
     refine pure_ (i := 7) (N := some 9) (v := ?_) (a' := ?_) #[true, true, true, true, true, true, true, true, false, false, false, false, false] rfl rfl (any_of HT_.out (by kernel_rfl)) (fun _ _ _ h => h) (Or.inl ⟨by rfl, ?_⟩) ?_ ?_
     rotate_left
     ·intro w'
      go_simp
      with_reducible rfl
     rotate_left
     ·simp only [Act.put, List.setIfInBounds_toArray, List.set_cons_zero, List.set_cons_succ, i64_w, i32_w]
      rfl
     refine pure_ (i := 8) (N := some 17) (v := ?_) (a' := ?_) #[true, true, true, true, true, true, true, true, true, false, false, false, false] rfl rfl (any_of HT_.out (by kernel_rfl)) (fun _ _ _ h => h) (Or.inl ⟨by rfl, ?_⟩) ?_ ?_
     rotate_left
     ·intro w'
      go_simp
      with_reducible rfl
     rotate_left
     ·simp only [Act.put, List.setIfInBounds_toArray, List.set_cons_zero, List.set_cons_succ, i64_w, i32_w]
      rfl
     refine pure_ (i := 9) (N := some 18) (v := ?_) (a' := ?_) #[true, true, true, true, true, true, true, true, true, true, false, false, false] rfl rfl (any_of HT_.out (by kernel_rfl)) (fun _ _ _ h => h) (Or.inl ⟨by rfl, ?_⟩) ?_ ?_
     rotate_left
     ·intro w'
      go_simp
      with_reducible rfl
     rotate_left
     ·simp only [Act.put, List.setIfInBounds_toArray, List.set_cons_zero, List.set_cons_succ, i64_w, i32_w]
      rfl
     refine one_ (i := 10) (N := some 3) #[true, true, true, true, true, true, true, true, true, true, true, false, false] rfl rfl (one_of HT_.out (by kernel_rfl)) (by decide) (fun K hK => ?_)
     refine box_step ?hg (N := 3) ?hd (cs := #[.int .i64 0, .slice none 0 0]) (t := 35) ?hr ?_; (case hd => rfl); (case hg => rfl); (case hr => first | (go_simp; done) | (go_simp; rfl))
     intro gb903 hg w15 hbox hb
     have n0_ := Aside0.mk (Kd.R_below (Hof.Rw HO897.out) hb)
     have n1_ := Aside0.mk (Kd.R_below (Hof.Rw HO901.out) hb)
     have n2_ := Aside0.mk (blk_below (Hof.Bw BK892.out) hb)
     have n3_ := Aside0.mk (blk_below (Hof.Bw BK893.out) hb)
     have n4_ := Aside0.mk (below_step (Hof.Lw HB.out) hb)
     have n5_ := Aside0.mk hbox
     have n6_ := Aside0.mk ((by rw [hg]; exact (below_size (Hof.Lw HB.out)) : w.heap.size ≤ gb903))
     have n7_ := Aside0.mk ((by rw [hg]; exact (below_size (Hof.Lw HB.out)) : w.heap.size ≤ gb903))
     have n8_ := Aside0.mk ((by rw [hg]; exact Nat.ne_of_lt (blk_lt (g := gb892) (o := .cells #[.slice A0 l0.length c0] 27 (0, 0)) (Hof.Bw BK892.out)) : gb892 ≠ gb903))
     have n9_ := Aside0.mk ((by rw [hg]; exact Nat.ne_of_gt (blk_lt (g := gb892) (o := .cells #[.slice A0 l0.length c0] 27 (0, 0)) (Hof.Bw BK892.out)) : gb903 ≠ gb892))
     have n10_ := Aside0.mk ((by rw [hg]; exact Nat.ne_of_lt (blk_lt (g := gb893) (o := .cells #[.int .i64 0, .slice none 0 0] 35 (0, 0)) (Hof.Bw BK893.out)) : gb893 ≠ gb903))
     have n11_ := Aside0.mk ((by rw [hg]; exact Nat.ne_of_gt (blk_lt (g := gb893) (o := .cells #[.int .i64 0, .slice none 0 0] 35 (0, 0)) (Hof.Bw BK893.out)) : gb903 ≠ gb893))
     clear HO897
     clear HO901
     clear BK892
     clear BK893
     clear HB
     have HO897 := n0_
     have HO901 := n1_
     have BK892 := n2_
     have BK893 := n3_
     have HB := n4_
     have BK903 := n5_
     have GW903 := n6_
     have GE903 := n7_
     have NB892_903 := n8_
     have NB903_892 := n9_
     have NB893_903 := n10_
     have NB903_893 := n11_
     clear n0_ n1_ n2_ n3_ n4_ n5_ n6_ n7_ n8_ n9_ n10_ n11_
     clear hb hbox hg
     refine hK.out _ _ ((blk_cell BK892.out 0).trans rfl) (fun hHeld => ?_)
     clear hK K
     refine norm_ (a' := ?_) ?_ ?_
     rotate_left
     ·show Act.put _ (some 3) _ = _
      simp only [Act.put, List.setIfInBounds_toArray, List.set_cons_zero, List.set_cons_succ, i64_w, i32_w]
      rfl
     exact norm_ (by simp only [putAll, Act.put, List.setIfInBounds_toArray, List.set_cons_zero, List.set_cons_succ]) (hCont (.slice Ao13 t895.length co13, v900, gb903) _ ⟨hHeld, (Hof.Rw (Kd.R_mono HO897.out (fun _ hk => hk.2))), (Hof.Rw (Kd.R_mono HO901.out (fun _ hk => hk.2))), (Hof.Bw BK892.out), (Hof.Bw BK893.out), (Hof.Bw BK903.out), GW903.out, GE903.out, NB892_903.out, NB903_892.out, NB893_903.out, NB903_893.out, (Hof.Lw HB.out)⟩)
    ·skip
     refine box_step ?hg (N := 3) ?hd (cs := #[.int .i64 0, .slice none 0 0]) (t := 35) ?hr ?_; (case hd => rfl); (case hg => rfl); (case hr => first | (go_simp; done) | (go_simp; rfl))
     intro gb903 hg w13 hbox hb
     have n0_ := Aside0.mk (Kd.R_below (Hof.Rw HO897.out) hb)
     have n1_ := Aside0.mk (blk_below (Hof.Bw BK892.out) hb)
     have n2_ := Aside0.mk (blk_below (Hof.Bw BK893.out) hb)
     have n3_ := Aside0.mk (below_step (Hof.Lw HB.out) hb)
     have n4_ := Aside0.mk hbox
     have n5_ := Aside0.mk ((by rw [hg]; exact (below_size (Hof.Lw HB.out)) : w.heap.size ≤ gb903))
     have n6_ := Aside0.mk ((by rw [hg]; exact (below_size (Hof.Lw HB.out)) : w.heap.size ≤ gb903))
     have n7_ := Aside0.mk ((by rw [hg]; exact Nat.ne_of_lt (blk_lt (g := gb892) (o := .cells #[.slice A0 l0.length c0] 27 (0, 0)) (Hof.Bw BK892.out)) : gb892 ≠ gb903))
     have n8_ := Aside0.mk ((by rw [hg]; exact Nat.ne_of_gt (blk_lt (g := gb892) (o := .cells #[.slice A0 l0.length c0] 27 (0, 0)) (Hof.Bw BK892.out)) : gb903 ≠ gb892))
     have n9_ := Aside0.mk ((by rw [hg]; exact Nat.ne_of_lt (blk_lt (g := gb893) (o := .cells #[.int .i64 0, .slice none 0 0] 35 (0, 0)) (Hof.Bw BK893.out)) : gb893 ≠ gb903))
     have n10_ := Aside0.mk ((by rw [hg]; exact Nat.ne_of_gt (blk_lt (g := gb893) (o := .cells #[.int .i64 0, .slice none 0 0] 35 (0, 0)) (Hof.Bw BK893.out)) : gb903 ≠ gb893))
     clear HO897
     clear BK892
     clear BK893
     clear HB
     have HO897 := n0_
     have BK892 := n1_
     have BK893 := n2_
     have HB := n3_
     have BK903 := n4_
     have GW903 := n5_
     have GE903 := n6_
     have NB892_903 := n7_
     have NB903_892 := n8_
     have NB893_903 := n9_
     have NB903_893 := n10_
     clear n0_ n1_ n2_ n3_ n4_ n5_ n6_ n7_ n8_ n9_ n10_
     clear hb hbox hg
     obtain ⟨Ao14, co14, eo14⟩ := Kd.R_slice HO897.out
     (first | subst eo14 | (injection eo14 with f1_ f2_ f3_; have f4_ := f1_.symm; have f5_ := f3_.symm; clear f1_ f2_ f3_; subst f4_; subst f5_))
     refine hK.out _ _ ((blk_cell BK892.out 0).trans rfl) (fun hHeld => ?_)
     clear hK K
     refine norm_ (a' := ?_) ?_ ?_
     rotate_left
     ·show Act.put _ (some 3) _ = _
      simp only [Act.put, List.setIfInBounds_toArray, List.set_cons_zero, List.set_cons_succ, i64_w, i32_w]
      rfl
     refine one_ (i := 6) (N := some 16) #[true, true, true, true, true, true, true, false, false, false, true, false, false] rfl rfl (one_of HT_.out (by kernel_rfl)) (by decide) (fun K hK => ?_)
     refine goes_ Try.func68 (by kernel_rfl) rfl #[.int .i64 (l0.length : Int), .slice Ao14 t895.length co14] (by rfl) rfl rfl (by (try simp only [List.map_toArray, List.map_cons, List.map_nil]); first | done | rfl) ?_
     with_reducible refine (impl_fromIndependent.calls k (l0.length : Int) _ _ t895 t898 t899 t902 _ ?side1 ?side2 A5.out).mono ?_
     (case side1 => exact Hof.Cw ((Kd.R_reads' HO897.out).2.2))
     (case side2 => exact (Kd.R_reads' HO897.out).2.1)
     rintro e w15 ⟨v900, rfl, ho0, hb⟩
     refine ⟨_, rfl, ?_⟩
     have n0_ := Aside0.mk (Kd.R_elder' (Hof.Rw HO897.out) (Kd.R_base ho0) hb)
     have n1_ := Aside0.mk (Kd.R_lower (Kd.R_new' ho0 (Kd.R_lt (Hof.Rw HO897.out))) (below_size (Hof.Lw HB.out)))
     have n2_ := Aside0.mk (blk_below (Hof.Bw BK892.out) hb)
     have n3_ := Aside0.mk (blk_below (Hof.Bw BK893.out) hb)
     have n4_ := Aside0.mk (blk_below (Hof.Bw BK903.out) hb)
     have n5_ := Aside0.mk (below_step (Hof.Lw HB.out) hb)
     clear HO897
     clear BK892
     clear BK893
     clear BK903
     clear HB
     have HO897 := n0_
     have HO901 := n1_
     have BK892 := n2_
     have BK893 := n3_
     have BK903 := n4_
     have HB := n5_
     clear n0_ n1_ n2_ n3_ n4_ n5_
     (try clear hb)
     (try clear hb2)
     (try clear hk)
     (try clear hi)
     (try clear ho0)
     refine hK.out _ _ ((blk_cell BK892.out 0).trans rfl) (fun hHeld => ?_)
     clear hK K
     refine norm_ (a' := ?_) ?_ ?_
     rotate_left
     ·show Act.put _ (some 16) _ = _
      simp only [Act.put, List.setIfInBounds_toArray, List.set_cons_zero, List.set_cons_succ, i64_w, i32_w]
      rfl
     refine pure_ (i := 7) (N := some 9) (v := ?_) (a' := ?_) #[true, true, true, true, true, true, true, true, false, false, true, false, false] rfl rfl (any_of HT_.out (by kernel_rfl)) (fun _ _ _ h => h) (Or.inl ⟨by rfl, ?_⟩) ?_ ?_
     rotate_left
     ·intro w'
      go_simp
      with_reducible rfl
     rotate_left
     ·simp only [Act.put, List.setIfInBounds_toArray, List.set_cons_zero, List.set_cons_succ, i64_w, i32_w]
      rfl
     refine pure_ (i := 8) (N := some 17) (v := ?_) (a' := ?_) #[true, true, true, true, true, true, true, true, true, false, true, false, false] rfl rfl (any_of HT_.out (by kernel_rfl)) (fun _ _ _ h => h) (Or.inl ⟨by rfl, ?_⟩) ?_ ?_
     rotate_left
     ·intro w'
      go_simp
      with_reducible rfl
     rotate_left
     ·simp only [Act.put, List.setIfInBounds_toArray, List.set_cons_zero, List.set_cons_succ, i64_w, i32_w]
      rfl
     refine pure_ (i := 9) (N := some 18) (v := ?_) (a' := ?_) #[true, true, true, true, true, true, true, true, true, true, true, false, false] rfl rfl (any_of HT_.out (by kernel_rfl)) (fun _ _ _ h => h) (Or.inl ⟨by rfl, ?_⟩) ?_ ?_
     rotate_left
     ·intro w'
      go_simp
      with_reducible rfl
     rotate_left
     ·simp only [Act.put, List.setIfInBounds_toArray, List.set_cons_zero, List.set_cons_succ, i64_w, i32_w]
      rfl
     exact norm_ (by simp only [putAll, Act.put, List.setIfInBounds_toArray, List.set_cons_zero, List.set_cons_succ]) (hCont (.slice Ao14 t895.length co14, v900, gb903) _ ⟨hHeld, (Hof.Rw (Kd.R_mono HO897.out (fun _ hk => hk.2))), (Hof.Rw (Kd.R_mono HO901.out (fun _ hk => hk.2))), (Hof.Bw BK892.out), (Hof.Bw BK893.out), (Hof.Bw BK903.out), GW903.out, GE903.out, NB892_903.out, NB903_892.out, NB893_903.out, NB903_893.out, (Hof.Lw HB.out)⟩)
   ·skip
    refine box_step ?hg (N := 3) ?hd (cs := #[.int .i64 0, .slice none 0 0]) (t := 35) ?hr ?_; (case hd => rfl); (case hg => rfl); (case hr => first | (go_simp; done) | (go_simp; rfl))
    intro gb903 hg w12 hbox hb
    have n0_ := Aside0.mk (blk_below (Hof.Bw BK892.out) hb)
    have n1_ := Aside0.mk (blk_below (Hof.Bw BK893.out) hb)
    have n2_ := Aside0.mk (below_step (Hof.Lw HB.out) hb)
    have n3_ := Aside0.mk hbox
    have n4_ := Aside0.mk ((by rw [hg]; exact (below_size (Hof.Lw HB.out)) : w.heap.size ≤ gb903))
    have n5_ := Aside0.mk ((by rw [hg]; exact (below_size (Hof.Lw HB.out)) : w.heap.size ≤ gb903))
    have n6_ := Aside0.mk ((by rw [hg]; exact Nat.ne_of_lt (blk_lt (g := gb892) (o := .cells #[.slice A0 l0.length c0] 27 (0, 0)) (Hof.Bw BK892.out)) : gb892 ≠ gb903))
    have n7_ := Aside0.mk ((by rw [hg]; exact Nat.ne_of_gt (blk_lt (g := gb892) (o := .cells #[.slice A0 l0.length c0] 27 (0, 0)) (Hof.Bw BK892.out)) : gb903 ≠ gb892))
    have n8_ := Aside0.mk ((by rw [hg]; exact Nat.ne_of_lt (blk_lt (g := gb893) (o := .cells #[.int .i64 0, .slice none 0 0] 35 (0, 0)) (Hof.Bw BK893.out)) : gb893 ≠ gb903))
    have n9_ := Aside0.mk ((by rw [hg]; exact Nat.ne_of_gt (blk_lt (g := gb893) (o := .cells #[.int .i64 0, .slice none 0 0] 35 (0, 0)) (Hof.Bw BK893.out)) : gb903 ≠ gb893))
    clear BK892
    clear BK893
    clear HB
    have BK892 := n0_
    have BK893 := n1_
    have HB := n2_
    have BK903 := n3_
    have GW903 := n4_
    have GE903 := n5_
    have NB892_903 := n6_
    have NB903_892 := n7_
    have NB893_903 := n8_
    have NB903_893 := n9_
    clear n0_ n1_ n2_ n3_ n4_ n5_ n6_ n7_ n8_ n9_
    clear hb hbox hg
    refine hK.out _ _ ((blk_cell BK892.out 0).trans rfl) (fun hHeld => ?_)
    clear hK K
    refine norm_ (a' := ?_) ?_ ?_
    rotate_left
    ·show Act.put _ (some 3) _ = _
     simp only [Act.put, List.setIfInBounds_toArray, List.set_cons_zero, List.set_cons_succ, i64_w, i32_w]
     rfl
    refine one_ (i := 5) (N := some 15) #[true, true, true, true, true, true, false, false, false, false, true, false, false] rfl rfl (one_of HT_.out (by kernel_rfl)) (by decide) (fun K hK => ?_)
    refine goes_ Try.func69 (by kernel_rfl) rfl #[.int .i64 (l0.length : Int), .func (.func 70) #[] #[.pointer (some ⟨gb892, 0, none⟩)]] (by rfl) rfl rfl (by (try simp only [List.map_toArray, List.map_cons, List.map_nil]); first | done | rfl) ?_
    with_reducible refine (impl_setsOf.calls k (l0.length : Int) (.func (.func 70) #[] #[.pointer (some ⟨gb892, 0, none⟩)]) (fun s => impl_TaskMatroid_1.f k l0 s) t895 _ (impl_TaskMatroid_1.fun1 k _ c0 l0 gb892 _ BK892.out (Kd.C_below HR0.out HB.out) HC0.out) A4.out).mono ?_
    rintro e w13 ⟨v896, rfl, ho0, hb⟩
    refine ⟨_, rfl, ?_⟩
    have n0_ := Aside0.mk (Kd.R_lower ho0 (below_size (Hof.Lw HB.out)))
    have n1_ := Aside0.mk (blk_below (Hof.Bw BK892.out) hb)
    have n2_ := Aside0.mk (blk_below (Hof.Bw BK893.out) hb)
    have n3_ := Aside0.mk (blk_below (Hof.Bw BK903.out) hb)
    have n4_ := Aside0.mk (below_step (Hof.Lw HB.out) hb)
    clear BK892
    clear BK893
    clear BK903
    clear HB
    have HO897 := n0_
    have BK892 := n1_
    have BK893 := n2_
    have BK903 := n3_
    have HB := n4_
    clear n0_ n1_ n2_ n3_ n4_
    (try clear hb)
    (try clear hb2)
    (try clear hk)
    (try clear hi)
    (try clear ho0)
    obtain ⟨Ao14, co14, eo14⟩ := Kd.R_slice HO897.out
    (first | subst eo14 | (injection eo14 with f1_ f2_ f3_; have f4_ := f1_.symm; have f5_ := f3_.symm; clear f1_ f2_ f3_; subst f4_; subst f5_))
    refine hK.out _ _ ((blk_cell BK892.out 0).trans rfl) (fun hHeld => ?_)
    clear hK K
    refine norm_ (a' := ?_) ?_ ?_
    rotate_left
    ·show Act.put _ (some 15) _ = _
     simp only [Act.put, List.setIfInBounds_toArray, List.set_cons_zero, List.set_cons_succ, i64_w, i32_w]
     rfl
    refine one_ (i := 6) (N := some 16) #[true, true, true, true, true, true, true, false, false, false, true, false, false] rfl rfl (one_of HT_.out (by kernel_rfl)) (by decide) (fun K hK => ?_)
    refine goes_ Try.func68 (by kernel_rfl) rfl #[.int .i64 (l0.length : Int), .slice Ao14 t895.length co14] (by rfl) rfl rfl (by (try simp only [List.map_toArray, List.map_cons, List.map_nil]); first | done | rfl) ?_
    with_reducible refine (impl_fromIndependent.calls k (l0.length : Int) _ _ t895 t898 t899 t902 _ ?side1 ?side2 A5.out).mono ?_
    (case side1 => exact Hof.Cw ((Kd.R_reads' HO897.out).2.2))
    (case side2 => exact (Kd.R_reads' HO897.out).2.1)
    rintro e w15 ⟨v900, rfl, ho0, hb⟩
    refine ⟨_, rfl, ?_⟩
    have n0_ := Aside0.mk (Kd.R_elder' (Hof.Rw HO897.out) (Kd.R_base ho0) hb)
    have n1_ := Aside0.mk (Kd.R_lower (Kd.R_new' ho0 (Kd.R_lt (Hof.Rw HO897.out))) (below_size (Hof.Lw HB.out)))
    have n2_ := Aside0.mk (blk_below (Hof.Bw BK892.out) hb)
    have n3_ := Aside0.mk (blk_below (Hof.Bw BK893.out) hb)
    have n4_ := Aside0.mk (blk_below (Hof.Bw BK903.out) hb)
    have n5_ := Aside0.mk (below_step (Hof.Lw HB.out) hb)
    clear HO897
    clear BK892
    clear BK893
    clear BK903
    clear HB
    have HO897 := n0_
    have HO901 := n1_
    have BK892 := n2_
    have BK893 := n3_
    have BK903 := n4_
    have HB := n5_
    clear n0_ n1_ n2_ n3_ n4_ n5_
    (try clear hb)
    (try clear hb2)
    (try clear hk)
    (try clear hi)
    (try clear ho0)
    refine hK.out _ _ ((blk_cell BK892.out 0).trans rfl) (fun hHeld => ?_)
    clear hK K
    refine norm_ (a' := ?_) ?_ ?_
    rotate_left
    ·show Act.put _ (some 16) _ = _
     simp only [Act.put, List.setIfInBounds_toArray, List.set_cons_zero, List.set_cons_succ, i64_w, i32_w]
     rfl
    refine pure_ (i := 7) (N := some 9) (v := ?_) (a' := ?_) #[true, true, true, true, true, true, true, true, false, false, true, false, false] rfl rfl (any_of HT_.out (by kernel_rfl)) (fun _ _ _ h => h) (Or.inl ⟨by rfl, ?_⟩) ?_ ?_
    rotate_left
    ·intro w'
     go_simp
     with_reducible rfl
    rotate_left
    ·simp only [Act.put, List.setIfInBounds_toArray, List.set_cons_zero, List.set_cons_succ, i64_w, i32_w]
     rfl
    refine pure_ (i := 8) (N := some 17) (v := ?_) (a' := ?_) #[true, true, true, true, true, true, true, true, true, false, true, false, false] rfl rfl (any_of HT_.out (by kernel_rfl)) (fun _ _ _ h => h) (Or.inl ⟨by rfl, ?_⟩) ?_ ?_
    rotate_left
    ·intro w'
     go_simp
     with_reducible rfl
    rotate_left
    ·simp only [Act.put, List.setIfInBounds_toArray, List.set_cons_zero, List.set_cons_succ, i64_w, i32_w]
     rfl
    refine pure_ (i := 9) (N := some 18) (v := ?_) (a' := ?_) #[true, true, true, true, true, true, true, true, true, true, true, false, false] rfl rfl (any_of HT_.out (by kernel_rfl)) (fun _ _ _ h => h) (Or.inl ⟨by rfl, ?_⟩) ?_ ?_
    rotate_left
    ·intro w'
     go_simp
     with_reducible rfl
    rotate_left
    ·simp only [Act.put, List.setIfInBounds_toArray, List.set_cons_zero, List.set_cons_succ, i64_w, i32_w]
     rfl
    exact norm_ (by simp only [putAll, Act.put, List.setIfInBounds_toArray, List.set_cons_zero, List.set_cons_succ]) (hCont (.slice Ao14 t895.length co14, v900, gb903) _ ⟨hHeld, (Hof.Rw (Kd.R_mono HO897.out (fun _ hk => hk.2))), (Hof.Rw (Kd.R_mono HO901.out (fun _ hk => hk.2))), (Hof.Bw BK892.out), (Hof.Bw BK893.out), (Hof.Bw BK903.out), GW903.out, GE903.out, NB892_903.out, NB903_892.out, NB893_903.out, NB903_893.out, (Hof.Lw HB.out)⟩)
  rintro ⟨v896, v900, gb903⟩ w16 ⟨hS_, h0_, h1_, h2_, h3_, h4_, h5_, h6_, h7_, h8_, h9_, h10_, h11_⟩
  have n0_ : Aside0 (Kd.R (Kd.int .i64) 3 w16 w.heap.size (fun k_ => some k_ ≠ (v900 : Value).ownBlock) v896 t895) := ⟨h0_⟩
  have n1_ : Aside0 (Kd.R (Kd.int .i64) 3 w16 w.heap.size (fun k_ => some k_ ≠ (v896 : Value).ownBlock) v900 t899) := ⟨h1_⟩
  have n2_ : Aside0 (w16.heap[gb892]? = some (.cells #[.slice A0 l0.length c0] 27 (0, 0))) := ⟨h2_⟩
  have n3_ : Aside0 (w16.heap[gb893]? = some (.cells #[.int .i64 0, .slice none 0 0] 35 (0, 0))) := ⟨h3_⟩
  have n4_ : Aside0 (w16.heap[gb903]? = some (.cells #[.int .i64 0, .slice none 0 0] 35 (0, 0))) := ⟨h4_⟩
  have n5_ : Aside0 (w.heap.size ≤ gb903) := ⟨h5_⟩
  have n6_ : Aside0 (w.heap.size ≤ gb903) := ⟨h6_⟩
  have n7_ : Aside0 (gb892 ≠ gb903) := ⟨h7_⟩
  have n8_ : Aside0 (gb903 ≠ gb892) := ⟨h8_⟩
  have n9_ : Aside0 (gb893 ≠ gb903) := ⟨h9_⟩
  have n10_ : Aside0 (gb903 ≠ gb893) := ⟨h10_⟩
  have n11_ : Aside0 (Below w.heap.size w w16) := ⟨h11_⟩
  clear BK892
  clear BK893
  clear HB
  clear h0_ h1_ h2_ h3_ h4_ h5_ h6_ h7_ h8_ h9_ h10_ h11_
  have HO897 := n0_
  have HO901 := n1_
  have BK892 := n2_
  have BK893 := n3_
  have BK903 := n4_
  have GW903 := n5_
  have GE903 := n6_
  have NB892_903 := n7_
  have NB903_892 := n8_
  have NB893_903 := n9_
  have NB903_893 := n10_
  have HB := n11_
  clear n0_ n1_ n2_ n3_ n4_ n5_ n6_ n7_ n8_ n9_ n10_ n11_
  have hHeld : w16.cell? ⟨gb892, 0, none⟩ = some (.slice A0 l0.length c0) := hS_
  obtain ⟨Ao18, co18, eo18⟩ := Kd.R_slice HO901.out
  (first | subst eo18 | (injection eo18 with f1_ f2_ f3_; have f4_ := f1_.symm; have f5_ := f3_.symm; clear f1_ f2_ f3_; subst f4_; subst f5_))
  refine norm_ (a' := ?_) ?_ ?_
  rotate_left
  ·simp only [putAll, Act.put, List.setIfInBounds_toArray, List.set_cons_zero, List.set_cons_succ]
   rfl
  refine one_ (i := 11) (N := none) #[true, true, true, true, true, true, true, true, true, true, true, true, false] rfl rfl (one_of HT_.out (by kernel_rfl)) (by decide) (fun K hK => ?_)
  have hs17 : w16.cell? ⟨gb903, 0, none⟩ = some (.int .i64 0) := (blk_cell BK903.out 0).trans rfl
  have hfs17 := blk_frozen BK903.out 0
  have hns17_0 := NB892_903.out
  have hns17_1 := NB893_903.out
  have hms17_0 := NB903_892.out
  have hms17_1 := NB903_893.out
  have hs19 : w16.cell? ⟨gb903, 1, none⟩ = some (.slice none 0 0) := (blk_cell BK903.out 1).trans rfl
  have hfs19 := blk_frozen BK903.out 1
  have hns19_0 := NB892_903.out
  have hns19_1 := NB893_903.out
  have hms19_0 := NB903_892.out
  have hms19_1 := NB903_893.out
  refine skip_ (w1 := ?_) (by rfl) rfl ?_ ?_
  rotate_left
  ·go_simp
   rfl
  refine hK.out _ _ (((cell_far (p := ⟨gb903, _, none⟩) NB892_903.out _).trans (((cell_far (p := ⟨gb903, _, none⟩) NB892_903.out _).trans (hHeld))))) (fun hHeld => ?_)
  clear hK K
  refine pure_ (i := 12) (N := some 4) (v := ?_) (a' := ?_) #[true, true, true, true, true, true, true, true, true, true, true, true, true] rfl rfl (any_of HT_.out (by kernel_rfl)) (fun _ _ _ h => h) (Or.inl ⟨by rfl, ?_⟩) ?_ ?_
  rotate_left
  ·intro w'
   go_simp
   with_reducible rfl
  rotate_left
  ·simp only [Act.put, List.setIfInBounds_toArray, List.set_cons_zero, List.set_cons_succ, i64_w, i32_w]
   rfl
  refine done_ (done_of HT_.out (by kernel_rfl)) ?_
  have hnb20 := NB903_892.out
  have hnc20 := NB892_903.out
  have hnb21 := NB903_893.out
  have hnc21 := NB893_903.out
  obtain ⟨hcz22_0, hcz22_1, hfz22_0, hfz22_1⟩ := Hof.blk2 BK903.out
  obtain ⟨hcz23_0, hcz23_1, hfz23_0, hfz23_1⟩ := Hof.blk2 BK893.out
  try go_wp2
  refine bodyPost_ret (results_cell_row rfl _ _ gb893 35 #[.int .i64 t898, .slice Ao18 t899.length co18] (0, 0) _ rfl (by (with_reducible repeat (first | refine blk_drewN ?_ _ | refine blk_drew ?_ | refine blk_alloc ?_ _)); refine blk_put (cs := #[.int .i64 t898, .slice none 0 0]) ?_ 1 _ rfl; (with_reducible repeat (first | refine blk_drewN ?_ _ | refine blk_drew ?_ | refine blk_alloc ?_ _)); refine blk_put (cs := #[.int .i64 0, .slice none 0 0]) ?_ 0 _ rfl; (with_reducible repeat (first | refine blk_drewN ?_ _ | refine blk_drew ?_ | refine blk_alloc ?_ _)); refine blk_far ?_ NB893_903.out _; (with_reducible repeat (first | refine blk_drewN ?_ _ | refine blk_drew ?_ | refine blk_alloc ?_ _)); refine blk_far ?_ NB893_903.out _; (with_reducible repeat (first | refine blk_drewN ?_ _ | refine blk_drew ?_ | refine blk_alloc ?_ _)); exact BK893.out) Try.underlying35 rfl (by kernel_rfl)) rfl ?_
  exact ⟨_, by first | rfl | (simp [errW_none, errW_some] <;> rfl) | (simp [*, errW_none, errW_some] <;> rfl), by (with_reducible repeat (first | apply Kd.R_alloc | apply Kd.R_drewN | apply Kd.R_drew)); exact Kd.R_mono (Kd.R_far (p := ⟨gb893, 1, none⟩) (Kd.R_far (p := ⟨gb893, 0, none⟩) (Kd.R_far (p := ⟨gb903, 1, none⟩) (Kd.R_far (p := ⟨gb903, 0, none⟩) (Kd.R_types (Kd.R_types HO901.out BK903.out (by decide)) BK893.out (by decide)) (fun _ hk => hk.1.2) (.int .i64 t898)) (fun _ hk => hk.1.2) (.slice Ao18 t899.length co18)) (fun _ hk => hk.2) (.int .i64 t898)) (fun _ hk => hk.2) (.slice Ao18 t899.length co18)) (fun _ hk => trivial), by repeat (first | (with_reducible first | exact HB.out | apply below_alloc | apply pw_below_drewN | apply below_drew1 | refine below_set ?_ GE892.out | refine below_set ?_ GE893.out | refine below_set ?_ GE903.out) | exact HB.out)⟩
 ·replace c3 := Bool.eq_false_iff.mpr c3
  subst c3
  have H1 : (some (0, ([] : List Int))) = some (r1, r2) := by rw [if_neg (show ¬ (false = true) by decide)] at H; exact H
  clear H
  have H := H1
  clear H1
  simp only [Option.some.injEq, Prod.mk.injEq] at H
  obtain ⟨rfl, rfl⟩ := H
  go_enter Try.func22, Try.ntmps22
  go_wp2_with (first | ((with_reducible refine gate_dst (N := 1) rfl ?_); refine box_event ?hg (N := 1) ?hd (cs := #[.slice A0 l0.length c0]) (t := 27) ?hr ?_; (case hd => rfl); (case hg => rfl); (case hr => first | (go_simp; done) | (go_simp; rfl)); intro gb892 hg w24 hbox hb; have BK892 := Aside0.mk hbox; have GW892 := Aside0.mk ((by rw [hg]; exact (below_size (Hof.Lw HB.out)) : w.heap.size ≤ gb892)); have GE892 := Aside0.mk ((by rw [hg]; exact (below_size (Hof.Lw HB.out)) : w.heap.size ≤ gb892)); replace HB := Aside0.mk (below_step (Hof.Lw HB.out) hb); clear hb hbox hg) | ((with_reducible refine gate_dst (N := 2) rfl ?_); refine box_event ?hg (N := 2) ?hd (cs := #[.int .i64 0, .slice none 0 0]) (t := 35) ?hr ?_; (case hd => rfl); (case hg => rfl); (case hr => first | (go_simp; done) | (go_simp; rfl)); intro gb893 hg w25 hbox hb; have BK893 := Aside0.mk hbox; have GW893 := Aside0.mk ((by rw [hg]; exact (below_size (Hof.Lw HB.out)) : w.heap.size ≤ gb893)); have GE893 := Aside0.mk ((by rw [hg]; exact (below_size (Hof.Lw HB.out)) : w.heap.size ≤ gb893)); replace HB := Aside0.mk (below_step (Hof.Lw HB.out) hb); have NB892_893 := Aside0.mk ((by rw [hg]; exact Nat.ne_of_lt (blk_lt (g := gb892) (o := .cells #[.slice A0 l0.length c0] 27 (0, 0)) (Hof.Bw BK892.out)) : gb892 ≠ gb893)); have NB893_892 := Aside0.mk ((by rw [hg]; exact Nat.ne_of_gt (blk_lt (g := gb892) (o := .cells #[.slice A0 l0.length c0] 27 (0, 0)) (Hof.Bw BK892.out)) : gb893 ≠ gb892)); replace BK892 := Aside0.mk (blk_below (Hof.Bw BK892.out) hb); clear hb hbox hg; have hnb26 := NB892_893.out; have hnc26 := NB893_892.out; obtain ⟨hcz27_0, hfz27_0⟩ := Hof.blk1 BK892.out) | ((with_reducible refine gate_callee (f := 60) rfl ?_); refine goesL_ (some 6) rfl rfl Try.func60 (by kernel_rfl) rfl #[.slice A0 l0.length c0] rfl (by (try simp only [List.map_toArray, List.map_cons, List.map_nil]); first | done | rfl) ?_; (with_reducible refine (impl_AreTasks.calls k _ _ l0 false _ ?side1 ?side2 A2.out).mono ?_); (case side1 => exact Hof.Cw (Kd.C_below HR0.out HB.out)); (case side2 => exact HC0.out); rintro e w28 ⟨rfl, hb⟩; refine ⟨_, rfl, ?_⟩; replace BK892 := Aside0.mk (blk_below (Hof.Bw BK892.out) hb); replace BK893 := Aside0.mk (blk_below (Hof.Bw BK893.out) hb); replace HB := Aside0.mk (below_step (Hof.Lw HB.out) hb); (try clear hb); (try clear hb2); (try clear hk); (try clear hi); obtain ⟨hcz29_0, hcz29_1, hfz29_0, hfz29_1⟩ := Hof.blk2 BK893.out))
  refine bodyPost_ret (results_cell_row rfl _ _ gb893 35 #[.int .i64 0, .slice none 0 0] (0, 0) _ rfl (by (with_reducible repeat (first | refine blk_drewN ?_ _ | refine blk_drew ?_ | refine blk_alloc ?_ _)); refine blk_put (cs := #[.int .i64 0, .slice none 0 0]) ?_ 1 _ rfl; (with_reducible repeat (first | refine blk_drewN ?_ _ | refine blk_drew ?_ | refine blk_alloc ?_ _)); refine blk_put (cs := #[.int .i64 0, .slice none 0 0]) ?_ 0 _ rfl; (with_reducible repeat (first | refine blk_drewN ?_ _ | refine blk_drew ?_ | refine blk_alloc ?_ _)); exact BK893.out) Try.underlying35 rfl (by kernel_rfl)) rfl ?_
  exact ⟨_, by first | rfl | (simp [errW_none, errW_some] <;> rfl) | (simp [*, errW_none, errW_some] <;> rfl), by first | exact Kd.R_nil _ _ _ _ _ | exact Kd.N_nil _ _ _ _ _ | exact Kd.V_nil _ _ _ _ _ | exact Kd.Q_nil _ _ _ _ _ | exact Kd.S_nil _ _ _ _ _, by repeat (first | (with_reducible first | exact HB.out | apply below_alloc | apply pw_below_drewN | apply below_drew1 | refine below_set ?_ GE892.out | refine below_set ?_ GE893.out) | exact HB.out)⟩
end Go.Proofs.Ytmpodackojmojaa.Pr
end
section
namespace Go.Proofs.Ytmpodackojmojaa.Pr
open Go.RowKit Go.Proofs.YtmpodackojmojaaW.PrintWords Go.Proofs.YtmpodackojmojaaW.PrintLast Go.Proofs.YtmpodackojmojaaW.PrintMore
attribute [local go_sem] max2_int min2_int max_two min_two max_three min_three max_four min_four
set_option linter.unusedVariables false
set_option linter.unusedSimpArgs false
def bits_OnesCount64.f (a0 : Int) : Option (Int) := some (Go.bits .and .i64 (wrap64 (IntKind.u64.wrap ((IntKind.u64.wrap ((IntKind.u64.wrap ((Go.bits .and .u64 (IntKind.u64.wrap (((IntKind.u64.wrap ((Go.bits .and .u64 ((IntKind.u64.wrap ((Go.bits .and .u64 (a0 / 2) 6148914691236517205) + (Go.bits .and .u64 a0 6148914691236517205))) / 4) 3689348814741910323) + (Go.bits .and .u64 (IntKind.u64.wrap ((Go.bits .and .u64 (a0 / 2) 6148914691236517205) + (Go.bits .and .u64 a0 6148914691236517205))) 3689348814741910323))) / 16) + (IntKind.u64.wrap ((Go.bits .and .u64 ((IntKind.u64.wrap ((Go.bits .and .u64 (a0 / 2) 6148914691236517205) + (Go.bits .and .u64 a0 6148914691236517205))) / 4) 3689348814741910323) + (Go.bits .and .u64 (IntKind.u64.wrap ((Go.bits .and .u64 (a0 / 2) 6148914691236517205) + (Go.bits .and .u64 a0 6148914691236517205))) 3689348814741910323))))) 1085102592571150095) + ((Go.bits .and .u64 (IntKind.u64.wrap (((IntKind.u64.wrap ((Go.bits .and .u64 ((IntKind.u64.wrap ((Go.bits .and .u64 (a0 / 2) 6148914691236517205) + (Go.bits .and .u64 a0 6148914691236517205))) / 4) 3689348814741910323) + (Go.bits .and .u64 (IntKind.u64.wrap ((Go.bits .and .u64 (a0 / 2) 6148914691236517205) + (Go.bits .and .u64 a0 6148914691236517205))) 3689348814741910323))) / 16) + (IntKind.u64.wrap ((Go.bits .and .u64 ((IntKind.u64.wrap ((Go.bits .and .u64 (a0 / 2) 6148914691236517205) + (Go.bits .and .u64 a0 6148914691236517205))) / 4) 3689348814741910323) + (Go.bits .and .u64 (IntKind.u64.wrap ((Go.bits .and .u64 (a0 / 2) 6148914691236517205) + (Go.bits .and .u64 a0 6148914691236517205))) 3689348814741910323))))) 1085102592571150095) / 256))) + ((IntKind.u64.wrap ((Go.bits .and .u64 (IntKind.u64.wrap (((IntKind.u64.wrap ((Go.bits .and .u64 ((IntKind.u64.wrap ((Go.bits .and .u64 (a0 / 2) 6148914691236517205) + (Go.bits .and .u64 a0 6148914691236517205))) / 4) 3689348814741910323) + (Go.bits .and .u64 (IntKind.u64.wrap ((Go.bits .and .u64 (a0 / 2) 6148914691236517205) + (Go.bits .and .u64 a0 6148914691236517205))) 3689348814741910323))) / 16) + (IntKind.u64.wrap ((Go.bits .and .u64 ((IntKind.u64.wrap ((Go.bits .and .u64 (a0 / 2) 6148914691236517205) + (Go.bits .and .u64 a0 6148914691236517205))) / 4) 3689348814741910323) + (Go.bits .and .u64 (IntKind.u64.wrap ((Go.bits .and .u64 (a0 / 2) 6148914691236517205) + (Go.bits .and .u64 a0 6148914691236517205))) 3689348814741910323))))) 1085102592571150095) + ((Go.bits .and .u64 (IntKind.u64.wrap (((IntKind.u64.wrap ((Go.bits .and .u64 ((IntKind.u64.wrap ((Go.bits .and .u64 (a0 / 2) 6148914691236517205) + (Go.bits .and .u64 a0 6148914691236517205))) / 4) 3689348814741910323) + (Go.bits .and .u64 (IntKind.u64.wrap ((Go.bits .and .u64 (a0 / 2) 6148914691236517205) + (Go.bits .and .u64 a0 6148914691236517205))) 3689348814741910323))) / 16) + (IntKind.u64.wrap ((Go.bits .and .u64 ((IntKind.u64.wrap ((Go.bits .and .u64 (a0 / 2) 6148914691236517205) + (Go.bits .and .u64 a0 6148914691236517205))) / 4) 3689348814741910323) + (Go.bits .and .u64 (IntKind.u64.wrap ((Go.bits .and .u64 (a0 / 2) 6148914691236517205) + (Go.bits .and .u64 a0 6148914691236517205))) 3689348814741910323))))) 1085102592571150095) / 256))) / 65536))) + ((IntKind.u64.wrap ((IntKind.u64.wrap ((Go.bits .and .u64 (IntKind.u64.wrap (((IntKind.u64.wrap ((Go.bits .and .u64 ((IntKind.u64.wrap ((Go.bits .and .u64 (a0 / 2) 6148914691236517205) + (Go.bits .and .u64 a0 6148914691236517205))) / 4) 3689348814741910323) + (Go.bits .and .u64 (IntKind.u64.wrap ((Go.bits .and .u64 (a0 / 2) 6148914691236517205) + (Go.bits .and .u64 a0 6148914691236517205))) 3689348814741910323))) / 16) + (IntKind.u64.wrap ((Go.bits .and .u64 ((IntKind.u64.wrap ((Go.bits .and .u64 (a0 / 2) 6148914691236517205) + (Go.bits .and .u64 a0 6148914691236517205))) / 4) 3689348814741910323) + (Go.bits .and .u64 (IntKind.u64.wrap ((Go.bits .and .u64 (a0 / 2) 6148914691236517205) + (Go.bits .and .u64 a0 6148914691236517205))) 3689348814741910323))))) 1085102592571150095) + ((Go.bits .and .u64 (IntKind.u64.wrap (((IntKind.u64.wrap ((Go.bits .and .u64 ((IntKind.u64.wrap ((Go.bits .and .u64 (a0 / 2) 6148914691236517205) + (Go.bits .and .u64 a0 6148914691236517205))) / 4) 3689348814741910323) + (Go.bits .and .u64 (IntKind.u64.wrap ((Go.bits .and .u64 (a0 / 2) 6148914691236517205) + (Go.bits .and .u64 a0 6148914691236517205))) 3689348814741910323))) / 16) + (IntKind.u64.wrap ((Go.bits .and .u64 ((IntKind.u64.wrap ((Go.bits .and .u64 (a0 / 2) 6148914691236517205) + (Go.bits .and .u64 a0 6148914691236517205))) / 4) 3689348814741910323) + (Go.bits .and .u64 (IntKind.u64.wrap ((Go.bits .and .u64 (a0 / 2) 6148914691236517205) + (Go.bits .and .u64 a0 6148914691236517205))) 3689348814741910323))))) 1085102592571150095) / 256))) + ((IntKind.u64.wrap ((Go.bits .and .u64 (IntKind.u64.wrap (((IntKind.u64.wrap ((Go.bits .and .u64 ((IntKind.u64.wrap ((Go.bits .and .u64 (a0 / 2) 6148914691236517205) + (Go.bits .and .u64 a0 6148914691236517205))) / 4) 3689348814741910323) + (Go.bits .and .u64 (IntKind.u64.wrap ((Go.bits .and .u64 (a0 / 2) 6148914691236517205) + (Go.bits .and .u64 a0 6148914691236517205))) 3689348814741910323))) / 16) + (IntKind.u64.wrap ((Go.bits .and .u64 ((IntKind.u64.wrap ((Go.bits .and .u64 (a0 / 2) 6148914691236517205) + (Go.bits .and .u64 a0 6148914691236517205))) / 4) 3689348814741910323) + (Go.bits .and .u64 (IntKind.u64.wrap ((Go.bits .and .u64 (a0 / 2) 6148914691236517205) + (Go.bits .and .u64 a0 6148914691236517205))) 3689348814741910323))))) 1085102592571150095) + ((Go.bits .and .u64 (IntKind.u64.wrap (((IntKind.u64.wrap ((Go.bits .and .u64 ((IntKind.u64.wrap ((Go.bits .and .u64 (a0 / 2) 6148914691236517205) + (Go.bits .and .u64 a0 6148914691236517205))) / 4) 3689348814741910323) + (Go.bits .and .u64 (IntKind.u64.wrap ((Go.bits .and .u64 (a0 / 2) 6148914691236517205) + (Go.bits .and .u64 a0 6148914691236517205))) 3689348814741910323))) / 16) + (IntKind.u64.wrap ((Go.bits .and .u64 ((IntKind.u64.wrap ((Go.bits .and .u64 (a0 / 2) 6148914691236517205) + (Go.bits .and .u64 a0 6148914691236517205))) / 4) 3689348814741910323) + (Go.bits .and .u64 (IntKind.u64.wrap ((Go.bits .and .u64 (a0 / 2) 6148914691236517205) + (Go.bits .and .u64 a0 6148914691236517205))) 3689348814741910323))))) 1085102592571150095) / 256))) / 65536))) / 4294967296)))) 127)
set_option maxHeartbeats 8000000 in
set_option maxRecDepth 100000 in
theorem bits_OnesCount64.calls (a0 : Int) (r : Int) (w : World) (h : bits_OnesCount64.f a0 = some r) :
  Calls Try.prog 152 #[.int .u64 a0] w fun e w' => e = .returned (.int .i64 r) ∧ Drawn0 w w' := by
 have H : (some (Go.bits .and .i64 (wrap64 (IntKind.u64.wrap ((IntKind.u64.wrap ((IntKind.u64.wrap ((Go.bits .and .u64 (IntKind.u64.wrap (((IntKind.u64.wrap ((Go.bits .and .u64 ((IntKind.u64.wrap ((Go.bits .and .u64 (a0 / 2) 6148914691236517205) + (Go.bits .and .u64 a0 6148914691236517205))) / 4) 3689348814741910323) + (Go.bits .and .u64 (IntKind.u64.wrap ((Go.bits .and .u64 (a0 / 2) 6148914691236517205) + (Go.bits .and .u64 a0 6148914691236517205))) 3689348814741910323))) / 16) + (IntKind.u64.wrap ((Go.bits .and .u64 ((IntKind.u64.wrap ((Go.bits .and .u64 (a0 / 2) 6148914691236517205) + (Go.bits .and .u64 a0 6148914691236517205))) / 4) 3689348814741910323) + (Go.bits .and .u64 (IntKind.u64.wrap ((Go.bits .and .u64 (a0 / 2) 6148914691236517205) + (Go.bits .and .u64 a0 6148914691236517205))) 3689348814741910323))))) 1085102592571150095) + ((Go.bits .and .u64 (IntKind.u64.wrap (((IntKind.u64.wrap ((Go.bits .and .u64 ((IntKind.u64.wrap ((Go.bits .and .u64 (a0 / 2) 6148914691236517205) + (Go.bits .and .u64 a0 6148914691236517205))) / 4) 3689348814741910323) + (Go.bits .and .u64 (IntKind.u64.wrap ((Go.bits .and .u64 (a0 / 2) 6148914691236517205) + (Go.bits .and .u64 a0 6148914691236517205))) 3689348814741910323))) / 16) + (IntKind.u64.wrap ((Go.bits .and .u64 ((IntKind.u64.wrap ((Go.bits .and .u64 (a0 / 2) 6148914691236517205) + (Go.bits .and .u64 a0 6148914691236517205))) / 4) 3689348814741910323) + (Go.bits .and .u64 (IntKind.u64.wrap ((Go.bits .and .u64 (a0 / 2) 6148914691236517205) + (Go.bits .and .u64 a0 6148914691236517205))) 3689348814741910323))))) 1085102592571150095) / 256))) + ((IntKind.u64.wrap ((Go.bits .and .u64 (IntKind.u64.wrap (((IntKind.u64.wrap ((Go.bits .and .u64 ((IntKind.u64.wrap ((Go.bits .and .u64 (a0 / 2) 6148914691236517205) + (Go.bits .and .u64 a0 6148914691236517205))) / 4) 3689348814741910323) + (Go.bits .and .u64 (IntKind.u64.wrap ((Go.bits .and .u64 (a0 / 2) 6148914691236517205) + (Go.bits .and .u64 a0 6148914691236517205))) 3689348814741910323))) / 16) + (IntKind.u64.wrap ((Go.bits .and .u64 ((IntKind.u64.wrap ((Go.bits .and .u64 (a0 / 2) 6148914691236517205) + (Go.bits .and .u64 a0 6148914691236517205))) / 4) 3689348814741910323) + (Go.bits .and .u64 (IntKind.u64.wrap ((Go.bits .and .u64 (a0 / 2) 6148914691236517205) + (Go.bits .and .u64 a0 6148914691236517205))) 3689348814741910323))))) 1085102592571150095) + ((Go.bits .and .u64 (IntKind.u64.wrap (((IntKind.u64.wrap ((Go.bits .and .u64 ((IntKind.u64.wrap ((Go.bits .and .u64 (a0 / 2) 6148914691236517205) + (Go.bits .and .u64 a0 6148914691236517205))) / 4) 3689348814741910323) + (Go.bits .and .u64 (IntKind.u64.wrap ((Go.bits .and .u64 (a0 / 2) 6148914691236517205) + (Go.bits .and .u64 a0 6148914691236517205))) 3689348814741910323))) / 16) + (IntKind.u64.wrap ((Go.bits .and .u64 ((IntKind.u64.wrap ((Go.bits .and .u64 (a0 / 2) 6148914691236517205) + (Go.bits .and .u64 a0 6148914691236517205))) / 4) 3689348814741910323) + (Go.bits .and .u64 (IntKind.u64.wrap ((Go.bits .and .u64 (a0 / 2) 6148914691236517205) + (Go.bits .and .u64 a0 6148914691236517205))) 3689348814741910323))))) 1085102592571150095) / 256))) / 65536))) + ((IntKind.u64.wrap ((IntKind.u64.wrap ((Go.bits .and .u64 (IntKind.u64.wrap (((IntKind.u64.wrap ((Go.bits .and .u64 ((IntKind.u64.wrap ((Go.bits .and .u64 (a0 / 2) 6148914691236517205) + (Go.bits .and .u64 a0 6148914691236517205))) / 4) 3689348814741910323) + (Go.bits .and .u64 (IntKind.u64.wrap ((Go.bits .and .u64 (a0 / 2) 6148914691236517205) + (Go.bits .and .u64 a0 6148914691236517205))) 3689348814741910323))) / 16) + (IntKind.u64.wrap ((Go.bits .and .u64 ((IntKind.u64.wrap ((Go.bits .and .u64 (a0 / 2) 6148914691236517205) + (Go.bits .and .u64 a0 6148914691236517205))) / 4) 3689348814741910323) + (Go.bits .and .u64 (IntKind.u64.wrap ((Go.bits .and .u64 (a0 / 2) 6148914691236517205) + (Go.bits .and .u64 a0 6148914691236517205))) 3689348814741910323))))) 1085102592571150095) + ((Go.bits .and .u64 (IntKind.u64.wrap (((IntKind.u64.wrap ((Go.bits .and .u64 ((IntKind.u64.wrap ((Go.bits .and .u64 (a0 / 2) 6148914691236517205) + (Go.bits .and .u64 a0 6148914691236517205))) / 4) 3689348814741910323) + (Go.bits .and .u64 (IntKind.u64.wrap ((Go.bits .and .u64 (a0 / 2) 6148914691236517205) + (Go.bits .and .u64 a0 6148914691236517205))) 3689348814741910323))) / 16) + (IntKind.u64.wrap ((Go.bits .and .u64 ((IntKind.u64.wrap ((Go.bits .and .u64 (a0 / 2) 6148914691236517205) + (Go.bits .and .u64 a0 6148914691236517205))) / 4) 3689348814741910323) + (Go.bits .and .u64 (IntKind.u64.wrap ((Go.bits .and .u64 (a0 / 2) 6148914691236517205) + (Go.bits .and .u64 a0 6148914691236517205))) 3689348814741910323))))) 1085102592571150095) / 256))) + ((IntKind.u64.wrap ((Go.bits .and .u64 (IntKind.u64.wrap (((IntKind.u64.wrap ((Go.bits .and .u64 ((IntKind.u64.wrap ((Go.bits .and .u64 (a0 / 2) 6148914691236517205) + (Go.bits .and .u64 a0 6148914691236517205))) / 4) 3689348814741910323) + (Go.bits .and .u64 (IntKind.u64.wrap ((Go.bits .and .u64 (a0 / 2) 6148914691236517205) + (Go.bits .and .u64 a0 6148914691236517205))) 3689348814741910323))) / 16) + (IntKind.u64.wrap ((Go.bits .and .u64 ((IntKind.u64.wrap ((Go.bits .and .u64 (a0 / 2) 6148914691236517205) + (Go.bits .and .u64 a0 6148914691236517205))) / 4) 3689348814741910323) + (Go.bits .and .u64 (IntKind.u64.wrap ((Go.bits .and .u64 (a0 / 2) 6148914691236517205) + (Go.bits .and .u64 a0 6148914691236517205))) 3689348814741910323))))) 1085102592571150095) + ((Go.bits .and .u64 (IntKind.u64.wrap (((IntKind.u64.wrap ((Go.bits .and .u64 ((IntKind.u64.wrap ((Go.bits .and .u64 (a0 / 2) 6148914691236517205) + (Go.bits .and .u64 a0 6148914691236517205))) / 4) 3689348814741910323) + (Go.bits .and .u64 (IntKind.u64.wrap ((Go.bits .and .u64 (a0 / 2) 6148914691236517205) + (Go.bits .and .u64 a0 6148914691236517205))) 3689348814741910323))) / 16) + (IntKind.u64.wrap ((Go.bits .and .u64 ((IntKind.u64.wrap ((Go.bits .and .u64 (a0 / 2) 6148914691236517205) + (Go.bits .and .u64 a0 6148914691236517205))) / 4) 3689348814741910323) + (Go.bits .and .u64 (IntKind.u64.wrap ((Go.bits .and .u64 (a0 / 2) 6148914691236517205) + (Go.bits .and .u64 a0 6148914691236517205))) 3689348814741910323))))) 1085102592571150095) / 256))) / 65536))) / 4294967296)))) 127)) = some r := h
 clear h
 obtain rfl := Option.some.inj H
 go_enter Try.func152, Try.ntmps152
 go_wp2
 go_ret
 exact ⟨by first | rfl | (simp; done) | (simp [*]; done), by repeat (first | exact Drawn0.refl _ | apply Drawn0.step)⟩
end Go.Proofs.Ytmpodackojmojaa.Pr
end
section
namespace Go.Proofs.Ytmpodackojmojaa.Pr
open Go.RowKit Go.Proofs.YtmpodackojmojaaW.PrintWords Go.Proofs.YtmpodackojmojaaW.PrintLast Go.Proofs.YtmpodackojmojaaW.PrintMore
attribute [local go_sem] max2_int min2_int max_two min_two max_three min_three max_four min_four
set_option linter.unusedVariables false
set_option linter.unusedSimpArgs false
def bits_OnesCount.f (a0 : Int) : Option (Int) := (bits_OnesCount64.f a0).bind fun t589 => (some t589)
set_option maxHeartbeats 8000000 in
set_option maxRecDepth 100000 in
theorem bits_OnesCount.calls (a0 : Int) (r : Int) (w : World) (h : bits_OnesCount.f a0 = some r) :
  Calls Try.prog 127 #[.int .u64 a0] w fun e w' => e = .returned (.int .i64 r) ∧ Drawn0 w w' := by
 have H : ((bits_OnesCount64.f a0).bind fun t589 => (some t589)) = some r := h
 clear h
 replace H := Option.bind_eq_some_iff.mp H
 obtain ⟨t589, A20, H⟩ := H
 (try dsimp only at H)
 have A2 := Aside0.mk A20
 clear A20
 obtain rfl := Option.some.inj H
 go_enter Try.func127, Try.ntmps127
 go_wp2_with (first | ((with_reducible refine gate_callee (f := 152) rfl ?_); refine goesL_ (some 7) rfl rfl Try.func152 (by kernel_rfl) rfl #[.int .u64 a0] rfl (by (try simp only [List.map_toArray, List.map_cons, List.map_nil]); first | done | rfl) ?_; (with_reducible refine (bits_OnesCount64.calls a0 t589 _ A2.out).mono ?_); rintro e w' ⟨rfl, ⟨nd, rfl⟩⟩; refine ⟨_, rfl, ?_⟩))
 go_ret
 exact ⟨by first | rfl | (simp; done) | (simp [*]; done), by repeat (first | exact Drawn0.refl _ | apply Drawn0.step)⟩
end Go.Proofs.Ytmpodackojmojaa.Pr
end
section
namespace Go.Proofs.Ytmpodackojmojaa.Pr
open Go.RowKit Go.Proofs.YtmpodackojmojaaW.PrintWords Go.Proofs.YtmpodackojmojaaW.PrintLast Go.Proofs.YtmpodackojmojaaW.PrintMore
attribute [local go_sem] max2_int min2_int max_two min_two max_three min_three max_four min_four
set_option linter.unusedVariables false
set_option linter.unusedSimpArgs false
def impl_CountOf.f (a0 : Int) : Option (Int) := (impl_isAny.f a0).bind fun t590 => (if t590 = true then ((bits_OnesCount.f (IntKind.u64.wrap (a0))).bind fun t591 => (some t591)) else (some 0))
set_option maxHeartbeats 8000000 in
set_option maxRecDepth 100000 in
theorem impl_CountOf.calls (a0 : Int) (r : Int) (w : World) (h : impl_CountOf.f a0 = some r) :
  Calls Try.prog 95 #[.int .i64 a0] w fun e w' => e = .returned (.int .i64 r) ∧ Drawn0 w w' := by
 have H : ((impl_isAny.f a0).bind fun t590 => (if t590 = true then ((bits_OnesCount.f (IntKind.u64.wrap (a0))).bind fun t591 => (some t591)) else (some 0))) = some r := h
 clear h
 replace H := Option.bind_eq_some_iff.mp H
 obtain ⟨t590, A20, H⟩ := H
 (try dsimp only at H)
 have A2 := Aside0.mk A20
 clear A20
 by_cases c3 : t590 = true
 ·subst c3
  have H1 : ((bits_OnesCount.f (IntKind.u64.wrap (a0))).bind fun t591 => (some t591)) = some r := by rw [if_pos rfl] at H; exact H
  clear H
  have H := H1
  clear H1
  replace H := Option.bind_eq_some_iff.mp H
  obtain ⟨t591, A40, H⟩ := H
  (try dsimp only at H)
  have A4 := Aside0.mk A40
  clear A40
  obtain rfl := Option.some.inj H
  go_enter Try.func95, Try.ntmps95
  go_wp2_with (first | ((with_reducible refine gate_callee (f := 121) rfl ?_); refine goesL_ (some 4) rfl rfl Try.func121 (by kernel_rfl) rfl #[.int .i64 a0] rfl (by (try simp only [List.map_toArray, List.map_cons, List.map_nil]); first | done | rfl) ?_; (with_reducible refine (impl_isAny.calls a0 true _ A2.out).mono ?_); rintro e w' ⟨rfl, ⟨nd, rfl⟩⟩; refine ⟨_, rfl, ?_⟩) | ((with_reducible refine gate_callee (f := 127) rfl ?_); refine goesL_ (some 8) rfl rfl Try.func127 (by kernel_rfl) rfl #[.int .u64 (IntKind.u64.wrap (a0))] rfl (by (try simp only [List.map_toArray, List.map_cons, List.map_nil]); first | done | rfl) ?_; (with_reducible refine (bits_OnesCount.calls (IntKind.u64.wrap (a0)) t591 _ A4.out).mono ?_); rintro e w' ⟨rfl, ⟨nd, rfl⟩⟩; refine ⟨_, rfl, ?_⟩))
  go_ret
  exact ⟨by first | rfl | (simp; done) | (simp [*]; done), by repeat (first | exact Drawn0.refl _ | apply Drawn0.step)⟩
 ·replace c3 := Bool.eq_false_iff.mpr c3
  subst c3
  have H1 : (some 0) = some r := by rw [if_neg (show ¬ (false = true) by decide)] at H; exact H
  clear H
  have H := H1
  clear H1
  obtain rfl := Option.some.inj H
  go_enter Try.func95, Try.ntmps95
  go_wp2_with (first | ((with_reducible refine gate_callee (f := 121) rfl ?_); refine goesL_ (some 4) rfl rfl Try.func121 (by kernel_rfl) rfl #[.int .i64 a0] rfl (by (try simp only [List.map_toArray, List.map_cons, List.map_nil]); first | done | rfl) ?_; (with_reducible refine (impl_isAny.calls a0 false _ A2.out).mono ?_); rintro e w' ⟨rfl, ⟨nd, rfl⟩⟩; refine ⟨_, rfl, ?_⟩))
  go_ret
  exact ⟨by first | rfl | (simp; done) | (simp [*]; done), by repeat (first | exact Drawn0.refl _ | apply Drawn0.step)⟩
end Go.Proofs.Ytmpodackojmojaa.Pr
end
section
namespace Go.Proofs.Ytmpodackojmojaa.Pr
open Go.RowKit Go.Proofs.YtmpodackojmojaaW.PrintWords Go.Proofs.YtmpodackojmojaaW.PrintLast Go.Proofs.YtmpodackojmojaaW.PrintMore
attribute [local go_sem] max2_int min2_int max_two min_two max_three min_three max_four min_four
set_option linter.unusedVariables false
set_option linter.unusedSimpArgs false
def impl_RankOfMatroid.f (k : Nat) (a0_0 : Int) (l0_1 : List Int) : Option (Int) := (impl_IsMatroid.f k a0_0 l0_1).bind fun t593 => (if t593 = true then (if 0 < (l0_1.length : Int) then ((impl_CountOf.f (rd l0_1 0)).bind fun t595 => (some t595)) else (none)) else (some (-1)))
set_option maxHeartbeats 8000000 in
set_option maxRecDepth 100000 in
theorem impl_RankOfMatroid.calls (k : Nat) (a0_0 : Int) (A0_1 : Option Addr) (c0_1 : Nat) (l0_1 : List Int) (r : Int) (w : World) (hr0_1 : Kd.C (Kd.int .i64) w A0_1 l0_1.length l0_1) (hc0_1 : l0_1.length ≤ c0_1) (h : impl_RankOfMatroid.f k a0_0 l0_1 = some r) :
  Calls Try.prog 71 #[.agg #[.int .i64 a0_0, .slice A0_1 l0_1.length c0_1]] w fun e w' => e = .returned (.int .i64 r) ∧ Below w.heap.size w w' := by
 have hu35 := Try.underlying35
 have HR0_1 := Aside0.mk hr0_1
 have HC0_1 := Aside0.mk hc0_1
 clear hr0_1 hc0_1
 have HB := Aside0.mk (Below.refl w.heap.size w)
 have H : ((impl_IsMatroid.f k a0_0 l0_1).bind fun t593 => (if t593 = true then (if 0 < (l0_1.length : Int) then ((impl_CountOf.f (rd l0_1 0)).bind fun t595 => (some t595)) else (none)) else (some (-1)))) = some r := h
 clear h
 replace H := Option.bind_eq_some_iff.mp H
 obtain ⟨t593, A20, H⟩ := H
 (try dsimp only at H)
 have A2 := Aside0.mk A20
 clear A20
 by_cases c3 : t593 = true
 ·subst c3
  have H1 : (if 0 < (l0_1.length : Int) then ((impl_CountOf.f (rd l0_1 0)).bind fun t595 => (some t595)) else (none)) = some r := by rw [if_pos rfl] at H; exact H
  clear H
  have H := H1
  clear H1
  by_cases c4 : 0 < (l0_1.length : Int)
  ·rw [if_pos c4] at H
   have c4b0 : decide (0 < (l0_1.length : Int)) = true := decide_eq_true c4
   have c4b1 : decide (0 < l0_1.length) = true := decide_eq_true (by omega)
   clear c4
   replace H := Option.bind_eq_some_iff.mp H
   obtain ⟨t595, A50, H⟩ := H
   (try dsimp only at H)
   have A5 := Aside0.mk A50
   clear A50
   obtain rfl := Option.some.inj H
   go_enter Try.func71, Try.ntmps71
   go_wp2_with (first | ((with_reducible refine gate_dst (N := 1) rfl ?_); refine box_event ?hg (N := 1) ?hd (cs := #[.int .i64 a0_0, .slice A0_1 l0_1.length c0_1]) (t := 35) ?hr ?_; (case hd => rfl); (case hg => rfl); (case hr => first | (go_simp; done) | (go_simp; rfl)); intro gb592 hg w6 hbox hb; have BK592 := Aside0.mk hbox; have GW592 := Aside0.mk ((by rw [hg]; exact (below_size (Hof.Lw HB.out)) : w.heap.size ≤ gb592)); have GE592 := Aside0.mk ((by rw [hg]; exact (below_size (Hof.Lw HB.out)) : w.heap.size ≤ gb592)); replace HB := Aside0.mk (below_step (Hof.Lw HB.out) hb); clear hb hbox hg; obtain ⟨hcz7_0, hcz7_1, hfz7_0, hfz7_1⟩ := Hof.blk2 BK592.out) | ((with_reducible refine gate_callee (f := 81) rfl ?_); refine goesL_ (some 4) rfl rfl Try.func81 (by kernel_rfl) rfl #[.agg #[.int .i64 a0_0, .slice A0_1 l0_1.length c0_1]] rfl (by (try simp only [List.map_toArray, List.map_cons, List.map_nil]); first | done | rfl) ?_; (with_reducible refine (impl_IsMatroid.calls k a0_0 _ _ l0_1 true _ ?side1 ?side2 A2.out).mono ?_); (case side1 => exact Hof.Cw (Kd.C_below HR0_1.out HB.out)); (case side2 => exact HC0_1.out); rintro e w8 ⟨rfl, hb⟩; refine ⟨_, rfl, ?_⟩; replace BK592 := Aside0.mk (blk_below (Hof.Bw BK592.out) hb); replace HB := Aside0.mk (below_step (Hof.Lw HB.out) hb); (try clear hb); (try clear hb2); (try clear hk); (try clear hi); obtain ⟨hcz9_0, hcz9_1, hfz9_0, hfz9_1⟩ := Hof.blk2 BK592.out; have p594 : 0 ≤ (0 : Int) := (by omega); have q594 : 0 < (l0_1.length : Int) := of_decide_eq_true (by first | (with_reducible assumption) | assumption); obtain ⟨ad594, e594, hx594_0⟩ := Kd.at_int HR0_1.out 0 p594 q594; cases e594; have qi594 : (0 < l0_1.length) = True := eq_true (by omega); (try rw [show ((0 : Int)).toNat = 0 from rfl] at hx594_0); (try rw [Addr.add_zero'] at hx594_0); replace hx594_0 := (HB.out.cell (World.block_lt_of_cell? w _ hx594_0)).trans hx594_0; replace p594 := eq_true p594; replace q594 := eq_true q594) | ((with_reducible refine gate_callee (f := 95) rfl ?_); refine goesL_ (some 10) rfl rfl Try.func95 (by kernel_rfl) rfl #[.int .i64 (rd l0_1 0)] rfl (by (try simp only [List.map_toArray, List.map_cons, List.map_nil]); first | done | rfl) ?_; (with_reducible refine (impl_CountOf.calls (rd l0_1 0) t595 _ A5.out).mono ?_); rintro e w' ⟨rfl, ⟨nd, rfl⟩⟩; refine ⟨_, rfl, ?_⟩))
   go_ret
   exact ⟨by first | rfl | (simp [errW_none, errW_some] <;> rfl) | (simp [*, errW_none, errW_some] <;> rfl), by repeat (first | (with_reducible first | exact HB.out | apply below_alloc | apply pw_below_drewN | apply below_drew1 | refine below_set ?_ GE592.out) | exact HB.out)⟩
  ·rw [if_neg c4] at H
   exact absurd H (by simp)
 ·replace c3 := Bool.eq_false_iff.mpr c3
  subst c3
  have H1 : (some (-1)) = some r := by rw [if_neg (show ¬ (false = true) by decide)] at H; exact H
  clear H
  have H := H1
  clear H1
  obtain rfl := Option.some.inj H
  go_enter Try.func71, Try.ntmps71
  go_wp2_with (first | ((with_reducible refine gate_dst (N := 1) rfl ?_); refine box_event ?hg (N := 1) ?hd (cs := #[.int .i64 a0_0, .slice A0_1 l0_1.length c0_1]) (t := 35) ?hr ?_; (case hd => rfl); (case hg => rfl); (case hr => first | (go_simp; done) | (go_simp; rfl)); intro gb592 hg w10 hbox hb; have BK592 := Aside0.mk hbox; have GW592 := Aside0.mk ((by rw [hg]; exact (below_size (Hof.Lw HB.out)) : w.heap.size ≤ gb592)); have GE592 := Aside0.mk ((by rw [hg]; exact (below_size (Hof.Lw HB.out)) : w.heap.size ≤ gb592)); replace HB := Aside0.mk (below_step (Hof.Lw HB.out) hb); clear hb hbox hg; obtain ⟨hcz11_0, hcz11_1, hfz11_0, hfz11_1⟩ := Hof.blk2 BK592.out) | ((with_reducible refine gate_callee (f := 81) rfl ?_); refine goesL_ (some 4) rfl rfl Try.func81 (by kernel_rfl) rfl #[.agg #[.int .i64 a0_0, .slice A0_1 l0_1.length c0_1]] rfl (by (try simp only [List.map_toArray, List.map_cons, List.map_nil]); first | done | rfl) ?_; (with_reducible refine (impl_IsMatroid.calls k a0_0 _ _ l0_1 false _ ?side1 ?side2 A2.out).mono ?_); (case side1 => exact Hof.Cw (Kd.C_below HR0_1.out HB.out)); (case side2 => exact HC0_1.out); rintro e w12 ⟨rfl, hb⟩; refine ⟨_, rfl, ?_⟩; replace BK592 := Aside0.mk (blk_below (Hof.Bw BK592.out) hb); replace HB := Aside0.mk (below_step (Hof.Lw HB.out) hb); (try clear hb); (try clear hb2); (try clear hk); (try clear hi)))
  go_ret
  exact ⟨by first | rfl | (simp [errW_none, errW_some] <;> rfl) | (simp [*, errW_none, errW_some] <;> rfl), by repeat (first | (with_reducible first | exact HB.out | apply below_alloc | apply pw_below_drewN | apply below_drew1 | refine below_set ?_ GE592.out) | exact HB.out)⟩
end Go.Proofs.Ytmpodackojmojaa.Pr
end
section
namespace Go.Proofs.Ytmpodackojmojaa.Pr
open Go.RowKit Go.Proofs.YtmpodackojmojaaW.PrintWords Go.Proofs.YtmpodackojmojaaW.PrintLast Go.Proofs.YtmpodackojmojaaW.PrintMore
attribute [local go_sem] max2_int min2_int max_two min_two max_three min_three max_four min_four
set_option linter.unusedVariables false
set_option linter.unusedSimpArgs false
def impl_LateTasks.f (k : Nat) (l0 : List (S73)) : Option (Int) := (impl_AreTasks.f k l0).bind fun t596 => (if t596 = true then ((impl_TaskMatroid.f k l0).bind fun bt597 => ((impl_RankOfMatroid.f k bt597.1 bt597.2).bind fun t601 => (some (wrap64 ((l0.length : Int) - t601))))) else (some (-1)))
set_option maxHeartbeats 8000000 in
set_option maxRecDepth 100000 in
theorem impl_LateTasks.calls (k : Nat) (A0 : Option Addr) (c0 : Nat) (l0 : List (S73)) (r : Int) (w : World) (hr0 : Kd.C k73 w A0 l0.length l0) (hc0 : l0.length ≤ c0) (h : impl_LateTasks.f k l0 = some r) :
  Calls Try.prog 27 #[.slice A0 l0.length c0] w fun e w' => e = .returned (.int .i64 r) ∧ Below w.heap.size w w' := by
 have HR0 := Aside0.mk hr0
 have HC0 := Aside0.mk hc0
 clear hr0 hc0
 have HB := Aside0.mk (Below.refl w.heap.size w)
 have H : ((impl_AreTasks.f k l0).bind fun t596 => (if t596 = true then ((impl_TaskMatroid.f k l0).bind fun bt597 => ((impl_RankOfMatroid.f k bt597.1 bt597.2).bind fun t601 => (some (wrap64 ((l0.length : Int) - t601))))) else (some (-1)))) = some r := h
 clear h
 replace H := Option.bind_eq_some_iff.mp H
 obtain ⟨t596, A20, H⟩ := H
 (try dsimp only at H)
 have A2 := Aside0.mk A20
 clear A20
 by_cases c3 : t596 = true
 ·subst c3
  have H1 : ((impl_TaskMatroid.f k l0).bind fun bt597 => ((impl_RankOfMatroid.f k bt597.1 bt597.2).bind fun t601 => (some (wrap64 ((l0.length : Int) - t601))))) = some r := by rw [if_pos rfl] at H; exact H
  clear H
  have H := H1
  clear H1
  replace H := Option.bind_eq_some_iff.mp H
  obtain ⟨⟨t597, t598⟩, A40, H⟩ := H
  (try dsimp only at H)
  have A4 := Aside0.mk A40
  clear A40
  replace H := Option.bind_eq_some_iff.mp H
  obtain ⟨t601, A50, H⟩ := H
  (try dsimp only at H)
  have A5 := Aside0.mk A50
  clear A50
  obtain rfl := Option.some.inj H
  go_enter Try.func27, Try.ntmps27
  go_wp2_with (first | ((with_reducible refine gate_callee (f := 60) rfl ?_); refine goesL_ (some 4) rfl rfl Try.func60 (by kernel_rfl) rfl #[.slice A0 l0.length c0] rfl (by (try simp only [List.map_toArray, List.map_cons, List.map_nil]); first | done | rfl) ?_; (with_reducible refine (impl_AreTasks.calls k _ _ l0 true _ ?side1 ?side2 A2.out).mono ?_); (case side1 => exact Hof.Cw HR0.out); (case side2 => exact HC0.out); rintro e w6 ⟨rfl, hb⟩; refine ⟨_, rfl, ?_⟩; replace HB := Aside0.mk (below_step (Hof.Lw HB.out) hb); (try clear hb); (try clear hb2); (try clear hk); (try clear hi)) | ((with_reducible refine gate_callee (f := 22) rfl ?_); refine goesL_ (some 9) rfl rfl Try.func22 (by kernel_rfl) rfl #[.slice A0 l0.length c0] rfl (by (try simp only [List.map_toArray, List.map_cons, List.map_nil]); first | done | rfl) ?_; (with_reducible refine (impl_TaskMatroid.calls k _ _ l0 t597 t598 _ ?side1 ?side2 A4.out).mono ?_); (case side1 => exact Hof.Cw (Kd.C_below HR0.out HB.out)); (case side2 => exact HC0.out); rintro e w7 ⟨v599, rfl, ho0, hb⟩; refine ⟨_, rfl, ?_⟩; have HO600 := Aside0.mk (Kd.R_lower ho0 (below_size (Hof.Lw HB.out))); replace HB := Aside0.mk (below_step (Hof.Lw HB.out) hb); (try clear hb); (try clear hb2); (try clear hk); (try clear hi); (try clear ho0); obtain ⟨Ao8, co8, eo8⟩ := Kd.R_slice HO600.out; subst eo8) | ((with_reducible refine gate_callee (f := 71) rfl ?_); refine goesL_ (some 10) rfl rfl Try.func71 (by kernel_rfl) rfl #[.agg #[.int .i64 t597, .slice Ao8 t598.length co8]] rfl (by (try simp only [List.map_toArray, List.map_cons, List.map_nil]); first | done | rfl) ?_; (with_reducible refine (impl_RankOfMatroid.calls k t597 _ _ t598 t601 _ ?side1 ?side2 A5.out).mono ?_); (case side1 => exact Hof.Cw ((Kd.R_reads' HO600.out).2.2)); (case side2 => exact (Kd.R_reads' HO600.out).2.1); rintro e w9 ⟨rfl, hb⟩; refine ⟨_, rfl, ?_⟩; replace HO600 := Aside0.mk (Kd.R_below (Hof.Rw HO600.out) hb); replace HB := Aside0.mk (below_step (Hof.Lw HB.out) hb); (try clear hb); (try clear hb2); (try clear hk); (try clear hi)))
  go_ret
  exact ⟨by first | rfl | (simp [errW_none, errW_some] <;> rfl) | (simp [*, errW_none, errW_some] <;> rfl), by repeat (first | (with_reducible first | exact HB.out | apply below_alloc | apply pw_below_drewN | apply below_drew1) | exact HB.out)⟩
 ·replace c3 := Bool.eq_false_iff.mpr c3
  subst c3
  have H1 : (some (-1)) = some r := by rw [if_neg (show ¬ (false = true) by decide)] at H; exact H
  clear H
  have H := H1
  clear H1
  obtain rfl := Option.some.inj H
  go_enter Try.func27, Try.ntmps27
  go_wp2_with (first | ((with_reducible refine gate_callee (f := 60) rfl ?_); refine goesL_ (some 4) rfl rfl Try.func60 (by kernel_rfl) rfl #[.slice A0 l0.length c0] rfl (by (try simp only [List.map_toArray, List.map_cons, List.map_nil]); first | done | rfl) ?_; (with_reducible refine (impl_AreTasks.calls k _ _ l0 false _ ?side1 ?side2 A2.out).mono ?_); (case side1 => exact Hof.Cw HR0.out); (case side2 => exact HC0.out); rintro e w10 ⟨rfl, hb⟩; refine ⟨_, rfl, ?_⟩; replace HB := Aside0.mk (below_step (Hof.Lw HB.out) hb); (try clear hb); (try clear hb2); (try clear hk); (try clear hi)))
  go_ret
  exact ⟨by first | rfl | (simp [errW_none, errW_some] <;> rfl) | (simp [*, errW_none, errW_some] <;> rfl), by repeat (first | (with_reducible first | exact HB.out | apply below_alloc | apply pw_below_drewN | apply below_drew1) | exact HB.out)⟩
end Go.Proofs.Ytmpodackojmojaa.Pr
end
section
namespace Go.Proofs.Ytmpodackojmojaa.Pr
open Go.RowKit Go.Proofs.YtmpodackojmojaaW.PrintWords Go.Proofs.YtmpodackojmojaaW.PrintLast Go.Proofs.YtmpodackojmojaaW.PrintMore
attribute [local go_sem] max2_int min2_int max_two min_two max_three min_three max_four min_four
set_option linter.unusedVariables false
set_option linter.unusedSimpArgs false
def laws_FnExactLateTasks.f (k : Nat) (l0 : List (S75)) : Option (Bool) := (laws_szTaskS.f l0 1048576).bind fun t602 => (if t602 < 0 then (some true) else ((laws_toTaskS.f k l0).bind fun t603 => ((spec_LateTasks.f k t603).bind fun t606 => ((laws_toTaskS.f k l0).bind fun t607 => ((impl_LateTasks.f k t607).bind fun t610 => (if t610 = t606 then ((laws_toTaskS.f k l0).bind fun t611 => ((laws_eqTaskS.f k t607 t611).bind fun t614 => (if t614 = true then (some true) else (some false)))) else (some false)))))))
set_option maxHeartbeats 8000000 in
set_option maxRecDepth 100000 in
theorem laws_FnExactLateTasks.calls (k : Nat) (A0 : Option Addr) (c0 : Nat) (l0 : List (S75)) (r : Bool) (w : World) (hr0 : Kd.C k75 w A0 l0.length l0) (hc0 : l0.length ≤ c0) (hT : Aside0 (r = true)) (h : laws_FnExactLateTasks.f k l0 = some r) :
  Calls Try.prog 5 #[.slice A0 l0.length c0] w fun e w' => e = .returned (.bool r) ∧ Below w.heap.size w w' := by
 have HR0 := Aside0.mk hr0
 have HC0 := Aside0.mk hc0
 clear hr0 hc0
 have HB := Aside0.mk (Below.refl w.heap.size w)
 have H : ((laws_szTaskS.f l0 1048576).bind fun t602 => (if t602 < 0 then (some true) else ((laws_toTaskS.f k l0).bind fun t603 => ((spec_LateTasks.f k t603).bind fun t606 => ((laws_toTaskS.f k l0).bind fun t607 => ((impl_LateTasks.f k t607).bind fun t610 => (if t610 = t606 then ((laws_toTaskS.f k l0).bind fun t611 => ((laws_eqTaskS.f k t607 t611).bind fun t614 => (if t614 = true then (some true) else (some false)))) else (some false)))))))) = some r := h
 clear h
 replace H := Option.bind_eq_some_iff.mp H
 obtain ⟨t602, A20, H⟩ := H
 (try dsimp only at H)
 have A2 := Aside0.mk A20
 clear A20
 by_cases c3 : t602 < 0
 ·rw [if_pos c3] at H
  have c3b0 : decide (t602 < 0) = true := decide_eq_true c3
  clear c3
  obtain rfl := Option.some.inj H
  go_enter Try.func5, Try.ntmps5
  go_wp2_with (first | ((with_reducible refine gate_callee (f := 12) rfl ?_); refine goesL_ (some 9) rfl rfl Try.func12 (by kernel_rfl) rfl #[.slice A0 l0.length c0, .int .i64 1048576] rfl (by (try simp only [List.map_toArray, List.map_cons, List.map_nil]); first | done | rfl) ?_; (with_reducible refine (laws_szTaskS.calls _ _ l0 1048576 t602 _ ?side1 ?side2 A2.out).mono ?_); (case side1 => exact Hof.Cw HR0.out); (case side2 => exact HC0.out); rintro e w' ⟨rfl, ⟨nd, rfl⟩⟩; refine ⟨_, rfl, ?_⟩))
  go_ret
  exact ⟨by first | rfl | (simp [errW_none, errW_some] <;> rfl) | (simp [*, errW_none, errW_some] <;> rfl), by repeat (first | (with_reducible first | exact HB.out | apply below_alloc | apply pw_below_drewN | apply below_drew1) | exact HB.out)⟩
 ·rw [if_neg c3] at H
  have c3b0 : decide (t602 < 0) = false := decide_eq_false c3
  clear c3
  replace H := Option.bind_eq_some_iff.mp H
  obtain ⟨t603, A40, H⟩ := H
  (try dsimp only at H)
  have A4 := Aside0.mk A40
  clear A40
  replace H := Option.bind_eq_some_iff.mp H
  obtain ⟨t606, A50, H⟩ := H
  (try dsimp only at H)
  have A5 := Aside0.mk A50
  clear A50
  replace H := Option.bind_eq_some_iff.mp H
  obtain ⟨t607, A60, H⟩ := H
  (try dsimp only at H)
  have A6 := Aside0.mk A60
  clear A60
  replace H := Option.bind_eq_some_iff.mp H
  obtain ⟨t610, A70, H⟩ := H
  (try dsimp only at H)
  have A7 := Aside0.mk A70
  clear A70
  by_cases c8 : t610 = t606
  ·rw [if_pos c8] at H
   have c8b0 : (t610 == t606) = true := beq_iff_eq.mpr c8
   have c8b1 : (t610 != t606) = false := bne_eq_false_iff_eq.mpr c8
   clear c8
   replace H := Option.bind_eq_some_iff.mp H
   obtain ⟨t611, A90, H⟩ := H
   (try dsimp only at H)
   have A9 := Aside0.mk A90
   clear A90
   replace H := Option.bind_eq_some_iff.mp H
   obtain ⟨t614, A100, H⟩ := H
   (try dsimp only at H)
   have A10 := Aside0.mk A100
   clear A100
   by_cases c11 : t614 = true
   ·subst c11
    have H1 : (some true) = some r := by rw [if_pos rfl] at H; exact H
    clear H
    have H := H1
    clear H1
    obtain rfl := Option.some.inj H
    go_enter Try.func5, Try.ntmps5
    go_wp2_with (first | ((with_reducible refine gate_callee (f := 12) rfl ?_); refine goesL_ (some 9) rfl rfl Try.func12 (by kernel_rfl) rfl #[.slice A0 l0.length c0, .int .i64 1048576] rfl (by (try simp only [List.map_toArray, List.map_cons, List.map_nil]); first | done | rfl) ?_; (with_reducible refine (laws_szTaskS.calls _ _ l0 1048576 t602 _ ?side1 ?side2 A2.out).mono ?_); (case side1 => exact Hof.Cw HR0.out); (case side2 => exact HC0.out); rintro e w' ⟨rfl, ⟨nd, rfl⟩⟩; refine ⟨_, rfl, ?_⟩) | ((with_reducible refine gate_callee (f := 14) rfl ?_); refine goesL_ (some 13) rfl rfl Try.func14 (by kernel_rfl) rfl #[.slice A0 l0.length c0] rfl (by (try simp only [List.map_toArray, List.map_cons, List.map_nil]); first | done | rfl) ?_; (with_reducible refine (laws_toTaskS.calls k _ _ l0 t603 _ ?side1 ?side2 A4.out).mono ?_); (case side1 => exact Hof.Cw HR0.out); (case side2 => exact HC0.out); rintro e w12 ⟨v604, rfl, ho0, hb⟩; refine ⟨_, rfl, ?_⟩; have HO605 := Aside0.mk (Kd.R_lower ho0 (below_size (Hof.Lw HB.out))); replace HB := Aside0.mk (below_step (Hof.Lw HB.out) hb); (try clear hb); (try clear hb2); (try clear hk); (try clear hi); (try clear ho0); obtain ⟨Ao13, co13, eo13⟩ := Kd.R_slice HO605.out; subst eo13) | ((with_reducible refine gate_callee (f := 26) rfl ?_); refine goesL_ (some 14) rfl rfl Try.func26 (by kernel_rfl) rfl #[.slice Ao13 t603.length co13] rfl (by (try simp only [List.map_toArray, List.map_cons, List.map_nil]); first | done | rfl) ?_; (with_reducible refine (spec_LateTasks.calls k _ _ t603 t606 _ ?side1 ?side2 A5.out).mono ?_); (case side1 => exact Hof.Cw ((Kd.R_reads' HO605.out).2.2)); (case side2 => exact (Kd.R_reads' HO605.out).2.1); rintro e w14 ⟨rfl, hb⟩; refine ⟨_, rfl, ?_⟩; replace HO605 := Aside0.mk (Kd.R_below (Hof.Rw HO605.out) hb); replace HB := Aside0.mk (below_step (Hof.Lw HB.out) hb); (try clear hb); (try clear hb2); (try clear hk); (try clear hi)) | ((with_reducible refine gate_callee (f := 14) rfl ?_); refine goesL_ (some 16) rfl rfl Try.func14 (by kernel_rfl) rfl #[.slice A0 l0.length c0] rfl (by (try simp only [List.map_toArray, List.map_cons, List.map_nil]); first | done | rfl) ?_; (with_reducible refine (laws_toTaskS.calls k _ _ l0 t607 _ ?side1 ?side2 A6.out).mono ?_); (case side1 => exact Hof.Cw (Kd.C_below HR0.out HB.out)); (case side2 => exact HC0.out); rintro e w15 ⟨v608, rfl, ho0, hb⟩; refine ⟨_, rfl, ?_⟩; have HO609 := Aside0.mk (Kd.R_lower (Kd.R_new' ho0 (Kd.R_lt (Hof.Rw HO605.out))) (below_size (Hof.Lw HB.out))); replace HO605 := Aside0.mk (Kd.R_elder' (Hof.Rw HO605.out) (Kd.R_base ho0) hb); replace HB := Aside0.mk (below_step (Hof.Lw HB.out) hb); (try clear hb); (try clear hb2); (try clear hk); (try clear hi); (try clear ho0); obtain ⟨Ao16, co16, eo16⟩ := Kd.R_slice HO609.out; subst eo16) | ((with_reducible refine gate_callee (f := 27) rfl ?_); refine goesL_ (some 18) rfl rfl Try.func27 (by kernel_rfl) rfl #[.slice Ao16 t607.length co16] rfl (by (try simp only [List.map_toArray, List.map_cons, List.map_nil]); first | done | rfl) ?_; (with_reducible refine (impl_LateTasks.calls k _ _ t607 t610 _ ?side1 ?side2 A7.out).mono ?_); (case side1 => exact Hof.Cw ((Kd.R_reads' HO609.out).2.2)); (case side2 => exact (Kd.R_reads' HO609.out).2.1); rintro e w17 ⟨rfl, hb⟩; refine ⟨_, rfl, ?_⟩; replace HO605 := Aside0.mk (Kd.R_below (Hof.Rw HO605.out) hb); replace HO609 := Aside0.mk (Kd.R_below (Hof.Rw HO609.out) hb); replace HB := Aside0.mk (below_step (Hof.Lw HB.out) hb); (try clear hb); (try clear hb2); (try clear hk); (try clear hi)) | ((with_reducible refine gate_callee (f := 14) rfl ?_); refine goesL_ (some 24) rfl rfl Try.func14 (by kernel_rfl) rfl #[.slice A0 l0.length c0] rfl (by (try simp only [List.map_toArray, List.map_cons, List.map_nil]); first | done | rfl) ?_; (with_reducible refine (laws_toTaskS.calls k _ _ l0 t611 _ ?side1 ?side2 A9.out).mono ?_); (case side1 => exact Hof.Cw (Kd.C_below HR0.out HB.out)); (case side2 => exact HC0.out); rintro e w18 ⟨v612, rfl, ho0, hb⟩; refine ⟨_, rfl, ?_⟩; have HO613 := Aside0.mk (Kd.R_lower (Kd.R_new' (Kd.R_new' ho0 (Kd.R_lt (Hof.Rw HO605.out))) (Kd.R_lt (Hof.Rw HO609.out))) (below_size (Hof.Lw HB.out))); replace HO605 := Aside0.mk (Kd.R_elder' (Hof.Rw HO605.out) (Kd.R_base ho0) hb); replace HO609 := Aside0.mk (Kd.R_elder' (Hof.Rw HO609.out) (Kd.R_base ho0) hb); replace HB := Aside0.mk (below_step (Hof.Lw HB.out) hb); (try clear hb); (try clear hb2); (try clear hk); (try clear hi); (try clear ho0); obtain ⟨Ao19, co19, eo19⟩ := Kd.R_slice HO613.out; subst eo19) | ((with_reducible refine gate_callee (f := 17) rfl ?_); refine goesL_ (some 25) rfl rfl Try.func17 (by kernel_rfl) rfl #[.slice Ao16 t607.length co16, .slice Ao19 t611.length co19] rfl (by (try simp only [List.map_toArray, List.map_cons, List.map_nil]); first | done | rfl) ?_; (with_reducible refine (laws_eqTaskS.calls k _ _ t607 _ _ t611 true _ ?side1 ?side2 ?side3 ?side4 A10.out).mono ?_); (case side1 => exact Hof.Cw ((Kd.R_reads' HO609.out).2.2)); (case side2 => exact (Kd.R_reads' HO609.out).2.1); (case side3 => exact Hof.Cw ((Kd.R_reads' HO613.out).2.2)); (case side4 => exact (Kd.R_reads' HO613.out).2.1); rintro e w20 ⟨rfl, hb⟩; refine ⟨_, rfl, ?_⟩; replace HO605 := Aside0.mk (Kd.R_below (Hof.Rw HO605.out) hb); replace HO609 := Aside0.mk (Kd.R_below (Hof.Rw HO609.out) hb); replace HO613 := Aside0.mk (Kd.R_below (Hof.Rw HO613.out) hb); replace HB := Aside0.mk (below_step (Hof.Lw HB.out) hb); (try clear hb); (try clear hb2); (try clear hk); (try clear hi)))
    go_ret
    exact ⟨by first | rfl | (simp [errW_none, errW_some] <;> rfl) | (simp [*, errW_none, errW_some] <;> rfl), by repeat (first | (with_reducible first | exact HB.out | apply below_alloc | apply pw_below_drewN | apply below_drew1) | exact HB.out)⟩
   ·replace c11 := Bool.eq_false_iff.mpr c11
    subst c11
    have H1 : (some false) = some r := by rw [if_neg (show ¬ (false = true) by decide)] at H; exact H
    clear H
    have H := H1
    clear H1
    obtain rfl := Option.some.inj H
    exact absurd hT.out (by decide)
  ·rw [if_neg c8] at H
   have c8b0 : (t610 == t606) = false := beq_eq_false_iff_ne.mpr c8
   have c8b1 : (t610 != t606) = true := bne_iff_ne.mpr c8
   obtain rfl := Option.some.inj H
   exact absurd hT.out (by decide)
end Go.Proofs.Ytmpodackojmojaa.Pr
end
section
namespace Go.Proofs.Ytmpodackojmojaa.Gen
open Go.RowKit Go.Proofs.YtmpodackojmojaaW.PrintWords Go.Proofs.YtmpodackojmojaaW.PrintMore
theorem w64 {i : Int} (h0 : -9223372036854775808 ≤ i) (h1 : i ≤ 9223372036854775807) : wrap64 i = i := by
 unfold wrap64
 omega
theorem w64s (i : Nat) (h1 : i < 9223372036854775807) : wrap64 ((i : Int) + 1) = ((i + 1 : Nat) : Int) := by
 unfold wrap64
 omega
theorem rd_nat (xs : List Int) (i : Nat) : rd xs (i : Int) = xs.getD i 0 := rfl
theorem count_loop {σ γ : Type} (L : Nat → σ → Int → Option γ) (n : Nat) (step : Nat → σ → σ) (P : Nat → σ → Prop) (K : Nat)
  (hstep : ∀ k i s, K ≤ k → i < n → P i s → L (k + 1) s (i : Int) = L k (step i s) ((i + 1 : Nat) : Int) ∧ P (i + 1) (step i s)) :
  ∀ (d i : Nat) (s : σ) (k : Nat), i + d = n → K + d ≤ k → P i s → ∃ s', L k s (i : Int) = L (k - d) s' (n : Int) ∧ P n s' ∧ s' = (List.range' i d).foldl (fun s j => step j s) s := by
 intro d
 induction d with
 | zero =>
  intro i s k hi hk hP
  obtain rfl : i = n := by omega
  exact ⟨s, by simp, hP, by simp⟩
 | succ d ih =>
  intro i s k hi hk hP
  obtain ⟨k, rfl⟩ : ∃ m, k = m + 1 := ⟨k - 1, by omega⟩
  obtain ⟨h1, h2⟩ := hstep k i s (by omega) (by omega) hP
  obtain ⟨s', h3, h4, h5⟩ := ih (i + 1) (step i s) k (by omega) (by omega) h2
  refine ⟨s', ?_, h4, ?_⟩
  ·rw [h1, h3]
   congr 1
   omega
  ·rw [h5, List.range'_succ]
   rfl
theorem fill_loop {β γ : Type} (L : Nat → List β → Int → Option γ) (f : Nat → β) (K n : Nat)
  (hstep : ∀ k i ys, K ≤ k → i < n → ys.length = n → L (k + 1) ys (i : Int) = L k (ys.set i (f i)) ((i + 1 : Nat) : Int))
  (ys : List β) (hy : ys.length = n) (k : Nat) (hk : K + n ≤ k) : L k ys 0 = L (k - n) ((List.range n).map f) (n : Int) := by
 obtain ⟨s', h1, h2, _⟩ := count_loop L n (fun i s => s.set i (f i)) (fun i s => s.length = n ∧ ∀ j, j < i → s[j]? = some (f j)) K
  (fun k i s hK hi hP => ⟨hstep k i s hK hi hP.1, by simpa using hP.1, fun j hj => by
   rw [List.getElem?_set]
   by_cases e : i = j
   ·subst e
    rw [if_pos rfl, if_pos (by omega)]
   ·rw [if_neg e]
    exact hP.2 j (by omega)⟩) n 0 ys k (by omega) hk ⟨hy, fun j hj => by omega⟩
 refine h1.trans ?_
 congr 1
 apply List.ext_getElem?
 intro j
 by_cases hj : j < n
 ·rw [h2.2 j hj]
  simp [hj]
 ·rw [List.getElem?_eq_none (by omega), List.getElem?_eq_none (by simp; omega)]
theorem map_getD {α β : Type} (xs : List α) (d : α) (g : α → β) : (List.range xs.length).map (fun i => g (xs.getD i d)) = xs.map g := by
 apply List.ext_getElem?
 intro j
 by_cases hj : j < xs.length
 ·simp [hj, List.getD]
 ·simp [hj]
theorem map_getD' {α : Type} (xs : List α) (d : α) : (List.range xs.length).map (fun i => xs.getD i d) = xs := by
 have := map_getD xs d id
 simpa using this
theorem all_loop (L : Nat → Int → Option Bool) (n : Nat) (p : Nat → Bool) (K : Nat) (last : Bool)
  (hstep : ∀ k i, K ≤ k → i < n → L (k + 1) (i : Int) = if p i = true then L k ((i + 1 : Nat) : Int) else some false)
  (hend : ∀ k, K ≤ k → L (k + 1) (n : Int) = some last) :
  ∀ (d i k : Nat), i + d = n → K + d < k → L k (i : Int) = some ((List.range' i d).all p && last) := by
 intro d
 induction d with
 | zero =>
  intro i k hi hk
  obtain rfl : i = n := by omega
  obtain ⟨k, rfl⟩ : ∃ m, k = m + 1 := ⟨k - 1, by omega⟩
  simp [hend k (by omega)]
 | succ d ih =>
  intro i k hi hk
  obtain ⟨k, rfl⟩ : ∃ m, k = m + 1 := ⟨k - 1, by omega⟩
  rw [hstep k i (by omega) (by omega), List.range'_succ]
  by_cases h : p i = true
  ·rw [if_pos h, ih (i + 1) k (by omega) (by omega)]
   simp [h]
  ·rw [if_neg h]
   simp [h]
theorem ev_loop {σ γ : Type} (L : Nat → σ → Int → Option γ) (n : Nat) (step : Nat → σ → σ) (P : Nat → σ → Prop) (r : γ)
  (hround : ∀ i s, i < n → P i s → P (i + 1) (step i s) ∧ (Ev (fun k => L k (step i s) ((i + 1 : Nat) : Int)) r → Ev (fun k => L k s (i : Int)) r)) :
  ∀ (d i : Nat) (s : σ), i + d = n → P i s → (P n ((List.range' i d).foldl (fun s j => step j s) s) → Ev (fun k => L k ((List.range' i d).foldl (fun s j => step j s) s) (n : Int)) r) → Ev (fun k => L k s (i : Int)) r := by
 intro d
 induction d with
 | zero =>
  intro i s hi hP h
  obtain rfl : i = n := by omega
  exact h (by simpa using hP)
 | succ d ih =>
  intro i s hi hP h
  obtain ⟨h1, h2⟩ := hround i s (by omega) hP
  refine h2 (ih (i + 1) (step i s) (by omega) h1 ?_)
  rw [List.range'_succ] at h
  exact h
theorem ev_at {γ : Type} {g : Nat → Option γ} {r : γ} (K : Nat) (h : ∀ k, K ≤ k → g k = some r) : Ev g r := ⟨K, h⟩
theorem foldl_append (p : Nat → Bool) (l : List Nat) (acc : List Int) : l.foldl (fun s j => if p j = true then s ++ [(j : Int)] else s) acc = acc ++ (l.filter p).map (fun j : Nat => (j : Int)) := by
 induction l generalizing acc with
 | nil => simp
 | cons a l ih =>
  rw [List.foldl_cons, ih]
  by_cases h : p a = true
  ·simp [h]
  ·simp [h]
theorem all_yes (l : List Nat) : (l.all fun _ => true) = true := List.all_eq_true.2 (fun _ _ => rfl)
end Go.Proofs.Ytmpodackojmojaa.Gen
end
section
namespace Go.Proofs.Ytmpodackojmojaa.Base
open Go.RowKit Go.Proofs.Ytmpodackojmojaa.Pr Go.Proofs.YtmpodackojmojaaW.PrintWords Go.Proofs.YtmpodackojmojaaW.PrintLast Go.Proofs.YtmpodackojmojaaW.PrintMore
abbrev TA := S75
abbrev TB := S73
def mkTask (x : TA) : TB := ⟨x.f0, x.f1⟩
theorem toTaskS (xs : List TA) (hn : xs.length ≤ 1048576) (k : Nat) (hk : xs.length < k) : laws_toTaskS.f k xs = some (xs.map mkTask) := by
 unfold laws_toTaskS.f
 rw [if_pos (by omega), if_pos (by omega)]
 rw [Gen.fill_loop (fun k ys i => laws_toTaskS.l0 k xs ys i) (fun i => mkTask (xs.getD i z75)) 0 xs.length (fun k i ys _ hi hy => by
  simp only [laws_toTaskS.l0, laws_toTask.f]
  rw [if_pos (by omega), if_pos (by omega)]
  simp only [Option.bind_some]
  rw [if_pos (by omega), Gen.w64s i (by omega)]
  rfl) _ (by simp) k (by omega), Gen.map_getD xs]
 obtain ⟨m, hm⟩ : ∃ m, k - xs.length = m + 1 := ⟨k - xs.length - 1, by omega⟩
 rw [hm]
 simp only [laws_toTaskS.l0]
 rw [if_neg (by omega)]
theorem eqTaskS (xs : List TB) (hn : xs.length ≤ 1048576) (k : Nat) (hk : xs.length < k) : laws_eqTaskS.f k xs xs = some true := by
 unfold laws_eqTaskS.f
 rw [if_pos rfl]
 have := Gen.all_loop (fun k i => laws_eqTaskS.l0 k xs xs i) xs.length (fun _ => true) 0 true (fun k i _ hi => by
  simp only [laws_eqTaskS.l0, laws_eqTask.f]
  rw [if_pos (by omega), if_pos (by omega), if_pos (by omega), if_pos (by trivial), if_pos (by trivial)]
  simp only [Option.bind_some]
  rw [if_pos (by trivial), Gen.w64s i (by omega), if_pos (by trivial)]) (fun k _ => by
  simp only [laws_eqTaskS.l0]
  rw [if_neg (by omega)]) xs.length 0 k (by omega) (by omega)
 simpa [Gen.all_yes] using this
end Go.Proofs.Ytmpodackojmojaa.Base
end
section
namespace Go.Proofs.Ytmpodackojmojaa.Base
open Go.RowKit Go.Proofs.Ytmpodackojmojaa.Pr Go.Proofs.YtmpodackojmojaaW.PrintWords Go.Proofs.YtmpodackojmojaaW.PrintLast Go.Proofs.YtmpodackojmojaaW.PrintMore
theorem toTaskSE (xs : List TA) (hn : xs.length ≤ 1048576) : Ev (fun k => laws_toTaskS.f k xs) (xs.map mkTask) := Gen.ev_at (xs.length + 1) (fun k hk => toTaskS xs hn k (by omega))
theorem eqTaskSE (xs : List TB) (hn : xs.length ≤ 1048576) : Ev (fun k => laws_eqTaskS.f k xs xs) true := Gen.ev_at (xs.length + 1) (fun k hk => eqTaskS xs hn k (by omega))
end Go.Proofs.Ytmpodackojmojaa.Base
end
section
namespace Go.Proofs.Ytmpodackojmojaa.Sets
open Go.RowKit Go.Proofs.YtmpodackojmojaaW.PrintWords Go.Proofs.YtmpodackojmojaaW.PrintMore
theorem ev_search {γ : Type} (L : Nat → Int → Option γ) (n : Nat) (p : Nat → Bool) (S : γ → Prop)
  (hyes : ∀ i, i < n → p i = true → ∃ r, S r ∧ Ev (fun k => L k (i : Int)) r)
  (hno : ∀ i, i < n → p i = false → ∀ r, Ev (fun k => L k ((i + 1 : Nat) : Int)) r → Ev (fun k => L k (i : Int)) r) :
  ∀ d i : Nat, i + d = n → ((List.range' i d).any p = true → ∃ r, S r ∧ Ev (fun k => L k (i : Int)) r) ∧ ((List.range' i d).any p = false → ∀ r, Ev (fun k => L k (n : Int)) r → Ev (fun k => L k (i : Int)) r) := by
 intro d
 induction d with
 | zero =>
  intro i hi
  obtain rfl : i = n := by omega
  exact ⟨fun h => by simp at h, fun _ r h => h⟩
 | succ d ih =>
  intro i hi
  obtain ⟨h1, h2⟩ := ih (i + 1) (by omega)
  rw [List.range'_succ, List.any_cons]
  cases hp : p i with
  | true => exact ⟨fun _ => hyes i (by omega) hp, fun h => by simp at h⟩
  | false =>
   refine ⟨fun h => ?_, fun h r hr => hno i (by omega) hp r (h2 (by simpa using h) r hr)⟩
   obtain ⟨r, hr, hE⟩ := h1 (by simpa using h)
   exact ⟨r, hr, hno i (by omega) hp r hE⟩
theorem wraps_i64 (n : Int) (h0 : 0 ≤ n) (h1 : n < 2 ^ 62) : IntKind.i64.wrap n = n := by
 rw [IntKind.wrap_i64]
 omega
theorem and_nat (a b : Nat) (ha : a < 2 ^ 62) (hb : b < 2 ^ 62) : Go.bits .and .i64 (a : Int) (b : Int) = ((a &&& b : Nat) : Int) := (bits_nat .i64 62 (by decide) wraps_i64 a b ha hb).1
theorem or_nat (a b : Nat) (ha : a < 2 ^ 62) (hb : b < 2 ^ 62) : Go.bits .or .i64 (a : Int) (b : Int) = ((a ||| b : Nat) : Int) := (bits_nat .i64 62 (by decide) wraps_i64 a b ha hb).2
def diff (a b : Nat) : Nat := a ^^^ (a &&& b)
theorem diff_bit (a b i : Nat) : (diff a b).testBit i = (a.testBit i && !b.testBit i) := by
 unfold diff
 rw [Nat.testBit_xor, Nat.testBit_and]
 cases a.testBit i <;> cases b.testBit i <;> rfl
theorem diff_lt {a b : Nat} {n : Nat} (ha : a < 2 ^ n) : diff a b < 2 ^ n := by
 apply Nat.lt_pow_two_of_testBit
 intro i hi
 rw [diff_bit, Nat.testBit_lt_two_pow (Nat.lt_of_lt_of_le ha (Nat.pow_le_pow_right (by decide) hi))]
 rfl
theorem andNot_nat (a b : Nat) (ha : a < 2 ^ 62) : Go.bits .andNot .i64 (a : Int) (b : Int) = ((diff a b : Nat) : Int) := by
 have h64 : (2 : Nat) ^ 62 ≤ 2 ^ 64 := by decide
 have key : (BitVec.ofNat 64 a &&& ~~~(BitVec.ofNat 64 b)).toNat = diff a b := by
  apply Nat.eq_of_testBit_eq
  intro i
  rw [diff_bit, BitVec.testBit_toNat, BitVec.getLsbD_and, BitVec.getLsbD_not, BitVec.getLsbD_ofNat, BitVec.getLsbD_ofNat]
  by_cases hi : i < 64
  ·simp [hi]
  ·have : a.testBit i = false := Nat.testBit_lt_two_pow (Nat.lt_of_lt_of_le ha (Nat.pow_le_pow_right (by decide) (by omega)))
   simp [hi, this]
 show IntKind.i64.wrap ((BitVec.ofInt 64 (a : Int) &&& ~~~(BitVec.ofInt 64 (b : Int))).toNat : Int) = _
 have e1 : BitVec.ofInt 64 (a : Int) = BitVec.ofNat 64 a := by simp
 have e2 : BitVec.ofInt 64 (b : Int) = BitVec.ofNat 64 b := by simp
 rw [e1, e2, key]
 have := diff_lt (b := b) ha
 exact wraps_i64 _ (by omega) (by exact_mod_cast this)
theorem shl_nat (e : Nat) (he : e < 62) : shl .i64 1 (e : Int) = ((2 ^ e : Nat) : Int) := by
 unfold shl
 have h1 : min ((e : Int)).toNat IntKind.i64.bits = e := by
  show min e 64 = e
  omega
 rw [h1, Int.one_mul]
 have h2 : (2 : Nat) ^ e < 2 ^ 62 := Nat.pow_lt_pow_right (by decide) he
 rw [wraps_i64 _ (by exact_mod_cast Nat.zero_le _) (by exact_mod_cast h2)]
 push_cast
 rfl
theorem shr_bit (a e : Nat) (he : e < 62) (ha : a < 2 ^ 62) : ((Go.bits .and .i64 (shr .i64 (a : Int) (e : Int)) 1) == 1) = a.testBit e := by
 unfold shr
 have h1 : min ((e : Int)).toNat IntKind.i64.bits = e := by
  show min e 64 = e
  omega
 rw [h1]
 have h2 : ((a : Int) / 2 ^ e) = ((a / 2 ^ e : Nat) : Int) := by push_cast; rfl
 have h3 : a / 2 ^ e < 2 ^ 62 := Nat.lt_of_le_of_lt (Nat.div_le_self _ _) ha
 rw [h2, show (1 : Int) = ((1 : Nat) : Int) from rfl, and_nat _ 1 h3 (by decide), Nat.testBit_eq_decide_div_mod_eq, Nat.and_one_is_mod]
 by_cases h : a / 2 ^ e % 2 = 1
 ·simp [h]
 ·have h4 : a / 2 ^ e % 2 = 0 := by omega
  simp [h4]
theorem bit_far {a n e : Nat} (ha : a < 2 ^ n) (he : n ≤ e) : a.testBit e = false := Nat.testBit_lt_two_pow (Nat.lt_of_lt_of_le ha (Nat.pow_le_pow_right (by decide) he))
theorem swap_eq : ∀ a, a < 256 → ∀ e, e < 8 → ∀ f, f < 8 → a.testBit e = true → a.testBit f = false → diff a (2 ^ e) ||| 2 ^ f = a - 2 ^ e + 2 ^ f := by decide +kernel
theorem bit_le : ∀ a, a < 256 → ∀ e, e < 8 → a.testBit e = true → 2 ^ e ≤ a := by decide +kernel
def elems (s : Nat) : List Nat := (List.range' 0 8).filter fun j => s.testBit j
def exch (l : List Nat) (a b e : Nat) : Bool := (List.range' 0 8).any fun f => b.testBit f && !a.testBit f && l.contains (a - 2 ^ e + 2 ^ f)
def fails (l : List Nat) : Bool := l.any fun a => l.any fun b => (List.range' 0 8).any fun e => a.testBit e && !b.testBit e && !exch l a b e
def ints (l : List Nat) : List Int := l.map fun j : Nat => (j : Int)
theorem ints_length (l : List Nat) : (ints l).length = l.length := by simp [ints]
theorem ints_getD (l : List Nat) (i : Nat) : (ints l).getD i 0 = ((l.getD i 0 : Nat) : Int) := by
 by_cases h : i < l.length
 ·simp [ints, List.getD, h]
 ·simp [ints, List.getD, h]
theorem ints_rd (l : List Nat) (i : Nat) : rd (ints l) (i : Int) = ((l.getD i 0 : Nat) : Int) := by rw [Gen.rd_nat, ints_getD]
theorem any_index {α : Type} (l : List α) (d : α) (p : α → Bool) : ((List.range' 0 l.length).any fun i => p (l.getD i d)) = l.any p := by
 rw [Bool.eq_iff_iff]
 simp only [List.any_eq_true]
 constructor
 ·rintro ⟨i, hi, hp⟩
  have hlt : i < l.length := by have := List.mem_range'_1.1 hi; omega
  refine ⟨l[i], List.getElem_mem hlt, ?_⟩
  simpa [List.getD, hlt] using hp
 ·rintro ⟨x, hx, hp⟩
  obtain ⟨i, hi, rfl⟩ := List.getElem_of_mem hx
  exact ⟨i, List.mem_range'_1.2 (by omega), by simpa [List.getD, hi] using hp⟩
theorem any_more (p : Nat → Bool) (m d : Nat) (h : ∀ j, m ≤ j → p j = false) : (List.range' 0 (m + d)).any p = (List.range' 0 m).any p := by
 rw [← List.range'_append_1, List.any_append]
 have : (List.range' (0 + m) d).any p = false := by
  rw [List.any_eq_false]
  intro j hj
  have := List.mem_range'_1.1 hj
  rw [h j (by omega)]
  decide
 rw [this, Bool.or_false]
theorem range8 (m : Nat) (hm : m ≤ 8) (p : Nat → Bool) (h : ∀ j, m ≤ j → p j = false) : (List.range' 0 m).any p = (List.range' 0 8).any p := by
 have := any_more p m (8 - m) h
 rw [show m + (8 - m) = 8 by omega] at this
 exact this.symm
theorem elems_any (s : Nat) (q : Nat → Bool) : (elems s).any q = (List.range' 0 8).any fun j => s.testBit j && q j := by
 unfold elems
 rw [List.any_filter]
theorem elems_lt {s j : Nat} (h : j ∈ elems s) : j < 8 ∧ s.testBit j = true := by
 unfold elems at h
 obtain ⟨h1, h2⟩ := List.mem_filter.1 h
 have := List.mem_range'_1.1 h1
 exact ⟨by omega, h2⟩
theorem elems_length (s : Nat) : (elems s).length ≤ 8 := by
 unfold elems
 exact Nat.le_trans (List.length_filter_le _ _) (by simp)
theorem pow_le_256 {m : Nat} (hm : m ≤ 8) : (2 : Nat) ^ m ≤ 256 := Nat.pow_le_pow_right (n := 2) (by decide) hm
theorem swap_le : ∀ a, a < 256 → ∀ e, e < 8 → ∀ f, f < 8 → a.testBit e = true → a.testBit f = false → a - 2 ^ e + 2 ^ f < 256 := by decide +kernel
theorem getD_mem {α : Type} (l : List α) (d : α) (i : Nat) (h : i < l.length) : l.getD i d ∈ l := by
 have : l.getD i d = l[i] := by simp [List.getD, h]
 rw [this]
 exact List.getElem_mem h
end Go.Proofs.Ytmpodackojmojaa.Sets
end
section
namespace Go.Proofs.Ytmpodackojmojaa.Mat
open Go.RowKit Go.Proofs.Ytmpodackojmojaa.Pr Go.Proofs.Ytmpodackojmojaa.Sets Go.Proofs.YtmpodackojmojaaW.PrintWords Go.Proofs.YtmpodackojmojaaW.PrintLast Go.Proofs.YtmpodackojmojaaW.PrintMore
set_option linter.unusedVariables false
def isSet (n s : Int) : Bool := decide (0 ≤ n ∧ n ≤ 8 ∧ 0 ≤ s ∧ s < 2 ^ n.toNat)
theorem implIsSet (n s : Int) : impl_IsSet.f n s = some (isSet n s) := by
 unfold impl_IsSet.f impl_isSize.f isSet
 by_cases h0 : n ≥ 0
 ·rw [if_pos h0]
  simp only [Option.bind_some]
  by_cases h1 : n ≤ 8
  ·rw [if_pos (decide_eq_true h1)]
   obtain ⟨m, rfl⟩ : ∃ m : Nat, n = m := ⟨n.toNat, by omega⟩
   by_cases h2 : s ≥ 0
   ·rw [if_pos h2, if_pos h0, shl_nat m (by omega)]
    congr 1
    rw [decide_eq_decide]
    simp only [Int.toNat_natCast]
    push_cast
    omega
   ·rw [if_neg h2, decide_eq_false (by omega)]
  ·rw [if_neg (by rw [decide_eq_true_eq]; exact h1), decide_eq_false (by omega)]
 ·rw [if_neg h0]
  simp only [Option.bind_some]
  rw [if_neg (by decide), decide_eq_false (by omega)]
theorem specIsSet (n s : Int) : spec_IsSet.f n s = some (isSet n s) := by
 unfold spec_IsSet.f spec_l1In.f isSet
 by_cases h0 : n ≥ 0
 ·rw [if_pos h0]
  simp only [Option.bind_some]
  by_cases h1 : n ≤ 8
  ·rw [if_pos (decide_eq_true h1)]
   obtain ⟨m, rfl⟩ : ∃ m : Nat, n = m := ⟨n.toNat, by omega⟩
   have hu : IntKind.u64.wrap (m : Int) = m := by
    have : m = 0 ∨ m = 1 ∨ m = 2 ∨ m = 3 ∨ m = 4 ∨ m = 5 ∨ m = 6 ∨ m = 7 ∨ m = 8 := by omega
    rcases this with rfl | rfl | rfl | rfl | rfl | rfl | rfl | rfl | rfl <;> decide +kernel
   have hp := pow_le_256 (m := m) (by omega)
   have hp1 : 1 ≤ 2 ^ m := Nat.one_le_two_pow
   rw [hu, if_pos h0, shl_nat m (by omega), Gen.w64 (by omega) (by omega)]
   by_cases h2 : s ≥ 0
   ·rw [if_pos h2]
    simp only [Option.bind_some]
    congr 1
    rw [decide_eq_decide]
    simp only [Int.toNat_natCast]
    have : ((2 : Int) ^ m) = ((2 ^ m : Nat) : Int) := by push_cast; rfl
    rw [this]
    omega
   ·rw [if_neg h2]
    simp only [Option.bind_some]
    rw [decide_eq_false (by omega)]
  ·rw [if_neg (by rw [decide_eq_true_eq]; exact h1), decide_eq_false (by omega)]
 ·rw [if_neg h0]
  simp only [Option.bind_some]
  rw [if_neg (by decide), decide_eq_false (by omega)]
def fam (n : Int) (l : List Int) : Bool := ((List.range' 0 l.length).all fun i => isSet n (l.getD i 0) && (decide (i = 0) || decide (l.getD (i - 1) 0 < l.getD i 0))) && decide (0 ≤ n ∧ n ≤ 8)
theorem implFamily (n : Int) (l : List Int) (hn : l.length ≤ 1048576) (k : Nat) (hk : l.length < k) : impl_IsFamily.f k n l = some (fam n l) := by
 unfold impl_IsFamily.f fam
 refine Gen.all_loop (fun k i => impl_IsFamily.l0 k n l l (l.length : Int) i) l.length (fun i => isSet n (l.getD i 0) && (decide (i = 0) || decide (l.getD (i - 1) 0 < l.getD i 0))) 0 (decide (0 ≤ n ∧ n ≤ 8)) (fun k i _ hi => ?_) (fun k _ => ?_) l.length 0 k (by omega) (by omega)
 ·simp only [impl_IsFamily.l0]
  rw [if_pos (by omega), if_pos (by omega), if_pos (by omega), implIsSet, Gen.rd_nat]
  simp only [Option.bind_some]
  cases isSet n (l.getD i 0) with
  | false => rfl
  | true =>
   rw [if_pos rfl, Gen.w64s i (by omega)]
   by_cases h0 : i = 0
   ·subst h0
    rw [if_neg (by decide), if_pos (by rfl)]
   ·rw [if_pos (by omega), Gen.w64 (by omega) (by omega), show (i : Int) - 1 = ((i - 1 : Nat) : Int) by omega, if_pos (by omega), if_pos (by omega), Gen.rd_nat]
    by_cases h1 : l.getD i 0 ≤ l.getD (i - 1) 0
    ·rw [if_pos h1, decide_eq_false h0, decide_eq_false (by omega)]
     rfl
    ·rw [if_neg h1, decide_eq_false h0, decide_eq_true (by omega)]
     rfl
 ·simp only [impl_IsFamily.l0]
  rw [if_neg (by omega)]
  unfold impl_isSize.f
  by_cases h0 : n ≥ 0
  ·rw [if_pos h0]
   simp only [Option.bind_some]
   congr 1
   rw [decide_eq_decide]
   omega
  ·rw [if_neg h0, decide_eq_false (by omega)]
   rfl
theorem specFamily (n : Int) (l : List Int) (hn : l.length ≤ 1048576) (k : Nat) (hk : l.length < k) : spec_IsFamily.f k n l = some (fam n l) := by
 unfold spec_IsFamily.f fam
 refine Gen.all_loop (fun k i => spec_IsFamily.l0 k n l i) l.length (fun i => isSet n (l.getD i 0) && (decide (i = 0) || decide (l.getD (i - 1) 0 < l.getD i 0))) 0 (decide (0 ≤ n ∧ n ≤ 8)) (fun k i _ hi => ?_) (fun k _ => ?_) l.length 0 k (by omega) (by omega)
 ·simp only [spec_IsFamily.l0]
  rw [if_pos (by omega), if_pos (by omega), specIsSet, Gen.rd_nat]
  simp only [Option.bind_some]
  cases isSet n (l.getD i 0) with
  | false => rfl
  | true =>
   rw [if_pos rfl, Gen.w64s i (by omega)]
   by_cases h0 : i = 0
   ·subst h0
    rw [if_neg (by decide), if_pos (by rfl)]
   ·rw [if_pos (by omega), Gen.w64 (by omega) (by omega), show (i : Int) - 1 = ((i - 1 : Nat) : Int) by omega, if_pos (by omega), if_pos (by omega), Gen.rd_nat]
    by_cases h1 : l.getD (i - 1) 0 ≥ l.getD i 0
    ·rw [if_pos h1, decide_eq_false h0, decide_eq_false (by omega)]
     rfl
    ·rw [if_neg h1, decide_eq_false h0, decide_eq_true (by omega)]
     rfl
 ·simp only [spec_IsFamily.l0]
  rw [if_neg (by omega)]
  unfold spec_l1In.f
  by_cases h0 : n ≥ 0
  ·rw [if_pos h0]
   simp only [Option.bind_some]
   congr 1
   rw [decide_eq_decide]
   omega
  ·rw [if_neg h0, decide_eq_false (by omega)]
   rfl
theorem fam_nat {n : Int} {l : List Int} (h : fam n l = true) : ∃ (m : Nat) (lN : List Nat), n = m ∧ m ≤ 8 ∧ l = ints lN ∧ ∀ s ∈ lN, s < 2 ^ m := by
 unfold fam at h
 rw [Bool.and_eq_true, decide_eq_true_eq] at h
 obtain ⟨hl, h0, h8⟩ := h
 have key : ∀ s ∈ l, 0 ≤ s ∧ s < 2 ^ n.toNat := fun s hs => by
  obtain ⟨i, hi, rfl⟩ := List.getElem_of_mem hs
  have := List.all_eq_true.1 hl i (List.mem_range'_1.2 (by omega))
  rw [Bool.and_eq_true] at this
  have h1 := this.1
  unfold isSet at h1
  rw [decide_eq_true_eq] at h1
  have e : l.getD i 0 = l[i] := by simp [List.getD, hi]
  rw [e] at h1
  exact ⟨h1.2.2.1, h1.2.2.2⟩
 refine ⟨n.toNat, l.map Int.toNat, by omega, by omega, ?_, fun s hs => ?_⟩
 ·unfold ints
  rw [List.map_map]
  conv => lhs; rw [← List.map_id l]
  refine List.map_congr_left fun s hs => ?_
  have := (key s hs).1
  show s = ((s.toNat : Nat) : Int)
  omega
 ·obtain ⟨x, hx, rfl⟩ := List.mem_map.1 hs
  obtain ⟨h1, h2⟩ := key x hx
  have e : ((2 : Int) ^ n.toNat) = ((2 ^ n.toNat : Nat) : Int) := by push_cast; rfl
  rw [e] at h2
  omega
theorem index (l : List Nat) (x : Nat) (hn : l.length ≤ 1048576) : ∀ (d i k : Nat), i + d = l.length → d < k → ∃ r, slices_Index_int_int.l0 k (ints l) (x : Int) ((ints l).length : Int) (i : Int) = some r ∧ decide (r ≥ 0) = (l.drop i).contains x := by
 intro d
 induction d with
 | zero =>
  intro i k hi hk
  obtain ⟨k, rfl⟩ : ∃ m, k = m + 1 := ⟨k - 1, by omega⟩
  refine ⟨-1, ?_, ?_⟩
  ·simp only [slices_Index_int_int.l0]
   rw [if_neg (by rw [ints_length]; omega)]
  ·rw [List.drop_of_length_le (by omega)]
   rfl
 | succ d ih =>
  intro i k hi hk
  obtain ⟨k, rfl⟩ : ∃ m, k = m + 1 := ⟨k - 1, by omega⟩
  have hlt : i < l.length := by omega
  simp only [slices_Index_int_int.l0]
  rw [if_pos (by rw [ints_length]; omega), if_pos (by omega), if_pos (by rw [ints_length]; omega), ints_rd, Gen.w64s i (by omega)]
  have hd : l.drop i = l.getD i 0 :: l.drop (i + 1) := by
   rw [List.drop_eq_getElem_cons hlt]
   simp [List.getD, hlt]
  rw [hd]
  by_cases h : x = l.getD i 0
  ·refine ⟨i, by rw [if_pos (by omega)], ?_⟩
   rw [← h, List.contains_cons, beq_self_eq_true, Bool.true_or, decide_eq_true (by omega)]
  ·obtain ⟨r, h1, h2⟩ := ih (i + 1) k (by omega) (by omega)
   refine ⟨r, by rw [if_neg (by omega)]; exact h1, ?_⟩
   rw [h2, List.contains_cons, beq_eq_false_iff_ne.2 h, Bool.false_or]
theorem implHas (l : List Nat) (x : Nat) (hn : l.length ≤ 1048576) (k : Nat) (hk : l.length < k) : impl_HasSet.f k (ints l) (x : Int) = some (l.contains x) := by
 unfold impl_HasSet.f slices_Contains_int_int.f slices_Index_int_int.f
 obtain ⟨r, h1, h2⟩ := index l x hn l.length 0 k (by omega) hk
 rw [show (0 : Int) = ((0 : Nat) : Int) from rfl, h1]
 simp only [Option.bind_some]
 rw [show ((0 : Nat) : Int) = (0 : Int) from rfl, h2, List.drop_zero]
theorem specHas (l : List Nat) (x : Nat) (hn : l.length ≤ 1048576) (k : Nat) (hk : l.length < k) : spec_HasSet.f k (ints l) (x : Int) = some (l.contains x) := by
 unfold spec_HasSet.f
 have key : ∀ (d i k : Nat), i + d = l.length → d < k → spec_HasSet.l0 k (ints l) (x : Int) (i : Int) = some ((l.drop i).contains x) := by
  intro d
  induction d with
  | zero =>
   intro i k hi hk
   obtain ⟨k, rfl⟩ : ∃ m, k = m + 1 := ⟨k - 1, by omega⟩
   simp only [spec_HasSet.l0]
   rw [if_neg (by rw [ints_length]; omega), List.drop_of_length_le (by omega)]
   rfl
  | succ d ih =>
   intro i k hi hk
   obtain ⟨k, rfl⟩ : ∃ m, k = m + 1 := ⟨k - 1, by omega⟩
   have hlt : i < l.length := by omega
   simp only [spec_HasSet.l0]
   rw [if_pos (by rw [ints_length]; omega), if_pos (by omega), ints_rd, Gen.w64s i (by omega)]
   have hd : l.drop i = l.getD i 0 :: l.drop (i + 1) := by
    rw [List.drop_eq_getElem_cons hlt]
    simp [List.getD, hlt]
   rw [hd, List.contains_cons]
   by_cases h : l.getD i 0 = x
   ·rw [if_pos (by omega), ← h, beq_self_eq_true, Bool.true_or]
   ·rw [if_neg (by omega), ih (i + 1) k (by omega) (by omega), beq_eq_false_iff_ne.2 (Ne.symm h), Bool.false_or]
 have := key l.length 0 k (by omega) hk
 rw [List.drop_zero] at this
 exact this
theorem implElem (s : Nat) (j : Nat) (hs : s < 256) (hj : j < 8) : impl_HasElement.f (s : Int) (j : Int) = some (s.testBit j) := by
 unfold impl_HasElement.f impl_isAny.f
 rw [if_pos (by omega)]
 simp only [Option.bind_some]
 rw [if_pos (decide_eq_true (by omega)), if_pos (by omega), if_pos (by omega), if_pos (by omega), shr_bit s j (by omega) (by omega)]
theorem foldl_elems (s : Nat) : ((List.range' 0 8).foldl (fun (acc : List Int) (j : Nat) => if s.testBit j = true then acc ++ [(j : Int)] else acc) []) = ints (elems s) := by
 rw [Gen.foldl_append (fun j => s.testBit j)]
 rfl
theorem implElements (s : Nat) (hs : s < 256) : Ev (fun k => impl_ElementsOf.f k (s : Int)) (ints (elems s)) := by
 unfold impl_ElementsOf.f
 refine Gen.ev_loop (fun k s3 i => impl_ElementsOf.l0 k (s : Int) s3 i) 8 (fun j s3 => if s.testBit j = true then s3 ++ [(j : Int)] else s3) (fun i s3 => s3.length ≤ i) _ (fun i s3 hi hP => ⟨?_, fun h => Ev.step (fun k => ?_) h⟩) 8 0 [] rfl (by simp) (fun _ => Gen.ev_at 1 (fun k hk => ?_))
 ·by_cases hh : s.testBit i = true
  ·rw [if_pos hh]; simp; omega
  ·rw [if_neg hh]; omega
 ·simp only [impl_ElementsOf.l0]
  rw [if_pos (by omega), implElem s i hs hi]
  simp only [Option.bind_some]
  rw [Gen.w64s i (by omega)]
  by_cases hh : s.testBit i = true
  ·rw [if_pos hh, if_pos (by omega), if_pos hh]
  ·rw [if_neg hh, if_neg hh]
 ·obtain ⟨m, rfl⟩ : ∃ m, k = m + 1 := ⟨k - 1, by omega⟩
  simp only [impl_ElementsOf.l0]
  rw [if_neg (by omega), foldl_elems]
end Go.Proofs.Ytmpodackojmojaa.Mat
end
section
namespace Go.Proofs.Ytmpodackojmojaa.Mat
open Go.RowKit Go.Proofs.Ytmpodackojmojaa.Pr Go.Proofs.Ytmpodackojmojaa.Sets Go.Proofs.YtmpodackojmojaaW.PrintWords Go.Proofs.YtmpodackojmojaaW.PrintLast Go.Proofs.YtmpodackojmojaaW.PrintMore
set_option linter.unusedVariables false
theorem indexFunc (g : Int → Option Bool) (fs : List Nat) (v : Nat → Bool) (hn : fs.length ≤ 1048576) (hg : ∀ f ∈ fs, g (f : Int) = some (v f)) :
  ∀ (d i k : Nat), i + d = fs.length → d < k → ∃ r, slices_IndexFunc_int_int.l0 g k (ints fs) (i : Int) = some r ∧ decide (r ≥ 0) = (fs.drop i).any v := by
 intro d
 induction d with
 | zero =>
  intro i k hi hk
  obtain ⟨k, rfl⟩ : ∃ m, k = m + 1 := ⟨k - 1, by omega⟩
  refine ⟨-1, ?_, ?_⟩
  ·simp only [slices_IndexFunc_int_int.l0]
   rw [if_neg (by rw [ints_length]; omega)]
  ·rw [List.drop_of_length_le (by omega)]
   rfl
 | succ d ih =>
  intro i k hi hk
  obtain ⟨k, rfl⟩ : ∃ m, k = m + 1 := ⟨k - 1, by omega⟩
  have hlt : i < fs.length := by omega
  simp only [slices_IndexFunc_int_int.l0]
  rw [if_pos (by rw [ints_length]; omega), if_pos (by omega), ints_rd, hg _ (getD_mem fs 0 i hlt), Gen.w64s i (by omega)]
  simp only [Option.bind_some]
  have hd : fs.drop i = fs.getD i 0 :: fs.drop (i + 1) := by
   rw [List.drop_eq_getElem_cons hlt]
   simp [List.getD, hlt]
  rw [hd, List.any_cons]
  cases hv : v (fs.getD i 0) with
  | true => exact ⟨i, by rw [if_pos rfl], by rw [decide_eq_true (by omega), Bool.true_or]⟩
  | false =>
   obtain ⟨r, h1, h2⟩ := ih (i + 1) k (by omega) (by omega)
   exact ⟨r, by rw [if_neg (by decide)]; exact h1, by rw [h2, Bool.false_or]⟩
theorem containsFunc (g : Int → Option Bool) (fs : List Nat) (v : Nat → Bool) (hn : fs.length ≤ 1048576) (hg : ∀ f ∈ fs, g (f : Int) = some (v f)) (k : Nat) (hk : fs.length < k) :
  slices_ContainsFunc_int_int.f k (ints fs) g = some (fs.any v) := by
 unfold slices_ContainsFunc_int_int.f slices_IndexFunc_int_int.f
 obtain ⟨r, h1, h2⟩ := indexFunc g fs v hn hg fs.length 0 k (by omega) hk
 rw [show (0 : Int) = ((0 : Nat) : Int) from rfl, h1]
 simp only [Option.bind_some]
 rw [show ((0 : Nat) : Int) = (0 : Int) from rfl, h2, List.drop_zero]
theorem swapImpl (l : List Nat) (a e f : Nat) (hn : l.length ≤ 1048576) (ha : a < 256) (he : e < 8) (hf : f < 8) (hae : a.testBit e = true) (haf : a.testBit f = false) (k : Nat) (hk : l.length < k) :
  impl_FirstFailure_1.f k (ints l) (a : Int) (e : Int) (f : Int) = some (l.contains (a - 2 ^ e + 2 ^ f)) := by
 unfold impl_FirstFailure_1.f
 have h1 : (2 : Nat) ^ e < 2 ^ 62 := Nat.pow_lt_pow_right (by decide) (by omega)
 have h2 : (2 : Nat) ^ f < 2 ^ 62 := Nat.pow_lt_pow_right (by decide) (by omega)
 have h3 : diff a (2 ^ e) < 2 ^ 8 := diff_lt (n := 8) (by omega)
 rw [if_pos (by omega), if_pos (by omega), shl_nat e (by omega), shl_nat f (by omega), andNot_nat a _ (by omega), or_nat _ _ (by omega) h2, swap_eq a ha e he f hf hae haf]
 exact implHas l _ hn k hk
theorem exch_elems (l : List Nat) (a b e : Nat) : exch l a b e = (elems (diff b a)).any fun f => l.contains (a - 2 ^ e + 2 ^ f) := by
 rw [elems_any]
 unfold exch
 congr 1
 funext f
 rw [diff_bit]
theorem fails_elems (l : List Nat) : fails l = l.any fun a => l.any fun b => (elems (diff a b)).any fun e => !exch l a b e := by
 unfold fails
 congr 1
 funext a
 congr 1
 funext b
 rw [elems_any]
 congr 1
 funext e
 rw [diff_bit]
theorem implFirst (m : Nat) (hm : m ≤ 8) (l : List Nat) (hl : ∀ s ∈ l, s < 2 ^ m) (hn : l.length ≤ 1048576) (hf : fam (m : Int) (ints l) = true) :
  ∃ x y z, Ev (fun k => impl_FirstFailure.f k (m : Int) (ints l)) (x, y, z, fails l) := by
 have h256 := pow_le_256 hm
 have hlt : ∀ i, i < l.length → l.getD i 0 < 256 := fun i hi => Nat.lt_of_lt_of_le (hl _ (getD_mem l 0 i hi)) h256
 have inner : ∀ x y : Nat, x < l.length → y < l.length → ∀ d i : Nat, i + d = (elems (diff (l.getD x 0) (l.getD y 0))).length → _ := fun x y hx hy =>
  ev_search (fun k z => impl_FirstFailure.l2 k (m : Int) (ints l) (x : Int) ((l.getD x 0 : Nat) : Int) (y : Int) ((l.getD y 0 : Nat) : Int) (ints (elems (diff (l.getD x 0) (l.getD y 0)))) z) (elems (diff (l.getD x 0) (l.getD y 0))).length
   (fun z => !exch l (l.getD x 0) (l.getD y 0) ((elems (diff (l.getD x 0) (l.getD y 0))).getD z 0)) (fun r => r.2.2.2 = true)
   (by
    intro z hz hp
    have ha := hlt x hx
    have hb := hlt y hy
    obtain ⟨he, hbit⟩ := elems_lt (getD_mem _ 0 z hz)
    rw [diff_bit, Bool.and_eq_true] at hbit
    have hl8 := elems_length (diff (l.getD x 0) (l.getD y 0))
    have hd : diff (l.getD y 0) (l.getD x 0) < 2 ^ 8 := diff_lt (n := 8) (by omega)
    refine ⟨(((l.getD x 0 : Nat) : Int), ((l.getD y 0 : Nat) : Int), (((elems (diff (l.getD x 0) (l.getD y 0))).getD z 0 : Nat) : Int), true), rfl, ?_⟩
    refine Ev.step (f := fun k => (impl_ElementsOf.f k (Go.bits .andNot .i64 ((l.getD y 0 : Nat) : Int) ((l.getD x 0 : Nat) : Int))).bind fun fs => ((slices_ContainsFunc_int_int.f k fs (fun f => impl_FirstFailure_1.f k (ints l) ((l.getD x 0 : Nat) : Int) (((elems (diff (l.getD x 0) (l.getD y 0))).getD z 0 : Nat) : Int) f)).bind fun t => (if t = true then (impl_FirstFailure.l2 k (m : Int) (ints l) (x : Int) ((l.getD x 0 : Nat) : Int) (y : Int) ((l.getD y 0 : Nat) : Int) (ints (elems (diff (l.getD x 0) (l.getD y 0)))) ((z + 1 : Nat) : Int)) else (some (((l.getD x 0 : Nat) : Int), ((l.getD y 0 : Nat) : Int), (((elems (diff (l.getD x 0) (l.getD y 0))).getD z 0 : Nat) : Int), true))))) (fun k => ?_) ?_
    ·simp only [impl_FirstFailure.l2]
     rw [if_pos (by rw [ints_length]; omega), if_pos (by omega), ints_rd, Gen.w64s z (by omega)]
    ·rw [andNot_nat _ _ (by omega)]
     refine Ev.bind (implElements _ (by omega)) ?_
     refine Ev.bind (a := exch l (l.getD x 0) (l.getD y 0) ((elems (diff (l.getD x 0) (l.getD y 0))).getD z 0)) (Gen.ev_at (1048577 + 8) (fun k hk => ?_)) ?_
     ·rw [exch_elems]
      refine containsFunc _ _ _ (by have := elems_length (diff (l.getD y 0) (l.getD x 0)); omega) (fun f hf => ?_) k (by have := elems_length (diff (l.getD y 0) (l.getD x 0)); omega)
      obtain ⟨hf8, hfb⟩ := elems_lt hf
      rw [diff_bit, Bool.and_eq_true] at hfb
      exact swapImpl l _ _ _ hn ha he hf8 hbit.1 (by simpa using hfb.2) k (by omega)
     ·have hp' : exch l (l.getD x 0) (l.getD y 0) ((elems (diff (l.getD x 0) (l.getD y 0))).getD z 0) = false := by simpa using hp
      rw [hp']
      exact Ev.now _)
   (by
    intro z hz hp r hr
    have ha := hlt x hx
    have hb := hlt y hy
    obtain ⟨he, hbit⟩ := elems_lt (getD_mem _ 0 z hz)
    rw [diff_bit, Bool.and_eq_true] at hbit
    have hl8 := elems_length (diff (l.getD x 0) (l.getD y 0))
    have hd : diff (l.getD y 0) (l.getD x 0) < 2 ^ 8 := diff_lt (n := 8) (by omega)
    refine Ev.step (f := fun k => (impl_ElementsOf.f k (Go.bits .andNot .i64 ((l.getD y 0 : Nat) : Int) ((l.getD x 0 : Nat) : Int))).bind fun fs => ((slices_ContainsFunc_int_int.f k fs (fun f => impl_FirstFailure_1.f k (ints l) ((l.getD x 0 : Nat) : Int) (((elems (diff (l.getD x 0) (l.getD y 0))).getD z 0 : Nat) : Int) f)).bind fun t => (if t = true then (impl_FirstFailure.l2 k (m : Int) (ints l) (x : Int) ((l.getD x 0 : Nat) : Int) (y : Int) ((l.getD y 0 : Nat) : Int) (ints (elems (diff (l.getD x 0) (l.getD y 0)))) ((z + 1 : Nat) : Int)) else (some (((l.getD x 0 : Nat) : Int), ((l.getD y 0 : Nat) : Int), (((elems (diff (l.getD x 0) (l.getD y 0))).getD z 0 : Nat) : Int), true))))) (fun k => ?_) ?_
    ·simp only [impl_FirstFailure.l2]
     rw [if_pos (by rw [ints_length]; omega), if_pos (by omega), ints_rd, Gen.w64s z (by omega)]
    ·rw [andNot_nat _ _ (by omega)]
     refine Ev.bind (implElements _ (by omega)) ?_
     refine Ev.bind (a := exch l (l.getD x 0) (l.getD y 0) ((elems (diff (l.getD x 0) (l.getD y 0))).getD z 0)) (Gen.ev_at (1048577 + 8) (fun k hk => ?_)) ?_
     ·rw [exch_elems]
      refine containsFunc _ _ _ (by have := elems_length (diff (l.getD y 0) (l.getD x 0)); omega) (fun f hf => ?_) k (by have := elems_length (diff (l.getD y 0) (l.getD x 0)); omega)
      obtain ⟨hf8, hfb⟩ := elems_lt hf
      rw [diff_bit, Bool.and_eq_true] at hfb
      exact swapImpl l _ _ _ hn ha he hf8 hbit.1 (by simpa using hfb.2) k (by omega)
     ·have hp' : exch l (l.getD x 0) (l.getD y 0) ((elems (diff (l.getD x 0) (l.getD y 0))).getD z 0) = true := by simpa using hp
      rw [hp']
      simp only [if_true]
      exact hr)
 have innerAny : ∀ x y : Nat, ((List.range' 0 (elems (diff (l.getD x 0) (l.getD y 0))).length).any fun z => !exch l (l.getD x 0) (l.getD y 0) ((elems (diff (l.getD x 0) (l.getD y 0))).getD z 0)) = (elems (diff (l.getD x 0) (l.getD y 0))).any fun e => !exch l (l.getD x 0) (l.getD y 0) e := fun x y => any_index (elems (diff (l.getD x 0) (l.getD y 0))) 0 (fun e => !exch l (l.getD x 0) (l.getD y 0) e)
 have middle : ∀ x : Nat, x < l.length → ∀ d i : Nat, i + d = l.length → _ := fun x hx =>
  ev_search (fun k y => impl_FirstFailure.l1 k (m : Int) (ints l) (x : Int) ((l.getD x 0 : Nat) : Int) y) l.length
   (fun y => (elems (diff (l.getD x 0) (l.getD y 0))).any fun e => !exch l (l.getD x 0) (l.getD y 0) e) (fun r => r.2.2.2 = true)
   (by
    intro y hy hp
    have ha := hlt x hx
    obtain ⟨h1, _⟩ := inner x y hx hy (elems (diff (l.getD x 0) (l.getD y 0))).length 0 (by omega)
    rw [innerAny] at h1
    obtain ⟨r, hr, hE⟩ := h1 hp
    refine ⟨r, hr, Ev.step (f := fun k => (impl_ElementsOf.f k (Go.bits .andNot .i64 ((l.getD x 0 : Nat) : Int) ((l.getD y 0 : Nat) : Int))).bind fun es => (impl_FirstFailure.l2 k (m : Int) (ints l) (x : Int) ((l.getD x 0 : Nat) : Int) (y : Int) ((l.getD y 0 : Nat) : Int) es 0)) (fun k => ?_) ?_⟩
    ·simp only [impl_FirstFailure.l1]
     rw [if_pos (by rw [ints_length]; omega), if_pos (by omega), ints_rd]
    ·rw [andNot_nat _ _ (by omega)]
     have hd : diff (l.getD x 0) (l.getD y 0) < 2 ^ 8 := diff_lt (n := 8) (by omega)
     exact Ev.bind (implElements _ (by omega)) hE)
   (by
    intro y hy hp r hr
    have ha := hlt x hx
    obtain ⟨_, h2⟩ := inner x y hx hy (elems (diff (l.getD x 0) (l.getD y 0))).length 0 (by omega)
    rw [innerAny] at h2
    refine Ev.step (f := fun k => (impl_ElementsOf.f k (Go.bits .andNot .i64 ((l.getD x 0 : Nat) : Int) ((l.getD y 0 : Nat) : Int))).bind fun es => (impl_FirstFailure.l2 k (m : Int) (ints l) (x : Int) ((l.getD x 0 : Nat) : Int) (y : Int) ((l.getD y 0 : Nat) : Int) es 0)) (fun k => ?_) ?_
    ·simp only [impl_FirstFailure.l1]
     rw [if_pos (by rw [ints_length]; omega), if_pos (by omega), ints_rd]
    ·rw [andNot_nat _ _ (by omega)]
     have hd : diff (l.getD x 0) (l.getD y 0) < 2 ^ 8 := diff_lt (n := 8) (by omega)
     refine Ev.bind (implElements _ (by omega)) (h2 hp r (Ev.step (fun k => ?_) hr))
     simp only [impl_FirstFailure.l2]
     rw [if_neg (by rw [ints_length]; omega), Gen.w64s y (by omega)])
 have middleAny : ∀ x : Nat, ((List.range' 0 l.length).any fun y => (elems (diff (l.getD x 0) (l.getD y 0))).any fun e => !exch l (l.getD x 0) (l.getD y 0) e) = l.any fun b => (elems (diff (l.getD x 0) b)).any fun e => !exch l (l.getD x 0) b e := fun x => any_index l 0 (fun b => (elems (diff (l.getD x 0) b)).any fun e => !exch l (l.getD x 0) b e)
 obtain ⟨o1, o2⟩ := ev_search (fun k x => impl_FirstFailure.l0 k (m : Int) (ints l) x) l.length
   (fun x => l.any fun b => (elems (diff (l.getD x 0) b)).any fun e => !exch l (l.getD x 0) b e) (fun r => r.2.2.2 = true)
   (by
    intro x hx hp
    obtain ⟨h1, _⟩ := middle x hx l.length 0 (by omega)
    rw [middleAny] at h1
    obtain ⟨r, hr, hE⟩ := h1 hp
    refine ⟨r, hr, Ev.step (fun k => ?_) hE⟩
    simp only [impl_FirstFailure.l0]
    rw [if_pos (by rw [ints_length]; omega), if_pos (by omega), ints_rd]
    rfl)
   (by
    intro x hx hp r hr
    obtain ⟨_, h2⟩ := middle x hx l.length 0 (by omega)
    rw [middleAny] at h2
    have h3 := h2 hp r (Ev.step (fun k => by
     simp only [impl_FirstFailure.l1]
     rw [if_neg (by rw [ints_length]; omega), Gen.w64s x (by omega)]) hr)
    refine Ev.step (fun k => ?_) h3
    simp only [impl_FirstFailure.l0]
    rw [if_pos (by rw [ints_length]; omega), if_pos (by omega), ints_rd]
    rfl) l.length 0 (by omega)
 have outerAny : ((List.range' 0 l.length).any fun x => l.any fun b => (elems (diff (l.getD x 0) b)).any fun e => !exch l (l.getD x 0) b e) = fails l := by
  rw [fails_elems]
  exact any_index l 0 (fun a => l.any fun b => (elems (diff a b)).any fun e => !exch l a b e)
 rw [outerAny] at o1 o2
 have start : ∀ r, Ev (fun k => impl_FirstFailure.l0 k (m : Int) (ints l) 0) r → Ev (fun k => impl_FirstFailure.f k (m : Int) (ints l)) r := fun r hr => by
  unfold impl_FirstFailure.f
  refine Ev.bind (Gen.ev_at (l.length + 1) (fun k hk => implFamily (m : Int) (ints l) (by rw [ints_length]; exact hn) k (by rw [ints_length]; omega))) ?_
  rw [hf]
  simp only [if_true]
  exact hr
 cases hfl : fails l with
 | true =>
  obtain ⟨⟨x, y, z, b⟩, hb, hE⟩ := o1 hfl
  simp only at hb
  subst hb
  exact ⟨x, y, z, start _ hE⟩
 | false =>
  refine ⟨0, 0, 0, start _ (o2 hfl _ (Gen.ev_at 1 (fun k hk => ?_)))⟩
  obtain ⟨q, rfl⟩ : ∃ q, k = q + 1 := ⟨k - 1, by omega⟩
  simp only [impl_FirstFailure.l0]
  rw [if_neg (by rw [ints_length]; omega)]
end Go.Proofs.Ytmpodackojmojaa.Mat
end
