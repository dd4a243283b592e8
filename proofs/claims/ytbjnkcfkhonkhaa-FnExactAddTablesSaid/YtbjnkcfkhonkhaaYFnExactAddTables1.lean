/- The claim FnExactAddTables: every text that its row comes to, laid together by slim.py (the words of the kit's print, the printed walks, the pure law, the row). -/
import Derived.Below
import Derived.ChangeArms
import Derived.ChangeOld
import Derived.DataReads
import Derived.Deep.Slices
import Derived.OpenShut
import Derived.ProofKit
import Derived.ShutString
import Derived.SizedLaws
import Derived.Test.YtbjnkcfkhonkhaaRows
import Derived.WalkKit
import Derived.Test.YtbjnkcfkhonkhaaYFnExactAddTables0
section
namespace Go.Proofs.Ytbjnkcfkhonkhaa.Pr
open Go.RowKit Go.Proofs.YtbjnkcfkhonkhaaW.PrintWords Go.Proofs.YtbjnkcfkhonkhaaW.PrintLast Go.Proofs.YtbjnkcfkhonkhaaW.PrintMore
attribute [local go_sem] max2_int min2_int max_two min_two max_three min_three max_four min_four
set_option linter.unusedVariables false
set_option linter.unusedSimpArgs false
mutual
def impl_AddTables.l0 : Nat → List (List Int) → List (List Int) → List (List Int) → Int → Option ((List (List Int)))
 | 0, _, _, _, _ => none
 | k + 1, x0, x1, x5, x6 => if x6 < (mx (x0.length : Int) (x1.length : Int)) then ((spec_l23Row.f x0 x6).bind fun t200 => ((spec_l23Row.f x1 x6).bind fun t203 => (if 0 ≤ (mx (t200.length : Int) (t203.length : Int)) then (if (mx (t200.length : Int) (t203.length : Int) : Int).toNat ≤ 35184372088832 then (impl_AddTables.l1 k x0 x1 x5 x6 t203 (List.replicate (mx (t200.length : Int) (t203.length : Int) : Int).toNat 0) t200 (t200.length : Int) 0) else (none)) else (none)))) else (some x5)
def impl_AddTables.l1 : Nat → List (List Int) → List (List Int) → List (List Int) → Int → List Int → List Int → List Int → Int → Int → Option ((List (List Int)))
 | 0, _, _, _, _, _, _, _, _, _ => none
 | k + 1, x0, x1, x5, x6, x8, x9, x48, x49, x50 => if x50 < x49 then (if 0 ≤ x50 then (if x50 < (x48.length : Int) then (if x50 < (x9.length : Int) then (impl_AddTables.l1 k x0 x1 x5 x6 x8 (x9.set (x50 : Int).toNat (wrap64 ((rd x9 x50) + (rd x48 x50)))) x48 x49 (wrap64 (x50 + 1))) else (none)) else (none)) else (none)) else (impl_AddTables.l2 k x0 x1 x5 x6 x9 x8 (x8.length : Int) 0)
def impl_AddTables.l2 : Nat → List (List Int) → List (List Int) → List (List Int) → Int → List Int → List Int → Int → Int → Option ((List (List Int)))
 | 0, _, _, _, _, _, _, _, _ => none
 | k + 1, x0, x1, x5, x6, x9, x63, x64, x65 => if x65 < x64 then (if 0 ≤ x65 then (if x65 < (x63.length : Int) then (if x65 < (x9.length : Int) then (impl_AddTables.l2 k x0 x1 x5 x6 (x9.set (x65 : Int).toNat (wrap64 ((rd x9 x65) + (rd x63 x65)))) x63 x64 (wrap64 (x65 + 1))) else (none)) else (none)) else (none)) else (if x5.length < 5864062014805 then (impl_AddTables.l0 k x0 x1 (x5 ++ [x9]) (wrap64 (x6 + 1))) else (none))
end
def impl_AddTables.f (k : Nat) (l0 : List (List Int)) (l1 : List (List Int)) : Option ((List (List Int))) := impl_AddTables.l0 k l0 l1 (([] : List (List Int))) 0
set_option maxHeartbeats 8000000 in
set_option maxRecDepth 100000 in
theorem impl_AddTables.calls (k : Nat) (A0 : Option Addr) (c0 : Nat) (l0 : List (List Int)) (A1 : Option Addr) (c1 : Nat) (l1 : List (List Int)) (r : List (List Int)) (w : World) (hr0 : Kd.C (Kd.slice 3 (Kd.int .i64)) w A0 l0.length l0) (hc0 : l0.length ≤ c0) (hr1 : Kd.C (Kd.slice 3 (Kd.int .i64)) w A1 l1.length l1) (hc1 : l1.length ≤ c1) (h : impl_AddTables.f k l0 l1 = some r) :
  Calls Try.prog 22 #[.slice A0 l0.length c0, .slice A1 l1.length c1] w fun e w' => ∃ v0_ : Value, e = .returned (v0_) ∧ Kd.S (Kd.slice 3 (Kd.int .i64)) 31 w' w.heap.size (fun _ => True) v0_ r ∧ Below w.heap.size w w' := by
 have HR0 := Aside0.mk hr0
 have HC0 := Aside0.mk hc0
 clear hr0 hc0
 have HR1 := Aside0.mk hr1
 have HC1 := Aside0.mk hc1
 clear hr1 hc1
 have HB := Aside0.mk (Below.refl w.heap.size w)
 have H : (impl_AddTables.l0 k l0 l1 (([] : List (List Int))) 0) = some r := h
 clear h
 obtain ⟨y197, hy197⟩ : ∃ y_ : List (List Int), y_ = (([] : List (List Int))) := ⟨_, rfl⟩
 replace H : (impl_AddTables.l0 k l0 l1 y197 0) = some r := by first | (rw [hy197]; with_reducible exact H) | (have H2_ := (Option.bind_some _ _).symm.trans H; rw [hy197]; with_reducible exact H2_) | (have H2_ := (Option.bind_some _ _).symm.trans H; with_reducible exact H2_) | with_reducible exact H | (rw [hy197]; exact H) | exact H
 have Ny197 := Aside0.mk hy197
 clear hy197
 have H' := Aside0.mk H
 clear H
 go_enter Try.func22, Try.ntmps22
 go_wp2_with (first | ((with_reducible refine gate_dst (N := 14) rfl ?_); refine Kd.S_lit (Kd.slice 3 (Kd.int .i64)) _ 31 ?hg (N := 14) ?hd (xs := ([] : List (List Int))) (inner := []) (ok := fun _ => True) (okp := fun _ => True) ?hr ?hp (fun _ hk => hk) trivial (Below.refl _ _) (Nat.le_refl _) (by simp) ?_; (case hd => rfl); (case hg => rfl); (case hr => first | (go_simp; done) | (go_simp; rfl)); (case hp => exact (Reps.none _ _)); intro v198 w3 ho4 hb hg_ hnew_; clear hg_ hnew_; (first | rw [← Ny197.out] at ho4 | (simp only [Int.reduceToNat] at ho4; rw [← Ny197.out] at ho4)); have HO199 := Aside0.mk (Kd.S_lower ho4 (below_size (Hof.Lw HB.out))); replace HB := Aside0.mk (below_step (Hof.Lw HB.out) hb); clear hb ho4))
 go_loopg [5, 6] k (fun kq v5 v6 w' => ∃ (x5_1 : List (List Int)) (x6_1 : Int), v6 = .int .i64 x6_1 ∧ Aside0 (impl_AddTables.l0 kq l0 l1 x5_1 x6_1 = some r) ∧ Aside0 (kq ≤ k) ∧ Aside0 (Kd.S (Kd.slice 3 (Kd.int .i64)) 31 w' w.heap.size (fun _ => True) v5 x5_1) ∧ Aside0 (Below w.heap.size w w'))
 case atStart => exact ⟨(y197), (0), (by first | rfl | (simp; done) | (simp [*]; done)), H', ⟨Nat.le_refl _⟩, ⟨Hof.Sw HO199.out⟩, ⟨Hof.Lw HB.out⟩⟩
 case round =>
  clear H'
  try clear c1
  try clear c2
  try clear p2
  obtain ⟨x5_1, x6_1, rfl, HA, HK1, HO_5, HB⟩ := hrel
  cases gk with
  | zero => exact absurd HA.out (by simp [impl_AddTables.l0])
  | succ k1 =>
   have H := HA.out
   clear HA
   simp only [impl_AddTables.l0] at H
   obtain ⟨ji5, hji5⟩ : ∃ j_ : Int, (mx (l0.length : Int) (l1.length : Int)) = j_ := ⟨_, rfl⟩
   replace H : (if x6_1 < (ji5) then ((spec_l23Row.f l0 x6_1).bind fun t200 => ((spec_l23Row.f l1 x6_1).bind fun t203 => (if 0 ≤ (mx (t200.length : Int) (t203.length : Int)) then (if (mx (t200.length : Int) (t203.length : Int) : Int).toNat ≤ 35184372088832 then (impl_AddTables.l1 k1 l0 l1 x5_1 x6_1 t203 (List.replicate (mx (t200.length : Int) (t203.length : Int) : Int).toNat 0) t200 (t200.length : Int) 0) else (none)) else (none)))) else (some x5_1)) = some r := by first | (rw [hji5] at H; exact H) | (simp only [hji5] at H ⊢; exact H)
   have hji5_ : (if (l0.length : Int) < (l1.length : Int) then (l1.length : Int) else (l0.length : Int)) = ji5 := hji5
   have hji5n_ : (if l0.length < l1.length then (l1.length : Int) else (l0.length : Int)) = ji5 := by rw [← hji5_]; simp only [Int.ofNat_lt]
   by_cases c6 : x6_1 < (ji5)
   ·rw [if_pos c6] at H
    have c6b0 : decide (x6_1 < (ji5)) = true := decide_eq_true c6
    clear c6
    replace H := Option.bind_eq_some_iff.mp H
    obtain ⟨t200, A70, H⟩ := H
    (try dsimp only at H)
    have A7 := Aside0.mk A70
    clear A70
    replace H := Option.bind_eq_some_iff.mp H
    obtain ⟨t203, A80, H⟩ := H
    (try dsimp only at H)
    have A8 := Aside0.mk A80
    clear A80
    obtain ⟨ji9, hji9⟩ : ∃ j_ : Int, (mx (t200.length : Int) (t203.length : Int)) = j_ := ⟨_, rfl⟩
    replace H : (if 0 ≤ (ji9) then (if (ji9 : Int).toNat ≤ 35184372088832 then (impl_AddTables.l1 k1 l0 l1 x5_1 x6_1 t203 (List.replicate (ji9 : Int).toNat 0) t200 (t200.length : Int) 0) else (none)) else (none)) = some r := by first | (rw [hji9] at H; exact H) | (simp only [hji9] at H ⊢; exact H)
    (try rw [hji9] at A7)
    (try rw [hji9] at A8)
    (try (have hji9l : 0 ≤ ji9 := by (rw [← hji9]; unfold mx; (repeat' split) <;> omega)))
    (try (have hji9m : 0 ≤ ji9 := by omega))
    have hji9_ : (if (t200.length : Int) < (t203.length : Int) then (t203.length : Int) else (t200.length : Int)) = ji9 := hji9
    have hji9n_ : (if t200.length < t203.length then (t203.length : Int) else (t200.length : Int)) = ji9 := by rw [← hji9_]; simp only [Int.ofNat_lt]
    by_cases c10 : 0 ≤ (ji9)
    ·rw [if_pos c10] at H
     have c10b0 := eq_true c10
     have c10b1 : decide (0 ≤ (ji9)) = true := decide_eq_true c10
     clear c10
     by_cases c11 : (ji9 : Int).toNat ≤ 35184372088832
     ·rw [if_pos c11] at H
      have c11b0 := eq_true c11
      have c11b1 : decide ((ji9 : Int).toNat ≤ 35184372088832) = true := decide_eq_true c11
      clear c11
      obtain ⟨y206, hy206⟩ : ∃ y_ : List Int, y_ = (List.replicate (ji9 : Int).toNat 0) := ⟨_, rfl⟩
      replace H : (impl_AddTables.l1 k1 l0 l1 x5_1 x6_1 t203 y206 t200 (t200.length : Int) 0) = some r := by first | (rw [hy206]; with_reducible exact H) | (have H2_ := (Option.bind_some _ _).symm.trans H; rw [hy206]; with_reducible exact H2_) | (have H2_ := (Option.bind_some _ _).symm.trans H; with_reducible exact H2_) | with_reducible exact H | (rw [hy206]; exact H) | exact H
      have Ny206 := Aside0.mk hy206
      clear hy206
      have H' := Aside0.mk H
      clear H
      go_upto_if 29 with (first | ((with_reducible refine gate_dst (N := 24) rfl ?_); refine Kd.R_lit (Kd.int .i64) _ 3 ?hg (N := 24) ?hd (xs := ([] : List Int)) (inner := []) (ok := fun _ => True) (okp := fun _ => True) ?hr ?hp (fun _ hk => hk) trivial (Below.refl _ _) (Nat.le_refl _) (by simp) ?_; (case hd => rfl); (case hg => rfl); (case hr => first | (go_simp; done) | (go_simp; rfl)); (case hp => exact (Reps.none _ _)); intro vl_ wl_ ho5 hb hg_ hnew_; clear hg_ hnew_; have HOa_ := Aside0.mk (Kd.R_mono (ok' := fun k_ => some k_ ≠ (u5 : Value).ownBlock) (Kd.R_lower (Kd.R_new' ho5 (Kd.S_lt (Hof.Sw HO_5.out))) (below_size (Hof.Lw HB.out))) (fun _ hk => hk.2)); replace HO_5 := Aside0.mk (Kd.S_below (Hof.Sw HO_5.out) hb); replace HB := Aside0.mk (below_step (Hof.Lw HB.out) hb); clear hb ho5; obtain ⟨Aa_, ca_, el_⟩ := Kd.R_slice HOa_.out; subst el_) | ((with_reducible refine gate_dst (N := 25) rfl ?_); refine Kd.R_lit (Kd.int .i64) _ 3 ?hg (N := 25) ?hd (xs := ([] : List Int)) (inner := []) (ok := fun _ => True) (okp := fun _ => True) ?hr ?hp (fun _ hk => hk) trivial (Below.refl _ _) (Nat.le_refl _) (by simp) ?_; (case hd => rfl); (case hg => rfl); (case hr => first | (go_simp; done) | (go_simp; rfl)); (case hp => exact (Reps.none _ _)); intro vl_ wl_ ho5 hb hg_ hnew_; clear hg_ hnew_; have HOb_ := Aside0.mk (Kd.R_mono (ok' := fun k_ => some k_ ≠ (u5 : Value).ownBlock) (Kd.R_lower (Kd.R_new' ho5 (Kd.S_lt (Hof.Sw HO_5.out))) (below_size (Hof.Lw HB.out))) (fun _ hk => hk.2)); replace HOa_ := Aside0.mk (Kd.R_below (Hof.Rw HOa_.out) hb); replace HO_5 := Aside0.mk (Kd.S_below (Hof.Sw HO_5.out) hb); replace HB := Aside0.mk (below_step (Hof.Lw HB.out) hb); clear hb ho5; obtain ⟨Ab_, cb_, el_⟩ := Kd.R_slice HOb_.out; subst el_))
      go_cut [7] from 15 to 81 (fun vc_ wc => ∃ (Ac_ : Option Addr) (cc_ : Nat), vc_ = .slice Ac_ t200.length cc_ ∧ Aside0 (Kd.V (Kd.int .i64) 3 wc w.heap.size (fun k_ => some k_ ≠ (u5 : Value).ownBlock) (.slice Ac_ t200.length cc_) t200) ∧ Aside0 (Kd.R (Kd.int .i64) 3 wc w.heap.size (fun k_ => some k_ ≠ (u5 : Value).ownBlock) (.slice Ab_ ([] : List Int).length cb_) []) ∧ Aside0 (Kd.S (Kd.slice 3 (Kd.int .i64)) 31 wc w.heap.size (fun _ => True) u5 x5_1) ∧ Aside0 (Below w.heap.size w wc))
      case first =>
       have hq_ := A7.out
       unfold spec_l23Row.f at hq_
       by_cases dq_ : x6_1 ≥ (l0.length : Int)
       ·rw [if_pos dq_] at hq_
        have dr_ : decide (x6_1 < (l0.length : Int)) = false := decide_eq_false (by omega)
        clear dq_
        obtain rfl := Option.some.inj hq_
        (first | rw [dr_] | (simp only [i64_w, i32_w]; rw [dr_]) | skip)
        go_wp2
        go_meet
        case rel => exact ⟨_, _, rfl, ⟨Kd.R_V (Hof.Rw HOa_.out)⟩, ⟨Hof.Rw HOb_.out⟩, ⟨Hof.Sw HO_5.out⟩, ⟨Hof.Lw HB.out⟩⟩
       ·rw [if_neg dq_] at hq_
        by_cases dn_ : 0 ≤ x6_1
        ·rw [if_pos dn_] at hq_
         have q_ : x6_1 < (l0.length : Int) := by omega
         rw [if_pos q_] at hq_
         obtain rfl := Option.some.inj hq_
         have dr_ : decide (x6_1 < (l0.length : Int)) = true := decide_eq_true q_
         obtain ⟨ad_, Ae_, ce_, ee_, hx_, hl_, hi_⟩ := at_L1 HR0.out x6_1 dn_ q_
         cases ee_
         have hy_ := pw_cell_below HB.out hx_
         clear dq_
         replace dn_ := eq_true dn_
         replace q_ := eq_true q_
         have HV_ := Aside0.mk (Kd.V_mono (ok' := fun k_ => some k_ ≠ (u5 : Value).ownBlock) (Kd.V_mk (e := 3) (base := w.heap.size) hl_ (Kd.F_below (Kd.C_F (Kd.heap_int .i64) hi_) HB.out)) (fun k_ hk_ => fun e_ => Nat.not_le.2 hk_ (Kd.S_base HO_5.out k_ e_.symm)))
         clear hx_ hl_ hi_
         (first | rw [dr_] | (simp only [i64_w, i32_w]; rw [dr_]) | skip)
         go_wp2
         go_meet
         case rel => exact ⟨_, _, rfl, ⟨by (with_reducible repeat (first | apply Kd.V_alloc | apply Kd.V_drewN | apply Kd.V_drew)); exact HV_.out⟩, ⟨Hof.Rw HOb_.out⟩, ⟨Hof.Sw HO_5.out⟩, ⟨Hof.Lw HB.out⟩⟩
        ·rw [if_neg dn_] at hq_
         exact absurd hq_ (by simp)
      obtain ⟨Ao14, co14, rfl, HO202, HOb_, HO_5, HB⟩ := hcut
      go_upto_if 37 with (fail)
      go_cut [8] from 15 to 81 (fun vc_ wc => ∃ (Ac_ : Option Addr) (cc_ : Nat), vc_ = .slice Ac_ t203.length cc_ ∧ Aside0 (Kd.V (Kd.int .i64) 3 wc w.heap.size (fun k_ => some k_ ≠ (u5 : Value).ownBlock) (.slice Ac_ t203.length cc_) t203) ∧ Aside0 (Kd.V (Kd.int .i64) 3 wc w.heap.size (fun k_ => some k_ ≠ (u5 : Value).ownBlock) (.slice Ao14 t200.length co14) t200) ∧ Aside0 (Kd.S (Kd.slice 3 (Kd.int .i64)) 31 wc w.heap.size (fun _ => True) u5 x5_1) ∧ Aside0 (Below w.heap.size w wc))
      case first =>
       have hq_ := A8.out
       unfold spec_l23Row.f at hq_
       by_cases dq_ : x6_1 ≥ (l1.length : Int)
       ·rw [if_pos dq_] at hq_
        have dr_ : decide (x6_1 < (l1.length : Int)) = false := decide_eq_false (by omega)
        clear dq_
        obtain rfl := Option.some.inj hq_
        (first | rw [dr_] | (simp only [i64_w, i32_w]; rw [dr_]) | skip)
        go_wp2
        go_meet
        case rel => exact ⟨_, _, rfl, ⟨Kd.R_V (Hof.Rw HOb_.out)⟩, ⟨by (with_reducible repeat (first | apply Kd.V_alloc | apply Kd.V_drewN | apply Kd.V_drew)); exact HO202.out⟩, ⟨Hof.Sw HO_5.out⟩, ⟨Hof.Lw HB.out⟩⟩
       ·rw [if_neg dq_] at hq_
        by_cases dn_ : 0 ≤ x6_1
        ·rw [if_pos dn_] at hq_
         have q_ : x6_1 < (l1.length : Int) := by omega
         rw [if_pos q_] at hq_
         obtain rfl := Option.some.inj hq_
         have dr_ : decide (x6_1 < (l1.length : Int)) = true := decide_eq_true q_
         obtain ⟨ad_, Ae_, ce_, ee_, hx_, hl_, hi_⟩ := at_L1 HR1.out x6_1 dn_ q_
         cases ee_
         have hy_ := pw_cell_below HB.out hx_
         clear dq_
         replace dn_ := eq_true dn_
         replace q_ := eq_true q_
         have HV_ := Aside0.mk (Kd.V_mono (ok' := fun k_ => some k_ ≠ (u5 : Value).ownBlock) (Kd.V_mk (e := 3) (base := w.heap.size) hl_ (Kd.F_below (Kd.C_F (Kd.heap_int .i64) hi_) HB.out)) (fun k_ hk_ => fun e_ => Nat.not_le.2 hk_ (Kd.S_base HO_5.out k_ e_.symm)))
         clear hx_ hl_ hi_
         (first | rw [dr_] | (simp only [i64_w, i32_w]; rw [dr_]) | skip)
         go_wp2
         go_meet
         case rel => exact ⟨_, _, rfl, ⟨by (with_reducible repeat (first | apply Kd.V_alloc | apply Kd.V_drewN | apply Kd.V_drew)); exact HV_.out⟩, ⟨by (with_reducible repeat (first | apply Kd.V_alloc | apply Kd.V_drewN | apply Kd.V_drew)); exact HO202.out⟩, ⟨Hof.Sw HO_5.out⟩, ⟨Hof.Lw HB.out⟩⟩
        ·rw [if_neg dn_] at hq_
         exact absurd hq_ (by simp)
      obtain ⟨Ao15, co15, rfl, HO205, HO202, HO_5, HB⟩ := hcut
      go_wp2_with (first | ((with_reducible refine gate_dst (N := 47) rfl ?_); refine Kd.R_make (Kd.int .i64) _ 3 rfl (N := 47) rfl 31 _ _ rfl ji9 rfl rfl Try.underlying31 (.int .i64 0) 8 info3 rfl (by decide) (by omega) 0 (ok := fun _ => True) (okp := fun _ => True) rfl (fun _ hk => hk) trivial (of_decide_eq_true (by first | (with_reducible assumption) | assumption)) (Nat.le_trans (Nat.mul_le_mul_right _ (of_decide_eq_true (by first | (with_reducible assumption) | assumption) : ji9.toNat ≤ 35184372088832)) (by omega)) (Below.refl _ _) (Nat.le_refl _) ?_; intro v207 w16 ho17 hb hg_ hnew_; clear hg_ hnew_; (first | rw [← Ny206.out] at ho17 | (simp only [Int.reduceToNat] at ho17; rw [← Ny206.out] at ho17)); replace HO_5 := Aside0.mk (Kd.S_elder' (Hof.Sw HO_5.out) (Kd.R_base ho17) hb); replace HO202 := Aside0.mk (Kd.V_elder' (by (with_reducible repeat (first | apply Kd.V_alloc | apply Kd.V_drewN | apply Kd.V_drew)); exact HO202.out) (Kd.R_base ho17) hb); replace HO205 := Aside0.mk (Kd.V_elder' (by (with_reducible repeat (first | apply Kd.V_alloc | apply Kd.V_drewN | apply Kd.V_drew)); exact HO205.out) (Kd.R_base ho17) hb); have HO208 := Aside0.mk (Kd.R_lower ho17 (below_size (Hof.Lw HB.out))); replace HB := Aside0.mk (below_step (Hof.Lw HB.out) hb); clear hb ho17))
      go_loopg [50] k1 (fun kq v50 w' => ∃ (x9_2 : List Int) (x50_2 : Int), v50 = .int .i64 x50_2 ∧ Aside0 (impl_AddTables.l1 kq l0 l1 x5_1 x6_1 t203 x9_2 t200 (t200.length : Int) x50_2 = some r) ∧ Aside0 (kq ≤ k1) ∧ Aside0 (Kd.S (Kd.slice 3 (Kd.int .i64)) 31 w' w.heap.size (fun k_ => some k_ ≠ (v207 : Value).ownBlock) u5 x5_1) ∧ Aside0 (Kd.V (Kd.int .i64) 3 w' w.heap.size (fun k_ => some k_ ≠ (u5 : Value).ownBlock ∧ some k_ ≠ (v207 : Value).ownBlock) (.slice Ao15 t203.length co15) t203) ∧ Aside0 (Kd.R (Kd.int .i64) 3 w' w.heap.size (fun _ => True) v207 x9_2) ∧ Aside0 (Kd.V (Kd.int .i64) 3 w' w.heap.size (fun k_ => some k_ ≠ (u5 : Value).ownBlock ∧ some k_ ≠ (v207 : Value).ownBlock) (.slice Ao14 t200.length co14) t200) ∧ Aside0 (Below w.heap.size w w'))
      case atStart => exact ⟨(y206), (0), (by first | rfl | (simp; done) | (simp [*]; done)), H', ⟨Nat.le_refl _⟩, ⟨Hof.Sw (Kd.S_mono HO_5.out (fun _ hk => hk.2))⟩, ⟨by (with_reducible repeat (first | apply Kd.V_alloc | apply Kd.V_drewN | apply Kd.V_drew)); exact HO205.out⟩, ⟨Hof.Rw HO208.out⟩, ⟨by (with_reducible repeat (first | apply Kd.V_alloc | apply Kd.V_drewN | apply Kd.V_drew)); exact HO202.out⟩, ⟨Hof.Lw HB.out⟩⟩
      case round =>
       clear H'
       try clear c1
       try clear c2
       try clear p2
       try clear c6
       try clear c6b0
       try clear c10
       try clear c10b0
       try clear c10b1
       try clear c11
       try clear c11b0
       try clear c11b1
       try clear p2
       obtain ⟨x9_2, x50_2, rfl, HA, HK2, HO_5, HO_8, HO_9, HO_48, HB⟩ := hrel
       cases gk with
       | zero => exact absurd HA.out (by simp [impl_AddTables.l1])
       | succ k2 =>
        have H := HA.out
        clear HA
        simp only [impl_AddTables.l1] at H
        by_cases c18 : x50_2 < (t200.length : Int)
        ·rw [if_pos c18] at H
         have c18b0 : decide (x50_2 < (t200.length : Int)) = true := decide_eq_true c18
         clear c18
         by_cases c19 : 0 ≤ x50_2
         ·rw [if_pos c19] at H
          have c19b0 : decide (0 ≤ x50_2) = true := decide_eq_true c19
          clear c19
          by_cases c20 : x50_2 < (t200.length : Int)
          ·rw [if_pos c20] at H
           have c20b0 : decide (x50_2 < (t200.length : Int)) = true := decide_eq_true c20
           clear c20
           by_cases c21 : x50_2 < (x9_2.length : Int)
           ·rw [if_pos c21] at H
            have c21b0 : decide (x50_2 < (x9_2.length : Int)) = true := decide_eq_true c21
            clear c21
            obtain ⟨y211, hy211⟩ : ∃ y_ : List Int, y_ = (x9_2.set (x50_2 : Int).toNat (wrap64 ((rd x9_2 x50_2) + (rd t200 x50_2)))) := ⟨_, rfl⟩
            replace H : (impl_AddTables.l1 k2 l0 l1 x5_1 x6_1 t203 y211 t200 (t200.length : Int) (wrap64 (x50_2 + 1))) = some r := by first | (rw [hy211]; with_reducible exact H) | (have H2_ := (Option.bind_some _ _).symm.trans H; rw [hy211]; with_reducible exact H2_) | (have H2_ := (Option.bind_some _ _).symm.trans H; with_reducible exact H2_) | with_reducible exact H | (rw [hy211]; exact H) | exact H
            have Ny211 := Aside0.mk hy211
            clear hy211
            have H' := Aside0.mk H
            clear H
            have p209 : 0 ≤ (x50_2 : Int) := of_decide_eq_true (by first | (with_reducible assumption) | assumption)
            have q209 : x50_2 < (t200.length : Int) := of_decide_eq_true (by first | (with_reducible assumption) | assumption)
            obtain ⟨ad209, e209, hx209_0⟩ := Kd.at_int (Kd.V_reads' HO_48.out).2.2 x50_2 p209 q209
            cases e209
            replace p209 := eq_true p209
            replace q209 := eq_true q209
            obtain ⟨Ao23, co23, eo23⟩ := Kd.R_slice HO_9.out
            subst eo23
            have p210 : 0 ≤ (x50_2 : Int) := of_decide_eq_true (by first | (with_reducible assumption) | assumption)
            have q210 : x50_2 < (x9_2.length : Int) := of_decide_eq_true (by first | (with_reducible assumption) | assumption)
            obtain ⟨ad210, e210, hx210_0⟩ := Kd.at_int (Kd.R_reads' HO_9.out).2.2 x50_2 p210 q210
            cases e210
            replace p210 := eq_true p210
            replace q210 := eq_true q210
            have p22 : 0 ≤ (x50_2 : Int) := of_decide_eq_true (by first | (with_reducible assumption) | assumption)
            have q22 : (x50_2 : Int) < ((x9_2.length : Int) : Int) := of_decide_eq_true (by first | (with_reducible assumption) | assumption)
            obtain ⟨go22, co22, eo22, gb22, gl22, cl22, HG22⟩ := Kd.R_form HO_9.out (by omega)
            (first | cases eo22 | (injection eo22 with ea_ en_ ec_; (first | subst ea_ | (injection ea_ with ea_; subst ea_)); subst ec_; clear en_))
            have GB22 := Aside0.mk gb22
            have GG22 := Aside0.mk HG22
            clear gb22 gl22 HG22
            (first | simp only [add_plain] at hx210_0 | skip)
            obtain ⟨hx22_0, hf22_0⟩ := Kd.R_celln 0 HO_9.out (x50_2 : Int) p22 q22
            replace p22 := eq_true p22
            replace q22 := eq_true q22
            have HP24 := Kd.R_putg HO_9.out (x50_2 : Int) (wrap64 ((rd x9_2 x50_2) + (rd t200 x50_2)))
            go_wp2_with (first | ((with_reducible refine gate_store (t := 3) (p := 61) rfl ?_); refine store_event (t := 3) (p := 61) (v := ?vo_w25) (w1 := (wr.setCell ⟨go22, (x50_2 : Int).toNat, none⟩ (.int .i64 (wrap64 ((rd x9_2 x50_2) + (rd t200 x50_2)))))) ?hg ?ho ?hn ?hr ?_; (case ho => rfl); (case hg => rfl); (case hn => rfl); (case hr => first | (go_simp; done) | (go_simp; rfl)); intro w25 hw; have hg : wr.grownBy w25 (some go22) := (by rw [hw]; exact HP24.2); have hp_ : Kd.R (Kd.int .i64) 3 w25 w.heap.size (fun _ => True) (.slice (some ⟨go22, 0, none⟩) x9_2.length co23) y211 := (by rw [hw, Ny211.out]; exact HP24.1); clear HP24; replace HO_5 := Aside0.mk (Kd.S_after (v := (.slice (some ⟨go22, 0, none⟩) x9_2.length co23)) (v1 := (.slice (some ⟨go22, 0, none⟩) x9_2.length co23)) (ok := (fun _ => True)) (Hof.Sw (Kd.S_mono HO_5.out (fun _ hk => ⟨trivial, hk⟩))) hg (.inl rfl)); replace HO_8 := Aside0.mk (Kd.V_afterv (v := (.slice (some ⟨go22, 0, none⟩) x9_2.length co23)) (v1 := (.slice (some ⟨go22, 0, none⟩) x9_2.length co23)) (ok := (fun k_ => some k_ ≠ (u5 : Value).ownBlock)) (by (with_reducible repeat (first | apply Kd.V_alloc | apply Kd.V_drewN | apply Kd.V_drew)); exact HO_8.out) hg (.inl rfl)); replace HO_9 := Aside0.mk hp_; replace HO_48 := Aside0.mk (Kd.V_afterv (v := (.slice (some ⟨go22, 0, none⟩) x9_2.length co23)) (v1 := (.slice (some ⟨go22, 0, none⟩) x9_2.length co23)) (ok := (fun k_ => some k_ ≠ (u5 : Value).ownBlock)) (by (with_reducible repeat (first | apply Kd.V_alloc | apply Kd.V_drewN | apply Kd.V_drew)); exact HO_48.out) hg (.inl rfl)); replace HB := Aside0.mk ((by rw [hw]; exact below_set (HB.out) GB22.out : Below w.heap.size w w25)); clear hg hw hp_))
            go_roundg k2
            case measure => have := HK1.out; have := HK2.out; omega
            case rel => exact ⟨(y211), (wrap64 (x50_2 + 1)), (by first | rfl | (simp; done) | (simp [*]; done)), H', ⟨by have := HK1.out; have := HK2.out; omega⟩, ⟨Hof.Sw (Kd.S_mono HO_5.out (fun _ hk => hk.2))⟩, ⟨by (with_reducible repeat (first | apply Kd.V_alloc | apply Kd.V_drewN | apply Kd.V_drew)); exact HO_8.out⟩, ⟨Hof.Rw HO_9.out⟩, ⟨by (with_reducible repeat (first | apply Kd.V_alloc | apply Kd.V_drewN | apply Kd.V_drew)); exact HO_48.out⟩, ⟨Hof.Lw HB.out⟩⟩
           ·rw [if_neg c21] at H
            exact absurd H (by simp)
          ·rw [if_neg c20] at H
           exact absurd H (by simp)
         ·rw [if_neg c19] at H
          exact absurd H (by simp)
        ·rw [if_neg c18] at H
         have c18b0 : decide (x50_2 < (t200.length : Int)) = false := decide_eq_false c18
         clear c18
         have H' := Aside0.mk H
         clear H
         go_wp2
         go_loopg [65] k2 (fun kq v65 w' => ∃ (x9_3 : List Int) (x65_3 : Int), v65 = .int .i64 x65_3 ∧ Aside0 (impl_AddTables.l2 kq l0 l1 x5_1 x6_1 x9_3 t203 (t203.length : Int) x65_3 = some r) ∧ Aside0 (kq ≤ k2) ∧ Aside0 (Kd.S (Kd.slice 3 (Kd.int .i64)) 31 w' w.heap.size (fun k_ => some k_ ≠ (v207 : Value).ownBlock) u5 x5_1) ∧ Aside0 (Kd.R (Kd.int .i64) 3 w' w.heap.size (fun _ => True) v207 x9_3) ∧ Aside0 (Kd.V (Kd.int .i64) 3 w' w.heap.size (fun k_ => some k_ ≠ (u5 : Value).ownBlock ∧ some k_ ≠ (v207 : Value).ownBlock) (.slice Ao15 t203.length co15) t203) ∧ Aside0 (Below w.heap.size w w'))
         case atStart => exact ⟨(x9_2), (0), (by first | rfl | (simp; done) | (simp [*]; done)), H', ⟨Nat.le_refl _⟩, ⟨Hof.Sw HO_5.out⟩, ⟨Hof.Rw HO_9.out⟩, ⟨by (with_reducible repeat (first | apply Kd.V_alloc | apply Kd.V_drewN | apply Kd.V_drew)); exact HO_8.out⟩, ⟨Hof.Lw HB.out⟩⟩
         case round =>
          clear H'
          try clear c1
          try clear c2
          try clear p2
          try clear q2
          try clear hx2
          try clear hf2
          try clear c6
          try clear c6b0
          try clear p6
          try clear c10
          try clear c10b0
          try clear c10b1
          try clear c11
          try clear c11b0
          try clear c11b1
          try clear c18
          try clear c18b0
          try clear c19
          try clear c19b0
          try clear c20
          try clear c20b0
          try clear p20
          try clear q20
          try clear hx20
          try clear c21
          try clear c21b0
          try clear p21
          try clear q21
          try clear hx21
          try clear c22
          try clear p22
          try clear q22
          try clear hx22
          try clear hf22
          try clear hx209_0
          try clear hx210_0
          try clear hx22_0
          try clear p2
          try clear p209
          try clear p210
          try clear p22
          try clear q209
          try clear q210
          try clear q22
          obtain ⟨x9_3, x65_3, rfl, HA, HK3, HO_5, HO_9, HO_63, HB⟩ := hrel
          cases gk with
          | zero => exact absurd HA.out (by simp [impl_AddTables.l2])
          | succ k3 =>
           have H := HA.out
           clear HA
           simp only [impl_AddTables.l2] at H
           by_cases c26 : x65_3 < (t203.length : Int)
           ·rw [if_pos c26] at H
            have c26b0 : decide (x65_3 < (t203.length : Int)) = true := decide_eq_true c26
            clear c26
            by_cases c27 : 0 ≤ x65_3
            ·rw [if_pos c27] at H
             have c27b0 : decide (0 ≤ x65_3) = true := decide_eq_true c27
             clear c27
             by_cases c28 : x65_3 < (t203.length : Int)
             ·rw [if_pos c28] at H
              have c28b0 : decide (x65_3 < (t203.length : Int)) = true := decide_eq_true c28
              clear c28
              by_cases c29 : x65_3 < (x9_3.length : Int)
              ·rw [if_pos c29] at H
               have c29b0 : decide (x65_3 < (x9_3.length : Int)) = true := decide_eq_true c29
               clear c29
               obtain ⟨y214, hy214⟩ : ∃ y_ : List Int, y_ = (x9_3.set (x65_3 : Int).toNat (wrap64 ((rd x9_3 x65_3) + (rd t203 x65_3)))) := ⟨_, rfl⟩
               replace H : (impl_AddTables.l2 k3 l0 l1 x5_1 x6_1 y214 t203 (t203.length : Int) (wrap64 (x65_3 + 1))) = some r := by first | (rw [hy214]; with_reducible exact H) | (have H2_ := (Option.bind_some _ _).symm.trans H; rw [hy214]; with_reducible exact H2_) | (have H2_ := (Option.bind_some _ _).symm.trans H; with_reducible exact H2_) | with_reducible exact H | (rw [hy214]; exact H) | exact H
               have Ny214 := Aside0.mk hy214
               clear hy214
               have H' := Aside0.mk H
               clear H
               have p212 : 0 ≤ (x65_3 : Int) := of_decide_eq_true (by first | (with_reducible assumption) | assumption)
               have q212 : x65_3 < (t203.length : Int) := of_decide_eq_true (by first | (with_reducible assumption) | assumption)
               obtain ⟨ad212, e212, hx212_0⟩ := Kd.at_int (Kd.V_reads' HO_63.out).2.2 x65_3 p212 q212
               cases e212
               replace p212 := eq_true p212
               replace q212 := eq_true q212
               obtain ⟨Ao31, co31, eo31⟩ := Kd.R_slice HO_9.out
               subst eo31
               have p213 : 0 ≤ (x65_3 : Int) := of_decide_eq_true (by first | (with_reducible assumption) | assumption)
               have q213 : x65_3 < (x9_3.length : Int) := of_decide_eq_true (by first | (with_reducible assumption) | assumption)
               obtain ⟨ad213, e213, hx213_0⟩ := Kd.at_int (Kd.R_reads' HO_9.out).2.2 x65_3 p213 q213
               cases e213
               replace p213 := eq_true p213
               replace q213 := eq_true q213
               have p30 : 0 ≤ (x65_3 : Int) := of_decide_eq_true (by first | (with_reducible assumption) | assumption)
               have q30 : (x65_3 : Int) < ((x9_3.length : Int) : Int) := of_decide_eq_true (by first | (with_reducible assumption) | assumption)
               obtain ⟨go30, co30, eo30, gb30, gl30, cl30, HG30⟩ := Kd.R_form HO_9.out (by omega)
               (first | cases eo30 | (injection eo30 with ea_ en_ ec_; (first | subst ea_ | (injection ea_ with ea_; subst ea_)); subst ec_; clear en_))
               have GB30 := Aside0.mk gb30
               have GG30 := Aside0.mk HG30
               clear gb30 gl30 HG30
               (first | simp only [add_plain] at hx213_0 | skip)
               obtain ⟨hx30_0, hf30_0⟩ := Kd.R_celln 0 HO_9.out (x65_3 : Int) p30 q30
               replace p30 := eq_true p30
               replace q30 := eq_true q30
               have HP32 := Kd.R_putg HO_9.out (x65_3 : Int) (wrap64 ((rd x9_3 x65_3) + (rd t203 x65_3)))
               go_wp2_with (first | ((with_reducible refine gate_store (t := 3) (p := 76) rfl ?_); refine store_event (t := 3) (p := 76) (v := ?vo_w33) (w1 := (wr.setCell ⟨go30, (x65_3 : Int).toNat, none⟩ (.int .i64 (wrap64 ((rd x9_3 x65_3) + (rd t203 x65_3)))))) ?hg ?ho ?hn ?hr ?_; (case ho => rfl); (case hg => rfl); (case hn => rfl); (case hr => first | (go_simp; done) | (go_simp; rfl)); intro w33 hw; have hg : wr.grownBy w33 (some go30) := (by rw [hw]; exact HP32.2); have hp_ : Kd.R (Kd.int .i64) 3 w33 w.heap.size (fun _ => True) (.slice (some ⟨go30, 0, none⟩) x9_3.length co31) y214 := (by rw [hw, Ny214.out]; exact HP32.1); clear HP32; replace HO_5 := Aside0.mk (Kd.S_after (v := (.slice (some ⟨go30, 0, none⟩) x9_3.length co31)) (v1 := (.slice (some ⟨go30, 0, none⟩) x9_3.length co31)) (ok := (fun _ => True)) (Hof.Sw (Kd.S_mono HO_5.out (fun _ hk => ⟨trivial, hk⟩))) hg (.inl rfl)); replace HO_9 := Aside0.mk hp_; replace HO_63 := Aside0.mk (Kd.V_afterv (v := (.slice (some ⟨go30, 0, none⟩) x9_3.length co31)) (v1 := (.slice (some ⟨go30, 0, none⟩) x9_3.length co31)) (ok := (fun k_ => some k_ ≠ (u5 : Value).ownBlock)) (by (with_reducible repeat (first | apply Kd.V_alloc | apply Kd.V_drewN | apply Kd.V_drew)); exact HO_63.out) hg (.inl rfl)); replace HB := Aside0.mk ((by rw [hw]; exact below_set (HB.out) GB30.out : Below w.heap.size w w33)); clear hg hw hp_))
               go_roundg k3
               case measure => have := HK1.out; have := HK2.out; have := HK3.out; omega
               case rel => exact ⟨(y214), (wrap64 (x65_3 + 1)), (by first | rfl | (simp; done) | (simp [*]; done)), H', ⟨by have := HK1.out; have := HK2.out; have := HK3.out; omega⟩, ⟨Hof.Sw (Kd.S_mono HO_5.out (fun _ hk => hk.2))⟩, ⟨Hof.Rw HO_9.out⟩, ⟨by (with_reducible repeat (first | apply Kd.V_alloc | apply Kd.V_drewN | apply Kd.V_drew)); exact HO_63.out⟩, ⟨Hof.Lw HB.out⟩⟩
              ·rw [if_neg c29] at H
               exact absurd H (by simp)
             ·rw [if_neg c28] at H
              exact absurd H (by simp)
            ·rw [if_neg c27] at H
             exact absurd H (by simp)
           ·rw [if_neg c26] at H
            have c26b0 : decide (x65_3 < (t203.length : Int)) = false := decide_eq_false c26
            clear c26
            by_cases c34 : x5_1.length < 5864062014805
            ·rw [if_pos c34] at H
             have LMc34 := Aside0.mk c34
             clear c34
             obtain ⟨y215, hy215⟩ : ∃ y_ : List (List Int), y_ = (x5_1 ++ [x9_3]) := ⟨_, rfl⟩
             replace H : (impl_AddTables.l0 k3 l0 l1 y215 (wrap64 (x6_1 + 1))) = some r := by first | (rw [hy215]; with_reducible exact H) | (have H2_ := (Option.bind_some _ _).symm.trans H; rw [hy215]; with_reducible exact H2_) | (have H2_ := (Option.bind_some _ _).symm.trans H; with_reducible exact H2_) | with_reducible exact H | (rw [hy215]; exact H) | exact H
             have Ny215 := Aside0.mk hy215
             clear hy215
             have H' := Aside0.mk H
             clear H
             obtain ⟨Ao36, co36, eo36⟩ := Kd.R_slice HO_9.out
             subst eo36
             go_wp2_with (first | ((with_reducible refine gate_builtin (b := .append) (xs := #[.tmp 78, .tmp 80]) rfl ?_); at_builtin; refine Kd.S_append (Kd.slice 3 (Kd.int .i64)) (w0 := w) w.heap.size rfl (.tmp 78) (.tmp 80) 22 31 (.slice none 0 0) 24 rfl Try.underlying22 info31 rfl (by decide) (by omega) u5 x5_1 x9_3 [.slice Ao36 x9_3.length co36] (fun _ => True) (fun k_ => some k_ = (.slice Ao36 x9_3.length co36 : Value).ownBlock) rfl rfl ?aP (fun k_ hk_ => ((Kd.R_mono (ok' := fun k_ => ((fun _ => True)) k_ ∧ some k_ ≠ (u5 : Value).ownBlock) (Kd.R_apart' (HO_9.out) (Kd.S_typed HO_5.out) (by decide)) (fun k_ hk => ⟨trivial, hk.2⟩))).1 k_ hk_.symm) ?aF ?aO ?aB ?aS ?aL ?_; (case aP => exact Kd.M_row (Kd.R_mono (Kd.R_tight rfl (Kd.R_mono (ok' := fun k_ => ((fun _ => True)) k_ ∧ some k_ ≠ (u5 : Value).ownBlock) (Kd.R_apart' (HO_9.out) (Kd.S_typed HO_5.out) (by decide)) (fun k_ hk => ⟨trivial, hk.2⟩))) (fun _ h_ => h_))); (case aB => exact (Hof.Lw HB.out)); (case aF => exact (fun _ _ => trivial)); (case aO => exact (Hof.Sw (Kd.S_mono HO_5.out (fun k_ hk => ⟨trivial, fun e_ => hk e_⟩)))); (case aS => exact (below_size (Hof.Lw HB.out))); (case aL => have := LMc34.out; omega); intro v216 w35 ho hb hg hat; rw [← Ny215.out] at ho; have n0_ := Aside0.mk (Kd.V_afterv (ok := (fun k_ => some k_ ≠ (.slice Ao36 x9_3.length co36 : Value).ownBlock)) (by (with_reducible repeat (first | apply Kd.V_alloc | apply Kd.V_drewN | apply Kd.V_drew)); exact Kd.V_mono HO_63.out (fun _ hk => (by first | exact ⟨hk.2, hk.1⟩ | (simp_all; done)))) hg hat); have n1_ := Aside0.mk hb; have n2_ := Aside0.mk ho; clear HO_63; clear HB; clear HO_5; clear HO_9; have HO_63 := n0_; have HB := n1_; have HO217 := n2_; clear n0_ n1_ n2_; clear ho hb hg hat))
             go_roundg k3
             case measure => have := HK1.out; have := HK2.out; have := HK3.out; omega
             case rel => exact ⟨(y215), (wrap64 (x6_1 + 1)), (by first | rfl | (simp; done) | (simp [*]; done)), H', ⟨by have := HK1.out; have := HK2.out; have := HK3.out; omega⟩, ⟨Hof.Sw HO217.out⟩, ⟨Hof.Lw HB.out⟩⟩
            ·rw [if_neg c34] at H
             exact absurd H (by simp)
     ·rw [if_neg c11] at H
      exact absurd H (by simp)
    ·rw [if_neg c10] at H
     exact absurd H (by simp)
   ·rw [if_neg c6] at H
    have c6b0 : decide (x6_1 < (ji5)) = false := decide_eq_false c6
    clear c6
    obtain rfl := Option.some.inj H
    go_wp2
    go_ret
    exact ⟨_, by first | rfl | (simp [errW_none, errW_some] <;> rfl) | (simp only [← hji5]; first | rfl | (simp [errW_none, errW_some] <;> rfl)) | (simp [*, errW_none, errW_some] <;> rfl), by (with_reducible repeat (first | apply Kd.S_alloc | apply Kd.S_drewN | apply Kd.S_drew)); exact HO_5.out, by repeat (first | (with_reducible first | exact HB.out | apply below_alloc | apply pw_below_drewN | apply below_drew1) | exact HB.out)⟩
end Go.Proofs.Ytbjnkcfkhonkhaa.Pr
end
section
namespace Go.Proofs.Ytbjnkcfkhonkhaa.Pr
open Go.RowKit Go.Proofs.YtbjnkcfkhonkhaaW.PrintWords Go.Proofs.YtbjnkcfkhonkhaaW.PrintLast Go.Proofs.YtbjnkcfkhonkhaaW.PrintMore
attribute [local go_sem] max2_int min2_int max_two min_two max_three min_three max_four min_four
set_option linter.unusedVariables false
set_option linter.unusedSimpArgs false
def laws_FnExactAddTables.f (k : Nat) (l0 : List (List Int)) (l1 : List (List Int)) : Option Bool := (laws_szIntSS.f k l0 1048576).bind fun z => if z < 0 then some true else ((laws_szIntSS.f k l1 z).bind fun zz => if zz < 0 then some true else ((laws_toIntSS.f k l0).bind fun p1 => (laws_toIntSS.f k l1).bind fun p2 => (spec_AddTables.f k p1 p2).bind fun v => (laws_toIntSS.f k l0).bind fun x1 => (laws_toIntSS.f k l1).bind fun x2 => (impl_AddTables.f k x1 x2).bind fun g => (laws_eqIntSS.f k g v).bind fun e1 => if e1 = true then ((laws_toIntSS.f k l0).bind fun s1 => (laws_eqIntSS.f k x1 s1).bind fun e2 => if e2 = true then ((laws_toIntSS.f k l1).bind fun s2 => (laws_eqIntSS.f k x2 s2).bind fun e3 => if e3 = true then ((laws_markIntSS.f k x1 1).bind fun m => (laws_markIntSS.f k x2 m.1).bind fun n => if n.1 < 0 then none else ((laws_markIntSS.f k g 1).bind fun q => (laws_heldIntSS.f k q.2 1).bind fun t => if t < 0 then none else (if t = q.1 then ((laws_toIntSS.f k l0).bind fun u1 => (laws_toIntSS.f k l1).bind fun u2 => (impl_AddTables.f k u1 u2).bind fun hh => (laws_eqIntSS.f k hh v).bind fun e4 => if e4 = true then some true else none) else none))) else none) else none) else none))
set_option maxHeartbeats 8000000 in
set_option maxRecDepth 100000 in
theorem laws_FnExactAddTables.calls (k : Nat) (A0 : Option Addr) (c0 : Nat) (l0 : List (List Int)) (A1 : Option Addr) (c1 : Nat) (l1 : List (List Int)) (r : Bool) (w : World) (hr0 : Kd.C (Kd.slice 3 (Kd.int .i64)) w A0 l0.length l0) (hc0 : l0.length ≤ c0) (hr1 : Kd.C (Kd.slice 3 (Kd.int .i64)) w A1 l1.length l1) (hc1 : l1.length ≤ c1) (hT : Aside0 (r = true)) (h : laws_FnExactAddTables.f k l0 l1 = some r) :
  Calls Try.prog 4 #[.slice A0 l0.length c0, .slice A1 l1.length c1] w fun e w' => e = .returned (.bool r) ∧ Below w.heap.size w w' := by
 have HR0 := Aside0.mk hr0
 have HC0 := Aside0.mk hc0
 have HR1 := Aside0.mk hr1
 have HC1 := Aside0.mk hc1
 have HB := Aside0.mk (Below.refl w.heap.size w)
 clear hr0 hc0 hr1 hc1
 unfold laws_FnExactAddTables.f at h
 replace h := Option.bind_eq_some_iff.mp h
 obtain ⟨z, h0, h⟩ := h
 have H0 := Aside0.mk h0
 clear h0
 by_cases c : z < 0
 ·rw [if_pos c] at h
  obtain rfl := Option.some.inj h
  have c0_ : decide (z < 0) = true := decide_eq_true c
  clear c h
  go_enter Try.func4, Try.ntmps4
  go_wp2_with (first | ((with_reducible refine gate_dst (N := 16) rfl ?_); refine goesL_ (some 16) rfl rfl Try.func14 (by kernel_rfl) rfl #[.slice A0 l0.length c0, .int .i64 1048576] rfl (by (try simp only [List.map_toArray, List.map_cons, List.map_nil]); first | done | rfl) ?_; (with_reducible refine (laws_szIntSS.calls k _ _ l0 1048576 z _ (Kd.C_below HR0.out HB.out) HC0.out H0.out).mono ?_); rintro e w101 ⟨rfl, hd_⟩; refine ⟨_, rfl, ?_⟩; have hb := hd_.below; clear hd_; replace HB := Aside0.mk (below_step HB.out hb); have HZ1 := Aside0.mk (show w.heap.size ≤ w101.heap.size from hb.size); clear hb))
  go_ret
  exact ⟨rfl, HB.out⟩
 rw [if_neg c] at h
 have c0_ : decide (z < 0) = false := decide_eq_false c
 clear c
 replace h := Option.bind_eq_some_iff.mp h
 obtain ⟨zz, h1, h⟩ := h
 have H1 := Aside0.mk h1
 clear h1
 by_cases c : zz < 0
 ·rw [if_pos c] at h
  obtain rfl := Option.some.inj h
  have c1_ : decide (zz < 0) = true := decide_eq_true c
  clear c h
  go_enter Try.func4, Try.ntmps4
  go_wp2_with (first | ((with_reducible refine gate_dst (N := 16) rfl ?_); refine goesL_ (some 16) rfl rfl Try.func14 (by kernel_rfl) rfl #[.slice A0 l0.length c0, .int .i64 1048576] rfl (by (try simp only [List.map_toArray, List.map_cons, List.map_nil]); first | done | rfl) ?_; (with_reducible refine (laws_szIntSS.calls k _ _ l0 1048576 z _ (Kd.C_below HR0.out HB.out) HC0.out H0.out).mono ?_); rintro e w101 ⟨rfl, hd_⟩; refine ⟨_, rfl, ?_⟩; have hb := hd_.below; clear hd_; replace HB := Aside0.mk (below_step HB.out hb); have HZ1 := Aside0.mk (show w.heap.size ≤ w101.heap.size from hb.size); clear hb) | ((with_reducible refine gate_dst (N := 21) rfl ?_); refine goesL_ (some 21) rfl rfl Try.func14 (by kernel_rfl) rfl #[.slice A1 l1.length c1, .int .i64 z] rfl (by (try simp only [List.map_toArray, List.map_cons, List.map_nil]); first | done | rfl) ?_; (with_reducible refine (laws_szIntSS.calls k _ _ l1 z zz _ (Kd.C_below HR1.out HB.out) HC1.out H1.out).mono ?_); rintro e w102 ⟨rfl, hd_⟩; refine ⟨_, rfl, ?_⟩; have hb := hd_.below; clear hd_; replace HB := Aside0.mk (below_step HB.out hb); have HZ2 := Aside0.mk (show w101.heap.size ≤ w102.heap.size from hb.size); clear hb))
  go_ret
  exact ⟨rfl, HB.out⟩
 ·rw [if_neg c] at h
  have c1_ : decide (zz < 0) = false := decide_eq_false c
  clear c
  replace h := Option.bind_eq_some_iff.mp h
  obtain ⟨p1, h2, h⟩ := h
  replace h := Option.bind_eq_some_iff.mp h
  obtain ⟨p2, h3, h⟩ := h
  replace h := Option.bind_eq_some_iff.mp h
  obtain ⟨v, h4, h⟩ := h
  replace h := Option.bind_eq_some_iff.mp h
  obtain ⟨x1, h5, h⟩ := h
  replace h := Option.bind_eq_some_iff.mp h
  obtain ⟨x2, h6, h⟩ := h
  replace h := Option.bind_eq_some_iff.mp h
  obtain ⟨g, h7, h⟩ := h
  replace h := Option.bind_eq_some_iff.mp h
  obtain ⟨e1, h8, h⟩ := h
  by_cases t1 : e1 = true
  case neg => rw [if_neg t1] at h; exact absurd h (by simp)
  subst t1
  rw [if_pos rfl] at h
  replace h := Option.bind_eq_some_iff.mp h
  obtain ⟨s1, h9, h⟩ := h
  replace h := Option.bind_eq_some_iff.mp h
  obtain ⟨e2, h10, h⟩ := h
  by_cases t2 : e2 = true
  case neg => rw [if_neg t2] at h; exact absurd h (by simp)
  subst t2
  rw [if_pos rfl] at h
  replace h := Option.bind_eq_some_iff.mp h
  obtain ⟨s2, h11, h⟩ := h
  replace h := Option.bind_eq_some_iff.mp h
  obtain ⟨e3, h12, h⟩ := h
  by_cases t3 : e3 = true
  case neg => rw [if_neg t3] at h; exact absurd h (by simp)
  subst t3
  rw [if_pos rfl] at h
  replace h := Option.bind_eq_some_iff.mp h
  obtain ⟨⟨m1, m2⟩, h13, h⟩ := h
  replace h := Option.bind_eq_some_iff.mp h
  obtain ⟨⟨n1, n2⟩, h14, h⟩ := h
  by_cases y1 : n1 < 0
  case pos => rw [if_pos y1] at h; exact absurd h (by simp)
  rw [if_neg y1] at h
  replace h := Option.bind_eq_some_iff.mp h
  obtain ⟨⟨q1, q2⟩, h15, h⟩ := h
  replace h := Option.bind_eq_some_iff.mp h
  obtain ⟨t, h16, h⟩ := h
  by_cases y2 : t < 0
  case pos => rw [if_pos y2] at h; exact absurd h (by simp)
  rw [if_neg y2] at h
  by_cases y3 : t = q1
  case neg => rw [if_neg y3] at h; exact absurd h (by simp)
  rw [if_pos y3] at h
  subst y3
  replace h := Option.bind_eq_some_iff.mp h
  obtain ⟨u1, h17, h⟩ := h
  replace h := Option.bind_eq_some_iff.mp h
  obtain ⟨u2, h18, h⟩ := h
  replace h := Option.bind_eq_some_iff.mp h
  obtain ⟨hh, h19, h⟩ := h
  replace h := Option.bind_eq_some_iff.mp h
  obtain ⟨e4, h20, h⟩ := h
  by_cases t4 : e4 = true
  case neg => rw [if_neg t4] at h; exact absurd h (by simp)
  subst t4
  rw [if_pos rfl] at h
  obtain rfl := Option.some.inj h
  have H2 := Aside0.mk h2
  have H3 := Aside0.mk h3
  have H4 := Aside0.mk h4
  have H5 := Aside0.mk h5
  have H6 := Aside0.mk h6
  have H7 := Aside0.mk h7
  have H8 := Aside0.mk h8
  have H9 := Aside0.mk h9
  have H10 := Aside0.mk h10
  have H11 := Aside0.mk h11
  have H12 := Aside0.mk h12
  have H13 := Aside0.mk h13
  have H14 := Aside0.mk h14
  have H15 := Aside0.mk h15
  have H16 := Aside0.mk h16
  have H17 := Aside0.mk h17
  have H18 := Aside0.mk h18
  have H19 := Aside0.mk h19
  have H20 := Aside0.mk h20
  have y1_ : decide (n1 < 0) = false := decide_eq_false y1
  have y2_ : decide (t < 0) = false := decide_eq_false y2
  clear h h2 h3 h4 h5 h6 h7 h8 h9 h10 h11 h12 h13 h14 h15 h16 h17 h18 h19 h20 y1 y2
  go_enter Try.func4, Try.ntmps4
  go_wp2_with (first | ((with_reducible refine gate_dst (N := 16) rfl ?_); refine goesL_ (some 16) rfl rfl Try.func14 (by kernel_rfl) rfl #[.slice A0 l0.length c0, .int .i64 1048576] rfl (by (try simp only [List.map_toArray, List.map_cons, List.map_nil]); first | done | rfl) ?_; (with_reducible refine (laws_szIntSS.calls k _ _ l0 1048576 z _ (Kd.C_below HR0.out HB.out) HC0.out H0.out).mono ?_); rintro e w101 ⟨rfl, hd_⟩; refine ⟨_, rfl, ?_⟩; have hb := hd_.below; clear hd_; replace HB := Aside0.mk (below_step HB.out hb); have HZ1 := Aside0.mk (show w.heap.size ≤ w101.heap.size from hb.size); clear hb) | ((with_reducible refine gate_dst (N := 21) rfl ?_); refine goesL_ (some 21) rfl rfl Try.func14 (by kernel_rfl) rfl #[.slice A1 l1.length c1, .int .i64 z] rfl (by (try simp only [List.map_toArray, List.map_cons, List.map_nil]); first | done | rfl) ?_; (with_reducible refine (laws_szIntSS.calls k _ _ l1 z zz _ (Kd.C_below HR1.out HB.out) HC1.out H1.out).mono ?_); rintro e w102 ⟨rfl, hd_⟩; refine ⟨_, rfl, ?_⟩; have hb := hd_.below; clear hd_; replace HB := Aside0.mk (below_step HB.out hb); have HZ2 := Aside0.mk (show w101.heap.size ≤ w102.heap.size from hb.size); clear hb) | ((with_reducible refine gate_dst (N := 25) rfl ?_); refine goesL_ (some 25) rfl rfl Try.func16 (by kernel_rfl) rfl #[.slice A0 l0.length c0] rfl (by (try simp only [List.map_toArray, List.map_cons, List.map_nil]); first | done | rfl) ?_; (with_reducible refine (laws_toIntSS.calls k _ _ l0 p1 _ (Kd.C_below HR0.out HB.out) HC0.out H2.out).mono ?_); rintro e w103 ⟨vp1, rfl, ho0, hb⟩; refine ⟨_, rfl, ?_⟩; have Np1 := Aside0.mk (Kd.S_lower (Kd.S_mono (ok' := fun k_ => w102.heap.size ≤ k_ ∧ k_ < w103.heap.size) (Kd.S_bound ho0) (fun _ hk => ⟨hk.2.1, hk.2.2.1⟩)) (below_size HB.out)); replace HB := Aside0.mk (below_step HB.out hb); have HZ3 := Aside0.mk (show w102.heap.size ≤ w103.heap.size from hb.size); have HOp1 := Np1; clear Np1 ho0 hb; obtain ⟨Ap1, cp1, e_⟩ := Kd.S_slice HOp1.out; subst e_) | ((with_reducible refine gate_dst (N := 27) rfl ?_); refine goesL_ (some 27) rfl rfl Try.func16 (by kernel_rfl) rfl #[.slice A1 l1.length c1] rfl (by (try simp only [List.map_toArray, List.map_cons, List.map_nil]); first | done | rfl) ?_; (with_reducible refine (laws_toIntSS.calls k _ _ l1 p2 _ (Kd.C_below HR1.out HB.out) HC1.out H3.out).mono ?_); rintro e w104 ⟨vp2, rfl, ho0, hb⟩; refine ⟨_, rfl, ?_⟩; have Np2 := Aside0.mk (Kd.S_lower (Kd.S_mono (ok' := fun k_ => w103.heap.size ≤ k_ ∧ k_ < w104.heap.size) (Kd.S_bound ho0) (fun _ hk => ⟨hk.2.1, hk.2.2.1⟩)) (below_size HB.out)); replace HOp1 := Aside0.mk (Kd.S_below HOp1.out hb); replace HB := Aside0.mk (below_step HB.out hb); have HZ4 := Aside0.mk (show w103.heap.size ≤ w104.heap.size from hb.size); have HOp2 := Np2; clear Np2 ho0 hb; obtain ⟨Ap2, cp2, e_⟩ := Kd.S_slice HOp2.out; subst e_) | ((with_reducible refine gate_dst (N := 28) rfl ?_); refine goesL_ (some 28) rfl rfl Try.func21 (by kernel_rfl) rfl #[.slice Ap1 p1.length cp1, .slice Ap2 p2.length cp2] rfl (by (try simp only [List.map_toArray, List.map_cons, List.map_nil]); first | done | rfl) ?_; (with_reducible refine (spec_AddTables.calls k _ _ p1 _ _ p2 v _ (Kd.S_reads' HOp1.out).2.2 (Kd.S_reads' HOp1.out).2.1 (Kd.S_reads' HOp2.out).2.2 (Kd.S_reads' HOp2.out).2.1 H4.out).mono ?_); rintro e w105 ⟨vv, rfl, ho0, hb⟩; refine ⟨_, rfl, ?_⟩; have Nv := Aside0.mk (Kd.S_lower (Kd.S_mono (ok' := fun k_ => w104.heap.size ≤ k_ ∧ k_ < w105.heap.size) (Kd.S_bound ho0) (fun _ hk => ⟨hk.2.1, hk.2.2.1⟩)) (below_size HB.out)); replace HOp1 := Aside0.mk (Kd.S_below HOp1.out hb); replace HOp2 := Aside0.mk (Kd.S_below HOp2.out hb); replace HB := Aside0.mk (below_step HB.out hb); have HZ5 := Aside0.mk (show w104.heap.size ≤ w105.heap.size from hb.size); have HOv := Nv; clear Nv ho0 hb; obtain ⟨Av, cv, e_⟩ := Kd.S_slice HOv.out; subst e_) | ((with_reducible refine gate_dst (N := 30) rfl ?_); refine goesL_ (some 30) rfl rfl Try.func16 (by kernel_rfl) rfl #[.slice A0 l0.length c0] rfl (by (try simp only [List.map_toArray, List.map_cons, List.map_nil]); first | done | rfl) ?_; (with_reducible refine (laws_toIntSS.calls k _ _ l0 x1 _ (Kd.C_below HR0.out HB.out) HC0.out H5.out).mono ?_); rintro e w106 ⟨vx1, rfl, ho0, hb⟩; refine ⟨_, rfl, ?_⟩; have Nx1 := Aside0.mk (Kd.S_lower (Kd.S_mono (ok' := fun k_ => w105.heap.size ≤ k_ ∧ k_ < w106.heap.size) (Kd.S_bound ho0) (fun _ hk => ⟨hk.2.1, hk.2.2.1⟩)) (below_size HB.out)); replace HOp1 := Aside0.mk (Kd.S_below HOp1.out hb); replace HOp2 := Aside0.mk (Kd.S_below HOp2.out hb); replace HOv := Aside0.mk (Kd.S_below HOv.out hb); replace HB := Aside0.mk (below_step HB.out hb); have HZ6 := Aside0.mk (show w105.heap.size ≤ w106.heap.size from hb.size); have HOx1 := Nx1; clear Nx1 ho0 hb; obtain ⟨Ax1, cx1, e_⟩ := Kd.S_slice HOx1.out; subst e_) | ((with_reducible refine gate_dst (N := 32) rfl ?_); refine goesL_ (some 32) rfl rfl Try.func16 (by kernel_rfl) rfl #[.slice A1 l1.length c1] rfl (by (try simp only [List.map_toArray, List.map_cons, List.map_nil]); first | done | rfl) ?_; (with_reducible refine (laws_toIntSS.calls k _ _ l1 x2 _ (Kd.C_below HR1.out HB.out) HC1.out H6.out).mono ?_); rintro e w107 ⟨vx2, rfl, ho0, hb⟩; refine ⟨_, rfl, ?_⟩; have Nx2 := Aside0.mk (Kd.S_lower (Kd.S_mono (ok' := fun k_ => w106.heap.size ≤ k_ ∧ k_ < w107.heap.size) (Kd.S_bound ho0) (fun _ hk => ⟨hk.2.1, hk.2.2.1⟩)) (below_size HB.out)); replace HOp1 := Aside0.mk (Kd.S_below HOp1.out hb); replace HOp2 := Aside0.mk (Kd.S_below HOp2.out hb); replace HOv := Aside0.mk (Kd.S_below HOv.out hb); replace HOx1 := Aside0.mk (Kd.S_below HOx1.out hb); replace HB := Aside0.mk (below_step HB.out hb); have HZ7 := Aside0.mk (show w106.heap.size ≤ w107.heap.size from hb.size); have HOx2 := Nx2; clear Nx2 ho0 hb; obtain ⟨Ax2, cx2, e_⟩ := Kd.S_slice HOx2.out; subst e_) | ((with_reducible refine gate_dst (N := 35) rfl ?_); refine goesL_ (some 35) rfl rfl Try.func22 (by kernel_rfl) rfl #[.slice Ax1 x1.length cx1, .slice Ax2 x2.length cx2] rfl (by (try simp only [List.map_toArray, List.map_cons, List.map_nil]); first | done | rfl) ?_; (with_reducible refine (impl_AddTables.calls k _ _ x1 _ _ x2 g _ (Kd.S_reads' HOx1.out).2.2 (Kd.S_reads' HOx1.out).2.1 (Kd.S_reads' HOx2.out).2.2 (Kd.S_reads' HOx2.out).2.1 H7.out).mono ?_); rintro e w108 ⟨vg, rfl, ho0, hb⟩; refine ⟨_, rfl, ?_⟩; have Ng := Aside0.mk (Kd.S_lower (Kd.S_mono (ok' := fun k_ => w107.heap.size ≤ k_ ∧ k_ < w108.heap.size) (Kd.S_bound ho0) (fun _ hk => ⟨hk.2.1, hk.2.2.1⟩)) (below_size HB.out)); replace HOp1 := Aside0.mk (Kd.S_below HOp1.out hb); replace HOp2 := Aside0.mk (Kd.S_below HOp2.out hb); replace HOv := Aside0.mk (Kd.S_below HOv.out hb); replace HOx1 := Aside0.mk (Kd.S_below HOx1.out hb); replace HOx2 := Aside0.mk (Kd.S_below HOx2.out hb); replace HB := Aside0.mk (below_step HB.out hb); have HZ8 := Aside0.mk (show w107.heap.size ≤ w108.heap.size from hb.size); have HOg := Ng; clear Ng ho0 hb; obtain ⟨Ag, cg, e_⟩ := Kd.S_slice HOg.out; subst e_) | ((with_reducible refine gate_dst (N := 38) rfl ?_); refine goesL_ (some 38) rfl rfl Try.func18 (by kernel_rfl) rfl #[.slice Ag g.length cg, .slice Av v.length cv] rfl (by (try simp only [List.map_toArray, List.map_cons, List.map_nil]); first | done | rfl) ?_; (with_reducible refine (laws_eqIntSS.calls k _ _ g _ _ v true _ (Kd.S_reads' HOg.out).2.2 (Kd.S_reads' HOg.out).2.1 (Kd.S_reads' HOv.out).2.2 (Kd.S_reads' HOv.out).2.1 H8.out).mono ?_); rintro e w109 ⟨rfl, hd_⟩; refine ⟨_, rfl, ?_⟩; have hb := hd_.below; clear hd_; replace HOp1 := Aside0.mk (Kd.S_below HOp1.out hb); replace HOp2 := Aside0.mk (Kd.S_below HOp2.out hb); replace HOv := Aside0.mk (Kd.S_below HOv.out hb); replace HOx1 := Aside0.mk (Kd.S_below HOx1.out hb); replace HOx2 := Aside0.mk (Kd.S_below HOx2.out hb); replace HOg := Aside0.mk (Kd.S_below HOg.out hb); replace HB := Aside0.mk (below_step HB.out hb); have HZ9 := Aside0.mk (show w108.heap.size ≤ w109.heap.size from hb.size); clear hb) | ((with_reducible refine gate_dst (N := 42) rfl ?_); refine goesL_ (some 42) rfl rfl Try.func16 (by kernel_rfl) rfl #[.slice A0 l0.length c0] rfl (by (try simp only [List.map_toArray, List.map_cons, List.map_nil]); first | done | rfl) ?_; (with_reducible refine (laws_toIntSS.calls k _ _ l0 s1 _ (Kd.C_below HR0.out HB.out) HC0.out H9.out).mono ?_); rintro e w110 ⟨vs1, rfl, ho0, hb⟩; refine ⟨_, rfl, ?_⟩; have Ns1 := Aside0.mk (Kd.S_lower (Kd.S_mono (ok' := fun k_ => w109.heap.size ≤ k_ ∧ k_ < w110.heap.size) (Kd.S_bound ho0) (fun _ hk => ⟨hk.2.1, hk.2.2.1⟩)) (below_size HB.out)); replace HOp1 := Aside0.mk (Kd.S_below HOp1.out hb); replace HOp2 := Aside0.mk (Kd.S_below HOp2.out hb); replace HOv := Aside0.mk (Kd.S_below HOv.out hb); replace HOx1 := Aside0.mk (Kd.S_below HOx1.out hb); replace HOx2 := Aside0.mk (Kd.S_below HOx2.out hb); replace HOg := Aside0.mk (Kd.S_below HOg.out hb); replace HB := Aside0.mk (below_step HB.out hb); have HZ10 := Aside0.mk (show w109.heap.size ≤ w110.heap.size from hb.size); have HOs1 := Ns1; clear Ns1 ho0 hb; obtain ⟨As1, cs1, e_⟩ := Kd.S_slice HOs1.out; subst e_) | ((with_reducible refine gate_dst (N := 43) rfl ?_); refine goesL_ (some 43) rfl rfl Try.func18 (by kernel_rfl) rfl #[.slice Ax1 x1.length cx1, .slice As1 s1.length cs1] rfl (by (try simp only [List.map_toArray, List.map_cons, List.map_nil]); first | done | rfl) ?_; (with_reducible refine (laws_eqIntSS.calls k _ _ x1 _ _ s1 true _ (Kd.S_reads' HOx1.out).2.2 (Kd.S_reads' HOx1.out).2.1 (Kd.S_reads' HOs1.out).2.2 (Kd.S_reads' HOs1.out).2.1 H10.out).mono ?_); rintro e w111 ⟨rfl, hd_⟩; refine ⟨_, rfl, ?_⟩; have hb := hd_.below; clear hd_; replace HOp1 := Aside0.mk (Kd.S_below HOp1.out hb); replace HOp2 := Aside0.mk (Kd.S_below HOp2.out hb); replace HOv := Aside0.mk (Kd.S_below HOv.out hb); replace HOx1 := Aside0.mk (Kd.S_below HOx1.out hb); replace HOx2 := Aside0.mk (Kd.S_below HOx2.out hb); replace HOg := Aside0.mk (Kd.S_below HOg.out hb); replace HOs1 := Aside0.mk (Kd.S_below HOs1.out hb); replace HB := Aside0.mk (below_step HB.out hb); have HZ11 := Aside0.mk (show w110.heap.size ≤ w111.heap.size from hb.size); clear hb) | ((with_reducible refine gate_dst (N := 47) rfl ?_); refine goesL_ (some 47) rfl rfl Try.func16 (by kernel_rfl) rfl #[.slice A1 l1.length c1] rfl (by (try simp only [List.map_toArray, List.map_cons, List.map_nil]); first | done | rfl) ?_; (with_reducible refine (laws_toIntSS.calls k _ _ l1 s2 _ (Kd.C_below HR1.out HB.out) HC1.out H11.out).mono ?_); rintro e w112 ⟨vs2, rfl, ho0, hb⟩; refine ⟨_, rfl, ?_⟩; have Ns2 := Aside0.mk (Kd.S_lower (Kd.S_mono (ok' := fun k_ => w111.heap.size ≤ k_ ∧ k_ < w112.heap.size) (Kd.S_bound ho0) (fun _ hk => ⟨hk.2.1, hk.2.2.1⟩)) (below_size HB.out)); replace HOp1 := Aside0.mk (Kd.S_below HOp1.out hb); replace HOp2 := Aside0.mk (Kd.S_below HOp2.out hb); replace HOv := Aside0.mk (Kd.S_below HOv.out hb); replace HOx1 := Aside0.mk (Kd.S_below HOx1.out hb); replace HOx2 := Aside0.mk (Kd.S_below HOx2.out hb); replace HOg := Aside0.mk (Kd.S_below HOg.out hb); replace HOs1 := Aside0.mk (Kd.S_below HOs1.out hb); replace HB := Aside0.mk (below_step HB.out hb); have HZ12 := Aside0.mk (show w111.heap.size ≤ w112.heap.size from hb.size); have HOs2 := Ns2; clear Ns2 ho0 hb; obtain ⟨As2, cs2, e_⟩ := Kd.S_slice HOs2.out; subst e_) | ((with_reducible refine gate_dst (N := 48) rfl ?_); refine goesL_ (some 48) rfl rfl Try.func18 (by kernel_rfl) rfl #[.slice Ax2 x2.length cx2, .slice As2 s2.length cs2] rfl (by (try simp only [List.map_toArray, List.map_cons, List.map_nil]); first | done | rfl) ?_; (with_reducible refine (laws_eqIntSS.calls k _ _ x2 _ _ s2 true _ (Kd.S_reads' HOx2.out).2.2 (Kd.S_reads' HOx2.out).2.1 (Kd.S_reads' HOs2.out).2.2 (Kd.S_reads' HOs2.out).2.1 H12.out).mono ?_); rintro e w113 ⟨rfl, hd_⟩; refine ⟨_, rfl, ?_⟩; have hb := hd_.below; clear hd_; replace HOp1 := Aside0.mk (Kd.S_below HOp1.out hb); replace HOp2 := Aside0.mk (Kd.S_below HOp2.out hb); replace HOv := Aside0.mk (Kd.S_below HOv.out hb); replace HOx1 := Aside0.mk (Kd.S_below HOx1.out hb); replace HOx2 := Aside0.mk (Kd.S_below HOx2.out hb); replace HOg := Aside0.mk (Kd.S_below HOg.out hb); replace HOs1 := Aside0.mk (Kd.S_below HOs1.out hb); replace HOs2 := Aside0.mk (Kd.S_below HOs2.out hb); replace HB := Aside0.mk (below_step HB.out hb); have HZ13 := Aside0.mk (show w112.heap.size ≤ w113.heap.size from hb.size); clear hb) | ((with_reducible refine gate_dst (N := 52) rfl ?_); refine goesL_ (some 52) rfl rfl Try.func19 (by kernel_rfl) rfl #[.slice Ax1 x1.length cx1, .int .i64 1] rfl (by (try simp only [List.map_toArray, List.map_cons, List.map_nil]); first | done | rfl) ?_; (with_reducible refine (laws_markIntSS.calls k (fun k_ => w105.heap.size ≤ k_ ∧ k_ < w106.heap.size) _ x1 1 m1 m2 w _ HB.out HOx1.out H13.out).mono ?_); rintro e w114 ⟨rfl, hs0, hb, hkp⟩; refine ⟨_, rfl, ?_⟩; replace HOp1 := Aside0.mk (Kd.S_kept HOp1.out hkp (fun k_ (hk_ : w102.heap.size ≤ k_ ∧ k_ < w103.heap.size) (hs_ : w105.heap.size ≤ k_ ∧ k_ < w106.heap.size) => by have := HZ1.out; have := HZ2.out; have := HZ3.out; have := HZ4.out; have := HZ5.out; have := HZ6.out; have := HZ7.out; have := HZ8.out; have := HZ9.out; have := HZ10.out; have := HZ11.out; have := HZ12.out; have := HZ13.out; omega)); replace HOp2 := Aside0.mk (Kd.S_kept HOp2.out hkp (fun k_ (hk_ : w103.heap.size ≤ k_ ∧ k_ < w104.heap.size) (hs_ : w105.heap.size ≤ k_ ∧ k_ < w106.heap.size) => by have := HZ1.out; have := HZ2.out; have := HZ3.out; have := HZ4.out; have := HZ5.out; have := HZ6.out; have := HZ7.out; have := HZ8.out; have := HZ9.out; have := HZ10.out; have := HZ11.out; have := HZ12.out; have := HZ13.out; omega)); replace HOv := Aside0.mk (Kd.S_kept HOv.out hkp (fun k_ (hk_ : w104.heap.size ≤ k_ ∧ k_ < w105.heap.size) (hs_ : w105.heap.size ≤ k_ ∧ k_ < w106.heap.size) => by have := HZ1.out; have := HZ2.out; have := HZ3.out; have := HZ4.out; have := HZ5.out; have := HZ6.out; have := HZ7.out; have := HZ8.out; have := HZ9.out; have := HZ10.out; have := HZ11.out; have := HZ12.out; have := HZ13.out; omega)); replace HOx2 := Aside0.mk (Kd.S_kept HOx2.out hkp (fun k_ (hk_ : w106.heap.size ≤ k_ ∧ k_ < w107.heap.size) (hs_ : w105.heap.size ≤ k_ ∧ k_ < w106.heap.size) => by have := HZ1.out; have := HZ2.out; have := HZ3.out; have := HZ4.out; have := HZ5.out; have := HZ6.out; have := HZ7.out; have := HZ8.out; have := HZ9.out; have := HZ10.out; have := HZ11.out; have := HZ12.out; have := HZ13.out; omega)); replace HOg := Aside0.mk (Kd.S_kept HOg.out hkp (fun k_ (hk_ : w107.heap.size ≤ k_ ∧ k_ < w108.heap.size) (hs_ : w105.heap.size ≤ k_ ∧ k_ < w106.heap.size) => by have := HZ1.out; have := HZ2.out; have := HZ3.out; have := HZ4.out; have := HZ5.out; have := HZ6.out; have := HZ7.out; have := HZ8.out; have := HZ9.out; have := HZ10.out; have := HZ11.out; have := HZ12.out; have := HZ13.out; omega)); replace HOs1 := Aside0.mk (Kd.S_kept HOs1.out hkp (fun k_ (hk_ : w109.heap.size ≤ k_ ∧ k_ < w110.heap.size) (hs_ : w105.heap.size ≤ k_ ∧ k_ < w106.heap.size) => by have := HZ1.out; have := HZ2.out; have := HZ3.out; have := HZ4.out; have := HZ5.out; have := HZ6.out; have := HZ7.out; have := HZ8.out; have := HZ9.out; have := HZ10.out; have := HZ11.out; have := HZ12.out; have := HZ13.out; omega)); replace HOs2 := Aside0.mk (Kd.S_kept HOs2.out hkp (fun k_ (hk_ : w111.heap.size ≤ k_ ∧ k_ < w112.heap.size) (hs_ : w105.heap.size ≤ k_ ∧ k_ < w106.heap.size) => by have := HZ1.out; have := HZ2.out; have := HZ3.out; have := HZ4.out; have := HZ5.out; have := HZ6.out; have := HZ7.out; have := HZ8.out; have := HZ9.out; have := HZ10.out; have := HZ11.out; have := HZ12.out; have := HZ13.out; omega)); clear HOx1; have HZ14 := Aside0.mk (show w113.heap.size ≤ w114.heap.size from hkp.1); replace HB := Aside0.mk hb; clear hs0 hb hkp) | ((with_reducible refine gate_dst (N := 55) rfl ?_); refine goesL_ (some 55) rfl rfl Try.func19 (by kernel_rfl) rfl #[.slice Ax2 x2.length cx2, .int .i64 m1] rfl (by (try simp only [List.map_toArray, List.map_cons, List.map_nil]); first | done | rfl) ?_; (with_reducible refine (laws_markIntSS.calls k (fun k_ => w106.heap.size ≤ k_ ∧ k_ < w107.heap.size) _ x2 m1 n1 n2 w _ HB.out HOx2.out H14.out).mono ?_); rintro e w115 ⟨rfl, hs0, hb, hkp⟩; refine ⟨_, rfl, ?_⟩; replace HOp1 := Aside0.mk (Kd.S_kept HOp1.out hkp (fun k_ (hk_ : w102.heap.size ≤ k_ ∧ k_ < w103.heap.size) (hs_ : w106.heap.size ≤ k_ ∧ k_ < w107.heap.size) => by have := HZ1.out; have := HZ2.out; have := HZ3.out; have := HZ4.out; have := HZ5.out; have := HZ6.out; have := HZ7.out; have := HZ8.out; have := HZ9.out; have := HZ10.out; have := HZ11.out; have := HZ12.out; have := HZ13.out; have := HZ14.out; omega)); replace HOp2 := Aside0.mk (Kd.S_kept HOp2.out hkp (fun k_ (hk_ : w103.heap.size ≤ k_ ∧ k_ < w104.heap.size) (hs_ : w106.heap.size ≤ k_ ∧ k_ < w107.heap.size) => by have := HZ1.out; have := HZ2.out; have := HZ3.out; have := HZ4.out; have := HZ5.out; have := HZ6.out; have := HZ7.out; have := HZ8.out; have := HZ9.out; have := HZ10.out; have := HZ11.out; have := HZ12.out; have := HZ13.out; have := HZ14.out; omega)); replace HOv := Aside0.mk (Kd.S_kept HOv.out hkp (fun k_ (hk_ : w104.heap.size ≤ k_ ∧ k_ < w105.heap.size) (hs_ : w106.heap.size ≤ k_ ∧ k_ < w107.heap.size) => by have := HZ1.out; have := HZ2.out; have := HZ3.out; have := HZ4.out; have := HZ5.out; have := HZ6.out; have := HZ7.out; have := HZ8.out; have := HZ9.out; have := HZ10.out; have := HZ11.out; have := HZ12.out; have := HZ13.out; have := HZ14.out; omega)); replace HOg := Aside0.mk (Kd.S_kept HOg.out hkp (fun k_ (hk_ : w107.heap.size ≤ k_ ∧ k_ < w108.heap.size) (hs_ : w106.heap.size ≤ k_ ∧ k_ < w107.heap.size) => by have := HZ1.out; have := HZ2.out; have := HZ3.out; have := HZ4.out; have := HZ5.out; have := HZ6.out; have := HZ7.out; have := HZ8.out; have := HZ9.out; have := HZ10.out; have := HZ11.out; have := HZ12.out; have := HZ13.out; have := HZ14.out; omega)); replace HOs1 := Aside0.mk (Kd.S_kept HOs1.out hkp (fun k_ (hk_ : w109.heap.size ≤ k_ ∧ k_ < w110.heap.size) (hs_ : w106.heap.size ≤ k_ ∧ k_ < w107.heap.size) => by have := HZ1.out; have := HZ2.out; have := HZ3.out; have := HZ4.out; have := HZ5.out; have := HZ6.out; have := HZ7.out; have := HZ8.out; have := HZ9.out; have := HZ10.out; have := HZ11.out; have := HZ12.out; have := HZ13.out; have := HZ14.out; omega)); replace HOs2 := Aside0.mk (Kd.S_kept HOs2.out hkp (fun k_ (hk_ : w111.heap.size ≤ k_ ∧ k_ < w112.heap.size) (hs_ : w106.heap.size ≤ k_ ∧ k_ < w107.heap.size) => by have := HZ1.out; have := HZ2.out; have := HZ3.out; have := HZ4.out; have := HZ5.out; have := HZ6.out; have := HZ7.out; have := HZ8.out; have := HZ9.out; have := HZ10.out; have := HZ11.out; have := HZ12.out; have := HZ13.out; have := HZ14.out; omega)); clear HOx2; have HZ15 := Aside0.mk (show w114.heap.size ≤ w115.heap.size from hkp.1); replace HB := Aside0.mk hb; clear hs0 hb hkp) | (go_at_call 18; (with_reducible refine (laws_eqIntSS.calls k _ _ g _ _ v true _ (Kd.S_reads' HOg.out).2.2 (Kd.S_reads' HOg.out).2.1 (Kd.S_reads' HOv.out).2.2 (Kd.S_reads' HOv.out).2.1 H8.out).mono ?_); rintro e w116 ⟨rfl, hd_⟩; have hb := hd_.below; clear hd_; replace HOp1 := Aside0.mk (Kd.S_below HOp1.out hb); replace HOp2 := Aside0.mk (Kd.S_below HOp2.out hb); replace HOv := Aside0.mk (Kd.S_below HOv.out hb); replace HOg := Aside0.mk (Kd.S_below HOg.out hb); replace HOs1 := Aside0.mk (Kd.S_below HOs1.out hb); replace HOs2 := Aside0.mk (Kd.S_below HOs2.out hb); replace HB := Aside0.mk (below_step HB.out hb); have HZ16 := Aside0.mk (show w115.heap.size ≤ w116.heap.size from hb.size); clear hb) | ((with_reducible refine gate_dst (N := 66) rfl ?_); refine goesL_ (some 66) rfl rfl Try.func19 (by kernel_rfl) rfl #[.slice Ag g.length cg, .int .i64 1] rfl (by (try simp only [List.map_toArray, List.map_cons, List.map_nil]); first | done | rfl) ?_; (with_reducible refine (laws_markIntSS.calls k (fun k_ => w107.heap.size ≤ k_ ∧ k_ < w108.heap.size) _ g 1 t q2 w _ HB.out HOg.out H15.out).mono ?_); rintro e w117 ⟨rfl, hs0, hb, hkp⟩; refine ⟨_, rfl, ?_⟩; replace HOp1 := Aside0.mk (Kd.S_kept HOp1.out hkp (fun k_ (hk_ : w102.heap.size ≤ k_ ∧ k_ < w103.heap.size) (hs_ : w107.heap.size ≤ k_ ∧ k_ < w108.heap.size) => by have := HZ1.out; have := HZ2.out; have := HZ3.out; have := HZ4.out; have := HZ5.out; have := HZ6.out; have := HZ7.out; have := HZ8.out; have := HZ9.out; have := HZ10.out; have := HZ11.out; have := HZ12.out; have := HZ13.out; have := HZ14.out; have := HZ15.out; have := HZ16.out; omega)); replace HOp2 := Aside0.mk (Kd.S_kept HOp2.out hkp (fun k_ (hk_ : w103.heap.size ≤ k_ ∧ k_ < w104.heap.size) (hs_ : w107.heap.size ≤ k_ ∧ k_ < w108.heap.size) => by have := HZ1.out; have := HZ2.out; have := HZ3.out; have := HZ4.out; have := HZ5.out; have := HZ6.out; have := HZ7.out; have := HZ8.out; have := HZ9.out; have := HZ10.out; have := HZ11.out; have := HZ12.out; have := HZ13.out; have := HZ14.out; have := HZ15.out; have := HZ16.out; omega)); replace HOv := Aside0.mk (Kd.S_kept HOv.out hkp (fun k_ (hk_ : w104.heap.size ≤ k_ ∧ k_ < w105.heap.size) (hs_ : w107.heap.size ≤ k_ ∧ k_ < w108.heap.size) => by have := HZ1.out; have := HZ2.out; have := HZ3.out; have := HZ4.out; have := HZ5.out; have := HZ6.out; have := HZ7.out; have := HZ8.out; have := HZ9.out; have := HZ10.out; have := HZ11.out; have := HZ12.out; have := HZ13.out; have := HZ14.out; have := HZ15.out; have := HZ16.out; omega)); replace HOs1 := Aside0.mk (Kd.S_kept HOs1.out hkp (fun k_ (hk_ : w109.heap.size ≤ k_ ∧ k_ < w110.heap.size) (hs_ : w107.heap.size ≤ k_ ∧ k_ < w108.heap.size) => by have := HZ1.out; have := HZ2.out; have := HZ3.out; have := HZ4.out; have := HZ5.out; have := HZ6.out; have := HZ7.out; have := HZ8.out; have := HZ9.out; have := HZ10.out; have := HZ11.out; have := HZ12.out; have := HZ13.out; have := HZ14.out; have := HZ15.out; have := HZ16.out; omega)); replace HOs2 := Aside0.mk (Kd.S_kept HOs2.out hkp (fun k_ (hk_ : w111.heap.size ≤ k_ ∧ k_ < w112.heap.size) (hs_ : w107.heap.size ≤ k_ ∧ k_ < w108.heap.size) => by have := HZ1.out; have := HZ2.out; have := HZ3.out; have := HZ4.out; have := HZ5.out; have := HZ6.out; have := HZ7.out; have := HZ8.out; have := HZ9.out; have := HZ10.out; have := HZ11.out; have := HZ12.out; have := HZ13.out; have := HZ14.out; have := HZ15.out; have := HZ16.out; omega)); replace HOg := Aside0.mk hs0; have HLg := Aside0.mk (Kd.S_reads' HOg.out).1; have HZ17 := Aside0.mk (show w116.heap.size ≤ w117.heap.size from hkp.1); replace HB := Aside0.mk hb; clear hs0 hb hkp) | ((with_reducible refine gate_dst (N := 69) rfl ?_); refine goesL_ (some 69) rfl rfl Try.func20 (by kernel_rfl) rfl #[.slice Ag g.length cg, .int .i64 1] rfl (by (try simp only [List.map_toArray, List.map_cons, List.map_nil]); first | done | rfl) ?_; (with_reducible refine (calls_of_args (args' := #[.slice Ag q2.length cg, .int .i64 1]) (by rw [HLg.out]) (laws_heldIntSS.calls k _ _ q2 1 t _ (Kd.S_reads' HOg.out).2.2 (by have h1_ := HLg.out; have h2_ := (Kd.S_reads' HOg.out).2.1; omega) H16.out)).mono ?_); rintro e w118 ⟨rfl, hd_⟩; refine ⟨_, rfl, ?_⟩; have hb := hd_.below; clear hd_; replace HOp1 := Aside0.mk (Kd.S_below HOp1.out hb); replace HOp2 := Aside0.mk (Kd.S_below HOp2.out hb); replace HOv := Aside0.mk (Kd.S_below HOv.out hb); replace HOg := Aside0.mk (Kd.S_below HOg.out hb); replace HOs1 := Aside0.mk (Kd.S_below HOs1.out hb); replace HOs2 := Aside0.mk (Kd.S_below HOs2.out hb); replace HB := Aside0.mk (below_step HB.out hb); have HZ18 := Aside0.mk (show w117.heap.size ≤ w118.heap.size from hb.size); clear hb) | ((with_reducible refine gate_dst (N := 76) rfl ?_); refine goesL_ (some 76) rfl rfl Try.func16 (by kernel_rfl) rfl #[.slice A0 l0.length c0] rfl (by (try simp only [List.map_toArray, List.map_cons, List.map_nil]); first | done | rfl) ?_; (with_reducible refine (laws_toIntSS.calls k _ _ l0 u1 _ (Kd.C_below HR0.out HB.out) HC0.out H17.out).mono ?_); rintro e w119 ⟨vu1, rfl, ho0, hb⟩; refine ⟨_, rfl, ?_⟩; have Nu1 := Aside0.mk (Kd.S_lower (Kd.S_mono (ok' := fun k_ => w118.heap.size ≤ k_ ∧ k_ < w119.heap.size) (Kd.S_bound ho0) (fun _ hk => ⟨hk.2.1, hk.2.2.1⟩)) (below_size HB.out)); replace HOp1 := Aside0.mk (Kd.S_below HOp1.out hb); replace HOp2 := Aside0.mk (Kd.S_below HOp2.out hb); replace HOv := Aside0.mk (Kd.S_below HOv.out hb); replace HOg := Aside0.mk (Kd.S_below HOg.out hb); replace HOs1 := Aside0.mk (Kd.S_below HOs1.out hb); replace HOs2 := Aside0.mk (Kd.S_below HOs2.out hb); replace HB := Aside0.mk (below_step HB.out hb); have HZ19 := Aside0.mk (show w118.heap.size ≤ w119.heap.size from hb.size); have HOu1 := Nu1; clear Nu1 ho0 hb; obtain ⟨Au1, cu1, e_⟩ := Kd.S_slice HOu1.out; subst e_) | ((with_reducible refine gate_dst (N := 78) rfl ?_); refine goesL_ (some 78) rfl rfl Try.func16 (by kernel_rfl) rfl #[.slice A1 l1.length c1] rfl (by (try simp only [List.map_toArray, List.map_cons, List.map_nil]); first | done | rfl) ?_; (with_reducible refine (laws_toIntSS.calls k _ _ l1 u2 _ (Kd.C_below HR1.out HB.out) HC1.out H18.out).mono ?_); rintro e w120 ⟨vu2, rfl, ho0, hb⟩; refine ⟨_, rfl, ?_⟩; have Nu2 := Aside0.mk (Kd.S_lower (Kd.S_mono (ok' := fun k_ => w119.heap.size ≤ k_ ∧ k_ < w120.heap.size) (Kd.S_bound ho0) (fun _ hk => ⟨hk.2.1, hk.2.2.1⟩)) (below_size HB.out)); replace HOp1 := Aside0.mk (Kd.S_below HOp1.out hb); replace HOp2 := Aside0.mk (Kd.S_below HOp2.out hb); replace HOv := Aside0.mk (Kd.S_below HOv.out hb); replace HOg := Aside0.mk (Kd.S_below HOg.out hb); replace HOs1 := Aside0.mk (Kd.S_below HOs1.out hb); replace HOs2 := Aside0.mk (Kd.S_below HOs2.out hb); replace HOu1 := Aside0.mk (Kd.S_below HOu1.out hb); replace HB := Aside0.mk (below_step HB.out hb); have HZ20 := Aside0.mk (show w119.heap.size ≤ w120.heap.size from hb.size); have HOu2 := Nu2; clear Nu2 ho0 hb; obtain ⟨Au2, cu2, e_⟩ := Kd.S_slice HOu2.out; subst e_) | ((with_reducible refine gate_dst (N := 79) rfl ?_); refine goesL_ (some 79) rfl rfl Try.func22 (by kernel_rfl) rfl #[.slice Au1 u1.length cu1, .slice Au2 u2.length cu2] rfl (by (try simp only [List.map_toArray, List.map_cons, List.map_nil]); first | done | rfl) ?_; (with_reducible refine (impl_AddTables.calls k _ _ u1 _ _ u2 hh _ (Kd.S_reads' HOu1.out).2.2 (Kd.S_reads' HOu1.out).2.1 (Kd.S_reads' HOu2.out).2.2 (Kd.S_reads' HOu2.out).2.1 H19.out).mono ?_); rintro e w121 ⟨vhh, rfl, ho0, hb⟩; refine ⟨_, rfl, ?_⟩; have Nhh := Aside0.mk (Kd.S_lower (Kd.S_mono (ok' := fun k_ => w120.heap.size ≤ k_ ∧ k_ < w121.heap.size) (Kd.S_bound ho0) (fun _ hk => ⟨hk.2.1, hk.2.2.1⟩)) (below_size HB.out)); replace HOp1 := Aside0.mk (Kd.S_below HOp1.out hb); replace HOp2 := Aside0.mk (Kd.S_below HOp2.out hb); replace HOv := Aside0.mk (Kd.S_below HOv.out hb); replace HOg := Aside0.mk (Kd.S_below HOg.out hb); replace HOs1 := Aside0.mk (Kd.S_below HOs1.out hb); replace HOs2 := Aside0.mk (Kd.S_below HOs2.out hb); replace HOu1 := Aside0.mk (Kd.S_below HOu1.out hb); replace HOu2 := Aside0.mk (Kd.S_below HOu2.out hb); replace HB := Aside0.mk (below_step HB.out hb); have HZ21 := Aside0.mk (show w120.heap.size ≤ w121.heap.size from hb.size); have HOhh := Nhh; clear Nhh ho0 hb; obtain ⟨Ahh, chh, e_⟩ := Kd.S_slice HOhh.out; subst e_) | ((with_reducible refine gate_dst (N := 82) rfl ?_); refine goesL_ (some 82) rfl rfl Try.func18 (by kernel_rfl) rfl #[.slice Ahh hh.length chh, .slice Av v.length cv] rfl (by (try simp only [List.map_toArray, List.map_cons, List.map_nil]); first | done | rfl) ?_; (with_reducible refine (laws_eqIntSS.calls k _ _ hh _ _ v true _ (Kd.S_reads' HOhh.out).2.2 (Kd.S_reads' HOhh.out).2.1 (Kd.S_reads' HOv.out).2.2 (Kd.S_reads' HOv.out).2.1 H20.out).mono ?_); rintro e w122 ⟨rfl, hd_⟩; refine ⟨_, rfl, ?_⟩; have hb := hd_.below; clear hd_; replace HOp1 := Aside0.mk (Kd.S_below HOp1.out hb); replace HOp2 := Aside0.mk (Kd.S_below HOp2.out hb); replace HOv := Aside0.mk (Kd.S_below HOv.out hb); replace HOg := Aside0.mk (Kd.S_below HOg.out hb); replace HOs1 := Aside0.mk (Kd.S_below HOs1.out hb); replace HOs2 := Aside0.mk (Kd.S_below HOs2.out hb); replace HOu1 := Aside0.mk (Kd.S_below HOu1.out hb); replace HOu2 := Aside0.mk (Kd.S_below HOu2.out hb); replace HOhh := Aside0.mk (Kd.S_below HOhh.out hb); replace HB := Aside0.mk (below_step HB.out hb); have HZ22 := Aside0.mk (show w121.heap.size ≤ w122.heap.size from hb.size); clear hb) | ((with_reducible refine gate_dst (N := 86) rfl ?_); refine goesL_ (some 86) rfl rfl Try.func20 (by kernel_rfl) rfl #[.slice Ag g.length cg, .int .i64 1] rfl (by (try simp only [List.map_toArray, List.map_cons, List.map_nil]); first | done | rfl) ?_; (with_reducible refine (calls_of_args (args' := #[.slice Ag q2.length cg, .int .i64 1]) (by rw [HLg.out]) (laws_heldIntSS.calls k _ _ q2 1 t _ (Kd.S_reads' HOg.out).2.2 (by have h1_ := HLg.out; have h2_ := (Kd.S_reads' HOg.out).2.1; omega) H16.out)).mono ?_); rintro e w123 ⟨rfl, hd_⟩; refine ⟨_, rfl, ?_⟩; have hb := hd_.below; clear hd_; replace HOp1 := Aside0.mk (Kd.S_below HOp1.out hb); replace HOp2 := Aside0.mk (Kd.S_below HOp2.out hb); replace HOv := Aside0.mk (Kd.S_below HOv.out hb); replace HOg := Aside0.mk (Kd.S_below HOg.out hb); replace HOs1 := Aside0.mk (Kd.S_below HOs1.out hb); replace HOs2 := Aside0.mk (Kd.S_below HOs2.out hb); replace HOu1 := Aside0.mk (Kd.S_below HOu1.out hb); replace HOu2 := Aside0.mk (Kd.S_below HOu2.out hb); replace HOhh := Aside0.mk (Kd.S_below HOhh.out hb); replace HB := Aside0.mk (below_step HB.out hb); have HZ23 := Aside0.mk (show w122.heap.size ≤ w123.heap.size from hb.size); clear hb))
  go_ret
  exact ⟨rfl, HB.out⟩
end Go.Proofs.Ytbjnkcfkhonkhaa.Pr
end
section
namespace Go.Proofs.Ytbjnkcfkhonkhaa.Gen
open Go.RowKit Go.Proofs.YtbjnkcfkhonkhaaW.PrintWords Go.Proofs.YtbjnkcfkhonkhaaW.PrintMore
theorem w64 {i : Int} (h0 : -9223372036854775808 ≤ i) (h1 : i ≤ 9223372036854775807) : wrap64 i = i := by
 unfold wrap64
 omega
theorem w64s (i : Nat) (h1 : i < 9223372036854775807) : wrap64 ((i : Int) + 1) = ((i + 1 : Nat) : Int) := by
 unfold wrap64
 omega
theorem rd_nat (xs : List Int) (i : Nat) : rd xs (i : Int) = xs.getD i 0 := rfl
theorem count_loop {σ γ : Type} (L : Nat → σ → Int → Option γ) (n : Nat) (step : Nat → σ → σ) (P : Nat → σ → Prop) (K : Nat)
  (hstep : ∀ k i s, K ≤ k → i < n → P i s → L (k + 1) s (i : Int) = L k (step i s) ((i + 1 : Nat) : Int) ∧ P (i + 1) (step i s)) :
  ∀ (d i : Nat) (s : σ) (k : Nat), i + d = n → K + d ≤ k → P i s → ∃ s', L k s (i : Int) = L (k - d) s' (n : Int) ∧ P n s' ∧ s' = (List.range' i d).foldl (fun s j => step j s) s := by
 intro d
 induction d with
 | zero =>
  intro i s k hi hk hP
  obtain rfl : i = n := by omega
  exact ⟨s, by simp, hP, by simp⟩
 | succ d ih =>
  intro i s k hi hk hP
  obtain ⟨k, rfl⟩ : ∃ m, k = m + 1 := ⟨k - 1, by omega⟩
  obtain ⟨h1, h2⟩ := hstep k i s (by omega) (by omega) hP
  obtain ⟨s', h3, h4, h5⟩ := ih (i + 1) (step i s) k (by omega) (by omega) h2
  refine ⟨s', ?_, h4, ?_⟩
  ·rw [h1, h3]
   congr 1
   omega
  ·rw [h5, List.range'_succ]
   rfl
theorem fill_loop {β γ : Type} (L : Nat → List β → Int → Option γ) (f : Nat → β) (K n : Nat)
  (hstep : ∀ k i ys, K ≤ k → i < n → ys.length = n → L (k + 1) ys (i : Int) = L k (ys.set i (f i)) ((i + 1 : Nat) : Int))
  (ys : List β) (hy : ys.length = n) (k : Nat) (hk : K + n ≤ k) : L k ys 0 = L (k - n) ((List.range n).map f) (n : Int) := by
 obtain ⟨s', h1, h2, _⟩ := count_loop L n (fun i s => s.set i (f i)) (fun i s => s.length = n ∧ ∀ j, j < i → s[j]? = some (f j)) K
  (fun k i s hK hi hP => ⟨hstep k i s hK hi hP.1, by simpa using hP.1, fun j hj => by
   rw [List.getElem?_set]
   by_cases e : i = j
   ·subst e
    rw [if_pos rfl, if_pos (by omega)]
   ·rw [if_neg e]
    exact hP.2 j (by omega)⟩) n 0 ys k (by omega) hk ⟨hy, fun j hj => by omega⟩
 refine h1.trans ?_
 congr 1
 apply List.ext_getElem?
 intro j
 by_cases hj : j < n
 ·rw [h2.2 j hj]
  simp [hj]
 ·rw [List.getElem?_eq_none (by omega), List.getElem?_eq_none (by simp; omega)]
theorem map_getD {α β : Type} (xs : List α) (d : α) (g : α → β) : (List.range xs.length).map (fun i => g (xs.getD i d)) = xs.map g := by
 apply List.ext_getElem?
 intro j
 by_cases hj : j < xs.length
 ·simp [hj, List.getD]
 ·simp [hj]
theorem map_getD' {α : Type} (xs : List α) (d : α) : (List.range xs.length).map (fun i => xs.getD i d) = xs := by
 have := map_getD xs d id
 simpa using this
theorem all_loop (L : Nat → Int → Option Bool) (n : Nat) (p : Nat → Bool) (K : Nat) (last : Bool)
  (hstep : ∀ k i, K ≤ k → i < n → L (k + 1) (i : Int) = if p i = true then L k ((i + 1 : Nat) : Int) else some false)
  (hend : ∀ k, K ≤ k → L (k + 1) (n : Int) = some last) :
  ∀ (d i k : Nat), i + d = n → K + d < k → L k (i : Int) = some ((List.range' i d).all p && last) := by
 intro d
 induction d with
 | zero =>
  intro i k hi hk
  obtain rfl : i = n := by omega
  obtain ⟨k, rfl⟩ : ∃ m, k = m + 1 := ⟨k - 1, by omega⟩
  simp [hend k (by omega)]
 | succ d ih =>
  intro i k hi hk
  obtain ⟨k, rfl⟩ : ∃ m, k = m + 1 := ⟨k - 1, by omega⟩
  rw [hstep k i (by omega) (by omega), List.range'_succ]
  by_cases h : p i = true
  ·rw [if_pos h, ih (i + 1) k (by omega) (by omega)]
   simp [h]
  ·rw [if_neg h]
   simp [h]
theorem ev_loop {σ γ : Type} (L : Nat → σ → Int → Option γ) (n : Nat) (step : Nat → σ → σ) (P : Nat → σ → Prop) (r : γ)
  (hround : ∀ i s, i < n → P i s → P (i + 1) (step i s) ∧ (Ev (fun k => L k (step i s) ((i + 1 : Nat) : Int)) r → Ev (fun k => L k s (i : Int)) r)) :
  ∀ (d i : Nat) (s : σ), i + d = n → P i s → (P n ((List.range' i d).foldl (fun s j => step j s) s) → Ev (fun k => L k ((List.range' i d).foldl (fun s j => step j s) s) (n : Int)) r) → Ev (fun k => L k s (i : Int)) r := by
 intro d
 induction d with
 | zero =>
  intro i s hi hP h
  obtain rfl : i = n := by omega
  exact h (by simpa using hP)
 | succ d ih =>
  intro i s hi hP h
  obtain ⟨h1, h2⟩ := hround i s (by omega) hP
  refine h2 (ih (i + 1) (step i s) (by omega) h1 ?_)
  rw [List.range'_succ] at h
  exact h
theorem ev_at {γ : Type} {g : Nat → Option γ} {r : γ} (K : Nat) (h : ∀ k, K ≤ k → g k = some r) : Ev g r := ⟨K, h⟩
theorem all_yes (l : List Nat) : (l.all fun _ => true) = true := List.all_eq_true.2 (fun _ _ => rfl)
end Go.Proofs.Ytbjnkcfkhonkhaa.Gen
end
section
namespace Go.Proofs.Ytbjnkcfkhonkhaa.Base
open Go.RowKit Go.Proofs.Ytbjnkcfkhonkhaa.Pr Go.Proofs.YtbjnkcfkhonkhaaW.PrintWords Go.Proofs.YtbjnkcfkhonkhaaW.PrintLast Go.Proofs.YtbjnkcfkhonkhaaW.PrintMore
theorem toIntS (xs : List Int) (hn : xs.length ≤ 1048576) (k : Nat) (hk : xs.length < k) : laws_toIntS.f k xs = some xs := by
 unfold laws_toIntS.f
 rw [if_pos (by omega), if_pos (by omega)]
 rw [Gen.fill_loop (fun k ys i => laws_toIntS.l0 k xs ys i) (fun i => xs.getD i 0) 0 xs.length (fun k i ys _ hi hy => by
  simp only [laws_toIntS.l0]
  rw [if_pos (by omega), if_pos (by omega), if_pos (by omega), Gen.w64s i (by omega), Gen.rd_nat]
  simp) _ (by simp) k (by omega), Gen.map_getD']
 obtain ⟨m, hm⟩ : ∃ m, k - xs.length = m + 1 := ⟨k - xs.length - 1, by omega⟩
 rw [hm]
 simp only [laws_toIntS.l0]
 rw [if_neg (by omega)]
end Go.Proofs.Ytbjnkcfkhonkhaa.Base
end
section
namespace Go.Proofs.Ytbjnkcfkhonkhaa.Base
open Go.RowKit Go.Proofs.Ytbjnkcfkhonkhaa.Pr Go.Proofs.YtbjnkcfkhonkhaaW.PrintWords Go.Proofs.YtbjnkcfkhonkhaaW.PrintLast Go.Proofs.YtbjnkcfkhonkhaaW.PrintMore
theorem rdL (xs : List (List Int)) (i : Nat) : rd_L1 xs (i : Int) = xs.getD i [] := rfl
def Small (xs : List (List Int)) : Prop := xs.length ≤ 1048576 ∧ ∀ x ∈ xs, x.length ≤ 1048576
theorem Small.at_ {xs : List (List Int)} (h : Small xs) (i : Nat) : (xs.getD i []).length ≤ 1048576 := by
 by_cases hi : i < xs.length
 ·have := h.2 (xs[i]) (List.getElem_mem hi)
  simpa [List.getD, hi] using this
 ·simp [List.getD, hi]
theorem toIntSS (xs : List (List Int)) (h : Small xs) : Ev (fun k => laws_toIntSS.f k xs) xs := by
 have hn := h.1
 refine Gen.ev_at (1048577 + xs.length + 1) (fun k hk => ?_)
 unfold laws_toIntSS.f
 rw [if_pos (by omega), if_pos (by omega)]
 rw [Gen.fill_loop (fun k ys i => laws_toIntSS.l0 k xs ys i) (fun i => xs.getD i []) 1048577 xs.length (fun k i ys hK hi hy => by
  simp only [laws_toIntSS.l0]
  rw [if_pos (by omega), if_pos (by omega), rdL, toIntS _ (h.at_ i) k (by have := h.at_ i; omega)]
  simp only [Option.bind_some]
  rw [if_pos (by omega), Gen.w64s i (by omega)]
  rfl) _ (by simp) k (by omega), Gen.map_getD']
 obtain ⟨m, hm⟩ : ∃ m, k - xs.length = m + 1 := ⟨k - xs.length - 1, by omega⟩
 rw [hm]
 simp only [laws_toIntSS.l0]
 rw [if_neg (by omega)]
end Go.Proofs.Ytbjnkcfkhonkhaa.Base
end
section
namespace Go.Proofs.Ytbjnkcfkhonkhaa.Base
open Go.RowKit Go.Proofs.Ytbjnkcfkhonkhaa.Pr Go.Proofs.YtbjnkcfkhonkhaaW.PrintWords Go.Proofs.YtbjnkcfkhonkhaaW.PrintLast Go.Proofs.YtbjnkcfkhonkhaaW.PrintMore
def marks (a : Int) (n : Nat) : List Int := (List.range n).map fun i : Nat => a + (i : Int)
theorem marks_length (a : Int) (n : Nat) : (marks a n).length = n := by simp [marks]
end Go.Proofs.Ytbjnkcfkhonkhaa.Base
end
section
namespace Go.Proofs.Ytbjnkcfkhonkhaa.Base
open Go.RowKit Go.Proofs.Ytbjnkcfkhonkhaa.Pr Go.Proofs.YtbjnkcfkhonkhaaW.PrintWords Go.Proofs.YtbjnkcfkhonkhaaW.PrintLast Go.Proofs.YtbjnkcfkhonkhaaW.PrintMore
theorem eqIntSB (xs : List Int) (hn : xs.length ≤ 2097152) : Ev (fun k => laws_eqIntS.f k xs xs) true := by
 refine Gen.ev_at (xs.length + 1) (fun k hk => ?_)
 unfold laws_eqIntS.f
 rw [if_pos rfl]
 have := Gen.all_loop (fun k i => laws_eqIntS.l0 k xs xs i) xs.length (fun _ => true) 0 true (fun k i _ hi => by
  simp only [laws_eqIntS.l0]
  rw [if_pos (by omega), if_pos (by omega), if_pos (by omega), if_pos (by trivial), Gen.w64s i (by omega), if_pos (by trivial)]) (fun k _ => by
  simp only [laws_eqIntS.l0]
  rw [if_neg (by omega)]) xs.length 0 k (by omega) (by omega)
 simpa [Gen.all_yes] using this
def Mid (xs : List (List Int)) : Prop := xs.length ≤ 2097152 ∧ ∀ x ∈ xs, x.length ≤ 2097152
theorem Small.mid {xs : List (List Int)} (h : Small xs) : Mid xs := ⟨by have := h.1; omega, fun x hx => by have := h.2 x hx; omega⟩
theorem mid_at (ds rs : List (List Int)) (x : List Int) : (ds ++ x :: rs).getD ds.length [] = x := by simp [List.getD]
theorem eqIntSSB (xs : List (List Int)) (h : Mid xs) : Ev (fun k => laws_eqIntSS.f k xs xs) true := by
 have hn := h.1
 unfold laws_eqIntSS.f
 simp only [if_true]
 have key : ∀ (rs ds : List (List Int)), ds ++ rs = xs → Ev (fun k => laws_eqIntSS.l0 k xs xs (ds.length : Int)) true := by
  intro rs
  induction rs with
  | nil =>
   intro ds e
   refine Gen.ev_at 1 (fun k hk => ?_)
   obtain ⟨q, rfl⟩ : ∃ q, k = q + 1 := ⟨k - 1, by omega⟩
   have e' : ds.length = xs.length := by rw [← e]; simp
   simp only [laws_eqIntSS.l0]
   rw [if_neg (by omega)]
  | cons x rs ih =>
   intro ds e
   have hl : ds.length < xs.length := by rw [← e]; simp
   have hx : x.length ≤ 2097152 := h.2 x (by rw [← e]; simp)
   have hr : rd_L1 xs (ds.length : Int) = x := by rw [rdL, ← e]; exact mid_at ds rs x
   have := ih (ds ++ [x]) (by rw [← e]; simp)
   refine Ev.step (f := fun k => (laws_eqIntS.f k x x).bind fun t => if t = true then laws_eqIntSS.l0 k xs xs ((ds ++ [x]).length : Int) else some false) (fun k => ?_) ?_
   ·simp only [laws_eqIntSS.l0]
    rw [if_pos (by omega), if_pos (by omega), if_pos (by omega), hr, Gen.w64s ds.length (by omega)]
    simp
   ·refine Ev.bind (eqIntSB x hx) ?_
    simp only [if_true]
    exact this
 exact key xs [] rfl
def marksL : Int → List (List Int) → List (List Int)
 | _, [] => []
 | a, x :: xs => marks a x.length :: marksL (a + (x.length : Int)) xs
def total : List (List Int) → Nat
 | [] => 0
 | x :: xs => x.length + total xs
theorem total_le (xs : List (List Int)) (h : ∀ x ∈ xs, x.length ≤ 2097152) : total xs ≤ xs.length * 2097152 := by
 induction xs with
 | nil => simp [total]
 | cons x xs ih =>
  have := ih fun y hy => h y (by simp [hy])
  have := h x (by simp)
  simp only [total, List.length_cons]
  omega
theorem markIntSB (xs : List Int) (a : Int) (hn : xs.length ≤ 2097152) (h0 : 0 ≤ a) (h1 : a ≤ 2 ^ 60) : Ev (fun k => laws_markIntS.f k xs a) (a + (xs.length : Int), marks a xs.length) := by
 unfold laws_markIntS.f
 refine Gen.ev_loop (fun k (s : List Int × Int) i => laws_markIntS.l0 k s.1 s.2 i) xs.length (fun i s => (s.1.set i s.2, s.2 + 1)) (fun i s => s.2 = a + (i : Int) ∧ s.1.length = xs.length ∧ ∀ j, j < i → s.1[j]? = some (a + (j : Int))) _ (fun i s hi hP => ⟨?_, fun h => Ev.step (fun k => ?_) h⟩) xs.length 0 (xs, a) (by omega) ⟨by simp, rfl, fun j hj => by omega⟩ (fun hP => Gen.ev_at 1 (fun k hk => ?_))
 ·obtain ⟨p1, p2, p3⟩ := hP
  refine ⟨by show s.2 + 1 = _; rw [p1]; push_cast; omega, by simpa using p2, fun j hj => ?_⟩
  show (s.1.set i s.2)[j]? = _
  rw [List.getElem?_set]
  by_cases e : i = j
  ·subst e
   rw [if_pos rfl, if_pos (by omega), p1]
  ·rw [if_neg e]
   exact p3 j (by omega)
 ·obtain ⟨p1, p2, p3⟩ := hP
  simp only [laws_markIntS.l0]
  rw [if_pos (by omega), if_pos (by omega), Gen.w64s i (by omega), Gen.w64 (i := s.2 + 1) (by omega) (by omega)]
  rfl
 ·obtain ⟨q, rfl⟩ : ∃ q, k = q + 1 := ⟨k - 1, by omega⟩
  generalize (List.range' 0 xs.length).foldl (fun (s : List Int × Int) j => (s.1.set j s.2, s.2 + 1)) (xs, a) = s at hP ⊢
  obtain ⟨p1, p2, p3⟩ := hP
  simp only [laws_markIntS.l0]
  rw [if_neg (by omega), p1]
  congr 2
  apply List.ext_getElem?
  intro j
  by_cases hj : j < xs.length
  ·rw [p3 j hj]
   simp [marks, hj]
  ·rw [List.getElem?_eq_none (by omega), List.getElem?_eq_none (by rw [marks_length]; omega)]
theorem heldIntSB (a : Int) (n : Nat) (hn : n ≤ 2097152) (h0 : 0 ≤ a) (h1 : a ≤ 2 ^ 60) : Ev (fun k => laws_heldIntS.f k (marks a n) a) (a + (n : Int)) := by
 unfold laws_heldIntS.f
 refine Gen.ev_loop (fun k (s : Int) i => laws_heldIntS.l0 k (marks a n) s i) n (fun i s => s + 1) (fun i s => s = a + (i : Int)) _ (fun i s hi hP => ⟨?_, fun h => Ev.step (fun k => ?_) h⟩) n 0 a (by omega) (by simp) (fun hP => Gen.ev_at 1 (fun k hk => ?_))
 ·show s + 1 = _
  rw [hP]; push_cast; omega
 ·have hr : rd (marks a n) (i : Int) = s := by
   rw [Gen.rd_nat, hP]
   simp [marks, List.getD, hi]
  simp only [laws_heldIntS.l0]
  rw [if_pos (by rw [marks_length]; omega), if_pos (by omega), if_pos hr, Gen.w64s i (by omega), Gen.w64 (i := s + 1) (by omega) (by omega)]
 ·obtain ⟨q, rfl⟩ : ∃ q, k = q + 1 := ⟨k - 1, by omega⟩
  simp only [laws_heldIntS.l0]
  rw [if_neg (by rw [marks_length]; omega), hP]
theorem markIntSSB (xs : List (List Int)) (a : Int) (h : Mid xs) (h0 : 0 ≤ a) (h1 : a + (total xs : Int) ≤ 2 ^ 60) : Ev (fun k => laws_markIntSS.f k xs a) (a + (total xs : Int), marksL a xs) := by
 have hn := h.1
 unfold laws_markIntSS.f
 have key : ∀ (rs ds : List (List Int)) (a : Int), ds.length + rs.length = xs.length → (∀ x ∈ rs, x.length ≤ 2097152) → 0 ≤ a → a + (total rs : Int) ≤ 2 ^ 60 → Ev (fun k => laws_markIntSS.l0 k (ds ++ rs) a (ds.length : Int)) (a + (total rs : Int), ds ++ marksL a rs) := by
  intro rs
  induction rs with
  | nil =>
   intro ds a e _ _ _
   refine Gen.ev_at 1 (fun k hk => ?_)
   obtain ⟨q, rfl⟩ : ∃ q, k = q + 1 := ⟨k - 1, by omega⟩
   simp only [laws_markIntSS.l0]
   rw [if_neg (by simp)]
   simp [total, marksL]
  | cons x rs ih =>
   intro ds a e hx h0 h1
   simp only [List.length_cons] at e
   simp only [total] at h1
   have hxl : x.length ≤ 2097152 := hx x (by simp)
   have hr : laws_markIntSS.rdLL (ds ++ x :: rs) (ds.length : Int) = x := mid_at ds rs x
   have := ih (ds ++ [marks a x.length]) (a + (x.length : Int)) (by simp; omega) (fun y hy => hx y (by simp [hy])) (by omega) (by push_cast at h1 ⊢; omega)
   refine Ev.step (f := fun k => (laws_markIntS.f k x a).bind fun bt => laws_markIntSS.l0 k (ds ++ bt.2 :: rs) bt.1 ((ds.length + 1 : Nat) : Int)) (fun k => ?_) ?_
   ·simp only [laws_markIntSS.l0]
    rw [if_pos (by simp only [List.length_append, List.length_cons]; omega), if_pos (by omega), hr, Gen.w64s ds.length (by omega)]
    simp
   ·refine Ev.bind (markIntSB x a hxl h0 (by omega)) ?_
    simp only [total, marksL]
    have e2 : a + (x.length : Int) + (total rs : Int) = a + ((x.length + total rs : Nat) : Int) := by push_cast; omega
    rw [e2] at this
    simpa using this
 simpa using key xs [] a (by simp) h.2 h0 h1
theorem heldIntSSB (xs : List (List Int)) (a : Int) (h : Mid xs) (h0 : 0 ≤ a) (h1 : a + (total xs : Int) ≤ 2 ^ 60) : Ev (fun k => laws_heldIntSS.f k (marksL a xs) a) (a + (total xs : Int)) := by
 have hn := h.1
 unfold laws_heldIntSS.f
 have key : ∀ (rs ds : List (List Int)) (a : Int), ds.length + rs.length = xs.length → (∀ x ∈ rs, x.length ≤ 2097152) → 0 ≤ a → a + (total rs : Int) ≤ 2 ^ 60 → Ev (fun k => laws_heldIntSS.l0 k (ds ++ marksL a rs) a (ds.length : Int)) (a + (total rs : Int)) := by
  intro rs
  induction rs with
  | nil =>
   intro ds a e _ _ _
   refine Gen.ev_at 1 (fun k hk => ?_)
   obtain ⟨q, rfl⟩ : ∃ q, k = q + 1 := ⟨k - 1, by omega⟩
   simp only [laws_heldIntSS.l0]
   rw [if_neg (by simp [marksL])]
   simp [total]
  | cons x rs ih =>
   intro ds a e hx h0 h1
   simp only [List.length_cons] at e
   simp only [total] at h1
   have hxl : x.length ≤ 2097152 := hx x (by simp)
   have hr : rd_L1 (ds ++ marks a x.length :: marksL (a + (x.length : Int)) rs) (ds.length : Int) = marks a x.length := mid_at ds _ _
   have := ih (ds ++ [marks a x.length]) (a + (x.length : Int)) (by simp; omega) (fun y hy => hx y (by simp [hy])) (by omega) (by push_cast at h1 ⊢; omega)
   have e2 : a + (x.length : Int) + (total rs : Int) = a + ((x.length + total rs : Nat) : Int) := by push_cast; omega
   rw [e2] at this
   show Ev (fun k => laws_heldIntSS.l0 k (ds ++ marks a x.length :: marksL (a + (x.length : Int)) rs) a (ds.length : Int)) _
   refine Ev.step (f := fun k => (laws_heldIntS.f k (marks a x.length) a).bind fun t => if t < 0 then some (-1) else laws_heldIntSS.l0 k (ds ++ marks a x.length :: marksL (a + (x.length : Int)) rs) t ((ds.length + 1 : Nat) : Int)) (fun k => ?_) ?_
   ·simp only [laws_heldIntSS.l0]
    rw [if_pos (by simp only [List.length_append, List.length_cons]; omega), if_pos (by omega), hr, Gen.w64s ds.length (by omega)]
   ·refine Ev.bind (heldIntSB a x.length hxl h0 (by omega)) ?_
    simp only [if_neg (show ¬ (a + (x.length : Int) < 0) by omega), total]
    simpa using this
 simpa using key xs [] a (by simp) h.2 h0 h1
theorem Mid.total {xs : List (List Int)} (h : Mid xs) : Base.total xs ≤ 2097152 * 2097152 := Nat.le_trans (total_le xs h.2) (Nat.mul_le_mul_right _ h.1)
end Go.Proofs.Ytbjnkcfkhonkhaa.Base
end
section
namespace Go.Proofs.Ytbjnkcfkhonkhaa.AddT
open Go.RowKit Go.Proofs.Ytbjnkcfkhonkhaa.Pr Go.Proofs.Ytbjnkcfkhonkhaa.Base Go.Proofs.YtbjnkcfkhonkhaaW.PrintWords Go.Proofs.YtbjnkcfkhonkhaaW.PrintLast Go.Proofs.YtbjnkcfkhonkhaaW.PrintMore
set_option linter.unusedVariables false
def addTo (r xs : List Int) : List Int := (List.range' 0 xs.length).foldl (fun r j => r.set j (wrap64 (rd r (j : Int) + rd xs (j : Int)))) r
theorem foldl_set_length (q : List Nat) (xs : List Int) (r : List Int) : (q.foldl (fun r j => r.set j (wrap64 (rd r (j : Int) + rd xs (j : Int)))) r).length = r.length := by
 induction q generalizing r with
 | nil => rfl
 | cons a q ih => rw [List.foldl_cons, ih, List.length_set]
theorem addTo_length (r xs : List Int) : (addTo r xs).length = r.length := foldl_set_length _ _ _
def addRow (x y : List Int) : List Int := addTo (addTo (List.replicate (max x.length y.length) 0) x) y
theorem addRow_length (x y : List Int) : (addRow x y).length = max x.length y.length := by
 unfold addRow
 rw [addTo_length, addTo_length, List.length_replicate]
def addI (a b : List (List Int)) : List (List Int) := (List.range' 0 (max a.length b.length)).foldl (fun s i => s ++ [addRow (a.getD i []) (b.getD i [])]) []
theorem add_mid (a b : List (List Int)) (ha : Small a) (hb : Small b) : Mid (addI a b) := by
 have key : ∀ (q : List Nat) (s : List (List Int)), (∀ x ∈ s, x.length ≤ 2097152) → (q.foldl (fun s i => s ++ [addRow (a.getD i []) (b.getD i [])]) s).length = s.length + q.length ∧ ∀ x ∈ q.foldl (fun s i => s ++ [addRow (a.getD i []) (b.getD i [])]) s, x.length ≤ 2097152 := by
  intro q
  induction q with
  | nil => exact fun s h => ⟨by simp, h⟩
  | cons i q ih =>
   intro s h
   rw [List.foldl_cons]
   have := ih (s ++ [addRow (a.getD i []) (b.getD i [])]) (fun x hx => by
    rw [List.mem_append, List.mem_singleton] at hx
    rcases hx with hx | rfl
    ·exact h x hx
    ·rw [addRow_length]
     have h1 := ha.at_ i
     have h2 := hb.at_ i
     omega)
   refine ⟨?_, this.2⟩
   rw [this.1]
   simp
   omega
 obtain ⟨h1, h2⟩ := key (List.range' 0 (max a.length b.length)) [] (by simp)
 refine ⟨?_, h2⟩
 have := ha.1
 have := hb.1
 unfold addI
 rw [h1]
 simp
 omega
theorem rowAt (a : List (List Int)) (i : Nat) : spec_l23Row.f a (i : Int) = some (a.getD i []) := by
 unfold spec_l23Row.f
 by_cases h : (i : Int) ≥ (a.length : Int)
 ·rw [if_pos h]
  have : a.length ≤ i := by omega
  simp [List.getD, this]
 ·rw [if_neg h, if_pos (by omega), if_pos (by omega), rdL]
theorem maxL (x y : Nat) : spec_l1Max.f (x : Int) (y : Int) = some ((max x y : Nat) : Int) := by
 unfold spec_l1Max.f
 split <;> congr 1 <;> omega
theorem mxL (x y : Nat) : mx (x : Int) (y : Int) = ((max x y : Nat) : Int) := by
 unfold mx
 split <;> omega
theorem specAdd (a b : List (List Int)) (ha : Small a) (hb : Small b) : Ev (fun k => spec_AddTables.f k a b) (addI a b) := by
 have h1 := ha.1
 have h2 := hb.1
 unfold spec_AddTables.f
 refine Gen.ev_loop (fun k s i => spec_AddTables.l0 k a b s i) (max a.length b.length) (fun i s => s ++ [addRow (a.getD i []) (b.getD i [])]) (fun i s => s.length = i) _ (fun i s hi hP => ⟨by simp [hP], fun h => ?_⟩) _ 0 [] (Nat.zero_add _) rfl (fun _ => Gen.ev_at 1 (fun k hk => ?_))
 ·have la := ha.at_ i
  have lb := hb.at_ i
  refine Ev.step (f := fun k => spec_AddTables.l1 k a b s (i : Int) (a.getD i []) (b.getD i []) (List.replicate (max (a.getD i []).length (b.getD i []).length) 0) 0) (fun k => ?_) ?_
  ·simp only [spec_AddTables.l0]
   rw [maxL]
   simp only [Option.bind_some]
   rw [if_pos (by omega), rowAt, Option.bind_some, rowAt, Option.bind_some, maxL, Option.bind_some, if_pos (by omega), if_pos (by omega), Int.toNat_natCast]
  generalize hx : a.getD i [] = x at la h ⊢
  generalize hy : b.getD i [] = y at lb h ⊢
  refine Gen.ev_loop (fun k r j => spec_AddTables.l1 k a b s (i : Int) x y r j) x.length (fun j r => r.set j (wrap64 (rd r (j : Int) + rd x (j : Int)))) (fun _ r => r.length = max x.length y.length) _ (fun j r hj hr => ⟨by simpa using hr, fun h => Ev.step (fun k => ?_) h⟩) _ 0 (List.replicate (max x.length y.length) 0) (Nat.zero_add _) (by simp) (fun hr => ?_)
  ·simp only [spec_AddTables.l1]
   rw [if_pos (by omega), if_pos (by omega), if_pos (by omega), Gen.w64s j (by omega), Int.toNat_natCast]
  ·refine Ev.step (f := fun k => spec_AddTables.l2 k a b s (i : Int) y (addTo (List.replicate (max x.length y.length) 0) x) 0) (fun k => by
    simp only [spec_AddTables.l1]
    rw [if_neg (by omega)]
    rfl) ?_
   refine Gen.ev_loop (fun k r j => spec_AddTables.l2 k a b s (i : Int) y r j) y.length (fun j r => r.set j (wrap64 (rd r (j : Int) + rd y (j : Int)))) (fun _ r => r.length = max x.length y.length) _ (fun j r hj hr => ⟨by simpa using hr, fun h => Ev.step (fun k => ?_) h⟩) _ 0 (addTo (List.replicate (max x.length y.length) 0) x) (Nat.zero_add _) (by rw [addTo_length]; simp) (fun hr => Ev.step (fun k => ?_) h)
   ·simp only [spec_AddTables.l2]
    rw [if_pos (by omega), if_pos (by omega), if_pos (by omega), Gen.w64s j (by omega), Int.toNat_natCast]
   ·simp only [spec_AddTables.l2]
    rw [if_neg (by omega), if_pos (by omega), Gen.w64s i (by omega)]
    rfl
 ·obtain ⟨q, rfl⟩ : ∃ q, k = q + 1 := ⟨k - 1, by omega⟩
  simp only [spec_AddTables.l0]
  rw [maxL]
  simp only [Option.bind_some]
  rw [if_neg (by omega)]
  rfl
theorem implAdd (a b : List (List Int)) (ha : Small a) (hb : Small b) : Ev (fun k => impl_AddTables.f k a b) (addI a b) := by
 have h1 := ha.1
 have h2 := hb.1
 unfold impl_AddTables.f
 refine Gen.ev_loop (fun k s i => impl_AddTables.l0 k a b s i) (max a.length b.length) (fun i s => s ++ [addRow (a.getD i []) (b.getD i [])]) (fun i s => s.length = i) _ (fun i s hi hP => ⟨by simp [hP], fun h => ?_⟩) _ 0 [] (Nat.zero_add _) rfl (fun _ => Gen.ev_at 1 (fun k hk => ?_))
 ·have la := ha.at_ i
  have lb := hb.at_ i
  refine Ev.step (f := fun k => impl_AddTables.l1 k a b s (i : Int) (b.getD i []) (List.replicate (max (a.getD i []).length (b.getD i []).length) 0) (a.getD i []) ((a.getD i []).length : Int) 0) (fun k => ?_) ?_
  ·simp only [impl_AddTables.l0]
   rw [mxL, if_pos (by omega), rowAt, Option.bind_some, rowAt, Option.bind_some, mxL, if_pos (by omega), if_pos (by omega), Int.toNat_natCast]
  generalize hx : a.getD i [] = x at la h ⊢
  generalize hy : b.getD i [] = y at lb h ⊢
  refine Gen.ev_loop (fun k r j => impl_AddTables.l1 k a b s (i : Int) y r x (x.length : Int) j) x.length (fun j r => r.set j (wrap64 (rd r (j : Int) + rd x (j : Int)))) (fun _ r => r.length = max x.length y.length) _ (fun j r hj hr => ⟨by simpa using hr, fun h => Ev.step (fun k => ?_) h⟩) _ 0 (List.replicate (max x.length y.length) 0) (Nat.zero_add _) (by simp) (fun hr => ?_)
  ·simp only [impl_AddTables.l1]
   rw [if_pos (by omega), if_pos (by omega), if_pos (by omega), if_pos (by omega), Gen.w64s j (by omega), Int.toNat_natCast]
  ·refine Ev.step (f := fun k => impl_AddTables.l2 k a b s (i : Int) (addTo (List.replicate (max x.length y.length) 0) x) y (y.length : Int) 0) (fun k => by
    simp only [impl_AddTables.l1]
    rw [if_neg (by omega)]
    rfl) ?_
   refine Gen.ev_loop (fun k r j => impl_AddTables.l2 k a b s (i : Int) r y (y.length : Int) j) y.length (fun j r => r.set j (wrap64 (rd r (j : Int) + rd y (j : Int)))) (fun _ r => r.length = max x.length y.length) _ (fun j r hj hr => ⟨by simpa using hr, fun h => Ev.step (fun k => ?_) h⟩) _ 0 (addTo (List.replicate (max x.length y.length) 0) x) (Nat.zero_add _) (by rw [addTo_length]; simp) (fun hr => Ev.step (fun k => ?_) h)
   ·simp only [impl_AddTables.l2]
    rw [if_pos (by omega), if_pos (by omega), if_pos (by omega), if_pos (by omega), Gen.w64s j (by omega), Int.toNat_natCast]
   ·simp only [impl_AddTables.l2]
    rw [if_neg (by omega), if_pos (by omega), Gen.w64s i (by omega)]
    rfl
 ·obtain ⟨q, rfl⟩ : ∃ q, k = q + 1 := ⟨k - 1, by omega⟩
  simp only [impl_AddTables.l0]
  rw [mxL, if_neg (by omega)]
  rfl
end Go.Proofs.Ytbjnkcfkhonkhaa.AddT
end
section
namespace Go.Proofs.Ytbjnkcfkhonkhaa.Pure
open Go.RowKit Go.Proofs.Ytbjnkcfkhonkhaa.Pr Go.Proofs.Ytbjnkcfkhonkhaa.Base Go.Proofs.Ytbjnkcfkhonkhaa.AddT Go.Proofs.YtbjnkcfkhonkhaaW.PrintWords Go.Proofs.YtbjnkcfkhonkhaaW.PrintLast Go.Proofs.YtbjnkcfkhonkhaaW.PrintMore
set_option linter.unusedVariables false
theorem szLeft (xs : List (List Int)) (left : Int) (hm : xs.length ≤ maxLen) (hms : ∀ x ∈ xs, x.length ≤ maxLen) (h0 : 0 ≤ left) (h1 : left ≤ 1048576) : ∃ z, Ev (fun k => laws_szIntSS.f k xs left) z ∧ (z < 0 ∨ (Small xs ∧ 0 ≤ z ∧ z ≤ 1048576)) := by
 unfold maxLen at hm hms
 unfold laws_szIntSS.f
 rw [Gen.w64 (by omega) (by omega)]
 by_cases hbig : left - (xs.length : Int) < 0
 ·exact ⟨-1, by simp only [if_pos hbig]; exact Gen.ev_at 0 (fun k _ => rfl), .inl (by omega)⟩
 ·simp only [if_neg hbig]
  have key : ∀ (d i : Nat) (left : Int), i + d = xs.length → 0 ≤ left → left ≤ 1048576 → (∀ j, j < i → (xs.getD j []).length ≤ 1048576) →
    ∃ z, Ev (fun k => laws_szIntSS.l0 k xs left (i : Int)) z ∧ (z < 0 ∨ (Small xs ∧ 0 ≤ z ∧ z ≤ 1048576)) := by
   intro d
   induction d with
   | zero =>
    intro i left hi h0 h1 hall
    refine ⟨left, Gen.ev_at 1 (fun k hk => ?_), .inr ⟨⟨by omega, fun x hx => ?_⟩, h0, h1⟩⟩
    ·obtain ⟨m, rfl⟩ : ∃ m, k = m + 1 := ⟨k - 1, by omega⟩
     simp only [laws_szIntSS.l0]
     rw [if_neg (by omega)]
    ·obtain ⟨j, hj, rfl⟩ := List.getElem_of_mem hx
     have := hall j (by omega)
     simpa [List.getD, hj] using this
   | succ d ih =>
    intro i left hi h0 h1 hall
    have hlt : i < xs.length := by omega
    have hle : (xs.getD i []).length ≤ 9223372036854775807 := by
     have := hms (xs[i]) (List.getElem_mem hlt)
     simpa [List.getD, hlt] using this
    by_cases hb : left - ((xs.getD i []).length : Int) < 0
    ·refine ⟨-1, Gen.ev_at 1 (fun k hk => ?_), .inl (by omega)⟩
     obtain ⟨m, rfl⟩ : ∃ m, k = m + 1 := ⟨k - 1, by omega⟩
     simp only [laws_szIntSS.l0, laws_szIntS.f]
     rw [if_pos (by omega), if_pos (by omega), rdL, Gen.w64 (by omega) (by omega), if_pos hb]
     rfl
    ·obtain ⟨z, hz, hzz⟩ := ih (i + 1) (left - ((xs.getD i []).length : Int)) (by omega) (by omega) (by omega) (fun j hj => by
      by_cases e : j = i
      ·subst e; omega
      ·exact hall j (by omega))
     refine ⟨z, Ev.step (fun k => ?_) hz, hzz⟩
     simp only [laws_szIntSS.l0, laws_szIntS.f]
     rw [if_pos (by omega), if_pos (by omega), rdL, Gen.w64 (by omega) (by omega), if_neg hb]
     simp only [Option.bind_some]
     rw [if_neg hb, Gen.w64s i (by omega)]
  exact key xs.length 0 (left - (xs.length : Int)) (by omega) (by omega) (by omega) (fun j hj => by omega)
theorem FnExactAddTables (xs : List (List Int)) (ys : List (List Int)) (hm : xs.length ≤ maxLen ∧ ∀ x ∈ xs, x.length ≤ maxLen ∧ ∀ y ∈ x, (Lit.int .i64 y).wf = true) (hm2 : ys.length ≤ maxLen ∧ ∀ x ∈ ys, x.length ≤ maxLen ∧ ∀ y ∈ x, (Lit.int .i64 y).wf = true) : ∃ k, laws_FnExactAddTables.f k xs ys = some true := by
 obtain ⟨z, hz, h⟩ := szLeft xs 1048576 hm.1 (fun x hx => (hm.2 x hx).1) (by decide) (by decide)
 refine Ev.rounds ?_
 unfold laws_FnExactAddTables.f
 refine Ev.bind hz ?_
 by_cases hneg : z < 0
 ·simp only [if_pos hneg]
  exact Ev.now _
 simp only [if_neg hneg]
 obtain ⟨hs, hz0, hz1⟩ := h.resolve_left hneg
 obtain ⟨y, hy, h⟩ := szLeft ys z hm2.1 (fun x hx => (hm2.2 x hx).1) hz0 hz1
 refine Ev.bind hy ?_
 by_cases hneg2 : y < 0
 ·simp only [if_pos hneg2]
  exact Ev.now _
 simp only [if_neg hneg2]
 obtain ⟨ht, _, _⟩ := h.resolve_left hneg2
 have hg := add_mid xs ys hs ht
 have tg := hg.total
 have tx := hs.mid.total
 have ty := ht.mid.total
 have iA := implAdd xs ys hs ht
 have sA := specAdd xs ys hs ht
 generalize addI xs ys = u at hg tg iA sA
 have EU := eqIntSSB u hg
 have HU := heldIntSSB u 1 hg (by decide) (by omega)
 have T1 := toIntSS xs hs
 have T2 := toIntSS ys ht
 refine Ev.bind T1 (Ev.bind T2 (Ev.bind sA (Ev.bind T1 (Ev.bind T2 (Ev.bind iA (Ev.bind EU ?_))))))
 simp only [if_true]
 refine Ev.bind T1 (Ev.bind (eqIntSSB _ hs.mid) ?_)
 simp only [if_true]
 refine Ev.bind T2 (Ev.bind (eqIntSSB _ ht.mid) ?_)
 simp only [if_true]
 refine Ev.bind (markIntSSB xs 1 hs.mid (by decide) (by omega)) (Ev.bind (markIntSSB ys _ ht.mid (by omega) (by omega)) ?_)
 simp only [if_neg (show ¬ ((1 : Int) + (total xs : Int) + (total ys : Int) < 0) by omega)]
 refine Ev.bind (markIntSSB u 1 hg (by decide) (by omega)) (Ev.bind HU ?_)
 simp only [if_neg (show ¬ ((1 : Int) + (total u : Int) < 0) by omega), if_true]
 refine Ev.bind T1 (Ev.bind T2 (Ev.bind iA (Ev.bind EU ?_)))
 simp only [if_true]
 exact Ev.now _
end Go.Proofs.Ytbjnkcfkhonkhaa.Pure
end
section
namespace Go.Proofs.Ytbjnkcfkhonkhaa.Open
open Go.ChangeShapes Go.WideShapes Go.RowKit Go.Proofs.YtbjnkcfkhonkhaaW.PrintWords Go.Deep
set_option linter.unusedVariables false
structure Opens {α : Type} (P : Program) (d : Kd α) (t : TypeId) (Wf : α → Prop) : Prop where
 go : ∀ (H : Type) (enc : TypeId × Value → H) (w : World) (base : Nat) (spare : Nat → Bool) (held : Bool) (fuel : Nat) (cs : List Value) (x : DataW H × List MemPlace),
  DataW.trod enc P w base spare held fuel t cs = some x → ∃ a, d.K w a cs ∧ Wf a
theorem Opens.int {P : Program} {t : TypeId} {k : IntKind} (ht : P.underlying t = some (.int k)) : Opens P (Kd.int k) t (fun n => (Lit.int k n).wf = true) := by
 refine ⟨fun H enc w base spare held fuel cs x h => ?_⟩
 obtain ⟨n, rfl, _, hw⟩ := DataW.trod_int ht h
 exact ⟨n, rfl, hw⟩
theorem Opens.bool {P : Program} {t : TypeId} (ht : P.underlying t = some .bool) : Opens P Kd.bool t (fun _ => True) := by
 refine ⟨fun H enc w base spare held fuel cs x h => ?_⟩
 obtain ⟨n, rfl, _⟩ := DataW.trod_bool ht h
 exact ⟨n, rfl, trivial⟩
theorem list_of {α : Type} {p : Nat → α → Prop} : ∀ {len : Nat}, (∀ i, i < len → ∃ y, p i y) → ∃ xs : List α, xs.length = len ∧ ∀ i y, xs[i]? = some y → p i y := by
 intro len
 induction len with
 | zero => exact fun _ => ⟨[], rfl, fun i y h => by simp at h⟩
 | succ len ih =>
  intro key
  obtain ⟨xs, hxl, hxs⟩ := ih (fun i hi => key i (by omega))
  obtain ⟨y, hy⟩ := key len (by omega)
  refine ⟨xs ++ [y], by simp [hxl], fun i z hz => ?_⟩
  by_cases hi : i < xs.length
  ·rw [List.getElem?_append_left hi] at hz
   exact hxs i z hz
  ·have hlt : i < (xs ++ [y]).length := (List.getElem?_eq_some_iff.1 hz).1
   have e : i = len := by simp [hxl] at hlt hi; omega
   subst e
   rw [List.getElem?_append_right (by omega), hxl] at hz
   simp at hz
   subst hz
   exact hy
theorem Opens.slice {α : Type} {P : Program} {t e : TypeId} {d : Kd α} {Wf : α → Prop} (ht : P.underlying t = some (.slice e)) (hs : P.cellsOf e = d.sz) (h : Opens P d e Wf) :
  Opens P (Kd.slice e d) t (fun xs => xs.length ≤ maxLen ∧ ∀ x ∈ xs, Wf x) := by
 refine ⟨fun H enc w base spare held fuel cs x hx => ?_⟩
 rcases open_slice ht hx with ⟨rfl, _⟩ | ⟨a, len, cap, m, n, D, Pl, rfl, hb, hl, hm, hmm, _, hel⟩
 ·exact ⟨[], ⟨none, 0, rfl, Nat.le_refl _, rfl, by simp, fun h => absurd h (by simp)⟩, by simp, by simp⟩
 ·have hlm : len ≤ m := by rw [hmm]; split <;> omega
  have key : ∀ i, i < len → ∃ y : α, (∃ cs', w.cells? base (a.add (i * P.cellsOf e)) (P.cellsOf e) = some cs' ∧ d.K w y cs') ∧ Wf y := fun i hi => by
   obtain ⟨cs', h1, h2⟩ := hel i (by omega)
   obtain ⟨y, h3, h4⟩ := h.go _ enc w base spare held n cs' _ h2
   exact ⟨y, ⟨cs', h1, h3⟩, h4⟩
  obtain ⟨xs, hxl, hxs⟩ := list_of key
  refine ⟨xs, ⟨some a, cap, by rw [hxl], by omega, rfl, by have := hm; unfold maxLen at this; omega, fun _ => ⟨a, rfl, fun j p hj => ?_⟩⟩, by omega, fun y hy => ?_⟩
  ·obtain ⟨⟨cs', h1, h2⟩, _⟩ := hxs j p hj
   obtain ⟨_, h3, h4⟩ := World.cells?_some h1
   refine ⟨cs', by rw [h3, hs], h2, fun i u hu => ?_⟩
   have hlt : i < cs'.length := (List.getElem?_eq_some_iff.1 hu).1
   have := h4 i (by omega)
   rw [hs, Go.Deep.add_add] at this
   rw [this, hu]
  ·obtain ⟨i, hi⟩ := List.getElem?_of_mem hy
   exact (hxs i y hi).2
structure OpensFs {α : Type} (P : Program) (fs : List Field) (off : Nat) (d : Kd α) (Wf : α → Prop) : Prop where
 go : ∀ (H : Type) (enc : TypeId × Value → H) (w : World) (base : Nat) (spare : Nat → Bool) (held : Bool) (n : Nat) (cs : List Value),
  cs.length = off + d.sz → (∀ f ∈ fs, ∃ x, DataW.trod enc P w base spare held n f.type ((cs.drop f.offset).take (P.cellsOf f.type)) = some x) → ∃ a, d.K w a (cs.drop off) ∧ Wf a
theorem OpensFs.cons {α β : Type} {P : Program} {f : Field} {fs : List Field} {off : Nat} {d : Kd α} {d' : Kd β} {Wf : α → Prop} {Wf' : β → Prop} (ho : f.offset = off) (hs : P.cellsOf f.type = d.sz) (h : Opens P d f.type Wf)
  (h' : OpensFs P fs (off + d.sz) d' Wf') : OpensFs P (f :: fs) off (Kd.pair d d') (fun x => Wf x.1 ∧ Wf' x.2) := by
 refine ⟨fun H enc w base spare held n cs hl hf => ?_⟩
 have hl' : cs.length = off + (d.sz + d'.sz) := hl
 obtain ⟨x, hx⟩ := hf f (by simp)
 rw [ho, hs] at hx
 obtain ⟨a, ha, wa⟩ := h.go _ enc w base spare held n _ x hx
 obtain ⟨b, hb, wb⟩ := h'.go _ enc w base spare held n cs (by omega) (fun g hg => hf g (by simp [hg]))
 refine ⟨(a, b), ⟨(cs.drop off).take d.sz, cs.drop (off + d.sz), ?_, ha, hb⟩, wa, wb⟩
 rw [← List.drop_drop, List.take_append_drop]
theorem Opens.argSlice {α : Type} {P : Program} {t e : TypeId} {d : Kd α} {Wf : List α → Prop} (h : Opens P (Kd.slice e d) t Wf) {H : Type} {enc : TypeId × Value → H} {w : World} {base : Nat} {spare : Nat → Bool} {held : Bool} {v : Value} {x : DataW H} {ps : List MemPlace}
  (hv : ∃ a len cap, v = .slice a len cap) (ht : DataW.Trod enc P w base spare held t v x ps) : ∃ A c xs, v = .slice A xs.length c ∧ xs.length ≤ c ∧ d.C w A xs.length xs ∧ Wf xs := by
 obtain ⟨a, len, cap, rfl⟩ := hv
 obtain ⟨fuel, hf⟩ := ht
 obtain ⟨xs, ⟨A, c, hc, hl, hr⟩, wf⟩ := h.go _ enc w base spare held fuel _ _ hf
 simp only [Value.cells, List.cons.injEq, and_true] at hc
 exact ⟨A, c, xs, hc, hl, hr, wf⟩
end Go.Proofs.Ytbjnkcfkhonkhaa.Open
end
section
namespace Go.Proofs.Ytbjnkcfkhonkhaa.fnExactAddTables
open Go.ChangeShapes Go.WideShapes Go.ChangeAt Go.RowKit Go.Proofs.Ytbjnkcfkhonkhaa.Open Go.Proofs.YtbjnkcfkhonkhaaW.PrintWords
open Go.ChangeMaps (open_string shut_string)
set_option linter.unusedVariables false
theorem own : ownKnob Try.prog.godebug = none := by kernel_rfl
theorem laidOut : laidOutB Try.prog = true := by kernel_rfl
set_option maxRecDepth 100000 in
theorem lifted (os : Os) (started : os.Started) (H : Type) (enc : TypeId × Value → H) :
  ReturnsInHanded {} Try.checked os 4 .any (Rows.fnExactAddTablesSpec.pre6 enc Try.prog Try.f4 Rows.fnExactAddTablesRow.domain false) (Rows.fnExactAddTablesSpec.post enc Try.prog Try.f4 false true false false) := by
 refine returnsInHanded_of_change_sized (C := Try.checked) own started (by kernel_rfl) Try.func4
  (ChangeSpec.witness6 (enc := enc) (C := Try.checked) false ⟨#[], #[.slice none 0 0, .slice none 0 0], []⟩ 8 (by kernel_rfl) (by kernel_rfl) (by kernel_rfl) (by kernel_rfl)) ?_
 intro W base args ds gs before hval0 hW hcnd hsz0 _
 have hval : ∀ (j : Nat) t v, Try.f4.params[j]? = some t → args[j]? = some v → Value.okWide Try.prog W .any base t v := hval0
 have hW' := hW
 obtain ⟨p, q, hA0, hV, rfl, hfz, hnd⟩ := hW
 have hA : DataW.TrodAll enc Try.prog W 0 (fun _ => true) true Try.f4.params.toList args.toList ds p := hA0
 rw [Try.params4] at hA hval
 obtain ⟨v0, vs0, d0, ds0, p0, q0, hargs, rfl, rfl, h0, r0⟩ := trodAll_cons hA
 obtain ⟨v1, vs1, d1, ds1, p1, q1, rfl, rfl, rfl, h1, r1⟩ := trodAll_cons r0
 obtain ⟨rfl, rfl, rfl⟩ := trodAll_nil r1
 obtain rfl : args = #[v0, v1] := by cases args; simp_all
 obtain ⟨rfl, rfl⟩ := trodVars_none hV
 have k0 := h0
 have lt0 : ∀ x ∈ p0, x.block < W.heap.size := by obtain ⟨m, hm⟩ := k0; exact DataW.trod_lt m _ _ _ hm
 obtain ⟨A0, c0, x0, rfl, hl0, hr0, w0⟩ := Opens.argSlice (Opens.slice Try.underlying22 (by kernel_rfl) (Opens.slice Try.underlying31 (by kernel_rfl) (Opens.int Try.underlying3))) (okWide_slice Try.underlying22 (hval 0 22 v0 rfl rfl)) h0
 have k1 := h1
 have lt1 : ∀ x ∈ p1, x.block < W.heap.size := by obtain ⟨m, hm⟩ := k1; exact DataW.trod_lt m _ _ _ hm
 obtain ⟨A1, c1, x1, rfl, hl1, hr1, w1⟩ := Opens.argSlice (Opens.slice Try.underlying22 (by kernel_rfl) (Opens.slice Try.underlying31 (by kernel_rfl) (Opens.int Try.underlying3))) (okWide_slice Try.underlying22 (hval 1 22 v1 rfl rfl)) h1
 clear hA0 hval0 hsz0
 obtain ⟨k, hk⟩ := Pure.FnExactAddTables x0 x1 w0 w1
 refine (Pr.laws_FnExactAddTables.calls k _ _ x0 _ _ x1 true W hr0 hl0 hr1 hl1 ⟨rfl⟩ hk).mono fun e W' ⟨he, bel⟩ => ?_
 subst he
 exact ⟨_, rfl, _, _, _, [], _, [], hW', trodAll_mk1 (shut_bool Try.underlying4 _), (trodAll_cons_mk (Below.trod laidOut (by kernel_rfl) (of_decide_eq_true (by kernel_rfl)) k0 bel lt0) (trodAll_cons_mk (Below.trod laidOut (by kernel_rfl) (of_decide_eq_true (by kernel_rfl)) k1 bel lt1) trodAll_mk0)), rfl, bel.frame _, fun h => by cases h⟩
theorem over : Rows.fnExactAddTablesRow.holds Try.pinned (OpenSpec.ofChange Rows.fnExactAddTablesSpec) :=
 OpenClaim.holds_of_wide 4 Try.f4 rfl rfl rfl rfl rfl rfl rfl ⟨rfl, rfl, rfl, rfl, rfl⟩ rfl rfl rfl rfl rfl (by kernel_rfl) Try.func4 (by kernel_rfl)
  (of_decide_eq_true (by kernel_rfl)) (by unfold Func.isWrapper; first | (rw [if_pos (by decide +kernel)]; kernel_rfl) | (rw [if_neg (by decide +kernel)]; exact ⟨rfl, rfl⟩))
  (fun os started H enc _ => lifted os started H enc)
theorem proved : Rows.FnExactAddTablesSaid := over
#print axioms proved
end Go.Proofs.Ytbjnkcfkhonkhaa.fnExactAddTables
namespace Go.Proofs.Ytbjnkcfkhonkhaa
theorem fnExactAddTables_holds : Rows.FnExactAddTablesSaid := fnExactAddTables.proved
end Go.Proofs.Ytbjnkcfkhonkhaa
end
