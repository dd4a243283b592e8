/- The claim FnExactShiftTable: every text that its row comes to, laid together by slim.py (the words of the kit's print, the printed walks, the pure law, the row). -/
import Derived.Below
import Derived.ChangeArms
import Derived.ChangeOld
import Derived.DataReads
import Derived.Deep.Slices
import Derived.OpenShut
import Derived.ProofKit
import Derived.ShutString
import Derived.SizedLaws
import Derived.Test.YtbjnkcfkhonkhaaRows
import Derived.WalkKit
import Derived.Test.YtbjnkcfkhonkhaaYFnExactShiftTable0
section
namespace Go.Proofs.Ytbjnkcfkhonkhaa.Pr
open Go.RowKit Go.Proofs.YtbjnkcfkhonkhaaW.PrintWords Go.Proofs.YtbjnkcfkhonkhaaW.PrintLast Go.Proofs.YtbjnkcfkhonkhaaW.PrintMore
attribute [local go_sem] max2_int min2_int max_two min_two max_three min_three max_four min_four
set_option linter.unusedVariables false
set_option linter.unusedSimpArgs false
def laws_markIntS.l0 : Nat → List Int → Int → Int → Option (Int × List Int)
 | 0, _, _, _ => none
 | k + 1, x0, x1, x5 => if x5 < (x0.length : Int) then (if 0 ≤ x5 then (laws_markIntS.l0 k (x0.set (x5 : Int).toNat x1) (wrap64 (x1 + 1)) (wrap64 (x5 + 1))) else (none)) else (some (x1, x0))
def laws_markIntS.f (k : Nat) (l0 : List Int) (a1 : Int) : Option (Int × List Int) := laws_markIntS.l0 k l0 a1 0
set_option maxHeartbeats 8000000 in
set_option maxRecDepth 100000 in
theorem laws_markIntS.calls (k : Nat) (P0_ : Nat → Prop) (u9000_ : Value) (l0 : List Int) (a1 : Int) (r1 : Int) (r2 : List Int) (w0 w : World) (hB : Below w0.heap.size w0 w) (ho0 : Kd.R (Kd.int .i64) 3 w w0.heap.size P0_ u9000_ l0) (h : laws_markIntS.f k l0 a1 = some (r1, r2)) :
  Calls Try.prog 30 #[u9000_, .int .i64 a1] w fun e w' => e = .returned (.int .i64 r1) ∧ Kd.R (Kd.int .i64) 3 w' w0.heap.size (fun k_ => (P0_ k_ ∨ w.heap.size ≤ k_)) u9000_ r2 ∧ Below w0.heap.size w0 w' ∧ Kept w w' (fun k_ => P0_ k_) := by
 have HO0 := Aside0.mk (show Kd.R (Kd.int .i64) 3 w w0.heap.size (fun k_ => (P0_ k_ ∨ w.heap.size ≤ k_)) u9000_ l0 from Kd.R_mono ho0 (fun k_ hk => (.inl hk)))
 have HK := Aside0.mk (Kept.refl w (fun k_ => P0_ k_))
 have HW0 := Aside0.mk hB.size
 have HB := Aside0.mk hB
 clear hB
 have H : (laws_markIntS.l0 k l0 a1 0) = some (r1, r2) := h
 clear h
 have H' := Aside0.mk H
 clear H
 go_enter Try.func30, Try.ntmps30
 go_wp2
 go_loopg [1, 5] k (fun kq v1 v5 w' => ∃ (x0_1 : List Int) (x1_1 : Int) (x5_1 : Int), v1 = .int .i64 x1_1 ∧ v5 = .int .i64 x5_1 ∧ Aside0 (laws_markIntS.l0 kq x0_1 x1_1 x5_1 = some (r1, r2)) ∧ Aside0 (kq ≤ k) ∧ Aside0 (Kd.R (Kd.int .i64) 3 w' w0.heap.size (fun k_ => (P0_ k_ ∨ w.heap.size ≤ k_)) u9000_ x0_1) ∧ Aside0 (Kept w w' (fun k_ => P0_ k_)) ∧ Aside0 (Below w0.heap.size w0 w'))
 case atStart => exact ⟨(l0), (a1), (0), (by first | rfl | (simp; done) | (simp [*]; done)), (by first | rfl | (simp; done) | (simp [*]; done)), H', ⟨Nat.le_refl _⟩, ⟨Hof.Rw HO0.out⟩, ⟨by repeat (first | (with_reducible first | exact HK.out | apply Kept.alloc | apply Kept.drewN | apply Kept.drew) | exact HK.out)⟩, ⟨Hof.Lw HB.out⟩⟩
 case round =>
  clear H'
  try clear p2
  obtain ⟨x0_1, x1_1, x5_1, rfl, rfl, HA, HK1, HO_0, HK, HB⟩ := hrel
  cases gk with
  | zero => exact absurd HA.out (by simp [laws_markIntS.l0])
  | succ k1 =>
   have H := HA.out
   clear HA
   simp only [laws_markIntS.l0] at H
   by_cases c3 : x5_1 < (x0_1.length : Int)
   ·rw [if_pos c3] at H
    have c3b0 : decide (x5_1 < (x0_1.length : Int)) = true := decide_eq_true c3
    clear c3
    by_cases c4 : 0 ≤ x5_1
    ·rw [if_pos c4] at H
     have c4b0 : decide (0 ≤ x5_1) = true := decide_eq_true c4
     clear c4
     obtain ⟨y166, hy166⟩ : ∃ y_ : List Int, y_ = (x0_1.set (x5_1 : Int).toNat x1_1) := ⟨_, rfl⟩
     replace H : (laws_markIntS.l0 k1 y166 (wrap64 (x1_1 + 1)) (wrap64 (x5_1 + 1))) = some (r1, r2) := by first | (rw [hy166]; with_reducible exact H) | (have H2_ := (Option.bind_some _ _).symm.trans H; rw [hy166]; with_reducible exact H2_) | (have H2_ := (Option.bind_some _ _).symm.trans H; with_reducible exact H2_) | with_reducible exact H | (rw [hy166]; exact H) | exact H
     have Ny166 := Aside0.mk hy166
     clear hy166
     have H' := Aside0.mk H
     clear H
     obtain ⟨Ao6, co6, eo6⟩ := Kd.R_slice HO_0.out
     subst eo6
     have p5 : 0 ≤ (x5_1 : Int) := of_decide_eq_true (by first | (with_reducible assumption) | assumption)
     have q5 : (x5_1 : Int) < ((x0_1.length : Int) : Int) := of_decide_eq_true (by first | (with_reducible assumption) | assumption)
     obtain ⟨go5, co5, eo5, gb5, gl5, cl5, HG5⟩ := Kd.R_form HO_0.out (by omega)
     (first | cases eo5 | (injection eo5 with ea_ en_ ec_; (first | subst ea_ | (injection ea_ with ea_; subst ea_)); subst ec_; clear en_))
     have GB5 := Aside0.mk gb5
     have GG5 := Aside0.mk HG5
     clear gb5 gl5 HG5
     have HMgo5 := Aside0.mk (show (P0_ go5 ∨ w.heap.size ≤ go5) from (HO_0.out.1 _ rfl))
     obtain ⟨hx5_0, hf5_0⟩ := Kd.R_celln 0 HO_0.out (x5_1 : Int) p5 q5
     replace p5 := eq_true p5
     replace q5 := eq_true q5
     have HP7 := Kd.R_putg HO_0.out (x5_1 : Int) x1_1
     go_wp2_with (first | ((with_reducible refine gate_store (t := 3) (p := 15) rfl ?_); refine store_event (t := 3) (p := 15) (v := ?vo_w8) (w1 := (wr.setCell ⟨go5, (x5_1 : Int).toNat, none⟩ (.int .i64 x1_1))) ?hg ?ho ?hn ?hr ?_; (case ho => rfl); (case hg => rfl); (case hn => rfl); (case hr => first | (go_simp; done) | (go_simp; rfl)); intro w8 hw; have hg : wr.grownBy w8 (some go5) := (by rw [hw]; exact HP7.2); have hp_ : Kd.R (Kd.int .i64) 3 w8 w0.heap.size (fun k_ => (P0_ k_ ∨ w.heap.size ≤ k_)) (.slice (some ⟨go5, 0, none⟩) x0_1.length co6) y166 := (by rw [hw, Ny166.out]; exact HP7.1); clear HP7; replace HB := Aside0.mk ((by rw [hw]; exact below_set (HB.out) GB5.out : Below w0.heap.size w0 w8)); replace HK := Aside0.mk (Kept.of_grown (S := (fun k_ => P0_ k_)) hg (by repeat (first | (with_reducible first | exact HK.out | apply Kept.alloc | apply Kept.drewN | apply Kept.drew) | exact HK.out)) (fun k_ e_ => (HO_0.out.1 k_ e_))); replace HO_0 := Aside0.mk hp_; clear hg hw hp_))
     go_roundg k1
     case measure => have := HK1.out; omega
     case rel => exact ⟨(y166), (wrap64 (x1_1 + 1)), (wrap64 (x5_1 + 1)), (by first | rfl | (simp; done) | (simp [*]; done)), (by first | rfl | (simp; done) | (simp [*]; done)), H', ⟨by have := HK1.out; omega⟩, ⟨Hof.Rw HO_0.out⟩, ⟨by repeat (first | (with_reducible first | exact HK.out | apply Kept.alloc | apply Kept.drewN | apply Kept.drew) | exact HK.out)⟩, ⟨Hof.Lw HB.out⟩⟩
    ·rw [if_neg c4] at H
     exact absurd H (by simp)
   ·rw [if_neg c3] at H
    have c3b0 : decide (x5_1 < (x0_1.length : Int)) = false := decide_eq_false c3
    clear c3
    simp only [Option.some.injEq, Prod.mk.injEq] at H
    obtain ⟨rfl, rfl⟩ := H
    obtain ⟨Ao9, co9, eo9⟩ := Kd.R_slice HO_0.out
    subst eo9
    go_wp2
    go_ret
    exact ⟨by first | rfl | (simp [errW_none, errW_some] <;> rfl) | (simp [*, errW_none, errW_some] <;> rfl), by (with_reducible repeat (first | apply Kd.R_alloc | apply Kd.R_drewN | apply Kd.R_drew)); exact HO_0.out, by repeat (first | (with_reducible first | exact HB.out | apply below_alloc | apply pw_below_drewN | apply below_drew1) | exact HB.out), by repeat (first | (with_reducible first | exact HK.out | apply Kept.alloc | apply Kept.drewN | apply Kept.drew) | exact HK.out)⟩
end Go.Proofs.Ytbjnkcfkhonkhaa.Pr
end
section
namespace Go.Proofs.Ytbjnkcfkhonkhaa.Pr
open Go.RowKit Go.Proofs.YtbjnkcfkhonkhaaW.PrintWords Go.Proofs.YtbjnkcfkhonkhaaW.PrintLast Go.Proofs.YtbjnkcfkhonkhaaW.PrintMore
attribute [local go_sem] max2_int min2_int max_two min_two max_three min_three max_four min_four
set_option linter.unusedVariables false
set_option linter.unusedSimpArgs false
def laws_markIntSS.rdLL (xs : List (List Int)) (i : Int) : List Int := xs.getD i.toNat ([] : List Int)
def laws_markIntSS.l0 : Nat → List (List Int) → Int → Int → Option (Int × List (List Int))
 | 0, _, _, _ => none
 | k + 1, x0, x1, x5 => if x5 < (x0.length : Int) then (if 0 ≤ x5 then ((laws_markIntS.f k (laws_markIntSS.rdLL x0 x5) x1).bind fun bt => (laws_markIntSS.l0 k (x0.set (x5 : Int).toNat bt.2) bt.1 (wrap64 (x5 + 1)))) else (none)) else (some (x1, x0))
def laws_markIntSS.f (k : Nat) (l0 : List (List Int)) (a1 : Int) : Option (Int × List (List Int)) := laws_markIntSS.l0 k l0 a1 0
theorem laws_markIntSS.row {k : Nat} {w0 W : World} {ok : Nat → Prop} {u : Value} {xs : List (List Int)} {i a r1 : Int} {r2 : List Int} (hB : Below w0.heap.size w0 W) (hS : Kd.S (Kd.slice 3 (Kd.int .i64)) 31 W w0.heap.size ok u xs) (h0 : 0 ≤ i) (h1 : i < (xs.length : Int)) (h : laws_markIntS.f k (laws_markIntSS.rdLL xs i) a = some (r1, r2)) :
  ∃ g cap v, u = .slice (some ⟨g, 0, none⟩) xs.length cap ∧ W.cell? ⟨g, i.toNat, none⟩ = some v ∧ Calls Try.prog 30 #[v, .int .i64 a] W fun e w' => e = .returned (.int .i64 r1) ∧ Kd.S (Kd.slice 3 (Kd.int .i64)) 31 w' w0.heap.size (fun k_ => ok k_ ∨ W.heap.size ≤ k_) u (xs.set i.toNat r2) ∧ Below w0.heap.size w0 w' ∧ Kept W w' ok := by
 obtain ⟨g, cap, rfl, _, _, _⟩ := Kd.R_form (Kd.S_R hS) (show 0 < xs.length by omega)
 obtain ⟨oki, c, hcl, hM, hcc, hoki, hH⟩ := Kd.S_lend hS ([] : List Int) i h0 h1
 obtain ⟨v, rfl, hR⟩ := hM
 have hcell : W.cell? ⟨g, i.toNat, none⟩ = some v := by
  have := hcc 0 v rfl
  rw [show i.toNat * (Kd.slice 3 (Kd.int .i64)).sz + 0 = i.toNat from Nat.mul_one _] at this
  exact this
 refine ⟨g, cap, v, rfl, hcell, ?_⟩
 refine (laws_markIntS.calls k oki v _ a r1 r2 w0 W hB hR h).mono ?_
 rintro e w' ⟨rfl, hR', hB', hK⟩
 have hH1 := Kd.H_widen (Kd.H_mono (ok' := fun k_ => ok k_ ∨ W.heap.size ≤ k_) hH (fun k_ hk => .inl hk))
 have hH2 := Kd.H_kept hH1 hK (fun k_ _ hn hk => hn (.inl hk))
 refine ⟨rfl, ?_, hB', hK.1, fun j hj hn => hK.2 j hj (fun hk => hn (hoki j hk).1)⟩
 exact Kd.H_back hH2 (okp := fun k_ => oki k_ ∨ W.heap.size ≤ k_) ⟨v, rfl, hR'⟩ (fun k_ hk => hk.elim .inl (fun hk => .inr ⟨.inr hk, hk⟩))
set_option maxHeartbeats 8000000 in
set_option maxRecDepth 100000 in
theorem laws_markIntSS.calls (k : Nat) (P0_ : Nat → Prop) (u9000_ : Value) (l0 : List (List Int)) (a1 : Int) (r1 : Int) (r2 : List (List Int)) (w0 w : World) (hB : Below w0.heap.size w0 w) (ho0 : Kd.S (Kd.slice 3 (Kd.int .i64)) 31 w w0.heap.size P0_ u9000_ l0) (h : laws_markIntSS.f k l0 a1 = some (r1, r2)) :
  Calls Try.prog 19 #[u9000_, .int .i64 a1] w fun e w' => e = .returned (.int .i64 r1) ∧ Kd.S (Kd.slice 3 (Kd.int .i64)) 31 w' w0.heap.size (fun k_ => (P0_ k_ ∨ w.heap.size ≤ k_)) u9000_ r2 ∧ Below w0.heap.size w0 w' ∧ Kept w w' (fun k_ => P0_ k_) := by
 have HO0 := Aside0.mk (show Kd.S (Kd.slice 3 (Kd.int .i64)) 31 w w0.heap.size (fun k_ => (P0_ k_ ∨ w.heap.size ≤ k_)) u9000_ l0 from Kd.S_mono ho0 (fun k_ hk => (.inl hk)))
 have HK := Aside0.mk (Kept.refl w (fun k_ => P0_ k_))
 have HB := Aside0.mk hB
 clear hB ho0
 have H' := Aside0.mk (show laws_markIntSS.l0 k l0 a1 0 = some (r1, r2) from h)
 clear h
 go_enter Try.func19, Try.ntmps19
 go_wp2
 go_loopg [1, 5] k (fun kq v1 v5 w' => ∃ (x0_1 : List (List Int)) (x1_1 : Int) (x5_1 : Int), v1 = .int .i64 x1_1 ∧ v5 = .int .i64 x5_1 ∧ Aside0 (laws_markIntSS.l0 kq x0_1 x1_1 x5_1 = some (r1, r2)) ∧ Aside0 (kq ≤ k) ∧ Aside0 (Kd.S (Kd.slice 3 (Kd.int .i64)) 31 w' w0.heap.size (fun k_ => (P0_ k_ ∨ w.heap.size ≤ k_)) u9000_ x0_1) ∧ Aside0 (Kept w w' (fun k_ => P0_ k_)) ∧ Aside0 (Below w0.heap.size w0 w'))
 case atStart => exact ⟨l0, a1, 0, rfl, rfl, H', ⟨Nat.le_refl _⟩, HO0, HK, HB⟩
 case round =>
  clear H'
  try clear p2
  obtain ⟨x0_1, x1_1, x5_1, rfl, rfl, HA, HK1, HO_0, HK, HB⟩ := hrel
  cases gk with
  | zero => exact absurd HA.out (by simp [laws_markIntSS.l0])
  | succ k1 =>
   have H := HA.out
   clear HA
   simp only [laws_markIntSS.l0] at H
   obtain ⟨Ao6, co6, eo6⟩ := Kd.R_slice (Kd.S_R HO_0.out)
   subst eo6
   by_cases c3 : x5_1 < (x0_1.length : Int)
   ·rw [if_pos c3] at H
    have c3b0 : decide (x5_1 < (x0_1.length : Int)) = true := decide_eq_true c3
    by_cases c4 : 0 ≤ x5_1
    ·rw [if_pos c4] at H
     obtain ⟨⟨t1, t2⟩, A50, H⟩ := Option.bind_eq_some_iff.mp H
     have p5 : 0 ≤ (x5_1 : Int) := c4
     have q5 : x5_1 < (x0_1.length : Int) := c3
     obtain ⟨g, cap, v, eu, hcell, hcall⟩ := laws_markIntSS.row HB.out HO_0.out c4 c3 A50
     injection eu with e1 _ e3
     subst e1
     subst e3
     have HC := Aside0.mk hcall
     have H' := Aside0.mk (show laws_markIntSS.l0 k1 (x0_1.set x5_1.toNat t2) t1 (wrap64 (x5_1 + 1)) = some (r1, r2) from H)
     clear H hcall A50 c3 c4
     replace p5 := eq_true p5
     replace q5 := eq_true q5
     go_wp2_with (first | ((with_reducible refine gate_callee (f := 30) rfl ?_); refine goesL_ (some 17) rfl rfl Try.func30 (by kernel_rfl) rfl #[v, .int .i64 x1_1] rfl (by (try simp only [List.map_toArray, List.map_cons, List.map_nil]); first | done | rfl) ?_; (with_reducible refine HC.out.mono ?_); rintro e w4 ⟨rfl, hs4, hb4, hk4⟩; refine ⟨_, rfl, ?_⟩; have HS4 := Aside0.mk (Kd.S_mono (ok' := fun k_ => (P0_ k_ ∨ w.heap.size ≤ k_)) hs4 (fun k_ hk => hk.elim id (fun hk => .inr (Nat.le_trans HK.out.1 hk)))); have HB4 := Aside0.mk hb4; have HK4 := Aside0.mk (show Kept w w4 (fun k_ => P0_ k_) from ⟨Nat.le_trans HK.out.1 hk4.1, fun j hj hn => (hk4.2 j (Nat.lt_of_lt_of_le hj HK.out.1) (fun hk => hk.elim hn (fun hk => absurd hk (Nat.not_le.2 hj)))).trans (HK.out.2 j hj hn)⟩); clear hs4 hb4 hk4))
     go_roundg k1
     case measure => have := HK1.out; omega
     case rel => exact ⟨x0_1.set x5_1.toNat t2, t1, wrap64 (x5_1 + 1), (by first | rfl | (simp; done) | (simp [*]; done)), (by first | rfl | (simp; done) | (simp [*]; done)), H', ⟨by have := HK1.out; omega⟩, HS4, HK4, HB4⟩
    ·rw [if_neg c4] at H
     exact absurd H (by simp)
   ·rw [if_neg c3] at H
    have c3b0 : decide (x5_1 < (x0_1.length : Int)) = false := decide_eq_false c3
    simp only [Option.some.injEq, Prod.mk.injEq] at H
    obtain ⟨rfl, rfl⟩ := H
    go_wp2
    go_ret
    exact ⟨rfl, HO_0.out, HB.out, HK.out⟩
end Go.Proofs.Ytbjnkcfkhonkhaa.Pr
end
section
namespace Go.Proofs.Ytbjnkcfkhonkhaa.Pr
open Go.RowKit Go.Proofs.YtbjnkcfkhonkhaaW.PrintWords Go.Proofs.YtbjnkcfkhonkhaaW.PrintLast Go.Proofs.YtbjnkcfkhonkhaaW.PrintMore
attribute [local go_sem] max2_int min2_int max_two min_two max_three min_three max_four min_four
set_option linter.unusedVariables false
set_option linter.unusedSimpArgs false
def laws_heldIntS.l0 : Nat → List Int → Int → Int → Option (Int)
 | 0, _, _, _ => none
 | k + 1, x0, x1, x5 => if x5 < (x0.length : Int) then (if 0 ≤ x5 then (if (rd x0 x5) = x1 then (laws_heldIntS.l0 k x0 (wrap64 (x1 + 1)) (wrap64 (x5 + 1))) else (some (-1))) else (none)) else (some x1)
def laws_heldIntS.f (k : Nat) (l0 : List Int) (a1 : Int) : Option (Int) := laws_heldIntS.l0 k l0 a1 0
set_option maxHeartbeats 8000000 in
set_option maxRecDepth 100000 in
theorem laws_heldIntS.calls (k : Nat) (A0 : Option Addr) (c0 : Nat) (l0 : List Int) (a1 : Int) (r : Int) (w : World) (hr0 : Kd.C (Kd.int .i64) w A0 l0.length l0) (hc0 : l0.length ≤ c0) (h : laws_heldIntS.f k l0 a1 = some r) :
  Calls Try.prog 31 #[.slice A0 l0.length c0, .int .i64 a1] w fun e w' => e = .returned (.int .i64 r) ∧ Drawn0 w w' := by
 have HR0 := Aside0.mk hr0
 have HC0 := Aside0.mk hc0
 clear hr0 hc0
 have H : (laws_heldIntS.l0 k l0 a1 0) = some r := h
 clear h
 have H' := Aside0.mk H
 clear H
 go_enter Try.func31, Try.ntmps31
 go_wp2
 go_loopg [1, 5] k (fun kq v1 v5 w' => ∃ (x1_1 : Int) (x5_1 : Int), v1 = .int .i64 x1_1 ∧ v5 = .int .i64 x5_1 ∧ Aside0 (laws_heldIntS.l0 kq l0 x1_1 x5_1 = some r) ∧ Aside0 (kq ≤ k) ∧ Drawn0 w w')
 case atStart => exact ⟨(a1), (0), (by first | rfl | (simp; done) | (simp [*]; done)), (by first | rfl | (simp; done) | (simp [*]; done)), H', ⟨Nat.le_refl _⟩, by repeat (first | exact Drawn0.refl _ | apply Drawn0.step)⟩
 case round =>
  clear H'
  try clear p2
  obtain ⟨x1_1, x5_1, rfl, rfl, HA, HK1, ⟨m1, rfl⟩⟩ := hrel
  cases gk with
  | zero => exact absurd HA.out (by simp [laws_heldIntS.l0])
  | succ k1 =>
   have H := HA.out
   clear HA
   simp only [laws_heldIntS.l0] at H
   by_cases c3 : x5_1 < (l0.length : Int)
   ·rw [if_pos c3] at H
    have c3b0 : decide (x5_1 < (l0.length : Int)) = true := decide_eq_true c3
    clear c3
    by_cases c4 : 0 ≤ x5_1
    ·rw [if_pos c4] at H
     have c4b0 : decide (0 ≤ x5_1) = true := decide_eq_true c4
     clear c4
     by_cases c5 : (rd l0 x5_1) = x1_1
     ·rw [if_pos c5] at H
      have c5b0 : ((rd l0 x5_1) == x1_1) = true := beq_iff_eq.mpr c5
      have c5b1 : ((rd l0 x5_1) != x1_1) = false := bne_eq_false_iff_eq.mpr c5
      clear c5
      have H' := Aside0.mk H
      clear H
      have p167 : 0 ≤ (x5_1 : Int) := of_decide_eq_true (by first | (with_reducible assumption) | assumption)
      have q167 : x5_1 < (l0.length : Int) := of_decide_eq_true (by first | (with_reducible assumption) | assumption)
      obtain ⟨ad167, e167, hx167_0⟩ := Kd.at_int HR0.out x5_1 p167 q167
      cases e167
      replace p167 := eq_true p167
      replace q167 := eq_true q167
      go_wp2
      go_roundg k1
      case measure => have := HK1.out; omega
      case rel => exact ⟨(wrap64 (x1_1 + 1)), (wrap64 (x5_1 + 1)), (by first | rfl | (simp; done) | (simp [*]; done)), (by first | rfl | (simp; done) | (simp [*]; done)), H', ⟨by have := HK1.out; omega⟩, by repeat (first | exact Drawn0.refl _ | apply Drawn0.step)⟩
     ·rw [if_neg c5] at H
      have c5b0 : ((rd l0 x5_1) == x1_1) = false := beq_eq_false_iff_ne.mpr c5
      have c5b1 : ((rd l0 x5_1) != x1_1) = true := bne_iff_ne.mpr c5
      obtain rfl := Option.some.inj H
      have p167 : 0 ≤ (x5_1 : Int) := of_decide_eq_true (by first | (with_reducible assumption) | assumption)
      have q167 : x5_1 < (l0.length : Int) := of_decide_eq_true (by first | (with_reducible assumption) | assumption)
      obtain ⟨ad167, e167, hx167_0⟩ := Kd.at_int HR0.out x5_1 p167 q167
      cases e167
      replace p167 := eq_true p167
      replace q167 := eq_true q167
      go_wp2
      go_ret
      exact ⟨by first | rfl | (simp; done) | (simp [*]; done), by repeat (first | exact Drawn0.refl _ | apply Drawn0.step)⟩
    ·rw [if_neg c4] at H
     exact absurd H (by simp)
   ·rw [if_neg c3] at H
    have c3b0 : decide (x5_1 < (l0.length : Int)) = false := decide_eq_false c3
    clear c3
    obtain rfl := Option.some.inj H
    go_wp2
    go_ret
    exact ⟨by first | rfl | (simp; done) | (simp [*]; done), by repeat (first | exact Drawn0.refl _ | apply Drawn0.step)⟩
end Go.Proofs.Ytbjnkcfkhonkhaa.Pr
end
section
namespace Go.Proofs.Ytbjnkcfkhonkhaa.Pr
open Go.RowKit Go.Proofs.YtbjnkcfkhonkhaaW.PrintWords Go.Proofs.YtbjnkcfkhonkhaaW.PrintLast Go.Proofs.YtbjnkcfkhonkhaaW.PrintMore
attribute [local go_sem] max2_int min2_int max_two min_two max_three min_three max_four min_four
set_option linter.unusedVariables false
set_option linter.unusedSimpArgs false
def laws_heldIntSS.l0 : Nat → List (List Int) → Int → Int → Option (Int)
 | 0, _, _, _ => none
 | k + 1, x0, x1, x5 => if x5 < (x0.length : Int) then (if 0 ≤ x5 then ((laws_heldIntS.f k (rd_L1 x0 x5) x1).bind fun t169 => (if t169 < 0 then (some (-1)) else (laws_heldIntSS.l0 k x0 t169 (wrap64 (x5 + 1))))) else (none)) else (some x1)
def laws_heldIntSS.f (k : Nat) (l0 : List (List Int)) (a1 : Int) : Option (Int) := laws_heldIntSS.l0 k l0 a1 0
set_option maxHeartbeats 8000000 in
set_option maxRecDepth 100000 in
theorem laws_heldIntSS.calls (k : Nat) (A0 : Option Addr) (c0 : Nat) (l0 : List (List Int)) (a1 : Int) (r : Int) (w : World) (hr0 : Kd.C (Kd.slice 3 (Kd.int .i64)) w A0 l0.length l0) (hc0 : l0.length ≤ c0) (h : laws_heldIntSS.f k l0 a1 = some r) :
  Calls Try.prog 20 #[.slice A0 l0.length c0, .int .i64 a1] w fun e w' => e = .returned (.int .i64 r) ∧ Drawn0 w w' := by
 have HR0 := Aside0.mk hr0
 have HC0 := Aside0.mk hc0
 clear hr0 hc0
 have H : (laws_heldIntSS.l0 k l0 a1 0) = some r := h
 clear h
 have H' := Aside0.mk H
 clear H
 go_enter Try.func20, Try.ntmps20
 go_wp2
 go_loopg [1, 5] k (fun kq v1 v5 w' => ∃ (x1_1 : Int) (x5_1 : Int), v1 = .int .i64 x1_1 ∧ v5 = .int .i64 x5_1 ∧ Aside0 (laws_heldIntSS.l0 kq l0 x1_1 x5_1 = some r) ∧ Aside0 (kq ≤ k) ∧ Drawn0 w w')
 case atStart => exact ⟨(a1), (0), (by first | rfl | (simp; done) | (simp [*]; done)), (by first | rfl | (simp; done) | (simp [*]; done)), H', ⟨Nat.le_refl _⟩, by repeat (first | exact Drawn0.refl _ | apply Drawn0.step)⟩
 case round =>
  clear H'
  try clear c2
  try clear p2
  obtain ⟨x1_1, x5_1, rfl, rfl, HA, HK1, ⟨m1, rfl⟩⟩ := hrel
  cases gk with
  | zero => exact absurd HA.out (by simp [laws_heldIntSS.l0])
  | succ k1 =>
   have H := HA.out
   clear HA
   simp only [laws_heldIntSS.l0] at H
   by_cases c3 : x5_1 < (l0.length : Int)
   ·rw [if_pos c3] at H
    have c3b0 : decide (x5_1 < (l0.length : Int)) = true := decide_eq_true c3
    clear c3
    by_cases c4 : 0 ≤ x5_1
    ·rw [if_pos c4] at H
     have c4b0 : decide (0 ≤ x5_1) = true := decide_eq_true c4
     clear c4
     replace H := Option.bind_eq_some_iff.mp H
     obtain ⟨t169, A50, H⟩ := H
     (try dsimp only at H)
     have A5 := Aside0.mk A50
     clear A50
     by_cases c6 : t169 < 0
     ·rw [if_pos c6] at H
      have c6b0 : decide (t169 < 0) = true := decide_eq_true c6
      clear c6
      obtain rfl := Option.some.inj H
      have p168 : 0 ≤ (x5_1 : Int) := of_decide_eq_true (by first | (with_reducible assumption) | assumption)
      have q168 : x5_1 < (l0.length : Int) := of_decide_eq_true (by first | (with_reducible assumption) | assumption)
      obtain ⟨ad168, A168_0, c168_0, e168, hx168_0, hl168_0, hi168_0⟩ := at_L1 HR0.out x5_1 p168 q168
      cases e168
      have HR168_0 := Aside0.mk hi168_0
      have HC168_0 := Aside0.mk hl168_0
      clear hi168_0 hl168_0
      replace p168 := eq_true p168
      replace q168 := eq_true q168
      go_wp2_with (first | ((with_reducible refine gate_callee (f := 31) rfl ?_); refine goesL_ (some 17) rfl rfl Try.func31 (by kernel_rfl) rfl #[.slice A168_0 (rd_L1 l0 x5_1).length c168_0, .int .i64 x1_1] rfl (by (try simp only [List.map_toArray, List.map_cons, List.map_nil]); first | done | rfl) ?_; (with_reducible refine (laws_heldIntS.calls k1 _ _ (rd_L1 l0 x5_1) x1_1 t169 _ ?side1 ?side2 A5.out).mono ?_); (case side1 => exact Hof.Cw HR168_0.out); (case side2 => exact HC168_0.out); rintro e w' ⟨rfl, ⟨nd, rfl⟩⟩; refine ⟨_, rfl, ?_⟩))
      go_ret
      exact ⟨by first | rfl | (simp; done) | (simp [*]; done), by repeat (first | exact Drawn0.refl _ | apply Drawn0.step)⟩
     ·rw [if_neg c6] at H
      have c6b0 : decide (t169 < 0) = false := decide_eq_false c6
      clear c6
      have H' := Aside0.mk H
      clear H
      have p168 : 0 ≤ (x5_1 : Int) := of_decide_eq_true (by first | (with_reducible assumption) | assumption)
      have q168 : x5_1 < (l0.length : Int) := of_decide_eq_true (by first | (with_reducible assumption) | assumption)
      obtain ⟨ad168, A168_0, c168_0, e168, hx168_0, hl168_0, hi168_0⟩ := at_L1 HR0.out x5_1 p168 q168
      cases e168
      have HR168_0 := Aside0.mk hi168_0
      have HC168_0 := Aside0.mk hl168_0
      clear hi168_0 hl168_0
      replace p168 := eq_true p168
      replace q168 := eq_true q168
      go_wp2_with (first | ((with_reducible refine gate_callee (f := 31) rfl ?_); refine goesL_ (some 17) rfl rfl Try.func31 (by kernel_rfl) rfl #[.slice A168_0 (rd_L1 l0 x5_1).length c168_0, .int .i64 x1_1] rfl (by (try simp only [List.map_toArray, List.map_cons, List.map_nil]); first | done | rfl) ?_; (with_reducible refine (laws_heldIntS.calls k1 _ _ (rd_L1 l0 x5_1) x1_1 t169 _ ?side1 ?side2 A5.out).mono ?_); (case side1 => exact Hof.Cw HR168_0.out); (case side2 => exact HC168_0.out); rintro e w' ⟨rfl, ⟨nd, rfl⟩⟩; refine ⟨_, rfl, ?_⟩))
      go_roundg k1
      case measure => have := HK1.out; omega
      case rel => exact ⟨(t169), (wrap64 (x5_1 + 1)), (by first | rfl | (simp; done) | (simp [*]; done)), (by first | rfl | (simp; done) | (simp [*]; done)), H', ⟨by have := HK1.out; omega⟩, by repeat (first | exact Drawn0.refl _ | apply Drawn0.step)⟩
    ·rw [if_neg c4] at H
     exact absurd H (by simp)
   ·rw [if_neg c3] at H
    have c3b0 : decide (x5_1 < (l0.length : Int)) = false := decide_eq_false c3
    clear c3
    obtain rfl := Option.some.inj H
    go_wp2
    go_ret
    exact ⟨by first | rfl | (simp; done) | (simp [*]; done), by repeat (first | exact Drawn0.refl _ | apply Drawn0.step)⟩
end Go.Proofs.Ytbjnkcfkhonkhaa.Pr
end
section
namespace Go.Proofs.Ytbjnkcfkhonkhaa.Pr
open Go.RowKit Go.Proofs.YtbjnkcfkhonkhaaW.PrintWords Go.Proofs.YtbjnkcfkhonkhaaW.PrintLast Go.Proofs.YtbjnkcfkhonkhaaW.PrintMore
attribute [local go_sem] max2_int min2_int max_two min_two max_three min_three max_four min_four
set_option linter.unusedVariables false
set_option linter.unusedSimpArgs false
def laws_FnExactShiftTable.f (k : Nat) (l0 : List (List Int)) (a1 : Int) (a2 : Int) : Option Bool := (laws_szIntSS.f k l0 1048576).bind fun z => if z < 0 then some true else ((laws_toIntSS.f k l0).bind fun b => (spec_ShiftTable.f k b a1 a2).bind fun v => (laws_toIntSS.f k l0).bind fun x => (impl_ShiftTable.f k x a1 a2).bind fun g => (laws_eqIntSS.f k g v).bind fun e1 => if e1 = true then ((laws_toIntSS.f k l0).bind fun y => (laws_eqIntSS.f k x y).bind fun e2 => if e2 = true then ((laws_markIntSS.f k x 1).bind fun m => if m.1 < 0 then none else ((laws_markIntSS.f k g 1).bind fun q => (laws_heldIntSS.f k q.2 1).bind fun t => if t < 0 then none else (if t = q.1 then ((laws_toIntSS.f k l0).bind fun d => (impl_ShiftTable.f k d a1 a2).bind fun h => (laws_eqIntSS.f k h v).bind fun e3 => if e3 = true then some true else none) else none))) else none) else none)
set_option maxHeartbeats 8000000 in
set_option maxRecDepth 100000 in
theorem laws_FnExactShiftTable.calls (k : Nat) (A0 : Option Addr) (c0 : Nat) (l0 : List (List Int)) (a1 : Int) (a2 : Int) (r : Bool) (w : World) (hr0 : Kd.C (Kd.slice 3 (Kd.int .i64)) w A0 l0.length l0) (hc0 : l0.length ≤ c0) (hT : Aside0 (r = true)) (h : laws_FnExactShiftTable.f k l0 a1 a2 = some r) :
  Calls Try.prog 3 #[.slice A0 l0.length c0, .int .i64 a1, .int .i64 a2] w fun e w' => e = .returned (.bool r) ∧ Below w.heap.size w w' := by
 have HR := Aside0.mk hr0
 have HC := Aside0.mk hc0
 have HB := Aside0.mk (Below.refl w.heap.size w)
 clear hr0 hc0
 unfold laws_FnExactShiftTable.f at h
 replace h := Option.bind_eq_some_iff.mp h
 obtain ⟨z, h0, h⟩ := h
 have H0 := Aside0.mk h0
 clear h0
 by_cases c : z < 0
 ·rw [if_pos c] at h
  obtain rfl := Option.some.inj h
  have c0_ : decide (z < 0) = true := decide_eq_true c
  clear c h
  go_enter Try.func3, Try.ntmps3
  go_wp2_with (first | ((with_reducible refine gate_dst (N := 17) rfl ?_); refine goesL_ (some 17) rfl rfl Try.func14 (by kernel_rfl) rfl #[.slice A0 l0.length c0, .int .i64 1048576] rfl (by (try simp only [List.map_toArray, List.map_cons, List.map_nil]); first | done | rfl) ?_; (with_reducible refine (laws_szIntSS.calls k _ _ l0 1048576 z _ (Kd.C_below HR.out HB.out) HC.out H0.out).mono ?_); rintro e w101 ⟨rfl, hd_⟩; refine ⟨_, rfl, ?_⟩; have hb := hd_.below; clear hd_; replace HB := Aside0.mk (below_step HB.out hb); have HZ1 := Aside0.mk (show w.heap.size ≤ w101.heap.size from hb.size); clear hb))
  go_ret
  exact ⟨rfl, HB.out⟩
 ·rw [if_neg c] at h
  have c0_ : decide (z < 0) = false := decide_eq_false c
  clear c
  replace h := Option.bind_eq_some_iff.mp h
  obtain ⟨b, h1, h⟩ := h
  replace h := Option.bind_eq_some_iff.mp h
  obtain ⟨v, h2, h⟩ := h
  replace h := Option.bind_eq_some_iff.mp h
  obtain ⟨x, h3, h⟩ := h
  replace h := Option.bind_eq_some_iff.mp h
  obtain ⟨g, h4, h⟩ := h
  replace h := Option.bind_eq_some_iff.mp h
  obtain ⟨e1, h5, h⟩ := h
  by_cases d1 : e1 = true
  case neg => rw [if_neg d1] at h; exact absurd h (by simp)
  subst d1
  rw [if_pos rfl] at h
  replace h := Option.bind_eq_some_iff.mp h
  obtain ⟨y, h6, h⟩ := h
  replace h := Option.bind_eq_some_iff.mp h
  obtain ⟨e2, h7, h⟩ := h
  by_cases d2 : e2 = true
  case neg => rw [if_neg d2] at h; exact absurd h (by simp)
  subst d2
  rw [if_pos rfl] at h
  replace h := Option.bind_eq_some_iff.mp h
  obtain ⟨⟨m1, m2⟩, h8, h⟩ := h
  by_cases d3 : m1 < 0
  case pos => rw [if_pos d3] at h; exact absurd h (by simp)
  rw [if_neg d3] at h
  replace h := Option.bind_eq_some_iff.mp h
  obtain ⟨⟨q1, q2⟩, h9, h⟩ := h
  replace h := Option.bind_eq_some_iff.mp h
  obtain ⟨t, h10, h⟩ := h
  by_cases d4 : t < 0
  case pos => rw [if_pos d4] at h; exact absurd h (by simp)
  rw [if_neg d4] at h
  by_cases d5 : t = q1
  case neg => rw [if_neg d5] at h; exact absurd h (by simp)
  rw [if_pos d5] at h
  subst d5
  replace h := Option.bind_eq_some_iff.mp h
  obtain ⟨d, h11, h⟩ := h
  replace h := Option.bind_eq_some_iff.mp h
  obtain ⟨hh, h12, h⟩ := h
  replace h := Option.bind_eq_some_iff.mp h
  obtain ⟨e3, h13, h⟩ := h
  by_cases d6 : e3 = true
  case neg => rw [if_neg d6] at h; exact absurd h (by simp)
  subst d6
  obtain rfl := Option.some.inj h
  have H1 := Aside0.mk h1
  have H2 := Aside0.mk h2
  have H3 := Aside0.mk h3
  have H4 := Aside0.mk h4
  have H5 := Aside0.mk h5
  have H6 := Aside0.mk h6
  have H7 := Aside0.mk h7
  have H8 := Aside0.mk h8
  have H9 := Aside0.mk h9
  have H10 := Aside0.mk h10
  have H11 := Aside0.mk h11
  have H12 := Aside0.mk h12
  have H13 := Aside0.mk h13
  have d3_ : decide (m1 < 0) = false := decide_eq_false d3
  have d4_ : decide (t < 0) = false := decide_eq_false d4
  clear h h1 h2 h3 h4 h5 h6 h7 h8 h9 h10 h11 h12 h13 d3 d4
  go_enter Try.func3, Try.ntmps3
  go_wp2_with (first | ((with_reducible refine gate_dst (N := 17) rfl ?_); refine goesL_ (some 17) rfl rfl Try.func14 (by kernel_rfl) rfl #[.slice A0 l0.length c0, .int .i64 1048576] rfl (by (try simp only [List.map_toArray, List.map_cons, List.map_nil]); first | done | rfl) ?_; (with_reducible refine (laws_szIntSS.calls k _ _ l0 1048576 z _ (Kd.C_below HR.out HB.out) HC.out H0.out).mono ?_); rintro e w101 ⟨rfl, hd_⟩; refine ⟨_, rfl, ?_⟩; have hb := hd_.below; clear hd_; replace HB := Aside0.mk (below_step HB.out hb); have HZ1 := Aside0.mk (show w.heap.size ≤ w101.heap.size from hb.size); clear hb) | ((with_reducible refine gate_dst (N := 21) rfl ?_); refine goesL_ (some 21) rfl rfl Try.func16 (by kernel_rfl) rfl #[.slice A0 l0.length c0] rfl (by (try simp only [List.map_toArray, List.map_cons, List.map_nil]); first | done | rfl) ?_; (with_reducible refine (laws_toIntSS.calls k _ _ l0 b _ (Kd.C_below HR.out HB.out) HC.out H1.out).mono ?_); rintro e w102 ⟨vb, rfl, ho0, hb⟩; refine ⟨_, rfl, ?_⟩; have Nb := Aside0.mk (Kd.S_lower (Kd.S_mono (ok' := fun k_ => w101.heap.size ≤ k_ ∧ k_ < w102.heap.size) (Kd.S_bound ho0) (fun _ hk => ⟨hk.2.1, hk.2.2.1⟩)) (below_size HB.out)); replace HB := Aside0.mk (below_step HB.out hb); have HZ2 := Aside0.mk (show w101.heap.size ≤ w102.heap.size from hb.size); have HOb := Nb; clear Nb ho0 hb; obtain ⟨Ab, cb, e_⟩ := Kd.S_slice HOb.out; subst e_) | ((with_reducible refine gate_dst (N := 24) rfl ?_); refine goesL_ (some 24) rfl rfl Try.func15 (by kernel_rfl) rfl #[.slice Ab b.length cb, .int .i64 a1, .int .i64 a2] rfl (by (try simp only [List.map_toArray, List.map_cons, List.map_nil]); first | done | rfl) ?_; (with_reducible refine (spec_ShiftTable.calls k _ _ b a1 a2 v _ (Kd.S_reads' HOb.out).2.2 (Kd.S_reads' HOb.out).2.1 H2.out).mono ?_); rintro e w103 ⟨vv, rfl, ho0, hb⟩; refine ⟨_, rfl, ?_⟩; have Nv := Aside0.mk (Kd.S_lower (Kd.S_mono (ok' := fun k_ => w102.heap.size ≤ k_ ∧ k_ < w103.heap.size) (Kd.S_bound ho0) (fun _ hk => ⟨hk.2.1, hk.2.2.1⟩)) (below_size HB.out)); replace HOb := Aside0.mk (Kd.S_below HOb.out hb); replace HB := Aside0.mk (below_step HB.out hb); have HZ3 := Aside0.mk (show w102.heap.size ≤ w103.heap.size from hb.size); have HOv := Nv; clear Nv ho0 hb; obtain ⟨Av, cv, e_⟩ := Kd.S_slice HOv.out; subst e_) | ((with_reducible refine gate_dst (N := 26) rfl ?_); refine goesL_ (some 26) rfl rfl Try.func16 (by kernel_rfl) rfl #[.slice A0 l0.length c0] rfl (by (try simp only [List.map_toArray, List.map_cons, List.map_nil]); first | done | rfl) ?_; (with_reducible refine (laws_toIntSS.calls k _ _ l0 x _ (Kd.C_below HR.out HB.out) HC.out H3.out).mono ?_); rintro e w104 ⟨vx, rfl, ho0, hb⟩; refine ⟨_, rfl, ?_⟩; have Nx := Aside0.mk (Kd.S_lower (Kd.S_mono (ok' := fun k_ => w103.heap.size ≤ k_ ∧ k_ < w104.heap.size) (Kd.S_bound ho0) (fun _ hk => ⟨hk.2.1, hk.2.2.1⟩)) (below_size HB.out)); replace HOb := Aside0.mk (Kd.S_below HOb.out hb); replace HOv := Aside0.mk (Kd.S_below HOv.out hb); replace HB := Aside0.mk (below_step HB.out hb); have HZ4 := Aside0.mk (show w103.heap.size ≤ w104.heap.size from hb.size); have HOx := Nx; clear Nx ho0 hb; obtain ⟨Ax, cx, e_⟩ := Kd.S_slice HOx.out; subst e_) | ((with_reducible refine gate_dst (N := 30) rfl ?_); refine goesL_ (some 30) rfl rfl Try.func17 (by kernel_rfl) rfl #[.slice Ax x.length cx, .int .i64 a1, .int .i64 a2] rfl (by (try simp only [List.map_toArray, List.map_cons, List.map_nil]); first | done | rfl) ?_; (with_reducible refine (impl_ShiftTable.calls k _ _ x a1 a2 g _ (Kd.S_reads' HOx.out).2.2 (Kd.S_reads' HOx.out).2.1 H4.out).mono ?_); rintro e w105 ⟨vg, rfl, ho0, hb⟩; refine ⟨_, rfl, ?_⟩; have Ng := Aside0.mk (Kd.S_lower (Kd.S_mono (ok' := fun k_ => w104.heap.size ≤ k_ ∧ k_ < w105.heap.size) (Kd.S_bound ho0) (fun _ hk => ⟨hk.2.1, hk.2.2.1⟩)) (below_size HB.out)); replace HOb := Aside0.mk (Kd.S_below HOb.out hb); replace HOv := Aside0.mk (Kd.S_below HOv.out hb); replace HOx := Aside0.mk (Kd.S_below HOx.out hb); replace HB := Aside0.mk (below_step HB.out hb); have HZ5 := Aside0.mk (show w104.heap.size ≤ w105.heap.size from hb.size); have HOg := Ng; clear Ng ho0 hb; obtain ⟨Ag, cg, e_⟩ := Kd.S_slice HOg.out; subst e_) | ((with_reducible refine gate_dst (N := 33) rfl ?_); refine goesL_ (some 33) rfl rfl Try.func18 (by kernel_rfl) rfl #[.slice Ag g.length cg, .slice Av v.length cv] rfl (by (try simp only [List.map_toArray, List.map_cons, List.map_nil]); first | done | rfl) ?_; (with_reducible refine (laws_eqIntSS.calls k _ _ g _ _ v true _ (Kd.S_reads' HOg.out).2.2 (Kd.S_reads' HOg.out).2.1 (Kd.S_reads' HOv.out).2.2 (Kd.S_reads' HOv.out).2.1 H5.out).mono ?_); rintro e w106 ⟨rfl, hd_⟩; refine ⟨_, rfl, ?_⟩; have hb := hd_.below; clear hd_; replace HOb := Aside0.mk (Kd.S_below HOb.out hb); replace HOv := Aside0.mk (Kd.S_below HOv.out hb); replace HOx := Aside0.mk (Kd.S_below HOx.out hb); replace HOg := Aside0.mk (Kd.S_below HOg.out hb); replace HB := Aside0.mk (below_step HB.out hb); have HZ6 := Aside0.mk (show w105.heap.size ≤ w106.heap.size from hb.size); clear hb) | ((with_reducible refine gate_dst (N := 37) rfl ?_); refine goesL_ (some 37) rfl rfl Try.func16 (by kernel_rfl) rfl #[.slice A0 l0.length c0] rfl (by (try simp only [List.map_toArray, List.map_cons, List.map_nil]); first | done | rfl) ?_; (with_reducible refine (laws_toIntSS.calls k _ _ l0 y _ (Kd.C_below HR.out HB.out) HC.out H6.out).mono ?_); rintro e w107 ⟨vy, rfl, ho0, hb⟩; refine ⟨_, rfl, ?_⟩; have Ny := Aside0.mk (Kd.S_lower (Kd.S_mono (ok' := fun k_ => w106.heap.size ≤ k_ ∧ k_ < w107.heap.size) (Kd.S_bound ho0) (fun _ hk => ⟨hk.2.1, hk.2.2.1⟩)) (below_size HB.out)); replace HOb := Aside0.mk (Kd.S_below HOb.out hb); replace HOv := Aside0.mk (Kd.S_below HOv.out hb); replace HOx := Aside0.mk (Kd.S_below HOx.out hb); replace HOg := Aside0.mk (Kd.S_below HOg.out hb); replace HB := Aside0.mk (below_step HB.out hb); have HZ7 := Aside0.mk (show w106.heap.size ≤ w107.heap.size from hb.size); have HOy := Ny; clear Ny ho0 hb; obtain ⟨Ay, cy, e_⟩ := Kd.S_slice HOy.out; subst e_) | ((with_reducible refine gate_dst (N := 38) rfl ?_); refine goesL_ (some 38) rfl rfl Try.func18 (by kernel_rfl) rfl #[.slice Ax x.length cx, .slice Ay y.length cy] rfl (by (try simp only [List.map_toArray, List.map_cons, List.map_nil]); first | done | rfl) ?_; (with_reducible refine (laws_eqIntSS.calls k _ _ x _ _ y true _ (Kd.S_reads' HOx.out).2.2 (Kd.S_reads' HOx.out).2.1 (Kd.S_reads' HOy.out).2.2 (Kd.S_reads' HOy.out).2.1 H7.out).mono ?_); rintro e w108 ⟨rfl, hd_⟩; refine ⟨_, rfl, ?_⟩; have hb := hd_.below; clear hd_; replace HOb := Aside0.mk (Kd.S_below HOb.out hb); replace HOv := Aside0.mk (Kd.S_below HOv.out hb); replace HOx := Aside0.mk (Kd.S_below HOx.out hb); replace HOg := Aside0.mk (Kd.S_below HOg.out hb); replace HOy := Aside0.mk (Kd.S_below HOy.out hb); replace HB := Aside0.mk (below_step HB.out hb); have HZ8 := Aside0.mk (show w107.heap.size ≤ w108.heap.size from hb.size); clear hb) | ((with_reducible refine gate_dst (N := 42) rfl ?_); refine goesL_ (some 42) rfl rfl Try.func19 (by kernel_rfl) rfl #[.slice Ax x.length cx, .int .i64 1] rfl (by (try simp only [List.map_toArray, List.map_cons, List.map_nil]); first | done | rfl) ?_; (with_reducible refine (laws_markIntSS.calls k (fun k_ => w103.heap.size ≤ k_ ∧ k_ < w104.heap.size) _ x 1 m1 m2 w _ HB.out HOx.out H8.out).mono ?_); rintro e w109 ⟨rfl, hs0, hb, hkp⟩; refine ⟨_, rfl, ?_⟩; replace HOb := Aside0.mk (Kd.S_kept HOb.out hkp (fun k_ (hk_ : w101.heap.size ≤ k_ ∧ k_ < w102.heap.size) (hs_ : w103.heap.size ≤ k_ ∧ k_ < w104.heap.size) => by have := HZ1.out; have := HZ2.out; have := HZ3.out; have := HZ4.out; have := HZ5.out; have := HZ6.out; have := HZ7.out; have := HZ8.out; omega)); replace HOv := Aside0.mk (Kd.S_kept HOv.out hkp (fun k_ (hk_ : w102.heap.size ≤ k_ ∧ k_ < w103.heap.size) (hs_ : w103.heap.size ≤ k_ ∧ k_ < w104.heap.size) => by have := HZ1.out; have := HZ2.out; have := HZ3.out; have := HZ4.out; have := HZ5.out; have := HZ6.out; have := HZ7.out; have := HZ8.out; omega)); replace HOg := Aside0.mk (Kd.S_kept HOg.out hkp (fun k_ (hk_ : w104.heap.size ≤ k_ ∧ k_ < w105.heap.size) (hs_ : w103.heap.size ≤ k_ ∧ k_ < w104.heap.size) => by have := HZ1.out; have := HZ2.out; have := HZ3.out; have := HZ4.out; have := HZ5.out; have := HZ6.out; have := HZ7.out; have := HZ8.out; omega)); replace HOy := Aside0.mk (Kd.S_kept HOy.out hkp (fun k_ (hk_ : w106.heap.size ≤ k_ ∧ k_ < w107.heap.size) (hs_ : w103.heap.size ≤ k_ ∧ k_ < w104.heap.size) => by have := HZ1.out; have := HZ2.out; have := HZ3.out; have := HZ4.out; have := HZ5.out; have := HZ6.out; have := HZ7.out; have := HZ8.out; omega)); clear HOx; have HZ9 := Aside0.mk (show w108.heap.size ≤ w109.heap.size from hkp.1); replace HB := Aside0.mk hb; clear hs0 hb hkp) | (go_at_call 18; (with_reducible refine (laws_eqIntSS.calls k _ _ g _ _ v true _ (Kd.S_reads' HOg.out).2.2 (Kd.S_reads' HOg.out).2.1 (Kd.S_reads' HOv.out).2.2 (Kd.S_reads' HOv.out).2.1 H5.out).mono ?_); rintro e w110 ⟨rfl, hd_⟩; have hb := hd_.below; clear hd_; replace HOb := Aside0.mk (Kd.S_below HOb.out hb); replace HOv := Aside0.mk (Kd.S_below HOv.out hb); replace HOg := Aside0.mk (Kd.S_below HOg.out hb); replace HOy := Aside0.mk (Kd.S_below HOy.out hb); replace HB := Aside0.mk (below_step HB.out hb); have HZ10 := Aside0.mk (show w109.heap.size ≤ w110.heap.size from hb.size); clear hb) | ((with_reducible refine gate_dst (N := 53) rfl ?_); refine goesL_ (some 53) rfl rfl Try.func19 (by kernel_rfl) rfl #[.slice Ag g.length cg, .int .i64 1] rfl (by (try simp only [List.map_toArray, List.map_cons, List.map_nil]); first | done | rfl) ?_; (with_reducible refine (laws_markIntSS.calls k (fun k_ => w104.heap.size ≤ k_ ∧ k_ < w105.heap.size) _ g 1 t q2 w _ HB.out HOg.out H9.out).mono ?_); rintro e w111 ⟨rfl, hs0, hb, hkp⟩; refine ⟨_, rfl, ?_⟩; replace HOb := Aside0.mk (Kd.S_kept HOb.out hkp (fun k_ (hk_ : w101.heap.size ≤ k_ ∧ k_ < w102.heap.size) (hs_ : w104.heap.size ≤ k_ ∧ k_ < w105.heap.size) => by have := HZ1.out; have := HZ2.out; have := HZ3.out; have := HZ4.out; have := HZ5.out; have := HZ6.out; have := HZ7.out; have := HZ8.out; have := HZ9.out; have := HZ10.out; omega)); replace HOv := Aside0.mk (Kd.S_kept HOv.out hkp (fun k_ (hk_ : w102.heap.size ≤ k_ ∧ k_ < w103.heap.size) (hs_ : w104.heap.size ≤ k_ ∧ k_ < w105.heap.size) => by have := HZ1.out; have := HZ2.out; have := HZ3.out; have := HZ4.out; have := HZ5.out; have := HZ6.out; have := HZ7.out; have := HZ8.out; have := HZ9.out; have := HZ10.out; omega)); replace HOy := Aside0.mk (Kd.S_kept HOy.out hkp (fun k_ (hk_ : w106.heap.size ≤ k_ ∧ k_ < w107.heap.size) (hs_ : w104.heap.size ≤ k_ ∧ k_ < w105.heap.size) => by have := HZ1.out; have := HZ2.out; have := HZ3.out; have := HZ4.out; have := HZ5.out; have := HZ6.out; have := HZ7.out; have := HZ8.out; have := HZ9.out; have := HZ10.out; omega)); replace HOg := Aside0.mk hs0; have HLg := Aside0.mk (Kd.S_reads' HOg.out).1; have HZ11 := Aside0.mk (show w110.heap.size ≤ w111.heap.size from hkp.1); replace HB := Aside0.mk hb; clear hs0 hb hkp) | ((with_reducible refine gate_dst (N := 56) rfl ?_); refine goesL_ (some 56) rfl rfl Try.func20 (by kernel_rfl) rfl #[.slice Ag g.length cg, .int .i64 1] rfl (by (try simp only [List.map_toArray, List.map_cons, List.map_nil]); first | done | rfl) ?_; (with_reducible refine (calls_of_args (args' := #[.slice Ag q2.length cg, .int .i64 1]) (by rw [HLg.out]) (laws_heldIntSS.calls k _ _ q2 1 t _ (Kd.S_reads' HOg.out).2.2 (by have h1_ := HLg.out; have h2_ := (Kd.S_reads' HOg.out).2.1; omega) H10.out)).mono ?_); rintro e w112 ⟨rfl, hd_⟩; refine ⟨_, rfl, ?_⟩; have hb := hd_.below; clear hd_; replace HOb := Aside0.mk (Kd.S_below HOb.out hb); replace HOv := Aside0.mk (Kd.S_below HOv.out hb); replace HOg := Aside0.mk (Kd.S_below HOg.out hb); replace HOy := Aside0.mk (Kd.S_below HOy.out hb); replace HB := Aside0.mk (below_step HB.out hb); have HZ12 := Aside0.mk (show w111.heap.size ≤ w112.heap.size from hb.size); clear hb) | ((with_reducible refine gate_dst (N := 63) rfl ?_); refine goesL_ (some 63) rfl rfl Try.func16 (by kernel_rfl) rfl #[.slice A0 l0.length c0] rfl (by (try simp only [List.map_toArray, List.map_cons, List.map_nil]); first | done | rfl) ?_; (with_reducible refine (laws_toIntSS.calls k _ _ l0 d _ (Kd.C_below HR.out HB.out) HC.out H11.out).mono ?_); rintro e w113 ⟨vd, rfl, ho0, hb⟩; refine ⟨_, rfl, ?_⟩; have Nd := Aside0.mk (Kd.S_lower (Kd.S_mono (ok' := fun k_ => w112.heap.size ≤ k_ ∧ k_ < w113.heap.size) (Kd.S_bound ho0) (fun _ hk => ⟨hk.2.1, hk.2.2.1⟩)) (below_size HB.out)); replace HOb := Aside0.mk (Kd.S_below HOb.out hb); replace HOv := Aside0.mk (Kd.S_below HOv.out hb); replace HOg := Aside0.mk (Kd.S_below HOg.out hb); replace HOy := Aside0.mk (Kd.S_below HOy.out hb); replace HB := Aside0.mk (below_step HB.out hb); have HZ13 := Aside0.mk (show w112.heap.size ≤ w113.heap.size from hb.size); have HOd := Nd; clear Nd ho0 hb; obtain ⟨Ad, cd, e_⟩ := Kd.S_slice HOd.out; subst e_) | ((with_reducible refine gate_dst (N := 66) rfl ?_); refine goesL_ (some 66) rfl rfl Try.func17 (by kernel_rfl) rfl #[.slice Ad d.length cd, .int .i64 a1, .int .i64 a2] rfl (by (try simp only [List.map_toArray, List.map_cons, List.map_nil]); first | done | rfl) ?_; (with_reducible refine (impl_ShiftTable.calls k _ _ d a1 a2 hh _ (Kd.S_reads' HOd.out).2.2 (Kd.S_reads' HOd.out).2.1 H12.out).mono ?_); rintro e w114 ⟨vh, rfl, ho0, hb⟩; refine ⟨_, rfl, ?_⟩; have Nh := Aside0.mk (Kd.S_lower (Kd.S_mono (ok' := fun k_ => w113.heap.size ≤ k_ ∧ k_ < w114.heap.size) (Kd.S_bound ho0) (fun _ hk => ⟨hk.2.1, hk.2.2.1⟩)) (below_size HB.out)); replace HOb := Aside0.mk (Kd.S_below HOb.out hb); replace HOv := Aside0.mk (Kd.S_below HOv.out hb); replace HOg := Aside0.mk (Kd.S_below HOg.out hb); replace HOy := Aside0.mk (Kd.S_below HOy.out hb); replace HOd := Aside0.mk (Kd.S_below HOd.out hb); replace HB := Aside0.mk (below_step HB.out hb); have HZ14 := Aside0.mk (show w113.heap.size ≤ w114.heap.size from hb.size); have HOh := Nh; clear Nh ho0 hb; obtain ⟨Ah, ch, e_⟩ := Kd.S_slice HOh.out; subst e_) | ((with_reducible refine gate_dst (N := 69) rfl ?_); refine goesL_ (some 69) rfl rfl Try.func18 (by kernel_rfl) rfl #[.slice Ah hh.length ch, .slice Av v.length cv] rfl (by (try simp only [List.map_toArray, List.map_cons, List.map_nil]); first | done | rfl) ?_; (with_reducible refine (laws_eqIntSS.calls k _ _ hh _ _ v true _ (Kd.S_reads' HOh.out).2.2 (Kd.S_reads' HOh.out).2.1 (Kd.S_reads' HOv.out).2.2 (Kd.S_reads' HOv.out).2.1 H13.out).mono ?_); rintro e w115 ⟨rfl, hd_⟩; refine ⟨_, rfl, ?_⟩; have hb := hd_.below; clear hd_; replace HOb := Aside0.mk (Kd.S_below HOb.out hb); replace HOv := Aside0.mk (Kd.S_below HOv.out hb); replace HOg := Aside0.mk (Kd.S_below HOg.out hb); replace HOy := Aside0.mk (Kd.S_below HOy.out hb); replace HOd := Aside0.mk (Kd.S_below HOd.out hb); replace HOh := Aside0.mk (Kd.S_below HOh.out hb); replace HB := Aside0.mk (below_step HB.out hb); have HZ15 := Aside0.mk (show w114.heap.size ≤ w115.heap.size from hb.size); clear hb) | ((with_reducible refine gate_dst (N := 73) rfl ?_); refine goesL_ (some 73) rfl rfl Try.func20 (by kernel_rfl) rfl #[.slice Ag g.length cg, .int .i64 1] rfl (by (try simp only [List.map_toArray, List.map_cons, List.map_nil]); first | done | rfl) ?_; (with_reducible refine (calls_of_args (args' := #[.slice Ag q2.length cg, .int .i64 1]) (by rw [HLg.out]) (laws_heldIntSS.calls k _ _ q2 1 t _ (Kd.S_reads' HOg.out).2.2 (by have h1_ := HLg.out; have h2_ := (Kd.S_reads' HOg.out).2.1; omega) H10.out)).mono ?_); rintro e w116 ⟨rfl, hd_⟩; refine ⟨_, rfl, ?_⟩; have hb := hd_.below; clear hd_; replace HOb := Aside0.mk (Kd.S_below HOb.out hb); replace HOv := Aside0.mk (Kd.S_below HOv.out hb); replace HOg := Aside0.mk (Kd.S_below HOg.out hb); replace HOy := Aside0.mk (Kd.S_below HOy.out hb); replace HOd := Aside0.mk (Kd.S_below HOd.out hb); replace HOh := Aside0.mk (Kd.S_below HOh.out hb); replace HB := Aside0.mk (below_step HB.out hb); have HZ16 := Aside0.mk (show w115.heap.size ≤ w116.heap.size from hb.size); clear hb))
  go_ret
  exact ⟨rfl, HB.out⟩
end Go.Proofs.Ytbjnkcfkhonkhaa.Pr
end
section
namespace Go.Proofs.Ytbjnkcfkhonkhaa.Gen
open Go.RowKit Go.Proofs.YtbjnkcfkhonkhaaW.PrintWords Go.Proofs.YtbjnkcfkhonkhaaW.PrintMore
theorem w64 {i : Int} (h0 : -9223372036854775808 ≤ i) (h1 : i ≤ 9223372036854775807) : wrap64 i = i := by
 unfold wrap64
 omega
theorem w64s (i : Nat) (h1 : i < 9223372036854775807) : wrap64 ((i : Int) + 1) = ((i + 1 : Nat) : Int) := by
 unfold wrap64
 omega
theorem rd_nat (xs : List Int) (i : Nat) : rd xs (i : Int) = xs.getD i 0 := rfl
theorem count_loop {σ γ : Type} (L : Nat → σ → Int → Option γ) (n : Nat) (step : Nat → σ → σ) (P : Nat → σ → Prop) (K : Nat)
  (hstep : ∀ k i s, K ≤ k → i < n → P i s → L (k + 1) s (i : Int) = L k (step i s) ((i + 1 : Nat) : Int) ∧ P (i + 1) (step i s)) :
  ∀ (d i : Nat) (s : σ) (k : Nat), i + d = n → K + d ≤ k → P i s → ∃ s', L k s (i : Int) = L (k - d) s' (n : Int) ∧ P n s' ∧ s' = (List.range' i d).foldl (fun s j => step j s) s := by
 intro d
 induction d with
 | zero =>
  intro i s k hi hk hP
  obtain rfl : i = n := by omega
  exact ⟨s, by simp, hP, by simp⟩
 | succ d ih =>
  intro i s k hi hk hP
  obtain ⟨k, rfl⟩ : ∃ m, k = m + 1 := ⟨k - 1, by omega⟩
  obtain ⟨h1, h2⟩ := hstep k i s (by omega) (by omega) hP
  obtain ⟨s', h3, h4, h5⟩ := ih (i + 1) (step i s) k (by omega) (by omega) h2
  refine ⟨s', ?_, h4, ?_⟩
  ·rw [h1, h3]
   congr 1
   omega
  ·rw [h5, List.range'_succ]
   rfl
theorem fill_loop {β γ : Type} (L : Nat → List β → Int → Option γ) (f : Nat → β) (K n : Nat)
  (hstep : ∀ k i ys, K ≤ k → i < n → ys.length = n → L (k + 1) ys (i : Int) = L k (ys.set i (f i)) ((i + 1 : Nat) : Int))
  (ys : List β) (hy : ys.length = n) (k : Nat) (hk : K + n ≤ k) : L k ys 0 = L (k - n) ((List.range n).map f) (n : Int) := by
 obtain ⟨s', h1, h2, _⟩ := count_loop L n (fun i s => s.set i (f i)) (fun i s => s.length = n ∧ ∀ j, j < i → s[j]? = some (f j)) K
  (fun k i s hK hi hP => ⟨hstep k i s hK hi hP.1, by simpa using hP.1, fun j hj => by
   rw [List.getElem?_set]
   by_cases e : i = j
   ·subst e
    rw [if_pos rfl, if_pos (by omega)]
   ·rw [if_neg e]
    exact hP.2 j (by omega)⟩) n 0 ys k (by omega) hk ⟨hy, fun j hj => by omega⟩
 refine h1.trans ?_
 congr 1
 apply List.ext_getElem?
 intro j
 by_cases hj : j < n
 ·rw [h2.2 j hj]
  simp [hj]
 ·rw [List.getElem?_eq_none (by omega), List.getElem?_eq_none (by simp; omega)]
theorem map_getD {α β : Type} (xs : List α) (d : α) (g : α → β) : (List.range xs.length).map (fun i => g (xs.getD i d)) = xs.map g := by
 apply List.ext_getElem?
 intro j
 by_cases hj : j < xs.length
 ·simp [hj, List.getD]
 ·simp [hj]
theorem map_getD' {α : Type} (xs : List α) (d : α) : (List.range xs.length).map (fun i => xs.getD i d) = xs := by
 have := map_getD xs d id
 simpa using this
theorem all_loop (L : Nat → Int → Option Bool) (n : Nat) (p : Nat → Bool) (K : Nat) (last : Bool)
  (hstep : ∀ k i, K ≤ k → i < n → L (k + 1) (i : Int) = if p i = true then L k ((i + 1 : Nat) : Int) else some false)
  (hend : ∀ k, K ≤ k → L (k + 1) (n : Int) = some last) :
  ∀ (d i k : Nat), i + d = n → K + d < k → L k (i : Int) = some ((List.range' i d).all p && last) := by
 intro d
 induction d with
 | zero =>
  intro i k hi hk
  obtain rfl : i = n := by omega
  obtain ⟨k, rfl⟩ : ∃ m, k = m + 1 := ⟨k - 1, by omega⟩
  simp [hend k (by omega)]
 | succ d ih =>
  intro i k hi hk
  obtain ⟨k, rfl⟩ : ∃ m, k = m + 1 := ⟨k - 1, by omega⟩
  rw [hstep k i (by omega) (by omega), List.range'_succ]
  by_cases h : p i = true
  ·rw [if_pos h, ih (i + 1) k (by omega) (by omega)]
   simp [h]
  ·rw [if_neg h]
   simp [h]
theorem ev_loop {σ γ : Type} (L : Nat → σ → Int → Option γ) (n : Nat) (step : Nat → σ → σ) (P : Nat → σ → Prop) (r : γ)
  (hround : ∀ i s, i < n → P i s → P (i + 1) (step i s) ∧ (Ev (fun k => L k (step i s) ((i + 1 : Nat) : Int)) r → Ev (fun k => L k s (i : Int)) r)) :
  ∀ (d i : Nat) (s : σ), i + d = n → P i s → (P n ((List.range' i d).foldl (fun s j => step j s) s) → Ev (fun k => L k ((List.range' i d).foldl (fun s j => step j s) s) (n : Int)) r) → Ev (fun k => L k s (i : Int)) r := by
 intro d
 induction d with
 | zero =>
  intro i s hi hP h
  obtain rfl : i = n := by omega
  exact h (by simpa using hP)
 | succ d ih =>
  intro i s hi hP h
  obtain ⟨h1, h2⟩ := hround i s (by omega) hP
  refine h2 (ih (i + 1) (step i s) (by omega) h1 ?_)
  rw [List.range'_succ] at h
  exact h
theorem ev_at {γ : Type} {g : Nat → Option γ} {r : γ} (K : Nat) (h : ∀ k, K ≤ k → g k = some r) : Ev g r := ⟨K, h⟩
theorem all_yes (l : List Nat) : (l.all fun _ => true) = true := List.all_eq_true.2 (fun _ _ => rfl)
end Go.Proofs.Ytbjnkcfkhonkhaa.Gen
end
section
namespace Go.Proofs.Ytbjnkcfkhonkhaa.Base
open Go.RowKit Go.Proofs.Ytbjnkcfkhonkhaa.Pr Go.Proofs.YtbjnkcfkhonkhaaW.PrintWords Go.Proofs.YtbjnkcfkhonkhaaW.PrintLast Go.Proofs.YtbjnkcfkhonkhaaW.PrintMore
theorem toIntS (xs : List Int) (hn : xs.length ≤ 1048576) (k : Nat) (hk : xs.length < k) : laws_toIntS.f k xs = some xs := by
 unfold laws_toIntS.f
 rw [if_pos (by omega), if_pos (by omega)]
 rw [Gen.fill_loop (fun k ys i => laws_toIntS.l0 k xs ys i) (fun i => xs.getD i 0) 0 xs.length (fun k i ys _ hi hy => by
  simp only [laws_toIntS.l0]
  rw [if_pos (by omega), if_pos (by omega), if_pos (by omega), Gen.w64s i (by omega), Gen.rd_nat]
  simp) _ (by simp) k (by omega), Gen.map_getD']
 obtain ⟨m, hm⟩ : ∃ m, k - xs.length = m + 1 := ⟨k - xs.length - 1, by omega⟩
 rw [hm]
 simp only [laws_toIntS.l0]
 rw [if_neg (by omega)]
end Go.Proofs.Ytbjnkcfkhonkhaa.Base
end
section
namespace Go.Proofs.Ytbjnkcfkhonkhaa.Base
open Go.RowKit Go.Proofs.Ytbjnkcfkhonkhaa.Pr Go.Proofs.YtbjnkcfkhonkhaaW.PrintWords Go.Proofs.YtbjnkcfkhonkhaaW.PrintLast Go.Proofs.YtbjnkcfkhonkhaaW.PrintMore
theorem rdL (xs : List (List Int)) (i : Nat) : rd_L1 xs (i : Int) = xs.getD i [] := rfl
def Small (xs : List (List Int)) : Prop := xs.length ≤ 1048576 ∧ ∀ x ∈ xs, x.length ≤ 1048576
theorem Small.at_ {xs : List (List Int)} (h : Small xs) (i : Nat) : (xs.getD i []).length ≤ 1048576 := by
 by_cases hi : i < xs.length
 ·have := h.2 (xs[i]) (List.getElem_mem hi)
  simpa [List.getD, hi] using this
 ·simp [List.getD, hi]
theorem szIntSS (xs : List (List Int)) (hm : xs.length ≤ maxLen) (hms : ∀ x ∈ xs, x.length ≤ maxLen) : ∃ z, Ev (fun k => laws_szIntSS.f k xs 1048576) z ∧ (z < 0 ∨ Small xs) := by
 unfold maxLen at hm hms
 unfold laws_szIntSS.f
 rw [Gen.w64 (by omega) (by omega)]
 by_cases hbig : 1048576 - (xs.length : Int) < 0
 ·exact ⟨-1, by simp only [if_pos hbig]; exact Gen.ev_at 0 (fun k _ => rfl), .inl (by omega)⟩
 ·simp only [if_neg hbig]
  have key : ∀ (d i : Nat) (left : Int), i + d = xs.length → 0 ≤ left → left ≤ 1048576 → (∀ j, j < i → (xs.getD j []).length ≤ 1048576) →
    ∃ z, Ev (fun k => laws_szIntSS.l0 k xs left (i : Int)) z ∧ (z < 0 ∨ Small xs) := by
   intro d
   induction d with
   | zero =>
    intro i left hi h0 h1 hall
    refine ⟨left, Gen.ev_at 1 (fun k hk => ?_), .inr ⟨by omega, fun x hx => ?_⟩⟩
    ·obtain ⟨m, rfl⟩ : ∃ m, k = m + 1 := ⟨k - 1, by omega⟩
     simp only [laws_szIntSS.l0]
     rw [if_neg (by omega)]
    ·obtain ⟨j, hj, rfl⟩ := List.getElem_of_mem hx
     have := hall j (by omega)
     simpa [List.getD, hj] using this
   | succ d ih =>
    intro i left hi h0 h1 hall
    have hlt : i < xs.length := by omega
    have hle : (xs.getD i []).length ≤ 9223372036854775807 := by
     have := hms (xs[i]) (List.getElem_mem hlt)
     simpa [List.getD, hlt] using this
    by_cases hb : left - ((xs.getD i []).length : Int) < 0
    ·refine ⟨-1, Gen.ev_at 1 (fun k hk => ?_), .inl (by omega)⟩
     obtain ⟨m, rfl⟩ : ∃ m, k = m + 1 := ⟨k - 1, by omega⟩
     simp only [laws_szIntSS.l0, laws_szIntS.f]
     rw [if_pos (by omega), if_pos (by omega), rdL, Gen.w64 (by omega) (by omega), if_pos hb]
     rfl
    ·obtain ⟨z, hz, hzz⟩ := ih (i + 1) (left - ((xs.getD i []).length : Int)) (by omega) (by omega) (by omega) (fun j hj => by
      by_cases e : j = i
      ·subst e; omega
      ·exact hall j (by omega))
     refine ⟨z, Ev.step (fun k => ?_) hz, hzz⟩
     simp only [laws_szIntSS.l0, laws_szIntS.f]
     rw [if_pos (by omega), if_pos (by omega), rdL, Gen.w64 (by omega) (by omega), if_neg hb]
     simp only [Option.bind_some]
     rw [if_neg hb, Gen.w64s i (by omega)]
  exact key xs.length 0 (1048576 - (xs.length : Int)) (by omega) (by omega) (by omega) (fun j hj => by omega)
theorem toIntSS (xs : List (List Int)) (h : Small xs) : Ev (fun k => laws_toIntSS.f k xs) xs := by
 have hn := h.1
 refine Gen.ev_at (1048577 + xs.length + 1) (fun k hk => ?_)
 unfold laws_toIntSS.f
 rw [if_pos (by omega), if_pos (by omega)]
 rw [Gen.fill_loop (fun k ys i => laws_toIntSS.l0 k xs ys i) (fun i => xs.getD i []) 1048577 xs.length (fun k i ys hK hi hy => by
  simp only [laws_toIntSS.l0]
  rw [if_pos (by omega), if_pos (by omega), rdL, toIntS _ (h.at_ i) k (by have := h.at_ i; omega)]
  simp only [Option.bind_some]
  rw [if_pos (by omega), Gen.w64s i (by omega)]
  rfl) _ (by simp) k (by omega), Gen.map_getD']
 obtain ⟨m, hm⟩ : ∃ m, k - xs.length = m + 1 := ⟨k - xs.length - 1, by omega⟩
 rw [hm]
 simp only [laws_toIntSS.l0]
 rw [if_neg (by omega)]
end Go.Proofs.Ytbjnkcfkhonkhaa.Base
end
section
namespace Go.Proofs.Ytbjnkcfkhonkhaa.Base
open Go.RowKit Go.Proofs.Ytbjnkcfkhonkhaa.Pr Go.Proofs.YtbjnkcfkhonkhaaW.PrintWords Go.Proofs.YtbjnkcfkhonkhaaW.PrintLast Go.Proofs.YtbjnkcfkhonkhaaW.PrintMore
def marks (a : Int) (n : Nat) : List Int := (List.range n).map fun i : Nat => a + (i : Int)
theorem marks_length (a : Int) (n : Nat) : (marks a n).length = n := by simp [marks]
end Go.Proofs.Ytbjnkcfkhonkhaa.Base
end
section
namespace Go.Proofs.Ytbjnkcfkhonkhaa.Base
open Go.RowKit Go.Proofs.Ytbjnkcfkhonkhaa.Pr Go.Proofs.YtbjnkcfkhonkhaaW.PrintWords Go.Proofs.YtbjnkcfkhonkhaaW.PrintLast Go.Proofs.YtbjnkcfkhonkhaaW.PrintMore
theorem eqIntSB (xs : List Int) (hn : xs.length ≤ 2097152) : Ev (fun k => laws_eqIntS.f k xs xs) true := by
 refine Gen.ev_at (xs.length + 1) (fun k hk => ?_)
 unfold laws_eqIntS.f
 rw [if_pos rfl]
 have := Gen.all_loop (fun k i => laws_eqIntS.l0 k xs xs i) xs.length (fun _ => true) 0 true (fun k i _ hi => by
  simp only [laws_eqIntS.l0]
  rw [if_pos (by omega), if_pos (by omega), if_pos (by omega), if_pos (by trivial), Gen.w64s i (by omega), if_pos (by trivial)]) (fun k _ => by
  simp only [laws_eqIntS.l0]
  rw [if_neg (by omega)]) xs.length 0 k (by omega) (by omega)
 simpa [Gen.all_yes] using this
def Mid (xs : List (List Int)) : Prop := xs.length ≤ 2097152 ∧ ∀ x ∈ xs, x.length ≤ 2097152
theorem Small.mid {xs : List (List Int)} (h : Small xs) : Mid xs := ⟨by have := h.1; omega, fun x hx => by have := h.2 x hx; omega⟩
theorem mid_at (ds rs : List (List Int)) (x : List Int) : (ds ++ x :: rs).getD ds.length [] = x := by simp [List.getD]
theorem eqIntSSB (xs : List (List Int)) (h : Mid xs) : Ev (fun k => laws_eqIntSS.f k xs xs) true := by
 have hn := h.1
 unfold laws_eqIntSS.f
 simp only [if_true]
 have key : ∀ (rs ds : List (List Int)), ds ++ rs = xs → Ev (fun k => laws_eqIntSS.l0 k xs xs (ds.length : Int)) true := by
  intro rs
  induction rs with
  | nil =>
   intro ds e
   refine Gen.ev_at 1 (fun k hk => ?_)
   obtain ⟨q, rfl⟩ : ∃ q, k = q + 1 := ⟨k - 1, by omega⟩
   have e' : ds.length = xs.length := by rw [← e]; simp
   simp only [laws_eqIntSS.l0]
   rw [if_neg (by omega)]
  | cons x rs ih =>
   intro ds e
   have hl : ds.length < xs.length := by rw [← e]; simp
   have hx : x.length ≤ 2097152 := h.2 x (by rw [← e]; simp)
   have hr : rd_L1 xs (ds.length : Int) = x := by rw [rdL, ← e]; exact mid_at ds rs x
   have := ih (ds ++ [x]) (by rw [← e]; simp)
   refine Ev.step (f := fun k => (laws_eqIntS.f k x x).bind fun t => if t = true then laws_eqIntSS.l0 k xs xs ((ds ++ [x]).length : Int) else some false) (fun k => ?_) ?_
   ·simp only [laws_eqIntSS.l0]
    rw [if_pos (by omega), if_pos (by omega), if_pos (by omega), hr, Gen.w64s ds.length (by omega)]
    simp
   ·refine Ev.bind (eqIntSB x hx) ?_
    simp only [if_true]
    exact this
 exact key xs [] rfl
def marksL : Int → List (List Int) → List (List Int)
 | _, [] => []
 | a, x :: xs => marks a x.length :: marksL (a + (x.length : Int)) xs
def total : List (List Int) → Nat
 | [] => 0
 | x :: xs => x.length + total xs
theorem total_le (xs : List (List Int)) (h : ∀ x ∈ xs, x.length ≤ 2097152) : total xs ≤ xs.length * 2097152 := by
 induction xs with
 | nil => simp [total]
 | cons x xs ih =>
  have := ih fun y hy => h y (by simp [hy])
  have := h x (by simp)
  simp only [total, List.length_cons]
  omega
theorem markIntSB (xs : List Int) (a : Int) (hn : xs.length ≤ 2097152) (h0 : 0 ≤ a) (h1 : a ≤ 2 ^ 60) : Ev (fun k => laws_markIntS.f k xs a) (a + (xs.length : Int), marks a xs.length) := by
 unfold laws_markIntS.f
 refine Gen.ev_loop (fun k (s : List Int × Int) i => laws_markIntS.l0 k s.1 s.2 i) xs.length (fun i s => (s.1.set i s.2, s.2 + 1)) (fun i s => s.2 = a + (i : Int) ∧ s.1.length = xs.length ∧ ∀ j, j < i → s.1[j]? = some (a + (j : Int))) _ (fun i s hi hP => ⟨?_, fun h => Ev.step (fun k => ?_) h⟩) xs.length 0 (xs, a) (by omega) ⟨by simp, rfl, fun j hj => by omega⟩ (fun hP => Gen.ev_at 1 (fun k hk => ?_))
 ·obtain ⟨p1, p2, p3⟩ := hP
  refine ⟨by show s.2 + 1 = _; rw [p1]; push_cast; omega, by simpa using p2, fun j hj => ?_⟩
  show (s.1.set i s.2)[j]? = _
  rw [List.getElem?_set]
  by_cases e : i = j
  ·subst e
   rw [if_pos rfl, if_pos (by omega), p1]
  ·rw [if_neg e]
   exact p3 j (by omega)
 ·obtain ⟨p1, p2, p3⟩ := hP
  simp only [laws_markIntS.l0]
  rw [if_pos (by omega), if_pos (by omega), Gen.w64s i (by omega), Gen.w64 (i := s.2 + 1) (by omega) (by omega)]
  rfl
 ·obtain ⟨q, rfl⟩ : ∃ q, k = q + 1 := ⟨k - 1, by omega⟩
  generalize (List.range' 0 xs.length).foldl (fun (s : List Int × Int) j => (s.1.set j s.2, s.2 + 1)) (xs, a) = s at hP ⊢
  obtain ⟨p1, p2, p3⟩ := hP
  simp only [laws_markIntS.l0]
  rw [if_neg (by omega), p1]
  congr 2
  apply List.ext_getElem?
  intro j
  by_cases hj : j < xs.length
  ·rw [p3 j hj]
   simp [marks, hj]
  ·rw [List.getElem?_eq_none (by omega), List.getElem?_eq_none (by rw [marks_length]; omega)]
theorem heldIntSB (a : Int) (n : Nat) (hn : n ≤ 2097152) (h0 : 0 ≤ a) (h1 : a ≤ 2 ^ 60) : Ev (fun k => laws_heldIntS.f k (marks a n) a) (a + (n : Int)) := by
 unfold laws_heldIntS.f
 refine Gen.ev_loop (fun k (s : Int) i => laws_heldIntS.l0 k (marks a n) s i) n (fun i s => s + 1) (fun i s => s = a + (i : Int)) _ (fun i s hi hP => ⟨?_, fun h => Ev.step (fun k => ?_) h⟩) n 0 a (by omega) (by simp) (fun hP => Gen.ev_at 1 (fun k hk => ?_))
 ·show s + 1 = _
  rw [hP]; push_cast; omega
 ·have hr : rd (marks a n) (i : Int) = s := by
   rw [Gen.rd_nat, hP]
   simp [marks, List.getD, hi]
  simp only [laws_heldIntS.l0]
  rw [if_pos (by rw [marks_length]; omega), if_pos (by omega), if_pos hr, Gen.w64s i (by omega), Gen.w64 (i := s + 1) (by omega) (by omega)]
 ·obtain ⟨q, rfl⟩ : ∃ q, k = q + 1 := ⟨k - 1, by omega⟩
  simp only [laws_heldIntS.l0]
  rw [if_neg (by rw [marks_length]; omega), hP]
theorem markIntSSB (xs : List (List Int)) (a : Int) (h : Mid xs) (h0 : 0 ≤ a) (h1 : a + (total xs : Int) ≤ 2 ^ 60) : Ev (fun k => laws_markIntSS.f k xs a) (a + (total xs : Int), marksL a xs) := by
 have hn := h.1
 unfold laws_markIntSS.f
 have key : ∀ (rs ds : List (List Int)) (a : Int), ds.length + rs.length = xs.length → (∀ x ∈ rs, x.length ≤ 2097152) → 0 ≤ a → a + (total rs : Int) ≤ 2 ^ 60 → Ev (fun k => laws_markIntSS.l0 k (ds ++ rs) a (ds.length : Int)) (a + (total rs : Int), ds ++ marksL a rs) := by
  intro rs
  induction rs with
  | nil =>
   intro ds a e _ _ _
   refine Gen.ev_at 1 (fun k hk => ?_)
   obtain ⟨q, rfl⟩ : ∃ q, k = q + 1 := ⟨k - 1, by omega⟩
   simp only [laws_markIntSS.l0]
   rw [if_neg (by simp)]
   simp [total, marksL]
  | cons x rs ih =>
   intro ds a e hx h0 h1
   simp only [List.length_cons] at e
   simp only [total] at h1
   have hxl : x.length ≤ 2097152 := hx x (by simp)
   have hr : laws_markIntSS.rdLL (ds ++ x :: rs) (ds.length : Int) = x := mid_at ds rs x
   have := ih (ds ++ [marks a x.length]) (a + (x.length : Int)) (by simp; omega) (fun y hy => hx y (by simp [hy])) (by omega) (by push_cast at h1 ⊢; omega)
   refine Ev.step (f := fun k => (laws_markIntS.f k x a).bind fun bt => laws_markIntSS.l0 k (ds ++ bt.2 :: rs) bt.1 ((ds.length + 1 : Nat) : Int)) (fun k => ?_) ?_
   ·simp only [laws_markIntSS.l0]
    rw [if_pos (by simp only [List.length_append, List.length_cons]; omega), if_pos (by omega), hr, Gen.w64s ds.length (by omega)]
    simp
   ·refine Ev.bind (markIntSB x a hxl h0 (by omega)) ?_
    simp only [total, marksL]
    have e2 : a + (x.length : Int) + (total rs : Int) = a + ((x.length + total rs : Nat) : Int) := by push_cast; omega
    rw [e2] at this
    simpa using this
 simpa using key xs [] a (by simp) h.2 h0 h1
theorem heldIntSSB (xs : List (List Int)) (a : Int) (h : Mid xs) (h0 : 0 ≤ a) (h1 : a + (total xs : Int) ≤ 2 ^ 60) : Ev (fun k => laws_heldIntSS.f k (marksL a xs) a) (a + (total xs : Int)) := by
 have hn := h.1
 unfold laws_heldIntSS.f
 have key : ∀ (rs ds : List (List Int)) (a : Int), ds.length + rs.length = xs.length → (∀ x ∈ rs, x.length ≤ 2097152) → 0 ≤ a → a + (total rs : Int) ≤ 2 ^ 60 → Ev (fun k => laws_heldIntSS.l0 k (ds ++ marksL a rs) a (ds.length : Int)) (a + (total rs : Int)) := by
  intro rs
  induction rs with
  | nil =>
   intro ds a e _ _ _
   refine Gen.ev_at 1 (fun k hk => ?_)
   obtain ⟨q, rfl⟩ : ∃ q, k = q + 1 := ⟨k - 1, by omega⟩
   simp only [laws_heldIntSS.l0]
   rw [if_neg (by simp [marksL])]
   simp [total]
  | cons x rs ih =>
   intro ds a e hx h0 h1
   simp only [List.length_cons] at e
   simp only [total] at h1
   have hxl : x.length ≤ 2097152 := hx x (by simp)
   have hr : rd_L1 (ds ++ marks a x.length :: marksL (a + (x.length : Int)) rs) (ds.length : Int) = marks a x.length := mid_at ds _ _
   have := ih (ds ++ [marks a x.length]) (a + (x.length : Int)) (by simp; omega) (fun y hy => hx y (by simp [hy])) (by omega) (by push_cast at h1 ⊢; omega)
   have e2 : a + (x.length : Int) + (total rs : Int) = a + ((x.length + total rs : Nat) : Int) := by push_cast; omega
   rw [e2] at this
   show Ev (fun k => laws_heldIntSS.l0 k (ds ++ marks a x.length :: marksL (a + (x.length : Int)) rs) a (ds.length : Int)) _
   refine Ev.step (f := fun k => (laws_heldIntS.f k (marks a x.length) a).bind fun t => if t < 0 then some (-1) else laws_heldIntSS.l0 k (ds ++ marks a x.length :: marksL (a + (x.length : Int)) rs) t ((ds.length + 1 : Nat) : Int)) (fun k => ?_) ?_
   ·simp only [laws_heldIntSS.l0]
    rw [if_pos (by simp only [List.length_append, List.length_cons]; omega), if_pos (by omega), hr, Gen.w64s ds.length (by omega)]
   ·refine Ev.bind (heldIntSB a x.length hxl h0 (by omega)) ?_
    simp only [if_neg (show ¬ (a + (x.length : Int) < 0) by omega), total]
    simpa using this
 simpa using key xs [] a (by simp) h.2 h0 h1
theorem Mid.total {xs : List (List Int)} (h : Mid xs) : Base.total xs ≤ 2097152 * 2097152 := Nat.le_trans (total_le xs h.2) (Nat.mul_le_mul_right _ h.1)
end Go.Proofs.Ytbjnkcfkhonkhaa.Base
end
section
namespace Go.Proofs.Ytbjnkcfkhonkhaa.Shift
open Go.RowKit Go.Proofs.Ytbjnkcfkhonkhaa.Pr Go.Proofs.Ytbjnkcfkhonkhaa.Base Go.Proofs.YtbjnkcfkhonkhaaW.PrintWords Go.Proofs.YtbjnkcfkhonkhaaW.PrintLast Go.Proofs.YtbjnkcfkhonkhaaW.PrintMore
def shiftI (xs : List (List Int)) (i j : Int) : List (List Int) :=
 if 0 ≤ i ∧ i ≤ 8 ∧ 0 ≤ j ∧ j ≤ 8 then List.replicate i.toNat [] ++ xs.map (fun x => List.replicate j.toNat 0 ++ x) else []
theorem shift_mid (xs : List (List Int)) (i j : Int) (h : Small xs) : Mid (shiftI xs i j) := by
 unfold shiftI
 split
 ·next c =>
  refine ⟨by simp; have := h.1; omega, fun x hx => ?_⟩
  simp only [List.mem_append, List.mem_replicate, List.mem_map] at hx
  rcases hx with ⟨_, rfl⟩ | ⟨y, hy, rfl⟩
  ·simp
  ·simp; have := h.2 y hy; omega
 ·exact ⟨by simp, by simp⟩
theorem pushes (n : Nat) (hn : n ≤ 8) (L : Nat → List (List Int) → Int → Option (List (List Int))) (r : List (List Int)) (v : List Int)
  (hstep : ∀ k ys (i : Nat), i < n → ys.length = i → L (k + 1) ys (i : Int) = L k (ys ++ [v]) ((i + 1 : Nat) : Int)) (hend : Ev (fun k => L k (List.replicate n v) (n : Int)) r) : Ev (fun k => L k [] 0) r := by
 have key : ∀ (d i : Nat), i + d = n → Ev (fun k => L k (List.replicate i v) (i : Int)) r := by
  intro d
  induction d with
  | zero =>
   intro i e
   obtain rfl : i = n := by omega
   exact hend
  | succ d ih =>
   intro i e
   refine Ev.step (fun k => hstep k _ i (by omega) (by simp)) ?_
   have := ih (i + 1) (by omega)
   rwa [List.replicate_succ'] at this
 exact key n 0 (by omega)
theorem rows (xs : List (List Int)) (j : Nat) (hx : xs.length ≤ 1048576) (L : Nat → List (List Int) → Int → Option (List (List Int))) (acc : List (List Int)) (ha : acc.length ≤ 8)
  (hstep : ∀ k ys (i : Nat), i < xs.length → ys.length ≤ 2097152 → L (k + 1) ys (i : Int) = L k (ys ++ [List.replicate j 0 ++ xs.getD i []]) ((i + 1 : Nat) : Int)) (hend : ∀ k ys, L (k + 1) ys (xs.length : Int) = some ys) : Ev (fun k => L k acc 0) (acc ++ xs.map (fun x => List.replicate j 0 ++ x)) := by
 have key : ∀ (rs ds : List (List Int)), ds ++ rs = xs → Ev (fun k => L k (acc ++ ds.map (fun x => List.replicate j 0 ++ x)) (ds.length : Int)) (acc ++ xs.map (fun x => List.replicate j 0 ++ x)) := by
  intro rs
  induction rs with
  | nil =>
   intro ds e
   rw [List.append_nil] at e
   subst e
   refine Gen.ev_at 1 (fun k hk => ?_)
   obtain ⟨q, rfl⟩ : ∃ q, k = q + 1 := ⟨k - 1, by omega⟩
   exact hend q _
  | cons x rs ih =>
   intro ds e
   have hl : ds.length < xs.length := by rw [← e]; simp
   have hr : xs.getD ds.length [] = x := by rw [← e]; exact mid_at ds rs x
   refine Ev.step (fun k => hstep k _ ds.length hl (by simp; omega)) ?_
   rw [hr]
   have := ih (ds ++ [x]) (by rw [← e]; simp)
   simpa using this
 simpa using key xs [] rfl
theorem specShift (xs : List (List Int)) (i j : Int) (h : Small xs) : Ev (fun k => spec_ShiftTable.f k xs i j) (shiftI xs i j) := by
 have hx := h.1
 unfold spec_ShiftTable.f spec_l1In.f shiftI
 simp only [Option.bind_some]
 have no : Ev (fun k => spec_ShiftTable.j0 k xs i j [] true) [] := Gen.ev_at 1 (fun k hk => by
  obtain ⟨q, rfl⟩ : ∃ q, k = q + 1 := ⟨k - 1, by omega⟩
  simp only [spec_ShiftTable.j0]
  rw [if_pos (by trivial)])
 by_cases hi0 : i ≥ 0
 ·simp only [if_pos hi0, Option.bind_some]
  by_cases hi8 : i ≤ 8
  ·simp only [decide_eq_true hi8, if_true]
   by_cases hj0 : j ≥ 0
   ·simp only [if_pos hj0, Option.bind_some]
    by_cases hj8 : j ≤ 8
    ·rw [if_pos ⟨by omega, hi8, by omega, hj8⟩]
     simp only [decide_eq_true hj8, Bool.not_true]
     refine Ev.step (f := fun k => spec_ShiftTable.l0 k xs i j [] 0) (fun k => by
      simp only [spec_ShiftTable.j0]
      rw [if_neg (by decide)]) ?_
     refine pushes i.toNat (by omega) (fun k ys n => spec_ShiftTable.l0 k xs i j ys n) _ [] (fun k ys n hn hy => ?_) ?_
     ·simp only [spec_ShiftTable.l0]
      rw [if_pos (by omega), if_pos (by omega), Gen.w64s n (by omega)]
     ·refine Ev.step (f := fun k => spec_ShiftTable.l1 k xs j (List.replicate i.toNat []) 0) (fun k => by
       simp only [spec_ShiftTable.l0]
       rw [if_neg (by omega)]) ?_
      refine rows xs j.toNat hx (fun k ys n => spec_ShiftTable.l1 k xs j ys n) _ (by simp; omega) (fun k ys n hn hy => ?_) (fun k ys => ?_)
      ·have := h.at_ n
       simp only [spec_ShiftTable.l1, Option.bind_some]
       rw [if_pos (by omega), if_pos (by omega), if_pos (by omega), if_pos (by omega), rdL, if_pos (by simp only [List.length_replicate]; omega), if_pos (by omega), Gen.w64s n (by omega)]
      ·simp only [spec_ShiftTable.l1]
       rw [if_neg (by omega)]
    ·rw [if_neg (show ¬ (0 ≤ i ∧ i ≤ 8 ∧ 0 ≤ j ∧ j ≤ 8) by omega)]
     simp only [decide_eq_false hj8, Bool.not_false]
     exact no
   ·rw [if_neg (show ¬ (0 ≤ i ∧ i ≤ 8 ∧ 0 ≤ j ∧ j ≤ 8) by omega)]
    simp only [if_neg hj0, Option.bind_some, Bool.not_false]
    exact no
  ·rw [if_neg (show ¬ (0 ≤ i ∧ i ≤ 8 ∧ 0 ≤ j ∧ j ≤ 8) by omega)]
   simp only [decide_eq_false hi8, Bool.false_eq_true, if_false]
   exact no
 ·rw [if_neg (show ¬ (0 ≤ i ∧ i ≤ 8 ∧ 0 ≤ j ∧ j ≤ 8) by omega)]
  simp only [if_neg hi0, Option.bind_some, Bool.false_eq_true, if_false]
  exact no
theorem newTable0 (i : Int) (h0 : 0 ≤ i) (h8 : i ≤ 8) : Ev (fun k => impl_newTable.f k i 0) (List.replicate i.toNat []) := by
 unfold impl_newTable.f
 refine pushes i.toNat (by omega) (fun k ys n => impl_newTable.l0 k i 0 ys n) _ [] (fun k ys n hn hy => ?_) (Gen.ev_at 1 (fun k hk => ?_))
 ·simp only [impl_newTable.l0]
  rw [if_pos (by omega), if_pos (by omega), if_pos (by decide), if_pos (by omega), Gen.w64s n (by omega)]
  rfl
 ·obtain ⟨q, rfl⟩ : ∃ q, k = q + 1 := ⟨k - 1, by omega⟩
  simp only [impl_newTable.l0]
  rw [if_neg (by omega)]
theorem implShift (xs : List (List Int)) (i j : Int) (h : Small xs) : Ev (fun k => impl_ShiftTable.f k xs i j) (shiftI xs i j) := by
 have hx := h.1
 unfold impl_ShiftTable.f impl_isSize.f shiftI
 have no : Ev (fun k => impl_ShiftTable.j0 k xs i j true) [] := Gen.ev_at 1 (fun k hk => by
  obtain ⟨q, rfl⟩ : ∃ q, k = q + 1 := ⟨k - 1, by omega⟩
  simp only [impl_ShiftTable.j0]
  rw [if_pos (by trivial)])
 by_cases hi0 : i ≥ 0
 ·simp only [if_pos hi0, Option.bind_some]
  by_cases hi8 : i ≤ 8
  ·simp only [decide_eq_true hi8, if_true]
   by_cases hj0 : j ≥ 0
   ·simp only [if_pos hj0, Option.bind_some]
    by_cases hj8 : j ≤ 8
    ·rw [if_pos ⟨by omega, hi8, by omega, hj8⟩]
     simp only [decide_eq_true hj8, Bool.not_true]
     refine Ev.step (f := fun k => (impl_newTable.f k i 0).bind fun t => impl_ShiftTable.l0 k j t xs (xs.length : Int) 0) (fun k => by
      simp only [impl_ShiftTable.j0]
      rw [if_neg (by decide)]) ?_
     refine Ev.bind (newTable0 i (by omega) hi8) ?_
     refine rows xs j.toNat hx (fun k ys n => impl_ShiftTable.l0 k j ys xs (xs.length : Int) n) _ (by simp; omega) (fun k ys n hn hy => ?_) (fun k ys => ?_)
     ·have := h.at_ n
      simp only [impl_ShiftTable.l0, Option.bind_some]
      rw [if_pos (by omega), if_pos (by omega), if_pos (by omega), if_pos (by omega), if_pos (by omega), rdL, if_pos (by simp only [List.length_replicate]; omega), if_pos (by omega), Gen.w64s n (by omega)]
     ·simp only [impl_ShiftTable.l0]
      rw [if_neg (by omega)]
    ·rw [if_neg (show ¬ (0 ≤ i ∧ i ≤ 8 ∧ 0 ≤ j ∧ j ≤ 8) by omega)]
     simp only [decide_eq_false hj8, Bool.not_false]
     exact no
   ·rw [if_neg (show ¬ (0 ≤ i ∧ i ≤ 8 ∧ 0 ≤ j ∧ j ≤ 8) by omega)]
    simp only [if_neg hj0, Option.bind_some, Bool.not_false]
    exact no
  ·rw [if_neg (show ¬ (0 ≤ i ∧ i ≤ 8 ∧ 0 ≤ j ∧ j ≤ 8) by omega)]
   simp only [decide_eq_false hi8, Bool.false_eq_true, if_false]
   exact no
 ·rw [if_neg (show ¬ (0 ≤ i ∧ i ≤ 8 ∧ 0 ≤ j ∧ j ≤ 8) by omega)]
  simp only [if_neg hi0, Option.bind_some, Bool.false_eq_true, if_false]
  exact no
end Go.Proofs.Ytbjnkcfkhonkhaa.Shift
end
section
namespace Go.Proofs.Ytbjnkcfkhonkhaa.Pure
open Go.RowKit Go.Proofs.Ytbjnkcfkhonkhaa.Pr Go.Proofs.Ytbjnkcfkhonkhaa.Base Go.Proofs.Ytbjnkcfkhonkhaa.Shift Go.Proofs.YtbjnkcfkhonkhaaW.PrintWords Go.Proofs.YtbjnkcfkhonkhaaW.PrintLast Go.Proofs.YtbjnkcfkhonkhaaW.PrintMore
set_option linter.unusedVariables false
theorem FnExactShiftTable (xs : List (List Int)) (i j : Int) (hm : xs.length ≤ maxLen ∧ ∀ x ∈ xs, x.length ≤ maxLen ∧ ∀ y ∈ x, (Lit.int .i64 y).wf = true) (_ : (Lit.int .i64 i).wf = true) (_ : (Lit.int .i64 j).wf = true) : ∃ k, laws_FnExactShiftTable.f k xs i j = some true := by
 obtain ⟨z, hz, h⟩ := szIntSS xs hm.1 (fun x hx => (hm.2 x hx).1)
 refine Ev.rounds ?_
 unfold laws_FnExactShiftTable.f
 refine Ev.bind hz ?_
 by_cases hneg : z < 0
 ·simp only [if_pos hneg]
  exact Ev.now _
 ·simp only [if_neg hneg]
  have hs : Small xs := h.resolve_left hneg
  have hg := shift_mid xs i j hs
  have ht := hg.total
  have hx := hs.mid.total
  refine Ev.bind (toIntSS xs hs) (Ev.bind (specShift xs i j hs) (Ev.bind (toIntSS xs hs) (Ev.bind (implShift xs i j hs) (Ev.bind (eqIntSSB _ hg) ?_))))
  simp only [if_true]
  refine Ev.bind (toIntSS xs hs) (Ev.bind (eqIntSSB _ hs.mid) ?_)
  simp only [if_true]
  refine Ev.bind (markIntSSB xs 1 hs.mid (by decide) (by omega)) ?_
  simp only [if_neg (show ¬ ((1 : Int) + (total xs : Int) < 0) by omega)]
  refine Ev.bind (markIntSSB _ 1 hg (by decide) (by omega)) (Ev.bind (heldIntSSB _ 1 hg (by decide) (by omega)) ?_)
  simp only [if_neg (show ¬ ((1 : Int) + (total (shiftI xs i j) : Int) < 0) by omega), if_true]
  refine Ev.bind (toIntSS xs hs) (Ev.bind (implShift xs i j hs) (Ev.bind (eqIntSSB _ hg) ?_))
  simp only [if_true]
  exact Ev.now _
end Go.Proofs.Ytbjnkcfkhonkhaa.Pure
end
section
namespace Go.Proofs.Ytbjnkcfkhonkhaa.Open
open Go.ChangeShapes Go.WideShapes Go.RowKit Go.Proofs.YtbjnkcfkhonkhaaW.PrintWords Go.Deep
set_option linter.unusedVariables false
structure Opens {α : Type} (P : Program) (d : Kd α) (t : TypeId) (Wf : α → Prop) : Prop where
 go : ∀ (H : Type) (enc : TypeId × Value → H) (w : World) (base : Nat) (spare : Nat → Bool) (held : Bool) (fuel : Nat) (cs : List Value) (x : DataW H × List MemPlace),
  DataW.trod enc P w base spare held fuel t cs = some x → ∃ a, d.K w a cs ∧ Wf a
theorem Opens.int {P : Program} {t : TypeId} {k : IntKind} (ht : P.underlying t = some (.int k)) : Opens P (Kd.int k) t (fun n => (Lit.int k n).wf = true) := by
 refine ⟨fun H enc w base spare held fuel cs x h => ?_⟩
 obtain ⟨n, rfl, _, hw⟩ := DataW.trod_int ht h
 exact ⟨n, rfl, hw⟩
theorem Opens.bool {P : Program} {t : TypeId} (ht : P.underlying t = some .bool) : Opens P Kd.bool t (fun _ => True) := by
 refine ⟨fun H enc w base spare held fuel cs x h => ?_⟩
 obtain ⟨n, rfl, _⟩ := DataW.trod_bool ht h
 exact ⟨n, rfl, trivial⟩
theorem list_of {α : Type} {p : Nat → α → Prop} : ∀ {len : Nat}, (∀ i, i < len → ∃ y, p i y) → ∃ xs : List α, xs.length = len ∧ ∀ i y, xs[i]? = some y → p i y := by
 intro len
 induction len with
 | zero => exact fun _ => ⟨[], rfl, fun i y h => by simp at h⟩
 | succ len ih =>
  intro key
  obtain ⟨xs, hxl, hxs⟩ := ih (fun i hi => key i (by omega))
  obtain ⟨y, hy⟩ := key len (by omega)
  refine ⟨xs ++ [y], by simp [hxl], fun i z hz => ?_⟩
  by_cases hi : i < xs.length
  ·rw [List.getElem?_append_left hi] at hz
   exact hxs i z hz
  ·have hlt : i < (xs ++ [y]).length := (List.getElem?_eq_some_iff.1 hz).1
   have e : i = len := by simp [hxl] at hlt hi; omega
   subst e
   rw [List.getElem?_append_right (by omega), hxl] at hz
   simp at hz
   subst hz
   exact hy
theorem Opens.slice {α : Type} {P : Program} {t e : TypeId} {d : Kd α} {Wf : α → Prop} (ht : P.underlying t = some (.slice e)) (hs : P.cellsOf e = d.sz) (h : Opens P d e Wf) :
  Opens P (Kd.slice e d) t (fun xs => xs.length ≤ maxLen ∧ ∀ x ∈ xs, Wf x) := by
 refine ⟨fun H enc w base spare held fuel cs x hx => ?_⟩
 rcases open_slice ht hx with ⟨rfl, _⟩ | ⟨a, len, cap, m, n, D, Pl, rfl, hb, hl, hm, hmm, _, hel⟩
 ·exact ⟨[], ⟨none, 0, rfl, Nat.le_refl _, rfl, by simp, fun h => absurd h (by simp)⟩, by simp, by simp⟩
 ·have hlm : len ≤ m := by rw [hmm]; split <;> omega
  have key : ∀ i, i < len → ∃ y : α, (∃ cs', w.cells? base (a.add (i * P.cellsOf e)) (P.cellsOf e) = some cs' ∧ d.K w y cs') ∧ Wf y := fun i hi => by
   obtain ⟨cs', h1, h2⟩ := hel i (by omega)
   obtain ⟨y, h3, h4⟩ := h.go _ enc w base spare held n cs' _ h2
   exact ⟨y, ⟨cs', h1, h3⟩, h4⟩
  obtain ⟨xs, hxl, hxs⟩ := list_of key
  refine ⟨xs, ⟨some a, cap, by rw [hxl], by omega, rfl, by have := hm; unfold maxLen at this; omega, fun _ => ⟨a, rfl, fun j p hj => ?_⟩⟩, by omega, fun y hy => ?_⟩
  ·obtain ⟨⟨cs', h1, h2⟩, _⟩ := hxs j p hj
   obtain ⟨_, h3, h4⟩ := World.cells?_some h1
   refine ⟨cs', by rw [h3, hs], h2, fun i u hu => ?_⟩
   have hlt : i < cs'.length := (List.getElem?_eq_some_iff.1 hu).1
   have := h4 i (by omega)
   rw [hs, Go.Deep.add_add] at this
   rw [this, hu]
  ·obtain ⟨i, hi⟩ := List.getElem?_of_mem hy
   exact (hxs i y hi).2
structure OpensFs {α : Type} (P : Program) (fs : List Field) (off : Nat) (d : Kd α) (Wf : α → Prop) : Prop where
 go : ∀ (H : Type) (enc : TypeId × Value → H) (w : World) (base : Nat) (spare : Nat → Bool) (held : Bool) (n : Nat) (cs : List Value),
  cs.length = off + d.sz → (∀ f ∈ fs, ∃ x, DataW.trod enc P w base spare held n f.type ((cs.drop f.offset).take (P.cellsOf f.type)) = some x) → ∃ a, d.K w a (cs.drop off) ∧ Wf a
theorem OpensFs.cons {α β : Type} {P : Program} {f : Field} {fs : List Field} {off : Nat} {d : Kd α} {d' : Kd β} {Wf : α → Prop} {Wf' : β → Prop} (ho : f.offset = off) (hs : P.cellsOf f.type = d.sz) (h : Opens P d f.type Wf)
  (h' : OpensFs P fs (off + d.sz) d' Wf') : OpensFs P (f :: fs) off (Kd.pair d d') (fun x => Wf x.1 ∧ Wf' x.2) := by
 refine ⟨fun H enc w base spare held n cs hl hf => ?_⟩
 have hl' : cs.length = off + (d.sz + d'.sz) := hl
 obtain ⟨x, hx⟩ := hf f (by simp)
 rw [ho, hs] at hx
 obtain ⟨a, ha, wa⟩ := h.go _ enc w base spare held n _ x hx
 obtain ⟨b, hb, wb⟩ := h'.go _ enc w base spare held n cs (by omega) (fun g hg => hf g (by simp [hg]))
 refine ⟨(a, b), ⟨(cs.drop off).take d.sz, cs.drop (off + d.sz), ?_, ha, hb⟩, wa, wb⟩
 rw [← List.drop_drop, List.take_append_drop]
theorem Opens.argSlice {α : Type} {P : Program} {t e : TypeId} {d : Kd α} {Wf : List α → Prop} (h : Opens P (Kd.slice e d) t Wf) {H : Type} {enc : TypeId × Value → H} {w : World} {base : Nat} {spare : Nat → Bool} {held : Bool} {v : Value} {x : DataW H} {ps : List MemPlace}
  (hv : ∃ a len cap, v = .slice a len cap) (ht : DataW.Trod enc P w base spare held t v x ps) : ∃ A c xs, v = .slice A xs.length c ∧ xs.length ≤ c ∧ d.C w A xs.length xs ∧ Wf xs := by
 obtain ⟨a, len, cap, rfl⟩ := hv
 obtain ⟨fuel, hf⟩ := ht
 obtain ⟨xs, ⟨A, c, hc, hl, hr⟩, wf⟩ := h.go _ enc w base spare held fuel _ _ hf
 simp only [Value.cells, List.cons.injEq, and_true] at hc
 exact ⟨A, c, xs, hc, hl, hr, wf⟩
end Go.Proofs.Ytbjnkcfkhonkhaa.Open
end
section
namespace Go.Proofs.Ytbjnkcfkhonkhaa.fnExactShiftTable
open Go.ChangeShapes Go.WideShapes Go.ChangeAt Go.RowKit Go.Proofs.Ytbjnkcfkhonkhaa.Open Go.Proofs.YtbjnkcfkhonkhaaW.PrintWords
open Go.ChangeMaps (open_string shut_string)
set_option linter.unusedVariables false
theorem own : ownKnob Try.prog.godebug = none := by kernel_rfl
theorem laidOut : laidOutB Try.prog = true := by kernel_rfl
set_option maxRecDepth 100000 in
theorem lifted (os : Os) (started : os.Started) (H : Type) (enc : TypeId × Value → H) :
  ReturnsInHanded {} Try.checked os 3 .any (Rows.fnExactShiftTableSpec.pre6 enc Try.prog Try.f3 Rows.fnExactShiftTableRow.domain false) (Rows.fnExactShiftTableSpec.post enc Try.prog Try.f3 false true false false) := by
 refine returnsInHanded_of_change_sized (C := Try.checked) own started (by kernel_rfl) Try.func3
  (ChangeSpec.witness6 (enc := enc) (C := Try.checked) false ⟨#[], #[.slice none 0 0, .int .i64 0, .int .i64 0], []⟩ 8 (by kernel_rfl) (by kernel_rfl) (by kernel_rfl) (by kernel_rfl)) ?_
 intro W base args ds gs before hval0 hW hcnd hsz0 _
 have hval : ∀ (j : Nat) t v, Try.f3.params[j]? = some t → args[j]? = some v → Value.okWide Try.prog W .any base t v := hval0
 have hW' := hW
 obtain ⟨p, q, hA0, hV, rfl, hfz, hnd⟩ := hW
 have hA : DataW.TrodAll enc Try.prog W 0 (fun _ => true) true Try.f3.params.toList args.toList ds p := hA0
 rw [Try.params3] at hA hval
 obtain ⟨v0, vs0, d0, ds0, p0, q0, hargs, rfl, rfl, h0, r0⟩ := trodAll_cons hA
 obtain ⟨v1, vs1, d1, ds1, p1, q1, rfl, rfl, rfl, h1, r1⟩ := trodAll_cons r0
 obtain ⟨v2, vs2, d2, ds2, p2, q2, rfl, rfl, rfl, h2, r2⟩ := trodAll_cons r1
 obtain ⟨rfl, rfl, rfl⟩ := trodAll_nil r2
 obtain rfl : args = #[v0, v1, v2] := by cases args; simp_all
 obtain ⟨rfl, rfl⟩ := trodVars_none hV
 have k0 := h0
 have lt0 : ∀ x ∈ p0, x.block < W.heap.size := by obtain ⟨m, hm⟩ := k0; exact DataW.trod_lt m _ _ _ hm
 obtain ⟨A0, c0, x0, rfl, hl0, hr0, w0⟩ := Opens.argSlice (Opens.slice Try.underlying22 (by kernel_rfl) (Opens.slice Try.underlying31 (by kernel_rfl) (Opens.int Try.underlying3))) (okWide_slice Try.underlying22 (hval 0 22 v0 rfl rfl)) h0
 obtain ⟨a1, rfl, rfl, rfl, w1⟩ := open_int Try.underlying3 (hval 1 3 v1 rfl rfl) h1
 obtain ⟨a2, rfl, rfl, rfl, w2⟩ := open_int Try.underlying3 (hval 2 3 v2 rfl rfl) h2
 clear hA0 hval0 hsz0
 obtain ⟨k, hk⟩ := Pure.FnExactShiftTable x0 a1 a2 w0 w1 w2
 refine (Pr.laws_FnExactShiftTable.calls k _ _ x0 a1 a2 true W hr0 hl0 ⟨rfl⟩ hk).mono fun e W' ⟨he, bel⟩ => ?_
 subst he
 exact ⟨_, rfl, _, _, _, [], _, [], hW', trodAll_mk1 (shut_bool Try.underlying4 _), (trodAll_cons_mk (Below.trod laidOut (by kernel_rfl) (of_decide_eq_true (by kernel_rfl)) k0 bel lt0) (trodAll_cons_mk (shut_int Try.underlying3 w1) (trodAll_cons_mk (shut_int Try.underlying3 w2) trodAll_mk0))), rfl, bel.frame _, fun h => by cases h⟩
theorem over : Rows.fnExactShiftTableRow.holds Try.pinned (OpenSpec.ofChange Rows.fnExactShiftTableSpec) :=
 OpenClaim.holds_of_wide 3 Try.f3 rfl rfl rfl rfl rfl rfl rfl ⟨rfl, rfl, rfl, rfl, rfl⟩ rfl rfl rfl rfl rfl (by kernel_rfl) Try.func3 (by kernel_rfl)
  (of_decide_eq_true (by kernel_rfl)) (by unfold Func.isWrapper; first | (rw [if_pos (by decide +kernel)]; kernel_rfl) | (rw [if_neg (by decide +kernel)]; exact ⟨rfl, rfl⟩))
  (fun os started H enc _ => lifted os started H enc)
theorem proved : Rows.FnExactShiftTableSaid := over
#print axioms proved
end Go.Proofs.Ytbjnkcfkhonkhaa.fnExactShiftTable
namespace Go.Proofs.Ytbjnkcfkhonkhaa
theorem fnExactShiftTable_holds : Rows.FnExactShiftTableSaid := fnExactShiftTable.proved
end Go.Proofs.Ytbjnkcfkhonkhaa
end
