/- The claim FnExactPlanOf: every text that its row comes to, laid together by slim.py (the words of the kit's print, the printed walks, the pure law, the row). -/
import Derived.Lib.OwnBridge
import Derived.Lib.RowBridge
import Derived.Shelf.SlGeneric
import Derived.Shelf.SlLaysF
import Derived.Shelf.SlSortCmp.Insertion
import Derived.Shelf.Slices.CompactI
import Derived.Shelf.Slices.In.SortNone
import Derived.Shelf.Sort.Plain
import Derived.Sort.Grow
import Derived.Sort.OwnSortedInts
import Derived.Test.YtmpodackojmojaaProg
import Derived.Test.YtmpodackojmojaaYFnExactPlanOf0
section
namespace Go.Proofs.Ytmpodackojmojaa.Pr
open Go.RowKit Go.Proofs.YtmpodackojmojaaW.PrintWords Go.Proofs.YtmpodackojmojaaW.PrintLast Go.Proofs.YtmpodackojmojaaW.PrintMore
attribute [local go_sem] max2_int min2_int max_two min_two max_three min_three max_four min_four
set_option linter.unusedVariables false
set_option linter.unusedSimpArgs false
def laws_toTask.f (a0_0 : Int) (a0_1 : Int) : Option (Int × Int) := some (a0_0, a0_1)
set_option maxHeartbeats 8000000 in
set_option maxRecDepth 100000 in
theorem laws_toTask.calls (a0_0 : Int) (a0_1 : Int) (r1 : Int) (r2 : Int) (w : World) (h : laws_toTask.f a0_0 a0_1 = some (r1, r2)) :
  Calls Try.prog 59 #[.agg #[.int .i64 a0_0, .int .i64 a0_1]] w fun e w' => e = .returned (.agg #[.int .i64 r1, .int .i64 r2]) ∧ Below w.heap.size w w' := by
 have hu75 := Try.underlying75
 have hu73 := Try.underlying73
 have HB := Aside0.mk (Below.refl w.heap.size w)
 have H : (some (a0_0, a0_1)) = some (r1, r2) := h
 clear h
 simp only [Option.some.injEq, Prod.mk.injEq] at H
 obtain ⟨rfl, rfl⟩ := H
 go_enter Try.func59, Try.ntmps59
 go_wp2_with (first | ((with_reducible refine gate_dst (N := 1) rfl ?_); refine box_event ?hg (N := 1) ?hd (cs := #[.int .i64 a0_0, .int .i64 a0_1]) (t := 75) ?hr ?_; (case hd => rfl); (case hg => rfl); (case hr => first | (go_simp; done) | (go_simp; rfl)); intro gb178 hg w2 hbox hb; have BK178 := Aside0.mk hbox; have GW178 := Aside0.mk ((by rw [hg]; exact (below_size (Hof.Lw HB.out)) : w.heap.size ≤ gb178)); have GE178 := Aside0.mk ((by rw [hg]; exact (below_size (Hof.Lw HB.out)) : w.heap.size ≤ gb178)); replace HB := Aside0.mk (below_step (Hof.Lw HB.out) hb); clear hb hbox hg) | ((with_reducible refine gate_dst (N := 2) rfl ?_); refine box_event ?hg (N := 2) ?hd (cs := #[.int .i64 0, .int .i64 0]) (t := 73) ?hr ?_; (case hd => rfl); (case hg => rfl); (case hr => first | (go_simp; done) | (go_simp; rfl)); intro gb179 hg w3 hbox hb; have BK179 := Aside0.mk hbox; have GW179 := Aside0.mk ((by rw [hg]; exact (below_size (Hof.Lw HB.out)) : w.heap.size ≤ gb179)); have GE179 := Aside0.mk ((by rw [hg]; exact (below_size (Hof.Lw HB.out)) : w.heap.size ≤ gb179)); replace HB := Aside0.mk (below_step (Hof.Lw HB.out) hb); have NB178_179 := Aside0.mk ((by rw [hg]; exact Nat.ne_of_lt (blk_lt (g := gb178) (o := .cells #[.int .i64 a0_0, .int .i64 a0_1] 75 (0, 0)) (Hof.Bw BK178.out)) : gb178 ≠ gb179)); have NB179_178 := Aside0.mk ((by rw [hg]; exact Nat.ne_of_gt (blk_lt (g := gb178) (o := .cells #[.int .i64 a0_0, .int .i64 a0_1] 75 (0, 0)) (Hof.Bw BK178.out)) : gb179 ≠ gb178)); replace BK178 := Aside0.mk (blk_below (Hof.Bw BK178.out) hb); clear hb hbox hg) | ((with_reducible refine gate_dst (N := 3) rfl ?_); refine box_event ?hg (N := 3) ?hd (cs := #[.int .i64 0, .int .i64 0]) (t := 73) ?hr ?_; (case hd => rfl); (case hg => rfl); (case hr => first | (go_simp; done) | (go_simp; rfl)); intro gb180 hg w4 hbox hb; have BK180 := Aside0.mk hbox; have GW180 := Aside0.mk ((by rw [hg]; exact (below_size (Hof.Lw HB.out)) : w.heap.size ≤ gb180)); have GE180 := Aside0.mk ((by rw [hg]; exact (below_size (Hof.Lw HB.out)) : w.heap.size ≤ gb180)); replace HB := Aside0.mk (below_step (Hof.Lw HB.out) hb); have NB178_180 := Aside0.mk ((by rw [hg]; exact Nat.ne_of_lt (blk_lt (g := gb178) (o := .cells #[.int .i64 a0_0, .int .i64 a0_1] 75 (0, 0)) (Hof.Bw BK178.out)) : gb178 ≠ gb180)); have NB180_178 := Aside0.mk ((by rw [hg]; exact Nat.ne_of_gt (blk_lt (g := gb178) (o := .cells #[.int .i64 a0_0, .int .i64 a0_1] 75 (0, 0)) (Hof.Bw BK178.out)) : gb180 ≠ gb178)); replace BK178 := Aside0.mk (blk_below (Hof.Bw BK178.out) hb); have NB179_180 := Aside0.mk ((by rw [hg]; exact Nat.ne_of_lt (blk_lt (g := gb179) (o := .cells #[.int .i64 0, .int .i64 0] 73 (0, 0)) (Hof.Bw BK179.out)) : gb179 ≠ gb180)); have NB180_179 := Aside0.mk ((by rw [hg]; exact Nat.ne_of_gt (blk_lt (g := gb179) (o := .cells #[.int .i64 0, .int .i64 0] 73 (0, 0)) (Hof.Bw BK179.out)) : gb180 ≠ gb179)); replace BK179 := Aside0.mk (blk_below (Hof.Bw BK179.out) hb); clear hb hbox hg; have hnb5 := NB178_179.out; have hnc5 := NB179_178.out; have hnb6 := NB178_180.out; have hnc6 := NB180_178.out; obtain ⟨hcz7_0, hcz7_1, hfz7_0, hfz7_1⟩ := Hof.blk2 BK178.out; have hnb8 := NB180_179.out; have hnc8 := NB179_180.out; obtain ⟨hcz9_0, hcz9_1, hfz9_0, hfz9_1⟩ := Hof.blk2 BK180.out; obtain ⟨hcz10_0, hcz10_1, hfz10_0, hfz10_1⟩ := Hof.blk2 BK179.out))
 refine bodyPost_ret (results_cell_row rfl _ _ gb179 73 #[.int .i64 a0_0, .int .i64 a0_1] (0, 0) _ rfl (by (with_reducible repeat (first | refine blk_drewN ?_ _ | refine blk_drew ?_ | refine blk_alloc ?_ _)); refine blk_put (cs := #[.int .i64 a0_0, .int .i64 0]) ?_ 1 _ rfl; (with_reducible repeat (first | refine blk_drewN ?_ _ | refine blk_drew ?_ | refine blk_alloc ?_ _)); refine blk_put (cs := #[.int .i64 0, .int .i64 0]) ?_ 0 _ rfl; (with_reducible repeat (first | refine blk_drewN ?_ _ | refine blk_drew ?_ | refine blk_alloc ?_ _)); refine blk_far ?_ NB179_180.out _; (with_reducible repeat (first | refine blk_drewN ?_ _ | refine blk_drew ?_ | refine blk_alloc ?_ _)); refine blk_far ?_ NB179_180.out _; (with_reducible repeat (first | refine blk_drewN ?_ _ | refine blk_drew ?_ | refine blk_alloc ?_ _)); exact BK179.out) Try.underlying73 rfl (by kernel_rfl)) rfl ?_
 exact ⟨by first | rfl | (simp [errW_none, errW_some] <;> rfl) | (simp [*, errW_none, errW_some] <;> rfl), by repeat (first | (with_reducible first | exact HB.out | apply below_alloc | apply pw_below_drewN | apply below_drew1 | refine below_set ?_ GE178.out | refine below_set ?_ GE179.out | refine below_set ?_ GE180.out) | exact HB.out)⟩
end Go.Proofs.Ytmpodackojmojaa.Pr
end
section
namespace Go.Proofs.Ytmpodackojmojaa.Pr
open Go.RowKit Go.Proofs.YtmpodackojmojaaW.PrintWords Go.Proofs.YtmpodackojmojaaW.PrintLast Go.Proofs.YtmpodackojmojaaW.PrintMore
attribute [local go_sem] max2_int min2_int max_two min_two max_three min_three max_four min_four
set_option linter.unusedVariables false
set_option linter.unusedSimpArgs false
def laws_toTaskS.l0 : Nat → List (S75) → List (S73) → Int → Option ((List (S73)))
 | 0, _, _, _ => none
 | k + 1, x0, x3, x4 => if x4 < (x0.length : Int) then (if 0 ≤ x4 then ((laws_toTask.f ((rd_T75 x0 x4).f0) ((rd_T75 x0 x4).f1)).bind fun bt185 => (if x4 < (x3.length : Int) then (laws_toTaskS.l0 k x0 (x3.set (x4 : Int).toNat (⟨bt185.1, bt185.2⟩ : S73)) (wrap64 (x4 + 1))) else (none))) else (none)) else (some x3)
def laws_toTaskS.f (k : Nat) (l0 : List (S75)) : Option ((List (S73))) := if 0 ≤ (l0.length : Int) then (if ((l0.length : Int) : Int).toNat ≤ 17592186044416 then (laws_toTaskS.l0 k l0 (List.replicate ((l0.length : Int) : Int).toNat z73) 0) else (none)) else (none)
set_option maxHeartbeats 8000000 in
set_option maxRecDepth 100000 in
theorem laws_toTaskS.calls (k : Nat) (A0 : Option Addr) (c0 : Nat) (l0 : List (S75)) (r : List (S73)) (w : World) (hr0 : Kd.C k75 w A0 l0.length l0) (hc0 : l0.length ≤ c0) (h : laws_toTaskS.f k l0 = some r) :
  Calls Try.prog 14 #[.slice A0 l0.length c0] w fun e w' => ∃ v0_ : Value, e = .returned (v0_) ∧ Kd.R k73 73 w' w.heap.size (fun _ => True) v0_ r ∧ Below w.heap.size w w' := by
 have hu75 := Try.underlying75
 have hu73 := Try.underlying73
 have HR0 := Aside0.mk hr0
 have HC0 := Aside0.mk hc0
 clear hr0 hc0
 have HB := Aside0.mk (Below.refl w.heap.size w)
 have H : (if 0 ≤ (l0.length : Int) then (if ((l0.length : Int) : Int).toNat ≤ 17592186044416 then (laws_toTaskS.l0 k l0 (List.replicate ((l0.length : Int) : Int).toNat z73) 0) else (none)) else (none)) = some r := h
 clear h
 by_cases c2 : 0 ≤ (l0.length : Int)
 ·rw [if_pos c2] at H
  have c2b0 := eq_true c2
  have c2b1 : decide (0 ≤ (l0.length : Int)) = true := decide_eq_true c2
  clear c2
  by_cases c3 : ((l0.length : Int) : Int).toNat ≤ 17592186044416
  ·rw [if_pos c3] at H
   have c3b0 := eq_true c3
   have c3b1 : decide (((l0.length : Int) : Int).toNat ≤ 17592186044416) = true := decide_eq_true c3
   clear c3
   obtain ⟨y181, hy181⟩ : ∃ y_ : List (S73), y_ = (List.replicate ((l0.length : Int) : Int).toNat z73) := ⟨_, rfl⟩
   replace H : (laws_toTaskS.l0 k l0 y181 0) = some r := by first | (rw [hy181]; with_reducible exact H) | (have H2_ := (Option.bind_some _ _).symm.trans H; rw [hy181]; with_reducible exact H2_) | (have H2_ := (Option.bind_some _ _).symm.trans H; with_reducible exact H2_) | with_reducible exact H | (rw [hy181]; exact H) | exact H
   have Ny181 := Aside0.mk hy181
   clear hy181
   have H' := Aside0.mk H
   clear H
   go_enter Try.func14, Try.ntmps14
   go_wp2_with (first | ((with_reducible refine gate_dst (N := 7) rfl ?_); refine Kd.R_make k73 _ 73 rfl (N := 7) rfl 27 _ _ rfl (l0.length : Int) rfl rfl Try.underlying27 (.agg #[(.int .i64 0), (.int .i64 0)]) 16 info73 rfl (by decide) (by omega) z73 (ok := fun _ => True) (okp := fun _ => True) (k73_mkM _ _ _ z73 ) (fun _ hk => hk) trivial (of_decide_eq_true (by first | (with_reducible assumption) | assumption)) (Nat.le_trans (Nat.mul_le_mul_right _ (of_decide_eq_true (by first | (with_reducible assumption) | assumption) : (l0.length : Int).toNat ≤ 17592186044416)) (by omega)) (Below.refl _ _) (Nat.le_refl _) ?_; intro v182 w4 ho5 hb hg_ hnew_; clear hg_ hnew_; (first | rw [← Ny181.out] at ho5 | (simp only [Int.reduceToNat] at ho5; rw [← Ny181.out] at ho5)); have HO183 := Aside0.mk (Kd.R_lower ho5 (below_size (Hof.Lw HB.out))); replace HB := Aside0.mk (below_step (Hof.Lw HB.out) hb); clear hb ho5))
   go_loopg [4] k (fun kq v4 w' => ∃ (x3_1 : List (S73)) (x4_1 : Int), v4 = .int .i64 x4_1 ∧ Aside0 (laws_toTaskS.l0 kq l0 x3_1 x4_1 = some r) ∧ Aside0 (kq ≤ k) ∧ Aside0 (Kd.R k73 73 w' w.heap.size (fun _ => True) v182 x3_1) ∧ Aside0 (Below w.heap.size w w'))
   case atStart => exact ⟨(y181), (0), (by first | rfl | (simp; done) | (simp [*]; done)), H', ⟨Nat.le_refl _⟩, ⟨Hof.Rw HO183.out⟩, ⟨Hof.Lw HB.out⟩⟩
   case round =>
    clear H'
    try clear c1
    try clear c2
    try clear c2b0
    try clear c2b1
    try clear p2
    try clear c3
    try clear c3b0
    try clear c3b1
    obtain ⟨x3_1, x4_1, rfl, HA, HK1, HO_3, HB⟩ := hrel
    cases gk with
    | zero => exact absurd HA.out (by simp [laws_toTaskS.l0])
    | succ k1 =>
     have H := HA.out
     clear HA
     simp only [laws_toTaskS.l0] at H
     by_cases c6 : x4_1 < (l0.length : Int)
     ·rw [if_pos c6] at H
      have c6b0 : decide (x4_1 < (l0.length : Int)) = true := decide_eq_true c6
      clear c6
      by_cases c7 : 0 ≤ x4_1
      ·rw [if_pos c7] at H
       have c7b0 : decide (0 ≤ x4_1) = true := decide_eq_true c7
       clear c7
       replace H := Option.bind_eq_some_iff.mp H
       obtain ⟨⟨t185, t186⟩, A80, H⟩ := H
       (try dsimp only at H)
       have A8 := Aside0.mk A80
       clear A80
       by_cases c9 : x4_1 < (x3_1.length : Int)
       ·rw [if_pos c9] at H
        have c9b0 : decide (x4_1 < (x3_1.length : Int)) = true := decide_eq_true c9
        clear c9
        obtain ⟨y187, hy187⟩ : ∃ y_ : List (S73), y_ = (x3_1.set (x4_1 : Int).toNat (⟨t185, t186⟩ : S73)) := ⟨_, rfl⟩
        replace H : (laws_toTaskS.l0 k1 l0 y187 (wrap64 (x4_1 + 1))) = some r := by first | (rw [hy187]; with_reducible exact H) | (have H2_ := (Option.bind_some _ _).symm.trans H; rw [hy187]; with_reducible exact H2_) | (have H2_ := (Option.bind_some _ _).symm.trans H; with_reducible exact H2_) | with_reducible exact H | (rw [hy187]; exact H) | exact H
        have Ny187 := Aside0.mk hy187
        clear hy187
        have H' := Aside0.mk H
        clear H
        have p184 : 0 ≤ (x4_1 : Int) := of_decide_eq_true (by first | (with_reducible assumption) | assumption)
        have q184 : x4_1 < (l0.length : Int) := of_decide_eq_true (by first | (with_reducible assumption) | assumption)
        obtain ⟨ad184, e184, hx184_0, hx184_1⟩ := at_T75 HR0.out x4_1 p184 q184
        cases e184
        try replace hx184_0 := (HB.out.cell (World.block_lt_of_cell? w _ hx184_0)).trans hx184_0
        try replace hx184_1 := (HB.out.cell (World.block_lt_of_cell? w _ hx184_1)).trans hx184_1
        replace p184 := eq_true p184
        replace q184 := eq_true q184
        go_wp2_with (first | ((with_reducible refine gate_callee (f := 59) rfl ?_); refine goesL_ (some 20) rfl rfl Try.func59 (by kernel_rfl) rfl #[.agg #[.int .i64 ((rd_T75 l0 x4_1).f0), .int .i64 ((rd_T75 l0 x4_1).f1)]] rfl (by (try simp only [List.map_toArray, List.map_cons, List.map_nil]); first | done | rfl) ?_; (with_reducible refine (laws_toTask.calls ((rd_T75 l0 x4_1).f0) ((rd_T75 l0 x4_1).f1) t185 t186 _ A8.out).mono ?_); rintro e w11 ⟨rfl, hb⟩; refine ⟨_, rfl, ?_⟩; replace HO_3 := Aside0.mk (Kd.R_below (Hof.Rw HO_3.out) hb); replace HB := Aside0.mk (below_step (Hof.Lw HB.out) hb); (try clear hb); (try clear hb2); (try clear hk); (try clear hi); have p10 : 0 ≤ (x4_1 : Int) := of_decide_eq_true (by first | (with_reducible assumption) | assumption); have q10 : (x4_1 : Int) < ((x3_1.length : Int) : Int) := of_decide_eq_true (by first | (with_reducible assumption) | assumption); obtain ⟨go10, co10, eo10, gb10, gl10, cl10, HG10⟩ := Kd.R_form HO_3.out (by omega); (first | cases eo10 | (injection eo10 with ea_ en_ ec_; (first | subst ea_ | (injection ea_ with ea_; subst ea_)); subst ec_; clear en_)); have GB10 := Aside0.mk gb10; have GG10 := Aside0.mk HG10; clear gb10 gl10 HG10; obtain ⟨ce10, hcl10, hM10, hcc10, hfr10⟩ := Kd.R_elem HO_3.out z73 (x4_1 : Int) p10 q10; obtain rfl := k73_openM hM10; have hx10_0 : w11.cell? ⟨go10, (x4_1 : Int).toNat * 2, none⟩ = some (.int .i64 ((rd_T73 x3_1 x4_1).f0)) := hcc10 0 _ rfl; have hx10_1 : w11.cell? ⟨go10, (x4_1 : Int).toNat * 2 + 1, none⟩ = some (.int .i64 ((rd_T73 x3_1 x4_1).f1)) := hcc10 1 _ rfl; have hf10_0 : w11.frozen? ⟨go10, (x4_1 : Int).toNat * 2, none⟩ = false := hfr10 0; have hf10_1 : w11.frozen? ⟨go10, (x4_1 : Int).toNat * 2 + 1, none⟩ = false := hfr10 1; clear hcl10 hcc10 hfr10; (try clear hM10); replace p10 := eq_true p10; replace q10 := eq_true q10; have HX12 := Aside0.mk (show Kd.R k73 73 w11 w.heap.size (fun _ => True) (.slice (some ⟨go10, 0, none⟩) x3_1.length co10) x3_1 from (Hof.Rw HO_3.out)); obtain ⟨ce12, hcl12, hM12, hcc12, hfr12⟩ := Kd.R_elem HX12.out z73 (x4_1 : Int) (of_decide_eq_true (by first | (with_reducible assumption) | assumption)) (by have h_ : (x4_1 : Int) < ((x3_1.length : Int) : Int) := of_decide_eq_true (by first | (with_reducible assumption) | assumption); first | exact h_ | (have e_ := (Kd.R_reads' HO_3.out).1; omega) | simpa using h_); obtain rfl := k73_openM hM12; have HP12 := Kd.R_seg HX12.out (x4_1 : Int) (of_decide_eq_true (by first | (with_reducible assumption) | assumption)) (by have h_ : (x4_1 : Int) < ((x3_1.length : Int) : Int) := of_decide_eq_true (by first | (with_reducible assumption) | assumption); first | exact h_ | (have e_ := (Kd.R_reads' HO_3.out).1; omega) | simpa using h_) (seg := [.int .i64 t185, .int .i64 t186]) (j := 0) hcl12 hcc12 (show 2 ≤ 2 from by decide) (x' := (⟨t185, t186⟩ : S73)) (k73_mkM _ _ _ (⟨t185, t186⟩ : S73) ) (fun _ hk => hk); have hx12_0 := hcc12 0 _ rfl; (try simp only [show (k73).sz = 2 from rfl, Nat.mul_one, Nat.add_zero] at hx12_0); have hf12_0 := hfr12 0; (try simp only [show (k73).sz = 2 from rfl, Nat.mul_one, Nat.add_zero] at hf12_0); have hx12_1 := hcc12 1 _ rfl; (try simp only [show (k73).sz = 2 from rfl, Nat.mul_one, Nat.add_zero] at hx12_1); have hf12_1 := hfr12 1; (try simp only [show (k73).sz = 2 from rfl, Nat.mul_one, Nat.add_zero] at hf12_1); clear hcl12 hcc12 hfr12 hM12) | ((with_reducible refine gate_store (t := 73) (p := 21) rfl ?_); refine store_event (t := 73) (p := 21) (v := ?vo_w13) (w1 := ((w11.setCell ⟨go10, (x4_1 : Int).toNat * 2, none⟩ (.int .i64 t185)).setCell ⟨go10, (x4_1 : Int).toNat * 2 + 1, none⟩ (.int .i64 t186))) ?hg ?ho ?hn ?hr ?_; (case ho => rfl); (case hg => rfl); (case hn => rfl); (case hr => first | (go_simp; done) | (go_simp; rfl)); intro w13 hw; have hg : w11.grownBy w13 (some go10) := (by rw [hw]; exact HP12.2); have hp_ : Kd.R k73 73 w13 w.heap.size (fun _ => True) (.slice (some ⟨go10, 0, none⟩) x3_1.length co10) y187 := (by rw [hw, Ny187.out]; exact HP12.1); clear HP12; replace HO_3 := Aside0.mk hp_; replace HB := Aside0.mk ((by rw [hw]; exact below_set (below_set (HB.out) GB10.out) GB10.out : Below w.heap.size w w13)); clear hg hw hp_))
        go_roundg k1
        case measure => have := HK1.out; omega
        case rel => exact ⟨(y187), (wrap64 (x4_1 + 1)), (by first | rfl | (simp; done) | (simp [*]; done)), H', ⟨by have := HK1.out; omega⟩, ⟨Hof.Rw HO_3.out⟩, ⟨Hof.Lw HB.out⟩⟩
       ·rw [if_neg c9] at H
        exact absurd H (by simp)
      ·rw [if_neg c7] at H
       exact absurd H (by simp)
     ·rw [if_neg c6] at H
      have c6b0 : decide (x4_1 < (l0.length : Int)) = false := decide_eq_false c6
      clear c6
      obtain rfl := Option.some.inj H
      go_wp2
      go_ret
      exact ⟨_, by first | rfl | (simp [errW_none, errW_some] <;> rfl) | (simp [*, errW_none, errW_some] <;> rfl), by (with_reducible repeat (first | apply Kd.R_alloc | apply Kd.R_drewN | apply Kd.R_drew)); exact HO_3.out, by repeat (first | (with_reducible first | exact HB.out | apply below_alloc | apply pw_below_drewN | apply below_drew1) | exact HB.out)⟩
  ·rw [if_neg c3] at H
   exact absurd H (by simp)
 ·rw [if_neg c2] at H
  exact absurd H (by simp)
end Go.Proofs.Ytmpodackojmojaa.Pr
end
section
namespace Go.Proofs.Ytmpodackojmojaa.Pr
open Go.RowKit Go.Proofs.YtmpodackojmojaaW.PrintWords Go.Proofs.YtmpodackojmojaaW.PrintLast Go.Proofs.YtmpodackojmojaaW.PrintMore
attribute [local go_sem] max2_int min2_int max_two min_two max_three min_three max_four min_four
set_option linter.unusedVariables false
set_option linter.unusedSimpArgs false
def impl_AreTasks.l0 : Nat → List (S73) → List (S73) → Int → Int → Option (Bool)
 | 0, _, _, _, _ => none
 | k + 1, x0, x5, x6, x7 => if x7 < x6 then (if 0 ≤ x7 then (if x7 < (x5.length : Int) then (if ((rd_T73 x5 x7).f0) < 0 then (some false) else (if ((rd_T73 x5 x7).f0) > 6 then (some false) else (if ((rd_T73 x5 x7).f1) < 0 then (some false) else (if ((rd_T73 x5 x7).f1) > 1000 then (some false) else (impl_AreTasks.l0 k x0 x5 x6 (wrap64 (x7 + 1))))))) else (none)) else (none)) else (some (decide ((x0.length : Int) ≤ 8)))
def impl_AreTasks.f (k : Nat) (l0 : List (S73)) : Option (Bool) := impl_AreTasks.l0 k l0 l0 (l0.length : Int) 0
set_option maxHeartbeats 8000000 in
set_option maxRecDepth 100000 in
theorem impl_AreTasks.calls (k : Nat) (A0 : Option Addr) (c0 : Nat) (l0 : List (S73)) (r : Bool) (w : World) (hr0 : Kd.C k73 w A0 l0.length l0) (hc0 : l0.length ≤ c0) (h : impl_AreTasks.f k l0 = some r) :
  Calls Try.prog 60 #[.slice A0 l0.length c0] w fun e w' => e = .returned (.bool r) ∧ Below w.heap.size w w' := by
 have hu73 := Try.underlying73
 have HR0 := Aside0.mk hr0
 have HC0 := Aside0.mk hc0
 clear hr0 hc0
 have HB := Aside0.mk (Below.refl w.heap.size w)
 have H : (impl_AreTasks.l0 k l0 l0 (l0.length : Int) 0) = some r := h
 clear h
 have H' := Aside0.mk H
 clear H
 go_enter Try.func60, Try.ntmps60
 go_wp2
 go_loopg [7] k (fun kq v7 w' => ∃ (x7_1 : Int), v7 = .int .i64 x7_1 ∧ Aside0 (impl_AreTasks.l0 kq l0 l0 (l0.length : Int) x7_1 = some r) ∧ Aside0 (kq ≤ k) ∧ Aside0 (Below w.heap.size w w'))
 case atStart => exact ⟨(0), (by first | rfl | (simp; done) | (simp [*]; done)), H', ⟨Nat.le_refl _⟩, ⟨Hof.Lw HB.out⟩⟩
 case round =>
  clear H'
  obtain ⟨x7_1, rfl, HA, HK1, HB⟩ := hrel
  cases gk with
  | zero => exact absurd HA.out (by simp [impl_AreTasks.l0])
  | succ k1 =>
   have H := HA.out
   clear HA
   simp only [impl_AreTasks.l0] at H
   by_cases c2 : x7_1 < (l0.length : Int)
   ·rw [if_pos c2] at H
    have c2b0 : decide (x7_1 < (l0.length : Int)) = true := decide_eq_true c2
    clear c2
    by_cases c3 : 0 ≤ x7_1
    ·rw [if_pos c3] at H
     have c3b0 : decide (0 ≤ x7_1) = true := decide_eq_true c3
     clear c3
     by_cases c4 : x7_1 < (l0.length : Int)
     ·rw [if_pos c4] at H
      have c4b0 : decide (x7_1 < (l0.length : Int)) = true := decide_eq_true c4
      clear c4
      by_cases c5 : ((rd_T73 l0 x7_1).f0) < 0
      ·rw [if_pos c5] at H
       have c5b0 : decide (((rd_T73 l0 x7_1).f0) < 0) = true := decide_eq_true c5
       clear c5
       obtain rfl := Option.some.inj H
       have p188 : 0 ≤ (x7_1 : Int) := of_decide_eq_true (by first | (with_reducible assumption) | assumption)
       have q188 : x7_1 < (l0.length : Int) := of_decide_eq_true (by first | (with_reducible assumption) | assumption)
       obtain ⟨ad188, e188, hx188_0, hx188_1⟩ := at_T73 HR0.out x7_1 p188 q188
       cases e188
       try replace hx188_0 := (HB.out.cell (World.block_lt_of_cell? w _ hx188_0)).trans hx188_0
       try replace hx188_1 := (HB.out.cell (World.block_lt_of_cell? w _ hx188_1)).trans hx188_1
       replace p188 := eq_true p188
       replace q188 := eq_true q188
       go_wp2_with (first | ((with_reducible refine gate_dst (N := 4) rfl ?_); refine box_event ?hg (N := 4) ?hd (cs := #[.int .i64 0, .int .i64 0]) (t := 73) ?hr ?_; (case hd => rfl); (case hg => rfl); (case hr => first | (go_simp; done) | (go_simp; rfl)); intro gb189 hg w6 hbox hb; have BK189 := Aside0.mk hbox; have GW189 := Aside0.mk ((by rw [hg]; exact (below_size (Hof.Lw HB.out)) : w.heap.size ≤ gb189)); have GE189 := Aside0.mk ((by rw [hg]; exact (below_size (Hof.Lw HB.out)) : w.heap.size ≤ gb189)); replace HB := Aside0.mk (below_step (Hof.Lw HB.out) hb); clear hb hbox hg; obtain ⟨hcz7_0, hcz7_1, hfz7_0, hfz7_1⟩ := Hof.blk2 BK189.out))
       go_ret
       exact ⟨by first | rfl | (simp [errW_none, errW_some] <;> rfl) | (simp [*, errW_none, errW_some] <;> rfl), by repeat (first | (with_reducible first | exact HB.out | apply below_alloc | apply pw_below_drewN | apply below_drew1 | refine below_set ?_ GE189.out) | exact HB.out)⟩
      ·rw [if_neg c5] at H
       have c5b0 : decide (((rd_T73 l0 x7_1).f0) < 0) = false := decide_eq_false c5
       clear c5
       by_cases c8 : ((rd_T73 l0 x7_1).f0) > 6
       ·rw [if_pos c8] at H
        have c8b0 : decide (6 < ((rd_T73 l0 x7_1).f0)) = true := decide_eq_true c8
        clear c8
        obtain rfl := Option.some.inj H
        have p188 : 0 ≤ (x7_1 : Int) := of_decide_eq_true (by first | (with_reducible assumption) | assumption)
        have q188 : x7_1 < (l0.length : Int) := of_decide_eq_true (by first | (with_reducible assumption) | assumption)
        obtain ⟨ad188, e188, hx188_0, hx188_1⟩ := at_T73 HR0.out x7_1 p188 q188
        cases e188
        try replace hx188_0 := (HB.out.cell (World.block_lt_of_cell? w _ hx188_0)).trans hx188_0
        try replace hx188_1 := (HB.out.cell (World.block_lt_of_cell? w _ hx188_1)).trans hx188_1
        replace p188 := eq_true p188
        replace q188 := eq_true q188
        go_wp2_with (first | ((with_reducible refine gate_dst (N := 4) rfl ?_); refine box_event ?hg (N := 4) ?hd (cs := #[.int .i64 0, .int .i64 0]) (t := 73) ?hr ?_; (case hd => rfl); (case hg => rfl); (case hr => first | (go_simp; done) | (go_simp; rfl)); intro gb189 hg w9 hbox hb; have BK189 := Aside0.mk hbox; have GW189 := Aside0.mk ((by rw [hg]; exact (below_size (Hof.Lw HB.out)) : w.heap.size ≤ gb189)); have GE189 := Aside0.mk ((by rw [hg]; exact (below_size (Hof.Lw HB.out)) : w.heap.size ≤ gb189)); replace HB := Aside0.mk (below_step (Hof.Lw HB.out) hb); clear hb hbox hg; obtain ⟨hcz10_0, hcz10_1, hfz10_0, hfz10_1⟩ := Hof.blk2 BK189.out))
        go_ret
        exact ⟨by first | rfl | (simp [errW_none, errW_some] <;> rfl) | (simp [*, errW_none, errW_some] <;> rfl), by repeat (first | (with_reducible first | exact HB.out | apply below_alloc | apply pw_below_drewN | apply below_drew1 | refine below_set ?_ GE189.out) | exact HB.out)⟩
       ·rw [if_neg c8] at H
        have c8b0 : decide (6 < ((rd_T73 l0 x7_1).f0)) = false := decide_eq_false c8
        clear c8
        by_cases c11 : ((rd_T73 l0 x7_1).f1) < 0
        ·rw [if_pos c11] at H
         have c11b0 : decide (((rd_T73 l0 x7_1).f1) < 0) = true := decide_eq_true c11
         clear c11
         obtain rfl := Option.some.inj H
         have p188 : 0 ≤ (x7_1 : Int) := of_decide_eq_true (by first | (with_reducible assumption) | assumption)
         have q188 : x7_1 < (l0.length : Int) := of_decide_eq_true (by first | (with_reducible assumption) | assumption)
         obtain ⟨ad188, e188, hx188_0, hx188_1⟩ := at_T73 HR0.out x7_1 p188 q188
         cases e188
         try replace hx188_0 := (HB.out.cell (World.block_lt_of_cell? w _ hx188_0)).trans hx188_0
         try replace hx188_1 := (HB.out.cell (World.block_lt_of_cell? w _ hx188_1)).trans hx188_1
         replace p188 := eq_true p188
         replace q188 := eq_true q188
         go_wp2_with (first | ((with_reducible refine gate_dst (N := 4) rfl ?_); refine box_event ?hg (N := 4) ?hd (cs := #[.int .i64 0, .int .i64 0]) (t := 73) ?hr ?_; (case hd => rfl); (case hg => rfl); (case hr => first | (go_simp; done) | (go_simp; rfl)); intro gb189 hg w12 hbox hb; have BK189 := Aside0.mk hbox; have GW189 := Aside0.mk ((by rw [hg]; exact (below_size (Hof.Lw HB.out)) : w.heap.size ≤ gb189)); have GE189 := Aside0.mk ((by rw [hg]; exact (below_size (Hof.Lw HB.out)) : w.heap.size ≤ gb189)); replace HB := Aside0.mk (below_step (Hof.Lw HB.out) hb); clear hb hbox hg; obtain ⟨hcz13_0, hcz13_1, hfz13_0, hfz13_1⟩ := Hof.blk2 BK189.out))
         go_ret
         exact ⟨by first | rfl | (simp [errW_none, errW_some] <;> rfl) | (simp [*, errW_none, errW_some] <;> rfl), by repeat (first | (with_reducible first | exact HB.out | apply below_alloc | apply pw_below_drewN | apply below_drew1 | refine below_set ?_ GE189.out) | exact HB.out)⟩
        ·rw [if_neg c11] at H
         have c11b0 : decide (((rd_T73 l0 x7_1).f1) < 0) = false := decide_eq_false c11
         clear c11
         by_cases c14 : ((rd_T73 l0 x7_1).f1) > 1000
         ·rw [if_pos c14] at H
          have c14b0 : decide (1000 < ((rd_T73 l0 x7_1).f1)) = true := decide_eq_true c14
          clear c14
          obtain rfl := Option.some.inj H
          have p188 : 0 ≤ (x7_1 : Int) := of_decide_eq_true (by first | (with_reducible assumption) | assumption)
          have q188 : x7_1 < (l0.length : Int) := of_decide_eq_true (by first | (with_reducible assumption) | assumption)
          obtain ⟨ad188, e188, hx188_0, hx188_1⟩ := at_T73 HR0.out x7_1 p188 q188
          cases e188
          try replace hx188_0 := (HB.out.cell (World.block_lt_of_cell? w _ hx188_0)).trans hx188_0
          try replace hx188_1 := (HB.out.cell (World.block_lt_of_cell? w _ hx188_1)).trans hx188_1
          replace p188 := eq_true p188
          replace q188 := eq_true q188
          go_wp2_with (first | ((with_reducible refine gate_dst (N := 4) rfl ?_); refine box_event ?hg (N := 4) ?hd (cs := #[.int .i64 0, .int .i64 0]) (t := 73) ?hr ?_; (case hd => rfl); (case hg => rfl); (case hr => first | (go_simp; done) | (go_simp; rfl)); intro gb189 hg w15 hbox hb; have BK189 := Aside0.mk hbox; have GW189 := Aside0.mk ((by rw [hg]; exact (below_size (Hof.Lw HB.out)) : w.heap.size ≤ gb189)); have GE189 := Aside0.mk ((by rw [hg]; exact (below_size (Hof.Lw HB.out)) : w.heap.size ≤ gb189)); replace HB := Aside0.mk (below_step (Hof.Lw HB.out) hb); clear hb hbox hg; obtain ⟨hcz16_0, hcz16_1, hfz16_0, hfz16_1⟩ := Hof.blk2 BK189.out))
          go_ret
          exact ⟨by first | rfl | (simp [errW_none, errW_some] <;> rfl) | (simp [*, errW_none, errW_some] <;> rfl), by repeat (first | (with_reducible first | exact HB.out | apply below_alloc | apply pw_below_drewN | apply below_drew1 | refine below_set ?_ GE189.out) | exact HB.out)⟩
         ·rw [if_neg c14] at H
          have c14b0 : decide (1000 < ((rd_T73 l0 x7_1).f1)) = false := decide_eq_false c14
          clear c14
          have H' := Aside0.mk H
          clear H
          have p188 : 0 ≤ (x7_1 : Int) := of_decide_eq_true (by first | (with_reducible assumption) | assumption)
          have q188 : x7_1 < (l0.length : Int) := of_decide_eq_true (by first | (with_reducible assumption) | assumption)
          obtain ⟨ad188, e188, hx188_0, hx188_1⟩ := at_T73 HR0.out x7_1 p188 q188
          cases e188
          try replace hx188_0 := (HB.out.cell (World.block_lt_of_cell? w _ hx188_0)).trans hx188_0
          try replace hx188_1 := (HB.out.cell (World.block_lt_of_cell? w _ hx188_1)).trans hx188_1
          replace p188 := eq_true p188
          replace q188 := eq_true q188
          go_wp2_with (first | ((with_reducible refine gate_dst (N := 4) rfl ?_); refine box_event ?hg (N := 4) ?hd (cs := #[.int .i64 0, .int .i64 0]) (t := 73) ?hr ?_; (case hd => rfl); (case hg => rfl); (case hr => first | (go_simp; done) | (go_simp; rfl)); intro gb189 hg w17 hbox hb; have BK189 := Aside0.mk hbox; have GW189 := Aside0.mk ((by rw [hg]; exact (below_size (Hof.Lw HB.out)) : w.heap.size ≤ gb189)); have GE189 := Aside0.mk ((by rw [hg]; exact (below_size (Hof.Lw HB.out)) : w.heap.size ≤ gb189)); replace HB := Aside0.mk (below_step (Hof.Lw HB.out) hb); clear hb hbox hg; obtain ⟨hcz18_0, hcz18_1, hfz18_0, hfz18_1⟩ := Hof.blk2 BK189.out))
          go_roundg k1
          case measure => have := HK1.out; omega
          case rel => exact ⟨(wrap64 (x7_1 + 1)), (by first | rfl | (simp; done) | (simp [*]; done)), H', ⟨by have := HK1.out; omega⟩, ⟨by repeat (first | (with_reducible first | exact HB.out | apply below_alloc | apply pw_below_drewN | apply below_drew1 | refine below_set ?_ GE189.out) | exact HB.out)⟩⟩
     ·rw [if_neg c4] at H
      exact absurd H (by simp)
    ·rw [if_neg c3] at H
     exact absurd H (by simp)
   ·rw [if_neg c2] at H
    have c2b0 : decide (x7_1 < (l0.length : Int)) = false := decide_eq_false c2
    clear c2
    obtain rfl := Option.some.inj H
    go_wp2
    go_ret
    exact ⟨by first | rfl | (simp [errW_none, errW_some] <;> rfl) | (simp [*, errW_none, errW_some] <;> rfl), by repeat (first | (with_reducible first | exact HB.out | apply below_alloc | apply pw_below_drewN | apply below_drew1) | exact HB.out)⟩
end Go.Proofs.Ytmpodackojmojaa.Pr
end
section
namespace Go.Proofs.Ytmpodackojmojaa.Pr
open Go.RowKit Go.Proofs.YtmpodackojmojaaW.PrintWords Go.Proofs.YtmpodackojmojaaW.PrintLast Go.Proofs.YtmpodackojmojaaW.PrintMore
attribute [local go_sem] max2_int min2_int max_two min_two max_three min_three max_four min_four
set_option linter.unusedVariables false
set_option linter.unusedSimpArgs false
def impl_isSize.f (a0 : Int) : Option (Bool) := if a0 ≥ 0 then (some (decide (a0 ≤ 8))) else (some false)
set_option maxHeartbeats 8000000 in
set_option maxRecDepth 100000 in
theorem impl_isSize.calls (a0 : Int) (r : Bool) (w : World) (h : impl_isSize.f a0 = some r) :
  Calls Try.prog 105 #[.int .i64 a0] w fun e w' => e = .returned (.bool r) ∧ Drawn0 w w' := by
 have H : (if a0 ≥ 0 then (some (decide (a0 ≤ 8))) else (some false)) = some r := h
 clear h
 by_cases c2 : a0 ≥ 0
 ·rw [if_pos c2] at H
  have c2b0 : decide (0 ≤ a0) = true := decide_eq_true c2
  clear c2
  obtain rfl := Option.some.inj H
  go_enter Try.func105, Try.ntmps105
  go_wp2
  go_ret
  exact ⟨by first | rfl | (simp; done) | (simp [*]; done), by repeat (first | exact Drawn0.refl _ | apply Drawn0.step)⟩
 ·rw [if_neg c2] at H
  have c2b0 : decide (0 ≤ a0) = false := decide_eq_false c2
  clear c2
  obtain rfl := Option.some.inj H
  go_enter Try.func105, Try.ntmps105
  go_wp2
  go_ret
  exact ⟨by first | rfl | (simp; done) | (simp [*]; done), by repeat (first | exact Drawn0.refl _ | apply Drawn0.step)⟩
end Go.Proofs.Ytmpodackojmojaa.Pr
end
section
namespace Go.Proofs.Ytmpodackojmojaa.Pr
open Go.RowKit Go.Proofs.YtmpodackojmojaaW.PrintWords Go.Proofs.YtmpodackojmojaaW.PrintLast Go.Proofs.YtmpodackojmojaaW.PrintMore
attribute [local go_sem] max2_int min2_int max_two min_two max_three min_three max_four min_four
set_option linter.unusedVariables false
set_option linter.unusedSimpArgs false
def impl_IsSet.f (a0 : Int) (a1 : Int) : Option (Bool) := (impl_isSize.f a0).bind fun t190 => (if t190 = true then (if a1 ≥ 0 then (if 0 ≤ a0 then (some (decide (a1 < (shl .i64 1 a0)))) else (none)) else (some false)) else (some false))
set_option maxHeartbeats 8000000 in
set_option maxRecDepth 100000 in
theorem impl_IsSet.calls (a0 : Int) (a1 : Int) (r : Bool) (w : World) (h : impl_IsSet.f a0 a1 = some r) :
  Calls Try.prog 61 #[.int .i64 a0, .int .i64 a1] w fun e w' => e = .returned (.bool r) ∧ Drawn0 w w' := by
 have H : ((impl_isSize.f a0).bind fun t190 => (if t190 = true then (if a1 ≥ 0 then (if 0 ≤ a0 then (some (decide (a1 < (shl .i64 1 a0)))) else (none)) else (some false)) else (some false))) = some r := h
 clear h
 replace H := Option.bind_eq_some_iff.mp H
 obtain ⟨t190, A30, H⟩ := H
 (try dsimp only at H)
 have A3 := Aside0.mk A30
 clear A30
 by_cases c4 : t190 = true
 ·subst c4
  have H1 : (if a1 ≥ 0 then (if 0 ≤ a0 then (some (decide (a1 < (shl .i64 1 a0)))) else (none)) else (some false)) = some r := by rw [if_pos rfl] at H; exact H
  clear H
  have H := H1
  clear H1
  by_cases c5 : a1 ≥ 0
  ·rw [if_pos c5] at H
   have c5b0 : decide (0 ≤ a1) = true := decide_eq_true c5
   clear c5
   by_cases c6 : 0 ≤ a0
   ·rw [if_pos c6] at H
    have c6b0 := eq_true c6
    have c6b1 : decide (0 ≤ a0) = true := decide_eq_true c6
    clear c6
    obtain ⟨ji7, hji7⟩ : ∃ j_ : Int, (shl .i64 1 a0) = j_ := ⟨_, rfl⟩
    replace H : (some (decide (a1 < (ji7)))) = some r := by first | (rw [hji7] at H; exact H) | (simp only [hji7] at H ⊢; exact H)
    (try rw [hji7] at A3)
    have hji7_ : (IntKind.i64.wrap (1 * 2 ^ min a0.toNat 64)) = ji7 := hji7
    have hji7z : a0 ≤ 64 → (IntKind.i64.wrap (1 * 2 ^ a0.toNat)) = ji7 := shl_small hji7
    have hji7u : (IntKind.i64.wrap (2 ^ min a0.toNat 64)) = ji7 := by have h_ := hji7_; rw [Int.one_mul] at h_; exact h_
    have hji7v : a0 ≤ 64 → (IntKind.i64.wrap (2 ^ a0.toNat)) = ji7 := fun hle_ => by have h_ := hji7z hle_; rw [Int.one_mul] at h_; exact h_
    have hji7y : (wrap64 (1 * 2 ^ min a0.toNat 64)) = ji7 := (i64_w _).symm.trans hji7_
    have hji7x : a0 ≤ 64 → (wrap64 (1 * 2 ^ a0.toNat)) = ji7 := fun h_ => (i64_w _).symm.trans (hji7z h_)
    obtain rfl := Option.some.inj H
    go_enter Try.func61, Try.ntmps61
    go_wp2_with (first | ((with_reducible refine gate_callee (f := 105) rfl ?_); refine goesL_ (some 6) rfl rfl Try.func105 (by kernel_rfl) rfl #[.int .i64 a0] rfl (by (try simp only [List.map_toArray, List.map_cons, List.map_nil]); first | done | rfl) ?_; (with_reducible refine (impl_isSize.calls a0 true _ A3.out).mono ?_); rintro e w' ⟨rfl, ⟨nd, rfl⟩⟩; refine ⟨_, rfl, ?_⟩))
    go_ret
    exact ⟨by first | rfl | (simp; done) | (simp only [← hji7] <;> (first | rfl | simp)) | (simp [*]; done), by repeat (first | exact Drawn0.refl _ | apply Drawn0.step)⟩
   ·rw [if_neg c6] at H
    exact absurd H (by simp)
  ·rw [if_neg c5] at H
   have c5b0 : decide (0 ≤ a1) = false := decide_eq_false c5
   clear c5
   obtain rfl := Option.some.inj H
   go_enter Try.func61, Try.ntmps61
   go_wp2_with (first | ((with_reducible refine gate_callee (f := 105) rfl ?_); refine goesL_ (some 6) rfl rfl Try.func105 (by kernel_rfl) rfl #[.int .i64 a0] rfl (by (try simp only [List.map_toArray, List.map_cons, List.map_nil]); first | done | rfl) ?_; (with_reducible refine (impl_isSize.calls a0 true _ A3.out).mono ?_); rintro e w' ⟨rfl, ⟨nd, rfl⟩⟩; refine ⟨_, rfl, ?_⟩))
   go_ret
   exact ⟨by first | rfl | (simp; done) | (simp [*]; done), by repeat (first | exact Drawn0.refl _ | apply Drawn0.step)⟩
 ·replace c4 := Bool.eq_false_iff.mpr c4
  subst c4
  have H1 : (some false) = some r := by rw [if_neg (show ¬ (false = true) by decide)] at H; exact H
  clear H
  have H := H1
  clear H1
  obtain rfl := Option.some.inj H
  go_enter Try.func61, Try.ntmps61
  go_wp2_with (first | ((with_reducible refine gate_callee (f := 105) rfl ?_); refine goesL_ (some 6) rfl rfl Try.func105 (by kernel_rfl) rfl #[.int .i64 a0] rfl (by (try simp only [List.map_toArray, List.map_cons, List.map_nil]); first | done | rfl) ?_; (with_reducible refine (impl_isSize.calls a0 false _ A3.out).mono ?_); rintro e w' ⟨rfl, ⟨nd, rfl⟩⟩; refine ⟨_, rfl, ?_⟩))
  go_ret
  exact ⟨by first | rfl | (simp; done) | (simp [*]; done), by repeat (first | exact Drawn0.refl _ | apply Drawn0.step)⟩
end Go.Proofs.Ytmpodackojmojaa.Pr
end
section
namespace Go.Proofs.Ytmpodackojmojaa.Pr
open Go.RowKit Go.Proofs.YtmpodackojmojaaW.PrintWords Go.Proofs.YtmpodackojmojaaW.PrintLast Go.Proofs.YtmpodackojmojaaW.PrintMore
attribute [local go_sem] max2_int min2_int max_two min_two max_three min_three max_four min_four
set_option linter.unusedVariables false
set_option linter.unusedSimpArgs false
def impl_isAny.f (a0 : Int) : Option (Bool) := if a0 ≥ 0 then (some (decide (a0 < 256))) else (some false)
set_option maxHeartbeats 8000000 in
set_option maxRecDepth 100000 in
theorem impl_isAny.calls (a0 : Int) (r : Bool) (w : World) (h : impl_isAny.f a0 = some r) :
  Calls Try.prog 121 #[.int .i64 a0] w fun e w' => e = .returned (.bool r) ∧ Drawn0 w w' := by
 have H : (if a0 ≥ 0 then (some (decide (a0 < 256))) else (some false)) = some r := h
 clear h
 by_cases c2 : a0 ≥ 0
 ·rw [if_pos c2] at H
  have c2b0 : decide (0 ≤ a0) = true := decide_eq_true c2
  clear c2
  obtain rfl := Option.some.inj H
  go_enter Try.func121, Try.ntmps121
  go_wp2
  go_ret
  exact ⟨by first | rfl | (simp; done) | (simp [*]; done), by repeat (first | exact Drawn0.refl _ | apply Drawn0.step)⟩
 ·rw [if_neg c2] at H
  have c2b0 : decide (0 ≤ a0) = false := decide_eq_false c2
  clear c2
  obtain rfl := Option.some.inj H
  go_enter Try.func121, Try.ntmps121
  go_wp2
  go_ret
  exact ⟨by first | rfl | (simp; done) | (simp [*]; done), by repeat (first | exact Drawn0.refl _ | apply Drawn0.step)⟩
end Go.Proofs.Ytmpodackojmojaa.Pr
end
section
namespace Go.Proofs.Ytmpodackojmojaa.Pr
open Go.RowKit Go.Proofs.YtmpodackojmojaaW.PrintWords Go.Proofs.YtmpodackojmojaaW.PrintLast Go.Proofs.YtmpodackojmojaaW.PrintMore
attribute [local go_sem] max2_int min2_int max_two min_two max_three min_three max_four min_four
set_option linter.unusedVariables false
set_option linter.unusedSimpArgs false
def impl_HasElement.f (a0 : Int) (a1 : Int) : Option (Bool) := (impl_isAny.f a0).bind fun t191 => (if t191 = true then (if a1 ≥ 0 then (if a1 < 8 then (if 0 ≤ a1 then (some ((Go.bits .and .i64 (shr .i64 a0 a1) 1) == 1)) else (none)) else (some false)) else (some false)) else (some false))
set_option maxHeartbeats 8000000 in
set_option maxRecDepth 100000 in
theorem impl_HasElement.calls (a0 : Int) (a1 : Int) (r : Bool) (w : World) (h : impl_HasElement.f a0 a1 = some r) :
  Calls Try.prog 82 #[.int .i64 a0, .int .i64 a1] w fun e w' => e = .returned (.bool r) ∧ Drawn0 w w' := by
 have H : ((impl_isAny.f a0).bind fun t191 => (if t191 = true then (if a1 ≥ 0 then (if a1 < 8 then (if 0 ≤ a1 then (some ((Go.bits .and .i64 (shr .i64 a0 a1) 1) == 1)) else (none)) else (some false)) else (some false)) else (some false))) = some r := h
 clear h
 replace H := Option.bind_eq_some_iff.mp H
 obtain ⟨t191, A30, H⟩ := H
 (try dsimp only at H)
 have A3 := Aside0.mk A30
 clear A30
 by_cases c4 : t191 = true
 ·subst c4
  have H1 : (if a1 ≥ 0 then (if a1 < 8 then (if 0 ≤ a1 then (some ((Go.bits .and .i64 (shr .i64 a0 a1) 1) == 1)) else (none)) else (some false)) else (some false)) = some r := by rw [if_pos rfl] at H; exact H
  clear H
  have H := H1
  clear H1
  by_cases c5 : a1 ≥ 0
  ·rw [if_pos c5] at H
   have c5b0 : decide (0 ≤ a1) = true := decide_eq_true c5
   clear c5
   by_cases c6 : a1 < 8
   ·rw [if_pos c6] at H
    have c6b0 : decide (a1 < 8) = true := decide_eq_true c6
    clear c6
    by_cases c7 : 0 ≤ a1
    ·rw [if_pos c7] at H
     have c7b0 := eq_true c7
     have c7b1 : decide (0 ≤ a1) = true := decide_eq_true c7
     clear c7
     obtain ⟨ji8, hji8⟩ : ∃ j_ : Int, (shr .i64 a0 a1) = j_ := ⟨_, rfl⟩
     replace H : (some ((Go.bits .and .i64 (ji8) 1) == 1)) = some r := by first | (rw [hji8] at H; exact H) | (simp only [hji8] at H ⊢; exact H)
     (try rw [hji8] at A3)
     have hji8_ : (a0 / 2 ^ min a1.toNat 64) = ji8 := hji8
     have hji8z : a1 ≤ 64 → (a0 / 2 ^ a1.toNat) = ji8 := shr_small hji8
     obtain rfl := Option.some.inj H
     go_enter Try.func82, Try.ntmps82
     go_wp2_with (first | ((with_reducible refine gate_callee (f := 121) rfl ?_); refine goesL_ (some 6) rfl rfl Try.func121 (by kernel_rfl) rfl #[.int .i64 a0] rfl (by (try simp only [List.map_toArray, List.map_cons, List.map_nil]); first | done | rfl) ?_; (with_reducible refine (impl_isAny.calls a0 true _ A3.out).mono ?_); rintro e w' ⟨rfl, ⟨nd, rfl⟩⟩; refine ⟨_, rfl, ?_⟩))
     go_ret
     exact ⟨by first | rfl | (simp; done) | (simp only [← hji8] <;> (first | rfl | simp)) | (simp [*]; done), by repeat (first | exact Drawn0.refl _ | apply Drawn0.step)⟩
    ·rw [if_neg c7] at H
     exact absurd H (by simp)
   ·rw [if_neg c6] at H
    have c6b0 : decide (a1 < 8) = false := decide_eq_false c6
    clear c6
    obtain rfl := Option.some.inj H
    go_enter Try.func82, Try.ntmps82
    go_wp2_with (first | ((with_reducible refine gate_callee (f := 121) rfl ?_); refine goesL_ (some 6) rfl rfl Try.func121 (by kernel_rfl) rfl #[.int .i64 a0] rfl (by (try simp only [List.map_toArray, List.map_cons, List.map_nil]); first | done | rfl) ?_; (with_reducible refine (impl_isAny.calls a0 true _ A3.out).mono ?_); rintro e w' ⟨rfl, ⟨nd, rfl⟩⟩; refine ⟨_, rfl, ?_⟩))
    go_ret
    exact ⟨by first | rfl | (simp; done) | (simp [*]; done), by repeat (first | exact Drawn0.refl _ | apply Drawn0.step)⟩
  ·rw [if_neg c5] at H
   have c5b0 : decide (0 ≤ a1) = false := decide_eq_false c5
   clear c5
   obtain rfl := Option.some.inj H
   go_enter Try.func82, Try.ntmps82
   go_wp2_with (first | ((with_reducible refine gate_callee (f := 121) rfl ?_); refine goesL_ (some 6) rfl rfl Try.func121 (by kernel_rfl) rfl #[.int .i64 a0] rfl (by (try simp only [List.map_toArray, List.map_cons, List.map_nil]); first | done | rfl) ?_; (with_reducible refine (impl_isAny.calls a0 true _ A3.out).mono ?_); rintro e w' ⟨rfl, ⟨nd, rfl⟩⟩; refine ⟨_, rfl, ?_⟩))
   go_ret
   exact ⟨by first | rfl | (simp; done) | (simp [*]; done), by repeat (first | exact Drawn0.refl _ | apply Drawn0.step)⟩
 ·replace c4 := Bool.eq_false_iff.mpr c4
  subst c4
  have H1 : (some false) = some r := by rw [if_neg (show ¬ (false = true) by decide)] at H; exact H
  clear H
  have H := H1
  clear H1
  obtain rfl := Option.some.inj H
  go_enter Try.func82, Try.ntmps82
  go_wp2_with (first | ((with_reducible refine gate_callee (f := 121) rfl ?_); refine goesL_ (some 6) rfl rfl Try.func121 (by kernel_rfl) rfl #[.int .i64 a0] rfl (by (try simp only [List.map_toArray, List.map_cons, List.map_nil]); first | done | rfl) ?_; (with_reducible refine (impl_isAny.calls a0 false _ A3.out).mono ?_); rintro e w' ⟨rfl, ⟨nd, rfl⟩⟩; refine ⟨_, rfl, ?_⟩))
  go_ret
  exact ⟨by first | rfl | (simp; done) | (simp [*]; done), by repeat (first | exact Drawn0.refl _ | apply Drawn0.step)⟩
end Go.Proofs.Ytmpodackojmojaa.Pr
end
section
namespace Go.Proofs.Ytmpodackojmojaa.Pr
open Go.RowKit Go.Proofs.YtmpodackojmojaaW.PrintWords Go.Proofs.YtmpodackojmojaaW.PrintLast Go.Proofs.YtmpodackojmojaaW.PrintMore
attribute [local go_sem] max2_int min2_int max_two min_two max_three min_three max_four min_four
set_option linter.unusedVariables false
set_option linter.unusedSimpArgs false
def impl_ElementsOf.l0 : Nat → Int → List Int → Int → Option (List Int)
 | 0, _, _, _ => none
 | k + 1, x0, x3, x4 => if x4 < 8 then ((impl_HasElement.f x0 x4).bind fun t195 => (if t195 = true then (if x3.length < 17592186044416 then (impl_ElementsOf.l0 k x0 (x3 ++ [x4]) (wrap64 (x4 + 1))) else (none)) else (impl_ElementsOf.l0 k x0 x3 (wrap64 (x4 + 1))))) else (some x3)
def impl_ElementsOf.f (k : Nat) (a0 : Int) : Option (List Int) := impl_ElementsOf.l0 k a0 (([] : List Int)) 0
set_option maxHeartbeats 8000000 in
set_option maxRecDepth 100000 in
theorem impl_ElementsOf.calls (k : Nat) (a0 : Int) (r : List Int) (w : World) (h : impl_ElementsOf.f k a0 = some r) :
  Calls Try.prog 62 #[.int .i64 a0] w fun e w' => ∃ v0_ : Value, e = .returned (v0_) ∧ Kd.R (Kd.int .i64) 3 w' w.heap.size (fun _ => True) v0_ r ∧ Below w.heap.size w w' := by
 have HB := Aside0.mk (Below.refl w.heap.size w)
 have H : (impl_ElementsOf.l0 k a0 (([] : List Int)) 0) = some r := h
 clear h
 obtain ⟨y192, hy192⟩ : ∃ y_ : List Int, y_ = (([] : List Int)) := ⟨_, rfl⟩
 replace H : (impl_ElementsOf.l0 k a0 y192 0) = some r := by first | (rw [hy192]; with_reducible exact H) | (have H2_ := (Option.bind_some _ _).symm.trans H; rw [hy192]; with_reducible exact H2_) | (have H2_ := (Option.bind_some _ _).symm.trans H; with_reducible exact H2_) | with_reducible exact H | (rw [hy192]; exact H) | exact H
 have Ny192 := Aside0.mk hy192
 clear hy192
 have H' := Aside0.mk H
 clear H
 go_enter Try.func62, Try.ntmps62
 go_wp2_with (first | ((with_reducible refine gate_dst (N := 5) rfl ?_); refine Kd.R_lit (Kd.int .i64) _ 3 ?hg (N := 5) ?hd (xs := ([] : List Int)) (inner := []) (ok := fun _ => True) (okp := fun _ => True) ?hr ?hp (fun _ hk => hk) trivial (Below.refl _ _) (Nat.le_refl _) (by simp) ?_; (case hd => rfl); (case hg => rfl); (case hr => first | (go_simp; done) | (go_simp; rfl)); (case hp => exact (Reps.none _ _)); intro v193 w2 ho3 hb hg_ hnew_; clear hg_ hnew_; (first | rw [← Ny192.out] at ho3 | (simp only [Int.reduceToNat] at ho3; rw [← Ny192.out] at ho3)); have HO194 := Aside0.mk (Kd.R_lower ho3 (below_size (Hof.Lw HB.out))); replace HB := Aside0.mk (below_step (Hof.Lw HB.out) hb); clear hb ho3))
 go_loopg [3, 4] k (fun kq v3 v4 w' => ∃ (x3_1 : List Int) (x4_1 : Int), v4 = .int .i64 x4_1 ∧ Aside0 (impl_ElementsOf.l0 kq a0 x3_1 x4_1 = some r) ∧ Aside0 (kq ≤ k) ∧ Aside0 (Kd.R (Kd.int .i64) 3 w' w.heap.size (fun _ => True) v3 x3_1) ∧ Aside0 (Below w.heap.size w w'))
 case atStart => exact ⟨(y192), (0), (by first | rfl | (simp; done) | (simp [*]; done)), H', ⟨Nat.le_refl _⟩, ⟨Hof.Rw HO194.out⟩, ⟨Hof.Lw HB.out⟩⟩
 case round =>
  clear H'
  try clear p2
  obtain ⟨x3_1, x4_1, rfl, HA, HK1, HO_3, HB⟩ := hrel
  cases gk with
  | zero => exact absurd HA.out (by simp [impl_ElementsOf.l0])
  | succ k1 =>
   have H := HA.out
   clear HA
   simp only [impl_ElementsOf.l0] at H
   by_cases c4 : x4_1 < 8
   ·rw [if_pos c4] at H
    have c4b0 : decide (x4_1 < 8) = true := decide_eq_true c4
    clear c4
    replace H := Option.bind_eq_some_iff.mp H
    obtain ⟨t195, A50, H⟩ := H
    (try dsimp only at H)
    have A5 := Aside0.mk A50
    clear A50
    by_cases c6 : t195 = true
    ·subst c6
     have H1 : (if x3_1.length < 17592186044416 then (impl_ElementsOf.l0 k1 a0 (x3_1 ++ [x4_1]) (wrap64 (x4_1 + 1))) else (none)) = some r := by rw [if_pos rfl] at H; exact H
     clear H
     have H := H1
     clear H1
     by_cases c7 : x3_1.length < 17592186044416
     ·rw [if_pos c7] at H
      have LMc7 := Aside0.mk c7
      clear c7
      obtain ⟨y196, hy196⟩ : ∃ y_ : List Int, y_ = (x3_1 ++ [x4_1]) := ⟨_, rfl⟩
      replace H : (impl_ElementsOf.l0 k1 a0 y196 (wrap64 (x4_1 + 1))) = some r := by first | (rw [hy196]; with_reducible exact H) | (have H2_ := (Option.bind_some _ _).symm.trans H; rw [hy196]; with_reducible exact H2_) | (have H2_ := (Option.bind_some _ _).symm.trans H; with_reducible exact H2_) | with_reducible exact H | (rw [hy196]; exact H) | exact H
      have Ny196 := Aside0.mk hy196
      clear hy196
      have H' := Aside0.mk H
      clear H
      go_wp2_with (first | ((with_reducible refine gate_callee (f := 82) rfl ?_); refine goesL_ (some 12) rfl rfl Try.func82 (by kernel_rfl) rfl #[.int .i64 a0, .int .i64 x4_1] rfl (by (try simp only [List.map_toArray, List.map_cons, List.map_nil]); first | done | rfl) ?_; (with_reducible refine (impl_HasElement.calls a0 x4_1 true _ A5.out).mono ?_); rintro e w' ⟨rfl, ⟨nd, rfl⟩⟩; refine ⟨_, rfl, ?_⟩) | ((with_reducible refine gate_builtin (b := .append) (xs := #[.tmp 13, .tmp 15]) rfl ?_); at_builtin; refine Kd.R_append (Kd.int .i64) (w0 := w) w.heap.size rfl (.tmp 13) (.tmp 15) 24 3 (.int .i64 0) 8 rfl Try.underlying24 info3 rfl (by decide) (by omega) u3 x3_1 x4_1 [.int .i64 x4_1] (fun _ => True) (fun _ => False) rfl rfl ?aP (fun _ hk => hk.elim) ?aF ?aO ?aB ?aS ?aL ?_; (case aP => exact rfl); (case aB => exact (Hof.Lw HB.out)); (case aF => exact (fun _ _ => trivial)); (case aO => exact (Hof.Rw HO_3.out)); (case aS => exact (below_size (Hof.Lw HB.out))); (case aL => have := LMc7.out; omega); intro v197 w8 ho hb hg hat; rw [← Ny196.out] at ho; have n0_ := Aside0.mk hb; have n1_ := Aside0.mk ho; clear HB; clear HO_3; have HB := n0_; have HO198 := n1_; clear n0_ n1_; clear ho hb hg hat))
      go_roundg k1
      case measure => have := HK1.out; omega
      case rel => exact ⟨(y196), (wrap64 (x4_1 + 1)), (by first | rfl | (simp; done) | (simp [*]; done)), H', ⟨by have := HK1.out; omega⟩, ⟨Hof.Rw HO198.out⟩, ⟨Hof.Lw HB.out⟩⟩
     ·rw [if_neg c7] at H
      exact absurd H (by simp)
    ·replace c6 := Bool.eq_false_iff.mpr c6
     subst c6
     have H1 : (impl_ElementsOf.l0 k1 a0 x3_1 (wrap64 (x4_1 + 1))) = some r := by rw [if_neg (show ¬ (false = true) by decide)] at H; exact H
     clear H
     have H := H1
     clear H1
     have H' := Aside0.mk H
     clear H
     go_wp2_with (first | ((with_reducible refine gate_callee (f := 82) rfl ?_); refine goesL_ (some 12) rfl rfl Try.func82 (by kernel_rfl) rfl #[.int .i64 a0, .int .i64 x4_1] rfl (by (try simp only [List.map_toArray, List.map_cons, List.map_nil]); first | done | rfl) ?_; (with_reducible refine (impl_HasElement.calls a0 x4_1 false _ A5.out).mono ?_); rintro e w' ⟨rfl, ⟨nd, rfl⟩⟩; refine ⟨_, rfl, ?_⟩))
     go_roundg k1
     case measure => have := HK1.out; omega
     case rel => exact ⟨(x3_1), (wrap64 (x4_1 + 1)), (by first | rfl | (simp; done) | (simp [*]; done)), H', ⟨by have := HK1.out; omega⟩, ⟨Hof.Rw HO_3.out⟩, ⟨Hof.Lw HB.out⟩⟩
   ·rw [if_neg c4] at H
    have c4b0 : decide (x4_1 < 8) = false := decide_eq_false c4
    clear c4
    obtain rfl := Option.some.inj H
    go_wp2
    go_ret
    exact ⟨_, by first | rfl | (simp [errW_none, errW_some] <;> rfl) | (simp [*, errW_none, errW_some] <;> rfl), by (with_reducible repeat (first | apply Kd.R_alloc | apply Kd.R_drewN | apply Kd.R_drew)); exact HO_3.out, by repeat (first | (with_reducible first | exact HB.out | apply below_alloc | apply pw_below_drewN | apply below_drew1) | exact HB.out)⟩
end Go.Proofs.Ytmpodackojmojaa.Pr
end
section
namespace Go.Proofs.Ytmpodackojmojaa.Pr
open Go.RowKit Go.Proofs.YtmpodackojmojaaW.PrintWords Go.Proofs.YtmpodackojmojaaW.PrintLast Go.Proofs.YtmpodackojmojaaW.PrintMore
attribute [local go_sem] max2_int min2_int max_two min_two max_three min_three max_four min_four
set_option linter.unusedVariables false
set_option linter.unusedSimpArgs false
def slices_Index_int_int.l0 : Nat → List Int → Int → Int → Int → Option (Int)
 | 0, _, _, _, _ => none
 | k + 1, x0, x1, x7, x8 => if x8 < x7 then (if 0 ≤ x8 then (if x8 < (x0.length : Int) then (if x1 = (rd x0 x8) then (some x8) else (slices_Index_int_int.l0 k x0 x1 x7 (wrap64 (x8 + 1)))) else (none)) else (none)) else (some (-1))
def slices_Index_int_int.f (k : Nat) (l0 : List Int) (a1 : Int) : Option (Int) := slices_Index_int_int.l0 k l0 a1 (l0.length : Int) 0
set_option maxHeartbeats 8000000 in
set_option maxRecDepth 100000 in
theorem slices_Index_int_int.calls (k : Nat) (A0 : Option Addr) (c0 : Nat) (l0 : List Int) (a1 : Int) (r : Int) (w : World) (hr0 : Kd.C (Kd.int .i64) w A0 l0.length l0) (hc0 : l0.length ≤ c0) (h : slices_Index_int_int.f k l0 a1 = some r) :
  Calls Try.prog 65 #[.slice A0 l0.length c0, .int .i64 a1] w fun e w' => e = .returned (.int .i64 r) ∧ Drawn0 w w' := by
 have HR0 := Aside0.mk hr0
 have HC0 := Aside0.mk hc0
 clear hr0 hc0
 have H : (slices_Index_int_int.l0 k l0 a1 (l0.length : Int) 0) = some r := h
 clear h
 have H' := Aside0.mk H
 clear H
 go_enter Try.func65, Try.ntmps65
 go_wp2
 go_loopg [8] k (fun kq v8 w' => ∃ (x8_1 : Int), v8 = .int .i64 x8_1 ∧ Aside0 (slices_Index_int_int.l0 kq l0 a1 (l0.length : Int) x8_1 = some r) ∧ Aside0 (kq ≤ k) ∧ Drawn0 w w')
 case atStart => exact ⟨(0), (by first | rfl | (simp; done) | (simp [*]; done)), H', ⟨Nat.le_refl _⟩, by repeat (first | exact Drawn0.refl _ | apply Drawn0.step)⟩
 case round =>
  clear H'
  try clear p2
  obtain ⟨x8_1, rfl, HA, HK1, ⟨m1, rfl⟩⟩ := hrel
  cases gk with
  | zero => exact absurd HA.out (by simp [slices_Index_int_int.l0])
  | succ k1 =>
   have H := HA.out
   clear HA
   simp only [slices_Index_int_int.l0] at H
   by_cases c3 : x8_1 < (l0.length : Int)
   ·rw [if_pos c3] at H
    have c3b0 : decide (x8_1 < (l0.length : Int)) = true := decide_eq_true c3
    clear c3
    by_cases c4 : 0 ≤ x8_1
    ·rw [if_pos c4] at H
     have c4b0 : decide (0 ≤ x8_1) = true := decide_eq_true c4
     clear c4
     by_cases c5 : x8_1 < (l0.length : Int)
     ·rw [if_pos c5] at H
      have c5b0 : decide (x8_1 < (l0.length : Int)) = true := decide_eq_true c5
      clear c5
      by_cases c6 : a1 = (rd l0 x8_1)
      ·rw [if_pos c6] at H
       have c6b0 : (a1 == (rd l0 x8_1)) = true := beq_iff_eq.mpr c6
       have c6b1 : (a1 != (rd l0 x8_1)) = false := bne_eq_false_iff_eq.mpr c6
       clear c6
       obtain rfl := Option.some.inj H
       have p199 : 0 ≤ (x8_1 : Int) := of_decide_eq_true (by first | (with_reducible assumption) | assumption)
       have q199 : x8_1 < (l0.length : Int) := of_decide_eq_true (by first | (with_reducible assumption) | assumption)
       obtain ⟨ad199, e199, hx199_0⟩ := Kd.at_int HR0.out x8_1 p199 q199
       cases e199
       replace p199 := eq_true p199
       replace q199 := eq_true q199
       go_wp2
       go_ret
       exact ⟨by first | rfl | (simp; done) | (simp [*]; done), by repeat (first | exact Drawn0.refl _ | apply Drawn0.step)⟩
      ·rw [if_neg c6] at H
       have c6b0 : (a1 == (rd l0 x8_1)) = false := beq_eq_false_iff_ne.mpr c6
       have c6b1 : (a1 != (rd l0 x8_1)) = true := bne_iff_ne.mpr c6
       have H' := Aside0.mk H
       clear H
       have p199 : 0 ≤ (x8_1 : Int) := of_decide_eq_true (by first | (with_reducible assumption) | assumption)
       have q199 : x8_1 < (l0.length : Int) := of_decide_eq_true (by first | (with_reducible assumption) | assumption)
       obtain ⟨ad199, e199, hx199_0⟩ := Kd.at_int HR0.out x8_1 p199 q199
       cases e199
       replace p199 := eq_true p199
       replace q199 := eq_true q199
       go_wp2
       go_roundg k1
       case measure => have := HK1.out; omega
       case rel => exact ⟨(wrap64 (x8_1 + 1)), (by first | rfl | (simp; done) | (simp [*]; done)), H', ⟨by have := HK1.out; omega⟩, by repeat (first | exact Drawn0.refl _ | apply Drawn0.step)⟩
     ·rw [if_neg c5] at H
      exact absurd H (by simp)
    ·rw [if_neg c4] at H
     exact absurd H (by simp)
   ·rw [if_neg c3] at H
    have c3b0 : decide (x8_1 < (l0.length : Int)) = false := decide_eq_false c3
    clear c3
    obtain rfl := Option.some.inj H
    go_wp2
    go_ret
    exact ⟨by first | rfl | (simp; done) | (simp [*]; done), by repeat (first | exact Drawn0.refl _ | apply Drawn0.step)⟩
end Go.Proofs.Ytmpodackojmojaa.Pr
end
section
namespace Go.Proofs.Ytmpodackojmojaa.Lay
open Go.Shelf Go.Proofs
def laysSort_ren : Go.Shelf.Ren := ⟨fun | 189 => 154 | 125 => 164 | 257 => 163 | 128 => 177 | 129 => 178 | 294 => 168 | 295 => 169 | 296 => 170 | 297 => 171 | 298 => 172 | 299 => 173 | 216 => 174 | 300 => 175 | 301 => 176 | 328 => 179 | 329 => 180 | 330 => 181 | 331 => 182 | 332 => 183 | 215 => 184 | 343 => 185 | n => n, fun | 28 => 24 | 3 => 3 | 46 => 97 | 0 => 0 | 51 => 128 | 53 => 130 | 4 => 4 | 183 => 139 | 182 => 138 | 131 => 41 | 5 => 5 | 9 => 9 | 218 => 144 | 222 => 148 | 228 => 150 | 229 => 151 | n => n, fun | n => n⟩
theorem laysSort : Go.Proofs.Lays.n189 Try.prog laysSort_ren := {
 mixed := by kernel_rfl
 f125 := Try.func164.trans (congrArg some (by kernel_rfl))
 f128 := Try.func177.trans (congrArg some (by kernel_rfl))
 f129 := Try.func178.trans (congrArg some (by kernel_rfl))
 f189 := Try.func154.trans (congrArg some (by kernel_rfl))
 f215 := Try.func184.trans (congrArg some (by kernel_rfl))
 f216 := Try.func174.trans (congrArg some (by kernel_rfl))
 f257 := Try.func163.trans (congrArg some (by kernel_rfl))
 f294 := Try.func168.trans (congrArg some (by kernel_rfl))
 f295 := Try.func169.trans (congrArg some (by kernel_rfl))
 f296 := Try.func170.trans (congrArg some (by kernel_rfl))
 f297 := Try.func171.trans (congrArg some (by kernel_rfl))
 f298 := Try.func172.trans (congrArg some (by kernel_rfl))
 f299 := Try.func173.trans (congrArg some (by kernel_rfl))
 f300 := Try.func175.trans (congrArg some (by kernel_rfl))
 f301 := Try.func176.trans (congrArg some (by kernel_rfl))
 f328 := Try.func179.trans (congrArg some (by kernel_rfl))
 f329 := Try.func180.trans (congrArg some (by kernel_rfl))
 f330 := Try.func181.trans (congrArg some (by kernel_rfl))
 f331 := Try.func182.trans (congrArg some (by kernel_rfl))
 f332 := Try.func183.trans (congrArg some (by kernel_rfl))
 f343 := Try.func185.trans (congrArg some (by kernel_rfl))
 t0 := Try.underlying0
 a0 := Try.isAgg0
 z0 := Try.sizeOf0
 v0 := Try.zeroValue0
 t3 := Try.underlying3
 a3 := Try.isAgg3
 z3 := Try.sizeOf3
 v3 := Try.zeroValue3
 t4 := Try.underlying4
 a4 := Try.isAgg4
 z4 := Try.sizeOf4
 v4 := Try.zeroValue4
 t5 := Try.underlying5
 a5 := Try.isAgg5
 z5 := Try.sizeOf5
 v5 := Try.zeroValue5
 t9 := Try.underlying9
 a9 := Try.isAgg9
 z9 := Try.sizeOf9
 v9 := Try.zeroValue9
 t28 := Try.underlying24
 a28 := Try.isAgg24
 z28 := Try.sizeOf24
 v28 := Try.zeroValue24
 t46 := Try.underlying97
 a46 := Try.isAgg97
 z46 := Try.sizeOf97
 v46 := Try.zeroValue97
 t51 := Try.underlying128
 a51 := Try.isAgg128
 z51 := Try.sizeOf128
 v51 := Try.zeroValue128
 t53 := Try.underlying130
 a53 := Try.isAgg130
 z53 := Try.sizeOf130
 v53 := Try.zeroValue130
 t131 := Try.underlying41
 a131 := Try.isAgg41
 z131 := Try.sizeOf41
 v131 := Try.zeroValue41
 t182 := Try.underlying138
 a182 := Try.isAgg138
 z182 := Try.sizeOf138
 v182 := Try.zeroValue138
 t183 := Try.underlying139
 a183 := Try.isAgg139
 z183 := Try.sizeOf139
 v183 := Try.zeroValue139
 t218 := Try.underlying144
 a218 := Try.isAgg144
 z218 := Try.sizeOf144
 v218 := Try.zeroValue144
 t222 := Try.underlying148
 a222 := Try.isAgg148
 z222 := Try.sizeOf148
 v222 := Try.zeroValue148
 t228 := Try.underlying150
 a228 := Try.isAgg150
 z228 := Try.sizeOf150
 v228 := Try.zeroValue150
 t229 := Try.underlying151
 a229 := Try.isAgg151
 z229 := Try.sizeOf151
 v229 := Try.zeroValue151 }
def laysInsF_ren : Go.Shelf.Ren := ⟨fun | 20 => 128 | n => n, fun | 24 => 3 | 22 => 24 | 3 => 3 | 25 => 65 | 4 => 4 | 0 => 0 | n => n, fun | n => n⟩
theorem laysInsF : Go.Proofs.SlLaysF.n20 Try.prog laysInsF_ren := {
 mixed := by kernel_rfl
 f20 := ⟨"slices.insertionSortCmpFunc[int]", by decide, Try.func128.trans (congrArg some (by kernel_rfl))⟩
 t0 := Try.underlying0
 a0 := Try.isAgg0
 z0 := Try.sizeOf0
 v0 := Try.zeroValue0
 t3 := Try.underlying3
 a3 := Try.isAgg3
 z3 := Try.sizeOf3
 v3 := Try.zeroValue3
 t4 := Try.underlying4
 a4 := Try.isAgg4
 z4 := Try.sizeOf4
 v4 := Try.zeroValue4
 t22 := Try.underlying24
 a22 := Try.isAgg24
 z22 := Try.sizeOf24
 v22 := Try.zeroValue24
 a24 := Try.isAgg3
 z24 := Try.sizeOf3
 t25 := Try.underlying65
 a25 := Try.isAgg65
 z25 := Try.sizeOf65
 v25 := Try.zeroValue65 }
end Go.Proofs.Ytmpodackojmojaa.Lay
end
section
namespace Go.Proofs.Ytmpodackojmojaa.SortR
open Go.RowKit Go.Shelf Go.Sort Go.Proofs.YtmpodackojmojaaW.PrintWords
def sorted (xs : List Int) : List Int := xs.mergeSort fun x y => decide (x ≤ y)
theorem sorted_length (xs : List Int) : (sorted xs).length = xs.length := List.length_mergeSort xs
theorem sort_calls {w : World} {base : Nat} {ok : Nat → Prop} {v : Value} {xs : List Int} (h : (Kd.int .i64).R 3 w base ok v xs) (hs : xs.length < 4611686018427387904) :
  Calls Try.prog 154 #[v] w fun e w' => e = .returned (.tuple #[]) ∧ (Kd.int .i64).R 3 w' base ok v (sorted xs) ∧ (∀ w0 : World, Below base w0 w → Below base w0 w') ∧ w.grownBy w' v.ownBlock := by
 have ho := Kd.own_of_R h
 rcases ho.2 with ⟨rfl, h0⟩ | ⟨g, cap, cur, rfl, hbase, hb, h1, h2, h3, h4⟩
 ·have hx : xs = [] := List.length_eq_zero_iff.1 h0
  subst hx
  refine (Any.slices_Sort_int_none Lay.laysSort none 0 w).mono ?_
  rintro e w' ⟨rfl, rfl⟩
  exact ⟨rfl, by simpa [sorted] using h, fun _ hb => hb, ⟨rfl, rfl, rfl, Nat.le_refl _, fun _ _ _ => rfl⟩⟩
 ·have hH : Holds (Value.int .i64) w g 0 xs.toArray := by
   obtain ⟨g', cap', he, _, _, _, _, _, hH⟩ := Lib.holds_of_ownsRow ho (by simp)
   injection he with e1 _ _
   injection e1 with e1
   injection e1 with e1 _ _
   subst e1
   exact hH
  have hlt : g < w.heap.size := (Array.getElem?_eq_some_iff.1 hb).1
  refine (Any.slices_Sort_int Lay.laysSort g 0 cap xs w hH hlt hs).mono ?_
  rintro e w' ⟨rfl, n, os, rfl⟩
  have hown := ownsRow_sortedI (n := n) (os := os) (ts := sorted xs) (sorted_length xs) hbase hb h1 h2 h3
  rw [← sorted_length xs] at hown
  have hg : w.grownBy (grow (putRow (Value.int .i64) (Sort.ahead w n) g 0 (sorted xs).toArray) os) (some g) := grownBy_sortedI _
  refine ⟨rfl, ?_, fun w0 hb0 => ?_, ?_⟩
  ·have := Kd.R_of_own (enc := Value.int .i64) (h1 := fun _ => rfl) (ok := ok) hown (fun k hk => h.1 k (by simpa [Value.ownBlock] using hk))
   rw [sorted_length xs] at this
   exact this
  ·exact hb0.grown hg (by omega) (fun j hj => by cases hj; exact hbase)
  ·exact hg
end Go.Proofs.Ytmpodackojmojaa.SortR
end
section
namespace Go.Proofs.Ytmpodackojmojaa.SortF
open Go.RowKit Go.Shelf Go.Sort Go.Proofs.YtmpodackojmojaaW.PrintWords Go.Proofs.YtmpodackojmojaaW.PrintMore
section plain
variable {α β : Type}
def insr (lt : α → α → Bool) (x : α) : List α → List α
 | [] => [x]
 | y :: r => if lt x y then y :: insr lt x r else x :: y :: r
def insl (lt : α → α → Bool) (l : List α) : List α := (l.foldl (fun r x => insr lt x r) []).reverse
theorem insr_length (lt : α → α → Bool) (x : α) : ∀ r : List α, (insr lt x r).length = r.length + 1
 | [] => rfl
 | y :: r => by
  unfold insr
  split
  ·rw [List.length_cons, insr_length lt x r, List.length_cons]
  ·rfl
theorem insr_mem (lt : α → α → Bool) (x : α) : ∀ r : List α, ∀ z, z ∈ insr lt x r ↔ z = x ∨ z ∈ r
 | [], z => by simp [insr]
 | y :: r, z => by
  unfold insr
  split
  ·rw [List.mem_cons, insr_mem lt x r z, List.mem_cons]
   constructor
   ·rintro (h | h | h)
    ·exact .inr (.inl h)
    ·exact .inl h
    ·exact .inr (.inr h)
   ·rintro (h | h | h)
    ·exact .inr (.inl h)
    ·exact .inl h
    ·exact .inr (.inr h)
  ·rw [List.mem_cons]
theorem fold_length (lt : α → α → Bool) (l : List α) : ∀ r : List α, (l.foldl (fun r x => insr lt x r) r).length = r.length + l.length := by
 induction l with
 | nil => exact fun r => rfl
 | cons x l ih =>
  intro r
  rw [List.foldl_cons, ih, insr_length, List.length_cons]
  omega
theorem fold_mem (lt : α → α → Bool) (l : List α) : ∀ (r : List α) (z : α), z ∈ l.foldl (fun r x => insr lt x r) r ↔ z ∈ r ∨ z ∈ l := by
 induction l with
 | nil => exact fun r z => by simp
 | cons x l ih =>
  intro r z
  rw [List.foldl_cons, ih, insr_mem, List.mem_cons]
  constructor
  ·rintro ((h | h) | h)
   ·exact .inr (.inl h)
   ·exact .inl h
   ·exact .inr (.inr h)
  ·rintro (h | h | h)
   ·exact .inl (.inr h)
   ·exact .inl (.inl h)
   ·exact .inr h
theorem insl_length (lt : α → α → Bool) (l : List α) : (insl lt l).length = l.length := by
 unfold insl
 rw [List.length_reverse, fold_length]
 simp
theorem insl_mem (lt : α → α → Bool) (l : List α) (z : α) : z ∈ insl lt l ↔ z ∈ l := by
 unfold insl
 rw [List.mem_reverse, fold_mem]
 simp
theorem insr_map (f : α → β) (lt : α → α → Bool) (lt' : β → β → Bool) (h : ∀ x y, lt' (f x) (f y) = lt x y) (x : α) : ∀ r : List α, (insr lt x r).map f = insr lt' (f x) (r.map f)
 | [] => rfl
 | y :: r => by
  show (if lt x y then y :: insr lt x r else x :: y :: r).map f = if lt' (f x) (f y) then f y :: insr lt' (f x) (r.map f) else f x :: f y :: r.map f
  rw [h x y, ← insr_map f lt lt' h x r]
  split <;> rfl
theorem insl_map (f : α → β) (lt : α → α → Bool) (lt' : β → β → Bool) (h : ∀ x y, lt' (f x) (f y) = lt x y) (l : List α) : (insl lt l).map f = insl lt' (l.map f) := by
 unfold insl
 rw [List.map_reverse]
 congr 1
 have key : ∀ (l : List α) (r : List α), (l.foldl (fun r x => insr lt x r) r).map f = (l.map f).foldl (fun r x => insr lt' x r) (r.map f) := by
  intro l
  induction l with
  | nil => exact fun r => rfl
  | cons x l ih =>
   intro r
   rw [List.foldl_cons, ih, insr_map f lt lt' h, List.map_cons, List.foldl_cons]
 exact key l []
variable [Inhabited α]
theorem getElem!_at (a : List α) (x : α) (b : List α) (d : Array α) (h : d.toList = a ++ x :: b) : d[a.length]! = x := by
 have hl : a.length < d.size := by rw [← Array.length_toList, h, List.length_append, List.length_cons]; omega
 rw [getElem!_pos d a.length hl, ← Array.getElem_toList]
 simp [h]
theorem inner_list (lt : α → α → Bool) : ∀ (R : List α) (x : α) (S : List α) (d : Array α), d.toList = R.reverse ++ x :: S → (insInner lt 0 R.length d).toList = (insr lt x R).reverse ++ S
 | [], x, S, d, h => by
  show d.toList = _
  rw [h]
  rfl
 | y :: R, x, S, d, h => by
  have e1 : d[R.length]! = y := by
   have := getElem!_at R.reverse y (x :: S) d (by rw [h]; simp)
   rwa [List.length_reverse] at this
  have e2 : d[R.length + 1]! = x := by
   have := getElem!_at (R.reverse ++ [y]) x S d (by rw [h]; simp)
   simpa using this
  show (insInner lt 0 (R.length + 1) d).toList = _
  unfold insInner
  rw [e1, e2, decide_eq_true (show R.length + 1 > 0 by omega), Bool.true_and]
  unfold insr
  by_cases hl : lt x y = true
  ·rw [if_pos hl, if_pos hl]
   have hs : (swp d (R.length + 1) R.length).toList = R.reverse ++ x :: (y :: S) := by
    unfold swp
    rw [e1, e2]
    simp only [Array.toList_setIfInBounds, h]
    rw [show R.length + 1 = (R.reverse ++ [y]).length by simp, show (y :: R).reverse ++ x :: S = (R.reverse ++ [y]) ++ x :: S by simp, List.set_append_right _ _ (Nat.le_refl _)]
    simp only [Nat.sub_self, List.set_cons_zero]
    rw [show R.length = R.reverse.length by simp, List.append_assoc, List.set_append_right _ _ (Nat.le_refl _)]
    simp
   rw [inner_list lt R x (y :: S) _ hs]
   simp
  ·rw [if_neg hl, if_neg hl, h]
   simp
theorem outer_list (lt : α → α → Bool) : ∀ (rest : List α) (R : List α) (d : Array α), d.toList = R.reverse ++ rest → (insOuter lt 0 (R.length + rest.length) R.length d).toList = (rest.foldl (fun r x => insr lt x r) R).reverse
 | [], R, d, h => by
  unfold insOuter
  rw [if_neg (by simp), h]
  simp
 | x :: rest, R, d, h => by
  unfold insOuter
  rw [if_pos (by simp)]
  have h2 := outer_list lt rest (insr lt x R) (insInner lt 0 R.length d) (inner_list lt R x rest d h)
  rw [insr_length] at h2
  rw [List.foldl_cons, ← h2]
  congr 2
  rw [List.length_cons]
  omega
theorem insertion_list (lt : α → α → Bool) (d : Array α) : (insertionSort lt d 0 d.size).toList = insl lt d.toList := by
 unfold insertionSort insl
 rcases hd : d.toList with _ | ⟨x, l⟩
 ·have hs : d.size = 0 := by rw [← Array.length_toList, hd]; rfl
  unfold insOuter
  rw [if_neg (by omega), hd]
  rfl
 ·have hs : d.size = [x].length + l.length := by rw [← Array.length_toList, hd, List.length_cons, List.length_cons, List.length_nil]; omega
  rw [hs]
  exact outer_list lt l [x] d (by rw [hd]; rfl)
end plain
theorem grown_put {α : Type} [Inhabited α] {enc : α → Value} {w : World} {g n : Nat} {os : Array Obj} (d : Array α) : w.grownBy (grow (putRow enc (Sort.ahead w n) g 0 d) os) (some g) := by
 refine ⟨rfl, rfl, rfl, by simp, fun k hk hne => ?_⟩
 rw [heap_grow_old _ _ (by simpa using hk)]
 have : g ≠ k := fun e => hne (by rw [e])
 simp [putRow, mapBlock, Sort.ahead, Array.getElem?_modify, this]
abbrev nats (zs : List Nat) : List Int := zs.map fun z : Nat => (z : Int)
def Answers (w : World) (base n : Nat) (cf : Nat → Nat → Int) (g : Nat) (cb : Array Value) : Prop := ∀ W : World, (∀ w0 : World, Below base w0 w → Below base w0 W) → ∀ x y : Nat, x < n → y < n → Calls Try.prog g (#[.int .i64 x, .int .i64 y] ++ cb) W fun e w' => e = .returned (.int .i64 (cf x y)) ∧ ∃ q, w' = W.drewN q
set_option maxHeartbeats 1000000 in
theorem ins_none (p : Option Addr) (cap : Nat) (fv : Value) (w : World) : Calls Try.prog 128 #[.slice p 0 cap, .int .i64 0, .int .i64 0, fv] w fun e w' => e = .returned (.tuple #[]) ∧ w' = w := by
 go_enter Try.func128, Try.ntmps128
 go_wp2
 refine wp_loop_rounds 1 ?_
 rw [rounds_succ]
 go_wp2
 go_end0
 exact ⟨rfl, rfl⟩
set_option maxHeartbeats 1000000 in
theorem ins_calls {w : World} {base : Nat} {ok : Nat → Prop} {v : Value} (n : Nat) (zs : List Nat) (hz : ∀ z ∈ zs, z < n) (h : (Kd.int .i64).R 3 w base ok v (nats zs)) (hs : zs.length < 4611686018427387904)
  (cf : Nat → Nat → Int) (g : Nat) (cb : Array Value) (eg : Enters Try.prog g) (hc : Answers w base n cf g cb) :
  Calls Try.prog 128 #[v, .int .i64 0, .int .i64 zs.length, .func (.func g) #[] cb] w fun e w' => e = .returned (.tuple #[]) ∧ (Kd.int .i64).R 3 w' base ok v (nats (insl (fun x y => decide (cf x y < 0)) zs)) ∧ (∀ w0 : World, Below base w0 w → Below base w0 w') ∧ w.grownBy w' v.ownBlock := by
 have ho := Kd.own_of_R h
 have hlen : (nats zs).length = zs.length := by simp
 by_cases he : zs = []
 ·subst he
  have hv : ∃ p cap, v = .slice p 0 cap := by
   rcases ho.2 with ⟨rfl, h0⟩ | ⟨g, cap, cur, rfl, _⟩
   ·exact ⟨none, 0, rfl⟩
   ·exact ⟨_, cap, rfl⟩
  obtain ⟨p, cap, rfl⟩ := hv
  refine (ins_none p cap (.func (.func g) #[] cb) w).mono ?_
  rintro e w' ⟨rfl, rfl⟩
  exact ⟨rfl, h, fun _ hb => hb, ⟨rfl, rfl, rfl, Nat.le_refl _, fun _ _ _ => rfl⟩⟩
 ·have hpos : 0 < zs.length := by
   cases zs with
   | nil => exact absurd rfl he
   | cons a b => simp
  obtain ⟨m, rfl⟩ : ∃ m, n = m + 1 := by
   cases zs with
   | nil => exact absurd rfl he
   | cons a b => exact ⟨n - 1, by have := hz a (by simp); omega⟩
  rcases ho.2 with ⟨rfl, h0⟩ | ⟨b, cap, cur, rfl, hbase, hb, h1, h2, h3, h4⟩
  ·omega
  ·obtain ⟨fs, hfs⟩ : ∃ fs : List (Fin (m + 1)), fs.map (fun i => i.val) = zs := ⟨zs.pmap (fun z hz => ⟨z, hz⟩) hz, by rw [List.map_pmap]; simp⟩
   have henc : (nats zs).map (Value.int .i64) = fs.map fun i : Fin (m + 1) => Value.int .i64 ((i.val : Nat) : Int) := by
    rw [← hfs]
    simp [List.map_map, Function.comp_def]
   have hfl : fs.length = zs.length := by rw [← hfs, List.length_map]
   have ho' : w.ownsRow base 3 1 (.slice (some ⟨b, 0, none⟩) (nats zs).length cap) (nats zs).length (fs.map fun i : Fin (m + 1) => Value.int .i64 ((i.val : Nat) : Int)) := by
    rw [← henc]
    exact ho
   have hH : Holds (fun i : Fin (m + 1) => Value.int .i64 ((i.val : Nat) : Int)) w b 0 fs.toArray := by
    obtain ⟨g', cap', he', _, _, _, _, _, hH⟩ := Lib.holds_of_ownsRow ho' (by simp)
    injection he' with e1 _ _
    injection e1 with e1
    injection e1 with e1 _ _
    subst e1
    exact hH
   have hcmp : CmpReads Try.prog g cb (fun i : Fin (m + 1) => Value.int .i64 ((i.val : Nat) : Int)) (fun x y => cf x.val y.val) b 0 fs.toArray.size w := fun q os dk _ x y => by
    refine hc (sortWorld _ w b 0 q dk os) (fun w0 hb0 => ?_) x.val y.val x.2 y.2
    have hlt : b < w.heap.size := (Array.getElem?_eq_some_iff.1 hb).1
    exact hb0.grown (grown_put dk) (by omega) (fun j hj => by cases hj; exact hbase)
   have hmain := Any.insertionSortCmpFunc_one Lay.laysInsF (fun i : Fin (m + 1) => Value.int .i64 ((i.val : Nat) : Int)) (fun _ => rfl) (fun x y => cf x.val y.val) g cb b 0 cap 0 fs.toArray.size fs.toArray w eg hcmp hH (Nat.zero_le _) (Nat.le_refl _) (by simpa [hfl] using hs)
   have hsz : fs.toArray.size = zs.length := by simp [hfl]
   rw [hsz] at hmain
   rw [hlen]
   refine hmain.mono ?_
   rintro e w' ⟨rfl, q, rfl⟩
   have hl := insertion_list (ltOf fun x y : Fin (m + 1) => cf x.val y.val) fs.toArray
   rw [hsz] at hl
   generalize hd : insertionSort (ltOf fun x y : Fin (m + 1) => cf x.val y.val) fs.toArray 0 zs.length = da at hl
   have hq : (putRow (fun i : Fin (m + 1) => Value.int .i64 ((i.val : Nat) : Int)) w b 0 da).drewN q = putRow (fun i : Fin (m + 1) => Value.int .i64 ((i.val : Nat) : Int)) (Sort.ahead w (0 + q)) b 0 da := putRow_drewN _ w 0 q b 0 da
   have hda : da = (insl (ltOf fun x y : Fin (m + 1) => cf x.val y.val) fs).toArray := by
    rw [← hl]
   have hil : (insl (ltOf fun x y : Fin (m + 1) => cf x.val y.val) fs).length = (nats zs).length := by rw [insl_length, hfl, hlen]
   rw [hq, hda]
   have hown := Lib.ownsRow_putRow (q := 0 + q) (k := (nats zs).length) (ys := insl (ltOf fun x y : Fin (m + 1) => cf x.val y.val) fs) ho' hil (Nat.le_refl _)
   rw [List.take_of_length_le (by omega)] at hown
   have hmap : (insl (ltOf fun x y : Fin (m + 1) => cf x.val y.val) fs).map (fun i : Fin (m + 1) => Value.int .i64 ((i.val : Nat) : Int)) = (nats (insl (fun x y => decide (cf x y < 0)) zs)).map (Value.int .i64) := by
    rw [← hfs, ← insl_map (fun i : Fin (m + 1) => i.val) (ltOf fun x y : Fin (m + 1) => cf x.val y.val) (fun x y => decide (cf x y < 0)) (fun x y => rfl)]
    simp [List.map_map, Function.comp_def]
   rw [hmap] at hown
   have hll : (nats zs).length = (nats (insl (fun x y => decide (cf x y < 0)) zs)).length := by simp [insl_length]
   have hg : w.grownBy (putRow (fun i : Fin (m + 1) => Value.int .i64 ((i.val : Nat) : Int)) (Sort.ahead w (0 + q)) b 0 (insl (ltOf fun x y : Fin (m + 1) => cf x.val y.val) fs).toArray) (some b) := by
    have := grown_put (enc := fun i : Fin (m + 1) => Value.int .i64 ((i.val : Nat) : Int)) (w := w) (g := b) (n := 0 + q) (os := #[]) (insl (ltOf fun x y : Fin (m + 1) => cf x.val y.val) fs).toArray
    rwa [grow_empty] at this
   refine ⟨rfl, ?_, fun w0 hb0 => Lib.below_putRow hb0 hbase, hg⟩
   rw [hlen] at hown hll
   rw [hll] at hown ⊢
   exact Kd.R_of_own (enc := Value.int .i64) (h1 := fun _ => rfl) (ok := ok) hown (fun k hk => h.1 k (by simpa [Value.ownBlock] using hk))
set_option maxHeartbeats 1000000 in
theorem stable_calls {w : World} {base : Nat} {ok : Nat → Prop} {v : Value} (n : Nat) (zs : List Nat) (hz : ∀ z ∈ zs, z < n) (h : (Kd.int .i64).R 3 w base ok v (nats zs)) (hs : zs.length < 20)
  (cf : Nat → Nat → Int) (g : Nat) (cb : Array Value) (eg : Enters Try.prog g) (hc : Answers w base n cf g cb) :
  Calls Try.prog 106 #[v, .int .i64 zs.length, .func (.func g) #[] cb] w fun e w' => e = .returned (.tuple #[]) ∧ (Kd.int .i64).R 3 w' base ok v (nats (insl (fun x y => decide (cf x y < 0)) zs)) ∧ (∀ w0 : World, Below base w0 w → Below base w0 w') ∧ w.grownBy w' v.ownBlock := by
 have hI := ins_calls n zs hz h (by omega) cf g cb eg hc
 clear hc hz
 have hs1 : (zs.length : Int) < 20 := by omega
 have hs2 : ¬ (20 ≤ zs.length) := by omega
 generalize hR : (nats (insl (fun x y => decide (cf x y < 0)) zs)) = rs at hI ⊢
 clear hR
 go_enter Try.func106, Try.ntmps106
 go_wp2
 refine wp_loop_rounds 1 ?_
 rw [rounds_succ]
 go_wp2_with (go_at_call 128; refine hI.mono ?_; rintro e w' ⟨rfl, h1, h2, h3⟩)
 refine wp_loop_rounds 1 ?_
 rw [rounds_succ]
 go_wp2
 go_end0
 exact ⟨rfl, h1, h2, h3⟩
theorem sort_calls {w : World} {base : Nat} {ok : Nat → Prop} {v : Value} (n : Nat) (zs : List Nat) (hz : ∀ z ∈ zs, z < n) (h : (Kd.int .i64).R 3 w base ok v (nats zs)) (hs : zs.length < 20)
    (cf : Nat → Nat → Int) (g : Nat) (cb : Array Value) (eg : Enters Try.prog g) (hc : Answers w base n cf g cb) :
    Calls Try.prog 63 #[v, .func (.func g) #[] cb] w fun e w' => e = .returned (.tuple #[]) ∧ (Kd.int .i64).R 3 w' base ok v (nats (insl (fun x y => decide (cf x y < 0)) zs)) ∧ (∀ w0 : World, Below base w0 w → Below base w0 w') ∧ w.grownBy w' v.ownBlock := by
  have hI := stable_calls n zs hz h hs cf g cb eg hc
  clear hc hz
  have hv : ∃ p cap, v = .slice p zs.length cap := by
    rcases (Kd.own_of_R h).2 with ⟨rfl, h0⟩ | ⟨g, cap, cur, rfl, _⟩
    · exact ⟨none, 0, by have : zs.length = 0 := by simpa using h0
                         rw [this]⟩
    · exact ⟨some ⟨g, 0, none⟩, cap, by simp⟩
  obtain ⟨p, cap, rfl⟩ := hv
  generalize hR : (nats (insl (fun x y => decide (cf x y < 0)) zs)) = rs at hI ⊢
  clear hR
  go_enter Try.func63, Try.ntmps63
  go_wp2_with (go_at_call 106; refine hI.mono ?_; rintro e w' ⟨rfl, h1, h2, h3⟩)
  go_end0
  exact ⟨rfl, h1, h2, h3⟩
end Go.Proofs.Ytmpodackojmojaa.SortF
end
section
namespace Go.Proofs.Ytmpodackojmojaa.Pr
open Go.RowKit Go.Proofs.YtmpodackojmojaaW.PrintWords Go.Proofs.YtmpodackojmojaaW.PrintLast Go.Proofs.YtmpodackojmojaaW.PrintMore
attribute [local go_sem] max2_int min2_int max_two min_two max_three min_three max_four min_four
set_option linter.unusedVariables false
set_option linter.unusedSimpArgs false
def impl_PlanOf.cf (x0 : List S73) (a b : Nat) : Int := wrap64 ((rd_T73 x0 a).f0 - (rd_T73 x0 b).f0)
def impl_PlanOf.order (x0 : List S73) (xs : List Int) : Option (List Int) := if xs.length < 20 then (if (xs.all fun x => decide (0 ≤ x ∧ x < (x0.length : Int))) = true then some (SortF.nats (SortF.insl (fun a b => decide (impl_PlanOf.cf x0 a b < 0)) (xs.map Int.toNat))) else none) else none
set_option maxHeartbeats 1000000 in
theorem impl_PlanOf_1.calls (A0 : Option Addr) (c0 : Nat) (l0 : List S73) (gb : Nat) (a b : Int) (w : World) (hcell : w.cell? ⟨gb, 0, none⟩ = some (.slice A0 l0.length c0)) (hr : Kd.C k73 w A0 l0.length l0) (ha0 : 0 ≤ a) (ha : a < (l0.length : Int)) (hb0 : 0 ≤ b) (hb : b < (l0.length : Int)) :
  Calls Try.prog 64 #[.int .i64 a, .int .i64 b, .pointer (some ⟨gb, 0, none⟩)] w fun e w' => e = .returned (.int .i64 (wrap64 ((rd_T73 l0 a).f0 - (rd_T73 l0 b).f0))) ∧ ∃ q, w' = w.drewN q := by
 obtain ⟨ad1, e1, hx1_0, hx1_1⟩ := at_T73 hr a ha0 ha
 cases e1
 obtain ⟨ad2, e2, hx2_0, hx2_1⟩ := at_T73 hr b hb0 hb
 cases e2
 clear hr
 replace ha0 := eq_true ha0
 replace ha := eq_true ha
 replace hb0 := eq_true hb0
 replace hb := eq_true hb
 generalize (rd_T73 l0 a) = x at *
 generalize (rd_T73 l0 b) = y at *
 go_enter Try.func64, Try.ntmps64
 go_wp2
 go_quiet (fail)
 go_wp2
 go_ret
 exact ⟨rfl, _, rfl⟩
theorem impl_PlanOf.order_length {x0 : List S73} {xs r : List Int} (h : impl_PlanOf.order x0 xs = some r) : xs.length = r.length := by
 unfold impl_PlanOf.order at h
 by_cases h1 : xs.length < 20
 ·rw [if_pos h1] at h
  by_cases h2 : (xs.all fun x => decide (0 ≤ x ∧ x < (x0.length : Int))) = true
  ·rw [if_pos h2] at h
   obtain rfl := Option.some.inj h
   simp [SortF.insl_length]
  ·rw [if_neg h2] at h
   cases h
 ·rw [if_neg h1] at h
  cases h
theorem impl_PlanOf.sort_calls (l0 : List S73) (A0 : Option Addr) (c0 gb : Nat) (w0 W : World) {ok : Nat → Prop} {v : Value} (y t : List Int) (h : Kd.R (Kd.int .i64) 3 W w0.heap.size ok v y) (hA : impl_PlanOf.order l0 y = some t) (hcell : ∀ W', Below w0.heap.size w0 W' → W'.cell? ⟨gb, 0, none⟩ = some (.slice A0 l0.length c0)) (hr : Kd.C k73 w0 A0 l0.length l0) (hB : Below w0.heap.size w0 W) :
  Calls Try.prog 63 #[v, .func (.func 64) #[] #[.pointer (some ⟨gb, 0, none⟩)]] W fun e w' => e = .returned (.tuple #[]) ∧ Kd.R (Kd.int .i64) 3 w' w0.heap.size ok v t ∧ Below w0.heap.size w0 w' ∧ W.grownBy w' v.ownBlock := by
 unfold impl_PlanOf.order at hA
 by_cases h1 : y.length < 20
 ·rw [if_pos h1] at hA
  by_cases h2 : (y.all fun x => decide (0 ≤ x ∧ x < (l0.length : Int))) = true
  ·rw [if_pos h2] at hA
   obtain rfl := Option.some.inj hA
   have hall : ∀ x ∈ y, 0 ≤ x ∧ x < (l0.length : Int) := fun x hx => by
    have := List.all_eq_true.1 h2 x hx
    exact of_decide_eq_true this
   have hn : SortF.nats (y.map Int.toNat) = y := by
    simp only [SortF.nats, List.map_map]
    refine (List.map_congr_left fun x hx => ?_).trans (List.map_id y)
    have := hall x hx
    show ((x.toNat : Nat) : Int) = x
    omega
   rw [← hn] at h
   refine (SortF.sort_calls l0.length (y.map Int.toNat) (fun z hz => ?_) h (by simpa using h1) (impl_PlanOf.cf l0) 64 #[.pointer (some ⟨gb, 0, none⟩)] (enters_of Try.func64 (by kernel_rfl) rfl) (fun W' hW' a b ha hb => impl_PlanOf_1.calls A0 c0 l0 gb a b W' (hcell W' (hW' w0 hB)) (Kd.C_below hr (hW' w0 hB)) (by omega) (by omega) (by omega) (by omega))).mono ?_
   ·obtain ⟨x, hx, rfl⟩ := List.mem_map.1 hz
    have := hall x hx
    omega
   ·rintro e w' ⟨rfl, h3, h4, h5⟩
    exact ⟨rfl, h3, h4 w0 hB, h5⟩
  ·rw [if_neg h2] at hA
   cases hA
 ·rw [if_neg h1] at hA
  cases hA
mutual
def impl_PlanOf.j0 : Nat → List (S73) → Int → Bool → Option (List Int × Bool)
 | 0, _, _, _ => none
 | k + 1, x0, x1, x20 => if x20 = true then (some (([] : List Int), false)) else ((impl_ElementsOf.f k x1).bind fun t336 => ((some (([] : List Int) : List Int)).bind fun y339 => (if y339.length + t336.length < 17592186044416 then ((impl_PlanOf.order x0 (y339 ++ t336)).bind fun t345 => (if 0 ≤ (t336.length : Int) then (if ((t336.length : Int) : Int).toNat ≤ 35184372088832 then (impl_PlanOf.l0 k x0 t336 (List.replicate ((t336.length : Int) : Int).toNat 0) t345 (t345.length : Int) 0) else (none)) else (none))) else (none))))
def impl_PlanOf.l0 : Nat → List (S73) → List Int → List Int → List Int → Int → Int → Option (List Int × Bool)
 | 0, _, _, _, _, _, _ => none
 | k + 1, x0, x6, x8, x32, x33, x34 => if x34 < x33 then (if 0 ≤ x34 then (if x34 < (x32.length : Int) then (if 0 ≤ (rd x32 x34) then (if (rd x32 x34) < (x0.length : Int) then (if (wrap64 (x34 + 1)) > ((rd_T73 x0 (rd x32 x34)).f0) then (some (([] : List Int), false)) else ((slices_Index_int_int.f k x6 (rd x32 x34)).bind fun t353 => (if 0 ≤ t353 then (if t353 < (x8.length : Int) then (impl_PlanOf.l0 k x0 x6 (x8.set (t353 : Int).toNat (wrap64 (x34 + 1))) x32 x33 (wrap64 (x34 + 1))) else (none)) else (none)))) else (none)) else (none)) else (none)) else (none)) else (some (x8, true))
end
def impl_PlanOf.f (k : Nat) (l0 : List (S73)) (a1 : Int) : Option (List Int × Bool) := (impl_AreTasks.f k l0).bind fun t334 => (if t334 = true then ((impl_IsSet.f (l0.length : Int) a1).bind fun t335 => (impl_PlanOf.j0 k l0 a1 (!t335))) else (impl_PlanOf.j0 k l0 a1 true))
set_option maxHeartbeats 8000000 in
set_option maxRecDepth 100000 in
theorem impl_PlanOf.calls (k : Nat) (A0 : Option Addr) (c0 : Nat) (l0 : List (S73)) (a1 : Int) (r1 : List Int) (r2 : Bool) (w : World) (hr0 : Kd.C k73 w A0 l0.length l0) (hc0 : l0.length ≤ c0) (h : impl_PlanOf.f k l0 a1 = some (r1, r2)) :
  Calls Try.prog 15 #[.slice A0 l0.length c0, .int .i64 a1] w fun e w' => ∃ v0_ : Value, e = .returned (.tuple #[v0_, .bool r2]) ∧ Kd.R (Kd.int .i64) 3 w' w.heap.size (fun _ => True) v0_ r1 ∧ Below w.heap.size w w' := by
 have HR0 := Aside0.mk hr0
 have HC0 := Aside0.mk hc0
 clear hr0 hc0
 have HB := Aside0.mk (Below.refl w.heap.size w)
 have H : ((impl_AreTasks.f k l0).bind fun t334 => (if t334 = true then ((impl_IsSet.f (l0.length : Int) a1).bind fun t335 => (impl_PlanOf.j0 k l0 a1 (!t335))) else (impl_PlanOf.j0 k l0 a1 true))) = some (r1, r2) := h
 clear h
 have HC3 := Aside0.mk H
 clear H
 go_enter Try.func15, Try.ntmps15
 go_upto_region 1 with (((with_reducible refine gate_dst (N := 2) rfl ?_); refine box_event ?hg (N := 2) ?hd (cs := #[.slice A0 l0.length c0]) (t := 27) ?hr ?_; (case hd => rfl); (case hg => rfl); (case hr => first | (go_simp; done) | (go_simp; rfl)); intro gbx hg wb hbox hb; have HL := Aside0.mk hb; have HBX : Aside0 (∀ W_ : World, Below wb.heap.size wb W_ → W_.cell? ⟨gbx, 0, none⟩ = some (.slice A0 l0.length c0)) := ⟨fun W_ hW_ => (hW_.cell (p := ⟨gbx, 0, none⟩) (blk_lt hbox)).trans ((blk_cell hbox 0).trans rfl)⟩; replace HR0 := Aside0.mk (Kd.C_below HR0.out hb); replace HB := Aside0.mk (Below.refl wb.heap.size wb); clear hg hbox hb))
 go_cut [20] (fun v20 wc => ∃ (kq : Nat) (x20_2 : Bool), v20 = .bool x20_2 ∧ Aside0 (impl_PlanOf.j0 kq l0 a1 x20_2 = some (r1, r2)) ∧ Aside0 (kq ≤ k) ∧ Aside0 (Below wb.heap.size wb wc))
 case first =>
  have H := HC3.out
  clear HC3
  replace H := Option.bind_eq_some_iff.mp H
  obtain ⟨t334, A40, H⟩ := H
  (try dsimp only at H)
  have A4 := Aside0.mk A40
  clear A40
  by_cases c5 : t334 = true
  ·subst c5
   have H1 : ((impl_IsSet.f (l0.length : Int) a1).bind fun t335 => (impl_PlanOf.j0 k l0 a1 (!t335))) = some (r1, r2) := by rw [if_pos rfl] at H; exact H
   clear H
   have H := H1
   clear H1
   replace H := Option.bind_eq_some_iff.mp H
   obtain ⟨t335, A60, H⟩ := H
   (try dsimp only at H)
   have A6 := Aside0.mk A60
   clear A60
   have H' := Aside0.mk H
   clear H
   have hcz_ := HBX.out _ HB.out
   go_wp2_with (first | ((with_reducible refine gate_callee (f := 60) rfl ?_); refine goesL_ (some 12) rfl rfl Try.func60 (by kernel_rfl) rfl #[.slice A0 l0.length c0] rfl (by (try simp only [List.map_toArray, List.map_cons, List.map_nil]); first | done | rfl) ?_; (with_reducible refine (impl_AreTasks.calls k _ _ l0 true _ ?side1 ?side2 A4.out).mono ?_); (case side1 => exact Hof.Cw (Kd.C_below HR0.out HB.out)); (case side2 => exact HC0.out); rintro e w7 ⟨rfl, hb⟩; refine ⟨_, rfl, ?_⟩; replace HB := Aside0.mk (below_step (Hof.Lw HB.out) hb); have hcz1_ := HBX.out _ HB.out; (try clear hb); (try clear hb2); (try clear hk); (try clear hi)) | (go_at_call 61; (with_reducible refine (impl_IsSet.calls (l0.length : Int) a1 t335 _ A6.out).mono ?_); rintro e w' ⟨rfl, ⟨nd, rfl⟩⟩))
   go_meet
   case rel => exact ⟨_, (!t335), (by first | rfl | (simp; done) | (simp [*]; done)), H', ⟨by first | omega | exact Nat.le_refl _⟩, ⟨Hof.Lw HB.out⟩⟩
  ·replace c5 := Bool.eq_false_iff.mpr c5
   subst c5
   have H1 : (impl_PlanOf.j0 k l0 a1 true) = some (r1, r2) := by rw [if_neg (show ¬ (false = true) by decide)] at H; exact H
   clear H
   have H := H1
   clear H1
   have H' := Aside0.mk H
   clear H
   have hcz_ := HBX.out _ HB.out
   go_wp2_with (first | ((with_reducible refine gate_callee (f := 60) rfl ?_); refine goesL_ (some 12) rfl rfl Try.func60 (by kernel_rfl) rfl #[.slice A0 l0.length c0] rfl (by (try simp only [List.map_toArray, List.map_cons, List.map_nil]); first | done | rfl) ?_; (with_reducible refine (impl_AreTasks.calls k _ _ l0 false _ ?side1 ?side2 A4.out).mono ?_); (case side1 => exact Hof.Cw (Kd.C_below HR0.out HB.out)); (case side2 => exact HC0.out); rintro e w8 ⟨rfl, hb⟩; refine ⟨_, rfl, ?_⟩; replace HB := Aside0.mk (below_step (Hof.Lw HB.out) hb); have hcz1_ := HBX.out _ HB.out; (try clear hb); (try clear hb2); (try clear hk); (try clear hi)))
   go_meet
   case rel => exact ⟨_, (true), (by first | rfl | (simp; done) | (simp [*]; done)), H', ⟨by first | omega | exact Nat.le_refl _⟩, ⟨Hof.Lw HB.out⟩⟩
 case rest =>
  clear HC3
  try clear c1
  try clear p2
  try clear c5
  try clear c6
  obtain ⟨kq, x20_2, rfl, HA, HJ2, HB⟩ := hcut
  cases kq with
  | zero => exact absurd HA.out (by simp [impl_PlanOf.j0])
  | succ kj2 =>
   have H := HA.out
   clear HA
   simp only [impl_PlanOf.j0] at H
   by_cases c9 : x20_2 = true
   ·subst c9
    have H1 : (some (([] : List Int), false)) = some (r1, r2) := by rw [if_pos rfl] at H; exact H
    clear H
    have H := H1
    clear H1
    simp only [Option.some.injEq, Prod.mk.injEq] at H
    obtain ⟨rfl, rfl⟩ := H
    try have hcz_ := HBX.out _ HB.out
    go_wp2
    go_ret2
    exact ⟨_, by first | rfl | (simp [errW_none, errW_some] <;> rfl) | (simp [*, errW_none, errW_some] <;> rfl), by first | exact Kd.R_nil _ _ _ _ _ | exact Kd.N_nil _ _ _ _ _ | exact Kd.V_nil _ _ _ _ _ | exact Kd.Q_nil _ _ _ _ _ | exact Kd.S_nil _ _ _ _ _, below_step HL.out (Hof.Lw HB.out)⟩
   ·replace c9 := Bool.eq_false_iff.mpr c9
    subst c9
    have H1 : ((impl_ElementsOf.f kj2 a1).bind fun t336 => ((some (([] : List Int) : List Int)).bind fun y339 => (if y339.length + t336.length < 17592186044416 then ((impl_PlanOf.order l0 (y339 ++ t336)).bind fun t345 => (if 0 ≤ (t336.length : Int) then (if ((t336.length : Int) : Int).toNat ≤ 35184372088832 then (impl_PlanOf.l0 kj2 l0 t336 (List.replicate ((t336.length : Int) : Int).toNat 0) t345 (t345.length : Int) 0) else (none)) else (none))) else (none)))) = some (r1, r2) := by rw [if_neg (show ¬ (false = true) by decide)] at H; exact H
    clear H
    have H := H1
    clear H1
    replace H := Option.bind_eq_some_iff.mp H
    obtain ⟨t336, A100, H⟩ := H
    (try dsimp only at H)
    have A10 := Aside0.mk A100
    clear A100
    obtain ⟨y339, hy339⟩ : ∃ y_ : List Int, y_ = (([] : List Int)) := ⟨_, rfl⟩
    replace H : (if y339.length + t336.length < 17592186044416 then ((impl_PlanOf.order l0 (y339 ++ t336)).bind fun t345 => (if 0 ≤ (t336.length : Int) then (if ((t336.length : Int) : Int).toNat ≤ 35184372088832 then (impl_PlanOf.l0 kj2 l0 t336 (List.replicate ((t336.length : Int) : Int).toNat 0) t345 (t345.length : Int) 0) else (none)) else (none))) else (none)) = some (r1, r2) := by first | (rw [hy339]; with_reducible exact H) | (have H2_ := (Option.bind_some _ _).symm.trans H; rw [hy339]; with_reducible exact H2_) | (have H2_ := (Option.bind_some _ _).symm.trans H; with_reducible exact H2_) | with_reducible exact H | (rw [hy339]; exact H) | exact H
    have Ny339 := Aside0.mk hy339
    clear hy339
    by_cases c11 : y339.length + t336.length < 17592186044416
    ·rw [if_pos c11] at H
     have LMc11 := Aside0.mk c11
     clear c11
     obtain ⟨y342, hy342⟩ : ∃ y_ : List Int, y_ = (y339 ++ t336) := ⟨_, rfl⟩
     replace H : ((impl_PlanOf.order l0 y342).bind fun t345 => (if 0 ≤ (t336.length : Int) then (if ((t336.length : Int) : Int).toNat ≤ 35184372088832 then (impl_PlanOf.l0 kj2 l0 t336 (List.replicate ((t336.length : Int) : Int).toNat 0) t345 (t345.length : Int) 0) else (none)) else (none))) = some (r1, r2) := by first | (rw [hy342]; with_reducible exact H) | (have H2_ := (Option.bind_some _ _).symm.trans H; rw [hy342]; with_reducible exact H2_) | (have H2_ := (Option.bind_some _ _).symm.trans H; with_reducible exact H2_) | with_reducible exact H | (rw [hy342]; exact H) | exact H
     have Ny342 := Aside0.mk hy342
     clear hy342
     replace H := Option.bind_eq_some_iff.mp H
     obtain ⟨t345, A120, H⟩ := H
     (try dsimp only at H)
     have LENQ := Aside0.mk (impl_PlanOf.order_length A120)
     have A12 := Aside0.mk A120
     clear A120
     by_cases c13 : 0 ≤ (t336.length : Int)
     ·rw [if_pos c13] at H
      have c13b0 := eq_true c13
      have c13b1 : decide (0 ≤ (t336.length : Int)) = true := decide_eq_true c13
      clear c13
      by_cases c14 : ((t336.length : Int) : Int).toNat ≤ 35184372088832
      ·rw [if_pos c14] at H
       have c14b0 := eq_true c14
       have c14b1 : decide (((t336.length : Int) : Int).toNat ≤ 35184372088832) = true := decide_eq_true c14
       clear c14
       obtain ⟨y348, hy348⟩ : ∃ y_ : List Int, y_ = (List.replicate ((t336.length : Int) : Int).toNat 0) := ⟨_, rfl⟩
       replace H : (impl_PlanOf.l0 kj2 l0 t336 y348 t345 (t345.length : Int) 0) = some (r1, r2) := by first | (rw [hy348]; with_reducible exact H) | (have H2_ := (Option.bind_some _ _).symm.trans H; rw [hy348]; with_reducible exact H2_) | (have H2_ := (Option.bind_some _ _).symm.trans H; with_reducible exact H2_) | with_reducible exact H | (rw [hy348]; exact H) | exact H
       have Ny348 := Aside0.mk hy348
       clear hy348
       have H' := Aside0.mk H
       clear H
       go_wp2_with (first | ((with_reducible refine gate_callee (f := 62) rfl ?_); refine goesL_ (some 22) rfl rfl Try.func62 (by kernel_rfl) rfl #[.int .i64 a1] rfl (by (try simp only [List.map_toArray, List.map_cons, List.map_nil]); first | done | rfl) ?_; (with_reducible refine (impl_ElementsOf.calls kj2 a1 t336 _ A10.out).mono ?_); rintro e w15 ⟨v337, rfl, ho0, hb⟩; refine ⟨_, rfl, ?_⟩; have HO338 := Aside0.mk (Kd.R_lower ho0 (below_size (Hof.Lw HB.out))); replace HB := Aside0.mk (below_step (Hof.Lw HB.out) hb); (try clear hb); (try clear hb2); (try clear hk); (try clear hi); (try clear ho0)) | ((with_reducible refine gate_dst (N := 23) rfl ?_); (try (refine gate_guard (by rfl) ?_; dsimp only)); refine Kd.R_lit (Kd.int .i64) _ 3 ?hg (N := 23) ?hd (xs := ([] : List Int)) (inner := []) (ok := fun _ => True) (okp := fun _ => True) ?hr ?hp (fun _ hk => hk) trivial (Below.refl _ _) (Nat.le_refl _) (by simp) ?_; (case hd => rfl); (case hg => rfl); (case hr => first | (go_simp; done) | (go_simp; rfl)); (case hp => exact (Reps.none _ _)); intro v340 w16 ho17 hb hg_ hnew_; clear hg_ hnew_; (first | rw [← Ny339.out] at ho17 | (simp only [Int.reduceToNat] at ho17; rw [← Ny339.out] at ho17)); have HO341 := Aside0.mk (Kd.R_lower (Kd.R_new' ho17 (Kd.R_lt (Hof.Rw HO338.out))) (below_size (Hof.Lw HB.out))); replace HO338 := Aside0.mk (Kd.R_elder' (Hof.Rw HO338.out) (Kd.R_base ho17) hb); replace HB := Aside0.mk (below_step (Hof.Lw HB.out) hb); clear hb ho17; obtain ⟨Ao19, co19, eo19⟩ := Kd.R_slice HO338.out; subst eo19) | ((with_reducible refine gate_builtin (b := .append) (xs := #[.tmp 23, .tmp 24]) rfl ?_); (try (refine gate_guard (by rfl) ?_; dsimp only)); at_builtin; refine Kd.R_append_rows (Kd.int .i64) (w0 := wb) wb.heap.size rfl (.tmp 23) (.tmp 24) 24 3 (.int .i64 0) 8 rfl Try.underlying24 info3 rfl (by decide) (by omega) v340 y339 t336 _ _ _ (fun k_ => some k_ ≠ (.slice Ao19 t336.length co19 : Value).ownBlock) (fun _ => False) rfl rfl ?aO ?aR (fun _ _ h => h) (fun _ h => h.elim) ?aF ?aB ?aS ?aL ?_; (case aR => repeat (first | exact (Kd.R_reads' HO338.out).2.2 | (with_reducible refine Kd.C_alloc ?_ _) | (with_reducible refine Kd.C_drewN ?_ _) | (with_reducible refine Kd.C_drew ?_))); (case aB => exact (Hof.Lw HB.out)); (case aF => exact (fun k_ hk => Kd.fresh' (Kd.R_lt (Hof.Rw HO338.out)) k_ hk)); (case aO => exact (Hof.Rw (Kd.R_mono HO341.out (fun _ hk => hk.2)))); (case aS => exact (below_size (Hof.Lw HB.out))); (case aL => have := LMc11.out; omega); intro v343 w18 ho hb hg hat; rw [← Ny342.out] at ho; have n0_ := Aside0.mk (Kd.R_after (ok := (fun _ => True)) (Hof.Rw HO338.out) hg hat); have n1_ := Aside0.mk hb; have n2_ := Aside0.mk ho; clear HO338; clear HB; clear HO341; have HO338 := n0_; have HB := n1_; have HO344 := n2_; clear n0_ n1_ n2_; clear ho hb hg hat; obtain ⟨Ao20, co20, eo20⟩ := Kd.R_slice HO344.out; rw [LENQ.out] at eo20; subst eo20) | ((with_reducible refine gate_callee (f := 63) rfl ?_); refine goesL_ (some 28) rfl rfl Try.func63 (by kernel_rfl) rfl #[.slice Ao20 t345.length co20, .func (.func 64) #[] #[.pointer (some ⟨gbx, 0, none⟩)]] rfl (by (try simp only [List.map_toArray, List.map_cons, List.map_nil]); first | done | rfl) ?_; (with_reducible refine (impl_PlanOf.sort_calls l0 A0 c0 gbx wb _ y342 t345 (Hof.Rw HO344.out) A12.out HBX.out HR0.out (Hof.Lw HB.out)).mono ?_); rintro e w21 ⟨rfl, ho0, hb, hg⟩; refine ⟨_, rfl, ?_⟩; have HO347 := Aside0.mk ho0; replace HO338 := Aside0.mk (Kd.R_grown (Hof.Rw HO338.out) hg (fun k hk => hk.2)); replace HB := Aside0.mk hb; clear HO344 ho0 hb hg) | ((with_reducible refine gate_dst (N := 31) rfl ?_); (try (refine gate_guard (by rfl) ?_; dsimp only)); refine Kd.R_make (Kd.int .i64) _ 3 rfl (N := 31) rfl 24 _ _ rfl (t336.length : Int) rfl rfl Try.underlying24 (.int .i64 0) 8 info3 rfl (by decide) (by omega) 0 (ok := fun _ => True) (okp := fun _ => True) rfl (fun _ hk => hk) trivial (of_decide_eq_true (by first | (with_reducible assumption) | assumption)) (Nat.le_trans (Nat.mul_le_mul_right _ (of_decide_eq_true (by first | (with_reducible assumption) | assumption) : (t336.length : Int).toNat ≤ 35184372088832)) (by omega)) (Below.refl _ _) (Nat.le_refl _) ?_; intro v349 w22 ho23 hb hg_ hnew_; clear hg_ hnew_; (first | rw [← Ny348.out] at ho23 | (simp only [Int.reduceToNat] at ho23; rw [← Ny348.out] at ho23)); have HO350 := Aside0.mk (Kd.R_lower (Kd.R_new' (Kd.R_new' ho23 (Kd.R_lt (Hof.Rw HO338.out))) (Kd.R_lt (Hof.Rw HO347.out))) (below_size (Hof.Lw HB.out))); replace HO338 := Aside0.mk (Kd.R_elder' (Hof.Rw HO338.out) (Kd.R_base ho23) hb); replace HO347 := Aside0.mk (Kd.R_elder' (Hof.Rw HO347.out) (Kd.R_base ho23) hb); replace HB := Aside0.mk (below_step (Hof.Lw HB.out) hb); clear hb ho23))
       go_loopg [34] kj2 (fun kq v34 w' => ∃ (x8_2 : List Int) (x34_2 : Int), v34 = .int .i64 x34_2 ∧ Aside0 (impl_PlanOf.l0 kq l0 t336 x8_2 t345 (t345.length : Int) x34_2 = some (r1, r2)) ∧ Aside0 (kq ≤ kj2) ∧ Aside0 (Kd.R (Kd.int .i64) 3 w' wb.heap.size (fun k_ => some k_ ≠ (v349 : Value).ownBlock ∧ some k_ ≠ ((.slice Ao20 t345.length co20) : Value).ownBlock) (.slice Ao19 t336.length co19) t336) ∧ Aside0 (Kd.R (Kd.int .i64) 3 w' wb.heap.size (fun k_ => some k_ ≠ ((.slice Ao19 t336.length co19) : Value).ownBlock ∧ some k_ ≠ ((.slice Ao20 t345.length co20) : Value).ownBlock) v349 x8_2) ∧ Aside0 (Kd.R (Kd.int .i64) 3 w' wb.heap.size (fun k_ => some k_ ≠ ((.slice Ao19 t336.length co19) : Value).ownBlock ∧ some k_ ≠ (v349 : Value).ownBlock) (.slice Ao20 t345.length co20) t345) ∧ Aside0 (Below wb.heap.size wb w'))
       case atStart => exact ⟨(y348), (0), (by first | rfl | (simp; done) | (simp [*]; done)), H', ⟨Nat.le_refl _⟩, ⟨Hof.Rw (Kd.R_mono HO338.out (fun _ hk => (by first | exact ⟨hk.1.2, hk.2⟩ | exact ⟨hk.1, hk.2⟩ | exact ⟨hk.2, hk.1.2⟩ | (simp_all; done))))⟩, ⟨Hof.Rw (Kd.R_mono HO350.out (fun _ hk => (by first | exact ⟨hk.1.2, hk.2⟩ | exact ⟨hk.1, hk.2⟩ | exact ⟨hk.1.1.2, hk.2⟩ | (simp_all; done))))⟩, ⟨Hof.Rw (Kd.R_mono HO347.out (fun _ hk => (by first | exact ⟨hk.1.2, hk.2⟩ | exact ⟨hk.1, hk.2⟩ | exact ⟨hk.1.1.2, hk.2⟩ | (simp_all; done))))⟩, ⟨Hof.Lw HB.out⟩⟩
       case round =>
        clear H'
        try clear c1
        try clear p2
        try clear c5
        try clear c6
        try clear c9
        try clear c11
        try clear c13
        try clear c13b0
        try clear c13b1
        try clear c14
        try clear c14b0
        try clear c14b1
        try clear c15
        try clear p2
        obtain ⟨x8_2, x34_2, rfl, HA, HK2, HO_6, HO_8, HO_32, HB⟩ := hrel
        cases gk with
        | zero => exact absurd HA.out (by simp [impl_PlanOf.l0])
        | succ k2 =>
         have H := HA.out
         clear HA
         simp only [impl_PlanOf.l0] at H
         by_cases c25 : x34_2 < (t345.length : Int)
         ·rw [if_pos c25] at H
          have c25b0 : decide (x34_2 < (t345.length : Int)) = true := decide_eq_true c25
          clear c25
          by_cases c26 : 0 ≤ x34_2
          ·rw [if_pos c26] at H
           have c26b0 : decide (0 ≤ x34_2) = true := decide_eq_true c26
           clear c26
           by_cases c27 : x34_2 < (t345.length : Int)
           ·rw [if_pos c27] at H
            have c27b0 : decide (x34_2 < (t345.length : Int)) = true := decide_eq_true c27
            clear c27
            by_cases c28 : 0 ≤ (rd t345 x34_2)
            ·rw [if_pos c28] at H
             have c28b0 : decide (0 ≤ (rd t345 x34_2)) = true := decide_eq_true c28
             clear c28
             by_cases c29 : (rd t345 x34_2) < (l0.length : Int)
             ·rw [if_pos c29] at H
              have c29b0 : decide ((rd t345 x34_2) < (l0.length : Int)) = true := decide_eq_true c29
              clear c29
              by_cases c30 : (wrap64 (x34_2 + 1)) > ((rd_T73 l0 (rd t345 x34_2)).f0)
              ·rw [if_pos c30] at H
               have c30b0 : decide (((rd_T73 l0 (rd t345 x34_2)).f0) < (wrap64 (x34_2 + 1))) = true := decide_eq_true c30
               clear c30
               simp only [Option.some.injEq, Prod.mk.injEq] at H
               obtain ⟨rfl, rfl⟩ := H
               have p351 : 0 ≤ (x34_2 : Int) := of_decide_eq_true (by first | (with_reducible assumption) | assumption)
               have q351 : x34_2 < (t345.length : Int) := of_decide_eq_true (by first | (with_reducible assumption) | assumption)
               obtain ⟨ad351, e351, hx351_0⟩ := Kd.at_int (Kd.R_reads' HO_32.out).2.2 x34_2 p351 q351
               cases e351
               replace p351 := eq_true p351
               replace q351 := eq_true q351
               have p352 : 0 ≤ ((rd t345 x34_2) : Int) := of_decide_eq_true (by first | (with_reducible assumption) | assumption)
               have q352 : (rd t345 x34_2) < (l0.length : Int) := of_decide_eq_true (by first | (with_reducible assumption) | assumption)
               obtain ⟨ad352, e352, hx352_0, hx352_1⟩ := at_T73 HR0.out (rd t345 x34_2) p352 q352
               cases e352
               try replace hx352_0 := (HB.out.cell (World.block_lt_of_cell? wb _ hx352_0)).trans hx352_0
               try replace hx352_1 := (HB.out.cell (World.block_lt_of_cell? wb _ hx352_1)).trans hx352_1
               replace p352 := eq_true p352
               replace q352 := eq_true q352
               try have hcz_ := HBX.out _ HB.out
               go_wp2
               go_ret2
               exact ⟨_, by first | rfl | (simp [errW_none, errW_some] <;> rfl) | (simp [*, errW_none, errW_some] <;> rfl), by first | exact Kd.R_nil _ _ _ _ _ | exact Kd.N_nil _ _ _ _ _ | exact Kd.V_nil _ _ _ _ _ | exact Kd.Q_nil _ _ _ _ _ | exact Kd.S_nil _ _ _ _ _, below_step HL.out (Hof.Lw HB.out)⟩
              ·rw [if_neg c30] at H
               have c30b0 : decide (((rd_T73 l0 (rd t345 x34_2)).f0) < (wrap64 (x34_2 + 1))) = false := decide_eq_false c30
               clear c30
               replace H := Option.bind_eq_some_iff.mp H
               obtain ⟨t353, A310, H⟩ := H
               (try dsimp only at H)
               have A31 := Aside0.mk A310
               clear A310
               by_cases c32 : 0 ≤ t353
               ·rw [if_pos c32] at H
                have c32b0 : decide (0 ≤ t353) = true := decide_eq_true c32
                clear c32
                by_cases c33 : t353 < (x8_2.length : Int)
                ·rw [if_pos c33] at H
                 have c33b0 : decide (t353 < (x8_2.length : Int)) = true := decide_eq_true c33
                 clear c33
                 obtain ⟨y354, hy354⟩ : ∃ y_ : List Int, y_ = (x8_2.set (t353 : Int).toNat (wrap64 (x34_2 + 1))) := ⟨_, rfl⟩
                 replace H : (impl_PlanOf.l0 k2 l0 t336 y354 t345 (t345.length : Int) (wrap64 (x34_2 + 1))) = some (r1, r2) := by first | (rw [hy354]; with_reducible exact H) | (have H2_ := (Option.bind_some _ _).symm.trans H; rw [hy354]; with_reducible exact H2_) | (have H2_ := (Option.bind_some _ _).symm.trans H; with_reducible exact H2_) | with_reducible exact H | (rw [hy354]; exact H) | exact H
                 have Ny354 := Aside0.mk hy354
                 clear hy354
                 have H' := Aside0.mk H
                 clear H
                 have p351 : 0 ≤ (x34_2 : Int) := of_decide_eq_true (by first | (with_reducible assumption) | assumption)
                 have q351 : x34_2 < (t345.length : Int) := of_decide_eq_true (by first | (with_reducible assumption) | assumption)
                 obtain ⟨ad351, e351, hx351_0⟩ := Kd.at_int (Kd.R_reads' HO_32.out).2.2 x34_2 p351 q351
                 cases e351
                 replace p351 := eq_true p351
                 replace q351 := eq_true q351
                 have p352 : 0 ≤ ((rd t345 x34_2) : Int) := of_decide_eq_true (by first | (with_reducible assumption) | assumption)
                 have q352 : (rd t345 x34_2) < (l0.length : Int) := of_decide_eq_true (by first | (with_reducible assumption) | assumption)
                 obtain ⟨ad352, e352, hx352_0, hx352_1⟩ := at_T73 HR0.out (rd t345 x34_2) p352 q352
                 cases e352
                 try replace hx352_0 := (HB.out.cell (World.block_lt_of_cell? wb _ hx352_0)).trans hx352_0
                 try replace hx352_1 := (HB.out.cell (World.block_lt_of_cell? wb _ hx352_1)).trans hx352_1
                 replace p352 := eq_true p352
                 replace q352 := eq_true q352
                 have hcz_ := HBX.out _ HB.out
                 go_wp2_with (first | ((with_reducible refine gate_callee (f := 65) rfl ?_); refine goesL_ (some 50) rfl rfl Try.func65 (by kernel_rfl) rfl #[.slice Ao19 t336.length co19, .int .i64 (rd t345 x34_2)] rfl (by (try simp only [List.map_toArray, List.map_cons, List.map_nil]); first | done | rfl) ?_; (with_reducible refine (slices_Index_int_int.calls k2 _ _ t336 (rd t345 x34_2) t353 _ ?side1 ?side2 A31.out).mono ?_); (case side1 => exact Hof.Cw ((Kd.R_reads' HO_6.out).2.2)); (case side2 => exact (Kd.R_reads' HO_6.out).2.1); rintro e w' ⟨rfl, ⟨nd, rfl⟩⟩; refine ⟨_, rfl, ?_⟩; (try (rw [drewN_self wr]; generalize hq_ : World.drewN wr _ = wr; have n0_ : Aside0 (Kd.R (Kd.int .i64) 3 wr wb.heap.size (fun k_ => some k_ ≠ (.slice Ao19 t336.length co19 : Value).ownBlock ∧ some k_ ≠ (v349 : Value).ownBlock) (.slice (some ad351) t345.length co20) t345) := ⟨by rw [← hq_]; exact (Hof.Rw HO_32.out)⟩; have n1_ : Aside0 (Kd.R (Kd.int .i64) 3 wr wb.heap.size (fun k_ => some k_ ≠ (.slice (some ad351) t345.length co20 : Value).ownBlock ∧ some k_ ≠ (v349 : Value).ownBlock) (.slice Ao19 t336.length co19) t336) := ⟨by rw [← hq_]; exact (Hof.Rw (Kd.R_mono HO_6.out (fun _ hk => (by first | exact ⟨hk.1.2, hk.2⟩ | exact ⟨hk.1, hk.2⟩ | exact ⟨hk.2, hk.1⟩ | (simp_all; done)))))⟩; have n2_ : Aside0 (Kd.R (Kd.int .i64) 3 wr wb.heap.size (fun k_ => some k_ ≠ (.slice (some ad351) t345.length co20 : Value).ownBlock ∧ some k_ ≠ (.slice Ao19 t336.length co19 : Value).ownBlock) v349 x8_2) := ⟨by rw [← hq_]; exact (Hof.Rw (Kd.R_mono HO_8.out (fun _ hk => (by first | exact ⟨hk.1.2, hk.2⟩ | exact ⟨hk.1, hk.2⟩ | exact ⟨hk.2, hk.1⟩ | (simp_all; done)))))⟩; have n3_ : Aside0 (Below wb.heap.size wb wr) := ⟨by rw [← hq_]; exact (Hof.Lw HB.out)⟩; clear HO_32 HO_6 HO_8 HB hq_; have HO_32 := n0_; have HO_6 := n1_; have HO_8 := n2_; have HB := n3_; clear n0_ n1_ n2_ n3_)); have p34 : 0 ≤ (t353 : Int) := of_decide_eq_true (by first | (with_reducible assumption) | assumption); have q34 : (t353 : Int) < ((x8_2.length : Int) : Int) := of_decide_eq_true (by first | (with_reducible assumption) | assumption); obtain ⟨go34, co34, eo34, gb34, gl34, cl34, HG34⟩ := Kd.R_form HO_8.out (by omega); (first | cases eo34 | (injection eo34 with ea_ en_ ec_; (first | subst ea_ | (injection ea_ with ea_; subst ea_)); subst ec_; clear en_)); have GB34 := Aside0.mk gb34; have GG34 := Aside0.mk HG34; clear gb34 gl34 HG34; obtain ⟨hx34_0, hf34_0⟩ := Kd.R_celln 0 HO_8.out (t353 : Int) p34 q34; replace p34 := eq_true p34; replace q34 := eq_true q34; obtain ⟨hy35_, hz35_⟩ := Kd.R_celln 0 HO_8.out (t353 : Int) (of_decide_eq_true (by first | (with_reducible assumption) | assumption)) (of_decide_eq_true (by first | (with_reducible assumption) | assumption)); have HP35 := Kd.R_putg HO_8.out (t353 : Int) (wrap64 (x34_2 + 1))) | ((with_reducible refine gate_store (t := 3) (p := 53) rfl ?_); refine store_event (t := 3) (p := 53) (v := ?vo_w36) (w1 := (wr.setCell ⟨go34, (t353 : Int).toNat, none⟩ (.int .i64 (wrap64 (x34_2 + 1))))) ?hg ?ho ?hn ?hr ?_; (case ho => rfl); (case hg => rfl); (case hn => rfl); (case hr => first | (go_simp; done) | (go_simp; rfl)); intro w36 hw; have hg : wr.grownBy w36 (some go34) := (by rw [hw]; exact HP35.2); have hp_ : Kd.R (Kd.int .i64) 3 w36 wb.heap.size (fun k_ => some k_ ≠ (.slice Ao19 t336.length co19 : Value).ownBlock ∧ some k_ ≠ (.slice (some ad351) t345.length co20 : Value).ownBlock) (.slice (some ⟨go34, 0, none⟩) x8_2.length co34) y354 := (by rw [hw, Ny354.out]; first | exact HP35.1 | exact Kd.R_mono HP35.1 (fun _ hk => ⟨hk.2, hk.1⟩)); clear HP35; replace HO_6 := Aside0.mk (Kd.R_after (v := (.slice (some ⟨go34, 0, none⟩) x8_2.length co34)) (v1 := (.slice (some ⟨go34, 0, none⟩) x8_2.length co34)) (ok := (fun k_ => some k_ ≠ (.slice (some ad351) t345.length co20 : Value).ownBlock)) (Hof.Rw (Kd.R_mono HO_6.out (fun _ hk => (by first | exact ⟨hk.1.2, hk.2⟩ | exact ⟨hk.1, hk.2⟩ | exact ⟨hk.2, hk.1⟩ | (simp_all; done))))) hg (.inl rfl)); replace HO_8 := Aside0.mk hp_; replace HO_32 := Aside0.mk (Kd.R_after (v := (.slice (some ⟨go34, 0, none⟩) x8_2.length co34)) (v1 := (.slice (some ⟨go34, 0, none⟩) x8_2.length co34)) (ok := (fun k_ => some k_ ≠ (.slice Ao19 t336.length co19 : Value).ownBlock)) (Hof.Rw HO_32.out) hg (.inl rfl)); replace HB := Aside0.mk ((by rw [hw]; exact below_set (HB.out) GB34.out : Below wb.heap.size wb w36)); clear hg hw hp_))
                 go_roundg k2
                 case measure => have := HJ2.out; have := HK2.out; omega
                 case rel => exact ⟨(y354), (wrap64 (x34_2 + 1)), (by first | rfl | (simp; done) | (simp [*]; done)), H', ⟨by have := HJ2.out; have := HK2.out; omega⟩, ⟨Hof.Rw (Kd.R_mono HO_6.out (fun _ hk => (by first | exact ⟨hk.1.2, hk.2⟩ | exact ⟨hk.1, hk.2⟩ | exact ⟨hk.2, hk.1⟩ | (simp_all; done))))⟩, ⟨Hof.Rw HO_8.out⟩, ⟨Hof.Rw HO_32.out⟩, ⟨Hof.Lw HB.out⟩⟩
                ·rw [if_neg c33] at H
                 exact absurd H (by simp)
               ·rw [if_neg c32] at H
                exact absurd H (by simp)
             ·rw [if_neg c29] at H
              exact absurd H (by simp)
            ·rw [if_neg c28] at H
             exact absurd H (by simp)
           ·rw [if_neg c27] at H
            exact absurd H (by simp)
          ·rw [if_neg c26] at H
           exact absurd H (by simp)
         ·rw [if_neg c25] at H
          have c25b0 : decide (x34_2 < (t345.length : Int)) = false := decide_eq_false c25
          clear c25
          simp only [Option.some.injEq, Prod.mk.injEq] at H
          obtain ⟨rfl, rfl⟩ := H
          try have hcz_ := HBX.out _ HB.out
          go_wp2
          go_ret2
          exact ⟨_, by first | rfl | (simp [errW_none, errW_some] <;> rfl) | (simp [*, errW_none, errW_some] <;> rfl), Kd.R_lower (Hof.Rw (Kd.R_mono HO_8.out (fun _ hk => trivial))) HL.out.size, below_step HL.out (Hof.Lw HB.out)⟩
      ·rw [if_neg c14] at H
       exact absurd H (by simp)
     ·rw [if_neg c13] at H
      exact absurd H (by simp)
    ·rw [if_neg c11] at H
     exact absurd H (by simp)
end Go.Proofs.Ytmpodackojmojaa.Pr
end
section
namespace Go.Proofs.Ytmpodackojmojaa.Pr
open Go.RowKit Go.Proofs.YtmpodackojmojaaW.PrintWords Go.Proofs.YtmpodackojmojaaW.PrintLast Go.Proofs.YtmpodackojmojaaW.PrintMore
attribute [local go_sem] max2_int min2_int max_two min_two max_three min_three max_four min_four
set_option linter.unusedVariables false
set_option linter.unusedSimpArgs false
def laws_eqIntS.l0 : Nat → List Int → List Int → Int → Option (Bool)
 | 0, _, _, _ => none
 | k + 1, x0, x1, x5 => if x5 < (x0.length : Int) then (if 0 ≤ x5 then (if x5 < (x1.length : Int) then (if (rd x0 x5) = (rd x1 x5) then (laws_eqIntS.l0 k x0 x1 (wrap64 (x5 + 1))) else (some false)) else (none)) else (none)) else (some true)
def laws_eqIntS.f (k : Nat) (l0 : List Int) (l1 : List Int) : Option (Bool) := if (l0.length : Int) = (l1.length : Int) then (laws_eqIntS.l0 k l0 l1 0) else (some false)
set_option maxHeartbeats 8000000 in
set_option maxRecDepth 100000 in
theorem laws_eqIntS.calls (k : Nat) (A0 : Option Addr) (c0 : Nat) (l0 : List Int) (A1 : Option Addr) (c1 : Nat) (l1 : List Int) (r : Bool) (w : World) (hr0 : Kd.C (Kd.int .i64) w A0 l0.length l0) (hc0 : l0.length ≤ c0) (hr1 : Kd.C (Kd.int .i64) w A1 l1.length l1) (hc1 : l1.length ≤ c1) (h : laws_eqIntS.f k l0 l1 = some r) :
  Calls Try.prog 16 #[.slice A0 l0.length c0, .slice A1 l1.length c1] w fun e w' => e = .returned (.bool r) ∧ Drawn0 w w' := by
 have HR0 := Aside0.mk hr0
 have HC0 := Aside0.mk hc0
 clear hr0 hc0
 have HR1 := Aside0.mk hr1
 have HC1 := Aside0.mk hc1
 clear hr1 hc1
 have H : (if (l0.length : Int) = (l1.length : Int) then (laws_eqIntS.l0 k l0 l1 0) else (some false)) = some r := h
 clear h
 by_cases c3 : (l0.length : Int) = (l1.length : Int)
 ·rw [if_pos c3] at H
  have c3b0 : ((l0.length : Int) == (l1.length : Int)) = true := beq_iff_eq.mpr c3
  have c3b1 : ((l0.length : Int) != (l1.length : Int)) = false := bne_eq_false_iff_eq.mpr c3
  have c3b2 : (l0.length == l1.length) = true := by first | simpa using c3 | (simp at c3 ⊢; omega)
  clear c3
  have H' := Aside0.mk H
  clear H
  go_enter Try.func16, Try.ntmps16
  go_wp2
  repeat (go_quiet (fail); try go_wp2)
  go_loopg [5] k (fun kq v5 w' => ∃ (x5_1 : Int), v5 = .int .i64 x5_1 ∧ Aside0 (laws_eqIntS.l0 kq l0 l1 x5_1 = some r) ∧ Aside0 (kq ≤ k) ∧ Drawn0 w w')
  case atStart => exact ⟨(0), (by first | rfl | (simp; done) | (simp [*]; done)), H', ⟨Nat.le_refl _⟩, by repeat (first | exact Drawn0.refl _ | apply Drawn0.step)⟩
  case round =>
   clear H'
   try clear c1
   try clear p2
   try clear c3
   try clear c3b0
   try clear c3b1
   try clear c3b2
   obtain ⟨x5_1, rfl, HA, HK1, ⟨m1, rfl⟩⟩ := hrel
   cases gk with
   | zero => exact absurd HA.out (by simp [laws_eqIntS.l0])
   | succ k1 =>
    have H := HA.out
    clear HA
    simp only [laws_eqIntS.l0] at H
    by_cases c4 : x5_1 < (l0.length : Int)
    ·rw [if_pos c4] at H
     have c4b0 : decide (x5_1 < (l0.length : Int)) = true := decide_eq_true c4
     clear c4
     by_cases c5 : 0 ≤ x5_1
     ·rw [if_pos c5] at H
      have c5b0 : decide (0 ≤ x5_1) = true := decide_eq_true c5
      clear c5
      by_cases c6 : x5_1 < (l1.length : Int)
      ·rw [if_pos c6] at H
       have c6b0 : decide (x5_1 < (l1.length : Int)) = true := decide_eq_true c6
       clear c6
       by_cases c7 : (rd l0 x5_1) = (rd l1 x5_1)
       ·rw [if_pos c7] at H
        have c7b0 : ((rd l0 x5_1) == (rd l1 x5_1)) = true := beq_iff_eq.mpr c7
        have c7b1 : ((rd l0 x5_1) != (rd l1 x5_1)) = false := bne_eq_false_iff_eq.mpr c7
        clear c7
        have H' := Aside0.mk H
        clear H
        have p355 : 0 ≤ (x5_1 : Int) := of_decide_eq_true (by first | (with_reducible assumption) | assumption)
        have q355 : x5_1 < (l0.length : Int) := of_decide_eq_true (by first | (with_reducible assumption) | assumption)
        obtain ⟨ad355, e355, hx355_0⟩ := Kd.at_int HR0.out x5_1 p355 q355
        cases e355
        replace p355 := eq_true p355
        replace q355 := eq_true q355
        have p356 : 0 ≤ (x5_1 : Int) := of_decide_eq_true (by first | (with_reducible assumption) | assumption)
        have q356 : x5_1 < (l1.length : Int) := of_decide_eq_true (by first | (with_reducible assumption) | assumption)
        obtain ⟨ad356, e356, hx356_0⟩ := Kd.at_int HR1.out x5_1 p356 q356
        cases e356
        replace p356 := eq_true p356
        replace q356 := eq_true q356
        go_wp2
        repeat (go_quiet (fail); try go_wp2)
        go_roundg k1
        case measure => have := HK1.out; omega
        case rel => exact ⟨(wrap64 (x5_1 + 1)), (by first | rfl | (simp; done) | (simp [*]; done)), H', ⟨by have := HK1.out; omega⟩, by repeat (first | exact Drawn0.refl _ | apply Drawn0.step)⟩
       ·rw [if_neg c7] at H
        have c7b0 : ((rd l0 x5_1) == (rd l1 x5_1)) = false := beq_eq_false_iff_ne.mpr c7
        have c7b1 : ((rd l0 x5_1) != (rd l1 x5_1)) = true := bne_iff_ne.mpr c7
        obtain rfl := Option.some.inj H
        have p355 : 0 ≤ (x5_1 : Int) := of_decide_eq_true (by first | (with_reducible assumption) | assumption)
        have q355 : x5_1 < (l0.length : Int) := of_decide_eq_true (by first | (with_reducible assumption) | assumption)
        obtain ⟨ad355, e355, hx355_0⟩ := Kd.at_int HR0.out x5_1 p355 q355
        cases e355
        replace p355 := eq_true p355
        replace q355 := eq_true q355
        have p356 : 0 ≤ (x5_1 : Int) := of_decide_eq_true (by first | (with_reducible assumption) | assumption)
        have q356 : x5_1 < (l1.length : Int) := of_decide_eq_true (by first | (with_reducible assumption) | assumption)
        obtain ⟨ad356, e356, hx356_0⟩ := Kd.at_int HR1.out x5_1 p356 q356
        cases e356
        replace p356 := eq_true p356
        replace q356 := eq_true q356
        go_wp2
        repeat (go_quiet (fail); try go_wp2)
        go_ret
        exact ⟨by first | rfl | (simp; done) | (simp [*]; done), by repeat (first | exact Drawn0.refl _ | apply Drawn0.step)⟩
      ·rw [if_neg c6] at H
       exact absurd H (by simp)
     ·rw [if_neg c5] at H
      exact absurd H (by simp)
    ·rw [if_neg c4] at H
     have c4b0 : decide (x5_1 < (l0.length : Int)) = false := decide_eq_false c4
     clear c4
     obtain rfl := Option.some.inj H
     go_wp2
     repeat (go_quiet (fail); try go_wp2)
     go_ret
     exact ⟨by first | rfl | (simp; done) | (simp [*]; done), by repeat (first | exact Drawn0.refl _ | apply Drawn0.step)⟩
 ·rw [if_neg c3] at H
  have c3b0 : ((l0.length : Int) == (l1.length : Int)) = false := beq_eq_false_iff_ne.mpr c3
  have c3b1 : ((l0.length : Int) != (l1.length : Int)) = true := bne_iff_ne.mpr c3
  have c3b2 : (l0.length == l1.length) = false := by first | simpa using c3 | (simp at c3 ⊢; omega)
  obtain rfl := Option.some.inj H
  go_enter Try.func16, Try.ntmps16
  go_wp2
  repeat (go_quiet (fail); try go_wp2)
  go_ret
  exact ⟨by first | rfl | (simp; done) | (simp [*]; done), by repeat (first | exact Drawn0.refl _ | apply Drawn0.step)⟩
end Go.Proofs.Ytmpodackojmojaa.Pr
end
section
namespace Go.Proofs.Ytmpodackojmojaa.Pr
open Go.RowKit Go.Proofs.YtmpodackojmojaaW.PrintWords Go.Proofs.YtmpodackojmojaaW.PrintLast Go.Proofs.YtmpodackojmojaaW.PrintMore
attribute [local go_sem] max2_int min2_int max_two min_two max_three min_three max_four min_four
set_option linter.unusedVariables false
set_option linter.unusedSimpArgs false
def laws_eqTask.f (a0_0 : Int) (a0_1 : Int) (a1_0 : Int) (a1_1 : Int) : Option (Bool) := if a0_0 = a1_0 then (if a0_1 = a1_1 then (some true) else (some false)) else (some false)
set_option maxHeartbeats 8000000 in
set_option maxRecDepth 100000 in
theorem laws_eqTask.calls (a0_0 : Int) (a0_1 : Int) (a1_0 : Int) (a1_1 : Int) (r : Bool) (w : World) (h : laws_eqTask.f a0_0 a0_1 a1_0 a1_1 = some r) :
  Calls Try.prog 66 #[.agg #[.int .i64 a0_0, .int .i64 a0_1], .agg #[.int .i64 a1_0, .int .i64 a1_1]] w fun e w' => e = .returned (.bool r) ∧ Below w.heap.size w w' := by
 have hu73 := Try.underlying73
 have HB := Aside0.mk (Below.refl w.heap.size w)
 have H : (if a0_0 = a1_0 then (if a0_1 = a1_1 then (some true) else (some false)) else (some false)) = some r := h
 clear h
 by_cases c3 : a0_0 = a1_0
 ·rw [if_pos c3] at H
  have c3b0 : (a0_0 == a1_0) = true := beq_iff_eq.mpr c3
  have c3b1 : (a0_0 != a1_0) = false := bne_eq_false_iff_eq.mpr c3
  clear c3
  by_cases c4 : a0_1 = a1_1
  ·rw [if_pos c4] at H
   have c4b0 : (a0_1 == a1_1) = true := beq_iff_eq.mpr c4
   have c4b1 : (a0_1 != a1_1) = false := bne_eq_false_iff_eq.mpr c4
   clear c4
   obtain rfl := Option.some.inj H
   go_enter Try.func66, Try.ntmps66
   go_wp2_with (first | ((with_reducible refine gate_dst (N := 2) rfl ?_); refine box_event ?hg (N := 2) ?hd (cs := #[.int .i64 a0_0, .int .i64 a0_1]) (t := 73) ?hr ?_; (case hd => rfl); (case hg => rfl); (case hr => first | (go_simp; done) | (go_simp; rfl)); intro gb357 hg w5 hbox hb; have BK357 := Aside0.mk hbox; have GW357 := Aside0.mk ((by rw [hg]; exact (below_size (Hof.Lw HB.out)) : w.heap.size ≤ gb357)); have GE357 := Aside0.mk ((by rw [hg]; exact (below_size (Hof.Lw HB.out)) : w.heap.size ≤ gb357)); replace HB := Aside0.mk (below_step (Hof.Lw HB.out) hb); clear hb hbox hg) | ((with_reducible refine gate_dst (N := 3) rfl ?_); refine box_event ?hg (N := 3) ?hd (cs := #[.int .i64 a1_0, .int .i64 a1_1]) (t := 73) ?hr ?_; (case hd => rfl); (case hg => rfl); (case hr => first | (go_simp; done) | (go_simp; rfl)); intro gb358 hg w6 hbox hb; have BK358 := Aside0.mk hbox; have GW358 := Aside0.mk ((by rw [hg]; exact (below_size (Hof.Lw HB.out)) : w.heap.size ≤ gb358)); have GE358 := Aside0.mk ((by rw [hg]; exact (below_size (Hof.Lw HB.out)) : w.heap.size ≤ gb358)); replace HB := Aside0.mk (below_step (Hof.Lw HB.out) hb); have NB357_358 := Aside0.mk ((by rw [hg]; exact Nat.ne_of_lt (blk_lt (g := gb357) (o := .cells #[.int .i64 a0_0, .int .i64 a0_1] 73 (0, 0)) (Hof.Bw BK357.out)) : gb357 ≠ gb358)); have NB358_357 := Aside0.mk ((by rw [hg]; exact Nat.ne_of_gt (blk_lt (g := gb357) (o := .cells #[.int .i64 a0_0, .int .i64 a0_1] 73 (0, 0)) (Hof.Bw BK357.out)) : gb358 ≠ gb357)); replace BK357 := Aside0.mk (blk_below (Hof.Bw BK357.out) hb); clear hb hbox hg; have hnb7 := NB357_358.out; have hnc7 := NB358_357.out; obtain ⟨hcz8_0, hcz8_1, hfz8_0, hfz8_1⟩ := Hof.blk2 BK357.out; obtain ⟨hcz9_0, hcz9_1, hfz9_0, hfz9_1⟩ := Hof.blk2 BK358.out))
   go_ret
   exact ⟨by first | rfl | (simp [errW_none, errW_some] <;> rfl) | (simp [*, errW_none, errW_some] <;> rfl), by repeat (first | (with_reducible first | exact HB.out | apply below_alloc | apply pw_below_drewN | apply below_drew1 | refine below_set ?_ GE357.out | refine below_set ?_ GE358.out) | exact HB.out)⟩
  ·rw [if_neg c4] at H
   have c4b0 : (a0_1 == a1_1) = false := beq_eq_false_iff_ne.mpr c4
   have c4b1 : (a0_1 != a1_1) = true := bne_iff_ne.mpr c4
   obtain rfl := Option.some.inj H
   go_enter Try.func66, Try.ntmps66
   go_wp2_with (first | ((with_reducible refine gate_dst (N := 2) rfl ?_); refine box_event ?hg (N := 2) ?hd (cs := #[.int .i64 a0_0, .int .i64 a0_1]) (t := 73) ?hr ?_; (case hd => rfl); (case hg => rfl); (case hr => first | (go_simp; done) | (go_simp; rfl)); intro gb357 hg w10 hbox hb; have BK357 := Aside0.mk hbox; have GW357 := Aside0.mk ((by rw [hg]; exact (below_size (Hof.Lw HB.out)) : w.heap.size ≤ gb357)); have GE357 := Aside0.mk ((by rw [hg]; exact (below_size (Hof.Lw HB.out)) : w.heap.size ≤ gb357)); replace HB := Aside0.mk (below_step (Hof.Lw HB.out) hb); clear hb hbox hg) | ((with_reducible refine gate_dst (N := 3) rfl ?_); refine box_event ?hg (N := 3) ?hd (cs := #[.int .i64 a1_0, .int .i64 a1_1]) (t := 73) ?hr ?_; (case hd => rfl); (case hg => rfl); (case hr => first | (go_simp; done) | (go_simp; rfl)); intro gb358 hg w11 hbox hb; have BK358 := Aside0.mk hbox; have GW358 := Aside0.mk ((by rw [hg]; exact (below_size (Hof.Lw HB.out)) : w.heap.size ≤ gb358)); have GE358 := Aside0.mk ((by rw [hg]; exact (below_size (Hof.Lw HB.out)) : w.heap.size ≤ gb358)); replace HB := Aside0.mk (below_step (Hof.Lw HB.out) hb); have NB357_358 := Aside0.mk ((by rw [hg]; exact Nat.ne_of_lt (blk_lt (g := gb357) (o := .cells #[.int .i64 a0_0, .int .i64 a0_1] 73 (0, 0)) (Hof.Bw BK357.out)) : gb357 ≠ gb358)); have NB358_357 := Aside0.mk ((by rw [hg]; exact Nat.ne_of_gt (blk_lt (g := gb357) (o := .cells #[.int .i64 a0_0, .int .i64 a0_1] 73 (0, 0)) (Hof.Bw BK357.out)) : gb358 ≠ gb357)); replace BK357 := Aside0.mk (blk_below (Hof.Bw BK357.out) hb); clear hb hbox hg; have hnb12 := NB357_358.out; have hnc12 := NB358_357.out; obtain ⟨hcz13_0, hcz13_1, hfz13_0, hfz13_1⟩ := Hof.blk2 BK357.out; obtain ⟨hcz14_0, hcz14_1, hfz14_0, hfz14_1⟩ := Hof.blk2 BK358.out))
   go_ret
   exact ⟨by first | rfl | (simp [errW_none, errW_some] <;> rfl) | (simp [*, errW_none, errW_some] <;> rfl), by repeat (first | (with_reducible first | exact HB.out | apply below_alloc | apply pw_below_drewN | apply below_drew1 | refine below_set ?_ GE357.out | refine below_set ?_ GE358.out) | exact HB.out)⟩
 ·rw [if_neg c3] at H
  have c3b0 : (a0_0 == a1_0) = false := beq_eq_false_iff_ne.mpr c3
  have c3b1 : (a0_0 != a1_0) = true := bne_iff_ne.mpr c3
  obtain rfl := Option.some.inj H
  go_enter Try.func66, Try.ntmps66
  go_wp2_with (first | ((with_reducible refine gate_dst (N := 2) rfl ?_); refine box_event ?hg (N := 2) ?hd (cs := #[.int .i64 a0_0, .int .i64 a0_1]) (t := 73) ?hr ?_; (case hd => rfl); (case hg => rfl); (case hr => first | (go_simp; done) | (go_simp; rfl)); intro gb357 hg w15 hbox hb; have BK357 := Aside0.mk hbox; have GW357 := Aside0.mk ((by rw [hg]; exact (below_size (Hof.Lw HB.out)) : w.heap.size ≤ gb357)); have GE357 := Aside0.mk ((by rw [hg]; exact (below_size (Hof.Lw HB.out)) : w.heap.size ≤ gb357)); replace HB := Aside0.mk (below_step (Hof.Lw HB.out) hb); clear hb hbox hg) | ((with_reducible refine gate_dst (N := 3) rfl ?_); refine box_event ?hg (N := 3) ?hd (cs := #[.int .i64 a1_0, .int .i64 a1_1]) (t := 73) ?hr ?_; (case hd => rfl); (case hg => rfl); (case hr => first | (go_simp; done) | (go_simp; rfl)); intro gb358 hg w16 hbox hb; have BK358 := Aside0.mk hbox; have GW358 := Aside0.mk ((by rw [hg]; exact (below_size (Hof.Lw HB.out)) : w.heap.size ≤ gb358)); have GE358 := Aside0.mk ((by rw [hg]; exact (below_size (Hof.Lw HB.out)) : w.heap.size ≤ gb358)); replace HB := Aside0.mk (below_step (Hof.Lw HB.out) hb); have NB357_358 := Aside0.mk ((by rw [hg]; exact Nat.ne_of_lt (blk_lt (g := gb357) (o := .cells #[.int .i64 a0_0, .int .i64 a0_1] 73 (0, 0)) (Hof.Bw BK357.out)) : gb357 ≠ gb358)); have NB358_357 := Aside0.mk ((by rw [hg]; exact Nat.ne_of_gt (blk_lt (g := gb357) (o := .cells #[.int .i64 a0_0, .int .i64 a0_1] 73 (0, 0)) (Hof.Bw BK357.out)) : gb358 ≠ gb357)); replace BK357 := Aside0.mk (blk_below (Hof.Bw BK357.out) hb); clear hb hbox hg; have hnb17 := NB357_358.out; have hnc17 := NB358_357.out; obtain ⟨hcz18_0, hcz18_1, hfz18_0, hfz18_1⟩ := Hof.blk2 BK357.out; obtain ⟨hcz19_0, hcz19_1, hfz19_0, hfz19_1⟩ := Hof.blk2 BK358.out))
  go_ret
  exact ⟨by first | rfl | (simp [errW_none, errW_some] <;> rfl) | (simp [*, errW_none, errW_some] <;> rfl), by repeat (first | (with_reducible first | exact HB.out | apply below_alloc | apply pw_below_drewN | apply below_drew1 | refine below_set ?_ GE357.out | refine below_set ?_ GE358.out) | exact HB.out)⟩
end Go.Proofs.Ytmpodackojmojaa.Pr
end
section
namespace Go.Proofs.Ytmpodackojmojaa.Pr
open Go.RowKit Go.Proofs.YtmpodackojmojaaW.PrintWords Go.Proofs.YtmpodackojmojaaW.PrintLast Go.Proofs.YtmpodackojmojaaW.PrintMore
attribute [local go_sem] max2_int min2_int max_two min_two max_three min_three max_four min_four
set_option linter.unusedVariables false
set_option linter.unusedSimpArgs false
def laws_eqTaskS.l0 : Nat → List (S73) → List (S73) → Int → Option (Bool)
 | 0, _, _, _ => none
 | k + 1, x0, x1, x5 => if x5 < (x0.length : Int) then (if 0 ≤ x5 then (if x5 < (x1.length : Int) then ((laws_eqTask.f ((rd_T73 x0 x5).f0) ((rd_T73 x0 x5).f1) ((rd_T73 x1 x5).f0) ((rd_T73 x1 x5).f1)).bind fun t361 => (if t361 = true then (laws_eqTaskS.l0 k x0 x1 (wrap64 (x5 + 1))) else (some false))) else (none)) else (none)) else (some true)
def laws_eqTaskS.f (k : Nat) (l0 : List (S73)) (l1 : List (S73)) : Option (Bool) := if (l0.length : Int) = (l1.length : Int) then (laws_eqTaskS.l0 k l0 l1 0) else (some false)
def laws_eqTaskS.T6 : Bool × List (List Nat × List Nat) := (true, [([], []), ([], []), ([0, 1], [0, 1]), ([2], [2]), ([], []), ([], []), ([4, 5], [4, 5]), ([6], [6]), ([3, 7], [3, 7]), ([8], [8])])
def laws_eqTaskS.B6 : List Nat := [0, 0, 3, 7, 0, 0, 48, 112, 255, 511]
theorem laws_eqTaskS.tab6 : rtab .any (opsOf Try.f17 6) = laws_eqTaskS.T6 := by kernel_rfl
theorem laws_eqTaskS.bits6 : waitsOk laws_eqTaskS.T6.2 laws_eqTaskS.B6 = true := by kernel_rfl
set_option maxHeartbeats 8000000 in
set_option maxRecDepth 100000 in
theorem laws_eqTaskS.calls (k : Nat) (A0 : Option Addr) (c0 : Nat) (l0 : List (S73)) (A1 : Option Addr) (c1 : Nat) (l1 : List (S73)) (r : Bool) (w : World) (hr0 : Kd.C k73 w A0 l0.length l0) (hc0 : l0.length ≤ c0) (hr1 : Kd.C k73 w A1 l1.length l1) (hc1 : l1.length ≤ c1) (h : laws_eqTaskS.f k l0 l1 = some r) :
  Calls Try.prog 17 #[.slice A0 l0.length c0, .slice A1 l1.length c1] w fun e w' => e = .returned (.bool r) ∧ Below w.heap.size w w' := by
 have hu73 := Try.underlying73
 have HR0 := Aside0.mk hr0
 have HC0 := Aside0.mk hc0
 clear hr0 hc0
 have HR1 := Aside0.mk hr1
 have HC1 := Aside0.mk hc1
 clear hr1 hc1
 have HB := Aside0.mk (Below.refl w.heap.size w)
 have H : (if (l0.length : Int) = (l1.length : Int) then (laws_eqTaskS.l0 k l0 l1 0) else (some false)) = some r := h
 clear h
 by_cases c3 : (l0.length : Int) = (l1.length : Int)
 ·rw [if_pos c3] at H
  have c3b0 : ((l0.length : Int) == (l1.length : Int)) = true := beq_iff_eq.mpr c3
  have c3b1 : ((l0.length : Int) != (l1.length : Int)) = false := bne_eq_false_iff_eq.mpr c3
  have c3b2 : (l0.length == l1.length) = true := by first | simpa using c3 | (simp at c3 ⊢; omega)
  clear c3
  have H' := Aside0.mk H
  clear H
  go_enter Try.func17, Try.ntmps17
  go_wp2
  go_loopg [5] k (fun kq v5 w' => ∃ (x5_1 : Int), v5 = .int .i64 x5_1 ∧ Aside0 (laws_eqTaskS.l0 kq l0 l1 x5_1 = some r) ∧ Aside0 (kq ≤ k) ∧ Aside0 (Below w.heap.size w w'))
  case atStart => exact ⟨(0), (by first | rfl | (simp; done) | (simp [*]; done)), H', ⟨Nat.le_refl _⟩, ⟨Hof.Lw HB.out⟩⟩
  case round =>
   clear H'
   try clear c1
   try clear p2
   try clear c3
   try clear c3b0
   try clear c3b1
   try clear c3b2
   obtain ⟨x5_1, rfl, HA, HK1, HB⟩ := hrel
   cases gk with
   | zero => exact absurd HA.out (by simp [laws_eqTaskS.l0])
   | succ k1 =>
    have H := HA.out
    clear HA
    simp only [laws_eqTaskS.l0] at H
    by_cases c4 : x5_1 < (l0.length : Int)
    ·rw [if_pos c4] at H
     have c4b0 : decide (x5_1 < (l0.length : Int)) = true := decide_eq_true c4
     clear c4
     by_cases c5 : 0 ≤ x5_1
     ·rw [if_pos c5] at H
      have c5b0 : decide (0 ≤ x5_1) = true := decide_eq_true c5
      clear c5
      by_cases c6 : x5_1 < (l1.length : Int)
      ·rw [if_pos c6] at H
       have c6b0 : decide (x5_1 < (l1.length : Int)) = true := decide_eq_true c6
       clear c6
       replace H := Option.bind_eq_some_iff.mp H
       obtain ⟨t361, A70, H⟩ := H
       (try dsimp only at H)
       have A7 := Aside0.mk A70
       clear A70
       by_cases c8 : t361 = true
       ·subst c8
        have H1 : (laws_eqTaskS.l0 k1 l0 l1 (wrap64 (x5_1 + 1))) = some r := by rw [if_pos rfl] at H; exact H
        clear H
        have H := H1
        clear H1
        have H' := Aside0.mk H
        clear H
        try go_wp2
        have n0_ := Aside0.mk (below_drew1 HB.out)
        clear HB
        have HB := n0_
        clear n0_
        have p359 : 0 ≤ (x5_1 : Int) := of_decide_eq_true (by first | (with_reducible assumption) | assumption)
        have q359 : x5_1 < (l0.length : Int) := of_decide_eq_true (by first | (with_reducible assumption) | assumption)
        obtain ⟨ad359, e359, hx359_0, hx359_1⟩ := at_T73 HR0.out x5_1 p359 q359
        have hw359_1 := hx359_1
        have hw359_0 := hx359_0
        cases e359
        try replace hx359_0 := (HB.out.cell (World.block_lt_of_cell? w _ hx359_0)).trans hx359_0
        try replace hx359_1 := (HB.out.cell (World.block_lt_of_cell? w _ hx359_1)).trans hx359_1
        replace p359 := eq_true p359
        replace q359 := eq_true q359
        have p360 : 0 ≤ (x5_1 : Int) := of_decide_eq_true (by first | (with_reducible assumption) | assumption)
        have q360 : x5_1 < (l1.length : Int) := of_decide_eq_true (by first | (with_reducible assumption) | assumption)
        obtain ⟨ad360, e360, hx360_0, hx360_1⟩ := at_T73 HR1.out x5_1 p360 q360
        have hw360_1 := hx360_1
        have hw360_0 := hx360_0
        cases e360
        try replace hx360_0 := (HB.out.cell (World.block_lt_of_cell? w _ hx360_0)).trans hx360_0
        try replace hx360_1 := (HB.out.cell (World.block_lt_of_cell? w _ hx360_1)).trans hx360_1
        replace p360 := eq_true p360
        replace q360 := eq_true q360
        refine start_ (n := 10) (S := fun w' => w'.cell? (ad359.add ((x5_1).toNat * 2)) = some (.int .i64 ((rd_T73 l0 x5_1).f0)) ∧ w'.cell? ⟨(ad359.add ((x5_1).toNat * 2)).block, (ad359.add ((x5_1).toNat * 2)).off + 1, none⟩ = some (.int .i64 ((rd_T73 l0 x5_1).f1)) ∧ w'.cell? (ad360.add ((x5_1).toNat * 2)) = some (.int .i64 ((rd_T73 l1 x5_1).f0)) ∧ w'.cell? ⟨(ad360.add ((x5_1).toNat * 2)).block, (ad360.add ((x5_1).toNat * 2)).off + 1, none⟩ = some (.int .i64 ((rd_T73 l1 x5_1).f1))) (ds := []) #[false, false, false, false, false, false, false, false, false, false] (by kernel_rfl) rfl rfl ⟨((HB.out.cell (World.block_lt_of_cell? w _ hw359_0)).trans hw359_0), ((HB.out.cell (World.block_lt_of_cell? w _ hw359_1)).trans hw359_1), ((HB.out.cell (World.block_lt_of_cell? w _ hw360_0)).trans hw360_0), ((HB.out.cell (World.block_lt_of_cell? w _ hw360_1)).trans hw360_1)⟩ (fun hHeld => ?_); refine with_tabW laws_eqTaskS.tab6 laws_eqTaskS.bits6 (fun HT_ HW_ => ?_)
        generalize wr.drew = w9 at HB hx359_0 hx359_1 hx360_0 hx360_1 hHeld ⊢
        refine pure_ (i := 0) (N := some 17) (v := ?_) (a' := ?_) #[true, false, false, false, false, false, false, false, false, false] rfl rfl (any_of HT_.out (by kernel_rfl)) (fun _ _ _ h => h) (Or.inl ⟨by rfl, ?_⟩) ?_ ?_
        rotate_left
        ·intro w'
         go_simp
         with_reducible rfl
        rotate_left
        ·simp only [Act.put, List.setIfInBounds_toArray, List.set_cons_zero, List.set_cons_succ, i64_w, i32_w]
         rfl
        refine pure_ (i := 1) (N := some 18) (v := ?_) (a' := ?_) #[true, true, false, false, false, false, false, false, false, false] rfl rfl (any_of HT_.out (by kernel_rfl)) (fun _ _ _ h => h) (Or.inl ⟨by rfl, ?_⟩) ?_ ?_
        rotate_left
        ·intro w'
         go_simp
         with_reducible rfl
        rotate_left
        ·simp only [Act.put, List.setIfInBounds_toArray, List.set_cons_zero, List.set_cons_succ, i64_w, i32_w]
         rfl
        refine pure_ (i := 2) (N := some 19) (v := ?_) (a' := ?_) #[true, true, true, false, false, false, false, false, false, false] rfl rfl (any_of HT_.out (by kernel_rfl)) (fun _ _ _ h => h) (Or.inl ⟨by rfl, ?_⟩) ?_ ?_
        rotate_left
        ·intro w'
         go_simp
         with_reducible rfl
        rotate_left
        ·simp only [Act.put, List.setIfInBounds_toArray, List.set_cons_zero, List.set_cons_succ, i64_w, i32_w]
         rfl
        refine pure_ (i := 4) (N := some 21) (v := ?_) (a' := ?_) #[true, true, true, false, true, false, false, false, false, false] rfl rfl (any_of HT_.out (by kernel_rfl)) (fun _ _ _ h => h) (Or.inl ⟨by rfl, ?_⟩) ?_ ?_
        rotate_left
        ·intro w'
         go_simp
         with_reducible rfl
        rotate_left
        ·simp only [Act.put, List.setIfInBounds_toArray, List.set_cons_zero, List.set_cons_succ, i64_w, i32_w]
         rfl
        refine pure_ (i := 5) (N := some 22) (v := ?_) (a' := ?_) #[true, true, true, false, true, true, false, false, false, false] rfl rfl (any_of HT_.out (by kernel_rfl)) (fun _ _ _ h => h) (Or.inl ⟨by rfl, ?_⟩) ?_ ?_
        rotate_left
        ·intro w'
         go_simp
         with_reducible rfl
        rotate_left
        ·simp only [Act.put, List.setIfInBounds_toArray, List.set_cons_zero, List.set_cons_succ, i64_w, i32_w]
         rfl
        refine pure_ (i := 6) (N := some 23) (v := ?_) (a' := ?_) #[true, true, true, false, true, true, true, false, false, false] rfl rfl (any_of HT_.out (by kernel_rfl)) (fun _ _ _ h => h) (Or.inl ⟨by rfl, ?_⟩) ?_ ?_
        rotate_left
        ·intro w'
         go_simp
         with_reducible rfl
        rotate_left
        ·simp only [Act.put, List.setIfInBounds_toArray, List.set_cons_zero, List.set_cons_succ, i64_w, i32_w]
         rfl
        refine take_ (i := 3) (N := some 20) (v := ?_) (a' := ?_) #[true, true, true, true, true, true, true, false, false, false] rfl rfl (take_ofW HT_.out HW_.out (by kernel_rfl)) (fun _ _ _ h => h) (Or.inl ⟨by rfl, ?_⟩) hHeld ?_ ?_
        rotate_left
        ·rintro w' ⟨s0, s1, s2, s3⟩
         go_simp
         with_reducible rfl
        rotate_left
        ·simp only [Act.put, List.setIfInBounds_toArray, List.set_cons_zero, List.set_cons_succ, i64_w, i32_w]
         rfl
        refine take_ (i := 7) (N := some 24) (v := ?_) (a' := ?_) #[true, true, true, true, true, true, true, true, false, false] rfl rfl (take_ofW HT_.out HW_.out (by kernel_rfl)) (fun _ _ _ h => h) (Or.inl ⟨by rfl, ?_⟩) hHeld ?_ ?_
        rotate_left
        ·rintro w' ⟨s0, s1, s2, s3⟩
         go_simp
         with_reducible rfl
        rotate_left
        ·simp only [Act.put, List.setIfInBounds_toArray, List.set_cons_zero, List.set_cons_succ, i64_w, i32_w]
         rfl
        refine one_ (i := 8) (N := some 25) #[true, true, true, true, true, true, true, true, true, false] rfl rfl (one_of HT_.out (by kernel_rfl)) (by decide) (fun K hK => ?_)
        refine goes_ Try.func66 (by kernel_rfl) rfl #[.agg #[.int .i64 ((rd_T73 l0 x5_1).f0), .int .i64 ((rd_T73 l0 x5_1).f1)], .agg #[.int .i64 ((rd_T73 l1 x5_1).f0), .int .i64 ((rd_T73 l1 x5_1).f1)]] (by rfl) rfl rfl (by (try simp only [List.map_toArray, List.map_cons, List.map_nil]); first | done | rfl) ?_
        with_reducible refine (laws_eqTask.calls ((rd_T73 l0 x5_1).f0) ((rd_T73 l0 x5_1).f1) ((rd_T73 l1 x5_1).f0) ((rd_T73 l1 x5_1).f1) true _ A7.out).mono ?_
        rintro e w10 ⟨rfl, hb⟩
        refine ⟨_, rfl, ?_⟩
        have n0_ := Aside0.mk (below_step (Hof.Lw HB.out) hb)
        clear HB
        have HB := n0_
        clear n0_
        (try clear hb)
        (try clear hb2)
        (try clear hk)
        (try clear hi)
        refine hK.out _ _ ⟨((HB.out.cell (World.block_lt_of_cell? w _ hw359_0)).trans hw359_0), ((HB.out.cell (World.block_lt_of_cell? w _ hw359_1)).trans hw359_1), ((HB.out.cell (World.block_lt_of_cell? w _ hw360_0)).trans hw360_0), ((HB.out.cell (World.block_lt_of_cell? w _ hw360_1)).trans hw360_1)⟩ (fun hHeld => ?_)
        clear hK K
        refine norm_ (a' := ?_) ?_ ?_
        rotate_left
        ·show Act.put _ (some 25) _ = _
         simp only [Act.put, List.setIfInBounds_toArray, List.set_cons_zero, List.set_cons_succ, i64_w, i32_w]
         rfl
        refine pure_ (i := 9) (N := some 26) (v := ?_) (a' := ?_) #[true, true, true, true, true, true, true, true, true, true] rfl rfl (any_of HT_.out (by kernel_rfl)) (fun _ _ _ h => h) (Or.inl ⟨by rfl, ?_⟩) ?_ ?_
        rotate_left
        ·intro w'
         go_simp
         with_reducible rfl
        rotate_left
        ·simp only [Act.put, List.setIfInBounds_toArray, List.set_cons_zero, List.set_cons_succ, i64_w, i32_w]
         rfl
        refine done_ (done_of HT_.out (by kernel_rfl)) ?_
        try go_wp2
        go_roundg k1
        case measure => have := HK1.out; omega
        case rel => exact ⟨(wrap64 (x5_1 + 1)), (by first | rfl | (simp; done) | (simp [*]; done)), H', ⟨by have := HK1.out; omega⟩, ⟨Hof.Lw HB.out⟩⟩
       ·replace c8 := Bool.eq_false_iff.mpr c8
        subst c8
        have H1 : (some false) = some r := by rw [if_neg (show ¬ (false = true) by decide)] at H; exact H
        clear H
        have H := H1
        clear H1
        obtain rfl := Option.some.inj H
        try go_wp2
        have n0_ := Aside0.mk (below_drew1 HB.out)
        clear HB
        have HB := n0_
        clear n0_
        have p359 : 0 ≤ (x5_1 : Int) := of_decide_eq_true (by first | (with_reducible assumption) | assumption)
        have q359 : x5_1 < (l0.length : Int) := of_decide_eq_true (by first | (with_reducible assumption) | assumption)
        obtain ⟨ad359, e359, hx359_0, hx359_1⟩ := at_T73 HR0.out x5_1 p359 q359
        have hw359_1 := hx359_1
        have hw359_0 := hx359_0
        cases e359
        try replace hx359_0 := (HB.out.cell (World.block_lt_of_cell? w _ hx359_0)).trans hx359_0
        try replace hx359_1 := (HB.out.cell (World.block_lt_of_cell? w _ hx359_1)).trans hx359_1
        replace p359 := eq_true p359
        replace q359 := eq_true q359
        have p360 : 0 ≤ (x5_1 : Int) := of_decide_eq_true (by first | (with_reducible assumption) | assumption)
        have q360 : x5_1 < (l1.length : Int) := of_decide_eq_true (by first | (with_reducible assumption) | assumption)
        obtain ⟨ad360, e360, hx360_0, hx360_1⟩ := at_T73 HR1.out x5_1 p360 q360
        have hw360_1 := hx360_1
        have hw360_0 := hx360_0
        cases e360
        try replace hx360_0 := (HB.out.cell (World.block_lt_of_cell? w _ hx360_0)).trans hx360_0
        try replace hx360_1 := (HB.out.cell (World.block_lt_of_cell? w _ hx360_1)).trans hx360_1
        replace p360 := eq_true p360
        replace q360 := eq_true q360
        refine start_ (n := 10) (S := fun w' => w'.cell? (ad359.add ((x5_1).toNat * 2)) = some (.int .i64 ((rd_T73 l0 x5_1).f0)) ∧ w'.cell? ⟨(ad359.add ((x5_1).toNat * 2)).block, (ad359.add ((x5_1).toNat * 2)).off + 1, none⟩ = some (.int .i64 ((rd_T73 l0 x5_1).f1)) ∧ w'.cell? (ad360.add ((x5_1).toNat * 2)) = some (.int .i64 ((rd_T73 l1 x5_1).f0)) ∧ w'.cell? ⟨(ad360.add ((x5_1).toNat * 2)).block, (ad360.add ((x5_1).toNat * 2)).off + 1, none⟩ = some (.int .i64 ((rd_T73 l1 x5_1).f1))) (ds := []) #[false, false, false, false, false, false, false, false, false, false] (by kernel_rfl) rfl rfl ⟨((HB.out.cell (World.block_lt_of_cell? w _ hw359_0)).trans hw359_0), ((HB.out.cell (World.block_lt_of_cell? w _ hw359_1)).trans hw359_1), ((HB.out.cell (World.block_lt_of_cell? w _ hw360_0)).trans hw360_0), ((HB.out.cell (World.block_lt_of_cell? w _ hw360_1)).trans hw360_1)⟩ (fun hHeld => ?_); refine with_tabW laws_eqTaskS.tab6 laws_eqTaskS.bits6 (fun HT_ HW_ => ?_)
        generalize wr.drew = w11 at HB hx359_0 hx359_1 hx360_0 hx360_1 hHeld ⊢
        refine pure_ (i := 0) (N := some 17) (v := ?_) (a' := ?_) #[true, false, false, false, false, false, false, false, false, false] rfl rfl (any_of HT_.out (by kernel_rfl)) (fun _ _ _ h => h) (Or.inl ⟨by rfl, ?_⟩) ?_ ?_
        rotate_left
        ·intro w'
         go_simp
         with_reducible rfl
        rotate_left
        ·simp only [Act.put, List.setIfInBounds_toArray, List.set_cons_zero, List.set_cons_succ, i64_w, i32_w]
         rfl
        refine pure_ (i := 1) (N := some 18) (v := ?_) (a' := ?_) #[true, true, false, false, false, false, false, false, false, false] rfl rfl (any_of HT_.out (by kernel_rfl)) (fun _ _ _ h => h) (Or.inl ⟨by rfl, ?_⟩) ?_ ?_
        rotate_left
        ·intro w'
         go_simp
         with_reducible rfl
        rotate_left
        ·simp only [Act.put, List.setIfInBounds_toArray, List.set_cons_zero, List.set_cons_succ, i64_w, i32_w]
         rfl
        refine pure_ (i := 2) (N := some 19) (v := ?_) (a' := ?_) #[true, true, true, false, false, false, false, false, false, false] rfl rfl (any_of HT_.out (by kernel_rfl)) (fun _ _ _ h => h) (Or.inl ⟨by rfl, ?_⟩) ?_ ?_
        rotate_left
        ·intro w'
         go_simp
         with_reducible rfl
        rotate_left
        ·simp only [Act.put, List.setIfInBounds_toArray, List.set_cons_zero, List.set_cons_succ, i64_w, i32_w]
         rfl
        refine pure_ (i := 4) (N := some 21) (v := ?_) (a' := ?_) #[true, true, true, false, true, false, false, false, false, false] rfl rfl (any_of HT_.out (by kernel_rfl)) (fun _ _ _ h => h) (Or.inl ⟨by rfl, ?_⟩) ?_ ?_
        rotate_left
        ·intro w'
         go_simp
         with_reducible rfl
        rotate_left
        ·simp only [Act.put, List.setIfInBounds_toArray, List.set_cons_zero, List.set_cons_succ, i64_w, i32_w]
         rfl
        refine pure_ (i := 5) (N := some 22) (v := ?_) (a' := ?_) #[true, true, true, false, true, true, false, false, false, false] rfl rfl (any_of HT_.out (by kernel_rfl)) (fun _ _ _ h => h) (Or.inl ⟨by rfl, ?_⟩) ?_ ?_
        rotate_left
        ·intro w'
         go_simp
         with_reducible rfl
        rotate_left
        ·simp only [Act.put, List.setIfInBounds_toArray, List.set_cons_zero, List.set_cons_succ, i64_w, i32_w]
         rfl
        refine pure_ (i := 6) (N := some 23) (v := ?_) (a' := ?_) #[true, true, true, false, true, true, true, false, false, false] rfl rfl (any_of HT_.out (by kernel_rfl)) (fun _ _ _ h => h) (Or.inl ⟨by rfl, ?_⟩) ?_ ?_
        rotate_left
        ·intro w'
         go_simp
         with_reducible rfl
        rotate_left
        ·simp only [Act.put, List.setIfInBounds_toArray, List.set_cons_zero, List.set_cons_succ, i64_w, i32_w]
         rfl
        refine take_ (i := 3) (N := some 20) (v := ?_) (a' := ?_) #[true, true, true, true, true, true, true, false, false, false] rfl rfl (take_ofW HT_.out HW_.out (by kernel_rfl)) (fun _ _ _ h => h) (Or.inl ⟨by rfl, ?_⟩) hHeld ?_ ?_
        rotate_left
        ·rintro w' ⟨s0, s1, s2, s3⟩
         go_simp
         with_reducible rfl
        rotate_left
        ·simp only [Act.put, List.setIfInBounds_toArray, List.set_cons_zero, List.set_cons_succ, i64_w, i32_w]
         rfl
        refine take_ (i := 7) (N := some 24) (v := ?_) (a' := ?_) #[true, true, true, true, true, true, true, true, false, false] rfl rfl (take_ofW HT_.out HW_.out (by kernel_rfl)) (fun _ _ _ h => h) (Or.inl ⟨by rfl, ?_⟩) hHeld ?_ ?_
        rotate_left
        ·rintro w' ⟨s0, s1, s2, s3⟩
         go_simp
         with_reducible rfl
        rotate_left
        ·simp only [Act.put, List.setIfInBounds_toArray, List.set_cons_zero, List.set_cons_succ, i64_w, i32_w]
         rfl
        refine one_ (i := 8) (N := some 25) #[true, true, true, true, true, true, true, true, true, false] rfl rfl (one_of HT_.out (by kernel_rfl)) (by decide) (fun K hK => ?_)
        refine goes_ Try.func66 (by kernel_rfl) rfl #[.agg #[.int .i64 ((rd_T73 l0 x5_1).f0), .int .i64 ((rd_T73 l0 x5_1).f1)], .agg #[.int .i64 ((rd_T73 l1 x5_1).f0), .int .i64 ((rd_T73 l1 x5_1).f1)]] (by rfl) rfl rfl (by (try simp only [List.map_toArray, List.map_cons, List.map_nil]); first | done | rfl) ?_
        with_reducible refine (laws_eqTask.calls ((rd_T73 l0 x5_1).f0) ((rd_T73 l0 x5_1).f1) ((rd_T73 l1 x5_1).f0) ((rd_T73 l1 x5_1).f1) false _ A7.out).mono ?_
        rintro e w12 ⟨rfl, hb⟩
        refine ⟨_, rfl, ?_⟩
        have n0_ := Aside0.mk (below_step (Hof.Lw HB.out) hb)
        clear HB
        have HB := n0_
        clear n0_
        (try clear hb)
        (try clear hb2)
        (try clear hk)
        (try clear hi)
        refine hK.out _ _ ⟨((HB.out.cell (World.block_lt_of_cell? w _ hw359_0)).trans hw359_0), ((HB.out.cell (World.block_lt_of_cell? w _ hw359_1)).trans hw359_1), ((HB.out.cell (World.block_lt_of_cell? w _ hw360_0)).trans hw360_0), ((HB.out.cell (World.block_lt_of_cell? w _ hw360_1)).trans hw360_1)⟩ (fun hHeld => ?_)
        clear hK K
        refine norm_ (a' := ?_) ?_ ?_
        rotate_left
        ·show Act.put _ (some 25) _ = _
         simp only [Act.put, List.setIfInBounds_toArray, List.set_cons_zero, List.set_cons_succ, i64_w, i32_w]
         rfl
        refine pure_ (i := 9) (N := some 26) (v := ?_) (a' := ?_) #[true, true, true, true, true, true, true, true, true, true] rfl rfl (any_of HT_.out (by kernel_rfl)) (fun _ _ _ h => h) (Or.inl ⟨by rfl, ?_⟩) ?_ ?_
        rotate_left
        ·intro w'
         go_simp
         with_reducible rfl
        rotate_left
        ·simp only [Act.put, List.setIfInBounds_toArray, List.set_cons_zero, List.set_cons_succ, i64_w, i32_w]
         rfl
        refine done_ (done_of HT_.out (by kernel_rfl)) ?_
        try go_wp2
        go_ret
        exact ⟨by first | rfl | (simp [errW_none, errW_some] <;> rfl) | (simp [*, errW_none, errW_some] <;> rfl), by repeat (first | (with_reducible first | exact HB.out | apply below_alloc | apply pw_below_drewN | apply below_drew1) | exact HB.out)⟩
      ·rw [if_neg c6] at H
       exact absurd H (by simp)
     ·rw [if_neg c5] at H
      exact absurd H (by simp)
    ·rw [if_neg c4] at H
     have c4b0 : decide (x5_1 < (l0.length : Int)) = false := decide_eq_false c4
     clear c4
     obtain rfl := Option.some.inj H
     go_wp2
     go_ret
     exact ⟨by first | rfl | (simp [errW_none, errW_some] <;> rfl) | (simp [*, errW_none, errW_some] <;> rfl), by repeat (first | (with_reducible first | exact HB.out | apply below_alloc | apply pw_below_drewN | apply below_drew1) | exact HB.out)⟩
 ·rw [if_neg c3] at H
  have c3b0 : ((l0.length : Int) == (l1.length : Int)) = false := beq_eq_false_iff_ne.mpr c3
  have c3b1 : ((l0.length : Int) != (l1.length : Int)) = true := bne_iff_ne.mpr c3
  have c3b2 : (l0.length == l1.length) = false := by first | simpa using c3 | (simp at c3 ⊢; omega)
  obtain rfl := Option.some.inj H
  go_enter Try.func17, Try.ntmps17
  go_wp2
  go_ret
  exact ⟨by first | rfl | (simp [errW_none, errW_some] <;> rfl) | (simp [*, errW_none, errW_some] <;> rfl), by repeat (first | (with_reducible first | exact HB.out | apply below_alloc | apply pw_below_drewN | apply below_drew1) | exact HB.out)⟩
end Go.Proofs.Ytmpodackojmojaa.Pr
end
section
namespace Go.Proofs.Ytmpodackojmojaa.Pr
open Go.RowKit Go.Proofs.YtmpodackojmojaaW.PrintWords Go.Proofs.YtmpodackojmojaaW.PrintLast Go.Proofs.YtmpodackojmojaaW.PrintMore
attribute [local go_sem] max2_int min2_int max_two min_two max_three min_three max_four min_four
set_option linter.unusedVariables false
set_option linter.unusedSimpArgs false
def laws_markTaskS.l0 : Nat → List (S73) → Int → Int → Option (Int × (List (S73)))
 | 0, _, _, _ => none
 | k + 1, x0, x1, x5 => if x5 < (x0.length : Int) then (if 0 ≤ x5 then ((some (x0.set (x5 : Int).toNat (⟨x1, (rd_T73 x0 x5).f1⟩ : S73) : List (S73))).bind fun y362 => (laws_markTaskS.l0 k (y362.set (x5 : Int).toNat (⟨(rd_T73 y362 x5).f0, wrap64 (x1 + 1)⟩ : S73)) (wrap64 ((wrap64 (x1 + 1)) + 1)) (wrap64 (x5 + 1)))) else (none)) else (some (x1, x0))
def laws_markTaskS.f (k : Nat) (l0 : List (S73)) (a1 : Int) : Option (Int × (List (S73))) := laws_markTaskS.l0 k l0 a1 0
set_option maxHeartbeats 8000000 in
set_option maxRecDepth 100000 in
theorem laws_markTaskS.calls (k : Nat) (P0_ : Nat → Prop) (u9000_ : Value) (l0 : List (S73)) (a1 : Int) (r1 : Int) (r2 : List (S73)) (w0 w : World) (hB : Below w0.heap.size w0 w) (ho0 : Kd.R k73 73 w w0.heap.size P0_ u9000_ l0) (h : laws_markTaskS.f k l0 a1 = some (r1, r2)) :
  Calls Try.prog 18 #[u9000_, .int .i64 a1] w fun e w' => e = .returned (.int .i64 r1) ∧ Kd.R k73 73 w' w0.heap.size (fun k_ => (P0_ k_ ∨ w.heap.size ≤ k_)) u9000_ r2 ∧ Below w0.heap.size w0 w' ∧ Kept w w' (fun k_ => P0_ k_) := by
 have HO0 := Aside0.mk (show Kd.R k73 73 w w0.heap.size (fun k_ => (P0_ k_ ∨ w.heap.size ≤ k_)) u9000_ l0 from Kd.R_mono ho0 (fun k_ hk => (.inl hk)))
 have HK := Aside0.mk (Kept.refl w (fun k_ => P0_ k_))
 have HW0 := Aside0.mk hB.size
 have HB := Aside0.mk hB
 clear hB
 have H : (laws_markTaskS.l0 k l0 a1 0) = some (r1, r2) := h
 clear h
 have H' := Aside0.mk H
 clear H
 go_enter Try.func18, Try.ntmps18
 go_wp2
 go_loopg [1, 5] k (fun kq v1 v5 w' => ∃ (x0_1 : List (S73)) (x1_1 : Int) (x5_1 : Int), v1 = .int .i64 x1_1 ∧ v5 = .int .i64 x5_1 ∧ Aside0 (laws_markTaskS.l0 kq x0_1 x1_1 x5_1 = some (r1, r2)) ∧ Aside0 (kq ≤ k) ∧ Aside0 (Kd.R k73 73 w' w0.heap.size (fun k_ => (P0_ k_ ∨ w.heap.size ≤ k_)) u9000_ x0_1) ∧ Aside0 (Kept w w' (fun k_ => P0_ k_)) ∧ Aside0 (Below w0.heap.size w0 w'))
 case atStart => exact ⟨(l0), (a1), (0), (by first | rfl | (simp; done) | (simp [*]; done)), (by first | rfl | (simp; done) | (simp [*]; done)), H', ⟨Nat.le_refl _⟩, ⟨Hof.Rw HO0.out⟩, ⟨by repeat (first | (with_reducible first | exact HK.out | apply Kept.alloc | apply Kept.drewN | apply Kept.drew) | exact HK.out)⟩, ⟨Hof.Lw HB.out⟩⟩
 case round =>
  clear H'
  try clear c1
  try clear p2
  obtain ⟨x0_1, x1_1, x5_1, rfl, rfl, HA, HK1, HO_0, HK, HB⟩ := hrel
  cases gk with
  | zero => exact absurd HA.out (by simp [laws_markTaskS.l0])
  | succ k1 =>
   have H := HA.out
   clear HA
   simp only [laws_markTaskS.l0] at H
   by_cases c3 : x5_1 < (x0_1.length : Int)
   ·rw [if_pos c3] at H
    have c3b0 : decide (x5_1 < (x0_1.length : Int)) = true := decide_eq_true c3
    clear c3
    by_cases c4 : 0 ≤ x5_1
    ·rw [if_pos c4] at H
     have c4b0 : decide (0 ≤ x5_1) = true := decide_eq_true c4
     clear c4
     obtain ⟨y362, hy362⟩ : ∃ y_ : List (S73), y_ = (x0_1.set (x5_1 : Int).toNat (⟨x1_1, (rd_T73 x0_1 x5_1).f1⟩ : S73)) := ⟨_, rfl⟩
     replace H : (laws_markTaskS.l0 k1 (y362.set (x5_1 : Int).toNat (⟨(rd_T73 y362 x5_1).f0, wrap64 (x1_1 + 1)⟩ : S73)) (wrap64 ((wrap64 (x1_1 + 1)) + 1)) (wrap64 (x5_1 + 1))) = some (r1, r2) := by first | (rw [hy362]; with_reducible exact H) | (have H2_ := (Option.bind_some _ _).symm.trans H; rw [hy362]; with_reducible exact H2_) | (have H2_ := (Option.bind_some _ _).symm.trans H; with_reducible exact H2_) | with_reducible exact H | (rw [hy362]; exact H) | exact H
     have Ny362 := Aside0.mk hy362
     clear hy362
     obtain ⟨y363, hy363⟩ : ∃ y_ : List (S73), y_ = (y362.set (x5_1 : Int).toNat (⟨(rd_T73 y362 x5_1).f0, wrap64 (x1_1 + 1)⟩ : S73)) := ⟨_, rfl⟩
     replace H : (laws_markTaskS.l0 k1 y363 (wrap64 ((wrap64 (x1_1 + 1)) + 1)) (wrap64 (x5_1 + 1))) = some (r1, r2) := by first | (rw [hy363]; with_reducible exact H) | (have H2_ := (Option.bind_some _ _).symm.trans H; rw [hy363]; with_reducible exact H2_) | (have H2_ := (Option.bind_some _ _).symm.trans H; with_reducible exact H2_) | with_reducible exact H | (rw [hy363]; exact H) | exact H
     have Ny363 := Aside0.mk hy363
     clear hy363
     have H' := Aside0.mk H
     clear H
     obtain ⟨Ao7, co7, eo7⟩ := Kd.R_slice HO_0.out
     subst eo7
     have p5 : 0 ≤ (x5_1 : Int) := of_decide_eq_true (by first | (with_reducible assumption) | assumption)
     have q5 : (x5_1 : Int) < ((x0_1.length : Int) : Int) := of_decide_eq_true (by first | (with_reducible assumption) | assumption)
     obtain ⟨go5, co5, eo5, gb5, gl5, cl5, HG5⟩ := Kd.R_form HO_0.out (by omega)
     (first | cases eo5 | (injection eo5 with ea_ en_ ec_; (first | subst ea_ | (injection ea_ with ea_; subst ea_)); subst ec_; clear en_))
     have GB5 := Aside0.mk gb5
     have GG5 := Aside0.mk HG5
     clear gb5 gl5 HG5
     have HMgo5 := Aside0.mk (show (P0_ go5 ∨ w.heap.size ≤ go5) from (HO_0.out.1 _ rfl))
     obtain ⟨ce5, hcl5, hM5, hcc5, hfr5⟩ := Kd.R_elem HO_0.out z73 (x5_1 : Int) p5 q5
     obtain rfl := k73_openM hM5
     have hx5_0 : wr.cell? ⟨go5, (x5_1 : Int).toNat * 2, none⟩ = some (.int .i64 ((rd_T73 x0_1 x5_1).f0)) := hcc5 0 _ rfl
     have hx5_1 : wr.cell? ⟨go5, (x5_1 : Int).toNat * 2 + 1, none⟩ = some (.int .i64 ((rd_T73 x0_1 x5_1).f1)) := hcc5 1 _ rfl
     have hf5_0 : wr.frozen? ⟨go5, (x5_1 : Int).toNat * 2, none⟩ = false := hfr5 0
     have hf5_1 : wr.frozen? ⟨go5, (x5_1 : Int).toNat * 2 + 1, none⟩ = false := hfr5 1
     clear hcl5 hcc5 hfr5 hM5
     replace p5 := eq_true p5
     replace q5 := eq_true q5
     have HX8 := Aside0.mk (show Kd.R k73 73 wr w0.heap.size (fun k_ => (P0_ k_ ∨ w.heap.size ≤ k_)) (.slice (some ⟨go5, 0, none⟩) x0_1.length co7) x0_1 from (Hof.Rw HO_0.out))
     obtain ⟨ce8, hcl8, hM8, hcc8, hfr8⟩ := Kd.R_elem HX8.out z73 (x5_1 : Int) (of_decide_eq_true (by first | (with_reducible assumption) | assumption)) (by have h_ : (x5_1 : Int) < ((x0_1.length : Int) : Int) := of_decide_eq_true (by first | (with_reducible assumption) | assumption); first | exact h_ | (have e_ := (Kd.R_reads' HO_0.out).1; omega) | simpa using h_)
     obtain rfl := k73_openM hM8
     have HP8 := Kd.R_seg HX8.out (x5_1 : Int) (of_decide_eq_true (by first | (with_reducible assumption) | assumption)) (by have h_ : (x5_1 : Int) < ((x0_1.length : Int) : Int) := of_decide_eq_true (by first | (with_reducible assumption) | assumption); first | exact h_ | (have e_ := (Kd.R_reads' HO_0.out).1; omega) | simpa using h_) (seg := [.int .i64 x1_1]) (j := 0) hcl8 hcc8 (show 1 ≤ 2 from by decide) (x' := (⟨x1_1, (rd_T73 x0_1 x5_1).f1⟩ : S73)) (k73_mkM _ _ _ (⟨x1_1, (rd_T73 x0_1 x5_1).f1⟩ : S73) ) (fun _ hk => hk)
     have hx8_0 := hcc8 0 _ rfl
     (try simp only [show (k73).sz = 2 from rfl, Nat.mul_one, Nat.add_zero] at hx8_0)
     have hf8_0 := hfr8 0
     (try simp only [show (k73).sz = 2 from rfl, Nat.mul_one, Nat.add_zero] at hf8_0)
     clear hcl8 hcc8 hfr8 hM8
     go_wp2_with (first | ((with_reducible refine gate_store (t := 3) (p := 16) rfl ?_); refine store_event (t := 3) (p := 16) (v := ?vo_w9) (w1 := (wr.setCell ⟨go5, (x5_1 : Int).toNat * 2, none⟩ (.int .i64 x1_1))) ?hg ?ho ?hn ?hr ?_; (case ho => rfl); (case hg => rfl); (case hn => rfl); (case hr => first | (go_simp; done) | (go_simp; rfl)); intro w9 hw; have hg : wr.grownBy w9 (some go5) := (by rw [hw]; exact HP8.2); have hp_ : Kd.R k73 73 w9 w0.heap.size (fun k_ => (P0_ k_ ∨ w.heap.size ≤ k_)) (.slice (some ⟨go5, 0, none⟩) x0_1.length co7) y362 := (by rw [hw, Ny362.out]; exact HP8.1); clear HP8; replace HB := Aside0.mk ((by rw [hw]; exact below_set (HB.out) GB5.out : Below w0.heap.size w0 w9)); replace HK := Aside0.mk (Kept.of_grown (S := (fun k_ => P0_ k_)) hg (by repeat (first | (with_reducible first | exact HK.out | apply Kept.alloc | apply Kept.drewN | apply Kept.drew) | exact HK.out)) (fun k_ e_ => (HO_0.out.1 k_ e_))); replace HO_0 := Aside0.mk hp_; clear hg hw hp_; have p6 : 0 ≤ (x5_1 : Int) := of_decide_eq_true (by first | (with_reducible assumption) | assumption); have q6 : (x5_1 : Int) < ((x0_1.length : Int) : Int) := of_decide_eq_true (by first | (with_reducible assumption) | assumption); obtain ⟨ce6, hcl6, hM6, hcc6, hfr6⟩ := Kd.R_elem HO_0.out z73 (x5_1 : Int) p6 q6; obtain rfl := k73_openM hM6; have hx6_0 : w9.cell? ⟨go5, (x5_1 : Int).toNat * 2, none⟩ = some (.int .i64 ((rd_T73 y362 x5_1).f0)) := hcc6 0 _ rfl; have hx6_1 : w9.cell? ⟨go5, (x5_1 : Int).toNat * 2 + 1, none⟩ = some (.int .i64 ((rd_T73 y362 x5_1).f1)) := hcc6 1 _ rfl; have hf6_0 : w9.frozen? ⟨go5, (x5_1 : Int).toNat * 2, none⟩ = false := hfr6 0; have hf6_1 : w9.frozen? ⟨go5, (x5_1 : Int).toNat * 2 + 1, none⟩ = false := hfr6 1; clear hcl6 hcc6 hfr6; (try clear hM6); replace p6 := eq_true p6; replace q6 := eq_true q6; have HX10 := Aside0.mk (show Kd.R k73 73 w9 w0.heap.size (fun k_ => (P0_ k_ ∨ w.heap.size ≤ k_)) (.slice (some ⟨go5, 0, none⟩) x0_1.length co7) y362 from (Hof.Rw HO_0.out)); obtain ⟨ce10, hcl10, hM10, hcc10, hfr10⟩ := Kd.R_elem HX10.out z73 (x5_1 : Int) (of_decide_eq_true (by first | (with_reducible assumption) | assumption)) (by have h_ : (x5_1 : Int) < ((x0_1.length : Int) : Int) := of_decide_eq_true (by first | (with_reducible assumption) | assumption); first | exact h_ | (have e_ := (Kd.R_reads' HO_0.out).1; omega) | simpa using h_); obtain rfl := k73_openM hM10; have HP10 := Kd.R_seg HX10.out (x5_1 : Int) (of_decide_eq_true (by first | (with_reducible assumption) | assumption)) (by have h_ : (x5_1 : Int) < ((x0_1.length : Int) : Int) := of_decide_eq_true (by first | (with_reducible assumption) | assumption); first | exact h_ | (have e_ := (Kd.R_reads' HO_0.out).1; omega) | simpa using h_) (seg := [.int .i64 (wrap64 (x1_1 + 1))]) (j := 1) hcl10 hcc10 (show 2 ≤ 2 from by decide) (x' := (⟨(rd_T73 y362 x5_1).f0, wrap64 (x1_1 + 1)⟩ : S73)) (k73_mkM _ _ _ (⟨(rd_T73 y362 x5_1).f0, wrap64 (x1_1 + 1)⟩ : S73) ) (fun _ hk => hk); have hx10_1 := hcc10 1 _ rfl; (try simp only [show (k73).sz = 2 from rfl, Nat.mul_one, Nat.add_zero] at hx10_1); have hf10_1 := hfr10 1; (try simp only [show (k73).sz = 2 from rfl, Nat.mul_one, Nat.add_zero] at hf10_1); clear hcl10 hcc10 hfr10 hM10) | ((with_reducible refine gate_store (t := 3) (p := 23) rfl ?_); refine store_event (t := 3) (p := 23) (v := ?vo_w11) (w1 := (w9.setCell ⟨go5, (x5_1 : Int).toNat * 2 + 1, none⟩ (.int .i64 (wrap64 (x1_1 + 1))))) ?hg ?ho ?hn ?hr ?_; (case ho => rfl); (case hg => rfl); (case hn => rfl); (case hr => first | (go_simp; done) | (go_simp; rfl)); intro w11 hw; have hg : w9.grownBy w11 (some go5) := (by rw [hw]; exact HP10.2); have hp_ : Kd.R k73 73 w11 w0.heap.size (fun k_ => (P0_ k_ ∨ w.heap.size ≤ k_)) (.slice (some ⟨go5, 0, none⟩) x0_1.length co7) y363 := (by rw [hw, Ny363.out]; exact HP10.1); clear HP10; replace HB := Aside0.mk ((by rw [hw]; exact below_set (HB.out) GB5.out : Below w0.heap.size w0 w11)); replace HK := Aside0.mk (Kept.of_grown (S := (fun k_ => P0_ k_)) hg (by repeat (first | (with_reducible first | exact HK.out | apply Kept.alloc | apply Kept.drewN | apply Kept.drew) | exact HK.out)) (fun k_ e_ => (HO_0.out.1 k_ e_))); replace HO_0 := Aside0.mk hp_; clear hg hw hp_))
     go_roundg k1
     case measure => have := HK1.out; omega
     case rel => exact ⟨(y363), (wrap64 ((wrap64 (x1_1 + 1)) + 1)), (wrap64 (x5_1 + 1)), (by first | rfl | (simp; done) | (simp [*]; done)), (by first | rfl | (simp; done) | (simp [*]; done)), H', ⟨by have := HK1.out; omega⟩, ⟨Hof.Rw HO_0.out⟩, ⟨by repeat (first | (with_reducible first | exact HK.out | apply Kept.alloc | apply Kept.drewN | apply Kept.drew) | exact HK.out)⟩, ⟨Hof.Lw HB.out⟩⟩
    ·rw [if_neg c4] at H
     exact absurd H (by simp)
   ·rw [if_neg c3] at H
    have c3b0 : decide (x5_1 < (x0_1.length : Int)) = false := decide_eq_false c3
    clear c3
    simp only [Option.some.injEq, Prod.mk.injEq] at H
    obtain ⟨rfl, rfl⟩ := H
    obtain ⟨Ao12, co12, eo12⟩ := Kd.R_slice HO_0.out
    subst eo12
    go_wp2
    go_ret
    exact ⟨by first | rfl | (simp [errW_none, errW_some] <;> rfl) | (simp [*, errW_none, errW_some] <;> rfl), by (with_reducible repeat (first | apply Kd.R_alloc | apply Kd.R_drewN | apply Kd.R_drew)); exact HO_0.out, by repeat (first | (with_reducible first | exact HB.out | apply below_alloc | apply pw_below_drewN | apply below_drew1) | exact HB.out), by repeat (first | (with_reducible first | exact HK.out | apply Kept.alloc | apply Kept.drewN | apply Kept.drew) | exact HK.out)⟩
end Go.Proofs.Ytmpodackojmojaa.Pr
end
section
namespace Go.Proofs.Ytmpodackojmojaa.Pr
open Go.RowKit Go.Proofs.YtmpodackojmojaaW.PrintWords Go.Proofs.YtmpodackojmojaaW.PrintLast Go.Proofs.YtmpodackojmojaaW.PrintMore
attribute [local go_sem] max2_int min2_int max_two min_two max_three min_three max_four min_four
set_option linter.unusedVariables false
set_option linter.unusedSimpArgs false
def laws_markIntS.l0 : Nat → List Int → Int → Int → Option (Int × List Int)
 | 0, _, _, _ => none
 | k + 1, x0, x1, x5 => if x5 < (x0.length : Int) then (if 0 ≤ x5 then (laws_markIntS.l0 k (x0.set (x5 : Int).toNat x1) (wrap64 (x1 + 1)) (wrap64 (x5 + 1))) else (none)) else (some (x1, x0))
def laws_markIntS.f (k : Nat) (l0 : List Int) (a1 : Int) : Option (Int × List Int) := laws_markIntS.l0 k l0 a1 0
set_option maxHeartbeats 8000000 in
set_option maxRecDepth 100000 in
theorem laws_markIntS.calls (k : Nat) (P0_ : Nat → Prop) (u9000_ : Value) (l0 : List Int) (a1 : Int) (r1 : Int) (r2 : List Int) (w0 w : World) (hB : Below w0.heap.size w0 w) (ho0 : Kd.R (Kd.int .i64) 3 w w0.heap.size P0_ u9000_ l0) (h : laws_markIntS.f k l0 a1 = some (r1, r2)) :
  Calls Try.prog 19 #[u9000_, .int .i64 a1] w fun e w' => e = .returned (.int .i64 r1) ∧ Kd.R (Kd.int .i64) 3 w' w0.heap.size (fun k_ => (P0_ k_ ∨ w.heap.size ≤ k_)) u9000_ r2 ∧ Below w0.heap.size w0 w' ∧ Kept w w' (fun k_ => P0_ k_) := by
 have HO0 := Aside0.mk (show Kd.R (Kd.int .i64) 3 w w0.heap.size (fun k_ => (P0_ k_ ∨ w.heap.size ≤ k_)) u9000_ l0 from Kd.R_mono ho0 (fun k_ hk => (.inl hk)))
 have HK := Aside0.mk (Kept.refl w (fun k_ => P0_ k_))
 have HW0 := Aside0.mk hB.size
 have HB := Aside0.mk hB
 clear hB
 have H : (laws_markIntS.l0 k l0 a1 0) = some (r1, r2) := h
 clear h
 have H' := Aside0.mk H
 clear H
 go_enter Try.func19, Try.ntmps19
 go_wp2
 go_loopg [1, 5] k (fun kq v1 v5 w' => ∃ (x0_1 : List Int) (x1_1 : Int) (x5_1 : Int), v1 = .int .i64 x1_1 ∧ v5 = .int .i64 x5_1 ∧ Aside0 (laws_markIntS.l0 kq x0_1 x1_1 x5_1 = some (r1, r2)) ∧ Aside0 (kq ≤ k) ∧ Aside0 (Kd.R (Kd.int .i64) 3 w' w0.heap.size (fun k_ => (P0_ k_ ∨ w.heap.size ≤ k_)) u9000_ x0_1) ∧ Aside0 (Kept w w' (fun k_ => P0_ k_)) ∧ Aside0 (Below w0.heap.size w0 w'))
 case atStart => exact ⟨(l0), (a1), (0), (by first | rfl | (simp; done) | (simp [*]; done)), (by first | rfl | (simp; done) | (simp [*]; done)), H', ⟨Nat.le_refl _⟩, ⟨Hof.Rw HO0.out⟩, ⟨by repeat (first | (with_reducible first | exact HK.out | apply Kept.alloc | apply Kept.drewN | apply Kept.drew) | exact HK.out)⟩, ⟨Hof.Lw HB.out⟩⟩
 case round =>
  clear H'
  try clear c1
  try clear p2
  obtain ⟨x0_1, x1_1, x5_1, rfl, rfl, HA, HK1, HO_0, HK, HB⟩ := hrel
  cases gk with
  | zero => exact absurd HA.out (by simp [laws_markIntS.l0])
  | succ k1 =>
   have H := HA.out
   clear HA
   simp only [laws_markIntS.l0] at H
   by_cases c3 : x5_1 < (x0_1.length : Int)
   ·rw [if_pos c3] at H
    have c3b0 : decide (x5_1 < (x0_1.length : Int)) = true := decide_eq_true c3
    clear c3
    by_cases c4 : 0 ≤ x5_1
    ·rw [if_pos c4] at H
     have c4b0 : decide (0 ≤ x5_1) = true := decide_eq_true c4
     clear c4
     obtain ⟨y364, hy364⟩ : ∃ y_ : List Int, y_ = (x0_1.set (x5_1 : Int).toNat x1_1) := ⟨_, rfl⟩
     replace H : (laws_markIntS.l0 k1 y364 (wrap64 (x1_1 + 1)) (wrap64 (x5_1 + 1))) = some (r1, r2) := by first | (rw [hy364]; with_reducible exact H) | (have H2_ := (Option.bind_some _ _).symm.trans H; rw [hy364]; with_reducible exact H2_) | (have H2_ := (Option.bind_some _ _).symm.trans H; with_reducible exact H2_) | with_reducible exact H | (rw [hy364]; exact H) | exact H
     have Ny364 := Aside0.mk hy364
     clear hy364
     have H' := Aside0.mk H
     clear H
     obtain ⟨Ao6, co6, eo6⟩ := Kd.R_slice HO_0.out
     subst eo6
     have p5 : 0 ≤ (x5_1 : Int) := of_decide_eq_true (by first | (with_reducible assumption) | assumption)
     have q5 : (x5_1 : Int) < ((x0_1.length : Int) : Int) := of_decide_eq_true (by first | (with_reducible assumption) | assumption)
     obtain ⟨go5, co5, eo5, gb5, gl5, cl5, HG5⟩ := Kd.R_form HO_0.out (by omega)
     (first | cases eo5 | (injection eo5 with ea_ en_ ec_; (first | subst ea_ | (injection ea_ with ea_; subst ea_)); subst ec_; clear en_))
     have GB5 := Aside0.mk gb5
     have GG5 := Aside0.mk HG5
     clear gb5 gl5 HG5
     have HMgo5 := Aside0.mk (show (P0_ go5 ∨ w.heap.size ≤ go5) from (HO_0.out.1 _ rfl))
     obtain ⟨hx5_0, hf5_0⟩ := Kd.R_celln 0 HO_0.out (x5_1 : Int) p5 q5
     replace p5 := eq_true p5
     replace q5 := eq_true q5
     have HP7 := Kd.R_putg HO_0.out (x5_1 : Int) x1_1
     go_wp2_with (first | ((with_reducible refine gate_store (t := 3) (p := 15) rfl ?_); refine store_event (t := 3) (p := 15) (v := ?vo_w8) (w1 := (wr.setCell ⟨go5, (x5_1 : Int).toNat, none⟩ (.int .i64 x1_1))) ?hg ?ho ?hn ?hr ?_; (case ho => rfl); (case hg => rfl); (case hn => rfl); (case hr => first | (go_simp; done) | (go_simp; rfl)); intro w8 hw; have hg : wr.grownBy w8 (some go5) := (by rw [hw]; exact HP7.2); have hp_ : Kd.R (Kd.int .i64) 3 w8 w0.heap.size (fun k_ => (P0_ k_ ∨ w.heap.size ≤ k_)) (.slice (some ⟨go5, 0, none⟩) x0_1.length co6) y364 := (by rw [hw, Ny364.out]; exact HP7.1); clear HP7; replace HB := Aside0.mk ((by rw [hw]; exact below_set (HB.out) GB5.out : Below w0.heap.size w0 w8)); replace HK := Aside0.mk (Kept.of_grown (S := (fun k_ => P0_ k_)) hg (by repeat (first | (with_reducible first | exact HK.out | apply Kept.alloc | apply Kept.drewN | apply Kept.drew) | exact HK.out)) (fun k_ e_ => (HO_0.out.1 k_ e_))); replace HO_0 := Aside0.mk hp_; clear hg hw hp_))
     go_roundg k1
     case measure => have := HK1.out; omega
     case rel => exact ⟨(y364), (wrap64 (x1_1 + 1)), (wrap64 (x5_1 + 1)), (by first | rfl | (simp; done) | (simp [*]; done)), (by first | rfl | (simp; done) | (simp [*]; done)), H', ⟨by have := HK1.out; omega⟩, ⟨Hof.Rw HO_0.out⟩, ⟨by repeat (first | (with_reducible first | exact HK.out | apply Kept.alloc | apply Kept.drewN | apply Kept.drew) | exact HK.out)⟩, ⟨Hof.Lw HB.out⟩⟩
    ·rw [if_neg c4] at H
     exact absurd H (by simp)
   ·rw [if_neg c3] at H
    have c3b0 : decide (x5_1 < (x0_1.length : Int)) = false := decide_eq_false c3
    clear c3
    simp only [Option.some.injEq, Prod.mk.injEq] at H
    obtain ⟨rfl, rfl⟩ := H
    obtain ⟨Ao9, co9, eo9⟩ := Kd.R_slice HO_0.out
    subst eo9
    go_wp2
    go_ret
    exact ⟨by first | rfl | (simp [errW_none, errW_some] <;> rfl) | (simp [*, errW_none, errW_some] <;> rfl), by (with_reducible repeat (first | apply Kd.R_alloc | apply Kd.R_drewN | apply Kd.R_drew)); exact HO_0.out, by repeat (first | (with_reducible first | exact HB.out | apply below_alloc | apply pw_below_drewN | apply below_drew1) | exact HB.out), by repeat (first | (with_reducible first | exact HK.out | apply Kept.alloc | apply Kept.drewN | apply Kept.drew) | exact HK.out)⟩
end Go.Proofs.Ytmpodackojmojaa.Pr
end
section
namespace Go.Proofs.Ytmpodackojmojaa.Pr
open Go.RowKit Go.Proofs.YtmpodackojmojaaW.PrintWords Go.Proofs.YtmpodackojmojaaW.PrintLast Go.Proofs.YtmpodackojmojaaW.PrintMore
attribute [local go_sem] max2_int min2_int max_two min_two max_three min_three max_four min_four
set_option linter.unusedVariables false
set_option linter.unusedSimpArgs false
def laws_heldIntS.l0 : Nat → List Int → Int → Int → Option (Int)
 | 0, _, _, _ => none
 | k + 1, x0, x1, x5 => if x5 < (x0.length : Int) then (if 0 ≤ x5 then (if (rd x0 x5) = x1 then (laws_heldIntS.l0 k x0 (wrap64 (x1 + 1)) (wrap64 (x5 + 1))) else (some (-1))) else (none)) else (some x1)
def laws_heldIntS.f (k : Nat) (l0 : List Int) (a1 : Int) : Option (Int) := laws_heldIntS.l0 k l0 a1 0
set_option maxHeartbeats 8000000 in
set_option maxRecDepth 100000 in
theorem laws_heldIntS.calls (k : Nat) (A0 : Option Addr) (c0 : Nat) (l0 : List Int) (a1 : Int) (r : Int) (w : World) (hr0 : Kd.C (Kd.int .i64) w A0 l0.length l0) (hc0 : l0.length ≤ c0) (h : laws_heldIntS.f k l0 a1 = some r) :
  Calls Try.prog 20 #[.slice A0 l0.length c0, .int .i64 a1] w fun e w' => e = .returned (.int .i64 r) ∧ Drawn0 w w' := by
 have HR0 := Aside0.mk hr0
 have HC0 := Aside0.mk hc0
 clear hr0 hc0
 have H : (laws_heldIntS.l0 k l0 a1 0) = some r := h
 clear h
 have H' := Aside0.mk H
 clear H
 go_enter Try.func20, Try.ntmps20
 go_wp2
 go_loopg [1, 5] k (fun kq v1 v5 w' => ∃ (x1_1 : Int) (x5_1 : Int), v1 = .int .i64 x1_1 ∧ v5 = .int .i64 x5_1 ∧ Aside0 (laws_heldIntS.l0 kq l0 x1_1 x5_1 = some r) ∧ Aside0 (kq ≤ k) ∧ Drawn0 w w')
 case atStart => exact ⟨(a1), (0), (by first | rfl | (simp; done) | (simp [*]; done)), (by first | rfl | (simp; done) | (simp [*]; done)), H', ⟨Nat.le_refl _⟩, by repeat (first | exact Drawn0.refl _ | apply Drawn0.step)⟩
 case round =>
  clear H'
  try clear c2
  try clear p2
  obtain ⟨x1_1, x5_1, rfl, rfl, HA, HK1, ⟨m1, rfl⟩⟩ := hrel
  cases gk with
  | zero => exact absurd HA.out (by simp [laws_heldIntS.l0])
  | succ k1 =>
   have H := HA.out
   clear HA
   simp only [laws_heldIntS.l0] at H
   by_cases c3 : x5_1 < (l0.length : Int)
   ·rw [if_pos c3] at H
    have c3b0 : decide (x5_1 < (l0.length : Int)) = true := decide_eq_true c3
    clear c3
    by_cases c4 : 0 ≤ x5_1
    ·rw [if_pos c4] at H
     have c4b0 : decide (0 ≤ x5_1) = true := decide_eq_true c4
     clear c4
     by_cases c5 : (rd l0 x5_1) = x1_1
     ·rw [if_pos c5] at H
      have c5b0 : ((rd l0 x5_1) == x1_1) = true := beq_iff_eq.mpr c5
      have c5b1 : ((rd l0 x5_1) != x1_1) = false := bne_eq_false_iff_eq.mpr c5
      clear c5
      have H' := Aside0.mk H
      clear H
      have p365 : 0 ≤ (x5_1 : Int) := of_decide_eq_true (by first | (with_reducible assumption) | assumption)
      have q365 : x5_1 < (l0.length : Int) := of_decide_eq_true (by first | (with_reducible assumption) | assumption)
      obtain ⟨ad365, e365, hx365_0⟩ := Kd.at_int HR0.out x5_1 p365 q365
      cases e365
      replace p365 := eq_true p365
      replace q365 := eq_true q365
      go_wp2
      go_roundg k1
      case measure => have := HK1.out; omega
      case rel => exact ⟨(wrap64 (x1_1 + 1)), (wrap64 (x5_1 + 1)), (by first | rfl | (simp; done) | (simp [*]; done)), (by first | rfl | (simp; done) | (simp [*]; done)), H', ⟨by have := HK1.out; omega⟩, by repeat (first | exact Drawn0.refl _ | apply Drawn0.step)⟩
     ·rw [if_neg c5] at H
      have c5b0 : ((rd l0 x5_1) == x1_1) = false := beq_eq_false_iff_ne.mpr c5
      have c5b1 : ((rd l0 x5_1) != x1_1) = true := bne_iff_ne.mpr c5
      obtain rfl := Option.some.inj H
      have p365 : 0 ≤ (x5_1 : Int) := of_decide_eq_true (by first | (with_reducible assumption) | assumption)
      have q365 : x5_1 < (l0.length : Int) := of_decide_eq_true (by first | (with_reducible assumption) | assumption)
      obtain ⟨ad365, e365, hx365_0⟩ := Kd.at_int HR0.out x5_1 p365 q365
      cases e365
      replace p365 := eq_true p365
      replace q365 := eq_true q365
      go_wp2
      go_ret
      exact ⟨by first | rfl | (simp; done) | (simp [*]; done), by repeat (first | exact Drawn0.refl _ | apply Drawn0.step)⟩
    ·rw [if_neg c4] at H
     exact absurd H (by simp)
   ·rw [if_neg c3] at H
    have c3b0 : decide (x5_1 < (l0.length : Int)) = false := decide_eq_false c3
    clear c3
    obtain rfl := Option.some.inj H
    go_wp2
    go_ret
    exact ⟨by first | rfl | (simp; done) | (simp [*]; done), by repeat (first | exact Drawn0.refl _ | apply Drawn0.step)⟩
end Go.Proofs.Ytmpodackojmojaa.Pr
end
section
namespace Go.Proofs.Ytmpodackojmojaa.Pr
open Go.RowKit Go.Proofs.YtmpodackojmojaaW.PrintWords Go.Proofs.YtmpodackojmojaaW.PrintLast Go.Proofs.YtmpodackojmojaaW.PrintMore
attribute [local go_sem] max2_int min2_int max_two min_two max_three min_three max_four min_four
set_option linter.unusedVariables false
set_option linter.unusedSimpArgs false
mutual
def laws_FnExactPlanOf.j0 : Nat → List (S75) → Int → List Int → Bool → List (S73) → List Int → Bool → Bool → Option (Bool)
 | 0, _, _, _, _, _, _, _, _ => none
 | k + 1, x0, x1, x6, x7, x8, x9, x10, x44 => if x44 = true then (some false) else ((laws_toTaskS.f k x0).bind fun t382 => ((laws_eqTaskS.f k x8 t382).bind fun t385 => (if t385 = true then ((laws_markTaskS.f k x8 1).bind fun bt386 => (if bt386.1 < 0 then (laws_FnExactPlanOf.j1 k x0 x1 x6 x7 x9 true) else ((laws_eqIntS.f k x9 x6).bind fun t388 => (if t388 = true then (laws_FnExactPlanOf.j1 k x0 x1 x6 x7 x9 (x10 != x7)) else (laws_FnExactPlanOf.j1 k x0 x1 x6 x7 x9 true))))) else (some false))))
def laws_FnExactPlanOf.j1 : Nat → List (S75) → Int → List Int → Bool → List Int → Bool → Option (Bool)
 | 0, _, _, _, _, _, _ => none
 | k + 1, x0, x1, x6, x7, x9, x65 => if x65 = true then (some false) else ((laws_markIntS.f k x9 1).bind fun bt389 => ((laws_heldIntS.f k bt389.2 1).bind fun t391 => (if t391 < 0 then (some false) else (if t391 = bt389.1 then ((laws_toTaskS.f k x0).bind fun t392 => ((impl_PlanOf.f k t392 x1).bind fun bt395 => ((laws_eqIntS.f k bt395.1 x6).bind fun t399 => (if t399 = true then (laws_FnExactPlanOf.j2 k bt389.2 bt389.1 (bt395.2 != x7)) else (laws_FnExactPlanOf.j2 k bt389.2 bt389.1 true))))) else (some false)))))
def laws_FnExactPlanOf.j2 : Nat → List Int → Int → Bool → Option (Bool)
 | 0, _, _, _ => none
 | k + 1, x9, x12, x92 => if x92 = true then (some false) else ((laws_heldIntS.f k x9 1).bind fun t400 => (if t400 < 0 then (some false) else (if t400 = x12 then (some true) else (some false))))
end
def laws_FnExactPlanOf.f (k : Nat) (l0 : List (S75)) (a1 : Int) : Option (Bool) := (laws_szTaskS.f l0 1048576).bind fun t366 => (if t366 < 0 then (some true) else ((laws_toTaskS.f k l0).bind fun t367 => ((spec_PlanOf.f k t367 a1).bind fun bt370 => ((laws_toTaskS.f k l0).bind fun t374 => ((impl_PlanOf.f k t374 a1).bind fun bt377 => ((laws_eqIntS.f k bt377.1 bt370.1).bind fun t381 => (if t381 = true then (laws_FnExactPlanOf.j0 k l0 a1 bt370.1 bt370.2 t374 bt377.1 bt377.2 (bt377.2 != bt370.2)) else (laws_FnExactPlanOf.j0 k l0 a1 bt370.1 bt370.2 t374 bt377.1 bt377.2 true))))))))
set_option maxHeartbeats 8000000 in
set_option maxRecDepth 100000 in
theorem laws_FnExactPlanOf.calls (k : Nat) (A0 : Option Addr) (c0 : Nat) (l0 : List (S75)) (a1 : Int) (r : Bool) (w : World) (hr0 : Kd.C k75 w A0 l0.length l0) (hc0 : l0.length ≤ c0) (hT : Aside0 (r = true)) (h : laws_FnExactPlanOf.f k l0 a1 = some r) :
  Calls Try.prog 3 #[.slice A0 l0.length c0, .int .i64 a1] w fun e w' => e = .returned (.bool r) ∧ Below w.heap.size w w' := by
 have HR0 := Aside0.mk hr0
 have HC0 := Aside0.mk hc0
 clear hr0 hc0
 have HB := Aside0.mk (Below.refl w.heap.size w)
 have H : ((laws_szTaskS.f l0 1048576).bind fun t366 => (if t366 < 0 then (some true) else ((laws_toTaskS.f k l0).bind fun t367 => ((spec_PlanOf.f k t367 a1).bind fun bt370 => ((laws_toTaskS.f k l0).bind fun t374 => ((impl_PlanOf.f k t374 a1).bind fun bt377 => ((laws_eqIntS.f k bt377.1 bt370.1).bind fun t381 => (if t381 = true then (laws_FnExactPlanOf.j0 k l0 a1 bt370.1 bt370.2 t374 bt377.1 bt377.2 (bt377.2 != bt370.2)) else (laws_FnExactPlanOf.j0 k l0 a1 bt370.1 bt370.2 t374 bt377.1 bt377.2 true))))))))) = some r := h
 clear h
 replace H := Option.bind_eq_some_iff.mp H
 obtain ⟨t366, A30, H⟩ := H
 (try dsimp only at H)
 have A3 := Aside0.mk A30
 clear A30
 by_cases c4 : t366 < 0
 ·rw [if_pos c4] at H
  have c4b0 : decide (t366 < 0) = true := decide_eq_true c4
  clear c4
  obtain rfl := Option.some.inj H
  go_enter Try.func3, Try.ntmps3
  go_wp2_with (first | ((with_reducible refine gate_callee (f := 12) rfl ?_); refine goesL_ (some 18) rfl rfl Try.func12 (by kernel_rfl) rfl #[.slice A0 l0.length c0, .int .i64 1048576] rfl (by (try simp only [List.map_toArray, List.map_cons, List.map_nil]); first | done | rfl) ?_; (with_reducible refine (laws_szTaskS.calls _ _ l0 1048576 t366 _ ?side1 ?side2 A3.out).mono ?_); (case side1 => exact Hof.Cw HR0.out); (case side2 => exact HC0.out); rintro e w' ⟨rfl, ⟨nd, rfl⟩⟩; refine ⟨_, rfl, ?_⟩))
  go_ret
  exact ⟨by first | rfl | (simp [errW_none, errW_some] <;> rfl) | (simp [*, errW_none, errW_some] <;> rfl), by repeat (first | (with_reducible first | exact HB.out | apply below_alloc | apply pw_below_drewN | apply below_drew1) | exact HB.out)⟩
 ·rw [if_neg c4] at H
  have c4b0 : decide (t366 < 0) = false := decide_eq_false c4
  clear c4
  replace H := Option.bind_eq_some_iff.mp H
  obtain ⟨t367, A50, H⟩ := H
  (try dsimp only at H)
  have A5 := Aside0.mk A50
  clear A50
  replace H := Option.bind_eq_some_iff.mp H
  obtain ⟨⟨t370, t371⟩, A60, H⟩ := H
  (try dsimp only at H)
  have A6 := Aside0.mk A60
  clear A60
  replace H := Option.bind_eq_some_iff.mp H
  obtain ⟨t374, A70, H⟩ := H
  (try dsimp only at H)
  have A7 := Aside0.mk A70
  clear A70
  replace H := Option.bind_eq_some_iff.mp H
  obtain ⟨⟨t377, t378⟩, A80, H⟩ := H
  (try dsimp only at H)
  have A8 := Aside0.mk A80
  clear A80
  have HC9 := Aside0.mk H
  clear H
  go_enter Try.func3, Try.ntmps3
  go_upto_region 8 with (first | ((with_reducible refine gate_callee (f := 12) rfl ?_); refine goesL_ (some 18) rfl rfl Try.func12 (by kernel_rfl) rfl #[.slice A0 l0.length c0, .int .i64 1048576] rfl (by (try simp only [List.map_toArray, List.map_cons, List.map_nil]); first | done | rfl) ?_; (with_reducible refine (laws_szTaskS.calls _ _ l0 1048576 t366 _ ?side1 ?side2 A3.out).mono ?_); (case side1 => exact Hof.Cw HR0.out); (case side2 => exact HC0.out); rintro e w' ⟨rfl, ⟨nd, rfl⟩⟩; refine ⟨_, rfl, ?_⟩) | ((with_reducible refine gate_callee (f := 14) rfl ?_); refine goesL_ (some 23) rfl rfl Try.func14 (by kernel_rfl) rfl #[.slice A0 l0.length c0] rfl (by (try simp only [List.map_toArray, List.map_cons, List.map_nil]); first | done | rfl) ?_; (with_reducible refine (laws_toTaskS.calls k _ _ l0 t367 _ ?side1 ?side2 A5.out).mono ?_); (case side1 => exact Hof.Cw HR0.out); (case side2 => exact HC0.out); rintro e w10 ⟨v368, rfl, ho0, hb⟩; refine ⟨_, rfl, ?_⟩; have HO369 := Aside0.mk (Kd.R_lower ho0 (below_size (Hof.Lw HB.out))); replace HB := Aside0.mk (below_step (Hof.Lw HB.out) hb); (try clear hb); (try clear hb2); (try clear hk); (try clear hi); (try clear ho0); obtain ⟨Ao11, co11, eo11⟩ := Kd.R_slice HO369.out; subst eo11) | ((with_reducible refine gate_callee (f := 13) rfl ?_); refine goesL_ (some 25) rfl rfl Try.func13 (by kernel_rfl) rfl #[.slice Ao11 t367.length co11, .int .i64 a1] rfl (by (try simp only [List.map_toArray, List.map_cons, List.map_nil]); first | done | rfl) ?_; (with_reducible refine (spec_PlanOf.calls k _ _ t367 a1 t370 t371 _ ?side1 ?side2 A6.out).mono ?_); (case side1 => exact Hof.Cw ((Kd.R_reads' HO369.out).2.2)); (case side2 => exact (Kd.R_reads' HO369.out).2.1); rintro e w12 ⟨v372, rfl, ho0, hb⟩; refine ⟨_, rfl, ?_⟩; replace HO369 := Aside0.mk (Kd.R_below (Hof.Rw HO369.out) hb); have HO373 := Aside0.mk (Kd.R_lower ho0 (below_size (Hof.Lw HB.out))); replace HB := Aside0.mk (below_step (Hof.Lw HB.out) hb); (try clear hb); (try clear hb2); (try clear hk); (try clear hi); (try clear ho0)) | ((with_reducible refine gate_callee (f := 14) rfl ?_); refine goesL_ (some 29) rfl rfl Try.func14 (by kernel_rfl) rfl #[.slice A0 l0.length c0] rfl (by (try simp only [List.map_toArray, List.map_cons, List.map_nil]); first | done | rfl) ?_; (with_reducible refine (laws_toTaskS.calls k _ _ l0 t374 _ ?side1 ?side2 A7.out).mono ?_); (case side1 => exact Hof.Cw (Kd.C_below HR0.out HB.out)); (case side2 => exact HC0.out); rintro e w13 ⟨v375, rfl, ho0, hb⟩; refine ⟨_, rfl, ?_⟩; replace HO373 := Aside0.mk (Kd.R_below (Hof.Rw HO373.out) hb); have HO376 := Aside0.mk (Kd.R_lower (Kd.R_new' ho0 (Kd.R_lt (Hof.Rw HO369.out))) (below_size (Hof.Lw HB.out))); replace HO369 := Aside0.mk (Kd.R_elder' (Hof.Rw HO369.out) (Kd.R_base ho0) hb); replace HB := Aside0.mk (below_step (Hof.Lw HB.out) hb); (try clear hb); (try clear hb2); (try clear hk); (try clear hi); (try clear ho0); obtain ⟨Ao14, co14, eo14⟩ := Kd.R_slice HO376.out; subst eo14) | ((with_reducible refine gate_callee (f := 15) rfl ?_); refine goesL_ (some 33) rfl rfl Try.func15 (by kernel_rfl) rfl #[.slice Ao14 t374.length co14, .int .i64 a1] rfl (by (try simp only [List.map_toArray, List.map_cons, List.map_nil]); first | done | rfl) ?_; (with_reducible refine (impl_PlanOf.calls k _ _ t374 a1 t377 t378 _ ?side1 ?side2 A8.out).mono ?_); (case side1 => exact Hof.Cw ((Kd.R_reads' HO376.out).2.2)); (case side2 => exact (Kd.R_reads' HO376.out).2.1); rintro e w15 ⟨v379, rfl, ho0, hb⟩; refine ⟨_, rfl, ?_⟩; replace HO369 := Aside0.mk (Kd.R_below (Hof.Rw HO369.out) hb); replace HO376 := Aside0.mk (Kd.R_below (Hof.Rw HO376.out) hb); have HO380 := Aside0.mk (Kd.R_lower (Kd.R_new' ho0 (Kd.R_lt (Hof.Rw HO373.out))) (below_size (Hof.Lw HB.out))); replace HO373 := Aside0.mk (Kd.R_elder' (Hof.Rw HO373.out) (Kd.R_base ho0) hb); replace HB := Aside0.mk (below_step (Hof.Lw HB.out) hb); (try clear hb); (try clear hb2); (try clear hk); (try clear hi); (try clear ho0)))
  (try simp only [Act.put, List.setIfInBounds_toArray, List.set_cons_zero, List.set_cons_succ])
  go_cut [44] (fun v44 wc => ∃ (kq : Nat) (x44_8 : Bool), v44 = .bool x44_8 ∧ Aside0 (laws_FnExactPlanOf.j0 kq l0 a1 t370 t371 t374 t377 t378 x44_8 = some r) ∧ Aside0 (kq ≤ k) ∧ Aside0 (Kd.R (Kd.int .i64) 3 wc w.heap.size (fun k_ => some k_ ≠ (v379 : Value).ownBlock) v372 t370) ∧ Aside0 (Kd.R k73 73 wc w.heap.size (fun _ => True) (.slice Ao14 t374.length co14) t374) ∧ Aside0 (Kd.R (Kd.int .i64) 3 wc w.heap.size (fun k_ => some k_ ≠ (v372 : Value).ownBlock) v379 t377) ∧ Aside0 (Below w.heap.size w wc))
  case first =>
   have H := HC9.out
   clear HC9
   replace H := Option.bind_eq_some_iff.mp H
   obtain ⟨t381, A160, H⟩ := H
   (try dsimp only at H)
   have A16 := Aside0.mk A160
   clear A160
   by_cases c17 : t381 = true
   ·subst c17
    have H1 : (laws_FnExactPlanOf.j0 k l0 a1 t370 t371 t374 t377 t378 (t378 != t371)) = some r := by rw [if_pos rfl] at H; exact H
    clear H
    have H := H1
    clear H1
    have H' := Aside0.mk H
    clear H
    obtain ⟨Ao18, co18, eo18⟩ := Kd.R_slice HO380.out
    subst eo18
    obtain ⟨Ao19, co19, eo19⟩ := Kd.R_slice HO373.out
    subst eo19
    go_wp2_with (first | ((with_reducible refine gate_callee (f := 16) rfl ?_); refine goesL_ (some 38) rfl rfl Try.func16 (by kernel_rfl) rfl #[.slice Ao18 t377.length co18, .slice Ao19 t370.length co19] rfl (by (try simp only [List.map_toArray, List.map_cons, List.map_nil]); first | done | rfl) ?_; (with_reducible refine (laws_eqIntS.calls k _ _ t377 _ _ t370 true _ ?side1 ?side2 ?side3 ?side4 A16.out).mono ?_); (case side1 => exact Hof.Cw ((Kd.R_reads' HO380.out).2.2)); (case side2 => exact (Kd.R_reads' HO380.out).2.1); (case side3 => exact Hof.Cw ((Kd.R_reads' HO373.out).2.2)); (case side4 => exact (Kd.R_reads' HO373.out).2.1); rintro e w' ⟨rfl, ⟨nd, rfl⟩⟩; refine ⟨_, rfl, ?_⟩))
    go_meet
    case rel => exact ⟨_, ((t378 != t371)), (by first | rfl | (simp; done) | (simp [*]; done)), H', ⟨by first | omega | exact Nat.le_refl _⟩, ⟨Hof.Rw (Kd.R_mono HO373.out (fun _ hk => hk.2))⟩, ⟨Hof.Rw (Kd.R_mono HO376.out (fun _ hk => trivial))⟩, ⟨Hof.Rw (Kd.R_mono HO380.out (fun _ hk => hk.2))⟩, ⟨Hof.Lw HB.out⟩⟩
   ·replace c17 := Bool.eq_false_iff.mpr c17
    subst c17
    have H1 : (laws_FnExactPlanOf.j0 k l0 a1 t370 t371 t374 t377 t378 true) = some r := by rw [if_neg (show ¬ (false = true) by decide)] at H; exact H
    clear H
    have H := H1
    clear H1
    have H' := Aside0.mk H
    clear H
    obtain ⟨Ao20, co20, eo20⟩ := Kd.R_slice HO380.out
    subst eo20
    obtain ⟨Ao21, co21, eo21⟩ := Kd.R_slice HO373.out
    subst eo21
    go_wp2_with (first | ((with_reducible refine gate_callee (f := 16) rfl ?_); refine goesL_ (some 38) rfl rfl Try.func16 (by kernel_rfl) rfl #[.slice Ao20 t377.length co20, .slice Ao21 t370.length co21] rfl (by (try simp only [List.map_toArray, List.map_cons, List.map_nil]); first | done | rfl) ?_; (with_reducible refine (laws_eqIntS.calls k _ _ t377 _ _ t370 false _ ?side1 ?side2 ?side3 ?side4 A16.out).mono ?_); (case side1 => exact Hof.Cw ((Kd.R_reads' HO380.out).2.2)); (case side2 => exact (Kd.R_reads' HO380.out).2.1); (case side3 => exact Hof.Cw ((Kd.R_reads' HO373.out).2.2)); (case side4 => exact (Kd.R_reads' HO373.out).2.1); rintro e w' ⟨rfl, ⟨nd, rfl⟩⟩; refine ⟨_, rfl, ?_⟩))
    go_meet
    case rel => exact ⟨_, (true), (by first | rfl | (simp; done) | (simp [*]; done)), H', ⟨by first | omega | exact Nat.le_refl _⟩, ⟨Hof.Rw (Kd.R_mono HO373.out (fun _ hk => hk.2))⟩, ⟨Hof.Rw (Kd.R_mono HO376.out (fun _ hk => trivial))⟩, ⟨Hof.Rw (Kd.R_mono HO380.out (fun _ hk => hk.2))⟩, ⟨Hof.Lw HB.out⟩⟩
  case rest =>
   clear HC9
   try clear c1
   try clear p2
   try clear c3
   try clear c4
   try clear c4b0
   try clear c12
   try clear c13
   try clear c14
   try clear c15
   try clear c16
   try clear c17
   obtain ⟨kq, x44_8, rfl, HA, HJ8, HO_6, HO_8, HO_9, HB⟩ := hcut
   cases kq with
   | zero => exact absurd HA.out (by simp [laws_FnExactPlanOf.j0])
   | succ kj8 =>
    have H := HA.out
    clear HA
    simp only [laws_FnExactPlanOf.j0] at H
    by_cases c22 : x44_8 = true
    ·subst c22
     have H1 : (some false) = some r := by rw [if_pos rfl] at H; exact H
     clear H
     have H := H1
     clear H1
     obtain rfl := Option.some.inj H
     exact absurd hT.out (by decide)
    ·replace c22 := Bool.eq_false_iff.mpr c22
     subst c22
     have H1 : ((laws_toTaskS.f kj8 l0).bind fun t382 => ((laws_eqTaskS.f kj8 t374 t382).bind fun t385 => (if t385 = true then ((laws_markTaskS.f kj8 t374 1).bind fun bt386 => (if bt386.1 < 0 then (laws_FnExactPlanOf.j1 kj8 l0 a1 t370 t371 t377 true) else ((laws_eqIntS.f kj8 t377 t370).bind fun t388 => (if t388 = true then (laws_FnExactPlanOf.j1 kj8 l0 a1 t370 t371 t377 (t378 != t371)) else (laws_FnExactPlanOf.j1 kj8 l0 a1 t370 t371 t377 true))))) else (some false)))) = some r := by rw [if_neg (show ¬ (false = true) by decide)] at H; exact H
     clear H
     have H := H1
     clear H1
     replace H := Option.bind_eq_some_iff.mp H
     obtain ⟨t382, A230, H⟩ := H
     (try dsimp only at H)
     have A23 := Aside0.mk A230
     clear A230
     replace H := Option.bind_eq_some_iff.mp H
     obtain ⟨t385, A240, H⟩ := H
     (try dsimp only at H)
     have A24 := Aside0.mk A240
     clear A240
     by_cases c25 : t385 = true
     ·subst c25
      have H1 : ((laws_markTaskS.f kj8 t374 1).bind fun bt386 => (if bt386.1 < 0 then (laws_FnExactPlanOf.j1 kj8 l0 a1 t370 t371 t377 true) else ((laws_eqIntS.f kj8 t377 t370).bind fun t388 => (if t388 = true then (laws_FnExactPlanOf.j1 kj8 l0 a1 t370 t371 t377 (t378 != t371)) else (laws_FnExactPlanOf.j1 kj8 l0 a1 t370 t371 t377 true))))) = some r := by rw [if_pos rfl] at H; exact H
      clear H
      have H := H1
      clear H1
      replace H := Option.bind_eq_some_iff.mp H
      obtain ⟨⟨t386, t387⟩, A260, H⟩ := H
      (try dsimp only at H)
      have A26 := Aside0.mk A260
      clear A260
      have HC27 := Aside0.mk H
      clear H
      go_upto_region 14 with (first | ((with_reducible refine gate_callee (f := 14) rfl ?_); refine goesL_ (some 47) rfl rfl Try.func14 (by kernel_rfl) rfl #[.slice A0 l0.length c0] rfl (by (try simp only [List.map_toArray, List.map_cons, List.map_nil]); first | done | rfl) ?_; (with_reducible refine (laws_toTaskS.calls kj8 _ _ l0 t382 _ ?side1 ?side2 A23.out).mono ?_); (case side1 => exact Hof.Cw (Kd.C_below HR0.out HB.out)); (case side2 => exact HC0.out); rintro e w28 ⟨v383, rfl, ho0, hb⟩; refine ⟨_, rfl, ?_⟩; replace HO_6 := Aside0.mk (Kd.R_below (Hof.Rw HO_6.out) hb); replace HO_9 := Aside0.mk (Kd.R_below (Hof.Rw HO_9.out) hb); have HO384 := Aside0.mk (Kd.R_lower (Kd.R_new' ho0 (Kd.R_lt (Hof.Rw HO_8.out))) (below_size (Hof.Lw HB.out))); replace HO_8 := Aside0.mk (Kd.R_elder' (Hof.Rw HO_8.out) (Kd.R_base ho0) hb); replace HB := Aside0.mk (below_step (Hof.Lw HB.out) hb); (try clear hb); (try clear hb2); (try clear hk); (try clear hi); (try clear ho0); obtain ⟨Ao29, co29, eo29⟩ := Kd.R_slice HO384.out; subst eo29) | ((with_reducible refine gate_callee (f := 17) rfl ?_); refine goesL_ (some 48) rfl rfl Try.func17 (by kernel_rfl) rfl #[.slice Ao14 t374.length co14, .slice Ao29 t382.length co29] rfl (by (try simp only [List.map_toArray, List.map_cons, List.map_nil]); first | done | rfl) ?_; (with_reducible refine (laws_eqTaskS.calls kj8 _ _ t374 _ _ t382 true _ ?side1 ?side2 ?side3 ?side4 A24.out).mono ?_); (case side1 => exact Hof.Cw ((Kd.R_reads' HO_8.out).2.2)); (case side2 => exact (Kd.R_reads' HO_8.out).2.1); (case side3 => exact Hof.Cw ((Kd.R_reads' HO384.out).2.2)); (case side4 => exact (Kd.R_reads' HO384.out).2.1); rintro e w30 ⟨rfl, hb⟩; refine ⟨_, rfl, ?_⟩; replace HO_6 := Aside0.mk (Kd.R_below (Hof.Rw HO_6.out) hb); replace HO_8 := Aside0.mk (Kd.R_below (Hof.Rw HO_8.out) hb); replace HO_9 := Aside0.mk (Kd.R_below (Hof.Rw HO_9.out) hb); replace HO384 := Aside0.mk (Kd.R_below (Hof.Rw HO384.out) hb); replace HB := Aside0.mk (below_step (Hof.Lw HB.out) hb); (try clear hb); (try clear hb2); (try clear hk); (try clear hi)) | ((with_reducible refine gate_callee (f := 18) rfl ?_); refine goesL_ (some 52) rfl rfl Try.func18 (by kernel_rfl) rfl #[.slice Ao14 t374.length co14, .int .i64 1] rfl (by (try simp only [List.map_toArray, List.map_cons, List.map_nil]); first | done | rfl) ?_; (with_reducible refine (laws_markTaskS.calls kj8 (fun k_ => some k_ = (.slice Ao14 t374.length co14 : Value).ownBlock) (.slice Ao14 t374.length co14) t374 1 t386 t387 w _ ?side1 ?side2 A26.out).mono ?_); (case side1 => repeat (first | (with_reducible first | exact HB.out | apply below_alloc | apply pw_below_drewN | apply below_drew1) | exact HB.out)); (case side2 => exact Kd.R_tight rfl HO_8.out); rintro e w31 ⟨rfl, hy0, hb, hkp⟩; refine ⟨_, rfl, ?_⟩; replace HO_6 := Aside0.mk (Kd.R_mono (ok' := fun k_ => some k_ ≠ (v379 : Value).ownBlock) (Kd.R_keptB ((Kd.R_apart' HO_6.out (Kd.R_typed HO_8.out) (by decide))) hkp (fun k_ hk_ hs_ => (by first | exact (hk_.2) hs_ | (simp_all; done)))) (fun k_ hk_ => hk_.1.1)); replace HO_9 := Aside0.mk (Kd.R_mono (ok' := fun k_ => some k_ ≠ (v372 : Value).ownBlock) (Kd.R_keptB ((Kd.R_apart' HO_9.out (Kd.R_typed HO_8.out) (by decide))) hkp (fun k_ hk_ hs_ => (by first | exact (hk_.2) hs_ | (simp_all; done)))) (fun k_ hk_ => hk_.1.1)); replace HO_8 := Aside0.mk (Kd.R_reok rfl hy0 (fun k_ e_ => HO_8.out.1 k_ e_)); replace HO384 := Aside0.mk (Kd.R_mono (ok' := fun k_ => some k_ ≠ (.slice Ao14 t374.length co14 : Value).ownBlock) (Kd.R_keptB (HO384.out) hkp (fun k_ hk_ hs_ => (by first | exact (hk_.2) hs_ | (simp_all; done)))) (fun k_ hk_ => hk_.1.2)); replace HB := Aside0.mk hb; (try clear hb); (try clear hkp); (try clear hy0)))
      (try simp only [Act.put, List.setIfInBounds_toArray, List.set_cons_zero, List.set_cons_succ])
      go_cut [65] (fun v65 wc => ∃ (kq : Nat) (x65_26 : Bool), v65 = .bool x65_26 ∧ Aside0 (laws_FnExactPlanOf.j1 kq l0 a1 t370 t371 t377 x65_26 = some r) ∧ Aside0 (kq ≤ kj8) ∧ Aside0 (Kd.R (Kd.int .i64) 3 wc w.heap.size (fun k_ => some k_ ≠ (v379 : Value).ownBlock) v372 t370) ∧ Aside0 (Kd.R (Kd.int .i64) 3 wc w.heap.size (fun k_ => some k_ ≠ (v372 : Value).ownBlock) v379 t377) ∧ Aside0 (Below w.heap.size w wc))
      case first =>
       have H := HC27.out
       clear HC27
       by_cases c32 : t386 < 0
       ·rw [if_pos c32] at H
        have c32b0 : decide (t386 < 0) = true := decide_eq_true c32
        clear c32
        (first | rw [c32b0] | (simp only [i64_w, i32_w]; rw [c32b0]) | skip)
        have H' := Aside0.mk H
        clear H
        go_wp2
        go_meet
        case rel => exact ⟨_, (true), (by first | rfl | (simp; done) | (simp [*]; done)), H', ⟨by have := HJ8.out; first | omega | exact Nat.le_refl _⟩, ⟨Hof.Rw HO_6.out⟩, ⟨Hof.Rw HO_9.out⟩, ⟨Hof.Lw HB.out⟩⟩
       ·rw [if_neg c32] at H
        have c32b0 : decide (t386 < 0) = false := decide_eq_false c32
        clear c32
        (first | rw [c32b0] | (simp only [i64_w, i32_w]; rw [c32b0]) | skip)
        replace H := Option.bind_eq_some_iff.mp H
        obtain ⟨t388, A330, H⟩ := H
        (try dsimp only at H)
        have A33 := Aside0.mk A330
        clear A330
        by_cases c34 : t388 = true
        ·subst c34
         have H1 : (laws_FnExactPlanOf.j1 kj8 l0 a1 t370 t371 t377 (t378 != t371)) = some r := by rw [if_pos rfl] at H; exact H
         clear H
         have H := H1
         clear H1
         have H' := Aside0.mk H
         clear H
         obtain ⟨Ao35, co35, eo35⟩ := Kd.R_slice HO_9.out
         subst eo35
         obtain ⟨Ao36, co36, eo36⟩ := Kd.R_slice HO_6.out
         subst eo36
         go_wp2_with (first | (go_at_call 16; (with_reducible refine (laws_eqIntS.calls kj8 _ _ t377 _ _ t370 true _ ?side1 ?side2 ?side3 ?side4 A33.out).mono ?_); (case side1 => exact Hof.Cw ((Kd.R_reads' HO_9.out).2.2)); (case side2 => exact (Kd.R_reads' HO_9.out).2.1); (case side3 => exact Hof.Cw ((Kd.R_reads' HO_6.out).2.2)); (case side4 => exact (Kd.R_reads' HO_6.out).2.1); rintro e w' ⟨rfl, ⟨nd, rfl⟩⟩))
         go_meet
         case rel => exact ⟨_, ((t378 != t371)), (by first | rfl | (simp; done) | (simp [*]; done)), H', ⟨by have := HJ8.out; first | omega | exact Nat.le_refl _⟩, ⟨Hof.Rw HO_6.out⟩, ⟨Hof.Rw HO_9.out⟩, ⟨Hof.Lw HB.out⟩⟩
        ·replace c34 := Bool.eq_false_iff.mpr c34
         subst c34
         have H1 : (laws_FnExactPlanOf.j1 kj8 l0 a1 t370 t371 t377 true) = some r := by rw [if_neg (show ¬ (false = true) by decide)] at H; exact H
         clear H
         have H := H1
         clear H1
         have H' := Aside0.mk H
         clear H
         obtain ⟨Ao37, co37, eo37⟩ := Kd.R_slice HO_9.out
         subst eo37
         obtain ⟨Ao38, co38, eo38⟩ := Kd.R_slice HO_6.out
         subst eo38
         go_wp2_with (first | (go_at_call 16; (with_reducible refine (laws_eqIntS.calls kj8 _ _ t377 _ _ t370 false _ ?side1 ?side2 ?side3 ?side4 A33.out).mono ?_); (case side1 => exact Hof.Cw ((Kd.R_reads' HO_9.out).2.2)); (case side2 => exact (Kd.R_reads' HO_9.out).2.1); (case side3 => exact Hof.Cw ((Kd.R_reads' HO_6.out).2.2)); (case side4 => exact (Kd.R_reads' HO_6.out).2.1); rintro e w' ⟨rfl, ⟨nd, rfl⟩⟩))
         go_meet
         case rel => exact ⟨_, (true), (by first | rfl | (simp; done) | (simp [*]; done)), H', ⟨by have := HJ8.out; first | omega | exact Nat.le_refl _⟩, ⟨Hof.Rw HO_6.out⟩, ⟨Hof.Rw HO_9.out⟩, ⟨Hof.Lw HB.out⟩⟩
      case rest =>
       clear HC27
       try clear c1
       try clear c2
       try clear p2
       try clear c3
       try clear c4
       try clear c4b0
       try clear c12
       try clear c13
       try clear c14
       try clear c15
       try clear c16
       try clear c17
       try clear c18
       try clear c22
       try clear c25
       try clear c32
       try clear c32b0
       try clear c34
       try clear p2
       obtain ⟨kq, x65_26, rfl, HA, HJ26, HO_6, HO_9, HB⟩ := hcut
       cases kq with
       | zero => exact absurd HA.out (by simp [laws_FnExactPlanOf.j1])
       | succ kj26 =>
        have H := HA.out
        clear HA
        simp only [laws_FnExactPlanOf.j1] at H
        by_cases c39 : x65_26 = true
        ·subst c39
         have H1 : (some false) = some r := by rw [if_pos rfl] at H; exact H
         clear H
         have H := H1
         clear H1
         obtain rfl := Option.some.inj H
         exact absurd hT.out (by decide)
        ·replace c39 := Bool.eq_false_iff.mpr c39
         subst c39
         have H1 : ((laws_markIntS.f kj26 t377 1).bind fun bt389 => ((laws_heldIntS.f kj26 bt389.2 1).bind fun t391 => (if t391 < 0 then (some false) else (if t391 = bt389.1 then ((laws_toTaskS.f kj26 l0).bind fun t392 => ((impl_PlanOf.f kj26 t392 a1).bind fun bt395 => ((laws_eqIntS.f kj26 bt395.1 t370).bind fun t399 => (if t399 = true then (laws_FnExactPlanOf.j2 kj26 bt389.2 bt389.1 (bt395.2 != t371)) else (laws_FnExactPlanOf.j2 kj26 bt389.2 bt389.1 true))))) else (some false))))) = some r := by rw [if_neg (show ¬ (false = true) by decide)] at H; exact H
         clear H
         have H := H1
         clear H1
         replace H := Option.bind_eq_some_iff.mp H
         obtain ⟨⟨t389, t390⟩, A400, H⟩ := H
         (try dsimp only at H)
         have A40 := Aside0.mk A400
         clear A400
         replace H := Option.bind_eq_some_iff.mp H
         obtain ⟨t391, A410, H⟩ := H
         (try dsimp only at H)
         have A41 := Aside0.mk A410
         clear A410
         by_cases c42 : t391 < 0
         ·rw [if_pos c42] at H
          have c42b0 : decide (t391 < 0) = true := decide_eq_true c42
          clear c42
          obtain rfl := Option.some.inj H
          exact absurd hT.out (by decide)
         ·rw [if_neg c42] at H
          have c42b0 : decide (t391 < 0) = false := decide_eq_false c42
          clear c42
          by_cases c43 : t391 = t389
          ·rw [if_pos c43] at H
           have c43b0 : (t391 == t389) = true := beq_iff_eq.mpr c43
           have c43b1 : (t391 != t389) = false := bne_eq_false_iff_eq.mpr c43
           clear c43
           replace H := Option.bind_eq_some_iff.mp H
           obtain ⟨t392, A440, H⟩ := H
           (try dsimp only at H)
           have A44 := Aside0.mk A440
           clear A440
           replace H := Option.bind_eq_some_iff.mp H
           obtain ⟨⟨t395, t396⟩, A450, H⟩ := H
           (try dsimp only at H)
           have A45 := Aside0.mk A450
           clear A450
           have HC46 := Aside0.mk H
           clear H
           obtain ⟨Ao47, co47, eo47⟩ := Kd.R_slice HO_9.out
           subst eo47
           go_upto_region 25 with (first | ((with_reducible refine gate_callee (f := 19) rfl ?_); refine goesL_ (some 68) rfl rfl Try.func19 (by kernel_rfl) rfl #[.slice Ao47 t377.length co47, .int .i64 1] rfl (by (try simp only [List.map_toArray, List.map_cons, List.map_nil]); first | done | rfl) ?_; (with_reducible refine (laws_markIntS.calls kj26 (fun k_ => some k_ = (.slice Ao47 t377.length co47 : Value).ownBlock) (.slice Ao47 t377.length co47) t377 1 t389 t390 w _ ?side1 ?side2 A40.out).mono ?_); (case side1 => repeat (first | (with_reducible first | exact HB.out | apply below_alloc | apply pw_below_drewN | apply below_drew1) | exact HB.out)); (case side2 => exact Kd.R_tight rfl HO_9.out); rintro e w48 ⟨rfl, hy0, hb, hkp⟩; refine ⟨_, rfl, ?_⟩; replace HO_6 := Aside0.mk (Kd.R_mono (ok' := fun k_ => some k_ ≠ (.slice Ao47 t377.length co47 : Value).ownBlock) (Kd.R_keptB (HO_6.out) hkp (fun k_ hk_ hs_ => (by first | exact (hk_) hs_ | (simp_all; done)))) (fun k_ hk_ => hk_.1)); replace HO_9 := Aside0.mk (Kd.R_reok rfl hy0 (fun k_ e_ => HO_9.out.1 k_ e_)); replace HB := Aside0.mk hb; (try clear hb); (try clear hkp); (try clear hy0)) | ((with_reducible refine gate_callee (f := 20) rfl ?_); refine goesL_ (some 71) rfl rfl Try.func20 (by kernel_rfl) rfl #[.slice Ao47 t390.length co47, .int .i64 1] rfl (by (try simp only [List.map_toArray, List.map_cons, List.map_nil]); first | done | (rw [show t390.length = t377.length from (Kd.R_reads' HO_9.out).1.symm] <;> rfl) | rfl | (simp only [List.length_drop, List.length_take]; rfl)) ?_; (with_reducible refine (laws_heldIntS.calls kj26 _ _ t390 1 t391 _ ?side1 ?side2 A41.out).mono ?_); (case side1 => exact Hof.Cw ((Kd.R_reads' HO_9.out).2.2)); (case side2 => rw [show t390.length = t377.length from (Kd.R_reads' HO_9.out).1.symm]; exact (Kd.R_reads' HO_9.out).2.1); rintro e w' ⟨rfl, ⟨nd, rfl⟩⟩; refine ⟨_, rfl, ?_⟩) | ((with_reducible refine gate_callee (f := 14) rfl ?_); refine goesL_ (some 79) rfl rfl Try.func14 (by kernel_rfl) rfl #[.slice A0 l0.length c0] rfl (by (try simp only [List.map_toArray, List.map_cons, List.map_nil]); first | done | rfl) ?_; (with_reducible refine (laws_toTaskS.calls kj26 _ _ l0 t392 _ ?side1 ?side2 A44.out).mono ?_); (case side1 => exact Hof.Cw (Kd.C_below HR0.out HB.out)); (case side2 => exact HC0.out); rintro e w49 ⟨v393, rfl, ho0, hb⟩; refine ⟨_, rfl, ?_⟩; replace HO_6 := Aside0.mk (Kd.R_below (Hof.Rw HO_6.out) hb); replace HO_9 := Aside0.mk (Kd.R_below (Hof.Rw HO_9.out) hb); have HO394 := Aside0.mk (Kd.R_lower ho0 (below_size (Hof.Lw HB.out))); replace HB := Aside0.mk (below_step (Hof.Lw HB.out) hb); (try clear hb); (try clear hb2); (try clear hk); (try clear hi); (try clear ho0); obtain ⟨Ao50, co50, eo50⟩ := Kd.R_slice HO394.out; subst eo50) | ((with_reducible refine gate_callee (f := 15) rfl ?_); refine goesL_ (some 81) rfl rfl Try.func15 (by kernel_rfl) rfl #[.slice Ao50 t392.length co50, .int .i64 a1] rfl (by (try simp only [List.map_toArray, List.map_cons, List.map_nil]); first | done | rfl) ?_; (with_reducible refine (impl_PlanOf.calls kj26 _ _ t392 a1 t395 t396 _ ?side1 ?side2 A45.out).mono ?_); (case side1 => exact Hof.Cw ((Kd.R_reads' HO394.out).2.2)); (case side2 => exact (Kd.R_reads' HO394.out).2.1); rintro e w51 ⟨v397, rfl, ho0, hb⟩; refine ⟨_, rfl, ?_⟩; replace HO394 := Aside0.mk (Kd.R_below (Hof.Rw HO394.out) hb); have HO398 := Aside0.mk (Kd.R_lower (Kd.R_new' (Kd.R_new' ho0 (Kd.R_lt (Hof.Rw HO_6.out))) (Kd.R_lt (Hof.Rw HO_9.out))) (below_size (Hof.Lw HB.out))); replace HO_6 := Aside0.mk (Kd.R_elder' (Hof.Rw HO_6.out) (Kd.R_base ho0) hb); replace HO_9 := Aside0.mk (Kd.R_elder' (Hof.Rw HO_9.out) (Kd.R_base ho0) hb); replace HB := Aside0.mk (below_step (Hof.Lw HB.out) hb); (try clear hb); (try clear hb2); (try clear hk); (try clear hi); (try clear ho0)))
           (try simp only [Act.put, List.setIfInBounds_toArray, List.set_cons_zero, List.set_cons_succ])
           go_cut [92] (fun v92 wc => ∃ (kq : Nat) (x92_45 : Bool), v92 = .bool x92_45 ∧ Aside0 (laws_FnExactPlanOf.j2 kq t390 t389 x92_45 = some r) ∧ Aside0 (kq ≤ kj26) ∧ Aside0 (Kd.R (Kd.int .i64) 3 wc w.heap.size (fun _ => True) (.slice Ao47 t377.length co47) t390) ∧ Aside0 (Below w.heap.size w wc))
           case first =>
            have H := HC46.out
            clear HC46
            replace H := Option.bind_eq_some_iff.mp H
            obtain ⟨t399, A520, H⟩ := H
            (try dsimp only at H)
            have A52 := Aside0.mk A520
            clear A520
            by_cases c53 : t399 = true
            ·subst c53
             have H1 : (laws_FnExactPlanOf.j2 kj26 t390 t389 (t396 != t371)) = some r := by rw [if_pos rfl] at H; exact H
             clear H
             have H := H1
             clear H1
             have H' := Aside0.mk H
             clear H
             obtain ⟨Ao54, co54, eo54⟩ := Kd.R_slice HO398.out
             subst eo54
             obtain ⟨Ao55, co55, eo55⟩ := Kd.R_slice HO_6.out
             subst eo55
             go_wp2_with (first | ((with_reducible refine gate_callee (f := 16) rfl ?_); refine goesL_ (some 86) rfl rfl Try.func16 (by kernel_rfl) rfl #[.slice Ao54 t395.length co54, .slice Ao55 t370.length co55] rfl (by (try simp only [List.map_toArray, List.map_cons, List.map_nil]); first | done | rfl) ?_; (with_reducible refine (laws_eqIntS.calls kj26 _ _ t395 _ _ t370 true _ ?side1 ?side2 ?side3 ?side4 A52.out).mono ?_); (case side1 => exact Hof.Cw ((Kd.R_reads' HO398.out).2.2)); (case side2 => exact (Kd.R_reads' HO398.out).2.1); (case side3 => exact Hof.Cw ((Kd.R_reads' HO_6.out).2.2)); (case side4 => exact (Kd.R_reads' HO_6.out).2.1); rintro e w' ⟨rfl, ⟨nd, rfl⟩⟩; refine ⟨_, rfl, ?_⟩))
             go_meet
             case rel => exact ⟨_, ((t396 != t371)), (by first | rfl | (simp; done) | (simp [*]; done)), H', ⟨by have := HJ8.out; have := HJ26.out; first | omega | exact Nat.le_refl _⟩, ⟨Hof.Rw (Kd.R_mono HO_9.out (fun _ hk => trivial))⟩, ⟨Hof.Lw HB.out⟩⟩
            ·replace c53 := Bool.eq_false_iff.mpr c53
             subst c53
             have H1 : (laws_FnExactPlanOf.j2 kj26 t390 t389 true) = some r := by rw [if_neg (show ¬ (false = true) by decide)] at H; exact H
             clear H
             have H := H1
             clear H1
             have H' := Aside0.mk H
             clear H
             obtain ⟨Ao56, co56, eo56⟩ := Kd.R_slice HO398.out
             subst eo56
             obtain ⟨Ao57, co57, eo57⟩ := Kd.R_slice HO_6.out
             subst eo57
             go_wp2_with (first | ((with_reducible refine gate_callee (f := 16) rfl ?_); refine goesL_ (some 86) rfl rfl Try.func16 (by kernel_rfl) rfl #[.slice Ao56 t395.length co56, .slice Ao57 t370.length co57] rfl (by (try simp only [List.map_toArray, List.map_cons, List.map_nil]); first | done | rfl) ?_; (with_reducible refine (laws_eqIntS.calls kj26 _ _ t395 _ _ t370 false _ ?side1 ?side2 ?side3 ?side4 A52.out).mono ?_); (case side1 => exact Hof.Cw ((Kd.R_reads' HO398.out).2.2)); (case side2 => exact (Kd.R_reads' HO398.out).2.1); (case side3 => exact Hof.Cw ((Kd.R_reads' HO_6.out).2.2)); (case side4 => exact (Kd.R_reads' HO_6.out).2.1); rintro e w' ⟨rfl, ⟨nd, rfl⟩⟩; refine ⟨_, rfl, ?_⟩))
             go_meet
             case rel => exact ⟨_, (true), (by first | rfl | (simp; done) | (simp [*]; done)), H', ⟨by have := HJ8.out; have := HJ26.out; first | omega | exact Nat.le_refl _⟩, ⟨Hof.Rw (Kd.R_mono HO_9.out (fun _ hk => trivial))⟩, ⟨Hof.Lw HB.out⟩⟩
           case rest =>
            clear HC46
            try clear c1
            try clear c2
            try clear p2
            try clear c3
            try clear c4
            try clear c4b0
            try clear c5
            try clear c12
            try clear c13
            try clear c14
            try clear c15
            try clear c16
            try clear c17
            try clear c18
            try clear c19
            try clear c20
            try clear c22
            try clear c25
            try clear c32
            try clear c32b0
            try clear c34
            try clear c39
            try clear c42
            try clear c42b0
            try clear c43
            try clear c43b0
            try clear c43b1
            try clear c53
            try clear p2
            obtain ⟨kq, x92_45, rfl, HA, HJ45, HO_9, HB⟩ := hcut
            have hl9_45 := (Kd.R_reads' HO_9.out).1
            rw [hl9_45] at HO_9
            (try simp only [hl9_45])
            cases kq with
            | zero => exact absurd HA.out (by simp [laws_FnExactPlanOf.j2])
            | succ kj45 =>
             have H := HA.out
             clear HA
             simp only [laws_FnExactPlanOf.j2] at H
             by_cases c58 : x92_45 = true
             ·subst c58
              have H1 : (some false) = some r := by rw [if_pos rfl] at H; exact H
              clear H
              have H := H1
              clear H1
              obtain rfl := Option.some.inj H
              exact absurd hT.out (by decide)
             ·replace c58 := Bool.eq_false_iff.mpr c58
              subst c58
              have H1 : ((laws_heldIntS.f kj45 t390 1).bind fun t400 => (if t400 < 0 then (some false) else (if t400 = t389 then (some true) else (some false)))) = some r := by rw [if_neg (show ¬ (false = true) by decide)] at H; exact H
              clear H
              have H := H1
              clear H1
              replace H := Option.bind_eq_some_iff.mp H
              obtain ⟨t400, A590, H⟩ := H
              (try dsimp only at H)
              have A59 := Aside0.mk A590
              clear A590
              by_cases c60 : t400 < 0
              ·rw [if_pos c60] at H
               have c60b0 : decide (t400 < 0) = true := decide_eq_true c60
               clear c60
               obtain rfl := Option.some.inj H
               exact absurd hT.out (by decide)
              ·rw [if_neg c60] at H
               have c60b0 : decide (t400 < 0) = false := decide_eq_false c60
               clear c60
               by_cases c61 : t400 = t389
               ·rw [if_pos c61] at H
                have c61b0 : (t400 == t389) = true := beq_iff_eq.mpr c61
                have c61b1 : (t400 != t389) = false := bne_eq_false_iff_eq.mpr c61
                clear c61
                obtain rfl := Option.some.inj H
                go_wp2_with (first | ((with_reducible refine gate_callee (f := 20) rfl ?_); refine goesL_ (some 95) rfl rfl Try.func20 (by kernel_rfl) rfl #[.slice Ao47 t390.length co47, .int .i64 1] rfl (by (try simp only [List.map_toArray, List.map_cons, List.map_nil]); first | done | rfl) ?_; (with_reducible refine (laws_heldIntS.calls kj45 _ _ t390 1 t400 _ ?side1 ?side2 A59.out).mono ?_); (case side1 => exact Hof.Cw ((Kd.R_reads' HO_9.out).2.2)); (case side2 => exact (Kd.R_reads' HO_9.out).2.1); rintro e w' ⟨rfl, ⟨nd, rfl⟩⟩; refine ⟨_, rfl, ?_⟩))
                go_ret
                exact ⟨by first | rfl | (simp [errW_none, errW_some] <;> rfl) | (simp [*, errW_none, errW_some] <;> rfl), by repeat (first | (with_reducible first | exact HB.out | apply below_alloc | apply pw_below_drewN | apply below_drew1) | exact HB.out)⟩
               ·rw [if_neg c61] at H
                have c61b0 : (t400 == t389) = false := beq_eq_false_iff_ne.mpr c61
                have c61b1 : (t400 != t389) = true := bne_iff_ne.mpr c61
                obtain rfl := Option.some.inj H
                exact absurd hT.out (by decide)
          ·rw [if_neg c43] at H
           have c43b0 : (t391 == t389) = false := beq_eq_false_iff_ne.mpr c43
           have c43b1 : (t391 != t389) = true := bne_iff_ne.mpr c43
           obtain rfl := Option.some.inj H
           exact absurd hT.out (by decide)
     ·replace c25 := Bool.eq_false_iff.mpr c25
      subst c25
      have H1 : (some false) = some r := by rw [if_neg (show ¬ (false = true) by decide)] at H; exact H
      clear H
      have H := H1
      clear H1
      obtain rfl := Option.some.inj H
      exact absurd hT.out (by decide)
end Go.Proofs.Ytmpodackojmojaa.Pr
end
section
namespace Go.Proofs.Ytmpodackojmojaa.Gen
open Go.RowKit Go.Proofs.YtmpodackojmojaaW.PrintWords Go.Proofs.YtmpodackojmojaaW.PrintMore
theorem w64 {i : Int} (h0 : -9223372036854775808 ≤ i) (h1 : i ≤ 9223372036854775807) : wrap64 i = i := by
 unfold wrap64
 omega
theorem w64s (i : Nat) (h1 : i < 9223372036854775807) : wrap64 ((i : Int) + 1) = ((i + 1 : Nat) : Int) := by
 unfold wrap64
 omega
theorem rd_nat (xs : List Int) (i : Nat) : rd xs (i : Int) = xs.getD i 0 := rfl
theorem count_loop {σ γ : Type} (L : Nat → σ → Int → Option γ) (n : Nat) (step : Nat → σ → σ) (P : Nat → σ → Prop) (K : Nat)
  (hstep : ∀ k i s, K ≤ k → i < n → P i s → L (k + 1) s (i : Int) = L k (step i s) ((i + 1 : Nat) : Int) ∧ P (i + 1) (step i s)) :
  ∀ (d i : Nat) (s : σ) (k : Nat), i + d = n → K + d ≤ k → P i s → ∃ s', L k s (i : Int) = L (k - d) s' (n : Int) ∧ P n s' ∧ s' = (List.range' i d).foldl (fun s j => step j s) s := by
 intro d
 induction d with
 | zero =>
  intro i s k hi hk hP
  obtain rfl : i = n := by omega
  exact ⟨s, by simp, hP, by simp⟩
 | succ d ih =>
  intro i s k hi hk hP
  obtain ⟨k, rfl⟩ : ∃ m, k = m + 1 := ⟨k - 1, by omega⟩
  obtain ⟨h1, h2⟩ := hstep k i s (by omega) (by omega) hP
  obtain ⟨s', h3, h4, h5⟩ := ih (i + 1) (step i s) k (by omega) (by omega) h2
  refine ⟨s', ?_, h4, ?_⟩
  ·rw [h1, h3]
   congr 1
   omega
  ·rw [h5, List.range'_succ]
   rfl
theorem fill_loop {β γ : Type} (L : Nat → List β → Int → Option γ) (f : Nat → β) (K n : Nat)
  (hstep : ∀ k i ys, K ≤ k → i < n → ys.length = n → L (k + 1) ys (i : Int) = L k (ys.set i (f i)) ((i + 1 : Nat) : Int))
  (ys : List β) (hy : ys.length = n) (k : Nat) (hk : K + n ≤ k) : L k ys 0 = L (k - n) ((List.range n).map f) (n : Int) := by
 obtain ⟨s', h1, h2, _⟩ := count_loop L n (fun i s => s.set i (f i)) (fun i s => s.length = n ∧ ∀ j, j < i → s[j]? = some (f j)) K
  (fun k i s hK hi hP => ⟨hstep k i s hK hi hP.1, by simpa using hP.1, fun j hj => by
   rw [List.getElem?_set]
   by_cases e : i = j
   ·subst e
    rw [if_pos rfl, if_pos (by omega)]
   ·rw [if_neg e]
    exact hP.2 j (by omega)⟩) n 0 ys k (by omega) hk ⟨hy, fun j hj => by omega⟩
 refine h1.trans ?_
 congr 1
 apply List.ext_getElem?
 intro j
 by_cases hj : j < n
 ·rw [h2.2 j hj]
  simp [hj]
 ·rw [List.getElem?_eq_none (by omega), List.getElem?_eq_none (by simp; omega)]
theorem map_getD {α β : Type} (xs : List α) (d : α) (g : α → β) : (List.range xs.length).map (fun i => g (xs.getD i d)) = xs.map g := by
 apply List.ext_getElem?
 intro j
 by_cases hj : j < xs.length
 ·simp [hj, List.getD]
 ·simp [hj]
theorem all_loop (L : Nat → Int → Option Bool) (n : Nat) (p : Nat → Bool) (K : Nat) (last : Bool)
  (hstep : ∀ k i, K ≤ k → i < n → L (k + 1) (i : Int) = if p i = true then L k ((i + 1 : Nat) : Int) else some false)
  (hend : ∀ k, K ≤ k → L (k + 1) (n : Int) = some last) :
  ∀ (d i k : Nat), i + d = n → K + d < k → L k (i : Int) = some ((List.range' i d).all p && last) := by
 intro d
 induction d with
 | zero =>
  intro i k hi hk
  obtain rfl : i = n := by omega
  obtain ⟨k, rfl⟩ : ∃ m, k = m + 1 := ⟨k - 1, by omega⟩
  simp [hend k (by omega)]
 | succ d ih =>
  intro i k hi hk
  obtain ⟨k, rfl⟩ : ∃ m, k = m + 1 := ⟨k - 1, by omega⟩
  rw [hstep k i (by omega) (by omega), List.range'_succ]
  by_cases h : p i = true
  ·rw [if_pos h, ih (i + 1) k (by omega) (by omega)]
   simp [h]
  ·rw [if_neg h]
   simp [h]
theorem ev_loop {σ γ : Type} (L : Nat → σ → Int → Option γ) (n : Nat) (step : Nat → σ → σ) (P : Nat → σ → Prop) (r : γ)
  (hround : ∀ i s, i < n → P i s → P (i + 1) (step i s) ∧ (Ev (fun k => L k (step i s) ((i + 1 : Nat) : Int)) r → Ev (fun k => L k s (i : Int)) r)) :
  ∀ (d i : Nat) (s : σ), i + d = n → P i s → (P n ((List.range' i d).foldl (fun s j => step j s) s) → Ev (fun k => L k ((List.range' i d).foldl (fun s j => step j s) s) (n : Int)) r) → Ev (fun k => L k s (i : Int)) r := by
 intro d
 induction d with
 | zero =>
  intro i s hi hP h
  obtain rfl : i = n := by omega
  exact h (by simpa using hP)
 | succ d ih =>
  intro i s hi hP h
  obtain ⟨h1, h2⟩ := hround i s (by omega) hP
  refine h2 (ih (i + 1) (step i s) (by omega) h1 ?_)
  rw [List.range'_succ] at h
  exact h
theorem ev_at {γ : Type} {g : Nat → Option γ} {r : γ} (K : Nat) (h : ∀ k, K ≤ k → g k = some r) : Ev g r := ⟨K, h⟩
theorem foldl_append (p : Nat → Bool) (l : List Nat) (acc : List Int) : l.foldl (fun s j => if p j = true then s ++ [(j : Int)] else s) acc = acc ++ (l.filter p).map (fun j : Nat => (j : Int)) := by
 induction l generalizing acc with
 | nil => simp
 | cons a l ih =>
  rw [List.foldl_cons, ih]
  by_cases h : p a = true
  ·simp [h]
  ·simp [h]
theorem all_yes (l : List Nat) : (l.all fun _ => true) = true := List.all_eq_true.2 (fun _ _ => rfl)
end Go.Proofs.Ytmpodackojmojaa.Gen
end
section
namespace Go.Proofs.Ytmpodackojmojaa.Base
open Go.RowKit Go.Proofs.Ytmpodackojmojaa.Pr Go.Proofs.YtmpodackojmojaaW.PrintWords Go.Proofs.YtmpodackojmojaaW.PrintLast Go.Proofs.YtmpodackojmojaaW.PrintMore
abbrev TA := S75
abbrev TB := S73
def mkTask (x : TA) : TB := ⟨x.f0, x.f1⟩
theorem toTaskS (xs : List TA) (hn : xs.length ≤ 1048576) (k : Nat) (hk : xs.length < k) : laws_toTaskS.f k xs = some (xs.map mkTask) := by
 unfold laws_toTaskS.f
 rw [if_pos (by omega), if_pos (by omega)]
 rw [Gen.fill_loop (fun k ys i => laws_toTaskS.l0 k xs ys i) (fun i => mkTask (xs.getD i z75)) 0 xs.length (fun k i ys _ hi hy => by
  simp only [laws_toTaskS.l0, laws_toTask.f]
  rw [if_pos (by omega), if_pos (by omega)]
  simp only [Option.bind_some]
  rw [if_pos (by omega), Gen.w64s i (by omega)]
  rfl) _ (by simp) k (by omega), Gen.map_getD xs]
 obtain ⟨m, hm⟩ : ∃ m, k - xs.length = m + 1 := ⟨k - xs.length - 1, by omega⟩
 rw [hm]
 simp only [laws_toTaskS.l0]
 rw [if_neg (by omega)]
theorem eqTaskS (xs : List TB) (hn : xs.length ≤ 1048576) (k : Nat) (hk : xs.length < k) : laws_eqTaskS.f k xs xs = some true := by
 unfold laws_eqTaskS.f
 rw [if_pos rfl]
 have := Gen.all_loop (fun k i => laws_eqTaskS.l0 k xs xs i) xs.length (fun _ => true) 0 true (fun k i _ hi => by
  simp only [laws_eqTaskS.l0, laws_eqTask.f]
  rw [if_pos (by omega), if_pos (by omega), if_pos (by omega), if_pos (by trivial), if_pos (by trivial)]
  simp only [Option.bind_some]
  rw [if_pos (by trivial), Gen.w64s i (by omega), if_pos (by trivial)]) (fun k _ => by
  simp only [laws_eqTaskS.l0]
  rw [if_neg (by omega)]) xs.length 0 k (by omega) (by omega)
 simpa [Gen.all_yes] using this
end Go.Proofs.Ytmpodackojmojaa.Base
end
section
namespace Go.Proofs.Ytmpodackojmojaa.Base
open Go.RowKit Go.Proofs.Ytmpodackojmojaa.Pr Go.Proofs.YtmpodackojmojaaW.PrintWords Go.Proofs.YtmpodackojmojaaW.PrintLast Go.Proofs.YtmpodackojmojaaW.PrintMore
theorem eqIntS (xs : List Int) (hn : xs.length ≤ 1048576) (k : Nat) (hk : xs.length < k) : laws_eqIntS.f k xs xs = some true := by
 unfold laws_eqIntS.f
 rw [if_pos rfl]
 have := Gen.all_loop (fun k i => laws_eqIntS.l0 k xs xs i) xs.length (fun _ => true) 0 true (fun k i _ hi => by
  simp only [laws_eqIntS.l0]
  rw [if_pos (by omega), if_pos (by omega), if_pos (by omega), if_pos (by trivial), Gen.w64s i (by omega), if_pos (by trivial)]) (fun k _ => by
  simp only [laws_eqIntS.l0]
  rw [if_neg (by omega)]) xs.length 0 k (by omega) (by omega)
 simpa [Gen.all_yes] using this
end Go.Proofs.Ytmpodackojmojaa.Base
end
section
namespace Go.Proofs.Ytmpodackojmojaa.Base
open Go.RowKit Go.Proofs.Ytmpodackojmojaa.Pr Go.Proofs.YtmpodackojmojaaW.PrintWords Go.Proofs.YtmpodackojmojaaW.PrintLast Go.Proofs.YtmpodackojmojaaW.PrintMore
theorem eqIntSE (xs : List Int) (hn : xs.length ≤ 1048576) : Ev (fun k => laws_eqIntS.f k xs xs) true := Gen.ev_at (xs.length + 1) (fun k hk => eqIntS xs hn k (by omega))
end Go.Proofs.Ytmpodackojmojaa.Base
end
section
namespace Go.Proofs.Ytmpodackojmojaa.Base
open Go.RowKit Go.Proofs.Ytmpodackojmojaa.Pr Go.Proofs.YtmpodackojmojaaW.PrintWords Go.Proofs.YtmpodackojmojaaW.PrintLast Go.Proofs.YtmpodackojmojaaW.PrintMore
def marks (a : Int) (n : Nat) : List Int := (List.range n).map fun i : Nat => a + (i : Int)
theorem marks_length (a : Int) (n : Nat) : (marks a n).length = n := by simp [marks]
theorem markIntS (xs : List Int) (a : Int) (hn : xs.length ≤ 1048576) (h0 : 0 ≤ a) (h1 : a ≤ 2 ^ 50) : Ev (fun k => laws_markIntS.f k xs a) (a + (xs.length : Int), marks a xs.length) := by
 unfold laws_markIntS.f
 refine Gen.ev_loop (fun k (s : List Int × Int) i => laws_markIntS.l0 k s.1 s.2 i) xs.length (fun i s => (s.1.set i s.2, s.2 + 1)) (fun i s => s.2 = a + (i : Int) ∧ s.1.length = xs.length ∧ ∀ j, j < i → s.1[j]? = some (a + (j : Int))) _ (fun i s hi hP => ⟨?_, fun h => Ev.step (fun k => ?_) h⟩) xs.length 0 (xs, a) (by omega) ⟨by simp, rfl, fun j hj => by omega⟩ (fun hP => Gen.ev_at 1 (fun k hk => ?_))
 ·obtain ⟨p1, p2, p3⟩ := hP
  refine ⟨by show s.2 + 1 = _; rw [p1]; push_cast; omega, by simpa using p2, fun j hj => ?_⟩
  show (s.1.set i s.2)[j]? = _
  rw [List.getElem?_set]
  by_cases e : i = j
  ·subst e
   rw [if_pos rfl, if_pos (by omega), p1]
  ·rw [if_neg e]
   exact p3 j (by omega)
 ·obtain ⟨p1, p2, p3⟩ := hP
  simp only [laws_markIntS.l0]
  rw [if_pos (by omega), if_pos (by omega), Gen.w64s i (by omega), Gen.w64 (i := s.2 + 1) (by omega) (by omega)]
  rfl
 ·obtain ⟨q, rfl⟩ : ∃ q, k = q + 1 := ⟨k - 1, by omega⟩
  generalize (List.range' 0 xs.length).foldl (fun (s : List Int × Int) j => (s.1.set j s.2, s.2 + 1)) (xs, a) = s at hP ⊢
  obtain ⟨p1, p2, p3⟩ := hP
  simp only [laws_markIntS.l0]
  rw [if_neg (by omega), p1]
  congr 2
  apply List.ext_getElem?
  intro j
  by_cases hj : j < xs.length
  ·rw [p3 j hj]
   simp [marks, hj]
  ·rw [List.getElem?_eq_none (by omega), List.getElem?_eq_none (by rw [marks_length]; omega)]
theorem heldIntS (a : Int) (n : Nat) (hn : n ≤ 1048576) (h0 : 0 ≤ a) (h1 : a ≤ 2 ^ 50) : Ev (fun k => laws_heldIntS.f k (marks a n) a) (a + (n : Int)) := by
 unfold laws_heldIntS.f
 refine Gen.ev_loop (fun k (s : Int) i => laws_heldIntS.l0 k (marks a n) s i) n (fun i s => s + 1) (fun i s => s = a + (i : Int)) _ (fun i s hi hP => ⟨?_, fun h => Ev.step (fun k => ?_) h⟩) n 0 a (by omega) (by simp) (fun hP => Gen.ev_at 1 (fun k hk => ?_))
 ·show s + 1 = _
  rw [hP]; push_cast; omega
 ·have hr : rd (marks a n) (i : Int) = s := by
   rw [Gen.rd_nat, hP]
   simp [marks, List.getD, hi]
  simp only [laws_heldIntS.l0]
  rw [if_pos (by rw [marks_length]; omega), if_pos (by omega), if_pos hr, Gen.w64s i (by omega), Gen.w64 (i := s + 1) (by omega) (by omega)]
 ·obtain ⟨q, rfl⟩ : ∃ q, k = q + 1 := ⟨k - 1, by omega⟩
  simp only [laws_heldIntS.l0]
  rw [if_neg (by rw [marks_length]; omega), hP]
end Go.Proofs.Ytmpodackojmojaa.Base
end
section
namespace Go.Proofs.Ytmpodackojmojaa.Base
open Go.RowKit Go.Proofs.Ytmpodackojmojaa.Pr Go.Proofs.YtmpodackojmojaaW.PrintWords Go.Proofs.YtmpodackojmojaaW.PrintLast Go.Proofs.YtmpodackojmojaaW.PrintMore
theorem markTaskS (xs : List TB) (hn : xs.length ≤ 1048576) : ∃ ys, Ev (fun k => laws_markTaskS.f k xs 1) (1 + 2 * (xs.length : Int), ys) := by
 have key : ∀ (d i : Nat) (ys : List TB), ys.length = xs.length → i + d = xs.length → ∃ zs, Ev (fun k => laws_markTaskS.l0 k ys (1 + 2 * (i : Int)) (i : Int)) (1 + 2 * (xs.length : Int), zs) := by
  intro d
  induction d with
  | zero =>
   intro i ys h1 h2
   refine ⟨ys, Ev.step (fun k => ?_) (Ev.now _)⟩
   simp only [laws_markTaskS.l0]
   rw [if_neg (by omega)]
   obtain rfl : i = xs.length := by omega
   rfl
  | succ d ih =>
   intro i ys h1 h2
   obtain ⟨zs, hz⟩ := ih (i + 1) ((ys.set i (⟨1 + 2 * (i : Int), (rd_T73 ys (i : Int)).f1⟩ : TB)).set i (⟨(rd_T73 (ys.set i (⟨1 + 2 * (i : Int), (rd_T73 ys (i : Int)).f1⟩ : TB)) (i : Int)).f0, wrap64 (1 + 2 * (i : Int) + 1)⟩ : TB)) (by simpa using h1) (by omega)
   refine ⟨zs, Ev.step (fun k => ?_) hz⟩
   simp only [laws_markTaskS.l0]
   rw [if_pos (by omega), if_pos (by omega)]
   simp only [Option.bind_some, Int.toNat_natCast]
   rw [Gen.w64s i (by omega)]
   congr 1
   rw [Gen.w64 (i := 1 + 2 * (i : Int) + 1) (by omega) (by omega), Gen.w64 (by omega) (by omega)]
   omega
 exact key xs.length 0 xs rfl (by omega)
theorem toTaskSE (xs : List TA) (hn : xs.length ≤ 1048576) : Ev (fun k => laws_toTaskS.f k xs) (xs.map mkTask) := Gen.ev_at (xs.length + 1) (fun k hk => toTaskS xs hn k (by omega))
theorem eqTaskSE (xs : List TB) (hn : xs.length ≤ 1048576) : Ev (fun k => laws_eqTaskS.f k xs xs) true := Gen.ev_at (xs.length + 1) (fun k hk => eqTaskS xs hn k (by omega))
end Go.Proofs.Ytmpodackojmojaa.Base
end
section
namespace Go.Proofs.Ytmpodackojmojaa.Sets
open Go.RowKit Go.Proofs.YtmpodackojmojaaW.PrintWords Go.Proofs.YtmpodackojmojaaW.PrintMore
theorem wraps_i64 (n : Int) (h0 : 0 ≤ n) (h1 : n < 2 ^ 62) : IntKind.i64.wrap n = n := by
 rw [IntKind.wrap_i64]
 omega
theorem and_nat (a b : Nat) (ha : a < 2 ^ 62) (hb : b < 2 ^ 62) : Go.bits .and .i64 (a : Int) (b : Int) = ((a &&& b : Nat) : Int) := (bits_nat .i64 62 (by decide) wraps_i64 a b ha hb).1
theorem shl_nat (e : Nat) (he : e < 62) : shl .i64 1 (e : Int) = ((2 ^ e : Nat) : Int) := by
 unfold shl
 have h1 : min ((e : Int)).toNat IntKind.i64.bits = e := by
  show min e 64 = e
  omega
 rw [h1, Int.one_mul]
 have h2 : (2 : Nat) ^ e < 2 ^ 62 := Nat.pow_lt_pow_right (by decide) he
 rw [wraps_i64 _ (by exact_mod_cast Nat.zero_le _) (by exact_mod_cast h2)]
 push_cast
 rfl
theorem shr_bit (a e : Nat) (he : e < 62) (ha : a < 2 ^ 62) : ((Go.bits .and .i64 (shr .i64 (a : Int) (e : Int)) 1) == 1) = a.testBit e := by
 unfold shr
 have h1 : min ((e : Int)).toNat IntKind.i64.bits = e := by
  show min e 64 = e
  omega
 rw [h1]
 have h2 : ((a : Int) / 2 ^ e) = ((a / 2 ^ e : Nat) : Int) := by push_cast; rfl
 have h3 : a / 2 ^ e < 2 ^ 62 := Nat.lt_of_le_of_lt (Nat.div_le_self _ _) ha
 rw [h2, show (1 : Int) = ((1 : Nat) : Int) from rfl, and_nat _ 1 h3 (by decide), Nat.testBit_eq_decide_div_mod_eq, Nat.and_one_is_mod]
 by_cases h : a / 2 ^ e % 2 = 1
 ·simp [h]
 ·have h4 : a / 2 ^ e % 2 = 0 := by omega
  simp [h4]
theorem bit_far {a n e : Nat} (ha : a < 2 ^ n) (he : n ≤ e) : a.testBit e = false := Nat.testBit_lt_two_pow (Nat.lt_of_lt_of_le ha (Nat.pow_le_pow_right (by decide) he))
def elems (s : Nat) : List Nat := (List.range' 0 8).filter fun j => s.testBit j
def ints (l : List Nat) : List Int := l.map fun j : Nat => (j : Int)
theorem ints_length (l : List Nat) : (ints l).length = l.length := by simp [ints]
theorem ints_getD (l : List Nat) (i : Nat) : (ints l).getD i 0 = ((l.getD i 0 : Nat) : Int) := by
 by_cases h : i < l.length
 ·simp [ints, List.getD, h]
 ·simp [ints, List.getD, h]
theorem ints_rd (l : List Nat) (i : Nat) : rd (ints l) (i : Int) = ((l.getD i 0 : Nat) : Int) := by rw [Gen.rd_nat, ints_getD]
theorem elems_lt {s j : Nat} (h : j ∈ elems s) : j < 8 ∧ s.testBit j = true := by
 unfold elems at h
 obtain ⟨h1, h2⟩ := List.mem_filter.1 h
 have := List.mem_range'_1.1 h1
 exact ⟨by omega, h2⟩
theorem elems_length (s : Nat) : (elems s).length ≤ 8 := by
 unfold elems
 exact Nat.le_trans (List.length_filter_le _ _) (by simp)
theorem pow_le_256 {m : Nat} (hm : m ≤ 8) : (2 : Nat) ^ m ≤ 256 := Nat.pow_le_pow_right (n := 2) (by decide) hm
end Go.Proofs.Ytmpodackojmojaa.Sets
end
section
namespace Go.Proofs.Ytmpodackojmojaa.Mat
open Go.RowKit Go.Proofs.Ytmpodackojmojaa.Pr Go.Proofs.Ytmpodackojmojaa.Sets Go.Proofs.YtmpodackojmojaaW.PrintWords Go.Proofs.YtmpodackojmojaaW.PrintLast Go.Proofs.YtmpodackojmojaaW.PrintMore
set_option linter.unusedVariables false
def isSet (n s : Int) : Bool := decide (0 ≤ n ∧ n ≤ 8 ∧ 0 ≤ s ∧ s < 2 ^ n.toNat)
theorem implIsSet (n s : Int) : impl_IsSet.f n s = some (isSet n s) := by
 unfold impl_IsSet.f impl_isSize.f isSet
 by_cases h0 : n ≥ 0
 ·rw [if_pos h0]
  simp only [Option.bind_some]
  by_cases h1 : n ≤ 8
  ·rw [if_pos (decide_eq_true h1)]
   obtain ⟨m, rfl⟩ : ∃ m : Nat, n = m := ⟨n.toNat, by omega⟩
   by_cases h2 : s ≥ 0
   ·rw [if_pos h2, if_pos h0, shl_nat m (by omega)]
    congr 1
    rw [decide_eq_decide]
    simp only [Int.toNat_natCast]
    push_cast
    omega
   ·rw [if_neg h2, decide_eq_false (by omega)]
  ·rw [if_neg (by rw [decide_eq_true_eq]; exact h1), decide_eq_false (by omega)]
 ·rw [if_neg h0]
  simp only [Option.bind_some]
  rw [if_neg (by decide), decide_eq_false (by omega)]
theorem specIsSet (n s : Int) : spec_IsSet.f n s = some (isSet n s) := by
 unfold spec_IsSet.f spec_l1In.f isSet
 by_cases h0 : n ≥ 0
 ·rw [if_pos h0]
  simp only [Option.bind_some]
  by_cases h1 : n ≤ 8
  ·rw [if_pos (decide_eq_true h1)]
   obtain ⟨m, rfl⟩ : ∃ m : Nat, n = m := ⟨n.toNat, by omega⟩
   have hu : IntKind.u64.wrap (m : Int) = m := by
    have : m = 0 ∨ m = 1 ∨ m = 2 ∨ m = 3 ∨ m = 4 ∨ m = 5 ∨ m = 6 ∨ m = 7 ∨ m = 8 := by omega
    rcases this with rfl | rfl | rfl | rfl | rfl | rfl | rfl | rfl | rfl <;> decide +kernel
   have hp := pow_le_256 (m := m) (by omega)
   have hp1 : 1 ≤ 2 ^ m := Nat.one_le_two_pow
   rw [hu, if_pos h0, shl_nat m (by omega), Gen.w64 (by omega) (by omega)]
   by_cases h2 : s ≥ 0
   ·rw [if_pos h2]
    simp only [Option.bind_some]
    congr 1
    rw [decide_eq_decide]
    simp only [Int.toNat_natCast]
    have : ((2 : Int) ^ m) = ((2 ^ m : Nat) : Int) := by push_cast; rfl
    rw [this]
    omega
   ·rw [if_neg h2]
    simp only [Option.bind_some]
    rw [decide_eq_false (by omega)]
  ·rw [if_neg (by rw [decide_eq_true_eq]; exact h1), decide_eq_false (by omega)]
 ·rw [if_neg h0]
  simp only [Option.bind_some]
  rw [if_neg (by decide), decide_eq_false (by omega)]
theorem implElem (s : Nat) (j : Nat) (hs : s < 256) (hj : j < 8) : impl_HasElement.f (s : Int) (j : Int) = some (s.testBit j) := by
 unfold impl_HasElement.f impl_isAny.f
 rw [if_pos (by omega)]
 simp only [Option.bind_some]
 rw [if_pos (decide_eq_true (by omega)), if_pos (by omega), if_pos (by omega), if_pos (by omega), shr_bit s j (by omega) (by omega)]
theorem foldl_elems (s : Nat) : ((List.range' 0 8).foldl (fun (acc : List Int) (j : Nat) => if s.testBit j = true then acc ++ [(j : Int)] else acc) []) = ints (elems s) := by
 rw [Gen.foldl_append (fun j => s.testBit j)]
 rfl
theorem implElements (s : Nat) (hs : s < 256) : Ev (fun k => impl_ElementsOf.f k (s : Int)) (ints (elems s)) := by
 unfold impl_ElementsOf.f
 refine Gen.ev_loop (fun k s3 i => impl_ElementsOf.l0 k (s : Int) s3 i) 8 (fun j s3 => if s.testBit j = true then s3 ++ [(j : Int)] else s3) (fun i s3 => s3.length ≤ i) _ (fun i s3 hi hP => ⟨?_, fun h => Ev.step (fun k => ?_) h⟩) 8 0 [] rfl (by simp) (fun _ => Gen.ev_at 1 (fun k hk => ?_))
 ·by_cases hh : s.testBit i = true
  ·rw [if_pos hh]; simp; omega
  ·rw [if_neg hh]; omega
 ·simp only [impl_ElementsOf.l0]
  rw [if_pos (by omega), implElem s i hs hi]
  simp only [Option.bind_some]
  rw [Gen.w64s i (by omega)]
  by_cases hh : s.testBit i = true
  ·rw [if_pos hh, if_pos (by omega), if_pos hh]
  ·rw [if_neg hh, if_neg hh]
 ·obtain ⟨m, rfl⟩ : ∃ m, k = m + 1 := ⟨k - 1, by omega⟩
  simp only [impl_ElementsOf.l0]
  rw [if_neg (by omega), foldl_elems]
end Go.Proofs.Ytmpodackojmojaa.Mat
end
section
namespace Go.Proofs.Ytmpodackojmojaa.Mat
open Go.RowKit Go.Proofs.Ytmpodackojmojaa.Pr Go.Proofs.Ytmpodackojmojaa.Sets Go.Proofs.YtmpodackojmojaaW.PrintWords Go.Proofs.YtmpodackojmojaaW.PrintLast Go.Proofs.YtmpodackojmojaaW.PrintMore
set_option linter.unusedVariables false
theorem u64_small (e : Nat) (he : e < 62) : IntKind.u64.wrap (e : Int) = e := by
 unfold IntKind.wrap
 simp only [IntKind.bits, IntKind.signed, Bool.false_and, Bool.false_eq_true, if_false]
 omega
theorem l2Has (s e : Nat) (hs : s < 256) (he : e < 8) : spec_l2Has.f (s : Int) (e : Int) = some (s.testBit e) := by
 unfold spec_l2Has.f
 rw [u64_small e (by omega), if_pos (by omega), shr_bit s e (by omega) (by omega)]
end Go.Proofs.Ytmpodackojmojaa.Mat
end
section
namespace Go.Proofs.Ytmpodackojmojaa.Task
open Go.RowKit Go.Proofs.Ytmpodackojmojaa.Pr Go.Proofs.Ytmpodackojmojaa.Base Go.Proofs.Ytmpodackojmojaa.Sets Go.Proofs.Ytmpodackojmojaa.Mat Go.Proofs.YtmpodackojmojaaW.PrintWords Go.Proofs.YtmpodackojmojaaW.PrintLast Go.Proofs.YtmpodackojmojaaW.PrintMore
set_option linter.unusedVariables false
def good (x : S73) : Bool := decide (0 ≤ x.f0 ∧ x.f0 ≤ 6 ∧ 0 ≤ x.f1 ∧ x.f1 ≤ 1000)
def all (xs : List S73) : Bool := (List.range' 0 xs.length).all (fun i => good (xs.getD i z73)) && decide ((xs.length : Int) ≤ 8)
theorem specAre (xs : List S73) (hn : xs.length ≤ 1048576) (k : Nat) (hk : xs.length < k) : spec_AreTasks.f k xs = some (all xs) := by
 unfold spec_AreTasks.f
 refine Gen.all_loop (fun k i => spec_AreTasks.l0 k xs i) xs.length (fun i => good (xs.getD i z73)) 0 (decide ((xs.length : Int) ≤ 8)) (fun k i _ hi => ?_) (fun k _ => ?_) xs.length 0 k (by omega) (by omega)
 ·simp only [spec_AreTasks.l0, spec_l1In.f]
  rw [if_pos (by omega), if_pos (by omega), Gen.w64s i (by omega)]
  show ((if (xs.getD i _).f0 ≥ 0 then some (decide ((xs.getD i _).f0 ≤ 6)) else some false).bind _) = _
  unfold good
  by_cases h0 : (xs.getD i z73).f0 ≥ 0
  ·rw [if_pos h0]
   simp only [Option.bind_some]
   by_cases h1 : (xs.getD i z73).f0 ≤ 6
   ·rw [if_pos (by simpa using h1)]
    show ((if (xs.getD i _).f1 ≥ 0 then some (decide ((xs.getD i _).f1 ≤ 1000)) else some false).bind _) = _
    by_cases h2 : (xs.getD i z73).f1 ≥ 0
    ·rw [if_pos h2]
     simp only [Option.bind_some]
     by_cases h3 : (xs.getD i z73).f1 ≤ 1000
     ·rw [if_pos (by simpa using h3), if_pos (decide_eq_true (by omega))]
     ·rw [if_neg (by simpa using h3), if_neg (by rw [decide_eq_true_eq]; omega)]
    ·rw [if_neg h2]
     simp only [Option.bind_some]
     rw [if_neg (by simp), if_neg (by rw [decide_eq_true_eq]; omega)]
   ·rw [if_neg (by simpa using h1), if_neg (by rw [decide_eq_true_eq]; omega)]
  ·rw [if_neg h0]
   simp only [Option.bind_some]
   rw [if_neg (by simp), if_neg (by rw [decide_eq_true_eq]; omega)]
 ·simp only [spec_AreTasks.l0]
  rw [if_neg (by omega)]
theorem implAre (xs : List S73) (hn : xs.length ≤ 1048576) (k : Nat) (hk : xs.length < k) : impl_AreTasks.f k xs = some (all xs) := by
 unfold impl_AreTasks.f
 refine Gen.all_loop (fun k i => impl_AreTasks.l0 k xs xs (xs.length : Int) i) xs.length (fun i => good (xs.getD i z73)) 0 (decide ((xs.length : Int) ≤ 8)) (fun k i _ hi => ?_) (fun k _ => ?_) xs.length 0 k (by omega) (by omega)
 ·simp only [impl_AreTasks.l0]
  rw [if_pos (by omega), if_pos (by omega), if_pos (by omega), Gen.w64s i (by omega)]
  unfold good
  show (if (xs.getD i _).f0 < 0 then _ else _) = _
  by_cases h0 : (xs.getD i z73).f0 < 0
  ·rw [if_pos h0, if_neg (by rw [decide_eq_true_eq]; omega)]
  ·rw [if_neg h0]
   show (if (xs.getD i _).f0 > 6 then _ else _) = _
   by_cases h1 : (xs.getD i z73).f0 > 6
   ·rw [if_pos h1, if_neg (by rw [decide_eq_true_eq]; omega)]
   ·rw [if_neg h1]
    show (if (xs.getD i _).f1 < 0 then _ else _) = _
    by_cases h2 : (xs.getD i z73).f1 < 0
    ·rw [if_pos h2, if_neg (by rw [decide_eq_true_eq]; omega)]
    ·rw [if_neg h2]
     show (if (xs.getD i _).f1 > 1000 then _ else _) = _
     by_cases h3 : (xs.getD i z73).f1 > 1000
     ·rw [if_pos h3, if_neg (by rw [decide_eq_true_eq]; omega)]
     ·rw [if_neg h3, if_pos (decide_eq_true (by omega))]
 ·simp only [impl_AreTasks.l0]
  rw [if_neg (by omega)]
abbrev zT : TB := z73
def dl (xs : List TB) (j : Nat) : Int := (xs.getD j zT).f0
theorem all_good {xs : List TB} (h : all xs = true) : xs.length ≤ 8 ∧ ∀ j, j < xs.length → 0 ≤ dl xs j ∧ dl xs j ≤ 6 ∧ 0 ≤ (xs.getD j zT).f1 ∧ (xs.getD j zT).f1 ≤ 1000 := by
 unfold all at h
 rw [Bool.and_eq_true] at h
 refine ⟨by have := of_decide_eq_true h.2; omega, fun j hj => ?_⟩
 have h2 := List.all_eq_true.1 h.1 j (List.mem_range'_1.2 (by omega))
 exact of_decide_eq_true h2
def ltd (xs : List TB) (a b : Nat) : Bool := decide (dl xs a < dl xs b)
def ordOf (xs : List TB) (s : Nat) : List Nat := SortF.insl (ltd xs) (elems s)
def dayv (o : List Nat) (i j : Nat) : Int := if o.idxOf j < i then ((o.idxOf j + 1 : Nat) : Int) else 0
def okAt (xs : List TB) (o : List Nat) (i : Nat) : Bool := decide (((i + 1 : Nat) : Int) ≤ dl xs (o.getD i 0))
def fits (xs : List TB) (o : List Nat) : Bool := (List.range' 0 o.length).all (okAt xs o)
def plan (xs : List TB) (s : Int) : List Int × Bool := if (all xs && isSet (xs.length : Int) s) = true then (if fits xs (ordOf xs s.toNat) = true then ((elems s.toNat).map (dayv (ordOf xs s.toNat) (ordOf xs s.toNat).length), true) else ([], false)) else ([], false)
theorem elems_nodup (s : Nat) : (elems s).Nodup := by
 unfold elems
 exact List.Pairwise.filter _ (List.nodup_range')
theorem insr_nodup (lt : Nat → Nat → Bool) (x : Nat) : ∀ r : List Nat, r.Nodup → x ∉ r → (SortF.insr lt x r).Nodup
 | [], _, _ => by simp [SortF.insr]
 | y :: r, h, hx => by
  obtain ⟨h1, h2⟩ := List.nodup_cons.1 h
  have hx1 : x ≠ y := fun e => hx (by simp [e])
  have hx2 : x ∉ r := fun e => hx (by simp [e])
  unfold SortF.insr
  split
  ·refine List.nodup_cons.2 ⟨fun hm => ?_, insr_nodup lt x r h2 hx2⟩
   rcases (SortF.insr_mem lt x r y).1 hm with e | e
   ·exact hx1 e.symm
   ·exact h1 e
  ·exact List.nodup_cons.2 ⟨hx, h⟩
theorem insl_nodup (lt : Nat → Nat → Bool) (l : List Nat) (h : l.Nodup) : (SortF.insl lt l).Nodup := by
 unfold SortF.insl
 have key : ∀ (l r : List Nat), l.Nodup → r.Nodup → (∀ x ∈ l, x ∉ r) → (l.foldl (fun r x => SortF.insr lt x r) r).Nodup := by
  intro l
  induction l with
  | nil => exact fun r _ h _ => h
  | cons x l ih =>
   intro r h1 h2 h3
   obtain ⟨h4, h5⟩ := List.nodup_cons.1 h1
   rw [List.foldl_cons]
   refine ih _ h5 (insr_nodup lt x r h2 (h3 x (by simp))) fun z hz hm => ?_
   rcases (SortF.insr_mem lt x r z).1 hm with e | e
   ·exact h4 (e ▸ hz)
   ·exact h3 z (by simp [hz]) e
 have := key l [] h List.nodup_nil (fun _ _ h => by cases h)
 exact (List.reverse_perm _).nodup_iff.2 this
theorem ord_nodup (xs : List TB) (s : Nat) : (ordOf xs s).Nodup := insl_nodup _ _ (elems_nodup s)
theorem ord_mem (xs : List TB) (s j : Nat) : j ∈ ordOf xs s ↔ j ∈ elems s := SortF.insl_mem _ _ _
theorem ord_length (xs : List TB) (s : Nat) : (ordOf xs s).length = (elems s).length := SortF.insl_length _ _
theorem idx_at {o : List Nat} (h : o.Nodup) {i : Nat} (hi : i < o.length) (j : Nat) : o.idxOf j = i ↔ j = o.getD i 0 := by
 have hg : o.getD i 0 = o[i] := by simp [List.getD, hi]
 rw [hg]
 constructor
 ·rintro rfl
  exact (List.getElem_idxOf hi).symm
 ·rintro rfl
  exact List.Nodup.idxOf_getElem h i hi
theorem set_day {ts o : List Nat} (hts : ts.Nodup) (ho : o.Nodup) {i p : Nat} (hi : i < o.length) (hp : p < ts.length) (hat : ts.getD p 0 = o.getD i 0) :
  (ts.map (dayv o i)).set p ((i + 1 : Nat) : Int) = ts.map (dayv o (i + 1)) := by
 apply List.ext_getElem?
 intro q
 rw [List.getElem?_set]
 by_cases e : p = q
 ·subst e
  rw [if_pos rfl, if_pos (by simpa using hp), List.getElem?_map]
  have h1 : ts[p]? = some (o.getD i 0) := by
   rw [← hat]
   simp [List.getD, hp]
  rw [h1]
  show _ = some (dayv o (i + 1) (o.getD i 0))
  unfold dayv
  rw [(idx_at ho hi _).2 rfl, if_pos (by omega)]
 ·rw [if_neg e, List.getElem?_map, List.getElem?_map]
  by_cases hq : q < ts.length
  ·rw [List.getElem?_eq_getElem hq]
   show some (dayv o i ts[q]) = some (dayv o (i + 1) ts[q])
   unfold dayv
   have hne : o.idxOf ts[q] ≠ i := by
    intro h
    have h2 := (idx_at ho hi _).1 h
    rw [← hat] at h2
    have h3 : ts.getD p 0 = ts[p] := by simp [List.getD, hp]
    rw [h3] at h2
    exact e ((List.getElem_inj hts).1 h2.symm)
   by_cases hlt : o.idxOf ts[q] < i
   ·rw [if_pos hlt, if_pos (by omega)]
   ·rw [if_neg hlt, if_neg (by omega)]
  ·rw [List.getElem?_eq_none (by omega)]
   rfl
theorem indexEv (l : List Nat) (x : Nat) (hn : l.length ≤ 1048576) (hx : x ∈ l) : Ev (fun k => slices_Index_int_int.f k (ints l) (x : Int)) ((l.idxOf x : Nat) : Int) := by
 unfold slices_Index_int_int.f
 have hlt : l.idxOf x < l.length := List.idxOf_lt_length_of_mem hx
 have key : ∀ d i : Nat, i + d = l.idxOf x → Ev (fun k => slices_Index_int_int.l0 k (ints l) (x : Int) ((ints l).length : Int) (i : Int)) ((l.idxOf x : Nat) : Int) := by
  intro d
  induction d with
  | zero =>
   intro i hi
   obtain rfl : i = l.idxOf x := by omega
   refine Ev.step (fun k => ?_) (Ev.now _)
   simp only [slices_Index_int_int.l0]
   rw [if_pos (by rw [ints_length]; omega), if_pos (by omega), if_pos (by rw [ints_length]; omega), ints_rd, if_pos]
   have : l.getD (l.idxOf x) 0 = x := by
    have h1 : l.getD (l.idxOf x) 0 = l[l.idxOf x] := by simp [List.getD, hlt]
    rw [h1]
    exact List.getElem_idxOf hlt
   rw [this]
  | succ d ih =>
   intro i hi
   refine Ev.step (fun k => ?_) (ih (i + 1) (by omega))
   simp only [slices_Index_int_int.l0]
   rw [if_pos (by rw [ints_length]; omega), if_pos (by omega), if_pos (by rw [ints_length]; omega), ints_rd, Gen.w64s i (by omega), if_neg]
   intro e
   have h1 : l.getD i 0 = l[i] := by simp [List.getD, show i < l.length by omega]
   have h2 : l[i]'(by omega) = x := by rw [← h1]; omega
   have h3 := List.not_of_lt_findIdx (p := (· == x)) (xs := l) (i := i) (by show i < l.idxOf x; omega)
   rw [h2] at h3
   simp at h3
 exact key (l.idxOf x) 0 (by omega)
theorem rdT (xs : List TB) (j : Nat) : (rd_T73 xs (j : Int)).f0 = dl xs j := rfl
theorem getD_at {α : Type} (l : List α) (d : α) {i : Nat} (hi : i < l.length) : l.getD i d = l[i] := by simp [List.getD, hi]
theorem elems_of {xs : List TB} {s : Nat} (h : all xs = true) (hs : isSet (xs.length : Int) (s : Int) = true) : xs.length ≤ 8 ∧ s < 2 ^ xs.length ∧ s < 256 ∧ ∀ j ∈ elems s, j < xs.length := by
 have hl := (all_good h).1
 unfold isSet at hs
 have h1 := (of_decide_eq_true hs).2.2.2
 have h2 : s < 2 ^ xs.length := by
  rw [Int.toNat_natCast] at h1
  exact_mod_cast h1
 refine ⟨hl, h2, Nat.lt_of_lt_of_le h2 (pow_le_256 hl), fun j hj => ?_⟩
 have hb := (elems_lt hj).2
 refine Nat.lt_of_not_le fun hle => ?_
 rw [bit_far h2 hle] at hb
 cases hb
theorem cf_eq {xs : List TB} (h : all xs = true) {a b : Nat} (ha : a < xs.length) (hb : b < xs.length) : decide (impl_PlanOf.cf xs a b < 0) = ltd xs a b := by
 unfold impl_PlanOf.cf ltd
 rw [rdT, rdT]
 have h1 := (all_good h).2 a ha
 have h2 := (all_good h).2 b hb
 rw [Gen.w64 (by omega) (by omega)]
 by_cases e : dl xs a < dl xs b
 ·rw [decide_eq_true e, decide_eq_true (by omega)]
 ·rw [decide_eq_false e, decide_eq_false (by omega)]
theorem insr_congr {lt lt' : Nat → Nat → Bool} (n : Nat) (h : ∀ a b, a < n → b < n → lt a b = lt' a b) (x : Nat) (hx : x < n) : ∀ r : List Nat, (∀ y ∈ r, y < n) → SortF.insr lt x r = SortF.insr lt' x r
 | [], _ => rfl
 | y :: r, hr => by
  unfold SortF.insr
  rw [h x y hx (hr y (by simp)), insr_congr n h x hx r (fun z hz => hr z (by simp [hz]))]
theorem insl_congr {lt lt' : Nat → Nat → Bool} (n : Nat) (h : ∀ a b, a < n → b < n → lt a b = lt' a b) (l : List Nat) (hl : ∀ y ∈ l, y < n) : SortF.insl lt l = SortF.insl lt' l := by
 unfold SortF.insl
 congr 1
 have key : ∀ (l r : List Nat), (∀ y ∈ l, y < n) → (∀ y ∈ r, y < n) → l.foldl (fun r x => SortF.insr lt x r) r = l.foldl (fun r x => SortF.insr lt' x r) r := by
  intro l
  induction l with
  | nil => exact fun _ _ _ => rfl
  | cons x l ih =>
   intro r h1 h2
   rw [List.foldl_cons, List.foldl_cons, insr_congr n h x (h1 x (by simp)) r h2]
   refine ih _ (fun y hy => h1 y (by simp [hy])) fun y hy => ?_
   rcases (SortF.insr_mem lt' x r y).1 hy with e | e
   ·exact e ▸ h1 x (by simp)
   ·exact h2 y e
 exact key l [] hl (fun _ h => by cases h)
theorem orderEq {xs : List TB} {s : Nat} (h : all xs = true) (hs : isSet (xs.length : Int) (s : Int) = true) : impl_PlanOf.order xs (ints (elems s)) = some (ints (ordOf xs s)) := by
 obtain ⟨h8, _, _, hlt⟩ := elems_of h hs
 unfold impl_PlanOf.order
 have hlen := elems_length s
 rw [if_pos (by rw [ints_length]; omega), if_pos]
 ·have e : (ints (elems s)).map Int.toNat = elems s := by
   unfold ints
   rw [List.map_map]
   refine (List.map_congr_left fun x _ => ?_).trans (List.map_id _)
   rfl
  rw [e, insl_congr xs.length (fun a b ha hb => cf_eq h ha hb) (elems s) hlt]
  rfl
 ·refine List.all_eq_true.2 fun x hx => ?_
  obtain ⟨j, hj, rfl⟩ := List.mem_map.1 hx
  have := hlt j hj
  exact decide_eq_true (by omega)
theorem nat_set (x8 : List Int) (p : Nat) (v : Int) : x8.set ((p : Nat) : Int).toNat v = x8.set p v := rfl
theorem implLoop {xs : List TB} {s : Nat} (h : all xs = true) (hs : isSet (xs.length : Int) (s : Int) = true) : ∀ d i : Nat, i + d = (ordOf xs s).length →
  Ev (fun k => impl_PlanOf.l0 k xs (ints (elems s)) ((elems s).map (dayv (ordOf xs s) i)) (ints (ordOf xs s)) ((ints (ordOf xs s)).length : Int) (i : Int)) (if (List.range' i d).all (okAt xs (ordOf xs s)) = true then ((elems s).map (dayv (ordOf xs s) (ordOf xs s).length), true) else ([], false)) := by
 obtain ⟨h8, _, _, hlt⟩ := elems_of h hs
 have hol := ord_length xs s
 have hel := elems_length s
 intro d
 induction d with
 | zero =>
  intro i hi
  refine Ev.step (fun k => ?_) (Ev.now _)
  simp only [impl_PlanOf.l0]
  rw [if_neg (by rw [ints_length]; omega)]
  obtain rfl : i = (ordOf xs s).length := by omega
  simp
 | succ d ih =>
  intro i hi
  have hmem : (ordOf xs s).getD i 0 ∈ elems s := (ord_mem xs s _).1 (by rw [getD_at _ _ (by omega)]; exact List.getElem_mem _)
  have hjl := hlt _ hmem
  rw [List.range'_succ, List.all_cons]
  have head : ∀ (F : Option (List Int × Bool)) , (if (i : Int) < ((ints (ordOf xs s)).length : Int) then (if (0 : Int) ≤ (i : Int) then (if (i : Int) < ((ints (ordOf xs s)).length : Int) then (if 0 ≤ (rd (ints (ordOf xs s)) (i : Int)) then (if (rd (ints (ordOf xs s)) (i : Int)) < (xs.length : Int) then F else none) else none) else none) else none) else (some ((elems s).map (dayv (ordOf xs s) i), true))) = F := fun F => by
   rw [if_pos (by rw [ints_length]; omega), if_pos (by omega), if_pos (by rw [ints_length]; omega), ints_rd, if_pos (by omega), if_pos (by omega)]
  cases ho : okAt xs (ordOf xs s) i with
  | false =>
   rw [Bool.false_and]
   refine Ev.step (fun k => ?_) (Ev.now _)
   simp only [impl_PlanOf.l0]
   rw [head, ints_rd, rdT, Gen.w64s i (by omega), if_pos]
   ·rfl
   ·unfold okAt at ho
    have := of_decide_eq_false ho
    omega
  | true =>
   rw [Bool.true_and]
   refine Ev.step (f := fun k => (slices_Index_int_int.f k (ints (elems s)) (((ordOf xs s).getD i 0 : Nat) : Int)).bind fun t => if 0 ≤ t then (if t < (((elems s).map (dayv (ordOf xs s) i)).length : Int) then (impl_PlanOf.l0 k xs (ints (elems s)) (((elems s).map (dayv (ordOf xs s) i)).set (t : Int).toNat ((i + 1 : Nat) : Int)) (ints (ordOf xs s)) ((ints (ordOf xs s)).length : Int) ((i + 1 : Nat) : Int)) else (none)) else (none)) (fun k => ?_) (Ev.bind (indexEv (elems s) ((ordOf xs s).getD i 0) (by omega) hmem) ?_)
   ·simp only [impl_PlanOf.l0]
    rw [head, ints_rd, rdT, Gen.w64s i (by omega), if_neg]
    unfold okAt at ho
    have := of_decide_eq_true ho
    omega
   ·have hp := List.idxOf_lt_length_of_mem hmem
    rw [List.length_map]
    have e := set_day (elems_nodup s) (ord_nodup xs s) (i := i) (by omega) hp (by
     rw [getD_at _ _ hp]
     exact List.getElem_idxOf hp)
    simp only [nat_set]
    rw [e]
    simp only [if_pos (show (0 : Int) ≤ ((elems s).idxOf ((ordOf xs s).getD i 0) : Nat) by omega), if_pos (show (((elems s).idxOf ((ordOf xs s).getD i 0) : Nat) : Int) < ((elems s).length : Int) by omega)]
    exact ih (i + 1) (by omega)
theorem isSet_nat {n s : Int} (h : isSet n s = true) : ((s.toNat : Nat) : Int) = s := by
 unfold isSet at h
 have := (of_decide_eq_true h).2.2.1
 omega
theorem zeros (ts o : List Nat) : List.replicate ts.length (0 : Int) = ts.map (dayv o 0) := by
 rw [← List.map_const']
 refine List.map_congr_left fun j _ => ?_
 unfold dayv
 rw [if_neg (by omega)]
theorem implPlan (xs : List TB) (s : Int) (hn : xs.length ≤ 1048576) : Ev (fun k => impl_PlanOf.f k xs s) (plan xs s) := by
 unfold impl_PlanOf.f plan
 refine Ev.bind (Gen.ev_at (xs.length + 1) (fun k hk => implAre xs hn k (by omega))) ?_
 cases ha : all xs with
 | false =>
  simp only [Bool.false_and, Bool.false_eq_true, if_false]
  refine Ev.step (fun k => ?_) (Ev.now _)
  simp only [impl_PlanOf.j0, if_true]
 | true =>
  simp only [if_true, Bool.true_and, implIsSet, Option.bind_some]
  cases hs : isSet (xs.length : Int) s with
  | false =>
   simp only [Bool.false_eq_true, if_false, Bool.not_false]
   refine Ev.step (fun k => ?_) (Ev.now _)
   simp only [impl_PlanOf.j0, if_true]
  | true =>
   have e := isSet_nat hs
   rw [← e] at hs ⊢
   simp only [Bool.not_true, if_true]
   generalize s.toNat = s at hs ⊢
   simp only [Int.toNat_natCast]
   obtain ⟨h8, _, h256, hlt⟩ := elems_of ha hs
   have hel := elems_length s
   refine Ev.step (f := fun k => (impl_ElementsOf.f k (s : Int)).bind fun t => ((impl_PlanOf.order xs ([] ++ t)).bind fun t2 => (if 0 ≤ (t.length : Int) then (if ((t.length : Int) : Int).toNat ≤ 35184372088832 then (if ([] ++ t).length < 17592186044416 then impl_PlanOf.l0 k xs t (List.replicate ((t.length : Int) : Int).toNat 0) t2 (t2.length : Int) 0 else none) else none) else none))) (fun k => ?_) ?_
   ·simp only [impl_PlanOf.j0, Bool.false_eq_true, if_false, Option.bind_some, List.nil_append, List.length_nil, Nat.zero_add]
    congr 1
    funext t
    by_cases hb : t.length < 17592186044416
    ·simp only [if_pos hb]
    ·simp only [if_neg hb]
     cases impl_PlanOf.order xs t with
     | none => rfl
     | some t2 => simp
   ·refine Ev.bind (implElements s h256) ?_
    simp only [List.nil_append]
    rw [orderEq ha hs]
    simp only [Option.bind_some, ints_length, Int.toNat_natCast]
    simp only [if_pos (show (0 : Int) ≤ ((elems s).length : Int) by omega), if_pos (show (elems s).length ≤ 35184372088832 by omega), if_pos (show (elems s).length < 17592186044416 by omega)]
    have := implLoop ha hs (ordOf xs s).length 0 (by omega)
    rw [← zeros] at this
    unfold fits
    rw [ints_length] at this
    exact this
theorem elems_upto {s n : Nat} (hn : n ≤ 8) (hs : s < 2 ^ n) : elems s = (List.range' 0 n).filter fun j => s.testBit j := by
 unfold elems
 have e : List.range' 0 8 = List.range' 0 n ++ List.range' n (8 - n) := by
  have := List.range'_append_1 (s := 0) (m := n) (n := 8 - n)
  rw [Nat.zero_add, show n + (8 - n) = 8 by omega] at this
  exact this.symm
 rw [e, List.filter_append]
 have : (List.range' n (8 - n)).filter (fun j => s.testBit j) = [] := by
  rw [List.filter_eq_nil_iff]
  intro j hj
  have h1 := List.mem_range'_1.1 hj
  rw [bit_far hs h1.1]
  decide
 rw [this, List.append_nil]
theorem filter_succ (p : Nat → Bool) (i : Nat) : (List.range' 0 (i + 1)).filter p = (List.range' 0 i).filter p ++ (if p i = true then [i] else []) := by
 have : List.range' 0 (i + 1) = List.range' 0 i ++ [i] := by
  rw [List.range'_concat]
  simp
 rw [this, List.filter_append]
 congr 1
 by_cases h : p i = true
 ·rw [if_pos h]
  simp [h]
 ·rw [if_neg h]
  simp [h]
theorem filter_le (p : Nat → Bool) (i : Nat) : ((List.range' 0 i).filter p).length ≤ i := Nat.le_trans (List.length_filter_le _ _) (by simp)
theorem splice (k : Nat) (xs : List TB) (s x : Nat) (acc : List Nat) (j : Nat) (hj : j ≤ acc.length) (h8 : acc.length ≤ 8) (hx : x < 8) :
  ((some (([] : List Int) : List Int)).bind fun y114 => (if (0 : Int) ≤ ((j : Nat) : Int) then (if ((j : Nat) : Int) ≤ ((ints acc).length : Int) then ((some ((ints acc).drop ((j : Nat) : Int).toNat : List Int)).bind fun y117 => (if y114.length + y117.length < 17592186044416 then ((some (y114 ++ y117 : List Int)).bind fun y121 => ((some ((ints acc).take ((j : Nat) : Int).toNat : List Int)).bind fun y124 => (if y124.length < 17592186044416 then ((some (y124 ++ [((x : Nat) : Int)] : List Int)).bind fun y127 => (if y127.length + y121.length < 17592186044416 then (spec_l28Order.l0 k xs (s : Int) (y127 ++ y121) (wrap64 (((x : Nat) : Int) + 1))) else (none))) else (none)))) else (none))) else (none)) else (none))) = spec_l28Order.l0 k xs (s : Int) (ints (acc.take j ++ x :: acc.drop j)) ((x + 1 : Nat) : Int) := by
 simp only [Option.bind_some, List.nil_append, List.length_nil, Int.toNat_natCast]
 have h1 : ((ints acc).drop j).length ≤ 8 := by rw [List.length_drop, ints_length]; omega
 have h2 : ((ints acc).take j).length ≤ 8 := by rw [List.length_take, ints_length]; omega
 rw [if_pos (by omega), if_pos (by rw [ints_length]; omega), if_pos (by omega), if_pos (by omega), if_pos (by rw [List.length_append, List.length_singleton]; omega), Gen.w64s x (by omega)]
 congr 1
 simp [ints, List.map_take, List.map_drop]
theorem specInner {xs : List TB} {s x : Nat} (h : all xs = true) (hx : x < xs.length) {r : List Int} : ∀ (Q P : List Nat), (∀ y ∈ P, ltd xs x y = true) → (∀ y ∈ P ++ Q, y < xs.length) → (P ++ Q).length ≤ 8 →
  Ev (fun k => spec_l28Order.l0 k xs (s : Int) (ints (P ++ SortF.insr (ltd xs) x Q).reverse) ((x + 1 : Nat) : Int)) r → Ev (fun k => spec_l28Order.l1 k xs (s : Int) (ints (P ++ Q).reverse) (x : Int) ((Q.length : Nat) : Int)) r := by
 intro Q
 have h8 := (all_good h).1
 induction Q with
 | nil =>
  intro P hP hy hlen hE
  refine Ev.step (fun k => ?_) hE
  simp only [spec_l28Order.l1]
  rw [if_neg (by simp)]
  refine (splice k xs s x (P ++ []).reverse 0 (Nat.zero_le _) (by rw [List.length_reverse]; exact hlen) (by omega)).trans ?_
  congr 1
  simp [SortF.insr]
 | cons y Q ih =>
  intro P hP hy hlen hE
  have hyl : y < xs.length := hy y (by simp)
  have hrd : rd (ints (P ++ y :: Q).reverse) ((Q.length : Nat) : Int) = (y : Int) := by
   rw [ints_rd]
   have e : (P ++ y :: Q).reverse = Q.reverse ++ y :: P.reverse := by simp
   rw [e, List.getD_eq_getElem?_getD, List.getElem?_append_right (by simp)]
   simp
  have hll : ((ints (P ++ y :: Q).reverse).length : Int) = (P.length : Int) + (Q.length : Int) + 1 := by
   rw [ints_length, List.length_reverse, List.length_append, List.length_cons]
   omega
  have hlen' : P.length + Q.length + 1 ≤ 8 := by
   rw [List.length_append, List.length_cons] at hlen
   omega
  have hw : wrap64 (((Q.length + 1 : Nat) : Int) - 1) = ((Q.length : Nat) : Int) := by rw [Gen.w64 (by omega) (by omega)]; omega
  by_cases hl : ltd xs x y = true
  ·have e : SortF.insr (ltd xs) x (y :: Q) = y :: SortF.insr (ltd xs) x Q := by
    show (if ltd xs x y = true then _ else _) = _
    rw [if_pos hl]
   rw [e] at hE
   have := ih (P ++ [y]) (fun z hz => by
    rcases List.mem_append.1 hz with h1 | h1
    ·exact hP z h1
    ·rw [List.mem_singleton] at h1
     exact h1 ▸ hl) (fun z hz => hy z (by simpa using hz)) (by simpa using hlen) (by simpa using hE)
   refine Ev.step (fun k => ?_) (by simpa using this)
   simp only [spec_l28Order.l1]
   rw [List.length_cons, hw, hrd, rdT, rdT, if_pos (by omega), if_pos (by omega), if_pos (by omega), if_pos (by omega), if_pos (by omega), if_pos (by omega), if_pos (by omega), if_pos]
   ·simp
   ·exact of_decide_eq_true hl
  ·have e : SortF.insr (ltd xs) x (y :: Q) = x :: y :: Q := by
    show (if ltd xs x y = true then _ else _) = _
    rw [if_neg hl]
   rw [e] at hE
   refine Ev.step (fun k => ?_) hE
   simp only [spec_l28Order.l1]
   rw [List.length_cons, hw, hrd, rdT, rdT, if_pos (by omega), if_pos (by omega), if_pos (by omega), if_pos (by omega), if_pos (by omega), if_pos (by omega), if_pos (by omega), if_neg]
   ·refine (splice k xs s x (P ++ y :: Q).reverse (Q.length + 1) (by simp) (by rw [List.length_reverse]; exact hlen) (by omega)).trans ?_
    congr 1
    have e1 : (P ++ y :: Q).reverse = (Q.reverse ++ [y]) ++ P.reverse := by simp
    rw [e1, List.take_left' (by simp), List.drop_left' (by simp)]
    simp
   ·intro hc
    exact hl (decide_eq_true hc)
theorem fold_lt (lt : Nat → Nat → Bool) (l : List Nat) (n : Nat) (h : ∀ y ∈ l, y < n) : ∀ y ∈ l.foldl (fun r x => SortF.insr lt x r) [], y < n := fun y hy => by
 rcases (SortF.fold_mem lt l [] y).1 hy with e | e
 ·cases e
 ·exact h y e
theorem specOrder {xs : List TB} {s : Nat} (h : all xs = true) (hs : isSet (xs.length : Int) (s : Int) = true) : Ev (fun k => spec_l28Order.f k xs (s : Int)) (ints (ordOf xs s)) := by
 obtain ⟨h8, h2, h256, hlt⟩ := elems_of h hs
 have key : ∀ d i : Nat, i + d = xs.length → Ev (fun k => spec_l28Order.l0 k xs (s : Int) (ints (((List.range' 0 i).filter fun j => s.testBit j).foldl (fun r x => SortF.insr (ltd xs) x r) []).reverse) (i : Int)) (ints (ordOf xs s)) := by
  intro d
  induction d with
  | zero =>
   intro i hi
   refine Ev.step (fun k => ?_) (Ev.now _)
   simp only [spec_l28Order.l0]
   rw [if_neg (by omega)]
   obtain rfl : i = xs.length := by omega
   rw [← elems_upto h8 h2]
   rfl
  | succ d ih =>
   intro i hi
   have hn := ih (i + 1) (by omega)
   rw [filter_succ, List.foldl_append] at hn
   by_cases hb : s.testBit i = true
   ·rw [if_pos hb] at hn
    refine Ev.step (f := fun k => spec_l28Order.l1 k xs (s : Int) (ints (((List.range' 0 i).filter fun j => s.testBit j).foldl (fun r x => SortF.insr (ltd xs) x r) []).reverse) (i : Int) (((((List.range' 0 i).filter fun j => s.testBit j).foldl (fun r x => SortF.insr (ltd xs) x r) []).length : Nat) : Int)) (fun k => ?_) ?_
    ·simp only [spec_l28Order.l0]
     rw [if_pos (by omega), l2Has s i h256 (by omega)]
     simp only [Option.bind_some]
     rw [if_pos hb, ints_length, List.length_reverse]
    ·have hlen : (((List.range' 0 i).filter fun j => s.testBit j).foldl (fun r x => SortF.insr (ltd xs) x r) []).length ≤ 8 := by
      rw [SortF.fold_length]
      have := filter_le (fun j => s.testBit j) i
      simp only [List.length_nil]
      omega
     refine specInner h (by omega) _ [] (fun _ hy => by cases hy) (fun y hy => ?_) hlen hn
     exact fold_lt _ _ xs.length (fun z hz => by
      have := List.mem_range'_1.1 (List.mem_filter.1 hz).1
      omega) y hy
   ·rw [if_neg hb] at hn
    refine Ev.step (fun k => ?_) hn
    simp only [spec_l28Order.l0]
    rw [if_pos (by omega), l2Has s i h256 (by omega)]
    simp only [Option.bind_some]
    rw [if_neg hb, Gen.w64s i (by omega)]
    rfl
 exact key xs.length 0 (by omega)
theorem specLoop {xs : List TB} {s : Nat} (h : all xs = true) (hs : isSet (xs.length : Int) (s : Int) = true) {r : List Int × Bool} (hr : Ev (fun k => spec_PlanOf.l1 k xs (s : Int) ((List.range xs.length).map (dayv (ordOf xs s) (ordOf xs s).length)) [] 0) r) : ∀ d i : Nat, i + d = (ordOf xs s).length →
  Ev (fun k => spec_PlanOf.l0 k xs (s : Int) (ints (ordOf xs s)) ((List.range xs.length).map (dayv (ordOf xs s) i)) (i : Int)) (if (List.range' i d).all (okAt xs (ordOf xs s)) = true then r else ([], false)) := by
 obtain ⟨h8, _, _, hlt⟩ := elems_of h hs
 have hol := ord_length xs s
 have hel := elems_length s
 intro d
 induction d with
 | zero =>
  intro i hi
  obtain rfl : i = (ordOf xs s).length := by omega
  refine Ev.step (fun k => ?_) hr
  simp only [spec_PlanOf.l0]
  rw [if_neg (by rw [ints_length]; omega)]
 | succ d ih =>
  intro i hi
  have hmem : (ordOf xs s).getD i 0 ∈ elems s := (ord_mem xs s _).1 (by rw [getD_at _ _ (by omega)]; exact List.getElem_mem _)
  have hjl := hlt _ hmem
  rw [List.range'_succ, List.all_cons]
  have head : ∀ (F : Option (List Int × Bool)) (G : Option (List Int × Bool)), (if (i : Int) < ((ints (ordOf xs s)).length : Int) then (if (0 : Int) ≤ (i : Int) then (if 0 ≤ (rd (ints (ordOf xs s)) (i : Int)) then (if (rd (ints (ordOf xs s)) (i : Int)) < (((List.range xs.length).map (dayv (ordOf xs s) i)).length : Int) then (if (rd (ints (ordOf xs s)) (i : Int)) < (xs.length : Int) then F else none) else none) else none) else none) else G) = F := fun F G => by
   rw [if_pos (by rw [ints_length]; omega), if_pos (by omega), ints_rd, if_pos (by omega), if_pos (by rw [List.length_map, List.length_range]; omega), if_pos (by omega)]
  cases ho : okAt xs (ordOf xs s) i with
  | false =>
   rw [Bool.false_and]
   refine Ev.step (fun k => ?_) (Ev.now _)
   simp only [spec_PlanOf.l0]
   rw [head, ints_rd, rdT, Gen.w64s i (by omega), if_pos]
   ·rfl
   ·unfold okAt at ho
    have := of_decide_eq_false ho
    omega
  | true =>
   rw [Bool.true_and]
   refine Ev.step (fun k => ?_) (ih (i + 1) (by omega))
   simp only [spec_PlanOf.l0]
   rw [head, ints_rd, rdT, Gen.w64s i (by omega), if_neg, Int.toNat_natCast]
   ·rw [set_day (List.nodup_range) (ord_nodup xs s) (i := i) (p := (ordOf xs s).getD i 0) (by omega) (by simpa using hjl) (by rw [getD_at _ _ (by simpa using hjl)]; simp)]
   ·unfold okAt at ho
    have := of_decide_eq_true ho
    omega
theorem specOut {xs : List TB} {s : Nat} (h : all xs = true) (hs : isSet (xs.length : Int) (s : Int) = true) (v : Nat → Int) : ∀ d i : Nat, i + d = xs.length →
  Ev (fun k => spec_PlanOf.l1 k xs (s : Int) ((List.range xs.length).map v) (((List.range' 0 i).filter fun j => s.testBit j).map v) (i : Int)) ((elems s).map v, true) := by
 obtain ⟨h8, h2, h256, hlt⟩ := elems_of h hs
 intro d
 induction d with
 | zero =>
  intro i hi
  obtain rfl : i = xs.length := by omega
  refine Ev.step (fun k => ?_) (Ev.now _)
  simp only [spec_PlanOf.l1]
  rw [if_neg (by omega), elems_upto h8 h2]
 | succ d ih =>
  intro i hi
  have hn := ih (i + 1) (by omega)
  rw [filter_succ, List.map_append] at hn
  refine Ev.step (fun k => ?_) hn
  simp only [spec_PlanOf.l1]
  rw [if_pos (by omega), l2Has s i h256 (by omega)]
  simp only [Option.bind_some]
  have hf := filter_le (fun j => s.testBit j) i
  by_cases hb : s.testBit i = true
  ·rw [if_pos hb, if_pos hb, if_pos (by omega), if_pos (by simp; omega), if_pos (by rw [List.length_map]; omega), Gen.w64s i (by omega), Gen.rd_nat]
   congr 2
   rw [getD_at _ _ (by simp; omega)]
   simp
  ·rw [if_neg hb, if_neg hb, Gen.w64s i (by omega)]
   simp
theorem specPlan (xs : List TB) (s : Int) (hn : xs.length ≤ 1048576) : Ev (fun k => spec_PlanOf.f k xs s) (plan xs s) := by
 unfold spec_PlanOf.f plan
 refine Ev.bind (Gen.ev_at (xs.length + 1) (fun k hk => specAre xs hn k (by omega))) ?_
 cases ha : all xs with
 | false =>
  simp only [Bool.false_and, Bool.false_eq_true, if_false]
  refine Ev.step (fun k => ?_) (Ev.now _)
  simp only [spec_PlanOf.j0, if_true]
 | true =>
  simp only [if_true, Bool.true_and, specIsSet, Option.bind_some]
  cases hs : isSet (xs.length : Int) s with
  | false =>
   simp only [Bool.false_eq_true, if_false, Bool.not_false]
   refine Ev.step (fun k => ?_) (Ev.now _)
   simp only [spec_PlanOf.j0, if_true]
  | true =>
   have e := isSet_nat hs
   rw [← e] at hs ⊢
   simp only [Bool.not_true, if_true]
   generalize s.toNat = s at hs ⊢
   simp only [Int.toNat_natCast]
   obtain ⟨h8, _, h256, hlt⟩ := elems_of ha hs
   refine Ev.step (f := fun k => (spec_l28Order.f k xs (s : Int)).bind fun t157 => (if 0 ≤ (xs.length : Int) then (if ((xs.length : Int) : Int).toNat ≤ 35184372088832 then (spec_PlanOf.l0 k xs (s : Int) t157 (List.replicate ((xs.length : Int) : Int).toNat 0) 0) else (none)) else (none))) (fun k => ?_) ?_
   ·simp only [spec_PlanOf.j0, Bool.false_eq_true, if_false]
   ·refine Ev.bind (specOrder ha hs) ?_
    simp only [Int.toNat_natCast, if_pos (show (0 : Int) ≤ (xs.length : Int) by omega), if_pos (show xs.length ≤ 35184372088832 by omega)]
    have := specLoop ha hs (specOut ha hs (dayv (ordOf xs s) (ordOf xs s).length) xs.length 0 (by omega)) (ordOf xs s).length 0 (by omega)
    rw [← zeros, List.length_range] at this
    exact this
end Go.Proofs.Ytmpodackojmojaa.Task
end
section
namespace Go.Proofs.Ytmpodackojmojaa.Pure
open Go.RowKit Go.Proofs.Ytmpodackojmojaa.Pr Go.Proofs.Ytmpodackojmojaa.Base Go.Proofs.Ytmpodackojmojaa.Sets Go.Proofs.Ytmpodackojmojaa.Mat Go.Proofs.Ytmpodackojmojaa.Task Go.Proofs.YtmpodackojmojaaW.PrintWords Go.Proofs.YtmpodackojmojaaW.PrintLast Go.Proofs.YtmpodackojmojaaW.PrintMore
set_option linter.unusedVariables false
theorem plan_length (xs : List TB) (s : Int) : (plan xs s).1.length ≤ 8 := by
 unfold plan
 split
 ·split
  ·rw [List.length_map]
   exact elems_length _
  ·exact Nat.zero_le _
 ·exact Nat.zero_le _
theorem FnExactPlanOf (xs : List TA) (s : Int) (hm : xs.length ≤ maxLen) (_ : (Lit.int .i64 s).wf = true) : ∃ k, laws_FnExactPlanOf.f k xs s = some true := by
 refine Ev.rounds ?_
 unfold maxLen at hm
 unfold laws_FnExactPlanOf.f laws_szTaskS.f
 rw [Gen.w64 (by omega) (by omega)]
 by_cases hbig : 1048576 - (xs.length : Int) < 0
 ·simp only [if_pos hbig, Option.bind_some]
  exact Ev.now _
 ·simp only [if_neg hbig, Option.bind_some]
  have hn : xs.length ≤ 1048576 := by omega
  have hn' : (xs.map mkTask).length ≤ 1048576 := by simpa using hn
  have hpl := plan_length (xs.map mkTask) s
  have hp : (plan (xs.map mkTask) s).1.length ≤ 1048576 := by omega
  have hto := toTaskSE xs hn
  have hi := implPlan (xs.map mkTask) s hn'
  refine Ev.bind hto (Ev.bind (specPlan (xs.map mkTask) s hn') (Ev.bind hto (Ev.bind hi (Ev.bind (eqIntSE _ hp) ?_))))
  simp only [if_true, bne_self_eq_false]
  generalize hP : plan (xs.map mkTask) s = P at hi hp hpl ⊢
  obtain ⟨p, b⟩ := P
  obtain ⟨ys, hys⟩ := markTaskS (xs.map mkTask) hn'
  have hh := heldIntS 1 p.length hp (by decide) (by decide)
  have hj2 : Ev (fun k => laws_FnExactPlanOf.j2 k (marks 1 p.length) (1 + (p.length : Int)) false) true := by
   refine Ev.step (f := fun k => (laws_heldIntS.f k (marks 1 p.length) 1).bind fun t400 => (if t400 < 0 then (some false) else (if t400 = 1 + (p.length : Int) then (some true) else (some false)))) (fun k => ?_) (Ev.bind hh ?_)
   ·simp only [laws_FnExactPlanOf.j2, Bool.false_eq_true, if_false]
   ·simp only [if_neg (show ¬ ((1 : Int) + (p.length : Int) < 0) by omega), if_true]
    exact Ev.now _
  have hj1 : Ev (fun k => laws_FnExactPlanOf.j1 k xs s p b p false) true := by
   refine Ev.step (f := fun k => ((laws_markIntS.f k p 1).bind fun bt389 => ((laws_heldIntS.f k bt389.2 1).bind fun t391 => (if t391 < 0 then (some false) else (if t391 = bt389.1 then ((laws_toTaskS.f k xs).bind fun t392 => ((impl_PlanOf.f k t392 s).bind fun bt395 => ((laws_eqIntS.f k bt395.1 p).bind fun t399 => (if t399 = true then (laws_FnExactPlanOf.j2 k bt389.2 bt389.1 (bt395.2 != b)) else (laws_FnExactPlanOf.j2 k bt389.2 bt389.1 true))))) else (some false)))))) (fun k => ?_) (Ev.bind (markIntS p 1 hp (by decide) (by decide)) (Ev.bind hh ?_))
   ·simp only [laws_FnExactPlanOf.j1, Bool.false_eq_true, if_false]
   ·simp only [if_neg (show ¬ ((1 : Int) + (p.length : Int) < 0) by omega), if_true]
    refine Ev.bind hto (Ev.bind hi (Ev.bind (eqIntSE p hp) ?_))
    simp only [if_true, bne_self_eq_false]
    exact hj2
  refine Ev.step (f := fun k => ((laws_toTaskS.f k xs).bind fun t382 => ((laws_eqTaskS.f k (xs.map mkTask) t382).bind fun t385 => (if t385 = true then ((laws_markTaskS.f k (xs.map mkTask) 1).bind fun bt386 => (if bt386.1 < 0 then (laws_FnExactPlanOf.j1 k xs s p b p true) else ((laws_eqIntS.f k p p).bind fun t388 => (if t388 = true then (laws_FnExactPlanOf.j1 k xs s p b p (b != b)) else (laws_FnExactPlanOf.j1 k xs s p b p true))))) else (some false))))) (fun k => ?_) (Ev.bind hto (Ev.bind (eqTaskSE (xs.map mkTask) hn') ?_))
  ·simp only [laws_FnExactPlanOf.j0, Bool.false_eq_true, if_false]
  ·simp only [if_true]
   refine Ev.bind hys ?_
   simp only [if_neg (show ¬ ((1 : Int) + 2 * ((xs.map mkTask).length : Int) < 0) by omega)]
   refine Ev.bind (eqIntSE p hp) ?_
   simp only [if_true, bne_self_eq_false]
   exact hj1
end Go.Proofs.Ytmpodackojmojaa.Pure
end
