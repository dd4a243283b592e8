/- The claim FnExactUnionOf: every text that its row comes to, laid together by slim.py (the words of the kit's print, the printed walks, the pure law, the row). -/
import Derived.Test.YtbjnkcfkhonkhaaYFnExactUnionOf2
section
namespace Go.Proofs.Ytbjnkcfkhonkhaa.Pr
open Go.RowKit Go.Proofs.YtbjnkcfkhonkhaaW.PrintWords Go.Proofs.YtbjnkcfkhonkhaaW.PrintLast Go.Proofs.YtbjnkcfkhonkhaaW.PrintMore
attribute [local go_sem] max2_int min2_int max_two min_two max_three min_three max_four min_four
set_option linter.unusedVariables false
set_option linter.unusedSimpArgs false
def impl_setsOf.l0 (g : Int → Option Bool) : Nat → Int → List Int → Int → Option (List Int)
 | 0, _, _, _ => none
 | k + 1, x0, x5, x6 => (impl_FullSet.f x0).bind fun t => (if x6 ≤ t then ((g x6).bind fun b => (if b = true then (if x5.length < 17592186044416 then (impl_setsOf.l0 g k x0 (x5 ++ [x6]) (wrap64 (x6 + 1))) else (none)) else (impl_setsOf.l0 g k x0 x5 (wrap64 (x6 + 1))))) else (some x5))
def impl_setsOf.f (k : Nat) (a0 : Int) (g : Int → Option Bool) : Option (List Int) := impl_setsOf.l0 g k a0 [] 0
set_option maxHeartbeats 8000000 in
set_option maxRecDepth 100000 in
theorem impl_setsOf.calls (k : Nat) (a0 : Int) (fv : Value) (g : Int → Option Bool) (r : List Int) (w : World) (hF : Hof.Fun1 Try.prog w fv g) (h : impl_setsOf.f k a0 g = some r) :
  Calls Try.prog 104 #[.int .i64 a0, fv] w fun e w' => ∃ v0_ : Value, e = .returned (v0_) ∧ Kd.R (Kd.int .i64) 3 w' w.heap.size (fun _ => True) v0_ r ∧ Below w.heap.size w w' := by
 have HB := Aside0.mk (Below.refl w.heap.size w)
 obtain ⟨y124, hy124⟩ : ∃ y_ : List Int, y_ = (([] : List Int)) := ⟨_, rfl⟩
 have H : (impl_setsOf.l0 g k a0 y124 0) = some r := by rw [hy124]; exact h
 clear h
 have Ny124 := Aside0.mk hy124
 clear hy124
 have H' := Aside0.mk H
 clear H
 go_enter Try.func104, Try.ntmps104
 go_wp2_with (first | ((with_reducible refine gate_dst (N := 7) rfl ?_); refine Kd.R_lit (Kd.int .i64) _ 3 ?hg (N := 7) ?hd (xs := ([] : List Int)) (inner := []) (ok := fun _ => True) (okp := fun _ => True) ?hr ?hp (fun _ hk => hk) trivial (Below.refl _ _) (Nat.le_refl _) (by simp) ?_; (case hd => rfl); (case hg => rfl); (case hr => first | (go_simp; done) | (go_simp; rfl)); (case hp => exact (Reps.none _ _)); intro v125 w2 ho3 hb hg_ hnew_; clear hg_ hnew_; rw [← Ny124.out] at ho3; have n0_ := Aside0.mk (Kd.R_lower ho3 (below_size HB.out)); have n1_ := Aside0.mk (below_step HB.out hb); clear HB; have HO126 := n0_; have HB := n1_; clear n0_ n1_; clear hb ho3))
 go_loopg [5, 6] k (fun kq v5 v6 w' => ∃ (x5_1 : List Int) (x6_1 : Int), v6 = .int .i64 x6_1 ∧ Aside0 (impl_setsOf.l0 g kq a0 x5_1 x6_1 = some r) ∧ Aside0 (kq ≤ k) ∧ Aside0 (Kd.R (Kd.int .i64) 3 w' w.heap.size (fun _ => True) v5 x5_1) ∧ Aside0 (Below w.heap.size w w'))
 case atStart => exact ⟨y124, 0, rfl, H', ⟨Nat.le_refl _⟩, HO126, HB⟩
 case round =>
  clear H'
  try clear HB
  try clear HO126
  obtain ⟨x5_1, x6_1, rfl, HA, HK1, HO_3, HB⟩ := hrel
  cases gk with
  | zero => exact absurd HA.out (by simp [impl_setsOf.l0])
  | succ k1 =>
   have H := HA.out
   clear HA
   simp only [impl_setsOf.l0] at H
   obtain ⟨t, A40, H⟩ := Option.bind_eq_some_iff.mp H
   have A4 := Aside0.mk A40
   clear A40
   by_cases c4 : x6_1 ≤ t
   ·rw [if_pos c4] at H
    have c4b0 : decide (x6_1 ≤ t) = true := decide_eq_true c4
    clear c4
    obtain ⟨t127, A50, H⟩ := Option.bind_eq_some_iff.mp H
    have A5 := Aside0.mk A50
    clear A50
    by_cases c6 : t127 = true
    ·subst c6
     have H1 : (if x5_1.length < 17592186044416 then (impl_setsOf.l0 g k1 a0 (x5_1 ++ [x6_1]) (wrap64 (x6_1 + 1))) else (none)) = some r := by rw [if_pos rfl] at H; exact H
     clear H
     have H := H1
     clear H1
     by_cases c7 : x5_1.length < 17592186044416
     ·rw [if_pos c7] at H
      have LMc7 := Aside0.mk c7
      clear c7
      obtain ⟨y128, hy128⟩ : ∃ y_ : List Int, y_ = (x5_1 ++ [x6_1]) := ⟨_, rfl⟩
      replace H : (impl_setsOf.l0 g k1 a0 y128 (wrap64 (x6_1 + 1))) = some r := by rw [hy128]; exact H
      have Ny128 := Aside0.mk hy128
      clear hy128
      have H' := Aside0.mk H
      clear H
      go_wp2_with (first | ((with_reducible refine gate_callee (f := 79) rfl ?_); refine goesL_ (some 10) rfl rfl Try.func79 (by kernel_rfl) rfl #[.int .i64 a0] rfl (by (try simp only [List.map_toArray, List.map_cons, List.map_nil]); first | done | rfl) ?_; (with_reducible refine (impl_FullSet.calls a0 t _ A4.out).mono ?_); rintro e w' ⟨rfl, hd⟩; refine ⟨_, rfl, ?_⟩; have n1_ := Aside0.mk (below_step HB.out hd.below); have n0_ := Aside0.mk (Kd.R_below HO_3.out hd.below); clear HB HO_3 hd; have HB := n1_; have HO_3 := n0_; clear n0_ n1_) | ((with_reducible refine gate_dst (N := 16) rfl ?_); refine Hof.goesF_ (some 16) rfl rfl 14 rfl hF A5.out HB.out rfl (by (try simp only [List.map_toArray, List.map_cons, List.map_nil]); first | done | rfl) ?_; intro w5 hb; have n1_ := Aside0.mk (below_step HB.out hb); have n0_ := Aside0.mk (Kd.R_below HO_3.out hb); clear HB HO_3 hb; have HB := n1_; have HO_3 := n0_; clear n0_ n1_) | ((with_reducible refine gate_builtin (b := .append) (xs := #[.tmp 17, .tmp 19]) rfl ?_); at_builtin; refine Kd.R_append (Kd.int .i64) (w0 := w) w.heap.size rfl (.tmp 17) (.tmp 19) 31 3 (.int .i64 0) 8 rfl Try.underlying31 info3 rfl (by decide) (by omega) u5 x5_1 x6_1 [.int .i64 x6_1] (fun _ => True) (fun _ => False) rfl rfl ?aP (fun _ hk => hk.elim) ?aF ?aO ?aB ?aS ?aL ?_; (case aP => exact rfl); (case aB => exact (by repeat (first | (with_reducible first | exact HB.out | apply below_alloc | apply pw_below_drewN | apply below_drew1) | exact HB.out))); (case aF => exact (fun _ _ => trivial)); (case aO => exact (by (with_reducible repeat (first | apply Kd.R_alloc | apply Kd.R_drewN | apply Kd.R_drew)); exact HO_3.out)); (case aS => exact (below_size (by repeat (first | (with_reducible first | exact HB.out | apply below_alloc | apply pw_below_drewN | apply below_drew1) | exact HB.out)))); (case aL => have := LMc7.out; omega); intro v129 w8 ho hb hg hat; rw [← Ny128.out] at ho; have n0_ := Aside0.mk (hb); have n1_ := Aside0.mk (ho); clear HB; clear HO_3; have HB := n0_; have HO130 := n1_; clear n0_ n1_; clear ho hb hg hat))
      go_roundg k1
      case measure => have := HK1.out; omega
      case rel => exact ⟨(y128), (wrap64 (x6_1 + 1)), rfl, H', ⟨by have := HK1.out; omega⟩, HO130, HB⟩
     ·rw [if_neg c7] at H
      exact absurd H (by simp)
    ·replace c6 := Bool.eq_false_iff.mpr c6
     subst c6
     have H1 : (impl_setsOf.l0 g k1 a0 x5_1 (wrap64 (x6_1 + 1))) = some r := by rw [if_neg (show ¬ (false = true) by decide)] at H; exact H
     clear H
     have H' := Aside0.mk H1
     clear H1
     go_wp2_with (first | ((with_reducible refine gate_callee (f := 79) rfl ?_); refine goesL_ (some 10) rfl rfl Try.func79 (by kernel_rfl) rfl #[.int .i64 a0] rfl (by (try simp only [List.map_toArray, List.map_cons, List.map_nil]); first | done | rfl) ?_; (with_reducible refine (impl_FullSet.calls a0 t _ A4.out).mono ?_); rintro e w' ⟨rfl, hd⟩; refine ⟨_, rfl, ?_⟩; have n1_ := Aside0.mk (below_step HB.out hd.below); have n0_ := Aside0.mk (Kd.R_below HO_3.out hd.below); clear HB HO_3 hd; have HB := n1_; have HO_3 := n0_; clear n0_ n1_) | ((with_reducible refine gate_dst (N := 16) rfl ?_); refine Hof.goesF_ (some 16) rfl rfl 14 rfl hF A5.out HB.out rfl (by (try simp only [List.map_toArray, List.map_cons, List.map_nil]); first | done | rfl) ?_; intro w5 hb; have n1_ := Aside0.mk (below_step HB.out hb); have n0_ := Aside0.mk (Kd.R_below HO_3.out hb); clear HB HO_3 hb; have HB := n1_; have HO_3 := n0_; clear n0_ n1_))
     go_roundg k1
     case measure => have := HK1.out; omega
     case rel => exact ⟨x5_1, (wrap64 (x6_1 + 1)), rfl, H', ⟨by have := HK1.out; omega⟩, HO_3, HB⟩
   ·rw [if_neg c4] at H
    have c4b0 : decide (x6_1 ≤ t) = false := decide_eq_false c4
    clear c4
    obtain rfl := Option.some.inj H
    go_wp2_with (first | ((with_reducible refine gate_callee (f := 79) rfl ?_); refine goesL_ (some 10) rfl rfl Try.func79 (by kernel_rfl) rfl #[.int .i64 a0] rfl (by (try simp only [List.map_toArray, List.map_cons, List.map_nil]); first | done | rfl) ?_; (with_reducible refine (impl_FullSet.calls a0 t _ A4.out).mono ?_); rintro e w' ⟨rfl, hd⟩; refine ⟨_, rfl, ?_⟩; have n1_ := Aside0.mk (below_step HB.out hd.below); have n0_ := Aside0.mk (Kd.R_below HO_3.out hd.below); clear HB HO_3 hd; have HB := n1_; have HO_3 := n0_; clear n0_ n1_))
    go_ret
    exact ⟨_, rfl, HO_3.out, HB.out⟩
end Go.Proofs.Ytbjnkcfkhonkhaa.Pr
end
section
namespace Go.Proofs.Ytbjnkcfkhonkhaa.Pr
open Go.RowKit Go.Proofs.YtbjnkcfkhonkhaaW.PrintWords Go.Proofs.YtbjnkcfkhonkhaaW.PrintLast Go.Proofs.YtbjnkcfkhonkhaaW.PrintMore
attribute [local go_sem] max2_int min2_int max_two min_two max_three min_three max_four min_four
set_option linter.unusedVariables false
set_option linter.unusedSimpArgs false
theorem impl_unions.info : (Try.prog.info? 4).map (fun i => (i.zero, i.size, i.bytes)) = some (some (.bool false), 1, 1) := by kernel_rfl
def impl_unions_1.f (h : List Bool) (s : Int) : Option Bool := if 0 ≤ s then (if s < (h.length : Int) then some (rdOf false h s) else none) else none
mutual
def impl_unions.l0 : Nat → Int → List Int → List Int → List Bool → Int → Option (List Int)
 | 0, _, _, _, _, _ => none
 | k + 1, a0, la, lb, h, x17 => if x17 < (la.length : Int) then (if 0 ≤ x17 then (impl_unions.l1 k a0 la lb h x17 0) else (none)) else (impl_setsOf.f k a0 (fun s => impl_unions_1.f h s))
def impl_unions.l1 : Nat → Int → List Int → List Int → List Bool → Int → Int → Option (List Int)
 | 0, _, _, _, _, _, _ => none
 | k + 1, a0, la, lb, h, x17, x23 => if x23 < (lb.length : Int) then (if 0 ≤ x23 then (if 0 ≤ Go.bits .or .i64 (rd la x17) (rd lb x23) then (if Go.bits .or .i64 (rd la x17) (rd lb x23) < (h.length : Int) then (impl_unions.l1 k a0 la lb (h.set (Go.bits .or .i64 (rd la x17) (rd lb x23)).toNat true) x17 (wrap64 (x23 + 1))) else (none)) else (none)) else (none)) else (impl_unions.l0 k a0 la lb h (wrap64 (x17 + 1)))
end
def impl_unions.f (k : Nat) (a0 : Int) (la : List Int) (lb : List Int) : Option (List Int) := if 0 ≤ a0 then (if a0 ≤ 8 then (impl_unions.l0 k a0 la lb (List.replicate (shl .i64 1 a0).toNat false) 0) else (none)) else (none)
theorem impl_unions.shl_b : ∀ m : Nat, m < 9 → 1 ≤ shl .i64 1 (m : Int) ∧ shl .i64 1 (m : Int) ≤ 256 := by decide +kernel
set_option maxHeartbeats 8000000 in
set_option maxRecDepth 100000 in
theorem impl_unions_1.calls (gb : Nat) (Ah : Option Addr) (ch : Nat) (h : List Bool) (s : Int) (b : Bool) (w : World) (hbk : w.heap[gb]? = some (.cells #[.slice Ah h.length ch] 105 (0, 0))) (hh : Kd.C Kd.bool w Ah h.length h) (H : impl_unions_1.f h s = some b) :
  Calls Try.prog 132 #[.int .i64 s, .pointer (some ⟨gb, 0, none⟩)] w fun e w' => e = .returned (.bool b) ∧ Below w.heap.size w w' := by
 have hcz5_0 : w.cell? ⟨gb, 0, none⟩ = some (.slice Ah h.length ch) := (blk_cell hbk 0).trans rfl
 unfold impl_unions_1.f at H
 by_cases p : 0 ≤ s
 case neg => rw [if_neg p] at H; exact absurd H (by simp)
 by_cases q : s < (h.length : Int)
 case neg => rw [if_pos p, if_neg q] at H; exact absurd H (by simp)
 rw [if_pos p, if_pos q] at H
 obtain rfl := Option.some.inj H
 obtain ⟨ad, e1, hx⟩ := Kd.at_bool hh s p q
 cases e1
 have p0 : decide (0 ≤ s) = true := decide_eq_true p
 have q0 : decide (s < (h.length : Int)) = true := decide_eq_true q
 replace p := eq_true p
 replace q := eq_true q
 clear hbk H hh
 go_enter Try.func132, Try.ntmps132
 go_wp2
 go_ret
 exact ⟨rfl, Below.refl _ _⟩
theorem impl_unions_1.fun1 (gb : Nat) (Ah : Option Addr) (ch : Nat) (h : List Bool) (w : World) (hbk : w.heap[gb]? = some (.cells #[.slice Ah h.length ch] 105 (0, 0))) (hh : Kd.C Kd.bool w Ah h.length h) :
  Hof.Fun1 Try.prog w (.func (.func 132) #[] #[.pointer (some ⟨gb, 0, none⟩)]) (fun s => impl_unions_1.f h s) :=
 ⟨⟨132, #[.pointer (some ⟨gb, 0, none⟩)], Try.f132, rfl, Try.func132, by kernel_rfl, rfl, fun s b w' hw hg => impl_unions_1.calls gb Ah ch h s b w' (blk_below hbk hw) (Kd.C_below hh hw) hg⟩⟩
set_option maxHeartbeats 8000000 in
set_option maxRecDepth 100000 in
theorem impl_unions.calls (k : Nat) (a0 : Int) (A1 : Option Addr) (c1 : Nat) (la : List Int) (A2 : Option Addr) (c2 : Nat) (lb : List Int) (r : List Int) (w : World) (hr1 : Kd.C (Kd.int .i64) w A1 la.length la) (hc1 : la.length ≤ c1) (hr2 : Kd.C (Kd.int .i64) w A2 lb.length lb) (hc2 : lb.length ≤ c2) (h : impl_unions.f k a0 la lb = some r) :
  Calls Try.prog 95 #[.int .i64 a0, .slice A1 la.length c1, .slice A2 lb.length c2] w fun e w' => ∃ v0_ : Value, e = .returned (v0_) ∧ Kd.R (Kd.int .i64) 3 w' w.heap.size (fun _ => True) v0_ r ∧ Below w.heap.size w w' := by
 have HR1 := Aside0.mk hr1
 have HR2 := Aside0.mk hr2
 have HB := Aside0.mk (Below.refl w.heap.size w)
 clear hr1 hr2 hc1 hc2
 unfold impl_unions.f at h
 by_cases c4 : 0 ≤ a0
 case neg => rw [if_neg c4] at h; exact absurd h (by simp)
 by_cases c5 : a0 ≤ 8
 case neg => rw [if_pos c4, if_neg c5] at h; exact absurd h (by simp)
 rw [if_pos c4, if_pos c5] at h
 have HJ := Aside0.mk (impl_unions.shl_b a0.toNat (by omega))
 rw [Int.toNat_of_nonneg c4] at HJ
 obtain ⟨ji, hji⟩ : ∃ j_ : Int, (shl .i64 1 a0) = j_ := ⟨_, rfl⟩
 rw [hji] at h HJ
 obtain ⟨nn, rfl⟩ : ∃ nn : Nat, ji = (nn : Int) := ⟨ji.toNat, by have := HJ.out; omega⟩
 rw [Int.toNat_natCast] at h
 have H' := Aside0.mk h
 clear h
 have c4b0 := eq_true c4
 have c4b1 : decide (0 ≤ a0) = true := decide_eq_true c4
 have hji_ : (IntKind.i64.wrap (1 * 2 ^ min a0.toNat 64)) = (nn : Int) := hji
 have hjiz : a0 ≤ 64 → (IntKind.i64.wrap (1 * 2 ^ a0.toNat)) = (nn : Int) := shl_small hji
 have hjiu : (IntKind.i64.wrap (2 ^ min a0.toNat 64)) = (nn : Int) := by have h_ := hji_; rw [Int.one_mul] at h_; exact h_
 have hjiv : a0 ≤ 64 → (IntKind.i64.wrap (2 ^ a0.toNat)) = (nn : Int) := fun hle_ => by have h_ := hjiz hle_; rw [Int.one_mul] at h_; exact h_
 have hjiy : (wrap64 (1 * 2 ^ min a0.toNat 64)) = (nn : Int) := (i64_w _).symm.trans hji_
 have hjix : a0 ≤ 64 → (wrap64 (1 * 2 ^ a0.toNat)) = (nn : Int) := fun h_ => (i64_w _).symm.trans (hjiz h_)
 clear c4 c5
 go_enter Try.func95, Try.ntmps95
 go_wp2_with (first | ((with_reducible refine gate_dst (N := 14) rfl ?_); refine Kd.R_make Kd.bool _ 4 rfl (N := 14) rfl 105 _ _ rfl (nn : Int) rfl rfl Try.underlying105 (.bool false) 1 impl_unions.info rfl (by decide) (by omega) false (ok := fun _ => True) (okp := fun _ => True) rfl (fun _ hk => hk) trivial (by have := HJ.out; omega) (by have := HJ.out; omega) (Below.refl _ _) (Nat.le_refl _) ?_; intro vh w50 ho hb hg_ hnew_; clear hg_ hnew_; have HOh := Aside0.mk (Kd.R_lower ho (below_size HB.out)); replace HB := Aside0.mk (below_step HB.out hb); clear ho hb; obtain ⟨go, co, eo, _, _, _⟩ := Kd.R_form HOh.out (by rw [List.length_replicate]; have := HJ.out; omega); subst eo; rw [List.length_replicate, Int.toNat_natCast] at HOh) | ((with_reducible refine gate_dst (N := 7) rfl ?_); refine box_event ?hg (N := 7) ?hd (cs := #[.slice none 0 0]) (t := 105) ?hr ?_; (case hd => rfl); (case hg => rfl); (case hr => first | (go_simp; done) | (go_simp; rfl)); intro gb7 hg w101 hbox hb; have GEgb7 := Aside0.mk ((by rw [hg]; exact below_size HB.out) : w.heap.size ≤ gb7); have HGgb7 := Aside0.mk hg; have HNgb7 := Aside0.mk hb; have BKgb7 := Aside0.mk hbox; clear hb hg hbox; have hczgb7_0 : w101.cell? ⟨gb7, 0, none⟩ = some (.slice none 0 0) := (blk_cell BKgb7.out 0).trans rfl; have hfzgb7_0 := blk_frozen BKgb7.out 0) | ((with_reducible refine gate_store (t := 105) (p := 7) rfl ?_); refine store_event (t := 105) (p := 7) (v := ?vo1) (w1 := (w101.setCell ⟨gb7, 0, none⟩ (.slice (some ⟨go, 0, none⟩) nn co))) ?hg ?ho ?hn ?hr ?_; (case ho => rfl); (case hg => rfl); (case hn => rfl); (case hr => first | (go_simp; done) | (go_simp; rfl)); intro w102 hw; have hb := (show Below _ _ w102 from (by rw [hw]; exact below_set HNgb7.out (Nat.le_of_eq HGgb7.out.symm))); have m5 : Aside0 (w102.heap[gb7]? = some (.cells #[.slice (some ⟨go, 0, none⟩) nn co] 105 (0, 0))) := ⟨by rw [hw]; exact blk_put BKgb7.out 0 _ rfl⟩; clear BKgb7 hw hczgb7_0 hfzgb7_0; have m_ := Aside0.mk (Kd.R_below HOh.out hb); clear HOh; have HOh := m_; clear m_; have n0_ := Aside0.mk (below_step HB.out hb); clear HB; have HB := n0_; clear n0_; have BKgb7 := m5; clear m5 hb HNgb7 HGgb7; have hczgb7_0 : w102.cell? ⟨gb7, 0, none⟩ = some (.slice (some ⟨go, 0, none⟩) nn co) := (blk_cell BKgb7.out 0).trans rfl; have hfzgb7_0 := blk_frozen BKgb7.out 0))
 replace HOh := Aside0.mk (Kd.R_types HOh.out BKgb7.out (by decide))
 clear hji_ hjiz hjiu hjiv hjiy hjix c4b0 c4b1 hczgb7_0 hfzgb7_0
 go_loopg [17] k (fun kq v17 w' => ∃ (h_1 : List Bool) (x17_1 : Int), v17 = .int .i64 x17_1 ∧ Aside0 (impl_unions.l0 kq a0 la lb h_1 x17_1 = some r) ∧ Aside0 (kq ≤ k) ∧ Aside0 (Kd.R Kd.bool 4 w' w.heap.size (fun k_ => True ∧ k_ ≠ gb7) (.slice (some ⟨go, 0, none⟩) nn co) h_1) ∧ Aside0 (w'.heap[gb7]? = some (.cells #[(.slice (some ⟨go, 0, none⟩) nn co)] 105 (0, 0))) ∧ Aside0 (Below w.heap.size w w'))
 case atStart => exact ⟨_, 0, rfl, H', ⟨Nat.le_refl _⟩, HOh, BKgb7, HB⟩
 case round =>
  clear H' HOh BKgb7 HB
  obtain ⟨h, x17_1, rfl, HA, HK1, HOh, BKgb7, HB⟩ := hrel
  cases gk with
  | zero => exact absurd HA.out (by simp [impl_unions.l0])
  | succ k1 =>
   have H := HA.out
   clear HA
   rw [impl_unions.l0] at H
   have HLn := Aside0.mk (Kd.R_reads' HOh.out).1
   by_cases c3 : x17_1 < (la.length : Int)
   case neg =>
    rw [if_neg c3] at H
    have c3b0 : decide (x17_1 < (la.length : Int)) = false := decide_eq_false c3
    clear c3
    have H' := Aside0.mk H
    clear H
    have hczgb7_0 : wr.cell? ⟨gb7, 0, none⟩ = some (.slice (some ⟨go, 0, none⟩) nn co) := (blk_cell BKgb7.out 0).trans rfl
    have hfzgb7_0 := blk_frozen BKgb7.out 0
    go_wp2_with (first | ((with_reducible refine gate_callee (f := 104) rfl ?_); refine goesL_ (some 36) rfl rfl Try.func104 (by kernel_rfl) rfl #[.int .i64 a0, .func (.func 132) #[] #[.pointer (some ⟨gb7, 0, none⟩)]] rfl (by (try simp only [List.map_toArray, List.map_cons, List.map_nil]); first | done | rfl) ?_; (with_reducible refine (impl_setsOf.calls k1 a0 _ (fun s => impl_unions_1.f h s) r _ (impl_unions_1.fun1 gb7 _ co h _ (by rw [← HLn.out]; exact BKgb7.out) (Kd.R_reads' HOh.out).2.2) H'.out).mono ?_); rintro e w101 ⟨vr, rfl, ho0, hb⟩; refine ⟨_, rfl, ?_⟩; clear hczgb7_0 hfzgb7_0; have Nr := Aside0.mk (Kd.R_lower ho0 (below_size HB.out)); have m_ := Aside0.mk (blk_below BKgb7.out hb); clear BKgb7; have BKgb7 := m_; clear m_; have m_ := Aside0.mk (Kd.R_below HOh.out hb); clear HOh; have HOh := m_; clear m_; have n0_ := Aside0.mk (below_step HB.out hb); clear HB; have HB := n0_; clear n0_; have HOr := Nr; clear Nr ho0; clear hb))
    go_ret
    exact ⟨_, rfl, HOr.out, HB.out⟩
   rw [if_pos c3] at H
   have c3b0 : decide (x17_1 < (la.length : Int)) = true := decide_eq_true c3
   clear c3
   by_cases c4 : 0 ≤ x17_1
   case neg => rw [if_neg c4] at H; exact absurd H (by simp)
   rw [if_pos c4] at H
   have c4b0 : decide (0 ≤ x17_1) = true := decide_eq_true c4
   clear c4
   have H' := Aside0.mk H
   clear H
   have p1 : 0 ≤ (x17_1 : Int) := of_decide_eq_true (by assumption)
   have q1 : x17_1 < (la.length : Int) := of_decide_eq_true (by assumption)
   obtain ⟨ad1, e1, hx1_0⟩ := Kd.at_int HR1.out x17_1 p1 q1
   cases e1
   replace hx1_0 := (HB.out.cell (World.block_lt_of_cell? w _ hx1_0)).trans hx1_0
   obtain ⟨aa, haa⟩ : ∃ j_ : Int, rd la x17_1 = j_ := ⟨_, rfl⟩
   rw [haa] at hx1_0
   have HAA := Aside0.mk haa
   clear haa
   replace p1 := eq_true p1
   replace q1 := eq_true q1
   go_wp2
   clear hx1_0
   go_loopg [23] k1 (fun kq v23 w' => ∃ (h_1 : List Bool) (x23_1 : Int), v23 = .int .i64 x23_1 ∧ Aside0 (impl_unions.l1 kq a0 la lb h_1 x17_1 x23_1 = some r) ∧ Aside0 (kq ≤ k1) ∧ Aside0 (Kd.R Kd.bool 4 w' w.heap.size (fun k_ => True ∧ k_ ≠ gb7) (.slice (some ⟨go, 0, none⟩) nn co) h_1) ∧ Aside0 (w'.heap[gb7]? = some (.cells #[(.slice (some ⟨go, 0, none⟩) nn co)] 105 (0, 0))) ∧ Aside0 (Below w.heap.size w w'))
   case atStart => exact ⟨h, 0, rfl, H', ⟨Nat.le_refl _⟩, HOh, BKgb7, HB⟩
   case round =>
    clear H' HOh BKgb7 HB HLn
    obtain ⟨h, x23_1, rfl, HA, HK2, HOh, BKgb7, HB⟩ := hrel
    cases gk with
    | zero => exact absurd HA.out (by simp [impl_unions.l1])
    | succ k2 =>
     have H := HA.out
     clear HA
     rw [impl_unions.l1] at H
     have HLn := Aside0.mk (Kd.R_reads' HOh.out).1
     by_cases c5 : x23_1 < (lb.length : Int)
     case neg =>
      rw [if_neg c5] at H
      have c5b0 : decide (x23_1 < (lb.length : Int)) = false := decide_eq_false c5
      clear c5
      have H' := Aside0.mk H
      clear H
      go_wp2
      go_roundg k2
      case measure => have := HK1.out; have := HK2.out; omega
      case rel => exact ⟨h, (wrap64 (x17_1 + 1)), rfl, H', ⟨by have := HK1.out; have := HK2.out; omega⟩, HOh, BKgb7, HB⟩
     rw [if_pos c5] at H
     have c5b0 : decide (x23_1 < (lb.length : Int)) = true := decide_eq_true c5
     clear c5
     by_cases c6 : 0 ≤ x23_1
     case neg => rw [if_neg c6] at H; exact absurd H (by simp)
     rw [if_pos c6, HAA.out] at H
     have c6b0 : decide (0 ≤ x23_1) = true := decide_eq_true c6
     clear c6
     obtain ⟨bb, hbb⟩ : ∃ j_ : Int, rd lb x23_1 = j_ := ⟨_, rfl⟩
     rw [hbb] at H
     obtain ⟨jj, hjj⟩ : ∃ j_ : Int, Go.bits .or .i64 aa bb = j_ := ⟨_, rfl⟩
     rw [hjj] at H
     by_cases c7 : 0 ≤ jj
     case neg => rw [if_neg c7] at H; exact absurd H (by simp)
     by_cases c8 : jj < (h.length : Int)
     case neg => rw [if_pos c7, if_neg c8] at H; exact absurd H (by simp)
     rw [if_pos c7, if_pos c8] at H
     have H' := Aside0.mk H
     clear H
     have p2 : 0 ≤ (x23_1 : Int) := of_decide_eq_true (by assumption)
     have q2 : x23_1 < (lb.length : Int) := of_decide_eq_true (by assumption)
     obtain ⟨ad2, e2, hx2_0⟩ := Kd.at_int HR2.out x23_1 p2 q2
     cases e2
     replace hx2_0 := (HB.out.cell (World.block_lt_of_cell? w _ hx2_0)).trans hx2_0
     rw [hbb] at hx2_0
     clear hbb
     have c8' : jj < (nn : Int) := by have := HLn.out; omega
     obtain ⟨hx3_0, hf3_0⟩ := Kd.R_celln false HOh.out jj c7 c8'
     have HP := Kd.R_putg HOh.out jj true
     have HGB := Aside0.mk (Kd.R_base HOh.out go rfl)
     have HNE := Aside0.mk (HOh.out.1 go rfl).2
     have c7b0 : decide (0 ≤ jj) = true := decide_eq_true c7
     have c8b0 : decide (jj < (nn : Int)) = true := decide_eq_true c8'
     replace c7 := eq_true c7
     replace c8' := eq_true c8'
     replace p2 := eq_true p2
     replace q2 := eq_true q2
     have hczgb7_0 : wr.cell? ⟨gb7, 0, none⟩ = some (.slice (some ⟨go, 0, none⟩) nn co) := (blk_cell BKgb7.out 0).trans rfl
     have hfzgb7_0 := blk_frozen BKgb7.out 0
     clear HLn c8
     have n0_ : Aside0 (Kd.R Kd.bool 4 (wr.setCell ⟨go, (jj : Int).toNat, none⟩ (.bool true)) w.heap.size (fun k_ => True ∧ k_ ≠ gb7) (.slice (some ⟨go, 0, none⟩) nn co) (h.set (jj : Int).toNat true)) := ⟨HP.1⟩
     have n1_ : Aside0 ((wr.setCell ⟨go, (jj : Int).toNat, none⟩ (.bool true)).heap[gb7]? = some (.cells #[(.slice (some ⟨go, 0, none⟩) nn co)] 105 (0, 0))) := ⟨(Below.heap_setCell wr ⟨go, (jj : Int).toNat, none⟩ (.bool true) gb7 (fun e_ => HNE.out e_.symm)).trans BKgb7.out⟩
     have n2_ : Aside0 (Below w.heap.size w (wr.setCell ⟨go, (jj : Int).toNat, none⟩ (.bool true))) := ⟨below_set HB.out HGB.out⟩
     clear HP HOh BKgb7 HB HNE HGB
     go_wp2
     go_roundg k2
     case measure => have := HK1.out; have := HK2.out; omega
     case rel => exact ⟨_, (wrap64 (x23_1 + 1)), rfl, H', ⟨by have := HK1.out; have := HK2.out; omega⟩, n0_, n1_, n2_⟩
end Go.Proofs.Ytbjnkcfkhonkhaa.Pr
end
section
namespace Go.Proofs.Ytbjnkcfkhonkhaa.Pr
open Go.RowKit Go.Proofs.YtbjnkcfkhonkhaaW.PrintWords Go.Proofs.YtbjnkcfkhonkhaaW.PrintLast Go.Proofs.YtbjnkcfkhonkhaaW.PrintMore
attribute [local go_sem] max2_int min2_int max_two min_two max_three min_three max_four min_four
set_option linter.unusedVariables false
set_option linter.unusedSimpArgs false
def impl_independent.l0 : Nat → Int → List Int → Int → Int → Option (Bool)
 | 0, _, _, _, _ => none
 | k + 1, x1, x8, x9, x10 => if x10 < x9 then (if 0 ≤ x10 then (if x10 < (x8.length : Int) then ((impl_IsSubset.f x1 (rd x8 x10)).bind fun t975 => (if t975 = true then (some true) else (impl_independent.l0 k x1 x8 x9 (wrap64 (x10 + 1))))) else (none)) else (none)) else (some false)
def impl_independent.f (k : Nat) (a0_0 : Int) (l0_1 : List Int) (a1 : Int) : Option (Bool) := impl_independent.l0 k a1 l0_1 (l0_1.length : Int) 0
theorem impl_independent.mono_l : ∀ k, (∀ y0 y1 y2 y3, LeO (impl_independent.l0 k y0 y1 y2 y3) (impl_independent.l0 (k + 1) y0 y1 y2 y3))
 | 0 => fun _ _ _ _ r h => by simp [impl_independent.l0] at h
 | k + 1 => by
  have ih0 := impl_independent.mono_l k
  ·intro y0 y1 y2 y3
   unfold impl_independent.l0
   repeat' first
   | (with_reducible exact ih0 _ _ _ _)
   | (with_reducible exact LeO.refl _)
   | (with_reducible exact LeO.none _)
   | (with_reducible refine LeO.ite ?_ ?_)
   | (with_reducible refine LeO.bind ?_ (fun _ => ?_))
   | exact ih0 _ _ _ _
   | exact LeO.none _
   | refine LeO.ite ?_ ?_
   | refine LeO.bind ?_ (fun _ => ?_)
theorem impl_independent.mono : ∀ a0 a1 a2 k, LeO (impl_independent.f k a0 a1 a2) (impl_independent.f (k + 1) a0 a1 a2) := by
 intro a0 a1 a2 k
 have ih0 := impl_independent.mono_l k
 unfold impl_independent.f
 repeat' first
   | (with_reducible exact ih0 _ _ _ _)
   | (with_reducible exact LeO.refl _)
   | (with_reducible exact LeO.none _)
   | (with_reducible refine LeO.ite ?_ ?_)
   | (with_reducible refine LeO.bind ?_ (fun _ => ?_))
   | exact ih0 _ _ _ _
   | exact LeO.none _
   | refine LeO.ite ?_ ?_
   | refine LeO.bind ?_ (fun _ => ?_)
set_option maxHeartbeats 8000000 in
set_option maxRecDepth 100000 in
theorem impl_independent.calls (k : Nat) (a0_0 : Int) (A0_1 : Option Addr) (c0_1 : Nat) (l0_1 : List Int) (a1 : Int) (r : Bool) (w : World) (hr0_1 : Kd.C (Kd.int .i64) w A0_1 l0_1.length l0_1) (hc0_1 : l0_1.length ≤ c0_1) (h : impl_independent.f k a0_0 l0_1 a1 = some r) :
  Calls Try.prog 134 #[.agg #[.int .i64 a0_0, .slice A0_1 l0_1.length c0_1], .int .i64 a1] w fun e w' => e = .returned (.bool r) ∧ Below w.heap.size w w' := by
 have hu45 := Try.underlying45
 have HR0_1 := Aside0.mk hr0_1
 have HC0_1 := Aside0.mk hc0_1
 clear hr0_1 hc0_1
 have HB := Aside0.mk (Below.refl w.heap.size w)
 have H : (impl_independent.l0 k a1 l0_1 (l0_1.length : Int) 0) = some r := h
 clear h
 have H' := Aside0.mk H
 clear H
 go_enter Try.func134, Try.ntmps134
 go_wp2_with (first | ((with_reducible refine gate_dst (N := 2) rfl ?_); refine box_event ?hg (N := 2) ?hd (cs := #[.int .i64 a0_0, .slice A0_1 l0_1.length c0_1]) (t := 45) ?hr ?_; (case hd => rfl); (case hg => rfl); (case hr => first | (go_simp; done) | (go_simp; rfl)); intro gb973 hg w3 hbox hb; have BK973 := Aside0.mk hbox; have GW973 := Aside0.mk ((by rw [hg]; exact (below_size (Hof.Lw HB.out)) : w.heap.size ≤ gb973)); have GE973 := Aside0.mk ((by rw [hg]; exact (below_size (Hof.Lw HB.out)) : w.heap.size ≤ gb973)); replace HB := Aside0.mk (below_step (Hof.Lw HB.out) hb); clear hb hbox hg; obtain ⟨hcz4_0, hcz4_1, hfz4_0, hfz4_1⟩ := Hof.blk2 BK973.out))
 go_loopg [10] k (fun kq v10 w' => ∃ (x10_1 : Int), v10 = .int .i64 x10_1 ∧ Aside0 (impl_independent.l0 kq a1 l0_1 (l0_1.length : Int) x10_1 = some r) ∧ Aside0 (kq ≤ k) ∧ Aside0 (w'.heap[gb973]? = some (.cells #[.int .i64 a0_0, (.slice A0_1 l0_1.length c0_1)] 45 (0, 0))) ∧ Aside0 (Below w.heap.size w w'))
 case atStart => exact ⟨(0), (by first | rfl | (simp; done) | (simp [*]; done)), H', ⟨Nat.le_refl _⟩, ⟨Hof.Bw BK973.out⟩, ⟨Hof.Lw HB.out⟩⟩
 case round =>
  clear H'
  try clear c1
  try clear p2
  try clear hcz4_0
  try clear hcz4_1
  try clear hfz4_0
  try clear hfz4_1
  obtain ⟨x10_1, rfl, HA, HK1, BK973, HB⟩ := hrel
  cases gk with
  | zero => exact absurd HA.out (by simp [impl_independent.l0])
  | succ k1 =>
   have H := HA.out
   clear HA
   simp only [impl_independent.l0] at H
   by_cases c5 : x10_1 < (l0_1.length : Int)
   ·rw [if_pos c5] at H
    have c5b0 : decide (x10_1 < (l0_1.length : Int)) = true := decide_eq_true c5
    clear c5
    by_cases c6 : 0 ≤ x10_1
    ·rw [if_pos c6] at H
     have c6b0 : decide (0 ≤ x10_1) = true := decide_eq_true c6
     clear c6
     by_cases c7 : x10_1 < (l0_1.length : Int)
     ·rw [if_pos c7] at H
      have c7b0 : decide (x10_1 < (l0_1.length : Int)) = true := decide_eq_true c7
      clear c7
      replace H := Option.bind_eq_some_iff.mp H
      obtain ⟨t975, A80, H⟩ := H
      (try dsimp only at H)
      have A8 := Aside0.mk A80
      clear A80
      by_cases c9 : t975 = true
      ·subst c9
       have H1 : (some true) = some r := by rw [if_pos rfl] at H; exact H
       clear H
       have H := H1
       clear H1
       obtain rfl := Option.some.inj H
       have p974 : 0 ≤ (x10_1 : Int) := of_decide_eq_true (by first | (with_reducible assumption) | assumption)
       have q974 : x10_1 < (l0_1.length : Int) := of_decide_eq_true (by first | (with_reducible assumption) | assumption)
       obtain ⟨ad974, e974, hx974_0⟩ := Kd.at_int HR0_1.out x10_1 p974 q974
       cases e974
       try replace hx974_0 := (HB.out.cell (World.block_lt_of_cell? w _ hx974_0)).trans hx974_0
       replace p974 := eq_true p974
       replace q974 := eq_true q974
       go_wp2_with (first | ((with_reducible refine gate_callee (f := 108) rfl ?_); refine goesL_ (some 16) rfl rfl Try.func108 (by kernel_rfl) rfl #[.int .i64 a1, .int .i64 (rd l0_1 x10_1)] rfl (by (try simp only [List.map_toArray, List.map_cons, List.map_nil]); first | done | rfl) ?_; (with_reducible refine (impl_IsSubset.calls a1 (rd l0_1 x10_1) true _ A8.out).mono ?_); rintro e w' ⟨rfl, ⟨nd, rfl⟩⟩; refine ⟨_, rfl, ?_⟩))
       go_ret
       exact ⟨by first | rfl | (simp [errW_none, errW_some] <;> rfl) | (simp [*, errW_none, errW_some] <;> rfl), by repeat (first | (with_reducible first | exact HB.out | apply below_alloc | apply pw_below_drewN | apply below_drew1 | refine below_set ?_ GE973.out) | exact HB.out)⟩
      ·replace c9 := Bool.eq_false_iff.mpr c9
       subst c9
       have H1 : (impl_independent.l0 k1 a1 l0_1 (l0_1.length : Int) (wrap64 (x10_1 + 1))) = some r := by rw [if_neg (show ¬ (false = true) by decide)] at H; exact H
       clear H
       have H := H1
       clear H1
       have H' := Aside0.mk H
       clear H
       have p974 : 0 ≤ (x10_1 : Int) := of_decide_eq_true (by first | (with_reducible assumption) | assumption)
       have q974 : x10_1 < (l0_1.length : Int) := of_decide_eq_true (by first | (with_reducible assumption) | assumption)
       obtain ⟨ad974, e974, hx974_0⟩ := Kd.at_int HR0_1.out x10_1 p974 q974
       cases e974
       try replace hx974_0 := (HB.out.cell (World.block_lt_of_cell? w _ hx974_0)).trans hx974_0
       replace p974 := eq_true p974
       replace q974 := eq_true q974
       go_wp2_with (first | ((with_reducible refine gate_callee (f := 108) rfl ?_); refine goesL_ (some 16) rfl rfl Try.func108 (by kernel_rfl) rfl #[.int .i64 a1, .int .i64 (rd l0_1 x10_1)] rfl (by (try simp only [List.map_toArray, List.map_cons, List.map_nil]); first | done | rfl) ?_; (with_reducible refine (impl_IsSubset.calls a1 (rd l0_1 x10_1) false _ A8.out).mono ?_); rintro e w' ⟨rfl, ⟨nd, rfl⟩⟩; refine ⟨_, rfl, ?_⟩))
       go_roundg k1
       case measure => have := HK1.out; omega
       case rel => exact ⟨(wrap64 (x10_1 + 1)), (by first | rfl | (simp; done) | (simp [*]; done)), H', ⟨by have := HK1.out; omega⟩, ⟨Hof.Bw BK973.out⟩, ⟨Hof.Lw HB.out⟩⟩
     ·rw [if_neg c7] at H
      exact absurd H (by simp)
    ·rw [if_neg c6] at H
     exact absurd H (by simp)
   ·rw [if_neg c5] at H
    have c5b0 : decide (x10_1 < (l0_1.length : Int)) = false := decide_eq_false c5
    clear c5
    obtain rfl := Option.some.inj H
    go_wp2
    go_ret
    exact ⟨by first | rfl | (simp [errW_none, errW_some] <;> rfl) | (simp [*, errW_none, errW_some] <;> rfl), by repeat (first | (with_reducible first | exact HB.out | apply below_alloc | apply pw_below_drewN | apply below_drew1 | refine below_set ?_ GE973.out) | exact HB.out)⟩
end Go.Proofs.Ytbjnkcfkhonkhaa.Pr
end
section
namespace Go.Proofs.Ytbjnkcfkhonkhaa.Pr
open Go.RowKit Go.Proofs.YtbjnkcfkhonkhaaW.PrintWords Go.Proofs.YtbjnkcfkhonkhaaW.PrintLast Go.Proofs.YtbjnkcfkhonkhaaW.PrintMore
attribute [local go_sem] max2_int min2_int max_two min_two max_three min_three max_four min_four
set_option linter.unusedVariables false
set_option linter.unusedSimpArgs false
def impl_IndependentSets_1.f (k : Nat) (a0_0 : Int) (l0_1 : List Int) (s : Int) : Option Bool := (impl_independent.f k a0_0 l0_1 s).bind fun t => some (t)
theorem impl_IndependentSets_1.mono (a0 : Int) (l0 : List Int) (s : Int) (k : Nat) : LeO (impl_IndependentSets_1.f k a0 l0 s) (impl_IndependentSets_1.f (k + 1) a0 l0 s) := LeO.bind (impl_independent.mono _ _ _ _) fun _ => LeO.refl _
def impl_IndependentSets.f (k : Nat) (a0_0 : Int) (l0_1 : List Int) : Option (List Int) := (impl_IsMatroid.f k a0_0 l0_1).bind fun t => (if t = true then (impl_setsOf.f k a0_0 (fun s => impl_IndependentSets_1.f k a0_0 l0_1 s)) else (some []))
set_option maxHeartbeats 8000000 in
set_option maxRecDepth 100000 in
theorem impl_IndependentSets_1.calls (k : Nat) (a0_0 : Int) (A0_1 : Option Addr) (c0_1 : Nat) (l0_1 : List Int) (s : Int) (b : Bool) (gb : Nat) (w : World) (hbk : w.heap[gb]? = some (.cells #[.int .i64 a0_0, (.slice A0_1 l0_1.length c0_1)] 45 (0, 0))) (hr0_1 : Kd.C (Kd.int .i64) w A0_1 l0_1.length l0_1) (hc0_1 : l0_1.length ≤ c0_1) (h : impl_IndependentSets_1.f k a0_0 l0_1 s = some b) :
  Calls Try.prog 133 #[.int .i64 s, .pointer (some ⟨gb, 0, none⟩)] w fun e w' => e = .returned (.bool b) ∧ Below w.heap.size w w' := by
 have hu27 := Try.underlying45
 have HR := Aside0.mk hr0_1
 have HC := Aside0.mk hc0_1
 have hcz5_0 : w.cell? ⟨gb, 0, none⟩ = some (.int .i64 a0_0) := (blk_cell hbk 0).trans rfl
 have hcz5_1 : w.cell? ⟨gb, 1, none⟩ = some (.slice A0_1 l0_1.length c0_1) := (blk_cell hbk 1).trans rfl
 clear hr0_1 hc0_1 hbk
 unfold impl_IndependentSets_1.f at h
 obtain ⟨t, h1, h⟩ := Option.bind_eq_some_iff.mp h
 have A1 := Aside0.mk h1
 clear h1
 obtain rfl := Option.some.inj h
 clear h
 go_enter Try.func133, Try.ntmps133
 go_wp2_with (first | ((with_reducible refine gate_callee (f := 134) rfl ?_); refine goesL_ (some 6) rfl rfl Try.func134 (by kernel_rfl) rfl #[.agg #[.int .i64 a0_0, .slice A0_1 l0_1.length c0_1], .int .i64 s] rfl (by (try simp only [List.map_toArray, List.map_cons, List.map_nil]); first | done | rfl) ?_; (with_reducible refine (impl_independent.calls k a0_0 _ _ l0_1 s t _ HR.out HC.out A1.out).mono ?_); rintro e w6 ⟨rfl, hb⟩; refine ⟨_, rfl, ?_⟩; have HB := Aside0.mk hb; clear hb))
 go_ret
 exact ⟨rfl, HB.out⟩
theorem impl_IndependentSets_1.fun1 (k : Nat) (a0_0 : Int) (A0_1 : Option Addr) (c0_1 : Nat) (l0_1 : List Int) (gb : Nat) (w : World) (hbk : w.heap[gb]? = some (.cells #[.int .i64 a0_0, (.slice A0_1 l0_1.length c0_1)] 45 (0, 0))) (hr0_1 : Kd.C (Kd.int .i64) w A0_1 l0_1.length l0_1) (hc0_1 : l0_1.length ≤ c0_1) :
  Hof.Fun1 Try.prog w (.func (.func 133) #[] #[.pointer (some ⟨gb, 0, none⟩)]) (fun s => impl_IndependentSets_1.f k a0_0 l0_1 s) :=
 ⟨⟨133, #[.pointer (some ⟨gb, 0, none⟩)], Try.f133, rfl, Try.func133, by kernel_rfl, rfl, fun s b w' hw hg => impl_IndependentSets_1.calls k a0_0 A0_1 c0_1 l0_1 s b gb w' (blk_below hbk hw) (Kd.C_below hr0_1 hw) hc0_1 hg⟩⟩
set_option maxHeartbeats 8000000 in
set_option maxRecDepth 100000 in
theorem impl_IndependentSets.calls (k : Nat) (a0_0 : Int) (A0_1 : Option Addr) (c0_1 : Nat) (l0_1 : List Int) (r : List Int) (w : World) (hr0_1 : Kd.C (Kd.int .i64) w A0_1 l0_1.length l0_1) (hc0_1 : l0_1.length ≤ c0_1) (h : impl_IndependentSets.f k a0_0 l0_1 = some r) :
  Calls Try.prog 96 #[.agg #[.int .i64 a0_0, .slice A0_1 l0_1.length c0_1]] w fun e w' => ∃ v0_ : Value, e = .returned (v0_) ∧ Kd.R (Kd.int .i64) 3 w' w.heap.size (fun _ => True) v0_ r ∧ Below w.heap.size w w' := by
 have hu27 := Try.underlying45
 have HR := Aside0.mk hr0_1
 have HC := Aside0.mk hc0_1
 have HB := Aside0.mk (Below.refl w.heap.size w)
 unfold impl_IndependentSets.f at h
 obtain ⟨t, h1, h⟩ := Option.bind_eq_some_iff.mp h
 have A1 := Aside0.mk h1
 clear hr0_1 hc0_1 h1
 cases t with
 | false =>
  rw [if_neg (by decide)] at h
  obtain rfl := Option.some.inj h
  clear h
  go_enter Try.func96, Try.ntmps96
  go_wp2_with (first | ((with_reducible refine gate_dst (N := 1) rfl ?_); refine box_event ?hg (N := 1) ?hd (cs := #[.int .i64 a0_0, .slice A0_1 l0_1.length c0_1]) (t := 45) ?hr ?_; (case hd => rfl); (case hg => rfl); (case hr => first | (go_simp; done) | (go_simp; rfl)); intro gb275 hg w4 hbox hb; have n0_ := Aside0.mk (below_step HB.out hb); clear HB; have HB := n0_; have BK275 := Aside0.mk hbox; clear n0_ hb hbox hg; have hcz5_0 : w4.cell? ⟨gb275, 0, none⟩ = some (.int .i64 a0_0) := (blk_cell BK275.out 0).trans rfl; have hcz5_1 : w4.cell? ⟨gb275, 1, none⟩ = some (.slice A0_1 l0_1.length c0_1) := (blk_cell BK275.out 1).trans rfl) | ((with_reducible refine gate_callee (f := 85) rfl ?_); refine goesL_ (some 4) rfl rfl Try.func85 (by kernel_rfl) rfl #[.agg #[.int .i64 a0_0, .slice A0_1 l0_1.length c0_1]] rfl (by (try simp only [List.map_toArray, List.map_cons, List.map_nil]); first | done | rfl) ?_; (with_reducible refine (impl_IsMatroid.calls k a0_0 _ _ l0_1 false _ (Kd.C_below HR.out HB.out) HC.out A1.out).mono ?_); rintro e w5 ⟨rfl, hb⟩; refine ⟨_, rfl, ?_⟩; have n0_ := Aside0.mk (below_step HB.out hb); clear HB; have HB := n0_; clear n0_; have m_ := Aside0.mk (blk_below BK275.out hb); clear BK275; have BK275 := m_; clear m_ hb hcz5_0 hcz5_1; have hcz5_0 : w5.cell? ⟨gb275, 0, none⟩ = some (.int .i64 a0_0) := (blk_cell BK275.out 0).trans rfl; have hcz5_1 : w5.cell? ⟨gb275, 1, none⟩ = some (.slice A0_1 l0_1.length c0_1) := (blk_cell BK275.out 1).trans rfl))
  go_ret
  exact ⟨_, rfl, Kd.R_nil _ _ _ _ _, HB.out⟩
 | true =>
  rw [if_pos rfl] at h
  have A2 := Aside0.mk (show impl_setsOf.f k a0_0 (fun s => impl_IndependentSets_1.f k a0_0 l0_1 s) = some r from h)
  clear h
  go_enter Try.func96, Try.ntmps96
  go_wp2_with (first | ((with_reducible refine gate_dst (N := 1) rfl ?_); refine box_event ?hg (N := 1) ?hd (cs := #[.int .i64 a0_0, .slice A0_1 l0_1.length c0_1]) (t := 45) ?hr ?_; (case hd => rfl); (case hg => rfl); (case hr => first | (go_simp; done) | (go_simp; rfl)); intro gb275 hg w4 hbox hb; have n0_ := Aside0.mk (below_step HB.out hb); clear HB; have HB := n0_; have BK275 := Aside0.mk hbox; clear n0_ hb hbox hg; have hcz5_0 : w4.cell? ⟨gb275, 0, none⟩ = some (.int .i64 a0_0) := (blk_cell BK275.out 0).trans rfl; have hcz5_1 : w4.cell? ⟨gb275, 1, none⟩ = some (.slice A0_1 l0_1.length c0_1) := (blk_cell BK275.out 1).trans rfl) | ((with_reducible refine gate_callee (f := 85) rfl ?_); refine goesL_ (some 4) rfl rfl Try.func85 (by kernel_rfl) rfl #[.agg #[.int .i64 a0_0, .slice A0_1 l0_1.length c0_1]] rfl (by (try simp only [List.map_toArray, List.map_cons, List.map_nil]); first | done | rfl) ?_; (with_reducible refine (impl_IsMatroid.calls k a0_0 _ _ l0_1 true _ (Kd.C_below HR.out HB.out) HC.out A1.out).mono ?_); rintro e w5 ⟨rfl, hb⟩; refine ⟨_, rfl, ?_⟩; have n0_ := Aside0.mk (below_step HB.out hb); clear HB; have HB := n0_; clear n0_; have m_ := Aside0.mk (blk_below BK275.out hb); clear BK275; have BK275 := m_; clear m_ hb hcz5_0 hcz5_1; have hcz5_0 : w5.cell? ⟨gb275, 0, none⟩ = some (.int .i64 a0_0) := (blk_cell BK275.out 0).trans rfl; have hcz5_1 : w5.cell? ⟨gb275, 1, none⟩ = some (.slice A0_1 l0_1.length c0_1) := (blk_cell BK275.out 1).trans rfl) | ((with_reducible refine gate_callee (f := 104) rfl ?_); refine goesL_ (some 9) rfl rfl Try.func104 (by kernel_rfl) rfl #[.int .i64 a0_0, .func (.func 133) #[] #[.pointer (some ⟨gb275, 0, none⟩)]] rfl (by (try simp only [List.map_toArray, List.map_cons, List.map_nil]); first | done | rfl) ?_; (with_reducible refine (impl_setsOf.calls k a0_0 _ (fun s => impl_IndependentSets_1.f k a0_0 l0_1 s) r _ (impl_IndependentSets_1.fun1 k a0_0 A0_1 c0_1 l0_1 gb275 _ BK275.out (Kd.C_below HR.out HB.out) HC.out) A2.out).mono ?_); rintro e w6 ⟨v1, rfl, ho, hb⟩; refine ⟨_, rfl, ?_⟩; have HO := Aside0.mk (Kd.R_lower ho (below_size HB.out)); have n0_ := Aside0.mk (below_step HB.out hb); clear HB; have HB := n0_; clear n0_ hb ho hcz5_0 hcz5_1))
  go_ret
  exact ⟨_, rfl, HO.out, HB.out⟩
end Go.Proofs.Ytbjnkcfkhonkhaa.Pr
end
section
namespace Go.Proofs.Ytbjnkcfkhonkhaa.Pr
open Go.RowKit Go.Proofs.YtbjnkcfkhonkhaaW.PrintWords Go.Proofs.YtbjnkcfkhonkhaaW.PrintLast Go.Proofs.YtbjnkcfkhonkhaaW.PrintMore
attribute [local go_sem] max2_int min2_int max_two min_two max_three min_three max_four min_four
set_option linter.unusedVariables false
set_option linter.unusedSimpArgs false
def impl_UnionOf.f (k : Nat) (a0_0 : Int) (l0_1 : List Int) (a1_0 : Int) (l1_1 : List Int) : Option (Int × List Int × Bool) := (impl_together.f k a0_0 l0_1 a1_0 l1_1).bind fun t979 => (if t979 = true then ((impl_IndependentSets.f k a0_0 l0_1).bind fun t980 => ((impl_IndependentSets.f k a1_0 l1_1).bind fun t983 => ((impl_unions.f k a0_0 t980 t983).bind fun t986 => ((impl_fromIndependent.f k a0_0 t986).bind fun bt989 => (some (bt989.1, bt989.2.1, bt989.2.2)))))) else (some (0, ([] : List Int), false)))
def impl_UnionOf.T3 : Bool × List (List Nat × List Nat) := (true, [([], []), ([0], [0]), ([], []), ([2], [2]), ([], []), ([4], [4]), ([], []), ([6, 5], [6]), ([3, 5, 7, 7], [3, 5, 7]), ([1, 8, 8], [1, 8]), ([9], [9]), ([9], [9]), ([10, 9, 0, 1, 2, 3, 4, 5, 6, 7, 8, 9, 10, 11], [10]), ([11, 12, 0, 1, 2, 3, 4, 5, 6, 7, 8, 9, 10, 11, 12], [11])])
def impl_UnionOf.B3 : List Nat := [0, 1, 0, 4, 0, 16, 0, 112, 252, 511, 1023, 1023, 4095, 8191]
theorem impl_UnionOf.tab3 : rtab .any (opsOf Try.f44 3) = impl_UnionOf.T3 := by kernel_rfl
theorem impl_UnionOf.bits3 : waitsOk impl_UnionOf.T3.2 impl_UnionOf.B3 = true := by kernel_rfl
set_option maxHeartbeats 8000000 in
set_option maxRecDepth 100000 in
theorem impl_UnionOf.calls (k : Nat) (a0_0 : Int) (A0_1 : Option Addr) (c0_1 : Nat) (l0_1 : List Int) (a1_0 : Int) (A1_1 : Option Addr) (c1_1 : Nat) (l1_1 : List Int) (r1 : Int) (r2 : List Int) (r3 : Bool) (w : World) (hr0_1 : Kd.C (Kd.int .i64) w A0_1 l0_1.length l0_1) (hc0_1 : l0_1.length ≤ c0_1) (hr1_1 : Kd.C (Kd.int .i64) w A1_1 l1_1.length l1_1) (hc1_1 : l1_1.length ≤ c1_1) (h : impl_UnionOf.f k a0_0 l0_1 a1_0 l1_1 = some (r1, r2, r3)) :
  Calls Try.prog 44 #[.agg #[.int .i64 a0_0, .slice A0_1 l0_1.length c0_1], .agg #[.int .i64 a1_0, .slice A1_1 l1_1.length c1_1]] w fun e w' => ∃ v1_ : Value, e = .returned (.tuple #[.agg #[.int .i64 r1, v1_], .bool r3]) ∧ Kd.R (Kd.int .i64) 3 w' w.heap.size (fun _ => True) v1_ r2 ∧ Below w.heap.size w w' := by
 have hu45 := Try.underlying45
 have HR0_1 := Aside0.mk hr0_1
 have HC0_1 := Aside0.mk hc0_1
 clear hr0_1 hc0_1
 have HR1_1 := Aside0.mk hr1_1
 have HC1_1 := Aside0.mk hc1_1
 clear hr1_1 hc1_1
 have HB := Aside0.mk (Below.refl w.heap.size w)
 have H : ((impl_together.f k a0_0 l0_1 a1_0 l1_1).bind fun t979 => (if t979 = true then ((impl_IndependentSets.f k a0_0 l0_1).bind fun t980 => ((impl_IndependentSets.f k a1_0 l1_1).bind fun t983 => ((impl_unions.f k a0_0 t980 t983).bind fun t986 => ((impl_fromIndependent.f k a0_0 t986).bind fun bt989 => (some (bt989.1, bt989.2.1, bt989.2.2)))))) else (some (0, ([] : List Int), false)))) = some (r1, r2, r3) := h
 clear h
 replace H := Option.bind_eq_some_iff.mp H
 obtain ⟨t979, A30, H⟩ := H
 (try dsimp only at H)
 have A3 := Aside0.mk A30
 clear A30
 by_cases c4 : t979 = true
 ·subst c4
  have H1 : ((impl_IndependentSets.f k a0_0 l0_1).bind fun t980 => ((impl_IndependentSets.f k a1_0 l1_1).bind fun t983 => ((impl_unions.f k a0_0 t980 t983).bind fun t986 => ((impl_fromIndependent.f k a0_0 t986).bind fun bt989 => (some (bt989.1, bt989.2.1, bt989.2.2)))))) = some (r1, r2, r3) := by rw [if_pos rfl] at H; exact H
  clear H
  have H := H1
  clear H1
  replace H := Option.bind_eq_some_iff.mp H
  obtain ⟨t980, A50, H⟩ := H
  (try dsimp only at H)
  have A5 := Aside0.mk A50
  clear A50
  replace H := Option.bind_eq_some_iff.mp H
  obtain ⟨t983, A60, H⟩ := H
  (try dsimp only at H)
  have A6 := Aside0.mk A60
  clear A60
  replace H := Option.bind_eq_some_iff.mp H
  obtain ⟨t986, A70, H⟩ := H
  (try dsimp only at H)
  have A7 := Aside0.mk A70
  clear A70
  replace H := Option.bind_eq_some_iff.mp H
  obtain ⟨⟨t989, t990, t993⟩, A80, H⟩ := H
  (try dsimp only at H)
  have A8 := Aside0.mk A80
  clear A80
  simp only [Option.some.injEq, Prod.mk.injEq] at H
  obtain ⟨rfl, rfl, rfl⟩ := H
  go_enter Try.func44, Try.ntmps44
  try go_wp2_with (first | ((with_reducible refine gate_dst (N := 2) rfl ?_); refine box_event ?hg (N := 2) ?hd (cs := #[.int .i64 a0_0, .slice A0_1 l0_1.length c0_1]) (t := 45) ?hr ?_; (case hd => rfl); (case hg => rfl); (case hr => first | (go_simp; done) | (go_simp; rfl)); intro gb976 hg w9 hbox hb; have BK976 := Aside0.mk hbox; have GW976 := Aside0.mk ((by rw [hg]; exact (below_size (Hof.Lw HB.out)) : w.heap.size ≤ gb976)); have GE976 := Aside0.mk ((by rw [hg]; exact (below_size (Hof.Lw HB.out)) : w.heap.size ≤ gb976)); replace HB := Aside0.mk (below_step (Hof.Lw HB.out) hb); clear hb hbox hg) | ((with_reducible refine gate_dst (N := 3) rfl ?_); refine box_event ?hg (N := 3) ?hd (cs := #[.int .i64 a1_0, .slice A1_1 l1_1.length c1_1]) (t := 45) ?hr ?_; (case hd => rfl); (case hg => rfl); (case hr => first | (go_simp; done) | (go_simp; rfl)); intro gb977 hg w10 hbox hb; have BK977 := Aside0.mk hbox; have GW977 := Aside0.mk ((by rw [hg]; exact (below_size (Hof.Lw HB.out)) : w.heap.size ≤ gb977)); have GE977 := Aside0.mk ((by rw [hg]; exact (below_size (Hof.Lw HB.out)) : w.heap.size ≤ gb977)); replace HB := Aside0.mk (below_step (Hof.Lw HB.out) hb); have NB976_977 := Aside0.mk ((by rw [hg]; exact Nat.ne_of_lt (blk_lt (g := gb976) (o := .cells #[.int .i64 a0_0, .slice A0_1 l0_1.length c0_1] 45 (0, 0)) (Hof.Bw BK976.out)) : gb976 ≠ gb977)); have NB977_976 := Aside0.mk ((by rw [hg]; exact Nat.ne_of_gt (blk_lt (g := gb976) (o := .cells #[.int .i64 a0_0, .slice A0_1 l0_1.length c0_1] 45 (0, 0)) (Hof.Bw BK976.out)) : gb977 ≠ gb976)); replace BK976 := Aside0.mk (blk_below (Hof.Bw BK976.out) hb); clear hb hbox hg) | ((with_reducible refine gate_dst (N := 4) rfl ?_); refine box_event ?hg (N := 4) ?hd (cs := #[.int .i64 0, .slice none 0 0]) (t := 45) ?hr ?_; (case hd => rfl); (case hg => rfl); (case hr => first | (go_simp; done) | (go_simp; rfl)); intro gb978 hg w11 hbox hb; have BK978 := Aside0.mk hbox; have GW978 := Aside0.mk ((by rw [hg]; exact (below_size (Hof.Lw HB.out)) : w.heap.size ≤ gb978)); have GE978 := Aside0.mk ((by rw [hg]; exact (below_size (Hof.Lw HB.out)) : w.heap.size ≤ gb978)); replace HB := Aside0.mk (below_step (Hof.Lw HB.out) hb); have NB976_978 := Aside0.mk ((by rw [hg]; exact Nat.ne_of_lt (blk_lt (g := gb976) (o := .cells #[.int .i64 a0_0, .slice A0_1 l0_1.length c0_1] 45 (0, 0)) (Hof.Bw BK976.out)) : gb976 ≠ gb978)); have NB978_976 := Aside0.mk ((by rw [hg]; exact Nat.ne_of_gt (blk_lt (g := gb976) (o := .cells #[.int .i64 a0_0, .slice A0_1 l0_1.length c0_1] 45 (0, 0)) (Hof.Bw BK976.out)) : gb978 ≠ gb976)); replace BK976 := Aside0.mk (blk_below (Hof.Bw BK976.out) hb); have NB977_978 := Aside0.mk ((by rw [hg]; exact Nat.ne_of_lt (blk_lt (g := gb977) (o := .cells #[.int .i64 a1_0, .slice A1_1 l1_1.length c1_1] 45 (0, 0)) (Hof.Bw BK977.out)) : gb977 ≠ gb978)); have NB978_977 := Aside0.mk ((by rw [hg]; exact Nat.ne_of_gt (blk_lt (g := gb977) (o := .cells #[.int .i64 a1_0, .slice A1_1 l1_1.length c1_1] 45 (0, 0)) (Hof.Bw BK977.out)) : gb978 ≠ gb977)); replace BK977 := Aside0.mk (blk_below (Hof.Bw BK977.out) hb); clear hb hbox hg; have hnb12 := NB976_977.out; have hnc12 := NB977_976.out; have hnb13 := NB976_978.out; have hnc13 := NB978_976.out; obtain ⟨hcz14_0, hcz14_1, hfz14_0, hfz14_1⟩ := Hof.blk2 BK976.out; have hnb15 := NB977_978.out; have hnc15 := NB978_977.out; obtain ⟨hcz16_0, hcz16_1, hfz16_0, hfz16_1⟩ := Hof.blk2 BK977.out) | ((with_reducible refine gate_callee (f := 93) rfl ?_); refine goesL_ (some 8) rfl rfl Try.func93 (by kernel_rfl) rfl #[.agg #[.int .i64 a0_0, .slice A0_1 l0_1.length c0_1], .agg #[.int .i64 a1_0, .slice A1_1 l1_1.length c1_1]] rfl (by (try simp only [List.map_toArray, List.map_cons, List.map_nil]); first | done | rfl) ?_; (with_reducible refine (impl_together.calls k a0_0 _ _ l0_1 a1_0 _ _ l1_1 true _ ?side1 ?side2 ?side3 ?side4 A3.out).mono ?_); (case side1 => exact Hof.Cw (Kd.C_below HR0_1.out HB.out)); (case side2 => exact HC0_1.out); (case side3 => exact Hof.Cw (Kd.C_below HR1_1.out HB.out)); (case side4 => exact HC1_1.out); rintro e w17 ⟨rfl, hb⟩; refine ⟨_, rfl, ?_⟩; replace BK976 := Aside0.mk (blk_below (Hof.Bw BK976.out) hb); replace BK977 := Aside0.mk (blk_below (Hof.Bw BK977.out) hb); replace BK978 := Aside0.mk (blk_below (Hof.Bw BK978.out) hb); replace HB := Aside0.mk (below_step (Hof.Lw HB.out) hb); (try clear hb); (try clear hb2); (try clear hk); (try clear hi)))
  have n0_ := Aside0.mk (blk_drew BK976.out)
  have n1_ := Aside0.mk (blk_drew BK977.out)
  have n2_ := Aside0.mk (blk_drew BK978.out)
  have n3_ := Aside0.mk (below_drew1 HB.out)
  clear BK976
  clear BK977
  clear BK978
  clear HB
  have BK976 := n0_
  have BK977 := n1_
  have BK978 := n2_
  have HB := n3_
  clear n0_ n1_ n2_ n3_
  refine start_ (n := 14) (S := fun w' => w'.cell? ⟨gb976, 0, none⟩ = some (.int .i64 a0_0) ∧ w'.cell? ⟨gb976, 1, none⟩ = some (.slice A0_1 l0_1.length c0_1) ∧ w'.cell? ⟨gb977, 0, none⟩ = some (.int .i64 a1_0) ∧ w'.cell? ⟨gb977, 1, none⟩ = some (.slice A1_1 l1_1.length c1_1)) (ds := []) #[false, false, false, false, false, false, false, false, false, false, false, false, false, false] (by kernel_rfl) rfl rfl ⟨(blk_cell BK976.out 0).trans rfl, (blk_cell BK976.out 1).trans rfl, (blk_cell BK977.out 0).trans rfl, (blk_cell BK977.out 1).trans rfl⟩ (fun hHeld => ?_); refine with_tabW impl_UnionOf.tab3 impl_UnionOf.bits3 (fun HT_ HW_ => ?_)
  generalize w17.drew = w18 at BK976 BK977 BK978 HB hHeld ⊢
  refine pure_ (i := 0) (N := some 11) (v := ?_) (a' := ?_) #[true, false, false, false, false, false, false, false, false, false, false, false, false, false] rfl rfl (any_of HT_.out (by kernel_rfl)) (fun _ _ _ h => h) (Or.inl ⟨by rfl, ?_⟩) ?_ ?_
  rotate_left
  ·intro w'
   go_simp
   with_reducible rfl
  rotate_left
  ·simp only [Act.put, List.setIfInBounds_toArray, List.set_cons_zero, List.set_cons_succ, i64_w, i32_w]
   rfl
  refine pure_ (i := 2) (N := some 13) (v := ?_) (a' := ?_) #[true, false, true, false, false, false, false, false, false, false, false, false, false, false] rfl rfl (any_of HT_.out (by kernel_rfl)) (fun _ _ _ h => h) (Or.inl ⟨by rfl, ?_⟩) ?_ ?_
  rotate_left
  ·intro w'
   go_simp
   with_reducible rfl
  rotate_left
  ·simp only [Act.put, List.setIfInBounds_toArray, List.set_cons_zero, List.set_cons_succ, i64_w, i32_w]
   rfl
  refine take_ (i := 1) (N := some 12) (v := ?_) (a' := ?_) #[true, true, true, false, false, false, false, false, false, false, false, false, false, false] rfl rfl (take_ofW HT_.out HW_.out (by kernel_rfl)) (fun _ _ _ h => h) (Or.inl ⟨by rfl, ?_⟩) hHeld ?_ ?_
  rotate_left
  ·rintro w' ⟨s0, s1, s2, s3⟩
   go_simp
   with_reducible rfl
  rotate_left
  ·simp only [Act.put, List.setIfInBounds_toArray, List.set_cons_zero, List.set_cons_succ, i64_w, i32_w]
   rfl
  refine take_ (i := 3) (N := some 14) (v := ?_) (a' := ?_) #[true, true, true, true, false, false, false, false, false, false, false, false, false, false] rfl rfl (take_ofW HT_.out HW_.out (by kernel_rfl)) (fun _ _ _ h => h) (Or.inl ⟨by rfl, ?_⟩) hHeld ?_ ?_
  rotate_left
  ·rintro w' ⟨s0, s1, s2, s3⟩
   go_simp
   with_reducible rfl
  rotate_left
  ·simp only [Act.put, List.setIfInBounds_toArray, List.set_cons_zero, List.set_cons_succ, i64_w, i32_w]
   rfl
  refine take_ (i := 4) (N := some 15) (v := ?_) (a' := ?_) #[true, true, true, true, true, false, false, false, false, false, false, false, false, false] rfl rfl (take_ofW HT_.out HW_.out (by kernel_rfl)) (fun _ _ _ h => h) (Or.inl ⟨by rfl, ?_⟩) hHeld ?_ ?_
  rotate_left
  ·rintro w' ⟨s0, s1, s2, s3⟩
   go_simp
   with_reducible rfl
  rotate_left
  ·simp only [Act.put, List.setIfInBounds_toArray, List.set_cons_zero, List.set_cons_succ, i64_w, i32_w]
   rfl
  refine take_ (i := 6) (N := some 17) (v := ?_) (a' := ?_) #[true, true, true, true, true, false, true, false, false, false, false, false, false, false] rfl rfl (take_ofW HT_.out HW_.out (by kernel_rfl)) (fun _ _ _ h => h) (Or.inl ⟨by rfl, ?_⟩) hHeld ?_ ?_
  rotate_left
  ·rintro w' ⟨s0, s1, s2, s3⟩
   go_simp
   with_reducible rfl
  rotate_left
  ·simp only [Act.put, List.setIfInBounds_toArray, List.set_cons_zero, List.set_cons_succ, i64_w, i32_w]
   rfl
  refine one_ (i := 5) (N := some 16) #[true, true, true, true, true, true, true, false, false, false, false, false, false, false] rfl rfl (one_of HT_.out (by kernel_rfl)) (by decide) (fun K hK => ?_)
  refine goes_ Try.func96 (by kernel_rfl) rfl #[.agg #[.int .i64 a0_0, .slice A0_1 l0_1.length c0_1]] (by rfl) rfl rfl (by (try simp only [List.map_toArray, List.map_cons, List.map_nil]); first | done | rfl) ?_
  with_reducible refine (impl_IndependentSets.calls k a0_0 _ _ l0_1 t980 _ ?side1 ?side2 A5.out).mono ?_
  (case side1 => exact Hof.Cw (Kd.C_below HR0_1.out HB.out))
  (case side2 => exact HC0_1.out)
  rintro e w19 ⟨v981, rfl, ho0, hb⟩
  refine ⟨_, rfl, ?_⟩
  have n0_ := Aside0.mk (Kd.R_lower ho0 (below_size (Hof.Lw HB.out)))
  have n1_ := Aside0.mk (blk_below (Hof.Bw BK976.out) hb)
  have n2_ := Aside0.mk (blk_below (Hof.Bw BK977.out) hb)
  have n3_ := Aside0.mk (blk_below (Hof.Bw BK978.out) hb)
  have n4_ := Aside0.mk (below_step (Hof.Lw HB.out) hb)
  clear BK976
  clear BK977
  clear BK978
  clear HB
  have HO982 := n0_
  have BK976 := n1_
  have BK977 := n2_
  have BK978 := n3_
  have HB := n4_
  clear n0_ n1_ n2_ n3_ n4_
  (try clear hb)
  (try clear hb2)
  (try clear hk)
  (try clear hi)
  (try clear ho0)
  refine hK.out _ _ ⟨(blk_cell BK976.out 0).trans rfl, (blk_cell BK976.out 1).trans rfl, (blk_cell BK977.out 0).trans rfl, (blk_cell BK977.out 1).trans rfl⟩ (fun hHeld => ?_)
  clear hK K
  refine norm_ (a' := ?_) ?_ ?_
  rotate_left
  ·show Act.put _ (some 16) _ = _
   simp only [Act.put, List.setIfInBounds_toArray, List.set_cons_zero, List.set_cons_succ, i64_w, i32_w]
   rfl
  refine one_ (i := 7) (N := some 18) #[true, true, true, true, true, true, true, true, false, false, false, false, false, false] rfl rfl (one_of HT_.out (by kernel_rfl)) (by decide) (fun K hK => ?_)
  refine goes_ Try.func96 (by kernel_rfl) rfl #[.agg #[.int .i64 a1_0, .slice A1_1 l1_1.length c1_1]] (by rfl) rfl rfl (by (try simp only [List.map_toArray, List.map_cons, List.map_nil]); first | done | rfl) ?_
  with_reducible refine (impl_IndependentSets.calls k a1_0 _ _ l1_1 t983 _ ?side1 ?side2 A6.out).mono ?_
  (case side1 => exact Hof.Cw (Kd.C_below HR1_1.out HB.out))
  (case side2 => exact HC1_1.out)
  rintro e w20 ⟨v984, rfl, ho0, hb⟩
  refine ⟨_, rfl, ?_⟩
  have n0_ := Aside0.mk (Kd.R_elder' (Hof.Rw HO982.out) (Kd.R_base ho0) hb)
  have n1_ := Aside0.mk (Kd.R_lower (Kd.R_new' ho0 (Kd.R_lt (Hof.Rw HO982.out))) (below_size (Hof.Lw HB.out)))
  have n2_ := Aside0.mk (blk_below (Hof.Bw BK976.out) hb)
  have n3_ := Aside0.mk (blk_below (Hof.Bw BK977.out) hb)
  have n4_ := Aside0.mk (blk_below (Hof.Bw BK978.out) hb)
  have n5_ := Aside0.mk (below_step (Hof.Lw HB.out) hb)
  clear HO982
  clear BK976
  clear BK977
  clear BK978
  clear HB
  have HO982 := n0_
  have HO985 := n1_
  have BK976 := n2_
  have BK977 := n3_
  have BK978 := n4_
  have HB := n5_
  clear n0_ n1_ n2_ n3_ n4_ n5_
  (try clear hb)
  (try clear hb2)
  (try clear hk)
  (try clear hi)
  (try clear ho0)
  obtain ⟨Ao21, co21, eo21⟩ := Kd.R_slice HO982.out
  (first | subst eo21 | (injection eo21 with f1_ f2_ f3_; have f4_ := f1_.symm; have f5_ := f3_.symm; clear f1_ f2_ f3_; subst f4_; subst f5_))
  obtain ⟨Ao22, co22, eo22⟩ := Kd.R_slice HO985.out
  (first | subst eo22 | (injection eo22 with f1_ f2_ f3_; have f4_ := f1_.symm; have f5_ := f3_.symm; clear f1_ f2_ f3_; subst f4_; subst f5_))
  refine hK.out _ _ ⟨(blk_cell BK976.out 0).trans rfl, (blk_cell BK976.out 1).trans rfl, (blk_cell BK977.out 0).trans rfl, (blk_cell BK977.out 1).trans rfl⟩ (fun hHeld => ?_)
  clear hK K
  refine norm_ (a' := ?_) ?_ ?_
  rotate_left
  ·show Act.put _ (some 18) _ = _
   simp only [Act.put, List.setIfInBounds_toArray, List.set_cons_zero, List.set_cons_succ, i64_w, i32_w]
   rfl
  refine one_ (i := 8) (N := some 19) #[true, true, true, true, true, true, true, true, true, false, false, false, false, false] rfl rfl (one_of HT_.out (by kernel_rfl)) (by decide) (fun K hK => ?_)
  refine goes_ Try.func95 (by kernel_rfl) rfl #[.int .i64 a0_0, .slice Ao21 t980.length co21, .slice Ao22 t983.length co22] (by rfl) rfl rfl (by (try simp only [List.map_toArray, List.map_cons, List.map_nil]); first | done | rfl) ?_
  with_reducible refine (impl_unions.calls k a0_0 _ _ t980 _ _ t983 t986 _ ?side1 ?side2 ?side3 ?side4 A7.out).mono ?_
  (case side1 => exact Hof.Cw ((Kd.R_reads' HO982.out).2.2))
  (case side2 => exact (Kd.R_reads' HO982.out).2.1)
  (case side3 => exact Hof.Cw ((Kd.R_reads' HO985.out).2.2))
  (case side4 => exact (Kd.R_reads' HO985.out).2.1)
  rintro e w23 ⟨v987, rfl, ho0, hb⟩
  refine ⟨_, rfl, ?_⟩
  have n0_ := Aside0.mk (Kd.R_elder' (Hof.Rw HO982.out) (Kd.R_base ho0) hb)
  have n1_ := Aside0.mk (Kd.R_elder' (Hof.Rw HO985.out) (Kd.R_base ho0) hb)
  have n2_ := Aside0.mk (Kd.R_lower (Kd.R_new' (Kd.R_new' ho0 (Kd.R_lt (Hof.Rw HO982.out))) (Kd.R_lt (Hof.Rw HO985.out))) (below_size (Hof.Lw HB.out)))
  have n3_ := Aside0.mk (blk_below (Hof.Bw BK976.out) hb)
  have n4_ := Aside0.mk (blk_below (Hof.Bw BK977.out) hb)
  have n5_ := Aside0.mk (blk_below (Hof.Bw BK978.out) hb)
  have n6_ := Aside0.mk (below_step (Hof.Lw HB.out) hb)
  clear HO982
  clear HO985
  clear BK976
  clear BK977
  clear BK978
  clear HB
  have HO982 := n0_
  have HO985 := n1_
  have HO988 := n2_
  have BK976 := n3_
  have BK977 := n4_
  have BK978 := n5_
  have HB := n6_
  clear n0_ n1_ n2_ n3_ n4_ n5_ n6_
  (try clear hb)
  (try clear hb2)
  (try clear hk)
  (try clear hi)
  (try clear ho0)
  obtain ⟨Ao24, co24, eo24⟩ := Kd.R_slice HO988.out
  (first | subst eo24 | (injection eo24 with f1_ f2_ f3_; have f4_ := f1_.symm; have f5_ := f3_.symm; clear f1_ f2_ f3_; subst f4_; subst f5_))
  refine hK.out _ _ ⟨(blk_cell BK976.out 0).trans rfl, (blk_cell BK976.out 1).trans rfl, (blk_cell BK977.out 0).trans rfl, (blk_cell BK977.out 1).trans rfl⟩ (fun hHeld => ?_)
  clear hK K
  refine norm_ (a' := ?_) ?_ ?_
  rotate_left
  ·show Act.put _ (some 19) _ = _
   simp only [Act.put, List.setIfInBounds_toArray, List.set_cons_zero, List.set_cons_succ, i64_w, i32_w]
   rfl
  refine one_ (i := 9) (N := some 20) #[true, true, true, true, true, true, true, true, true, true, false, false, false, false] rfl rfl (one_of HT_.out (by kernel_rfl)) (by decide) (fun K hK => ?_)
  refine goes_ Try.func94 (by kernel_rfl) rfl #[.int .i64 a0_0, .slice Ao24 t986.length co24] (by rfl) rfl rfl (by (try simp only [List.map_toArray, List.map_cons, List.map_nil]); first | done | rfl) ?_
  with_reducible refine (impl_fromIndependent.calls k a0_0 _ _ t986 t989 t990 t993 _ ?side1 ?side2 A8.out).mono ?_
  (case side1 => exact Hof.Cw ((Kd.R_reads' HO988.out).2.2))
  (case side2 => exact (Kd.R_reads' HO988.out).2.1)
  rintro e w25 ⟨v991, rfl, ho0, hb⟩
  refine ⟨_, rfl, ?_⟩
  have n0_ := Aside0.mk (Kd.R_elder' (Hof.Rw HO982.out) (Kd.R_base ho0) hb)
  have n1_ := Aside0.mk (Kd.R_elder' (Hof.Rw HO985.out) (Kd.R_base ho0) hb)
  have n2_ := Aside0.mk (Kd.R_elder' (Hof.Rw HO988.out) (Kd.R_base ho0) hb)
  have n3_ := Aside0.mk (Kd.R_lower (Kd.R_new' (Kd.R_new' (Kd.R_new' ho0 (Kd.R_lt (Hof.Rw HO982.out))) (Kd.R_lt (Hof.Rw HO985.out))) (Kd.R_lt (Hof.Rw HO988.out))) (below_size (Hof.Lw HB.out)))
  have n4_ := Aside0.mk (blk_below (Hof.Bw BK976.out) hb)
  have n5_ := Aside0.mk (blk_below (Hof.Bw BK977.out) hb)
  have n6_ := Aside0.mk (blk_below (Hof.Bw BK978.out) hb)
  have n7_ := Aside0.mk (below_step (Hof.Lw HB.out) hb)
  clear HO982
  clear HO985
  clear HO988
  clear BK976
  clear BK977
  clear BK978
  clear HB
  have HO982 := n0_
  have HO985 := n1_
  have HO988 := n2_
  have HO992 := n3_
  have BK976 := n4_
  have BK977 := n5_
  have BK978 := n6_
  have HB := n7_
  clear n0_ n1_ n2_ n3_ n4_ n5_ n6_ n7_
  (try clear hb)
  (try clear hb2)
  (try clear hk)
  (try clear hi)
  (try clear ho0)
  obtain ⟨Ao27, co27, eo27⟩ := Kd.R_slice HO992.out
  (first | subst eo27 | (injection eo27 with f1_ f2_ f3_; have f4_ := f1_.symm; have f5_ := f3_.symm; clear f1_ f2_ f3_; subst f4_; subst f5_))
  refine hK.out _ _ ⟨(blk_cell BK976.out 0).trans rfl, (blk_cell BK976.out 1).trans rfl, (blk_cell BK977.out 0).trans rfl, (blk_cell BK977.out 1).trans rfl⟩ (fun hHeld => ?_)
  clear hK K
  refine norm_ (a' := ?_) ?_ ?_
  rotate_left
  ·show Act.put _ (some 20) _ = _
   simp only [Act.put, List.setIfInBounds_toArray, List.set_cons_zero, List.set_cons_succ, i64_w, i32_w]
   rfl
  refine pure_ (i := 10) (N := some 21) (v := ?_) (a' := ?_) #[true, true, true, true, true, true, true, true, true, true, true, false, false, false] rfl rfl (any_of HT_.out (by kernel_rfl)) (fun _ _ _ h => h) (Or.inl ⟨by rfl, ?_⟩) ?_ ?_
  rotate_left
  ·intro w'
   go_simp
   with_reducible rfl
  rotate_left
  ·simp only [Act.put, List.setIfInBounds_toArray, List.set_cons_zero, List.set_cons_succ, i64_w, i32_w]
   rfl
  refine pure_ (i := 11) (N := some 22) (v := ?_) (a' := ?_) #[true, true, true, true, true, true, true, true, true, true, true, true, false, false] rfl rfl (any_of HT_.out (by kernel_rfl)) (fun _ _ _ h => h) (Or.inl ⟨by rfl, ?_⟩) ?_ ?_
  rotate_left
  ·intro w'
   go_simp
   with_reducible rfl
  rotate_left
  ·simp only [Act.put, List.setIfInBounds_toArray, List.set_cons_zero, List.set_cons_succ, i64_w, i32_w]
   rfl
  refine one_ (i := 12) (N := none) #[true, true, true, true, true, true, true, true, true, true, true, true, true, false] rfl rfl (one_of HT_.out (by kernel_rfl)) (by decide) (fun K hK => ?_)
  have hs26 : w25.cell? ⟨gb978, 0, none⟩ = some (.int .i64 0) := (blk_cell BK978.out 0).trans rfl
  have hfs26 := blk_frozen BK978.out 0
  have hns26_0 := NB976_978.out
  have hns26_1 := NB977_978.out
  have hms26_0 := NB978_976.out
  have hms26_1 := NB978_977.out
  have hs28 : w25.cell? ⟨gb978, 1, none⟩ = some (.slice none 0 0) := (blk_cell BK978.out 1).trans rfl
  have hfs28 := blk_frozen BK978.out 1
  have hns28_0 := NB976_978.out
  have hns28_1 := NB977_978.out
  have hms28_0 := NB978_976.out
  have hms28_1 := NB978_977.out
  refine skip_ (w1 := ?_) (by rfl) rfl ?_ ?_
  rotate_left
  ·go_simp
   rfl
  refine hK.out _ _ ⟨((cell_far (p := ⟨gb978, _, none⟩) NB976_978.out _).trans (((cell_far (p := ⟨gb978, _, none⟩) NB976_978.out _).trans (hHeld.1)))), ((cell_far (p := ⟨gb978, _, none⟩) NB976_978.out _).trans (((cell_far (p := ⟨gb978, _, none⟩) NB976_978.out _).trans (hHeld.2.1)))), ((cell_far (p := ⟨gb978, _, none⟩) NB977_978.out _).trans (((cell_far (p := ⟨gb978, _, none⟩) NB977_978.out _).trans (hHeld.2.2.1)))), ((cell_far (p := ⟨gb978, _, none⟩) NB977_978.out _).trans (((cell_far (p := ⟨gb978, _, none⟩) NB977_978.out _).trans (hHeld.2.2.2))))⟩ (fun hHeld => ?_)
  clear hK K
  refine pure_ (i := 13) (N := some 5) (v := ?_) (a' := ?_) #[true, true, true, true, true, true, true, true, true, true, true, true, true, true] rfl rfl (any_of HT_.out (by kernel_rfl)) (fun _ _ _ h => h) (Or.inl ⟨by rfl, ?_⟩) ?_ ?_
  rotate_left
  ·intro w'
   go_simp
   with_reducible rfl
  rotate_left
  ·simp only [Act.put, List.setIfInBounds_toArray, List.set_cons_zero, List.set_cons_succ, i64_w, i32_w]
   rfl
  refine done_ (done_of HT_.out (by kernel_rfl)) ?_
  try go_wp2
  refine bodyPost_ret (results_ct rfl _ _ gb978 45 #[.int .i64 t989, .slice Ao27 t990.length co27] (0, 0) _ rfl (by (with_reducible repeat (first | refine blk_drewN ?_ _ | refine blk_drew ?_ | refine blk_alloc ?_ _)); refine blk_put (cs := #[.int .i64 t989, .slice none 0 0]) ?_ 1 _ rfl; (with_reducible repeat (first | refine blk_drewN ?_ _ | refine blk_drew ?_ | refine blk_alloc ?_ _)); refine blk_put (cs := #[.int .i64 0, .slice none 0 0]) ?_ 0 _ rfl; (with_reducible repeat (first | refine blk_drewN ?_ _ | refine blk_drew ?_ | refine blk_alloc ?_ _)); exact BK978.out) Try.underlying45 rfl (by kernel_rfl)) rfl ?_
  exact ⟨_, by first | rfl | (simp [errW_none, errW_some] <;> rfl) | (simp [*, errW_none, errW_some] <;> rfl), by (with_reducible repeat (first | apply Kd.R_alloc | apply Kd.R_drewN | apply Kd.R_drew)); exact Kd.R_mono (Kd.R_far (p := ⟨gb978, 1, none⟩) (Kd.R_far (p := ⟨gb978, 0, none⟩) (Kd.R_types HO992.out BK978.out (by decide)) (fun _ hk => hk.2) (.int .i64 t989)) (fun _ hk => hk.2) (.slice Ao27 t990.length co27)) (fun _ hk => trivial), by repeat (first | (with_reducible first | exact HB.out | apply below_alloc | apply pw_below_drewN | apply below_drew1 | refine below_set ?_ GE976.out | refine below_set ?_ GE977.out | refine below_set ?_ GE978.out) | exact HB.out)⟩
 ·replace c4 := Bool.eq_false_iff.mpr c4
  subst c4
  have H1 : (some (0, ([] : List Int), false)) = some (r1, r2, r3) := by rw [if_neg (show ¬ (false = true) by decide)] at H; exact H
  clear H
  have H := H1
  clear H1
  simp only [Option.some.injEq, Prod.mk.injEq] at H
  obtain ⟨rfl, rfl, rfl⟩ := H
  go_enter Try.func44, Try.ntmps44
  go_wp2_with (first | ((with_reducible refine gate_dst (N := 2) rfl ?_); refine box_event ?hg (N := 2) ?hd (cs := #[.int .i64 a0_0, .slice A0_1 l0_1.length c0_1]) (t := 45) ?hr ?_; (case hd => rfl); (case hg => rfl); (case hr => first | (go_simp; done) | (go_simp; rfl)); intro gb976 hg w29 hbox hb; have BK976 := Aside0.mk hbox; have GW976 := Aside0.mk ((by rw [hg]; exact (below_size (Hof.Lw HB.out)) : w.heap.size ≤ gb976)); have GE976 := Aside0.mk ((by rw [hg]; exact (below_size (Hof.Lw HB.out)) : w.heap.size ≤ gb976)); replace HB := Aside0.mk (below_step (Hof.Lw HB.out) hb); clear hb hbox hg) | ((with_reducible refine gate_dst (N := 3) rfl ?_); refine box_event ?hg (N := 3) ?hd (cs := #[.int .i64 a1_0, .slice A1_1 l1_1.length c1_1]) (t := 45) ?hr ?_; (case hd => rfl); (case hg => rfl); (case hr => first | (go_simp; done) | (go_simp; rfl)); intro gb977 hg w30 hbox hb; have BK977 := Aside0.mk hbox; have GW977 := Aside0.mk ((by rw [hg]; exact (below_size (Hof.Lw HB.out)) : w.heap.size ≤ gb977)); have GE977 := Aside0.mk ((by rw [hg]; exact (below_size (Hof.Lw HB.out)) : w.heap.size ≤ gb977)); replace HB := Aside0.mk (below_step (Hof.Lw HB.out) hb); have NB976_977 := Aside0.mk ((by rw [hg]; exact Nat.ne_of_lt (blk_lt (g := gb976) (o := .cells #[.int .i64 a0_0, .slice A0_1 l0_1.length c0_1] 45 (0, 0)) (Hof.Bw BK976.out)) : gb976 ≠ gb977)); have NB977_976 := Aside0.mk ((by rw [hg]; exact Nat.ne_of_gt (blk_lt (g := gb976) (o := .cells #[.int .i64 a0_0, .slice A0_1 l0_1.length c0_1] 45 (0, 0)) (Hof.Bw BK976.out)) : gb977 ≠ gb976)); replace BK976 := Aside0.mk (blk_below (Hof.Bw BK976.out) hb); clear hb hbox hg) | ((with_reducible refine gate_dst (N := 4) rfl ?_); refine box_event ?hg (N := 4) ?hd (cs := #[.int .i64 0, .slice none 0 0]) (t := 45) ?hr ?_; (case hd => rfl); (case hg => rfl); (case hr => first | (go_simp; done) | (go_simp; rfl)); intro gb978 hg w31 hbox hb; have BK978 := Aside0.mk hbox; have GW978 := Aside0.mk ((by rw [hg]; exact (below_size (Hof.Lw HB.out)) : w.heap.size ≤ gb978)); have GE978 := Aside0.mk ((by rw [hg]; exact (below_size (Hof.Lw HB.out)) : w.heap.size ≤ gb978)); replace HB := Aside0.mk (below_step (Hof.Lw HB.out) hb); have NB976_978 := Aside0.mk ((by rw [hg]; exact Nat.ne_of_lt (blk_lt (g := gb976) (o := .cells #[.int .i64 a0_0, .slice A0_1 l0_1.length c0_1] 45 (0, 0)) (Hof.Bw BK976.out)) : gb976 ≠ gb978)); have NB978_976 := Aside0.mk ((by rw [hg]; exact Nat.ne_of_gt (blk_lt (g := gb976) (o := .cells #[.int .i64 a0_0, .slice A0_1 l0_1.length c0_1] 45 (0, 0)) (Hof.Bw BK976.out)) : gb978 ≠ gb976)); replace BK976 := Aside0.mk (blk_below (Hof.Bw BK976.out) hb); have NB977_978 := Aside0.mk ((by rw [hg]; exact Nat.ne_of_lt (blk_lt (g := gb977) (o := .cells #[.int .i64 a1_0, .slice A1_1 l1_1.length c1_1] 45 (0, 0)) (Hof.Bw BK977.out)) : gb977 ≠ gb978)); have NB978_977 := Aside0.mk ((by rw [hg]; exact Nat.ne_of_gt (blk_lt (g := gb977) (o := .cells #[.int .i64 a1_0, .slice A1_1 l1_1.length c1_1] 45 (0, 0)) (Hof.Bw BK977.out)) : gb978 ≠ gb977)); replace BK977 := Aside0.mk (blk_below (Hof.Bw BK977.out) hb); clear hb hbox hg; have hnb32 := NB976_977.out; have hnc32 := NB977_976.out; have hnb33 := NB976_978.out; have hnc33 := NB978_976.out; obtain ⟨hcz34_0, hcz34_1, hfz34_0, hfz34_1⟩ := Hof.blk2 BK976.out; have hnb35 := NB977_978.out; have hnc35 := NB978_977.out; obtain ⟨hcz36_0, hcz36_1, hfz36_0, hfz36_1⟩ := Hof.blk2 BK977.out) | ((with_reducible refine gate_callee (f := 93) rfl ?_); refine goesL_ (some 8) rfl rfl Try.func93 (by kernel_rfl) rfl #[.agg #[.int .i64 a0_0, .slice A0_1 l0_1.length c0_1], .agg #[.int .i64 a1_0, .slice A1_1 l1_1.length c1_1]] rfl (by (try simp only [List.map_toArray, List.map_cons, List.map_nil]); first | done | rfl) ?_; (with_reducible refine (impl_together.calls k a0_0 _ _ l0_1 a1_0 _ _ l1_1 false _ ?side1 ?side2 ?side3 ?side4 A3.out).mono ?_); (case side1 => exact Hof.Cw (Kd.C_below HR0_1.out HB.out)); (case side2 => exact HC0_1.out); (case side3 => exact Hof.Cw (Kd.C_below HR1_1.out HB.out)); (case side4 => exact HC1_1.out); rintro e w37 ⟨rfl, hb⟩; refine ⟨_, rfl, ?_⟩; replace BK976 := Aside0.mk (blk_below (Hof.Bw BK976.out) hb); replace BK977 := Aside0.mk (blk_below (Hof.Bw BK977.out) hb); replace BK978 := Aside0.mk (blk_below (Hof.Bw BK978.out) hb); replace HB := Aside0.mk (below_step (Hof.Lw HB.out) hb); (try clear hb); (try clear hb2); (try clear hk); (try clear hi); obtain ⟨hcz38_0, hcz38_1, hfz38_0, hfz38_1⟩ := Hof.blk2 BK978.out))
  refine bodyPost_ret (results_ct rfl _ _ gb978 45 #[.int .i64 0, .slice none 0 0] (0, 0) _ rfl (by (with_reducible repeat (first | refine blk_drewN ?_ _ | refine blk_drew ?_ | refine blk_alloc ?_ _)); refine blk_put (cs := #[.int .i64 0, .slice none 0 0]) ?_ 1 _ rfl; (with_reducible repeat (first | refine blk_drewN ?_ _ | refine blk_drew ?_ | refine blk_alloc ?_ _)); refine blk_put (cs := #[.int .i64 0, .slice none 0 0]) ?_ 0 _ rfl; (with_reducible repeat (first | refine blk_drewN ?_ _ | refine blk_drew ?_ | refine blk_alloc ?_ _)); exact BK978.out) Try.underlying45 rfl (by kernel_rfl)) rfl ?_
  exact ⟨_, by first | rfl | (simp [errW_none, errW_some] <;> rfl) | (simp [*, errW_none, errW_some] <;> rfl), by first | exact Kd.R_nil _ _ _ _ _ | exact Kd.N_nil _ _ _ _ _ | exact Kd.V_nil _ _ _ _ _ | exact Kd.Q_nil _ _ _ _ _ | exact Kd.S_nil _ _ _ _ _, by repeat (first | (with_reducible first | exact HB.out | apply below_alloc | apply pw_below_drewN | apply below_drew1 | refine below_set ?_ GE976.out | refine below_set ?_ GE977.out | refine below_set ?_ GE978.out) | exact HB.out)⟩
end Go.Proofs.Ytbjnkcfkhonkhaa.Pr
end
section
namespace Go.Proofs.Ytbjnkcfkhonkhaa.Pr
open Go.RowKit Go.Proofs.YtbjnkcfkhonkhaaW.PrintWords Go.Proofs.YtbjnkcfkhonkhaaW.PrintLast Go.Proofs.YtbjnkcfkhonkhaaW.PrintMore
attribute [local go_sem] max2_int min2_int max_two min_two max_three min_three max_four min_four
set_option linter.unusedVariables false
set_option linter.unusedSimpArgs false
def laws_heldIntS.l0 : Nat → List Int → Int → Int → Option (Int)
 | 0, _, _, _ => none
 | k + 1, x0, x1, x5 => if x5 < (x0.length : Int) then (if 0 ≤ x5 then (if (rd x0 x5) = x1 then (laws_heldIntS.l0 k x0 (wrap64 (x1 + 1)) (wrap64 (x5 + 1))) else (some (-1))) else (none)) else (some x1)
def laws_heldIntS.f (k : Nat) (l0 : List Int) (a1 : Int) : Option (Int) := laws_heldIntS.l0 k l0 a1 0
set_option maxHeartbeats 8000000 in
set_option maxRecDepth 100000 in
theorem laws_heldIntS.calls (k : Nat) (A0 : Option Addr) (c0 : Nat) (l0 : List Int) (a1 : Int) (r : Int) (w : World) (hr0 : Kd.C (Kd.int .i64) w A0 l0.length l0) (hc0 : l0.length ≤ c0) (h : laws_heldIntS.f k l0 a1 = some r) :
  Calls Try.prog 31 #[.slice A0 l0.length c0, .int .i64 a1] w fun e w' => e = .returned (.int .i64 r) ∧ Drawn0 w w' := by
 have HR0 := Aside0.mk hr0
 have HC0 := Aside0.mk hc0
 clear hr0 hc0
 have H : (laws_heldIntS.l0 k l0 a1 0) = some r := h
 clear h
 have H' := Aside0.mk H
 clear H
 go_enter Try.func31, Try.ntmps31
 go_wp2
 go_loopg [1, 5] k (fun kq v1 v5 w' => ∃ (x1_1 : Int) (x5_1 : Int), v1 = .int .i64 x1_1 ∧ v5 = .int .i64 x5_1 ∧ Aside0 (laws_heldIntS.l0 kq l0 x1_1 x5_1 = some r) ∧ Aside0 (kq ≤ k) ∧ Drawn0 w w')
 case atStart => exact ⟨(a1), (0), (by first | rfl | (simp; done) | (simp [*]; done)), (by first | rfl | (simp; done) | (simp [*]; done)), H', ⟨Nat.le_refl _⟩, by repeat (first | exact Drawn0.refl _ | apply Drawn0.step)⟩
 case round =>
  clear H'
  try clear p2
  obtain ⟨x1_1, x5_1, rfl, rfl, HA, HK1, ⟨m1, rfl⟩⟩ := hrel
  cases gk with
  | zero => exact absurd HA.out (by simp [laws_heldIntS.l0])
  | succ k1 =>
   have H := HA.out
   clear HA
   simp only [laws_heldIntS.l0] at H
   by_cases c3 : x5_1 < (l0.length : Int)
   ·rw [if_pos c3] at H
    have c3b0 : decide (x5_1 < (l0.length : Int)) = true := decide_eq_true c3
    clear c3
    by_cases c4 : 0 ≤ x5_1
    ·rw [if_pos c4] at H
     have c4b0 : decide (0 ≤ x5_1) = true := decide_eq_true c4
     clear c4
     by_cases c5 : (rd l0 x5_1) = x1_1
     ·rw [if_pos c5] at H
      have c5b0 : ((rd l0 x5_1) == x1_1) = true := beq_iff_eq.mpr c5
      have c5b1 : ((rd l0 x5_1) != x1_1) = false := bne_eq_false_iff_eq.mpr c5
      clear c5
      have H' := Aside0.mk H
      clear H
      have p167 : 0 ≤ (x5_1 : Int) := of_decide_eq_true (by first | (with_reducible assumption) | assumption)
      have q167 : x5_1 < (l0.length : Int) := of_decide_eq_true (by first | (with_reducible assumption) | assumption)
      obtain ⟨ad167, e167, hx167_0⟩ := Kd.at_int HR0.out x5_1 p167 q167
      cases e167
      replace p167 := eq_true p167
      replace q167 := eq_true q167
      go_wp2
      go_roundg k1
      case measure => have := HK1.out; omega
      case rel => exact ⟨(wrap64 (x1_1 + 1)), (wrap64 (x5_1 + 1)), (by first | rfl | (simp; done) | (simp [*]; done)), (by first | rfl | (simp; done) | (simp [*]; done)), H', ⟨by have := HK1.out; omega⟩, by repeat (first | exact Drawn0.refl _ | apply Drawn0.step)⟩
     ·rw [if_neg c5] at H
      have c5b0 : ((rd l0 x5_1) == x1_1) = false := beq_eq_false_iff_ne.mpr c5
      have c5b1 : ((rd l0 x5_1) != x1_1) = true := bne_iff_ne.mpr c5
      obtain rfl := Option.some.inj H
      have p167 : 0 ≤ (x5_1 : Int) := of_decide_eq_true (by first | (with_reducible assumption) | assumption)
      have q167 : x5_1 < (l0.length : Int) := of_decide_eq_true (by first | (with_reducible assumption) | assumption)
      obtain ⟨ad167, e167, hx167_0⟩ := Kd.at_int HR0.out x5_1 p167 q167
      cases e167
      replace p167 := eq_true p167
      replace q167 := eq_true q167
      go_wp2
      go_ret
      exact ⟨by first | rfl | (simp; done) | (simp [*]; done), by repeat (first | exact Drawn0.refl _ | apply Drawn0.step)⟩
    ·rw [if_neg c4] at H
     exact absurd H (by simp)
   ·rw [if_neg c3] at H
    have c3b0 : decide (x5_1 < (l0.length : Int)) = false := decide_eq_false c3
    clear c3
    obtain rfl := Option.some.inj H
    go_wp2
    go_ret
    exact ⟨by first | rfl | (simp; done) | (simp [*]; done), by repeat (first | exact Drawn0.refl _ | apply Drawn0.step)⟩
end Go.Proofs.Ytbjnkcfkhonkhaa.Pr
end
section
namespace Go.Proofs.Ytbjnkcfkhonkhaa.Pr
open Go.RowKit Go.Proofs.YtbjnkcfkhonkhaaW.PrintWords Go.Proofs.YtbjnkcfkhonkhaaW.PrintLast Go.Proofs.YtbjnkcfkhonkhaaW.PrintMore
attribute [local go_sem] max2_int min2_int max_two min_two max_three min_three max_four min_four
set_option linter.unusedVariables false
set_option linter.unusedSimpArgs false
def laws_heldMatroid.f (k : Nat) (a0_0 : Int) (l0_1 : List Int) (a1 : Int) : Option (Int) := (laws_heldIntS.f k l0_1 a1).bind fun t995 => (if t995 < 0 then (some (-1)) else (some t995))
set_option maxHeartbeats 8000000 in
set_option maxRecDepth 100000 in
theorem laws_heldMatroid.calls (k : Nat) (a0_0 : Int) (A0_1 : Option Addr) (c0_1 : Nat) (l0_1 : List Int) (a1 : Int) (r : Int) (w : World) (hr0_1 : Kd.C (Kd.int .i64) w A0_1 l0_1.length l0_1) (hc0_1 : l0_1.length ≤ c0_1) (h : laws_heldMatroid.f k a0_0 l0_1 a1 = some r) :
  Calls Try.prog 45 #[.agg #[.int .i64 a0_0, .slice A0_1 l0_1.length c0_1], .int .i64 a1] w fun e w' => e = .returned (.int .i64 r) ∧ Below w.heap.size w w' := by
 have hu45 := Try.underlying45
 have HR0_1 := Aside0.mk hr0_1
 have HC0_1 := Aside0.mk hc0_1
 clear hr0_1 hc0_1
 have HB := Aside0.mk (Below.refl w.heap.size w)
 have H : ((laws_heldIntS.f k l0_1 a1).bind fun t995 => (if t995 < 0 then (some (-1)) else (some t995))) = some r := h
 clear h
 replace H := Option.bind_eq_some_iff.mp H
 obtain ⟨t995, A30, H⟩ := H
 (try dsimp only at H)
 have A3 := Aside0.mk A30
 clear A30
 by_cases c4 : t995 < 0
 ·rw [if_pos c4] at H
  have c4b0 : decide (t995 < 0) = true := decide_eq_true c4
  clear c4
  obtain rfl := Option.some.inj H
  go_enter Try.func45, Try.ntmps45
  go_wp2_with (first | ((with_reducible refine gate_dst (N := 2) rfl ?_); refine box_event ?hg (N := 2) ?hd (cs := #[.int .i64 a0_0, .slice A0_1 l0_1.length c0_1]) (t := 45) ?hr ?_; (case hd => rfl); (case hg => rfl); (case hr => first | (go_simp; done) | (go_simp; rfl)); intro gb994 hg w5 hbox hb; have BK994 := Aside0.mk hbox; have GW994 := Aside0.mk ((by rw [hg]; exact (below_size (Hof.Lw HB.out)) : w.heap.size ≤ gb994)); have GE994 := Aside0.mk ((by rw [hg]; exact (below_size (Hof.Lw HB.out)) : w.heap.size ≤ gb994)); replace HB := Aside0.mk (below_step (Hof.Lw HB.out) hb); clear hb hbox hg; obtain ⟨hcz6_0, hcz6_1, hfz6_0, hfz6_1⟩ := Hof.blk2 BK994.out) | ((with_reducible refine gate_callee (f := 31) rfl ?_); refine goesL_ (some 8) rfl rfl Try.func31 (by kernel_rfl) rfl #[.slice A0_1 l0_1.length c0_1, .int .i64 a1] rfl (by (try simp only [List.map_toArray, List.map_cons, List.map_nil]); first | done | rfl) ?_; (with_reducible refine (laws_heldIntS.calls k _ _ l0_1 a1 t995 _ ?side1 ?side2 A3.out).mono ?_); (case side1 => exact Hof.Cw (Kd.C_below HR0_1.out HB.out)); (case side2 => exact HC0_1.out); rintro e w' ⟨rfl, ⟨nd, rfl⟩⟩; refine ⟨_, rfl, ?_⟩))
  go_ret
  exact ⟨by first | rfl | (simp [errW_none, errW_some] <;> rfl) | (simp [*, errW_none, errW_some] <;> rfl), by repeat (first | (with_reducible first | exact HB.out | apply below_alloc | apply pw_below_drewN | apply below_drew1 | refine below_set ?_ GE994.out) | exact HB.out)⟩
 ·rw [if_neg c4] at H
  have c4b0 : decide (t995 < 0) = false := decide_eq_false c4
  clear c4
  obtain rfl := Option.some.inj H
  go_enter Try.func45, Try.ntmps45
  go_wp2_with (first | ((with_reducible refine gate_dst (N := 2) rfl ?_); refine box_event ?hg (N := 2) ?hd (cs := #[.int .i64 a0_0, .slice A0_1 l0_1.length c0_1]) (t := 45) ?hr ?_; (case hd => rfl); (case hg => rfl); (case hr => first | (go_simp; done) | (go_simp; rfl)); intro gb994 hg w7 hbox hb; have BK994 := Aside0.mk hbox; have GW994 := Aside0.mk ((by rw [hg]; exact (below_size (Hof.Lw HB.out)) : w.heap.size ≤ gb994)); have GE994 := Aside0.mk ((by rw [hg]; exact (below_size (Hof.Lw HB.out)) : w.heap.size ≤ gb994)); replace HB := Aside0.mk (below_step (Hof.Lw HB.out) hb); clear hb hbox hg; obtain ⟨hcz8_0, hcz8_1, hfz8_0, hfz8_1⟩ := Hof.blk2 BK994.out) | ((with_reducible refine gate_callee (f := 31) rfl ?_); refine goesL_ (some 8) rfl rfl Try.func31 (by kernel_rfl) rfl #[.slice A0_1 l0_1.length c0_1, .int .i64 a1] rfl (by (try simp only [List.map_toArray, List.map_cons, List.map_nil]); first | done | rfl) ?_; (with_reducible refine (laws_heldIntS.calls k _ _ l0_1 a1 t995 _ ?side1 ?side2 A3.out).mono ?_); (case side1 => exact Hof.Cw (Kd.C_below HR0_1.out HB.out)); (case side2 => exact HC0_1.out); rintro e w' ⟨rfl, ⟨nd, rfl⟩⟩; refine ⟨_, rfl, ?_⟩))
  go_ret
  exact ⟨by first | rfl | (simp [errW_none, errW_some] <;> rfl) | (simp [*, errW_none, errW_some] <;> rfl), by repeat (first | (with_reducible first | exact HB.out | apply below_alloc | apply pw_below_drewN | apply below_drew1 | refine below_set ?_ GE994.out) | exact HB.out)⟩
end Go.Proofs.Ytbjnkcfkhonkhaa.Pr
end
