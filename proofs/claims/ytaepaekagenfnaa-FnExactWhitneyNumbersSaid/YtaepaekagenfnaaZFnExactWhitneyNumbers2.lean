/- Texts of the claim FnExactWhitneyNumbers, laid together by merge.py. -/
import Derived.Test.YtaepaekagenfnaaZFnExactWhitneyNumbers1
/-! ## Pr28 -/
section
/- The functions that the laws reach, as plain Lean functions, and that the calls come to what these say. By pr.py over the kit's print. -/
namespace Go.Proofs.Ytaepaekagenfnaa.Pr
open Go.RowKit Go.Proofs.YtaepaekagenfnaaW.PrintWords Go.Proofs.YtaepaekagenfnaaW.PrintLast Go.Proofs.YtaepaekagenfnaaW.PrintMore
attribute [local go_sem] max2_int min2_int max_two min_two max_three min_three max_four min_four   -- for this text's walks alone
set_option linter.unusedVariables false
set_option linter.unusedSimpArgs false

/-! ### impl_FirstFailure: function 113 -/
def impl_FirstFailure_1.f (k : Nat) (l : List Int) (a e f : Int) : Option Bool := if 0 ≤ e then (if 0 ≤ f then (impl_HasSet.f k l (Go.bits .or .i64 (Go.bits .andNot .i64 a (shl .i64 1 e)) (shl .i64 1 f))) else (none)) else (none)
theorem impl_FirstFailure_1.mono (l : List Int) (a e f : Int) (k : Nat) : LeO (impl_FirstFailure_1.f k l a e f) (impl_FirstFailure_1.f (k + 1) l a e f) := LeO.ite (LeO.ite (impl_HasSet.mono _ _ _) (LeO.refl _)) (LeO.refl _)
mutual
def impl_FirstFailure.l0 : Nat → Int → List Int → Int → Option (Int × Int × Int × Bool)
  | 0, _, _, _ => none
  | k + 1, n, l, x => if x < (l.length : Int) then (if 0 ≤ x then (impl_FirstFailure.l1 k n l x (rd l x) 0) else (none)) else (some (0, 0, 0, false))
def impl_FirstFailure.l1 : Nat → Int → List Int → Int → Int → Int → Option (Int × Int × Int × Bool)
  | 0, _, _, _, _, _ => none
  | k + 1, n, l, x, a, y => if y < (l.length : Int) then (if 0 ≤ y then ((impl_ElementsOf.f k (Go.bits .andNot .i64 a (rd l y))).bind fun es => (impl_FirstFailure.l2 k n l x a y (rd l y) es 0)) else (none)) else (impl_FirstFailure.l0 k n l (wrap64 (x + 1)))
def impl_FirstFailure.l2 : Nat → Int → List Int → Int → Int → Int → Int → List Int → Int → Option (Int × Int × Int × Bool)
  | 0, _, _, _, _, _, _, _, _ => none
  | k + 1, n, l, x, a, y, b, es, z => if z < (es.length : Int) then (if 0 ≤ z then ((impl_ElementsOf.f k (Go.bits .andNot .i64 b a)).bind fun fs => ((slices_ContainsFunc_int_int.f k fs (fun f => impl_FirstFailure_1.f k l a (rd es z) f)).bind fun t => (if t = true then (impl_FirstFailure.l2 k n l x a y b es (wrap64 (z + 1))) else (some (a, b, rd es z, true))))) else (none)) else (impl_FirstFailure.l1 k n l x a (wrap64 (y + 1)))
end
def impl_FirstFailure.f (k : Nat) (a0_0 : Int) (l0_1 : List Int) : Option (Int × Int × Int × Bool) := (impl_IsFamily.f k a0_0 l0_1).bind fun t => (if t = true then (impl_FirstFailure.l0 k a0_0 l0_1 0) else (some (0, 0, 0, false)))
theorem impl_FirstFailure.mono_l : ∀ k, (∀ n l x, LeO (impl_FirstFailure.l0 k n l x) (impl_FirstFailure.l0 (k + 1) n l x)) ∧ (∀ n l x a y, LeO (impl_FirstFailure.l1 k n l x a y) (impl_FirstFailure.l1 (k + 1) n l x a y)) ∧ (∀ n l x a y b es z, LeO (impl_FirstFailure.l2 k n l x a y b es z) (impl_FirstFailure.l2 (k + 1) n l x a y b es z))
  | 0 => ⟨fun _ _ _ r h => by simp [impl_FirstFailure.l0] at h, fun _ _ _ _ _ r h => by simp [impl_FirstFailure.l1] at h, fun _ _ _ _ _ _ _ _ r h => by simp [impl_FirstFailure.l2] at h⟩
  | k + 1 => by
    obtain ⟨h0, h1, h2⟩ := impl_FirstFailure.mono_l k
    refine ⟨fun n l x => ?_, fun n l x a y => ?_, fun n l x a y b es z => ?_⟩
    · unfold impl_FirstFailure.l0
      exact LeO.ite (LeO.ite (h1 _ _ _ _ _) (LeO.refl _)) (LeO.refl _)
    · unfold impl_FirstFailure.l1
      exact LeO.ite (LeO.ite (LeO.bind (impl_ElementsOf.mono _ _) fun _ => h2 _ _ _ _ _ _ _ _) (LeO.refl _)) (h0 _ _ _)
    · unfold impl_FirstFailure.l2
      exact LeO.ite (LeO.ite (LeO.bind (impl_ElementsOf.mono _ _) fun _ => LeO.bind (slices_ContainsFunc_int_int.mono (fun f => impl_FirstFailure_1.mono l a _ f k) k _) fun _ => LeO.ite (h2 _ _ _ _ _ _ _ _) (LeO.refl _)) (LeO.refl _)) (h1 _ _ _ _ _)
theorem impl_FirstFailure.mono : ∀ a0 a1 k, LeO (impl_FirstFailure.f k a0 a1) (impl_FirstFailure.f (k + 1) a0 a1) := fun a0 a1 k => LeO.bind (impl_IsFamily.mono _ _ _) fun _ => LeO.ite ((impl_FirstFailure.mono_l k).1 _ _ _) (LeO.refl _)
set_option maxHeartbeats 8000000 in
set_option maxRecDepth 100000 in
theorem impl_FirstFailure_1.calls (k : Nat) (a0_0 : Int) (A0_1 : Option Addr) (c0_1 : Nat) (l0_1 : List Int) (a e f : Int) (b : Bool) (gb1 gb5 gb9 : Nat) (w : World) (h1 : w.heap[gb1]? = some (.cells #[.int .i64 a0_0, (.slice A0_1 l0_1.length c0_1)] 27 (0, 0))) (h5 : w.heap[gb5]? = some (.cells #[.int .i64 a] 3 (0, 0))) (h9 : w.heap[gb9]? = some (.cells #[.int .i64 e] 3 (0, 0))) (hr0_1 : Kd.C (Kd.int .i64) w A0_1 l0_1.length l0_1) (hc0_1 : l0_1.length ≤ c0_1) (h : impl_FirstFailure_1.f k l0_1 a e f = some b) :
    Calls Try.prog 138 #[.int .i64 f, .pointer (some ⟨gb1, 0, none⟩), .pointer (some ⟨gb5, 0, none⟩), .pointer (some ⟨gb9, 0, none⟩)] w fun e w' => e = .returned (.bool b) ∧ Below w.heap.size w w' := by
  have hu27 := Try.underlying27
  have HR := Aside0.mk hr0_1
  have HC := Aside0.mk hc0_1
  have hcz5_0 : w.cell? ⟨gb1, 0, none⟩ = some (.int .i64 a0_0) := (blk_cell h1 0).trans rfl
  have hcz5_1 : w.cell? ⟨gb1, 1, none⟩ = some (.slice A0_1 l0_1.length c0_1) := (blk_cell h1 1).trans rfl
  have hcz6_0 : w.cell? ⟨gb5, 0, none⟩ = some (.int .i64 a) := (blk_cell h5 0).trans rfl
  have hcz7_0 : w.cell? ⟨gb9, 0, none⟩ = some (.int .i64 e) := (blk_cell h9 0).trans rfl
  clear hr0_1 hc0_1 h1 h5 h9
  have H := h
  clear h
  unfold impl_FirstFailure_1.f at H
  by_cases c13 : 0 ≤ e
  case neg => rw [if_neg c13] at H; exact absurd H (by simp)
  rw [if_pos c13] at H
  have c13b0 := eq_true c13
  have c13b1 : decide (0 ≤ e) = true := decide_eq_true c13
  clear c13
  by_cases c14 : 0 ≤ f
  case neg => rw [if_neg c14] at H; exact absurd H (by simp)
  rw [if_pos c14] at H
  have c14b0 := eq_true c14
  have c14b1 : decide (0 ≤ f) = true := decide_eq_true c14
  clear c14
  obtain ⟨ji14, hji14⟩ : ∃ j_ : Int, (shl .i64 1 e) = j_ := ⟨_, rfl⟩
  rw [hji14] at H
  have hji14_ : (IntKind.i64.wrap (1 * 2 ^ min e.toNat 64)) = ji14 := hji14
  have hji14z : e ≤ 64 → (IntKind.i64.wrap (1 * 2 ^ e.toNat)) = ji14 := shl_small hji14
  have hji14u : (IntKind.i64.wrap (2 ^ min e.toNat 64)) = ji14 := by have h_ := hji14_; rw [Int.one_mul] at h_; exact h_
  have hji14v : e ≤ 64 → (IntKind.i64.wrap (2 ^ e.toNat)) = ji14 := fun hle_ => by have h_ := hji14z hle_; rw [Int.one_mul] at h_; exact h_
  have hji14y : (wrap64 (1 * 2 ^ min e.toNat 64)) = ji14 := (i64_w _).symm.trans hji14_
  have hji14x : e ≤ 64 → (wrap64 (1 * 2 ^ e.toNat)) = ji14 := fun h_ => (i64_w _).symm.trans (hji14z h_)
  obtain ⟨ji16, hji16⟩ : ∃ j_ : Int, (shl .i64 1 f) = j_ := ⟨_, rfl⟩
  rw [hji16] at H
  have hji16_ : (IntKind.i64.wrap (1 * 2 ^ min f.toNat 64)) = ji16 := hji16
  have hji16z : f ≤ 64 → (IntKind.i64.wrap (1 * 2 ^ f.toNat)) = ji16 := shl_small hji16
  have hji16u : (IntKind.i64.wrap (2 ^ min f.toNat 64)) = ji16 := by have h_ := hji16_; rw [Int.one_mul] at h_; exact h_
  have hji16v : f ≤ 64 → (IntKind.i64.wrap (2 ^ f.toNat)) = ji16 := fun hle_ => by have h_ := hji16z hle_; rw [Int.one_mul] at h_; exact h_
  have hji16y : (wrap64 (1 * 2 ^ min f.toNat 64)) = ji16 := (i64_w _).symm.trans hji16_
  have hji16x : f ≤ 64 → (wrap64 (1 * 2 ^ f.toNat)) = ji16 := fun h_ => (i64_w _).symm.trans (hji16z h_)
  have A1 := Aside0.mk H
  clear H
  go_enter Try.func138, Try.ntmps138
  go_wp2_with fail
  go_quiet (first | (go_at_call 60; (with_reducible refine (impl_HasSet.calls k _ _ l0_1 (Go.bits .or .i64 (Go.bits .andNot .i64 a ji14) ji16) b _ ?side1 ?side2 A1.out).mono ?_); (case side1 => repeat (first | exact HR.out | (with_reducible refine Kd.C_alloc ?_ _) | (with_reducible refine Kd.C_drewN ?_ _) | (with_reducible refine Kd.C_drew ?_))); (case side2 => exact HC.out); rintro e w' ⟨rfl, ⟨nd, rfl⟩⟩; (first | exact ⟨rfl, _, World.drewN_drewN _ _ _⟩ | exact ⟨rfl, _, Eq.trans (World.drewN_drewN _ _ _) (congrArg (World.drewN _) (Nat.add_assoc _ _ _))⟩)))
  go_wp2
  go_ret
  exact ⟨rfl, by first | exact pw_below_drewN (Below.refl _ _) _ | exact Below.refl _ _⟩
theorem impl_FirstFailure_1.fun1 (k : Nat) (a0_0 : Int) (A0_1 : Option Addr) (c0_1 : Nat) (l0_1 : List Int) (a e : Int) (gb1 gb5 gb9 : Nat) (w : World) (h1 : w.heap[gb1]? = some (.cells #[.int .i64 a0_0, (.slice A0_1 l0_1.length c0_1)] 27 (0, 0))) (h5 : w.heap[gb5]? = some (.cells #[.int .i64 a] 3 (0, 0))) (h9 : w.heap[gb9]? = some (.cells #[.int .i64 e] 3 (0, 0))) (hr0_1 : Kd.C (Kd.int .i64) w A0_1 l0_1.length l0_1) (hc0_1 : l0_1.length ≤ c0_1) :
    Hof.Fun1 Try.prog w (.func (.func 138) #[] #[.pointer (some ⟨gb1, 0, none⟩), .pointer (some ⟨gb5, 0, none⟩), .pointer (some ⟨gb9, 0, none⟩)]) (fun f => impl_FirstFailure_1.f k l0_1 a e f) :=
  ⟨⟨138, #[.pointer (some ⟨gb1, 0, none⟩), .pointer (some ⟨gb5, 0, none⟩), .pointer (some ⟨gb9, 0, none⟩)], Try.f138, rfl, Try.func138, by kernel_rfl, rfl, fun f b w' hw hg => impl_FirstFailure_1.calls k a0_0 A0_1 c0_1 l0_1 a e f b gb1 gb5 gb9 w' (blk_below h1 hw) (blk_below h5 hw) (blk_below h9 hw) (Kd.C_below hr0_1 hw) hc0_1 hg⟩⟩
set_option maxHeartbeats 8000000 in
set_option maxRecDepth 100000 in
theorem impl_FirstFailure.calls (k : Nat) (a0_0 : Int) (A0_1 : Option Addr) (c0_1 : Nat) (l0_1 : List Int) (r1 : Int) (r2 : Int) (r3 : Int) (r4 : Bool) (w : World) (hr0_1 : Kd.C (Kd.int .i64) w A0_1 l0_1.length l0_1) (hc0_1 : l0_1.length ≤ c0_1) (h : impl_FirstFailure.f k a0_0 l0_1 = some (r1, r2, r3, r4)) :
    Calls Try.prog 113 #[.agg #[.int .i64 a0_0, .slice A0_1 l0_1.length c0_1]] w fun e w' => e = .returned (.tuple #[.agg #[.int .i64 r1, .int .i64 r2, .int .i64 r3], .bool r4]) ∧ Below w.heap.size w w' := by
  have hu27 := Try.underlying27
  have hu93 := Try.underlying93
  have HR := Aside0.mk hr0_1
  have HC := Aside0.mk hc0_1
  have HB := Aside0.mk (Below.refl w.heap.size w)
  clear hr0_1 hc0_1
  unfold impl_FirstFailure.f at h
  obtain ⟨t, h1, h⟩ := Option.bind_eq_some_iff.mp h
  have A1 := Aside0.mk h1
  clear h1
  cases t with
  | false =>
    rw [if_neg (by decide)] at h
    simp only [Option.some.injEq, Prod.mk.injEq] at h
    obtain ⟨rfl, rfl, rfl, rfl⟩ := h
    go_enter Try.func113, Try.ntmps113
    go_wp2_with (first | ((with_reducible refine gate_dst (N := 1) rfl ?_); refine box_event ?hg (N := 1) ?hd (cs := #[.int .i64 a0_0, .slice A0_1 l0_1.length c0_1]) (t := 27) ?hr ?_; (case hd => rfl); (case hg => rfl); (case hr => first | (go_simp; done) | (go_simp; rfl)); intro gb1 hg w3 hbox hb; have GEgb1 := Aside0.mk ((by rw [hg]; exact below_size HB.out) : w.heap.size ≤ gb1); have n0_ := Aside0.mk (below_step HB.out hb); clear HB; have HB := n0_; clear n0_; have BKgb1 := Aside0.mk hbox; have hczgb1_0 : w3.cell? ⟨gb1, 0, none⟩ = some ((.int .i64 a0_0)) := (blk_cell BKgb1.out 0).trans rfl; have hfzgb1_0 := blk_frozen BKgb1.out 0; have hczgb1_1 : w3.cell? ⟨gb1, 1, none⟩ = some ((.slice A0_1 l0_1.length c0_1)) := (blk_cell BKgb1.out 1).trans rfl; have hfzgb1_1 := blk_frozen BKgb1.out 1; clear hb hbox hg) | ((with_reducible refine gate_dst (N := 2) rfl ?_); refine box_event ?hg (N := 2) ?hd (cs := #[.int .i64 0, .int .i64 0, .int .i64 0]) (t := 93) ?hr ?_; (case hd => rfl); (case hg => rfl); (case hr => first | (go_simp; done) | (go_simp; rfl)); intro gb2 hg w4 hbox hb; have GEgb2 := Aside0.mk ((by rw [hg]; exact below_size HB.out) : w.heap.size ≤ gb2); have n0_ := Aside0.mk (below_step HB.out hb); clear HB; have HB := n0_; clear n0_; have BKgb2 := Aside0.mk hbox; have m_ := Aside0.mk (blk_below BKgb1.out hb); clear BKgb1; have BKgb1 := m_; clear m_; have hczgb1_0 : w4.cell? ⟨gb1, 0, none⟩ = some ((.int .i64 a0_0)) := (blk_cell BKgb1.out 0).trans rfl; have hfzgb1_0 := blk_frozen BKgb1.out 0; have hczgb1_1 : w4.cell? ⟨gb1, 1, none⟩ = some ((.slice A0_1 l0_1.length c0_1)) := (blk_cell BKgb1.out 1).trans rfl; have hfzgb1_1 := blk_frozen BKgb1.out 1; have hczgb2_0 : w4.cell? ⟨gb2, 0, none⟩ = some (.int .i64 0) := (blk_cell BKgb2.out 0).trans rfl; have hfzgb2_0 := blk_frozen BKgb2.out 0; have hczgb2_1 : w4.cell? ⟨gb2, 1, none⟩ = some (.int .i64 0) := (blk_cell BKgb2.out 1).trans rfl; have hfzgb2_1 := blk_frozen BKgb2.out 1; have hczgb2_2 : w4.cell? ⟨gb2, 2, none⟩ = some (.int .i64 0) := (blk_cell BKgb2.out 2).trans rfl; have hfzgb2_2 := blk_frozen BKgb2.out 2; clear hb hbox hg) | ((with_reducible refine gate_callee (f := 114) rfl ?_); refine goesL_ (some 15) rfl rfl Try.func114 (by kernel_rfl) rfl #[.int .i64 a0_0, .slice A0_1 l0_1.length c0_1] rfl (by (try simp only [List.map_toArray, List.map_cons, List.map_nil]); first | done | rfl) ?_; (with_reducible refine (impl_IsFamily.calls k a0_0 _ _ l0_1 false _ ?side1 ?side2 A1.out).mono ?_); (case side1 => exact Kd.C_below HR.out HB.out); (case side2 => exact HC.out); rintro e w5 ⟨rfl, hd⟩; refine ⟨_, rfl, ?_⟩; have hb := hd.below; clear hd; have n0_ := Aside0.mk (below_step HB.out hb); clear HB; have HB := n0_; clear n0_; have m_ := Aside0.mk (blk_below BKgb1.out hb); clear BKgb1; have BKgb1 := m_; clear m_; have m_ := Aside0.mk (blk_below BKgb2.out hb); clear BKgb2; have BKgb2 := m_; clear m_; clear hb; have hczgb1_0 : w5.cell? ⟨gb1, 0, none⟩ = some ((.int .i64 a0_0)) := (blk_cell BKgb1.out 0).trans rfl; have hfzgb1_0 := blk_frozen BKgb1.out 0; have hczgb1_1 : w5.cell? ⟨gb1, 1, none⟩ = some ((.slice A0_1 l0_1.length c0_1)) := (blk_cell BKgb1.out 1).trans rfl; have hfzgb1_1 := blk_frozen BKgb1.out 1; have hczgb2_0 : w5.cell? ⟨gb2, 0, none⟩ = some (.int .i64 0) := (blk_cell BKgb2.out 0).trans rfl; have hfzgb2_0 := blk_frozen BKgb2.out 0; have hczgb2_1 : w5.cell? ⟨gb2, 1, none⟩ = some (.int .i64 0) := (blk_cell BKgb2.out 1).trans rfl; have hfzgb2_1 := blk_frozen BKgb2.out 1; have hczgb2_2 : w5.cell? ⟨gb2, 2, none⟩ = some (.int .i64 0) := (blk_cell BKgb2.out 2).trans rfl; have hfzgb2_2 := blk_frozen BKgb2.out 2))
    refine bodyPost_ret (results_ct rfl _ _ gb2 93 #[.int .i64 0, .int .i64 0, .int .i64 0] (0, 0) _ rfl (by refine blk_put (cs := #[.int .i64 0, .int .i64 0, .int .i64 0]) ?_ 2 _ rfl; refine blk_put (cs := #[.int .i64 0, .int .i64 0, .int .i64 0]) ?_ 1 _ rfl; refine blk_put (cs := #[.int .i64 0, .int .i64 0, .int .i64 0]) ?_ 0 _ rfl; exact BKgb2.out) Try.underlying93 rfl (by kernel_rfl)) rfl ?_
    exact ⟨rfl, by repeat (first | exact HB.out | refine below_set ?_ GEgb2.out)⟩
  | true =>
    rw [if_pos rfl] at h
    have H' := Aside0.mk h
    clear h
    go_enter Try.func113, Try.ntmps113
    go_wp2_with (first | ((with_reducible refine gate_dst (N := 1) rfl ?_); refine box_event ?hg (N := 1) ?hd (cs := #[.int .i64 a0_0, .slice A0_1 l0_1.length c0_1]) (t := 27) ?hr ?_; (case hd => rfl); (case hg => rfl); (case hr => first | (go_simp; done) | (go_simp; rfl)); intro gb1 hg w3 hbox hb; have GEgb1 := Aside0.mk ((by rw [hg]; exact below_size HB.out) : w.heap.size ≤ gb1); have n0_ := Aside0.mk (below_step HB.out hb); clear HB; have HB := n0_; clear n0_; have BKgb1 := Aside0.mk hbox; have hczgb1_0 : w3.cell? ⟨gb1, 0, none⟩ = some ((.int .i64 a0_0)) := (blk_cell BKgb1.out 0).trans rfl; have hfzgb1_0 := blk_frozen BKgb1.out 0; have hczgb1_1 : w3.cell? ⟨gb1, 1, none⟩ = some ((.slice A0_1 l0_1.length c0_1)) := (blk_cell BKgb1.out 1).trans rfl; have hfzgb1_1 := blk_frozen BKgb1.out 1; clear hb hbox hg) | ((with_reducible refine gate_dst (N := 2) rfl ?_); refine box_event ?hg (N := 2) ?hd (cs := #[.int .i64 0, .int .i64 0, .int .i64 0]) (t := 93) ?hr ?_; (case hd => rfl); (case hg => rfl); (case hr => first | (go_simp; done) | (go_simp; rfl)); intro gb2 hg w4 hbox hb; have GEgb2 := Aside0.mk ((by rw [hg]; exact below_size HB.out) : w.heap.size ≤ gb2); have n0_ := Aside0.mk (below_step HB.out hb); clear HB; have HB := n0_; clear n0_; have BKgb2 := Aside0.mk hbox; have m_ := Aside0.mk (blk_below BKgb1.out hb); clear BKgb1; have BKgb1 := m_; clear m_; have hczgb1_0 : w4.cell? ⟨gb1, 0, none⟩ = some ((.int .i64 a0_0)) := (blk_cell BKgb1.out 0).trans rfl; have hfzgb1_0 := blk_frozen BKgb1.out 0; have hczgb1_1 : w4.cell? ⟨gb1, 1, none⟩ = some ((.slice A0_1 l0_1.length c0_1)) := (blk_cell BKgb1.out 1).trans rfl; have hfzgb1_1 := blk_frozen BKgb1.out 1; have hczgb2_0 : w4.cell? ⟨gb2, 0, none⟩ = some (.int .i64 0) := (blk_cell BKgb2.out 0).trans rfl; have hfzgb2_0 := blk_frozen BKgb2.out 0; have hczgb2_1 : w4.cell? ⟨gb2, 1, none⟩ = some (.int .i64 0) := (blk_cell BKgb2.out 1).trans rfl; have hfzgb2_1 := blk_frozen BKgb2.out 1; have hczgb2_2 : w4.cell? ⟨gb2, 2, none⟩ = some (.int .i64 0) := (blk_cell BKgb2.out 2).trans rfl; have hfzgb2_2 := blk_frozen BKgb2.out 2; clear hb hbox hg) | ((with_reducible refine gate_callee (f := 114) rfl ?_); refine goesL_ (some 15) rfl rfl Try.func114 (by kernel_rfl) rfl #[.int .i64 a0_0, .slice A0_1 l0_1.length c0_1] rfl (by (try simp only [List.map_toArray, List.map_cons, List.map_nil]); first | done | rfl) ?_; (with_reducible refine (impl_IsFamily.calls k a0_0 _ _ l0_1 true _ ?side1 ?side2 A1.out).mono ?_); (case side1 => exact Kd.C_below HR.out HB.out); (case side2 => exact HC.out); rintro e w5 ⟨rfl, hd⟩; refine ⟨_, rfl, ?_⟩; have hb := hd.below; clear hd; have n0_ := Aside0.mk (below_step HB.out hb); clear HB; have HB := n0_; clear n0_; have m_ := Aside0.mk (blk_below BKgb1.out hb); clear BKgb1; have BKgb1 := m_; clear m_; have m_ := Aside0.mk (blk_below BKgb2.out hb); clear BKgb2; have BKgb2 := m_; clear m_; clear hb; have hczgb1_0 : w5.cell? ⟨gb1, 0, none⟩ = some ((.int .i64 a0_0)) := (blk_cell BKgb1.out 0).trans rfl; have hfzgb1_0 := blk_frozen BKgb1.out 0; have hczgb1_1 : w5.cell? ⟨gb1, 1, none⟩ = some ((.slice A0_1 l0_1.length c0_1)) := (blk_cell BKgb1.out 1).trans rfl; have hfzgb1_1 := blk_frozen BKgb1.out 1; have hczgb2_0 : w5.cell? ⟨gb2, 0, none⟩ = some (.int .i64 0) := (blk_cell BKgb2.out 0).trans rfl; have hfzgb2_0 := blk_frozen BKgb2.out 0; have hczgb2_1 : w5.cell? ⟨gb2, 1, none⟩ = some (.int .i64 0) := (blk_cell BKgb2.out 1).trans rfl; have hfzgb2_1 := blk_frozen BKgb2.out 1; have hczgb2_2 : w5.cell? ⟨gb2, 2, none⟩ = some (.int .i64 0) := (blk_cell BKgb2.out 2).trans rfl; have hfzgb2_2 := blk_frozen BKgb2.out 2))
    clear hczgb1_0 hczgb1_1 hfzgb1_0 hfzgb1_1 hczgb2_0 hczgb2_1 hczgb2_2 hfzgb2_0 hfzgb2_1 hfzgb2_2
    go_loopg [21] k (fun kq v21 w' => ∃ (x1 : Int), v21 = .int .i64 x1 ∧ Aside0 (impl_FirstFailure.l0 kq a0_0 l0_1 x1 = some (r1, r2, r3, r4)) ∧ Aside0 (kq ≤ k) ∧ Aside0 (w'.heap[gb1]? = some (.cells #[.int .i64 a0_0, (.slice A0_1 l0_1.length c0_1)] 27 (0, 0))) ∧ Aside0 (w'.heap[gb2]? = some (.cells #[.int .i64 0, .int .i64 0, .int .i64 0] 93 (0, 0))) ∧ Aside0 (Below w.heap.size w w'))
    case atStart => exact ⟨0, rfl, H', ⟨Nat.le_refl _⟩, BKgb1, BKgb2, HB⟩
    case round =>
      clear H' BKgb1 BKgb2 HB
      obtain ⟨x1, rfl, HA, HK1, BKgb1, BKgb2, HB⟩ := hrel
      cases gk with
      | zero => exact absurd HA.out (by simp [impl_FirstFailure.l0])
      | succ k1 =>
        have H := HA.out
        clear HA
        simp only [impl_FirstFailure.l0] at H
        by_cases c3 : x1 < (l0_1.length : Int)
        case neg =>
          rw [if_neg c3] at H
          have c3b0 : decide (x1 < (l0_1.length : Int)) = false := decide_eq_false c3
          clear c3
          simp only [Option.some.injEq, Prod.mk.injEq] at H
          obtain ⟨rfl, rfl, rfl, rfl⟩ := H
          have hczgb2_0 : wr.cell? ⟨gb2, 0, none⟩ = some (.int .i64 0) := (blk_cell BKgb2.out 0).trans rfl
          have hfzgb2_0 := blk_frozen BKgb2.out 0
          have hczgb2_1 : wr.cell? ⟨gb2, 1, none⟩ = some (.int .i64 0) := (blk_cell BKgb2.out 1).trans rfl
          have hfzgb2_1 := blk_frozen BKgb2.out 1
          have hczgb2_2 : wr.cell? ⟨gb2, 2, none⟩ = some (.int .i64 0) := (blk_cell BKgb2.out 2).trans rfl
          have hfzgb2_2 := blk_frozen BKgb2.out 2
          go_wp2
          refine bodyPost_ret (results_ct rfl _ _ gb2 93 #[.int .i64 0, .int .i64 0, .int .i64 0] (0, 0) _ rfl (by refine blk_put (cs := #[.int .i64 0, .int .i64 0, .int .i64 0]) ?_ 2 _ rfl; refine blk_put (cs := #[.int .i64 0, .int .i64 0, .int .i64 0]) ?_ 1 _ rfl; refine blk_put (cs := #[.int .i64 0, .int .i64 0, .int .i64 0]) ?_ 0 _ rfl; exact BKgb2.out) Try.underlying93 rfl (by kernel_rfl)) rfl ?_
          exact ⟨rfl, by repeat (first | exact HB.out | refine below_set ?_ GEgb2.out)⟩
        rw [if_pos c3] at H
        have c3b0 : decide (x1 < (l0_1.length : Int)) = true := decide_eq_true c3
        clear c3
        by_cases c4 : 0 ≤ x1
        case neg => rw [if_neg c4] at H; exact absurd H (by simp)
        rw [if_pos c4] at H
        have c4b0 : decide (0 ≤ x1) = true := decide_eq_true c4
        clear c4
        obtain ⟨aa, haa⟩ : ∃ j_ : Int, rd l0_1 x1 = j_ := ⟨_, rfl⟩
        rw [haa] at H
        have H' := Aside0.mk H
        clear H
        have p1 : 0 ≤ (x1 : Int) := of_decide_eq_true (by assumption)
        have q1 : x1 < (l0_1.length : Int) := of_decide_eq_true (by assumption)
        obtain ⟨ad1, e1, hx1_0⟩ := Kd.at_int HR.out x1 p1 q1
        rw [haa] at hx1_0
        clear haa
        cases e1
        replace hx1_0 := (HB.out.cell (World.block_lt_of_cell? w _ hx1_0)).trans hx1_0
        replace p1 := eq_true p1
        replace q1 := eq_true q1
        have hczgb1_0 : wr.cell? ⟨gb1, 0, none⟩ = some ((.int .i64 a0_0)) := (blk_cell BKgb1.out 0).trans rfl
        have hfzgb1_0 := blk_frozen BKgb1.out 0
        have hczgb1_1 : wr.cell? ⟨gb1, 1, none⟩ = some ((.slice (some ad1) l0_1.length c0_1)) := (blk_cell BKgb1.out 1).trans rfl
        have hfzgb1_1 := blk_frozen BKgb1.out 1
        go_wp2_with (first | ((with_reducible refine gate_dst (N := 5) rfl ?_); refine box_event ?hg (N := 5) ?hd (cs := #[.int .i64 0]) (t := 3) ?hr ?_; (case hd => rfl); (case hg => rfl); (case hr => first | (go_simp; done) | (go_simp; rfl)); intro gb5 hg w7 hbox hb; have GEgb5 := Aside0.mk ((by rw [hg]; exact below_size HB.out) : w.heap.size ≤ gb5); have HG5 := Aside0.mk hg; have HN5 := Aside0.mk hb; have BKgb5 := Aside0.mk hbox; clear hb hg hbox; have hczgb5_0 : w7.cell? ⟨gb5, 0, none⟩ = some (.int .i64 0) := (blk_cell BKgb5.out 0).trans rfl; have hfzgb5_0 := blk_frozen BKgb5.out 0) | ((with_reducible refine gate_store (t := 3) (p := 5) rfl ?_); refine store_event (t := 3) (p := 5) (v := ?vo1) (w1 := (w7.setCell ⟨gb5, 0, none⟩ (.int .i64 aa))) ?hg ?ho ?hn ?hr ?_; (case ho => rfl); (case hg => rfl); (case hn => rfl); (case hr => first | (go_simp; done) | (go_simp; rfl)); intro w8 hw; have hb : Below wr.heap.size wr w8 := (by rw [hw]; exact below_set HN5.out (Nat.le_of_eq HG5.out.symm)); have m5 : Aside0 (w8.heap[gb5]? = some (.cells #[.int .i64 aa] 3 (0, 0))) := ⟨by rw [hw]; exact blk_put BKgb5.out 0 _ rfl⟩; clear BKgb5 hw hczgb5_0 hfzgb5_0; have BKgb5 := m5; clear m5; have n0_ := Aside0.mk (below_step HB.out hb); clear HB; have HB := n0_; clear n0_; have m_ := Aside0.mk (blk_below BKgb1.out hb); clear BKgb1; have BKgb1 := m_; clear m_; have m_ := Aside0.mk (blk_below BKgb2.out hb); clear BKgb2; have BKgb2 := m_; clear m_; clear hb HN5 HG5; have hczgb1_0 : w8.cell? ⟨gb1, 0, none⟩ = some ((.int .i64 a0_0)) := (blk_cell BKgb1.out 0).trans rfl; have hfzgb1_0 := blk_frozen BKgb1.out 0; have hczgb1_1 : w8.cell? ⟨gb1, 1, none⟩ = some ((.slice (some ad1) l0_1.length c0_1)) := (blk_cell BKgb1.out 1).trans rfl; have hfzgb1_1 := blk_frozen BKgb1.out 1))
        clear p1 q1 c3b0 c4b0 hx1_0 hczgb1_0 hczgb1_1 hfzgb1_0 hfzgb1_1
        go_loopg [28] k1 (fun kq v28 w' => ∃ (x2 : Int), v28 = .int .i64 x2 ∧ Aside0 (impl_FirstFailure.l1 kq a0_0 l0_1 x1 aa x2 = some (r1, r2, r3, r4)) ∧ Aside0 (kq ≤ k1) ∧ Aside0 (w'.heap[gb1]? = some (.cells #[.int .i64 a0_0, (.slice (some ad1) l0_1.length c0_1)] 27 (0, 0))) ∧ Aside0 (w'.heap[gb2]? = some (.cells #[.int .i64 0, .int .i64 0, .int .i64 0] 93 (0, 0))) ∧ Aside0 (w'.heap[gb5]? = some (.cells #[.int .i64 aa] 3 (0, 0))) ∧ Aside0 (Below w.heap.size w w'))
        case atStart => exact ⟨0, rfl, H', ⟨Nat.le_refl _⟩, BKgb1, BKgb2, BKgb5, HB⟩
        case round =>
          clear H' BKgb1 BKgb2 BKgb5 HB
          obtain ⟨x2, rfl, HA, HK2, BKgb1, BKgb2, BKgb5, HB⟩ := hrel
          cases gk with
          | zero => exact absurd HA.out (by simp [impl_FirstFailure.l1])
          | succ k2 =>
            have H := HA.out
            clear HA
            simp only [impl_FirstFailure.l1] at H
            by_cases c5 : x2 < (l0_1.length : Int)
            case neg =>
              rw [if_neg c5] at H
              have c5b0 : decide (x2 < (l0_1.length : Int)) = false := decide_eq_false c5
              clear c5
              have H' := Aside0.mk H
              clear H
              go_wp2
              go_roundg k2
              case measure => have := HK1.out; have := HK2.out; omega
              case rel => exact ⟨(wrap64 (x1 + 1)), rfl, H', ⟨by have := HK1.out; have := HK2.out; omega⟩, BKgb1, BKgb2, HB⟩
            rw [if_pos c5] at H
            have c5b0 : decide (x2 < (l0_1.length : Int)) = true := decide_eq_true c5
            clear c5
            by_cases c6 : 0 ≤ x2
            case neg => rw [if_neg c6] at H; exact absurd H (by simp)
            rw [if_pos c6] at H
            have c6b0 : decide (0 ≤ x2) = true := decide_eq_true c6
            clear c6
            obtain ⟨bb, hbb⟩ : ∃ j_ : Int, rd l0_1 x2 = j_ := ⟨_, rfl⟩
            rw [hbb] at H
            obtain ⟨es, A20, H⟩ := Option.bind_eq_some_iff.mp H
            have A2 := Aside0.mk A20
            clear A20
            have H' := Aside0.mk H
            clear H
            have p2 : 0 ≤ (x2 : Int) := of_decide_eq_true (by assumption)
            have q2 : x2 < (l0_1.length : Int) := of_decide_eq_true (by assumption)
            obtain ⟨ad2, e2, hx2_0⟩ := Kd.at_int HR.out x2 p2 q2
            obtain rfl : ad1 = ad2 := (by injection e2)
            clear e2
            rw [hbb] at hx2_0
            clear hbb
            replace hx2_0 := (HB.out.cell (World.block_lt_of_cell? w _ hx2_0)).trans hx2_0
            replace p2 := eq_true p2
            replace q2 := eq_true q2
            have hczgb1_0 : wr.cell? ⟨gb1, 0, none⟩ = some ((.int .i64 a0_0)) := (blk_cell BKgb1.out 0).trans rfl
            have hfzgb1_0 := blk_frozen BKgb1.out 0
            have hczgb1_1 : wr.cell? ⟨gb1, 1, none⟩ = some ((.slice (some ad1) l0_1.length c0_1)) := (blk_cell BKgb1.out 1).trans rfl
            have hfzgb1_1 := blk_frozen BKgb1.out 1
            have hczgb5_0 : wr.cell? ⟨gb5, 0, none⟩ = some (.int .i64 aa) := (blk_cell BKgb5.out 0).trans rfl
            have hfzgb5_0 := blk_frozen BKgb5.out 0
            go_wp2_with (first | ((with_reducible refine gate_callee (f := 61) rfl ?_); refine goesL_ (some 35) rfl rfl Try.func61 (by kernel_rfl) rfl #[.int .i64 (Go.bits .andNot .i64 aa bb)] rfl (by (try simp only [List.map_toArray, List.map_cons, List.map_nil]); first | done | rfl) ?_; (with_reducible refine (impl_ElementsOf.calls k2 (Go.bits .andNot .i64 aa bb) es _ A2.out).mono ?_); rintro e w9 ⟨v1, rfl, ho, hb⟩; refine ⟨_, rfl, ?_⟩; have HOes := Aside0.mk (Kd.R_lower ho (below_size HB.out)); have n0_ := Aside0.mk (below_step HB.out hb); clear HB; have HB := n0_; clear n0_ ho; have m_ := Aside0.mk (blk_below BKgb1.out hb); clear BKgb1; have BKgb1 := m_; clear m_; have m_ := Aside0.mk (blk_below BKgb2.out hb); clear BKgb2; have BKgb2 := m_; clear m_; have m_ := Aside0.mk (blk_below BKgb5.out hb); clear BKgb5; have BKgb5 := m_; clear m_; clear hb hczgb1_0 hczgb1_1 hfzgb1_0 hfzgb1_1 hczgb5_0 hfzgb5_0 hx2_0; obtain ⟨Ae, ce, eo⟩ := Kd.R_slice HOes.out; subst eo))
            clear p2 q2 c5b0 c6b0
            go_loopg [37] k2 (fun kq v37 w' => ∃ (x3 : Int), v37 = .int .i64 x3 ∧ Aside0 (impl_FirstFailure.l2 kq a0_0 l0_1 x1 aa x2 bb es x3 = some (r1, r2, r3, r4)) ∧ Aside0 (kq ≤ k2) ∧ Aside0 (w'.heap[gb1]? = some (.cells #[.int .i64 a0_0, (.slice (some ad1) l0_1.length c0_1)] 27 (0, 0))) ∧ Aside0 (w'.heap[gb2]? = some (.cells #[.int .i64 0, .int .i64 0, .int .i64 0] 93 (0, 0))) ∧ Aside0 (w'.heap[gb5]? = some (.cells #[.int .i64 aa] 3 (0, 0))) ∧ Aside0 (Kd.R (Kd.int .i64) 3 w' w.heap.size (fun _ => True) (.slice Ae es.length ce) es) ∧ Aside0 (Below w.heap.size w w'))
            case atStart => exact ⟨0, rfl, H', ⟨Nat.le_refl _⟩, BKgb1, BKgb2, BKgb5, HOes, HB⟩
            case round =>
              clear H' BKgb1 BKgb2 BKgb5 HOes HB
              obtain ⟨x3, rfl, HA, HK3, BKgb1, BKgb2, BKgb5, HOes, HB⟩ := hrel
              cases gk with
              | zero => exact absurd HA.out (by simp [impl_FirstFailure.l2])
              | succ k3 =>
                have H := HA.out
                clear HA
                simp only [impl_FirstFailure.l2] at H
                by_cases c7 : x3 < (es.length : Int)
                case neg =>
                  rw [if_neg c7] at H
                  have c7b0 : decide (x3 < (es.length : Int)) = false := decide_eq_false c7
                  clear c7
                  have H' := Aside0.mk H
                  clear H
                  go_wp2
                  go_roundg k3
                  case measure => have := HK1.out; have := HK2.out; have := HK3.out; omega
                  case rel => exact ⟨(wrap64 (x2 + 1)), rfl, H', ⟨by have := HK1.out; have := HK2.out; have := HK3.out; omega⟩, BKgb1, BKgb2, BKgb5, HB⟩
                rw [if_pos c7] at H
                have c7b0 : decide (x3 < (es.length : Int)) = true := decide_eq_true c7
                clear c7
                by_cases c8 : 0 ≤ x3
                case neg => rw [if_neg c8] at H; exact absurd H (by simp)
                rw [if_pos c8] at H
                have c8b0 : decide (0 ≤ x3) = true := decide_eq_true c8
                clear c8
                obtain ⟨ee, hee⟩ : ∃ j_ : Int, rd es x3 = j_ := ⟨_, rfl⟩
                rw [hee] at H
                obtain ⟨fs, A30, H⟩ := Option.bind_eq_some_iff.mp H
                have A3 := Aside0.mk A30
                clear A30
                obtain ⟨t, A40, H⟩ := Option.bind_eq_some_iff.mp H
                have A4 := Aside0.mk A40
                clear A40
                have p3 : 0 ≤ (x3 : Int) := of_decide_eq_true (by assumption)
                have q3 : x3 < (es.length : Int) := of_decide_eq_true (by assumption)
                obtain ⟨ad3, e3, hx3_0⟩ := Kd.at_int (Kd.R_reads' HOes.out).2.2 x3 p3 q3
                rw [hee] at hx3_0
                clear hee
                cases e3
                replace p3 := eq_true p3
                replace q3 := eq_true q3
                cases t with
                | true =>
                  rw [if_pos rfl] at H
                  have H' := Aside0.mk H
                  clear H
                  have hczgb5_0 : wr.cell? ⟨gb5, 0, none⟩ = some (.int .i64 aa) := (blk_cell BKgb5.out 0).trans rfl
                  have hfzgb5_0 := blk_frozen BKgb5.out 0
                  have hczgb1_0 : wr.cell? ⟨gb1, 0, none⟩ = some ((.int .i64 a0_0)) := (blk_cell BKgb1.out 0).trans rfl
                  have hfzgb1_0 := blk_frozen BKgb1.out 0
                  have hczgb1_1 : wr.cell? ⟨gb1, 1, none⟩ = some ((.slice (some ad1) l0_1.length c0_1)) := (blk_cell BKgb1.out 1).trans rfl
                  have hfzgb1_1 := blk_frozen BKgb1.out 1
                  have hczgb2_0 : wr.cell? ⟨gb2, 0, none⟩ = some (.int .i64 0) := (blk_cell BKgb2.out 0).trans rfl
                  have hfzgb2_0 := blk_frozen BKgb2.out 0
                  have hczgb2_1 : wr.cell? ⟨gb2, 1, none⟩ = some (.int .i64 0) := (blk_cell BKgb2.out 1).trans rfl
                  have hfzgb2_1 := blk_frozen BKgb2.out 1
                  have hczgb2_2 : wr.cell? ⟨gb2, 2, none⟩ = some (.int .i64 0) := (blk_cell BKgb2.out 2).trans rfl
                  have hfzgb2_2 := blk_frozen BKgb2.out 2
                  go_wp2_with (first | ((with_reducible refine gate_dst (N := 9) rfl ?_); refine box_event ?hg (N := 9) ?hd (cs := #[.int .i64 0]) (t := 3) ?hr ?_; (case hd => rfl); (case hg => rfl); (case hr => first | (go_simp; done) | (go_simp; rfl)); intro gb9 hg w11 hbox hb; have GEgb9 := Aside0.mk ((by rw [hg]; exact below_size HB.out) : w.heap.size ≤ gb9); have HG9 := Aside0.mk hg; have HN9 := Aside0.mk hb; have BKgb9 := Aside0.mk hbox; clear hb hg hbox; have hczgb9_0 : w11.cell? ⟨gb9, 0, none⟩ = some (.int .i64 0) := (blk_cell BKgb9.out 0).trans rfl; have hfzgb9_0 := blk_frozen BKgb9.out 0) | ((with_reducible refine gate_store (t := 3) (p := 9) rfl ?_); refine store_event (t := 3) (p := 9) (v := ?vo2) (w1 := (w11.setCell ⟨gb9, 0, none⟩ (.int .i64 ee))) ?hg ?ho ?hn ?hr ?_; (case ho => rfl); (case hg => rfl); (case hn => rfl); (case hr => first | (go_simp; done) | (go_simp; rfl)); intro w12 hw; have hb : Below wr.heap.size wr w12 := (by rw [hw]; exact below_set HN9.out (Nat.le_of_eq HG9.out.symm)); have m5 : Aside0 (w12.heap[gb9]? = some (.cells #[.int .i64 ee] 3 (0, 0))) := ⟨by rw [hw]; exact blk_put BKgb9.out 0 _ rfl⟩; clear BKgb9 hw hczgb9_0 hfzgb9_0; have BKgb9 := m5; clear m5; have n0_ := Aside0.mk (below_step HB.out hb); clear HB; have HB := n0_; clear n0_; have m_ := Aside0.mk (Kd.R_below HOes.out hb); clear HOes; have HOes := m_; clear m_; have m_ := Aside0.mk (blk_below BKgb1.out hb); clear BKgb1; have BKgb1 := m_; clear m_; have m_ := Aside0.mk (blk_below BKgb2.out hb); clear BKgb2; have BKgb2 := m_; clear m_; have m_ := Aside0.mk (blk_below BKgb5.out hb); clear BKgb5; have BKgb5 := m_; clear m_; clear hb HN9 HG9; have hczgb1_0 : w12.cell? ⟨gb1, 0, none⟩ = some ((.int .i64 a0_0)) := (blk_cell BKgb1.out 0).trans rfl; have hfzgb1_0 := blk_frozen BKgb1.out 0; have hczgb1_1 : w12.cell? ⟨gb1, 1, none⟩ = some ((.slice (some ad1) l0_1.length c0_1)) := (blk_cell BKgb1.out 1).trans rfl; have hfzgb1_1 := blk_frozen BKgb1.out 1; have hczgb2_0 : w12.cell? ⟨gb2, 0, none⟩ = some (.int .i64 0) := (blk_cell BKgb2.out 0).trans rfl; have hfzgb2_0 := blk_frozen BKgb2.out 0; have hczgb2_1 : w12.cell? ⟨gb2, 1, none⟩ = some (.int .i64 0) := (blk_cell BKgb2.out 1).trans rfl; have hfzgb2_1 := blk_frozen BKgb2.out 1; have hczgb2_2 : w12.cell? ⟨gb2, 2, none⟩ = some (.int .i64 0) := (blk_cell BKgb2.out 2).trans rfl; have hfzgb2_2 := blk_frozen BKgb2.out 2; have hczgb5_0 : w12.cell? ⟨gb5, 0, none⟩ = some (.int .i64 aa) := (blk_cell BKgb5.out 0).trans rfl; have hfzgb5_0 := blk_frozen BKgb5.out 0; have hczgb9_0 : w12.cell? ⟨gb9, 0, none⟩ = some (.int .i64 ee) := (blk_cell BKgb9.out 0).trans rfl; have hfzgb9_0 := blk_frozen BKgb9.out 0) | ((with_reducible refine gate_callee (f := 61) rfl ?_); refine goesL_ (some 44) rfl rfl Try.func61 (by kernel_rfl) rfl #[.int .i64 (Go.bits .andNot .i64 bb aa)] rfl (by (try simp only [List.map_toArray, List.map_cons, List.map_nil]); first | done | rfl) ?_; (with_reducible refine (impl_ElementsOf.calls k3 (Go.bits .andNot .i64 bb aa) fs _ A3.out).mono ?_); rintro e w13 ⟨v1, rfl, ho, hb⟩; refine ⟨_, rfl, ?_⟩; obtain ⟨Af, cf, ef⟩ := Kd.R_slice ho; subst ef; have HOfs0 := Aside0.mk (Kd.R_reads' ho).2.2; clear ho; have n0_ := Aside0.mk (below_step HB.out hb); clear HB; have HB := n0_; clear n0_; have m_ := Aside0.mk (Kd.R_below HOes.out hb); clear HOes; have HOes := m_; clear m_; have m_ := Aside0.mk (blk_below BKgb1.out hb); clear BKgb1; have BKgb1 := m_; clear m_; have m_ := Aside0.mk (blk_below BKgb2.out hb); clear BKgb2; have BKgb2 := m_; clear m_; have m_ := Aside0.mk (blk_below BKgb5.out hb); clear BKgb5; have BKgb5 := m_; clear m_; have m_ := Aside0.mk (blk_below BKgb9.out hb); clear BKgb9; have BKgb9 := m_; clear m_; have HOfs := HOfs0; clear HOfs0; clear hb hczgb1_0 hczgb1_1 hfzgb1_0 hfzgb1_1 hczgb5_0 hfzgb5_0 hczgb2_0 hczgb2_1 hczgb2_2 hfzgb2_0 hfzgb2_1 hfzgb2_2 hczgb9_0 hfzgb9_0; have hczgb1_0 : w13.cell? ⟨gb1, 0, none⟩ = some ((.int .i64 a0_0)) := (blk_cell BKgb1.out 0).trans rfl; have hfzgb1_0 := blk_frozen BKgb1.out 0; have hczgb1_1 : w13.cell? ⟨gb1, 1, none⟩ = some ((.slice (some ad1) l0_1.length c0_1)) := (blk_cell BKgb1.out 1).trans rfl; have hfzgb1_1 := blk_frozen BKgb1.out 1; have hczgb2_0 : w13.cell? ⟨gb2, 0, none⟩ = some (.int .i64 0) := (blk_cell BKgb2.out 0).trans rfl; have hfzgb2_0 := blk_frozen BKgb2.out 0; have hczgb2_1 : w13.cell? ⟨gb2, 1, none⟩ = some (.int .i64 0) := (blk_cell BKgb2.out 1).trans rfl; have hfzgb2_1 := blk_frozen BKgb2.out 1; have hczgb2_2 : w13.cell? ⟨gb2, 2, none⟩ = some (.int .i64 0) := (blk_cell BKgb2.out 2).trans rfl; have hfzgb2_2 := blk_frozen BKgb2.out 2; have hczgb5_0 : w13.cell? ⟨gb5, 0, none⟩ = some (.int .i64 aa) := (blk_cell BKgb5.out 0).trans rfl; have hfzgb5_0 := blk_frozen BKgb5.out 0; have hczgb9_0 : w13.cell? ⟨gb9, 0, none⟩ = some (.int .i64 ee) := (blk_cell BKgb9.out 0).trans rfl; have hfzgb9_0 := blk_frozen BKgb9.out 0) | ((with_reducible refine gate_callee (f := 137) rfl ?_); refine goesL_ (some 46) rfl rfl Try.func137 (by kernel_rfl) rfl #[.slice Af fs.length cf, .func (.func 138) #[] #[.pointer (some ⟨gb1, 0, none⟩), .pointer (some ⟨gb5, 0, none⟩), .pointer (some ⟨gb9, 0, none⟩)]] rfl (by (try simp only [List.map_toArray, List.map_cons, List.map_nil]); first | done | rfl) ?_; (with_reducible refine (slices_ContainsFunc_int_int.calls k3 _ _ fs _ (fun f => impl_FirstFailure_1.f k3 l0_1 aa ee f) true _ HOfs.out (impl_FirstFailure_1.fun1 k3 a0_0 (some ad1) c0_1 l0_1 aa ee gb1 gb5 gb9 _ BKgb1.out BKgb5.out BKgb9.out (Kd.C_below HR.out HB.out) HC.out) A4.out).mono ?_); rintro e w14 ⟨rfl, hb⟩; refine ⟨_, rfl, ?_⟩; have n0_ := Aside0.mk (below_step HB.out hb); clear HB; have HB := n0_; clear n0_; have m_ := Aside0.mk (Kd.R_below HOes.out hb); clear HOes; have HOes := m_; clear m_; have m_ := Aside0.mk (blk_below BKgb1.out hb); clear BKgb1; have BKgb1 := m_; clear m_; have m_ := Aside0.mk (blk_below BKgb2.out hb); clear BKgb2; have BKgb2 := m_; clear m_; have m_ := Aside0.mk (blk_below BKgb5.out hb); clear BKgb5; have BKgb5 := m_; clear m_; have m_ := Aside0.mk (blk_below BKgb9.out hb); clear BKgb9; have BKgb9 := m_; clear m_; clear hb hczgb1_0 hczgb1_1 hfzgb1_0 hfzgb1_1 hczgb5_0 hfzgb5_0 hczgb2_0 hczgb2_1 hczgb2_2 hfzgb2_0 hfzgb2_1 hfzgb2_2 hczgb9_0 hfzgb9_0; have hczgb2_0 : w14.cell? ⟨gb2, 0, none⟩ = some (.int .i64 0) := (blk_cell BKgb2.out 0).trans rfl; have hfzgb2_0 := blk_frozen BKgb2.out 0; have hczgb2_1 : w14.cell? ⟨gb2, 1, none⟩ = some (.int .i64 0) := (blk_cell BKgb2.out 1).trans rfl; have hfzgb2_1 := blk_frozen BKgb2.out 1; have hczgb2_2 : w14.cell? ⟨gb2, 2, none⟩ = some (.int .i64 0) := (blk_cell BKgb2.out 2).trans rfl; have hfzgb2_2 := blk_frozen BKgb2.out 2; have hczgb5_0 : w14.cell? ⟨gb5, 0, none⟩ = some (.int .i64 aa) := (blk_cell BKgb5.out 0).trans rfl; have hfzgb5_0 := blk_frozen BKgb5.out 0; have hczgb9_0 : w14.cell? ⟨gb9, 0, none⟩ = some (.int .i64 ee) := (blk_cell BKgb9.out 0).trans rfl; have hfzgb9_0 := blk_frozen BKgb9.out 0))
                  go_roundg k3
                  case measure => have := HK1.out; have := HK2.out; have := HK3.out; omega
                  case rel => exact ⟨(wrap64 (x3 + 1)), rfl, H', ⟨by have := HK1.out; have := HK2.out; have := HK3.out; omega⟩, BKgb1, BKgb2, BKgb5, HOes, HB⟩
                | false =>
                  rw [if_neg (by decide)] at H
                  simp only [Option.some.injEq, Prod.mk.injEq] at H
                  obtain ⟨rfl, rfl, rfl, rfl⟩ := H
                  have hczgb5_0 : wr.cell? ⟨gb5, 0, none⟩ = some (.int .i64 aa) := (blk_cell BKgb5.out 0).trans rfl
                  have hfzgb5_0 := blk_frozen BKgb5.out 0
                  have hczgb1_0 : wr.cell? ⟨gb1, 0, none⟩ = some ((.int .i64 a0_0)) := (blk_cell BKgb1.out 0).trans rfl
                  have hfzgb1_0 := blk_frozen BKgb1.out 0
                  have hczgb1_1 : wr.cell? ⟨gb1, 1, none⟩ = some ((.slice (some ad1) l0_1.length c0_1)) := (blk_cell BKgb1.out 1).trans rfl
                  have hfzgb1_1 := blk_frozen BKgb1.out 1
                  have hczgb2_0 : wr.cell? ⟨gb2, 0, none⟩ = some (.int .i64 0) := (blk_cell BKgb2.out 0).trans rfl
                  have hfzgb2_0 := blk_frozen BKgb2.out 0
                  have hczgb2_1 : wr.cell? ⟨gb2, 1, none⟩ = some (.int .i64 0) := (blk_cell BKgb2.out 1).trans rfl
                  have hfzgb2_1 := blk_frozen BKgb2.out 1
                  have hczgb2_2 : wr.cell? ⟨gb2, 2, none⟩ = some (.int .i64 0) := (blk_cell BKgb2.out 2).trans rfl
                  have hfzgb2_2 := blk_frozen BKgb2.out 2
                  go_wp2_with (first | ((with_reducible refine gate_dst (N := 9) rfl ?_); refine box_event ?hg (N := 9) ?hd (cs := #[.int .i64 0]) (t := 3) ?hr ?_; (case hd => rfl); (case hg => rfl); (case hr => first | (go_simp; done) | (go_simp; rfl)); intro gb9 hg w11 hbox hb; have GEgb9 := Aside0.mk ((by rw [hg]; exact below_size HB.out) : w.heap.size ≤ gb9); have HG9 := Aside0.mk hg; have HN9 := Aside0.mk hb; have BKgb9 := Aside0.mk hbox; clear hb hg hbox; have hczgb9_0 : w11.cell? ⟨gb9, 0, none⟩ = some (.int .i64 0) := (blk_cell BKgb9.out 0).trans rfl; have hfzgb9_0 := blk_frozen BKgb9.out 0) | ((with_reducible refine gate_store (t := 3) (p := 9) rfl ?_); refine store_event (t := 3) (p := 9) (v := ?vo3) (w1 := (w11.setCell ⟨gb9, 0, none⟩ (.int .i64 ee))) ?hg ?ho ?hn ?hr ?_; (case ho => rfl); (case hg => rfl); (case hn => rfl); (case hr => first | (go_simp; done) | (go_simp; rfl)); intro w12 hw; have hb : Below wr.heap.size wr w12 := (by rw [hw]; exact below_set HN9.out (Nat.le_of_eq HG9.out.symm)); have m5 : Aside0 (w12.heap[gb9]? = some (.cells #[.int .i64 ee] 3 (0, 0))) := ⟨by rw [hw]; exact blk_put BKgb9.out 0 _ rfl⟩; clear BKgb9 hw hczgb9_0 hfzgb9_0; have BKgb9 := m5; clear m5; have n0_ := Aside0.mk (below_step HB.out hb); clear HB; have HB := n0_; clear n0_; have m_ := Aside0.mk (Kd.R_below HOes.out hb); clear HOes; have HOes := m_; clear m_; have m_ := Aside0.mk (blk_below BKgb1.out hb); clear BKgb1; have BKgb1 := m_; clear m_; have m_ := Aside0.mk (blk_below BKgb2.out hb); clear BKgb2; have BKgb2 := m_; clear m_; have m_ := Aside0.mk (blk_below BKgb5.out hb); clear BKgb5; have BKgb5 := m_; clear m_; clear hb HN9 HG9; have hczgb1_0 : w12.cell? ⟨gb1, 0, none⟩ = some ((.int .i64 a0_0)) := (blk_cell BKgb1.out 0).trans rfl; have hfzgb1_0 := blk_frozen BKgb1.out 0; have hczgb1_1 : w12.cell? ⟨gb1, 1, none⟩ = some ((.slice (some ad1) l0_1.length c0_1)) := (blk_cell BKgb1.out 1).trans rfl; have hfzgb1_1 := blk_frozen BKgb1.out 1; have hczgb2_0 : w12.cell? ⟨gb2, 0, none⟩ = some (.int .i64 0) := (blk_cell BKgb2.out 0).trans rfl; have hfzgb2_0 := blk_frozen BKgb2.out 0; have hczgb2_1 : w12.cell? ⟨gb2, 1, none⟩ = some (.int .i64 0) := (blk_cell BKgb2.out 1).trans rfl; have hfzgb2_1 := blk_frozen BKgb2.out 1; have hczgb2_2 : w12.cell? ⟨gb2, 2, none⟩ = some (.int .i64 0) := (blk_cell BKgb2.out 2).trans rfl; have hfzgb2_2 := blk_frozen BKgb2.out 2; have hczgb5_0 : w12.cell? ⟨gb5, 0, none⟩ = some (.int .i64 aa) := (blk_cell BKgb5.out 0).trans rfl; have hfzgb5_0 := blk_frozen BKgb5.out 0; have hczgb9_0 : w12.cell? ⟨gb9, 0, none⟩ = some (.int .i64 ee) := (blk_cell BKgb9.out 0).trans rfl; have hfzgb9_0 := blk_frozen BKgb9.out 0) | ((with_reducible refine gate_callee (f := 61) rfl ?_); refine goesL_ (some 44) rfl rfl Try.func61 (by kernel_rfl) rfl #[.int .i64 (Go.bits .andNot .i64 bb aa)] rfl (by (try simp only [List.map_toArray, List.map_cons, List.map_nil]); first | done | rfl) ?_; (with_reducible refine (impl_ElementsOf.calls k3 (Go.bits .andNot .i64 bb aa) fs _ A3.out).mono ?_); rintro e w13 ⟨v1, rfl, ho, hb⟩; refine ⟨_, rfl, ?_⟩; obtain ⟨Af, cf, ef⟩ := Kd.R_slice ho; subst ef; have HOfs0 := Aside0.mk (Kd.R_reads' ho).2.2; clear ho; have n0_ := Aside0.mk (below_step HB.out hb); clear HB; have HB := n0_; clear n0_; have m_ := Aside0.mk (Kd.R_below HOes.out hb); clear HOes; have HOes := m_; clear m_; have m_ := Aside0.mk (blk_below BKgb1.out hb); clear BKgb1; have BKgb1 := m_; clear m_; have m_ := Aside0.mk (blk_below BKgb2.out hb); clear BKgb2; have BKgb2 := m_; clear m_; have m_ := Aside0.mk (blk_below BKgb5.out hb); clear BKgb5; have BKgb5 := m_; clear m_; have m_ := Aside0.mk (blk_below BKgb9.out hb); clear BKgb9; have BKgb9 := m_; clear m_; have HOfs := HOfs0; clear HOfs0; clear hb hczgb1_0 hczgb1_1 hfzgb1_0 hfzgb1_1 hczgb5_0 hfzgb5_0 hczgb2_0 hczgb2_1 hczgb2_2 hfzgb2_0 hfzgb2_1 hfzgb2_2 hczgb9_0 hfzgb9_0; have hczgb1_0 : w13.cell? ⟨gb1, 0, none⟩ = some ((.int .i64 a0_0)) := (blk_cell BKgb1.out 0).trans rfl; have hfzgb1_0 := blk_frozen BKgb1.out 0; have hczgb1_1 : w13.cell? ⟨gb1, 1, none⟩ = some ((.slice (some ad1) l0_1.length c0_1)) := (blk_cell BKgb1.out 1).trans rfl; have hfzgb1_1 := blk_frozen BKgb1.out 1; have hczgb2_0 : w13.cell? ⟨gb2, 0, none⟩ = some (.int .i64 0) := (blk_cell BKgb2.out 0).trans rfl; have hfzgb2_0 := blk_frozen BKgb2.out 0; have hczgb2_1 : w13.cell? ⟨gb2, 1, none⟩ = some (.int .i64 0) := (blk_cell BKgb2.out 1).trans rfl; have hfzgb2_1 := blk_frozen BKgb2.out 1; have hczgb2_2 : w13.cell? ⟨gb2, 2, none⟩ = some (.int .i64 0) := (blk_cell BKgb2.out 2).trans rfl; have hfzgb2_2 := blk_frozen BKgb2.out 2; have hczgb5_0 : w13.cell? ⟨gb5, 0, none⟩ = some (.int .i64 aa) := (blk_cell BKgb5.out 0).trans rfl; have hfzgb5_0 := blk_frozen BKgb5.out 0; have hczgb9_0 : w13.cell? ⟨gb9, 0, none⟩ = some (.int .i64 ee) := (blk_cell BKgb9.out 0).trans rfl; have hfzgb9_0 := blk_frozen BKgb9.out 0) | ((with_reducible refine gate_callee (f := 137) rfl ?_); refine goesL_ (some 46) rfl rfl Try.func137 (by kernel_rfl) rfl #[.slice Af fs.length cf, .func (.func 138) #[] #[.pointer (some ⟨gb1, 0, none⟩), .pointer (some ⟨gb5, 0, none⟩), .pointer (some ⟨gb9, 0, none⟩)]] rfl (by (try simp only [List.map_toArray, List.map_cons, List.map_nil]); first | done | rfl) ?_; (with_reducible refine (slices_ContainsFunc_int_int.calls k3 _ _ fs _ (fun f => impl_FirstFailure_1.f k3 l0_1 aa ee f) false _ HOfs.out (impl_FirstFailure_1.fun1 k3 a0_0 (some ad1) c0_1 l0_1 aa ee gb1 gb5 gb9 _ BKgb1.out BKgb5.out BKgb9.out (Kd.C_below HR.out HB.out) HC.out) A4.out).mono ?_); rintro e w14 ⟨rfl, hb⟩; refine ⟨_, rfl, ?_⟩; have n0_ := Aside0.mk (below_step HB.out hb); clear HB; have HB := n0_; clear n0_; have m_ := Aside0.mk (Kd.R_below HOes.out hb); clear HOes; have HOes := m_; clear m_; have m_ := Aside0.mk (blk_below BKgb1.out hb); clear BKgb1; have BKgb1 := m_; clear m_; have m_ := Aside0.mk (blk_below BKgb2.out hb); clear BKgb2; have BKgb2 := m_; clear m_; have m_ := Aside0.mk (blk_below BKgb5.out hb); clear BKgb5; have BKgb5 := m_; clear m_; have m_ := Aside0.mk (blk_below BKgb9.out hb); clear BKgb9; have BKgb9 := m_; clear m_; clear hb hczgb1_0 hczgb1_1 hfzgb1_0 hfzgb1_1 hczgb5_0 hfzgb5_0 hczgb2_0 hczgb2_1 hczgb2_2 hfzgb2_0 hfzgb2_1 hfzgb2_2 hczgb9_0 hfzgb9_0; have hczgb2_0 : w14.cell? ⟨gb2, 0, none⟩ = some (.int .i64 0) := (blk_cell BKgb2.out 0).trans rfl; have hfzgb2_0 := blk_frozen BKgb2.out 0; have hczgb2_1 : w14.cell? ⟨gb2, 1, none⟩ = some (.int .i64 0) := (blk_cell BKgb2.out 1).trans rfl; have hfzgb2_1 := blk_frozen BKgb2.out 1; have hczgb2_2 : w14.cell? ⟨gb2, 2, none⟩ = some (.int .i64 0) := (blk_cell BKgb2.out 2).trans rfl; have hfzgb2_2 := blk_frozen BKgb2.out 2; have hczgb5_0 : w14.cell? ⟨gb5, 0, none⟩ = some (.int .i64 aa) := (blk_cell BKgb5.out 0).trans rfl; have hfzgb5_0 := blk_frozen BKgb5.out 0; have hczgb9_0 : w14.cell? ⟨gb9, 0, none⟩ = some (.int .i64 ee) := (blk_cell BKgb9.out 0).trans rfl; have hfzgb9_0 := blk_frozen BKgb9.out 0))
                  refine bodyPost_ret (results_ct rfl _ _ gb2 93 #[.int .i64 aa, .int .i64 bb, .int .i64 ee] (0, 0) _ rfl (by refine blk_put (cs := #[.int .i64 aa, .int .i64 bb, .int .i64 0]) ?_ 2 _ rfl; refine blk_put (cs := #[.int .i64 aa, .int .i64 0, .int .i64 0]) ?_ 1 _ rfl; refine blk_put (cs := #[.int .i64 0, .int .i64 0, .int .i64 0]) ?_ 0 _ rfl; exact BKgb2.out) Try.underlying93 rfl (by kernel_rfl)) rfl ?_
                  exact ⟨rfl, by repeat (first | exact HB.out | refine below_set ?_ GEgb2.out)⟩

end Go.Proofs.Ytaepaekagenfnaa.Pr
end

/-! ## Pr29 -/
section
/- The functions that the laws reach, as plain Lean functions, and that the calls come to what these say. By pr.py over the kit's print. -/
namespace Go.Proofs.Ytaepaekagenfnaa.Pr
open Go.RowKit Go.Proofs.YtaepaekagenfnaaW.PrintWords Go.Proofs.YtaepaekagenfnaaW.PrintLast Go.Proofs.YtaepaekagenfnaaW.PrintMore
attribute [local go_sem] max2_int min2_int max_two min_two max_three min_three max_four min_four   -- for this text's walks alone
set_option linter.unusedVariables false
set_option linter.unusedSimpArgs false

/-! ### impl_IsMatroid: function 59 -/
def impl_IsMatroid.f (k : Nat) (a0_0 : Int) (l0_1 : List Int) : Option (Bool) := (impl_FirstFailure.f k a0_0 l0_1).bind fun bt169 => ((impl_IsFamily.f k a0_0 l0_1).bind fun t174 => (if t174 = true then (if (l0_1.length : Int) > 0 then (some (!bt169.2.2.2)) else (some false)) else (some false)))
theorem impl_IsMatroid.mono : ∀ a0 a1 k, LeO (impl_IsMatroid.f k a0 a1) (impl_IsMatroid.f (k + 1) a0 a1) := by
  intro a0 a1 k
  unfold impl_IsMatroid.f
  repeat' first
      | (with_reducible exact impl_FirstFailure.mono _ _ _)
      | (with_reducible exact impl_IsFamily.mono _ _ _)
      | (with_reducible exact LeO.refl _)
      | (with_reducible exact LeO.none _)
      | (with_reducible refine LeO.ite ?_ ?_)
      | (with_reducible refine LeO.bind ?_ (fun _ => ?_))
      | exact impl_FirstFailure.mono _ _ _
      | exact impl_IsFamily.mono _ _ _
      | exact LeO.none _
      | refine LeO.ite ?_ ?_
      | refine LeO.bind ?_ (fun _ => ?_)
set_option maxHeartbeats 8000000 in
set_option maxRecDepth 100000 in
theorem impl_IsMatroid.calls (k : Nat) (a0_0 : Int) (A0_1 : Option Addr) (c0_1 : Nat) (l0_1 : List Int) (r : Bool) (w : World) (hr0_1 : Kd.C (Kd.int .i64) w A0_1 l0_1.length l0_1) (hc0_1 : l0_1.length ≤ c0_1) (h : impl_IsMatroid.f k a0_0 l0_1 = some r) :
    Calls Try.prog 59 #[.agg #[.int .i64 a0_0, .slice A0_1 l0_1.length c0_1]] w fun e w' => e = .returned (.bool r) ∧ Below w.heap.size w w' := by
  have hu27 := Try.underlying27
  have hu93 := Try.underlying93
  have HR0_1 := Aside0.mk hr0_1
  have HC0_1 := Aside0.mk hc0_1
  clear hr0_1 hc0_1
  have HB := Aside0.mk (Below.refl w.heap.size w)
  have H : ((impl_FirstFailure.f k a0_0 l0_1).bind fun bt169 => ((impl_IsFamily.f k a0_0 l0_1).bind fun t174 => (if t174 = true then (if (l0_1.length : Int) > 0 then (some (!bt169.2.2.2)) else (some false)) else (some false)))) = some r := h
  clear h
  replace H := Option.bind_eq_some_iff.mp H
  obtain ⟨⟨t169, t170, t171, t172⟩, A20, H⟩ := H
  replace H : ((impl_IsFamily.f k a0_0 l0_1).bind fun t174 => (if t174 = true then (if (l0_1.length : Int) > 0 then (some (!t172)) else (some false)) else (some false))) = some r := H
  have A2 := Aside0.mk A20
  clear A20
  replace H := Option.bind_eq_some_iff.mp H
  obtain ⟨t174, A30, H⟩ := H
  replace H : (if t174 = true then (if (l0_1.length : Int) > 0 then (some (!t172)) else (some false)) else (some false)) = some r := H
  have A3 := Aside0.mk A30
  clear A30
  by_cases c4 : t174 = true
  · subst c4
    have H1 : (if (l0_1.length : Int) > 0 then (some (!t172)) else (some false)) = some r := by rw [if_pos rfl] at H; exact H
    clear H
    have H := H1
    clear H1
    by_cases c5 : (l0_1.length : Int) > 0
    · rw [if_pos c5] at H
      have c5b0 : decide (0 < (l0_1.length : Int)) = true := decide_eq_true c5
      have c5b1 : decide (0 < l0_1.length) = true := decide_eq_true (by omega)
      clear c5
      obtain rfl := Option.some.inj H
      go_enter Try.func59, Try.ntmps59
      go_wp2_with (first | ((with_reducible refine gate_dst (N := 1) rfl ?_); (try (refine gate_guard (by rfl) ?_; dsimp only)); refine box_event ?hg (N := 1) ?hd (cs := #[.int .i64 a0_0, .slice A0_1 l0_1.length c0_1]) (t := 27) ?hr ?_; (case hd => rfl); (case hg => rfl); (case hr => first | (go_simp; done) | (go_simp; rfl)); intro gb168 hg w6 hbox hb; have n0_ := Aside0.mk (below_step (by repeat (first | (with_reducible first | exact HB.out | apply below_alloc | apply pw_below_drewN | apply below_drew1) | exact HB.out)) hb); have n1_ := Aside0.mk (hbox); have n2_ := Aside0.mk ((by rw [hg]; exact (below_size (by repeat (first | (with_reducible first | exact HB.out | apply below_alloc | apply pw_below_drewN | apply below_drew1) | exact HB.out))) : w.heap.size ≤ gb168)); have n3_ := Aside0.mk ((by rw [hg]; exact (below_size (by repeat (first | (with_reducible first | exact HB.out | apply below_alloc | apply pw_below_drewN | apply below_drew1) | exact HB.out))) : w.heap.size ≤ gb168)); clear HB; have HB := n0_; have BK168 := n1_; have GW168 := n2_; have GE168 := n3_; clear n0_ n1_ n2_ n3_; clear hb hbox hg; have hcz7_0 : w6.cell? ⟨gb168, 0, none⟩ = some (.int .i64 a0_0) := (blk_cell BK168.out 0).trans rfl; have hcz7_1 : w6.cell? ⟨gb168, 1, none⟩ = some (.slice A0_1 l0_1.length c0_1) := (blk_cell BK168.out 1).trans rfl; have hfz7_0 := blk_frozen BK168.out 0; have hfz7_1 := blk_frozen BK168.out 1) | ((with_reducible refine gate_callee (f := 113) rfl ?_); refine goesL_ (some 7) rfl rfl Try.func113 (by kernel_rfl) rfl #[.agg #[.int .i64 a0_0, .slice A0_1 l0_1.length c0_1]] rfl (by (try simp only [List.map_toArray, List.map_cons, List.map_nil]); first | done | rfl | (simp only [List.length_drop, List.length_take]; rfl)) ?_; (with_reducible refine (impl_FirstFailure.calls k a0_0 _ _ l0_1 t169 t170 t171 t172 _ ?side1 ?side2 A2.out).mono ?_); (case side1 => repeat (first | exact (Kd.C_below HR0_1.out HB.out) | (with_reducible refine Kd.C_alloc ?_ _) | (with_reducible refine Kd.C_drewN ?_ _) | (with_reducible refine Kd.C_drew ?_))); (case side2 => exact HC0_1.out); rintro e w8 ⟨rfl, hb⟩; refine ⟨_, rfl, ?_⟩; have n0_ := Aside0.mk (blk_below (g := gb168) (o := .cells #[.int .i64 a0_0, .slice A0_1 l0_1.length c0_1] 27 (0, 0)) (by (with_reducible repeat (first | refine blk_drewN ?_ _ | refine blk_drew ?_ | refine blk_alloc ?_ _)); exact BK168.out) hb); have n1_ := Aside0.mk (below_step (by repeat (first | (with_reducible first | exact HB.out | apply below_alloc | apply pw_below_drewN | apply below_drew1 | refine below_set ?_ GE168.out) | exact HB.out)) hb); clear BK168; clear HB; have BK168 := n0_; have HB := n1_; clear n0_ n1_; (try clear hb); (try clear hb2); (try clear hk); (try clear hi)) | ((with_reducible refine gate_dst (N := 3) rfl ?_); (try (refine gate_guard (by rfl) ?_; dsimp only)); refine box_event ?hg (N := 3) ?hd (cs := #[.int .i64 0, .int .i64 0, .int .i64 0]) (t := 93) ?hr ?_; (case hd => rfl); (case hg => rfl); (case hr => first | (go_simp; done) | (go_simp; rfl)); intro gb173 hg w9 hbox hb; have n0_ := Aside0.mk (blk_below (g := gb168) (o := .cells #[.int .i64 a0_0, .slice A0_1 l0_1.length c0_1] 27 (0, 0)) (by (with_reducible repeat (first | refine blk_drewN ?_ _ | refine blk_drew ?_ | refine blk_alloc ?_ _)); exact BK168.out) hb); have n1_ := Aside0.mk (below_step (by repeat (first | (with_reducible first | exact HB.out | apply below_alloc | apply pw_below_drewN | apply below_drew1 | refine below_set ?_ GE168.out) | exact HB.out)) hb); have n2_ := Aside0.mk (hbox); have n3_ := Aside0.mk ((by rw [hg]; exact (below_size (by repeat (first | (with_reducible first | exact HB.out | apply below_alloc | apply pw_below_drewN | apply below_drew1 | refine below_set ?_ GE168.out) | exact HB.out))) : w.heap.size ≤ gb173)); have n4_ := Aside0.mk ((by rw [hg]; exact (below_size (by repeat (first | (with_reducible first | exact HB.out | apply below_alloc | apply pw_below_drewN | apply below_drew1 | refine below_set ?_ GE168.out) | exact HB.out))) : w.heap.size ≤ gb173)); have n5_ := Aside0.mk ((by rw [hg]; exact Nat.ne_of_lt (blk_lt (g := gb168) (o := .cells #[.int .i64 a0_0, .slice A0_1 l0_1.length c0_1] 27 (0, 0)) (by (with_reducible repeat (first | refine blk_drewN ?_ _ | refine blk_drew ?_ | refine blk_alloc ?_ _)); exact BK168.out)) : gb168 ≠ gb173)); have n6_ := Aside0.mk ((by rw [hg]; exact Nat.ne_of_gt (blk_lt (g := gb168) (o := .cells #[.int .i64 a0_0, .slice A0_1 l0_1.length c0_1] 27 (0, 0)) (by (with_reducible repeat (first | refine blk_drewN ?_ _ | refine blk_drew ?_ | refine blk_alloc ?_ _)); exact BK168.out)) : gb173 ≠ gb168)); clear BK168; clear HB; have BK168 := n0_; have HB := n1_; have BK173 := n2_; have GW173 := n3_; have GE173 := n4_; have NB168_173 := n5_; have NB173_168 := n6_; clear n0_ n1_ n2_ n3_ n4_ n5_ n6_; clear hb hbox hg; have hnb10 := NB173_168.out; have hnc10 := NB168_173.out; have hcz11_0 : w9.cell? ⟨gb173, 0, none⟩ = some (.int .i64 0) := (blk_cell BK173.out 0).trans rfl; have hcz11_1 : w9.cell? ⟨gb173, 1, none⟩ = some (.int .i64 0) := (blk_cell BK173.out 1).trans rfl; have hcz11_2 : w9.cell? ⟨gb173, 2, none⟩ = some (.int .i64 0) := (blk_cell BK173.out 2).trans rfl; have hfz11_0 := blk_frozen BK173.out 0; have hfz11_1 := blk_frozen BK173.out 1; have hfz11_2 := blk_frozen BK173.out 2; have hcz12_0 : w9.cell? ⟨gb168, 0, none⟩ = some (.int .i64 a0_0) := (blk_cell BK168.out 0).trans rfl; have hcz12_1 : w9.cell? ⟨gb168, 1, none⟩ = some (.slice A0_1 l0_1.length c0_1) := (blk_cell BK168.out 1).trans rfl; have hfz12_0 := blk_frozen BK168.out 0; have hfz12_1 := blk_frozen BK168.out 1) | ((with_reducible refine gate_callee (f := 114) rfl ?_); refine goesL_ (some 14) rfl rfl Try.func114 (by kernel_rfl) rfl #[.int .i64 a0_0, .slice A0_1 l0_1.length c0_1] rfl (by (try simp only [List.map_toArray, List.map_cons, List.map_nil]); first | done | rfl | (simp only [List.length_drop, List.length_take]; rfl)) ?_; (with_reducible refine (impl_IsFamily.calls k a0_0 _ _ l0_1 true _ ?side1 ?side2 A3.out).mono ?_); (case side1 => exact Kd.C_below HR0_1.out (by repeat (first | (with_reducible first | exact HB.out | apply below_alloc | apply pw_below_drewN | apply below_drew1 | refine below_set ?_ GE168.out | refine below_set ?_ GE173.out) | exact HB.out))); (case side2 => exact HC0_1.out); rintro e w' ⟨rfl, ⟨nd, rfl⟩⟩; refine ⟨_, rfl, ?_⟩))
      go_ret
      exact ⟨by first | rfl | (simp [errW_none, errW_some] <;> rfl) | (simp [*, errW_none, errW_some] <;> rfl), by repeat (first | (with_reducible first | exact HB.out | apply below_alloc | apply pw_below_drewN | apply below_drew1 | refine below_set ?_ GE168.out | refine below_set ?_ GE173.out) | exact HB.out)⟩
    · rw [if_neg c5] at H
      have c5b0 : decide (0 < (l0_1.length : Int)) = false := decide_eq_false c5
      have c5b1 : decide (0 < l0_1.length) = false := decide_eq_false (by omega)
      clear c5
      obtain rfl := Option.some.inj H
      go_enter Try.func59, Try.ntmps59
      go_wp2_with (first | ((with_reducible refine gate_dst (N := 1) rfl ?_); (try (refine gate_guard (by rfl) ?_; dsimp only)); refine box_event ?hg (N := 1) ?hd (cs := #[.int .i64 a0_0, .slice A0_1 l0_1.length c0_1]) (t := 27) ?hr ?_; (case hd => rfl); (case hg => rfl); (case hr => first | (go_simp; done) | (go_simp; rfl)); intro gb168 hg w13 hbox hb; have n0_ := Aside0.mk (below_step (by repeat (first | (with_reducible first | exact HB.out | apply below_alloc | apply pw_below_drewN | apply below_drew1) | exact HB.out)) hb); have n1_ := Aside0.mk (hbox); have n2_ := Aside0.mk ((by rw [hg]; exact (below_size (by repeat (first | (with_reducible first | exact HB.out | apply below_alloc | apply pw_below_drewN | apply below_drew1) | exact HB.out))) : w.heap.size ≤ gb168)); have n3_ := Aside0.mk ((by rw [hg]; exact (below_size (by repeat (first | (with_reducible first | exact HB.out | apply below_alloc | apply pw_below_drewN | apply below_drew1) | exact HB.out))) : w.heap.size ≤ gb168)); clear HB; have HB := n0_; have BK168 := n1_; have GW168 := n2_; have GE168 := n3_; clear n0_ n1_ n2_ n3_; clear hb hbox hg; have hcz14_0 : w13.cell? ⟨gb168, 0, none⟩ = some (.int .i64 a0_0) := (blk_cell BK168.out 0).trans rfl; have hcz14_1 : w13.cell? ⟨gb168, 1, none⟩ = some (.slice A0_1 l0_1.length c0_1) := (blk_cell BK168.out 1).trans rfl; have hfz14_0 := blk_frozen BK168.out 0; have hfz14_1 := blk_frozen BK168.out 1) | ((with_reducible refine gate_callee (f := 113) rfl ?_); refine goesL_ (some 7) rfl rfl Try.func113 (by kernel_rfl) rfl #[.agg #[.int .i64 a0_0, .slice A0_1 l0_1.length c0_1]] rfl (by (try simp only [List.map_toArray, List.map_cons, List.map_nil]); first | done | rfl | (simp only [List.length_drop, List.length_take]; rfl)) ?_; (with_reducible refine (impl_FirstFailure.calls k a0_0 _ _ l0_1 t169 t170 t171 t172 _ ?side1 ?side2 A2.out).mono ?_); (case side1 => repeat (first | exact (Kd.C_below HR0_1.out HB.out) | (with_reducible refine Kd.C_alloc ?_ _) | (with_reducible refine Kd.C_drewN ?_ _) | (with_reducible refine Kd.C_drew ?_))); (case side2 => exact HC0_1.out); rintro e w15 ⟨rfl, hb⟩; refine ⟨_, rfl, ?_⟩; have n0_ := Aside0.mk (blk_below (g := gb168) (o := .cells #[.int .i64 a0_0, .slice A0_1 l0_1.length c0_1] 27 (0, 0)) (by (with_reducible repeat (first | refine blk_drewN ?_ _ | refine blk_drew ?_ | refine blk_alloc ?_ _)); exact BK168.out) hb); have n1_ := Aside0.mk (below_step (by repeat (first | (with_reducible first | exact HB.out | apply below_alloc | apply pw_below_drewN | apply below_drew1 | refine below_set ?_ GE168.out) | exact HB.out)) hb); clear BK168; clear HB; have BK168 := n0_; have HB := n1_; clear n0_ n1_; (try clear hb); (try clear hb2); (try clear hk); (try clear hi)) | ((with_reducible refine gate_dst (N := 3) rfl ?_); (try (refine gate_guard (by rfl) ?_; dsimp only)); refine box_event ?hg (N := 3) ?hd (cs := #[.int .i64 0, .int .i64 0, .int .i64 0]) (t := 93) ?hr ?_; (case hd => rfl); (case hg => rfl); (case hr => first | (go_simp; done) | (go_simp; rfl)); intro gb173 hg w16 hbox hb; have n0_ := Aside0.mk (blk_below (g := gb168) (o := .cells #[.int .i64 a0_0, .slice A0_1 l0_1.length c0_1] 27 (0, 0)) (by (with_reducible repeat (first | refine blk_drewN ?_ _ | refine blk_drew ?_ | refine blk_alloc ?_ _)); exact BK168.out) hb); have n1_ := Aside0.mk (below_step (by repeat (first | (with_reducible first | exact HB.out | apply below_alloc | apply pw_below_drewN | apply below_drew1 | refine below_set ?_ GE168.out) | exact HB.out)) hb); have n2_ := Aside0.mk (hbox); have n3_ := Aside0.mk ((by rw [hg]; exact (below_size (by repeat (first | (with_reducible first | exact HB.out | apply below_alloc | apply pw_below_drewN | apply below_drew1 | refine below_set ?_ GE168.out) | exact HB.out))) : w.heap.size ≤ gb173)); have n4_ := Aside0.mk ((by rw [hg]; exact (below_size (by repeat (first | (with_reducible first | exact HB.out | apply below_alloc | apply pw_below_drewN | apply below_drew1 | refine below_set ?_ GE168.out) | exact HB.out))) : w.heap.size ≤ gb173)); have n5_ := Aside0.mk ((by rw [hg]; exact Nat.ne_of_lt (blk_lt (g := gb168) (o := .cells #[.int .i64 a0_0, .slice A0_1 l0_1.length c0_1] 27 (0, 0)) (by (with_reducible repeat (first | refine blk_drewN ?_ _ | refine blk_drew ?_ | refine blk_alloc ?_ _)); exact BK168.out)) : gb168 ≠ gb173)); have n6_ := Aside0.mk ((by rw [hg]; exact Nat.ne_of_gt (blk_lt (g := gb168) (o := .cells #[.int .i64 a0_0, .slice A0_1 l0_1.length c0_1] 27 (0, 0)) (by (with_reducible repeat (first | refine blk_drewN ?_ _ | refine blk_drew ?_ | refine blk_alloc ?_ _)); exact BK168.out)) : gb173 ≠ gb168)); clear BK168; clear HB; have BK168 := n0_; have HB := n1_; have BK173 := n2_; have GW173 := n3_; have GE173 := n4_; have NB168_173 := n5_; have NB173_168 := n6_; clear n0_ n1_ n2_ n3_ n4_ n5_ n6_; clear hb hbox hg; have hnb17 := NB173_168.out; have hnc17 := NB168_173.out; have hcz18_0 : w16.cell? ⟨gb173, 0, none⟩ = some (.int .i64 0) := (blk_cell BK173.out 0).trans rfl; have hcz18_1 : w16.cell? ⟨gb173, 1, none⟩ = some (.int .i64 0) := (blk_cell BK173.out 1).trans rfl; have hcz18_2 : w16.cell? ⟨gb173, 2, none⟩ = some (.int .i64 0) := (blk_cell BK173.out 2).trans rfl; have hfz18_0 := blk_frozen BK173.out 0; have hfz18_1 := blk_frozen BK173.out 1; have hfz18_2 := blk_frozen BK173.out 2; have hcz19_0 : w16.cell? ⟨gb168, 0, none⟩ = some (.int .i64 a0_0) := (blk_cell BK168.out 0).trans rfl; have hcz19_1 : w16.cell? ⟨gb168, 1, none⟩ = some (.slice A0_1 l0_1.length c0_1) := (blk_cell BK168.out 1).trans rfl; have hfz19_0 := blk_frozen BK168.out 0; have hfz19_1 := blk_frozen BK168.out 1) | ((with_reducible refine gate_callee (f := 114) rfl ?_); refine goesL_ (some 14) rfl rfl Try.func114 (by kernel_rfl) rfl #[.int .i64 a0_0, .slice A0_1 l0_1.length c0_1] rfl (by (try simp only [List.map_toArray, List.map_cons, List.map_nil]); first | done | rfl | (simp only [List.length_drop, List.length_take]; rfl)) ?_; (with_reducible refine (impl_IsFamily.calls k a0_0 _ _ l0_1 true _ ?side1 ?side2 A3.out).mono ?_); (case side1 => exact Kd.C_below HR0_1.out (by repeat (first | (with_reducible first | exact HB.out | apply below_alloc | apply pw_below_drewN | apply below_drew1 | refine below_set ?_ GE168.out | refine below_set ?_ GE173.out) | exact HB.out))); (case side2 => exact HC0_1.out); rintro e w' ⟨rfl, ⟨nd, rfl⟩⟩; refine ⟨_, rfl, ?_⟩))
      go_ret
      exact ⟨by first | rfl | (simp [errW_none, errW_some] <;> rfl) | (simp [*, errW_none, errW_some] <;> rfl), by repeat (first | (with_reducible first | exact HB.out | apply below_alloc | apply pw_below_drewN | apply below_drew1 | refine below_set ?_ GE168.out | refine below_set ?_ GE173.out) | exact HB.out)⟩
  · replace c4 := Bool.eq_false_iff.mpr c4
    subst c4
    have H1 : (some false) = some r := by rw [if_neg (show ¬ (false = true) by decide)] at H; exact H
    clear H
    have H := H1
    clear H1
    obtain rfl := Option.some.inj H
    go_enter Try.func59, Try.ntmps59
    go_wp2_with (first | ((with_reducible refine gate_dst (N := 1) rfl ?_); (try (refine gate_guard (by rfl) ?_; dsimp only)); refine box_event ?hg (N := 1) ?hd (cs := #[.int .i64 a0_0, .slice A0_1 l0_1.length c0_1]) (t := 27) ?hr ?_; (case hd => rfl); (case hg => rfl); (case hr => first | (go_simp; done) | (go_simp; rfl)); intro gb168 hg w20 hbox hb; have n0_ := Aside0.mk (below_step (by repeat (first | (with_reducible first | exact HB.out | apply below_alloc | apply pw_below_drewN | apply below_drew1) | exact HB.out)) hb); have n1_ := Aside0.mk (hbox); have n2_ := Aside0.mk ((by rw [hg]; exact (below_size (by repeat (first | (with_reducible first | exact HB.out | apply below_alloc | apply pw_below_drewN | apply below_drew1) | exact HB.out))) : w.heap.size ≤ gb168)); have n3_ := Aside0.mk ((by rw [hg]; exact (below_size (by repeat (first | (with_reducible first | exact HB.out | apply below_alloc | apply pw_below_drewN | apply below_drew1) | exact HB.out))) : w.heap.size ≤ gb168)); clear HB; have HB := n0_; have BK168 := n1_; have GW168 := n2_; have GE168 := n3_; clear n0_ n1_ n2_ n3_; clear hb hbox hg; have hcz21_0 : w20.cell? ⟨gb168, 0, none⟩ = some (.int .i64 a0_0) := (blk_cell BK168.out 0).trans rfl; have hcz21_1 : w20.cell? ⟨gb168, 1, none⟩ = some (.slice A0_1 l0_1.length c0_1) := (blk_cell BK168.out 1).trans rfl; have hfz21_0 := blk_frozen BK168.out 0; have hfz21_1 := blk_frozen BK168.out 1) | ((with_reducible refine gate_callee (f := 113) rfl ?_); refine goesL_ (some 7) rfl rfl Try.func113 (by kernel_rfl) rfl #[.agg #[.int .i64 a0_0, .slice A0_1 l0_1.length c0_1]] rfl (by (try simp only [List.map_toArray, List.map_cons, List.map_nil]); first | done | rfl | (simp only [List.length_drop, List.length_take]; rfl)) ?_; (with_reducible refine (impl_FirstFailure.calls k a0_0 _ _ l0_1 t169 t170 t171 t172 _ ?side1 ?side2 A2.out).mono ?_); (case side1 => repeat (first | exact (Kd.C_below HR0_1.out HB.out) | (with_reducible refine Kd.C_alloc ?_ _) | (with_reducible refine Kd.C_drewN ?_ _) | (with_reducible refine Kd.C_drew ?_))); (case side2 => exact HC0_1.out); rintro e w22 ⟨rfl, hb⟩; refine ⟨_, rfl, ?_⟩; have n0_ := Aside0.mk (blk_below (g := gb168) (o := .cells #[.int .i64 a0_0, .slice A0_1 l0_1.length c0_1] 27 (0, 0)) (by (with_reducible repeat (first | refine blk_drewN ?_ _ | refine blk_drew ?_ | refine blk_alloc ?_ _)); exact BK168.out) hb); have n1_ := Aside0.mk (below_step (by repeat (first | (with_reducible first | exact HB.out | apply below_alloc | apply pw_below_drewN | apply below_drew1 | refine below_set ?_ GE168.out) | exact HB.out)) hb); clear BK168; clear HB; have BK168 := n0_; have HB := n1_; clear n0_ n1_; (try clear hb); (try clear hb2); (try clear hk); (try clear hi)) | ((with_reducible refine gate_dst (N := 3) rfl ?_); (try (refine gate_guard (by rfl) ?_; dsimp only)); refine box_event ?hg (N := 3) ?hd (cs := #[.int .i64 0, .int .i64 0, .int .i64 0]) (t := 93) ?hr ?_; (case hd => rfl); (case hg => rfl); (case hr => first | (go_simp; done) | (go_simp; rfl)); intro gb173 hg w23 hbox hb; have n0_ := Aside0.mk (blk_below (g := gb168) (o := .cells #[.int .i64 a0_0, .slice A0_1 l0_1.length c0_1] 27 (0, 0)) (by (with_reducible repeat (first | refine blk_drewN ?_ _ | refine blk_drew ?_ | refine blk_alloc ?_ _)); exact BK168.out) hb); have n1_ := Aside0.mk (below_step (by repeat (first | (with_reducible first | exact HB.out | apply below_alloc | apply pw_below_drewN | apply below_drew1 | refine below_set ?_ GE168.out) | exact HB.out)) hb); have n2_ := Aside0.mk (hbox); have n3_ := Aside0.mk ((by rw [hg]; exact (below_size (by repeat (first | (with_reducible first | exact HB.out | apply below_alloc | apply pw_below_drewN | apply below_drew1 | refine below_set ?_ GE168.out) | exact HB.out))) : w.heap.size ≤ gb173)); have n4_ := Aside0.mk ((by rw [hg]; exact (below_size (by repeat (first | (with_reducible first | exact HB.out | apply below_alloc | apply pw_below_drewN | apply below_drew1 | refine below_set ?_ GE168.out) | exact HB.out))) : w.heap.size ≤ gb173)); have n5_ := Aside0.mk ((by rw [hg]; exact Nat.ne_of_lt (blk_lt (g := gb168) (o := .cells #[.int .i64 a0_0, .slice A0_1 l0_1.length c0_1] 27 (0, 0)) (by (with_reducible repeat (first | refine blk_drewN ?_ _ | refine blk_drew ?_ | refine blk_alloc ?_ _)); exact BK168.out)) : gb168 ≠ gb173)); have n6_ := Aside0.mk ((by rw [hg]; exact Nat.ne_of_gt (blk_lt (g := gb168) (o := .cells #[.int .i64 a0_0, .slice A0_1 l0_1.length c0_1] 27 (0, 0)) (by (with_reducible repeat (first | refine blk_drewN ?_ _ | refine blk_drew ?_ | refine blk_alloc ?_ _)); exact BK168.out)) : gb173 ≠ gb168)); clear BK168; clear HB; have BK168 := n0_; have HB := n1_; have BK173 := n2_; have GW173 := n3_; have GE173 := n4_; have NB168_173 := n5_; have NB173_168 := n6_; clear n0_ n1_ n2_ n3_ n4_ n5_ n6_; clear hb hbox hg; have hnb24 := NB173_168.out; have hnc24 := NB168_173.out; have hcz25_0 : w23.cell? ⟨gb173, 0, none⟩ = some (.int .i64 0) := (blk_cell BK173.out 0).trans rfl; have hcz25_1 : w23.cell? ⟨gb173, 1, none⟩ = some (.int .i64 0) := (blk_cell BK173.out 1).trans rfl; have hcz25_2 : w23.cell? ⟨gb173, 2, none⟩ = some (.int .i64 0) := (blk_cell BK173.out 2).trans rfl; have hfz25_0 := blk_frozen BK173.out 0; have hfz25_1 := blk_frozen BK173.out 1; have hfz25_2 := blk_frozen BK173.out 2; have hcz26_0 : w23.cell? ⟨gb168, 0, none⟩ = some (.int .i64 a0_0) := (blk_cell BK168.out 0).trans rfl; have hcz26_1 : w23.cell? ⟨gb168, 1, none⟩ = some (.slice A0_1 l0_1.length c0_1) := (blk_cell BK168.out 1).trans rfl; have hfz26_0 := blk_frozen BK168.out 0; have hfz26_1 := blk_frozen BK168.out 1) | ((with_reducible refine gate_callee (f := 114) rfl ?_); refine goesL_ (some 14) rfl rfl Try.func114 (by kernel_rfl) rfl #[.int .i64 a0_0, .slice A0_1 l0_1.length c0_1] rfl (by (try simp only [List.map_toArray, List.map_cons, List.map_nil]); first | done | rfl | (simp only [List.length_drop, List.length_take]; rfl)) ?_; (with_reducible refine (impl_IsFamily.calls k a0_0 _ _ l0_1 false _ ?side1 ?side2 A3.out).mono ?_); (case side1 => exact Kd.C_below HR0_1.out (by repeat (first | (with_reducible first | exact HB.out | apply below_alloc | apply pw_below_drewN | apply below_drew1 | refine below_set ?_ GE168.out | refine below_set ?_ GE173.out) | exact HB.out))); (case side2 => exact HC0_1.out); rintro e w' ⟨rfl, ⟨nd, rfl⟩⟩; refine ⟨_, rfl, ?_⟩))
    go_ret
    exact ⟨by first | rfl | (simp [errW_none, errW_some] <;> rfl) | (simp [*, errW_none, errW_some] <;> rfl), by repeat (first | (with_reducible first | exact HB.out | apply below_alloc | apply pw_below_drewN | apply below_drew1 | refine below_set ?_ GE168.out | refine below_set ?_ GE173.out) | exact HB.out)⟩

end Go.Proofs.Ytaepaekagenfnaa.Pr
end

/-! ## Pr95 -/
section
/- The functions that the laws reach, as plain Lean functions, and that the calls come to what these say. By pr.py over the kit's print. -/
namespace Go.Proofs.Ytaepaekagenfnaa.Pr
open Go.RowKit Go.Proofs.YtaepaekagenfnaaW.PrintWords Go.Proofs.YtaepaekagenfnaaW.PrintLast Go.Proofs.YtaepaekagenfnaaW.PrintMore
attribute [local go_sem] max2_int min2_int max_two min_two max_three min_three max_four min_four   -- for this text's walks alone
set_option linter.unusedVariables false
set_option linter.unusedSimpArgs false

/-! ### impl_RankOfMatroid: function 88 -/
def impl_RankOfMatroid.f (k : Nat) (a0_0 : Int) (l0_1 : List Int) : Option (Int) := (impl_IsMatroid.f k a0_0 l0_1).bind fun t502 => (if t502 = true then (if 0 < (l0_1.length : Int) then ((impl_CountOf.f (rd l0_1 0)).bind fun t504 => (some t504)) else (none)) else (some (-1)))
theorem impl_RankOfMatroid.mono : ∀ a0 a1 k, LeO (impl_RankOfMatroid.f k a0 a1) (impl_RankOfMatroid.f (k + 1) a0 a1) := by
  intro a0 a1 k
  unfold impl_RankOfMatroid.f
  repeat' first
      | (with_reducible exact impl_IsMatroid.mono _ _ _)
      | (with_reducible exact LeO.refl _)
      | (with_reducible exact LeO.none _)
      | (with_reducible refine LeO.ite ?_ ?_)
      | (with_reducible refine LeO.bind ?_ (fun _ => ?_))
      | exact impl_IsMatroid.mono _ _ _
      | exact LeO.none _
      | refine LeO.ite ?_ ?_
      | refine LeO.bind ?_ (fun _ => ?_)
set_option maxHeartbeats 8000000 in
set_option maxRecDepth 100000 in
theorem impl_RankOfMatroid.calls (k : Nat) (a0_0 : Int) (A0_1 : Option Addr) (c0_1 : Nat) (l0_1 : List Int) (r : Int) (w : World) (hr0_1 : Kd.C (Kd.int .i64) w A0_1 l0_1.length l0_1) (hc0_1 : l0_1.length ≤ c0_1) (h : impl_RankOfMatroid.f k a0_0 l0_1 = some r) :
    Calls Try.prog 88 #[.agg #[.int .i64 a0_0, .slice A0_1 l0_1.length c0_1]] w fun e w' => e = .returned (.int .i64 r) ∧ Below w.heap.size w w' := by
  have hu27 := Try.underlying27
  have HR0_1 := Aside0.mk hr0_1
  have HC0_1 := Aside0.mk hc0_1
  clear hr0_1 hc0_1
  have HB := Aside0.mk (Below.refl w.heap.size w)
  have H : ((impl_IsMatroid.f k a0_0 l0_1).bind fun t502 => (if t502 = true then (if 0 < (l0_1.length : Int) then ((impl_CountOf.f (rd l0_1 0)).bind fun t504 => (some t504)) else (none)) else (some (-1)))) = some r := h
  clear h
  replace H := Option.bind_eq_some_iff.mp H
  obtain ⟨t502, A20, H⟩ := H
  replace H : (if t502 = true then (if 0 < (l0_1.length : Int) then ((impl_CountOf.f (rd l0_1 0)).bind fun t504 => (some t504)) else (none)) else (some (-1))) = some r := H
  have A2 := Aside0.mk A20
  clear A20
  by_cases c3 : t502 = true
  · subst c3
    have H1 : (if 0 < (l0_1.length : Int) then ((impl_CountOf.f (rd l0_1 0)).bind fun t504 => (some t504)) else (none)) = some r := by rw [if_pos rfl] at H; exact H
    clear H
    have H := H1
    clear H1
    by_cases c4 : 0 < (l0_1.length : Int)
    · rw [if_pos c4] at H
      have c4b0 : decide (0 < (l0_1.length : Int)) = true := decide_eq_true c4
      have c4b1 : decide (0 < l0_1.length) = true := decide_eq_true (by omega)
      clear c4
      replace H := Option.bind_eq_some_iff.mp H
      obtain ⟨t504, A50, H⟩ := H
      replace H : (some t504) = some r := H
      have A5 := Aside0.mk A50
      clear A50
      obtain rfl := Option.some.inj H
      go_enter Try.func88, Try.ntmps88
      go_wp2_with (first | ((with_reducible refine gate_dst (N := 1) rfl ?_); refine box_event ?hg (N := 1) ?hd (cs := #[.int .i64 a0_0, .slice A0_1 l0_1.length c0_1]) (t := 27) ?hr ?_; (case hd => rfl); (case hg => rfl); (case hr => first | (go_simp; done) | (go_simp; rfl)); intro gb501 hg w6 hbox hb; have n0_ := Aside0.mk (below_step (by repeat (first | (with_reducible first | exact HB.out | apply below_alloc | apply pw_below_drewN | apply below_drew1) | exact HB.out)) hb); have n1_ := Aside0.mk (hbox); have n2_ := Aside0.mk ((by rw [hg]; exact (below_size (by repeat (first | (with_reducible first | exact HB.out | apply below_alloc | apply pw_below_drewN | apply below_drew1) | exact HB.out))) : w.heap.size ≤ gb501)); have n3_ := Aside0.mk ((by rw [hg]; exact (below_size (by repeat (first | (with_reducible first | exact HB.out | apply below_alloc | apply pw_below_drewN | apply below_drew1) | exact HB.out))) : w.heap.size ≤ gb501)); clear HB; have HB := n0_; have BK501 := n1_; have GW501 := n2_; have GE501 := n3_; clear n0_ n1_ n2_ n3_; clear hb hbox hg; have hcz7_0 : w6.cell? ⟨gb501, 0, none⟩ = some (.int .i64 a0_0) := (blk_cell BK501.out 0).trans rfl; have hcz7_1 : w6.cell? ⟨gb501, 1, none⟩ = some (.slice A0_1 l0_1.length c0_1) := (blk_cell BK501.out 1).trans rfl; have hfz7_0 := blk_frozen BK501.out 0; have hfz7_1 := blk_frozen BK501.out 1) | ((with_reducible refine gate_callee (f := 59) rfl ?_); refine goesL_ (some 4) rfl rfl Try.func59 (by kernel_rfl) rfl #[.agg #[.int .i64 a0_0, .slice A0_1 l0_1.length c0_1]] rfl (by (try simp only [List.map_toArray, List.map_cons, List.map_nil]); first | done | rfl | (simp only [List.length_drop, List.length_take]; rfl)) ?_; (with_reducible refine (impl_IsMatroid.calls k a0_0 _ _ l0_1 true _ ?side1 ?side2 A2.out).mono ?_); (case side1 => repeat (first | exact (Kd.C_below HR0_1.out HB.out) | (with_reducible refine Kd.C_alloc ?_ _) | (with_reducible refine Kd.C_drewN ?_ _) | (with_reducible refine Kd.C_drew ?_))); (case side2 => exact HC0_1.out); rintro e w8 ⟨rfl, hb⟩; refine ⟨_, rfl, ?_⟩; have n0_ := Aside0.mk (blk_below (g := gb501) (o := .cells #[.int .i64 a0_0, .slice A0_1 l0_1.length c0_1] 27 (0, 0)) (by (with_reducible repeat (first | refine blk_drewN ?_ _ | refine blk_drew ?_ | refine blk_alloc ?_ _)); exact BK501.out) hb); have n1_ := Aside0.mk (below_step (by repeat (first | (with_reducible first | exact HB.out | apply below_alloc | apply pw_below_drewN | apply below_drew1 | refine below_set ?_ GE501.out) | exact HB.out)) hb); clear BK501; clear HB; have BK501 := n0_; have HB := n1_; clear n0_ n1_; (try clear hb); (try clear hb2); (try clear hk); (try clear hi); have hcz9_0 : w8.cell? ⟨gb501, 0, none⟩ = some (.int .i64 a0_0) := (blk_cell BK501.out 0).trans rfl; have hcz9_1 : w8.cell? ⟨gb501, 1, none⟩ = some (.slice A0_1 l0_1.length c0_1) := (blk_cell BK501.out 1).trans rfl; have hfz9_0 := blk_frozen BK501.out 0; have hfz9_1 := blk_frozen BK501.out 1; have p503 : 0 ≤ (0 : Int) := (by omega); have q503 : 0 < (l0_1.length : Int) := of_decide_eq_true (by first | (with_reducible assumption) | assumption); obtain ⟨ad503, e503, hx503_0⟩ := Kd.at_int HR0_1.out 0 p503 q503; cases e503; have qi503 : (0 < l0_1.length) = True := eq_true (by omega); (try rw [show ((0 : Int)).toNat = 0 from rfl] at hx503_0); (try rw [Addr.add_zero'] at hx503_0); replace hx503_0 := (HB.out.cell (World.block_lt_of_cell? w _ hx503_0)).trans hx503_0; replace p503 := eq_true p503; replace q503 := eq_true q503) | ((with_reducible refine gate_callee (f := 101) rfl ?_); refine goesL_ (some 10) rfl rfl Try.func101 (by kernel_rfl) rfl #[.int .i64 (rd l0_1 0)] rfl (by (try simp only [List.map_toArray, List.map_cons, List.map_nil]); first | done | rfl | (simp only [List.length_drop, List.length_take]; rfl)) ?_; (with_reducible refine (impl_CountOf.calls (rd l0_1 0) t504 _ A5.out).mono ?_); rintro e w' ⟨rfl, ⟨nd, rfl⟩⟩; refine ⟨_, rfl, ?_⟩))
      go_ret
      exact ⟨by first | rfl | (simp [errW_none, errW_some] <;> rfl) | (simp [*, errW_none, errW_some] <;> rfl), by repeat (first | (with_reducible first | exact HB.out | apply below_alloc | apply pw_below_drewN | apply below_drew1 | refine below_set ?_ GE501.out) | exact HB.out)⟩
    · rw [if_neg c4] at H
      exact absurd H (by simp)
  · replace c3 := Bool.eq_false_iff.mpr c3
    subst c3
    have H1 : (some (-1)) = some r := by rw [if_neg (show ¬ (false = true) by decide)] at H; exact H
    clear H
    have H := H1
    clear H1
    obtain rfl := Option.some.inj H
    go_enter Try.func88, Try.ntmps88
    go_wp2_with (first | ((with_reducible refine gate_dst (N := 1) rfl ?_); refine box_event ?hg (N := 1) ?hd (cs := #[.int .i64 a0_0, .slice A0_1 l0_1.length c0_1]) (t := 27) ?hr ?_; (case hd => rfl); (case hg => rfl); (case hr => first | (go_simp; done) | (go_simp; rfl)); intro gb501 hg w10 hbox hb; have n0_ := Aside0.mk (below_step (by repeat (first | (with_reducible first | exact HB.out | apply below_alloc | apply pw_below_drewN | apply below_drew1) | exact HB.out)) hb); have n1_ := Aside0.mk (hbox); have n2_ := Aside0.mk ((by rw [hg]; exact (below_size (by repeat (first | (with_reducible first | exact HB.out | apply below_alloc | apply pw_below_drewN | apply below_drew1) | exact HB.out))) : w.heap.size ≤ gb501)); have n3_ := Aside0.mk ((by rw [hg]; exact (below_size (by repeat (first | (with_reducible first | exact HB.out | apply below_alloc | apply pw_below_drewN | apply below_drew1) | exact HB.out))) : w.heap.size ≤ gb501)); clear HB; have HB := n0_; have BK501 := n1_; have GW501 := n2_; have GE501 := n3_; clear n0_ n1_ n2_ n3_; clear hb hbox hg; have hcz11_0 : w10.cell? ⟨gb501, 0, none⟩ = some (.int .i64 a0_0) := (blk_cell BK501.out 0).trans rfl; have hcz11_1 : w10.cell? ⟨gb501, 1, none⟩ = some (.slice A0_1 l0_1.length c0_1) := (blk_cell BK501.out 1).trans rfl; have hfz11_0 := blk_frozen BK501.out 0; have hfz11_1 := blk_frozen BK501.out 1) | ((with_reducible refine gate_callee (f := 59) rfl ?_); refine goesL_ (some 4) rfl rfl Try.func59 (by kernel_rfl) rfl #[.agg #[.int .i64 a0_0, .slice A0_1 l0_1.length c0_1]] rfl (by (try simp only [List.map_toArray, List.map_cons, List.map_nil]); first | done | rfl | (simp only [List.length_drop, List.length_take]; rfl)) ?_; (with_reducible refine (impl_IsMatroid.calls k a0_0 _ _ l0_1 false _ ?side1 ?side2 A2.out).mono ?_); (case side1 => repeat (first | exact (Kd.C_below HR0_1.out HB.out) | (with_reducible refine Kd.C_alloc ?_ _) | (with_reducible refine Kd.C_drewN ?_ _) | (with_reducible refine Kd.C_drew ?_))); (case side2 => exact HC0_1.out); rintro e w12 ⟨rfl, hb⟩; refine ⟨_, rfl, ?_⟩; have n0_ := Aside0.mk (blk_below (g := gb501) (o := .cells #[.int .i64 a0_0, .slice A0_1 l0_1.length c0_1] 27 (0, 0)) (by (with_reducible repeat (first | refine blk_drewN ?_ _ | refine blk_drew ?_ | refine blk_alloc ?_ _)); exact BK501.out) hb); have n1_ := Aside0.mk (below_step (by repeat (first | (with_reducible first | exact HB.out | apply below_alloc | apply pw_below_drewN | apply below_drew1 | refine below_set ?_ GE501.out) | exact HB.out)) hb); clear BK501; clear HB; have BK501 := n0_; have HB := n1_; clear n0_ n1_; (try clear hb); (try clear hb2); (try clear hk); (try clear hi)))
    go_ret
    exact ⟨by first | rfl | (simp [errW_none, errW_some] <;> rfl) | (simp [*, errW_none, errW_some] <;> rfl), by repeat (first | (with_reducible first | exact HB.out | apply below_alloc | apply pw_below_drewN | apply below_drew1 | refine below_set ?_ GE501.out) | exact HB.out)⟩

end Go.Proofs.Ytaepaekagenfnaa.Pr
end

/-! ## Pr30 -/
section
/- The functions that the laws reach, as plain Lean functions, and that the calls come to what these say. By pr.py over the kit's print. -/
namespace Go.Proofs.Ytaepaekagenfnaa.Pr
open Go.RowKit Go.Proofs.YtaepaekagenfnaaW.PrintWords Go.Proofs.YtaepaekagenfnaaW.PrintLast Go.Proofs.YtaepaekagenfnaaW.PrintMore
attribute [local go_sem] max2_int min2_int max_two min_two max_three min_three max_four min_four   -- for this text's walks alone
set_option linter.unusedVariables false
set_option linter.unusedSimpArgs false

/-! ### impl_FullSet: function 62 -/
def impl_FullSet.f (a0 : Int) : Option (Int) := (impl_isSize.f a0).bind fun t175 => (if t175 = true then (if 0 ≤ a0 then (some (wrap64 ((shl .i64 1 a0) - 1))) else (none)) else (some 0))
set_option maxHeartbeats 8000000 in
set_option maxRecDepth 100000 in
theorem impl_FullSet.calls (a0 : Int) (r : Int) (w : World) (h : impl_FullSet.f a0 = some r) :
    Calls Try.prog 62 #[.int .i64 a0] w fun e w' => e = .returned (.int .i64 r) ∧ Drawn0 w w' := by
  have H : ((impl_isSize.f a0).bind fun t175 => (if t175 = true then (if 0 ≤ a0 then (some (wrap64 ((shl .i64 1 a0) - 1))) else (none)) else (some 0))) = some r := h
  clear h
  replace H := Option.bind_eq_some_iff.mp H
  obtain ⟨t175, A20, H⟩ := H
  replace H : (if t175 = true then (if 0 ≤ a0 then (some (wrap64 ((shl .i64 1 a0) - 1))) else (none)) else (some 0)) = some r := H
  have A2 := Aside0.mk A20
  clear A20
  by_cases c3 : t175 = true
  · subst c3
    have H1 : (if 0 ≤ a0 then (some (wrap64 ((shl .i64 1 a0) - 1))) else (none)) = some r := by rw [if_pos rfl] at H; exact H
    clear H
    have H := H1
    clear H1
    by_cases c4 : 0 ≤ a0
    · rw [if_pos c4] at H
      have c4b0 := eq_true c4
      have c4b1 : decide (0 ≤ a0) = true := decide_eq_true c4
      clear c4
      obtain ⟨ji5, hji5⟩ : ∃ j_ : Int, (shl .i64 1 a0) = j_ := ⟨_, rfl⟩
      replace H : (some (wrap64 ((ji5) - 1))) = some r := by first | (rw [hji5] at H; exact H) | (simp only [hji5] at H ⊢; exact H)
      (try rw [hji5] at A2)
      have hji5_ : (IntKind.i64.wrap (1 * 2 ^ min a0.toNat 64)) = ji5 := hji5
      have hji5z : a0 ≤ 64 → (IntKind.i64.wrap (1 * 2 ^ a0.toNat)) = ji5 := shl_small hji5
      have hji5u : (IntKind.i64.wrap (2 ^ min a0.toNat 64)) = ji5 := by have h_ := hji5_; rw [Int.one_mul] at h_; exact h_
      have hji5v : a0 ≤ 64 → (IntKind.i64.wrap (2 ^ a0.toNat)) = ji5 := fun hle_ => by have h_ := hji5z hle_; rw [Int.one_mul] at h_; exact h_
      have hji5y : (wrap64 (1 * 2 ^ min a0.toNat 64)) = ji5 := (i64_w _).symm.trans hji5_
      have hji5x : a0 ≤ 64 → (wrap64 (1 * 2 ^ a0.toNat)) = ji5 := fun h_ => (i64_w _).symm.trans (hji5z h_)
      obtain rfl := Option.some.inj H
      go_enter Try.func62, Try.ntmps62
      go_wp2_with (first | ((with_reducible refine gate_callee (f := 117) rfl ?_); refine goesL_ (some 4) rfl rfl Try.func117 (by kernel_rfl) rfl #[.int .i64 a0] rfl (by (try simp only [List.map_toArray, List.map_cons, List.map_nil]); first | done | rfl | (simp only [List.length_drop, List.length_take]; rfl)) ?_; (with_reducible refine (impl_isSize.calls a0 true _ A2.out).mono ?_); rintro e w' ⟨rfl, ⟨nd, rfl⟩⟩; refine ⟨_, rfl, ?_⟩))
      go_ret
      exact ⟨by first | rfl | (simp; done) | (simp only [← hji5] <;> (first | rfl | simp)) | (simp [*]; done), by repeat (first | exact Drawn0.refl _ | apply Drawn0.step)⟩
    · rw [if_neg c4] at H
      exact absurd H (by simp)
  · replace c3 := Bool.eq_false_iff.mpr c3
    subst c3
    have H1 : (some 0) = some r := by rw [if_neg (show ¬ (false = true) by decide)] at H; exact H
    clear H
    have H := H1
    clear H1
    obtain rfl := Option.some.inj H
    go_enter Try.func62, Try.ntmps62
    go_wp2_with (first | ((with_reducible refine gate_callee (f := 117) rfl ?_); refine goesL_ (some 4) rfl rfl Try.func117 (by kernel_rfl) rfl #[.int .i64 a0] rfl (by (try simp only [List.map_toArray, List.map_cons, List.map_nil]); first | done | rfl | (simp only [List.length_drop, List.length_take]; rfl)) ?_; (with_reducible refine (impl_isSize.calls a0 false _ A2.out).mono ?_); rintro e w' ⟨rfl, ⟨nd, rfl⟩⟩; refine ⟨_, rfl, ?_⟩))
    go_ret
    exact ⟨by first | rfl | (simp; done) | (simp [*]; done), by repeat (first | exact Drawn0.refl _ | apply Drawn0.step)⟩

end Go.Proofs.Ytaepaekagenfnaa.Pr
end

/-! ## Pr45 -/
section
/- The functions that the laws reach, as plain Lean functions, and that the calls come to what these say. By pr.py over the kit's print. -/
namespace Go.Proofs.Ytaepaekagenfnaa.Pr
open Go.RowKit Go.Proofs.YtaepaekagenfnaaW.PrintWords Go.Proofs.YtaepaekagenfnaaW.PrintLast Go.Proofs.YtaepaekagenfnaaW.PrintMore
attribute [local go_sem] max2_int min2_int max_two min_two max_three min_three max_four min_four   -- for this text's walks alone
set_option linter.unusedVariables false
set_option linter.unusedSimpArgs false

/-! ### impl_setsOf: function 122 -/
def impl_setsOf.l0 (g : Int → Option Bool) : Nat → Int → List Int → Int → Option (List Int)
  | 0, _, _, _ => none
  | k + 1, x0, x5, x6 => (impl_FullSet.f x0).bind fun t => (if x6 ≤ t then ((g x6).bind fun b => (if b = true then (if x5.length < 17592186044416 then (impl_setsOf.l0 g k x0 (x5 ++ [x6]) (wrap64 (x6 + 1))) else (none)) else (impl_setsOf.l0 g k x0 x5 (wrap64 (x6 + 1))))) else (some x5))
def impl_setsOf.f (k : Nat) (a0 : Int) (g : Int → Option Bool) : Option (List Int) := impl_setsOf.l0 g k a0 [] 0
theorem impl_setsOf.mono_l {g g' : Int → Option Bool} (hg : ∀ x, LeO (g x) (g' x)) : ∀ k, (∀ y0 y1 y2, LeO (impl_setsOf.l0 g k y0 y1 y2) (impl_setsOf.l0 g' (k + 1) y0 y1 y2))
  | 0 => fun _ _ _ r h => by simp [impl_setsOf.l0] at h
  | k + 1 => by
    intro y0 y1 y2
    unfold impl_setsOf.l0
    refine LeO.bind (LeO.refl _) fun _ => LeO.ite (LeO.bind (hg _) fun _ => LeO.ite (LeO.ite (impl_setsOf.mono_l hg k _ _ _) (LeO.refl _)) (impl_setsOf.mono_l hg k _ _ _)) (LeO.refl _)
theorem impl_setsOf.mono {g g' : Int → Option Bool} (hg : ∀ x, LeO (g x) (g' x)) (k : Nat) (n : Int) : LeO (impl_setsOf.f k n g) (impl_setsOf.f (k + 1) n g') := impl_setsOf.mono_l hg k n [] 0
set_option maxHeartbeats 8000000 in
set_option maxRecDepth 100000 in
theorem impl_setsOf.calls (k : Nat) (a0 : Int) (fv : Value) (g : Int → Option Bool) (r : List Int) (w : World) (hF : Hof.Fun1 Try.prog w fv g) (h : impl_setsOf.f k a0 g = some r) :
    Calls Try.prog 122 #[.int .i64 a0, fv] w fun e w' => ∃ v0_ : Value, e = .returned (v0_) ∧ Kd.R (Kd.int .i64) 3 w' w.heap.size (fun _ => True) v0_ r ∧ Below w.heap.size w w' := by
  have HB := Aside0.mk (Below.refl w.heap.size w)
  obtain ⟨y124, hy124⟩ : ∃ y_ : List Int, y_ = (([] : List Int)) := ⟨_, rfl⟩
  have H : (impl_setsOf.l0 g k a0 y124 0) = some r := by rw [hy124]; exact h
  clear h
  have Ny124 := Aside0.mk hy124
  clear hy124
  have H' := Aside0.mk H
  clear H
  go_enter Try.func122, Try.ntmps122
  go_wp2_with (first | ((with_reducible refine gate_dst (N := 7) rfl ?_); refine Kd.R_lit (Kd.int .i64) _ 3 ?hg (N := 7) ?hd (xs := ([] : List Int)) (inner := []) (ok := fun _ => True) (okp := fun _ => True) ?hr ?hp (fun _ hk => hk) trivial (Below.refl _ _) (Nat.le_refl _) (by simp) ?_; (case hd => rfl); (case hg => rfl); (case hr => first | (go_simp; done) | (go_simp; rfl)); (case hp => exact (Reps.none _ _)); intro v125 w2 ho3 hb hg_ hnew_; clear hg_ hnew_; rw [← Ny124.out] at ho3; have n0_ := Aside0.mk (Kd.R_lower ho3 (below_size HB.out)); have n1_ := Aside0.mk (below_step HB.out hb); clear HB; have HO126 := n0_; have HB := n1_; clear n0_ n1_; clear hb ho3))
  go_loopg [5, 6] k (fun kq v5 v6 w' => ∃ (x5_1 : List Int) (x6_1 : Int), v6 = .int .i64 x6_1 ∧ Aside0 (impl_setsOf.l0 g kq a0 x5_1 x6_1 = some r) ∧ Aside0 (kq ≤ k) ∧ Aside0 (Kd.R (Kd.int .i64) 3 w' w.heap.size (fun _ => True) v5 x5_1) ∧ Aside0 (Below w.heap.size w w'))
  case atStart => exact ⟨y124, 0, rfl, H', ⟨Nat.le_refl _⟩, HO126, HB⟩
  case round =>
    clear H'
    try clear HB
    try clear HO126
    obtain ⟨x5_1, x6_1, rfl, HA, HK1, HO_3, HB⟩ := hrel
    cases gk with
    | zero => exact absurd HA.out (by simp [impl_setsOf.l0])
    | succ k1 =>
      have H := HA.out
      clear HA
      simp only [impl_setsOf.l0] at H
      obtain ⟨t, A40, H⟩ := Option.bind_eq_some_iff.mp H
      have A4 := Aside0.mk A40
      clear A40
      by_cases c4 : x6_1 ≤ t
      · rw [if_pos c4] at H
        have c4b0 : decide (x6_1 ≤ t) = true := decide_eq_true c4
        clear c4
        obtain ⟨t127, A50, H⟩ := Option.bind_eq_some_iff.mp H
        have A5 := Aside0.mk A50
        clear A50
        by_cases c6 : t127 = true
        · subst c6
          have H1 : (if x5_1.length < 17592186044416 then (impl_setsOf.l0 g k1 a0 (x5_1 ++ [x6_1]) (wrap64 (x6_1 + 1))) else (none)) = some r := by rw [if_pos rfl] at H; exact H
          clear H
          have H := H1
          clear H1
          by_cases c7 : x5_1.length < 17592186044416
          · rw [if_pos c7] at H
            have LMc7 := Aside0.mk c7
            clear c7
            obtain ⟨y128, hy128⟩ : ∃ y_ : List Int, y_ = (x5_1 ++ [x6_1]) := ⟨_, rfl⟩
            replace H : (impl_setsOf.l0 g k1 a0 y128 (wrap64 (x6_1 + 1))) = some r := by rw [hy128]; exact H
            have Ny128 := Aside0.mk hy128
            clear hy128
            have H' := Aside0.mk H
            clear H
            go_wp2_with (first | ((with_reducible refine gate_callee (f := 62) rfl ?_); refine goesL_ (some 10) rfl rfl Try.func62 (by kernel_rfl) rfl #[.int .i64 a0] rfl (by (try simp only [List.map_toArray, List.map_cons, List.map_nil]); first | done | rfl) ?_; (with_reducible refine (impl_FullSet.calls a0 t _ A4.out).mono ?_); rintro e w' ⟨rfl, hd⟩; refine ⟨_, rfl, ?_⟩; have n1_ := Aside0.mk (below_step HB.out hd.below); have n0_ := Aside0.mk (Kd.R_below HO_3.out hd.below); clear HB HO_3 hd; have HB := n1_; have HO_3 := n0_; clear n0_ n1_) | ((with_reducible refine gate_dst (N := 16) rfl ?_); refine Hof.goesF_ (some 16) rfl rfl 14 rfl hF A5.out HB.out rfl (by (try simp only [List.map_toArray, List.map_cons, List.map_nil]); first | done | rfl) ?_; intro w5 hb; have n1_ := Aside0.mk (below_step HB.out hb); have n0_ := Aside0.mk (Kd.R_below HO_3.out hb); clear HB HO_3 hb; have HB := n1_; have HO_3 := n0_; clear n0_ n1_) | ((with_reducible refine gate_builtin (b := .append) (xs := #[.tmp 17, .tmp 19]) rfl ?_); at_builtin; refine Kd.R_append (Kd.int .i64) (w0 := w) w.heap.size rfl (.tmp 17) (.tmp 19) 22 3 (.int .i64 0) 8 rfl Try.underlying22 info3 rfl (by decide) (by omega) u5 x5_1 x6_1 [.int .i64 x6_1] (fun _ => True) (fun _ => False) rfl rfl ?aP (fun _ hk => hk.elim) ?aF ?aO ?aB ?aS ?aL ?_; (case aP => exact rfl); (case aB => exact (by repeat (first | (with_reducible first | exact HB.out | apply below_alloc | apply pw_below_drewN | apply below_drew1) | exact HB.out))); (case aF => exact (fun _ _ => trivial)); (case aO => exact (by (with_reducible repeat (first | apply Kd.R_alloc | apply Kd.R_drewN | apply Kd.R_drew)); exact HO_3.out)); (case aS => exact (below_size (by repeat (first | (with_reducible first | exact HB.out | apply below_alloc | apply pw_below_drewN | apply below_drew1) | exact HB.out)))); (case aL => have := LMc7.out; omega); intro v129 w8 ho hb hg hat; rw [← Ny128.out] at ho; have n0_ := Aside0.mk (hb); have n1_ := Aside0.mk (ho); clear HB; clear HO_3; have HB := n0_; have HO130 := n1_; clear n0_ n1_; clear ho hb hg hat))
            go_roundg k1
            case measure => have := HK1.out; omega
            case rel => exact ⟨(y128), (wrap64 (x6_1 + 1)), rfl, H', ⟨by have := HK1.out; omega⟩, HO130, HB⟩
          · rw [if_neg c7] at H
            exact absurd H (by simp)
        · replace c6 := Bool.eq_false_iff.mpr c6
          subst c6
          have H1 : (impl_setsOf.l0 g k1 a0 x5_1 (wrap64 (x6_1 + 1))) = some r := by rw [if_neg (show ¬ (false = true) by decide)] at H; exact H
          clear H
          have H' := Aside0.mk H1
          clear H1
          go_wp2_with (first | ((with_reducible refine gate_callee (f := 62) rfl ?_); refine goesL_ (some 10) rfl rfl Try.func62 (by kernel_rfl) rfl #[.int .i64 a0] rfl (by (try simp only [List.map_toArray, List.map_cons, List.map_nil]); first | done | rfl) ?_; (with_reducible refine (impl_FullSet.calls a0 t _ A4.out).mono ?_); rintro e w' ⟨rfl, hd⟩; refine ⟨_, rfl, ?_⟩; have n1_ := Aside0.mk (below_step HB.out hd.below); have n0_ := Aside0.mk (Kd.R_below HO_3.out hd.below); clear HB HO_3 hd; have HB := n1_; have HO_3 := n0_; clear n0_ n1_) | ((with_reducible refine gate_dst (N := 16) rfl ?_); refine Hof.goesF_ (some 16) rfl rfl 14 rfl hF A5.out HB.out rfl (by (try simp only [List.map_toArray, List.map_cons, List.map_nil]); first | done | rfl) ?_; intro w5 hb; have n1_ := Aside0.mk (below_step HB.out hb); have n0_ := Aside0.mk (Kd.R_below HO_3.out hb); clear HB HO_3 hb; have HB := n1_; have HO_3 := n0_; clear n0_ n1_))
          go_roundg k1
          case measure => have := HK1.out; omega
          case rel => exact ⟨x5_1, (wrap64 (x6_1 + 1)), rfl, H', ⟨by have := HK1.out; omega⟩, HO_3, HB⟩
      · rw [if_neg c4] at H
        have c4b0 : decide (x6_1 ≤ t) = false := decide_eq_false c4
        clear c4
        obtain rfl := Option.some.inj H
        go_wp2_with (first | ((with_reducible refine gate_callee (f := 62) rfl ?_); refine goesL_ (some 10) rfl rfl Try.func62 (by kernel_rfl) rfl #[.int .i64 a0] rfl (by (try simp only [List.map_toArray, List.map_cons, List.map_nil]); first | done | rfl) ?_; (with_reducible refine (impl_FullSet.calls a0 t _ A4.out).mono ?_); rintro e w' ⟨rfl, hd⟩; refine ⟨_, rfl, ?_⟩; have n1_ := Aside0.mk (below_step HB.out hd.below); have n0_ := Aside0.mk (Kd.R_below HO_3.out hd.below); clear HB HO_3 hd; have HB := n1_; have HO_3 := n0_; clear n0_ n1_))
        go_ret
        exact ⟨_, rfl, HO_3.out, HB.out⟩

end Go.Proofs.Ytaepaekagenfnaa.Pr
end

/-! ## Pr63 -/
section
/- The functions that the laws reach, as plain Lean functions, and that the calls come to what these say. By pr.py over the kit's print. -/
namespace Go.Proofs.Ytaepaekagenfnaa.Pr
open Go.RowKit Go.Proofs.YtaepaekagenfnaaW.PrintWords Go.Proofs.YtaepaekagenfnaaW.PrintLast Go.Proofs.YtaepaekagenfnaaW.PrintMore
attribute [local go_sem] max2_int min2_int max_two min_two max_three min_three max_four min_four   -- for this text's walks alone
set_option linter.unusedVariables false
set_option linter.unusedSimpArgs false

/-! ### impl_closure: function 74 -/
def impl_closure.l0 : Nat → Int → Int → Int → Int → Int → List Int → Option (Int)
  | 0, _, _, _, _, _, _ => none
  | k + 1, x1, x5, x6, x7, x313000, x313001 => if x7 < x313000 then (if 0 ≤ x7 then ((impl_rankIn.f k x313000 x313001 (Go.bits .or .i64 x1 (shl .i64 1 x7))).bind fun t314 => (if t314 = x5 then (impl_closure.l0 k x1 x5 (Go.bits .or .i64 x6 (shl .i64 1 x7)) (wrap64 (x7 + 1)) x313000 x313001) else (impl_closure.l0 k x1 x5 x6 (wrap64 (x7 + 1)) x313000 x313001))) else (none)) else (some x6)
def impl_closure.f (k : Nat) (a0_0 : Int) (l0_1 : List Int) (a1 : Int) : Option (Int) := (impl_rankIn.f k a0_0 l0_1 a1).bind fun t313 => (impl_closure.l0 k a1 t313 0 0 a0_0 l0_1)
theorem impl_closure.mono_l : ∀ k, (∀ y0 y1 y2 y3 y4 y5, LeO (impl_closure.l0 k y0 y1 y2 y3 y4 y5) (impl_closure.l0 (k + 1) y0 y1 y2 y3 y4 y5))
  | 0 => fun _ _ _ _ _ _ r h => by simp [impl_closure.l0] at h
  | k + 1 => by
    have ih0 := impl_closure.mono_l k
    · intro y0 y1 y2 y3 y4 y5
      unfold impl_closure.l0
      repeat' first
      | (with_reducible exact ih0 _ _ _ _ _ _)
      | (with_reducible exact impl_rankIn.mono _ _ _ _)
      | (with_reducible exact LeO.refl _)
      | (with_reducible exact LeO.none _)
      | (with_reducible refine LeO.ite ?_ ?_)
      | (with_reducible refine LeO.bind ?_ (fun _ => ?_))
      | exact ih0 _ _ _ _ _ _
      | exact impl_rankIn.mono _ _ _ _
      | exact LeO.none _
      | refine LeO.ite ?_ ?_
      | refine LeO.bind ?_ (fun _ => ?_)
theorem impl_closure.mono : ∀ a0 a1 a2 k, LeO (impl_closure.f k a0 a1 a2) (impl_closure.f (k + 1) a0 a1 a2) := by
  intro a0 a1 a2 k
  have ih0 := impl_closure.mono_l k
  unfold impl_closure.f
  repeat' first
      | (with_reducible exact ih0 _ _ _ _ _ _)
      | (with_reducible exact impl_rankIn.mono _ _ _ _)
      | (with_reducible exact LeO.refl _)
      | (with_reducible exact LeO.none _)
      | (with_reducible refine LeO.ite ?_ ?_)
      | (with_reducible refine LeO.bind ?_ (fun _ => ?_))
      | exact ih0 _ _ _ _ _ _
      | exact impl_rankIn.mono _ _ _ _
      | exact LeO.none _
      | refine LeO.ite ?_ ?_
      | refine LeO.bind ?_ (fun _ => ?_)
def impl_closure.T6 : Bool × List (List Nat × List Nat) := (true, [([], []), ([], []), ([], []), ([2], [2]), ([1, 3], [1, 3]), ([0, 4], [0, 4]), ([], []), ([5, 6], [5, 6])])
def impl_closure.B6 : List Nat := [0, 0, 0, 4, 14, 31, 0, 127]
theorem impl_closure.tab6 : rtab .any (opsOf Try.f74 6) = impl_closure.T6 := by kernel_rfl
theorem impl_closure.bits6 : waitsOk impl_closure.T6.2 impl_closure.B6 = true := by kernel_rfl
set_option maxHeartbeats 8000000 in
set_option maxRecDepth 100000 in
theorem impl_closure.calls (k : Nat) (a0_0 : Int) (A0_1 : Option Addr) (c0_1 : Nat) (l0_1 : List Int) (a1 : Int) (r : Int) (w : World) (hr0_1 : Kd.C (Kd.int .i64) w A0_1 l0_1.length l0_1) (hc0_1 : l0_1.length ≤ c0_1) (h : impl_closure.f k a0_0 l0_1 a1 = some r) :
    Calls Try.prog 74 #[.agg #[.int .i64 a0_0, .slice A0_1 l0_1.length c0_1], .int .i64 a1] w fun e w' => e = .returned (.int .i64 r) ∧ Below w.heap.size w w' := by
  have hu27 := Try.underlying27
  have HR0_1 := Aside0.mk hr0_1
  have HC0_1 := Aside0.mk hc0_1
  clear hr0_1 hc0_1
  have HB := Aside0.mk (Below.refl w.heap.size w)
  have H : ((impl_rankIn.f k a0_0 l0_1 a1).bind fun t313 => (impl_closure.l0 k a1 t313 0 0 a0_0 l0_1)) = some r := h
  clear h
  replace H := Option.bind_eq_some_iff.mp H
  obtain ⟨t313, A30, H⟩ := H
  replace H : (impl_closure.l0 k a1 t313 0 0 a0_0 l0_1) = some r := H
  have A3 := Aside0.mk A30
  clear A30
  have H' := Aside0.mk H
  clear H
  go_enter Try.func74, Try.ntmps74
  go_wp2_with (first | ((with_reducible refine gate_dst (N := 2) rfl ?_); refine box_event ?hg (N := 2) ?hd (cs := #[.int .i64 a0_0, .slice A0_1 l0_1.length c0_1]) (t := 27) ?hr ?_; (case hd => rfl); (case hg => rfl); (case hr => first | (go_simp; done) | (go_simp; rfl)); intro gb312 hg w4 hbox hb; have n0_ := Aside0.mk (below_step (by repeat (first | (with_reducible first | exact HB.out | apply below_alloc | apply pw_below_drewN | apply below_drew1) | exact HB.out)) hb); have n1_ := Aside0.mk (hbox); have n2_ := Aside0.mk ((by rw [hg]; exact (below_size (by repeat (first | (with_reducible first | exact HB.out | apply below_alloc | apply pw_below_drewN | apply below_drew1) | exact HB.out))) : w.heap.size ≤ gb312)); have n3_ := Aside0.mk ((by rw [hg]; exact (below_size (by repeat (first | (with_reducible first | exact HB.out | apply below_alloc | apply pw_below_drewN | apply below_drew1) | exact HB.out))) : w.heap.size ≤ gb312)); clear HB; have HB := n0_; have BK312 := n1_; have GW312 := n2_; have GE312 := n3_; clear n0_ n1_ n2_ n3_; clear hb hbox hg; have hcz5_0 : w4.cell? ⟨gb312, 0, none⟩ = some (.int .i64 a0_0) := (blk_cell BK312.out 0).trans rfl; have hcz5_1 : w4.cell? ⟨gb312, 1, none⟩ = some (.slice A0_1 l0_1.length c0_1) := (blk_cell BK312.out 1).trans rfl; have hfz5_0 := blk_frozen BK312.out 0; have hfz5_1 := blk_frozen BK312.out 1) | ((with_reducible refine gate_callee (f := 90) rfl ?_); refine goesL_ (some 10) rfl rfl Try.func90 (by kernel_rfl) rfl #[.agg #[.int .i64 a0_0, .slice A0_1 l0_1.length c0_1], .int .i64 a1] rfl (by (try simp only [List.map_toArray, List.map_cons, List.map_nil]); first | done | rfl | (simp only [List.length_drop, List.length_take]; rfl)) ?_; (with_reducible refine (impl_rankIn.calls k a0_0 _ _ l0_1 a1 t313 _ ?side1 ?side2 A3.out).mono ?_); (case side1 => repeat (first | exact (Kd.C_below HR0_1.out HB.out) | (with_reducible refine Kd.C_alloc ?_ _) | (with_reducible refine Kd.C_drewN ?_ _) | (with_reducible refine Kd.C_drew ?_))); (case side2 => exact HC0_1.out); rintro e w6 ⟨rfl, hb⟩; refine ⟨_, rfl, ?_⟩; have n0_ := Aside0.mk (blk_below (g := gb312) (o := .cells #[.int .i64 a0_0, .slice A0_1 l0_1.length c0_1] 27 (0, 0)) (by (with_reducible repeat (first | refine blk_drewN ?_ _ | refine blk_drew ?_ | refine blk_alloc ?_ _)); exact BK312.out) hb); have n1_ := Aside0.mk (below_step (by repeat (first | (with_reducible first | exact HB.out | apply below_alloc | apply pw_below_drewN | apply below_drew1 | refine below_set ?_ GE312.out) | exact HB.out)) hb); clear BK312; clear HB; have BK312 := n0_; have HB := n1_; clear n0_ n1_; (try clear hb); (try clear hb2); (try clear hk); (try clear hi)))
  go_loopg [6, 7] k (fun kq v6 v7 w' => ∃ (x6_1 : Int) (x7_1 : Int), v6 = .int .i64 x6_1 ∧ v7 = .int .i64 x7_1 ∧ Aside0 (impl_closure.l0 kq a1 t313 x6_1 x7_1 a0_0 l0_1 = some r) ∧ Aside0 (kq ≤ k) ∧ Aside0 (w'.heap[gb312]? = some (.cells #[.int .i64 a0_0, (.slice A0_1 l0_1.length c0_1)] 27 (0, 0))) ∧ Aside0 (Below w.heap.size w w'))
  case atStart => exact ⟨(0), (0), (by first | rfl | (simp; done) | (simp [*]; done)), (by first | rfl | (simp; done) | (simp [*]; done)), H', ⟨Nat.le_refl _⟩, ⟨by (with_reducible repeat (first | refine blk_drewN ?_ _ | refine blk_drew ?_ | refine blk_alloc ?_ _)); exact BK312.out⟩, ⟨by repeat (first | (with_reducible first | exact HB.out | apply below_alloc | apply pw_below_drewN | apply below_drew1 | refine below_set ?_ GE312.out) | exact HB.out)⟩⟩
  case round =>
    clear H'
    try clear p2
    try clear hcz5_0
    try clear hcz5_1
    try clear hfz5_0
    try clear hfz5_1
    obtain ⟨x6_1, x7_1, rfl, rfl, HA, HK1, BK312, HB⟩ := hrel
    cases gk with
    | zero => exact absurd HA.out (by simp [impl_closure.l0])
    | succ k1 =>
      have H := HA.out
      clear HA
      simp only [impl_closure.l0] at H
      by_cases c7 : x7_1 < a0_0
      · rw [if_pos c7] at H
        have c7b0 : decide (x7_1 < a0_0) = true := decide_eq_true c7
        clear c7
        by_cases c8 : 0 ≤ x7_1
        · rw [if_pos c8] at H
          have c8b0 := eq_true c8
          have c8b1 : decide (0 ≤ x7_1) = true := decide_eq_true c8
          clear c8
          obtain ⟨ji9, hji9⟩ : ∃ j_ : Int, (shl .i64 1 x7_1) = j_ := ⟨_, rfl⟩
          replace H : ((impl_rankIn.f k1 a0_0 l0_1 (Go.bits .or .i64 a1 (ji9))).bind fun t314 => (if t314 = t313 then (impl_closure.l0 k1 a1 t313 (Go.bits .or .i64 x6_1 (ji9)) (wrap64 (x7_1 + 1)) a0_0 l0_1) else (impl_closure.l0 k1 a1 t313 x6_1 (wrap64 (x7_1 + 1)) a0_0 l0_1))) = some r := by first | (rw [hji9] at H; exact H) | (simp only [hji9] at H ⊢; exact H)
          have hji9_ : (IntKind.i64.wrap (1 * 2 ^ min x7_1.toNat 64)) = ji9 := hji9
          have hji9z : x7_1 ≤ 64 → (IntKind.i64.wrap (1 * 2 ^ x7_1.toNat)) = ji9 := shl_small hji9
          have hji9u : (IntKind.i64.wrap (2 ^ min x7_1.toNat 64)) = ji9 := by have h_ := hji9_; rw [Int.one_mul] at h_; exact h_
          have hji9v : x7_1 ≤ 64 → (IntKind.i64.wrap (2 ^ x7_1.toNat)) = ji9 := fun hle_ => by have h_ := hji9z hle_; rw [Int.one_mul] at h_; exact h_
          have hji9y : (wrap64 (1 * 2 ^ min x7_1.toNat 64)) = ji9 := (i64_w _).symm.trans hji9_
          have hji9x : x7_1 ≤ 64 → (wrap64 (1 * 2 ^ x7_1.toNat)) = ji9 := fun h_ => (i64_w _).symm.trans (hji9z h_)
          replace H := Option.bind_eq_some_iff.mp H
          obtain ⟨t314, A100, H⟩ := H
          replace H : (if t314 = t313 then (impl_closure.l0 k1 a1 t313 (Go.bits .or .i64 x6_1 (ji9)) (wrap64 (x7_1 + 1)) a0_0 l0_1) else (impl_closure.l0 k1 a1 t313 x6_1 (wrap64 (x7_1 + 1)) a0_0 l0_1)) = some r := H
          have A10 := Aside0.mk A100
          clear A100
          by_cases c11 : t314 = t313
          · rw [if_pos c11] at H
            have c11b0 : (t314 == t313) = true := beq_iff_eq.mpr c11
            have c11b1 : (t314 != t313) = false := bne_eq_false_iff_eq.mpr c11
            clear c11
            have c12b0 := eq_true (of_decide_eq_true (by first | (with_reducible assumption) | assumption) : 0 ≤ x7_1)
            have H' := Aside0.mk H
            clear H
            have hcz14_0 : wr.cell? ⟨gb312, 0, none⟩ = some (.int .i64 a0_0) := (blk_cell BK312.out 0).trans rfl
            have hcz14_1 : wr.cell? ⟨gb312, 1, none⟩ = some (.slice A0_1 l0_1.length c0_1) := (blk_cell BK312.out 1).trans rfl
            have hfz14_0 := blk_frozen BK312.out 0
            have hfz14_1 := blk_frozen BK312.out 1
            try go_wp2
            have n0_ := Aside0.mk (blk_drew BK312.out)
            have n1_ := Aside0.mk (below_drew1 HB.out)
            clear BK312
            clear HB
            have BK312 := n0_
            have HB := n1_
            clear n0_ n1_
            refine start_ (n := 8) (S := fun w' => w'.cell? ⟨gb312, 0, none⟩ = some (.int .i64 a0_0) ∧ w'.cell? ⟨gb312, 1, none⟩ = some (.slice A0_1 l0_1.length c0_1)) (ds := []) #[false, false, false, false, false, false, false, false] (by kernel_rfl) rfl rfl ⟨(blk_cell BK312.out 0).trans rfl, (blk_cell BK312.out 1).trans rfl⟩ (fun hHeld => ?_); refine with_tabW impl_closure.tab6 impl_closure.bits6 (fun HT_ HW_ => ?_)
            generalize wr.drew = w15 at BK312 HB hHeld ⊢
            refine pure_ (i := 1) (N := some 18) (v := ?_) (a' := ?_) #[false, true, false, false, false, false, false, false] rfl rfl (any_of HT_.out (by kernel_rfl)) (fun _ _ _ h => h) (Or.inl ⟨by rfl, ?_⟩) ?_ ?_
            rotate_left
            · intro w'
              go_simp
              with_reducible rfl
            rotate_left
            · simp only [Act.put, List.setIfInBounds_toArray, List.set_cons_zero, List.set_cons_succ, i64_w, i32_w]
              rfl
            refine pure_ (i := 2) (N := some 19) (v := ?_) (a' := ?_) #[false, true, true, false, false, false, false, false] rfl rfl (any_of HT_.out (by kernel_rfl)) (fun _ _ _ h => h) (Or.inl ⟨by rfl, ?_⟩) ?_ ?_
            rotate_left
            · intro w'
              go_simp
              with_reducible rfl
            rotate_left
            · simp only [Act.put, List.setIfInBounds_toArray, List.set_cons_zero, List.set_cons_succ, i64_w, i32_w]
              rfl
            refine pure_ (i := 3) (N := some 20) (v := ?_) (a' := ?_) #[false, true, true, true, false, false, false, false] rfl rfl (any_of HT_.out (by kernel_rfl)) (fun _ _ _ h => h) (Or.inl ⟨by rfl, ?_⟩) ?_ ?_
            rotate_left
            · intro w'
              go_simp
              with_reducible rfl
            rotate_left
            · simp only [Act.put, List.setIfInBounds_toArray, List.set_cons_zero, List.set_cons_succ, i64_w, i32_w]
              rfl
            refine pure_ (i := 4) (N := some 21) (v := ?_) (a' := ?_) #[false, true, true, true, true, false, false, false] rfl rfl (any_of HT_.out (by kernel_rfl)) (fun _ _ _ h => h) (Or.inl ⟨by rfl, ?_⟩) ?_ ?_
            rotate_left
            · intro w'
              go_simp
              with_reducible rfl
            rotate_left
            · simp only [Act.put, List.setIfInBounds_toArray, List.set_cons_zero, List.set_cons_succ, i64_w, i32_w]
              rfl
            refine pure_ (i := 6) (N := some 23) (v := ?_) (a' := ?_) #[false, true, true, true, true, false, true, false] rfl rfl (any_of HT_.out (by kernel_rfl)) (fun _ _ _ h => h) (Or.inl ⟨by rfl, ?_⟩) ?_ ?_
            rotate_left
            · intro w'
              go_simp
              with_reducible rfl
            rotate_left
            · simp only [Act.put, List.setIfInBounds_toArray, List.set_cons_zero, List.set_cons_succ, i64_w, i32_w]
              rfl
            refine take_ (i := 0) (N := some 17) (v := ?_) (a' := ?_) #[true, true, true, true, true, false, true, false] rfl rfl (take_ofW HT_.out HW_.out (by kernel_rfl)) (fun _ _ _ h => h) (Or.inl ⟨by rfl, ?_⟩) hHeld ?_ ?_
            rotate_left
            · rintro w' ⟨s0, s1⟩
              go_simp
              with_reducible rfl
            rotate_left
            · simp only [Act.put, List.setIfInBounds_toArray, List.set_cons_zero, List.set_cons_succ, i64_w, i32_w]
              rfl
            refine one_ (i := 5) (N := some 22) #[true, true, true, true, true, true, true, false] rfl rfl (one_of HT_.out (by kernel_rfl)) (by decide) (fun K hK => ?_)
            refine goes_ Try.func90 (by kernel_rfl) rfl #[.agg #[.int .i64 a0_0, .slice A0_1 l0_1.length c0_1], .int .i64 (Go.bits .or .i64 a1 (ji9))] (by rfl) rfl rfl (by (try simp only [List.map_toArray, List.map_cons, List.map_nil]); first | done | (simp only [hji9]; rfl) | rfl | (simp only [List.length_drop, List.length_take]; rfl)) ?_
            with_reducible refine (impl_rankIn.calls k1 a0_0 _ _ l0_1 (Go.bits .or .i64 a1 (ji9)) t314 _ ?side1 ?side2 A10.out).mono ?_
            (case side1 => repeat (first | exact (Kd.C_below HR0_1.out HB.out) | (with_reducible refine Kd.C_alloc ?_ _) | (with_reducible refine Kd.C_drewN ?_ _) | (with_reducible refine Kd.C_drew ?_)))
            (case side2 => exact HC0_1.out)
            rintro e w16 ⟨rfl, hb⟩
            refine ⟨_, rfl, ?_⟩
            have n0_ := Aside0.mk (blk_below (g := gb312) (o := .cells #[.int .i64 a0_0, .slice A0_1 l0_1.length c0_1] 27 (0, 0)) (by (with_reducible repeat (first | refine blk_drewN ?_ _ | refine blk_drew ?_ | refine blk_alloc ?_ _)); exact BK312.out) hb)
            have n1_ := Aside0.mk (below_step (by repeat (first | (with_reducible first | exact HB.out | apply below_alloc | apply pw_below_drewN | apply below_drew1 | refine below_set ?_ GE312.out) | exact HB.out)) hb)
            clear BK312
            clear HB
            have BK312 := n0_
            have HB := n1_
            clear n0_ n1_
            (try clear hb)
            (try clear hb2)
            (try clear hk)
            (try clear hi)
            refine hK.out _ _ ⟨(blk_cell BK312.out 0).trans rfl, (blk_cell BK312.out 1).trans rfl⟩ (fun hHeld => ?_)
            clear hK K
            refine norm_ (a' := ?_) ?_ ?_
            rotate_left
            · show Act.put _ (some 22) _ = _
              simp only [Act.put, List.setIfInBounds_toArray, List.set_cons_zero, List.set_cons_succ, i64_w, i32_w]
              rfl
            refine pure_ (i := 7) (N := some 24) (v := ?_) (a' := ?_) #[true, true, true, true, true, true, true, true] rfl rfl (any_of HT_.out (by kernel_rfl)) (fun _ _ _ h => h) (Or.inl ⟨by rfl, ?_⟩) ?_ ?_
            rotate_left
            · intro w'
              go_simp
              with_reducible rfl
            rotate_left
            · simp only [Act.put, List.setIfInBounds_toArray, List.set_cons_zero, List.set_cons_succ, i64_w, i32_w]
              rfl
            refine done_ (done_of HT_.out (by kernel_rfl)) ?_
            try go_wp2
            go_roundg k1
            case measure => have := HK1.out; omega
            case rel => exact ⟨(Go.bits .or .i64 x6_1 (ji9)), (wrap64 (x7_1 + 1)), (by first | rfl | (simp; done) | (simp only [← hji9] <;> (first | rfl | simp)) | (simp [*]; done)), (by first | rfl | (simp; done) | (simp [*]; done)), H', ⟨by have := HK1.out; omega⟩, ⟨by (with_reducible repeat (first | refine blk_drewN ?_ _ | refine blk_drew ?_ | refine blk_alloc ?_ _)); exact BK312.out⟩, ⟨by repeat (first | (with_reducible first | exact HB.out | apply below_alloc | apply pw_below_drewN | apply below_drew1 | refine below_set ?_ GE312.out) | exact HB.out)⟩⟩
          · rw [if_neg c11] at H
            have c11b0 : (t314 == t313) = false := beq_eq_false_iff_ne.mpr c11
            have c11b1 : (t314 != t313) = true := bne_iff_ne.mpr c11
            have H' := Aside0.mk H
            clear H
            have hcz17_0 : wr.cell? ⟨gb312, 0, none⟩ = some (.int .i64 a0_0) := (blk_cell BK312.out 0).trans rfl
            have hcz17_1 : wr.cell? ⟨gb312, 1, none⟩ = some (.slice A0_1 l0_1.length c0_1) := (blk_cell BK312.out 1).trans rfl
            have hfz17_0 := blk_frozen BK312.out 0
            have hfz17_1 := blk_frozen BK312.out 1
            try go_wp2
            have n0_ := Aside0.mk (blk_drew BK312.out)
            have n1_ := Aside0.mk (below_drew1 HB.out)
            clear BK312
            clear HB
            have BK312 := n0_
            have HB := n1_
            clear n0_ n1_
            refine start_ (n := 8) (S := fun w' => w'.cell? ⟨gb312, 0, none⟩ = some (.int .i64 a0_0) ∧ w'.cell? ⟨gb312, 1, none⟩ = some (.slice A0_1 l0_1.length c0_1)) (ds := []) #[false, false, false, false, false, false, false, false] (by kernel_rfl) rfl rfl ⟨(blk_cell BK312.out 0).trans rfl, (blk_cell BK312.out 1).trans rfl⟩ (fun hHeld => ?_); refine with_tabW impl_closure.tab6 impl_closure.bits6 (fun HT_ HW_ => ?_)
            generalize wr.drew = w18 at BK312 HB hHeld ⊢
            refine pure_ (i := 1) (N := some 18) (v := ?_) (a' := ?_) #[false, true, false, false, false, false, false, false] rfl rfl (any_of HT_.out (by kernel_rfl)) (fun _ _ _ h => h) (Or.inl ⟨by rfl, ?_⟩) ?_ ?_
            rotate_left
            · intro w'
              go_simp
              with_reducible rfl
            rotate_left
            · simp only [Act.put, List.setIfInBounds_toArray, List.set_cons_zero, List.set_cons_succ, i64_w, i32_w]
              rfl
            refine pure_ (i := 2) (N := some 19) (v := ?_) (a' := ?_) #[false, true, true, false, false, false, false, false] rfl rfl (any_of HT_.out (by kernel_rfl)) (fun _ _ _ h => h) (Or.inl ⟨by rfl, ?_⟩) ?_ ?_
            rotate_left
            · intro w'
              go_simp
              with_reducible rfl
            rotate_left
            · simp only [Act.put, List.setIfInBounds_toArray, List.set_cons_zero, List.set_cons_succ, i64_w, i32_w]
              rfl
            refine pure_ (i := 3) (N := some 20) (v := ?_) (a' := ?_) #[false, true, true, true, false, false, false, false] rfl rfl (any_of HT_.out (by kernel_rfl)) (fun _ _ _ h => h) (Or.inl ⟨by rfl, ?_⟩) ?_ ?_
            rotate_left
            · intro w'
              go_simp
              with_reducible rfl
            rotate_left
            · simp only [Act.put, List.setIfInBounds_toArray, List.set_cons_zero, List.set_cons_succ, i64_w, i32_w]
              rfl
            refine pure_ (i := 4) (N := some 21) (v := ?_) (a' := ?_) #[false, true, true, true, true, false, false, false] rfl rfl (any_of HT_.out (by kernel_rfl)) (fun _ _ _ h => h) (Or.inl ⟨by rfl, ?_⟩) ?_ ?_
            rotate_left
            · intro w'
              go_simp
              with_reducible rfl
            rotate_left
            · simp only [Act.put, List.setIfInBounds_toArray, List.set_cons_zero, List.set_cons_succ, i64_w, i32_w]
              rfl
            refine pure_ (i := 6) (N := some 23) (v := ?_) (a' := ?_) #[false, true, true, true, true, false, true, false] rfl rfl (any_of HT_.out (by kernel_rfl)) (fun _ _ _ h => h) (Or.inl ⟨by rfl, ?_⟩) ?_ ?_
            rotate_left
            · intro w'
              go_simp
              with_reducible rfl
            rotate_left
            · simp only [Act.put, List.setIfInBounds_toArray, List.set_cons_zero, List.set_cons_succ, i64_w, i32_w]
              rfl
            refine take_ (i := 0) (N := some 17) (v := ?_) (a' := ?_) #[true, true, true, true, true, false, true, false] rfl rfl (take_ofW HT_.out HW_.out (by kernel_rfl)) (fun _ _ _ h => h) (Or.inl ⟨by rfl, ?_⟩) hHeld ?_ ?_
            rotate_left
            · rintro w' ⟨s0, s1⟩
              go_simp
              with_reducible rfl
            rotate_left
            · simp only [Act.put, List.setIfInBounds_toArray, List.set_cons_zero, List.set_cons_succ, i64_w, i32_w]
              rfl
            refine one_ (i := 5) (N := some 22) #[true, true, true, true, true, true, true, false] rfl rfl (one_of HT_.out (by kernel_rfl)) (by decide) (fun K hK => ?_)
            refine goes_ Try.func90 (by kernel_rfl) rfl #[.agg #[.int .i64 a0_0, .slice A0_1 l0_1.length c0_1], .int .i64 (Go.bits .or .i64 a1 (ji9))] (by rfl) rfl rfl (by (try simp only [List.map_toArray, List.map_cons, List.map_nil]); first | done | (simp only [hji9]; rfl) | rfl | (simp only [List.length_drop, List.length_take]; rfl)) ?_
            with_reducible refine (impl_rankIn.calls k1 a0_0 _ _ l0_1 (Go.bits .or .i64 a1 (ji9)) t314 _ ?side1 ?side2 A10.out).mono ?_
            (case side1 => repeat (first | exact (Kd.C_below HR0_1.out HB.out) | (with_reducible refine Kd.C_alloc ?_ _) | (with_reducible refine Kd.C_drewN ?_ _) | (with_reducible refine Kd.C_drew ?_)))
            (case side2 => exact HC0_1.out)
            rintro e w19 ⟨rfl, hb⟩
            refine ⟨_, rfl, ?_⟩
            have n0_ := Aside0.mk (blk_below (g := gb312) (o := .cells #[.int .i64 a0_0, .slice A0_1 l0_1.length c0_1] 27 (0, 0)) (by (with_reducible repeat (first | refine blk_drewN ?_ _ | refine blk_drew ?_ | refine blk_alloc ?_ _)); exact BK312.out) hb)
            have n1_ := Aside0.mk (below_step (by repeat (first | (with_reducible first | exact HB.out | apply below_alloc | apply pw_below_drewN | apply below_drew1 | refine below_set ?_ GE312.out) | exact HB.out)) hb)
            clear BK312
            clear HB
            have BK312 := n0_
            have HB := n1_
            clear n0_ n1_
            (try clear hb)
            (try clear hb2)
            (try clear hk)
            (try clear hi)
            refine hK.out _ _ ⟨(blk_cell BK312.out 0).trans rfl, (blk_cell BK312.out 1).trans rfl⟩ (fun hHeld => ?_)
            clear hK K
            refine norm_ (a' := ?_) ?_ ?_
            rotate_left
            · show Act.put _ (some 22) _ = _
              simp only [Act.put, List.setIfInBounds_toArray, List.set_cons_zero, List.set_cons_succ, i64_w, i32_w]
              rfl
            refine pure_ (i := 7) (N := some 24) (v := ?_) (a' := ?_) #[true, true, true, true, true, true, true, true] rfl rfl (any_of HT_.out (by kernel_rfl)) (fun _ _ _ h => h) (Or.inl ⟨by rfl, ?_⟩) ?_ ?_
            rotate_left
            · intro w'
              go_simp
              with_reducible rfl
            rotate_left
            · simp only [Act.put, List.setIfInBounds_toArray, List.set_cons_zero, List.set_cons_succ, i64_w, i32_w]
              rfl
            refine done_ (done_of HT_.out (by kernel_rfl)) ?_
            try go_wp2
            go_roundg k1
            case measure => have := HK1.out; omega
            case rel => exact ⟨(x6_1), (wrap64 (x7_1 + 1)), (by first | rfl | (simp; done) | (simp [*]; done)), (by first | rfl | (simp; done) | (simp [*]; done)), H', ⟨by have := HK1.out; omega⟩, ⟨by (with_reducible repeat (first | refine blk_drewN ?_ _ | refine blk_drew ?_ | refine blk_alloc ?_ _)); exact BK312.out⟩, ⟨by repeat (first | (with_reducible first | exact HB.out | apply below_alloc | apply pw_below_drewN | apply below_drew1 | refine below_set ?_ GE312.out) | exact HB.out)⟩⟩
        · rw [if_neg c8] at H
          exact absurd H (by simp)
      · rw [if_neg c7] at H
        have c7b0 : decide (x7_1 < a0_0) = false := decide_eq_false c7
        clear c7
        obtain rfl := Option.some.inj H
        have hcz20_0 : wr.cell? ⟨gb312, 0, none⟩ = some (.int .i64 a0_0) := (blk_cell BK312.out 0).trans rfl
        have hcz20_1 : wr.cell? ⟨gb312, 1, none⟩ = some (.slice A0_1 l0_1.length c0_1) := (blk_cell BK312.out 1).trans rfl
        have hfz20_0 := blk_frozen BK312.out 0
        have hfz20_1 := blk_frozen BK312.out 1
        go_wp2
        go_ret
        exact ⟨by first | rfl | (simp [errW_none, errW_some] <;> rfl) | (simp [*, errW_none, errW_some] <;> rfl), by repeat (first | (with_reducible first | exact HB.out | apply below_alloc | apply pw_below_drewN | apply below_drew1 | refine below_set ?_ GE312.out) | exact HB.out)⟩

end Go.Proofs.Ytaepaekagenfnaa.Pr
end

/-! ## Pr97 -/
section
/- The functions that the laws reach, as plain Lean functions, and that the calls come to what these say. By pr.py over the kit's print. -/
namespace Go.Proofs.Ytaepaekagenfnaa.Pr
open Go.RowKit Go.Proofs.YtaepaekagenfnaaW.PrintWords Go.Proofs.YtaepaekagenfnaaW.PrintLast Go.Proofs.YtaepaekagenfnaaW.PrintMore
attribute [local go_sem] max2_int min2_int max_two min_two max_three min_three max_four min_four   -- for this text's walks alone
set_option linter.unusedVariables false
set_option linter.unusedSimpArgs false

/-! ### impl_flatsIn: function 89 -/
def impl_flatsIn_1.f (k : Nat) (a0_0 : Int) (l0_1 : List Int) (s : Int) : Option Bool := (impl_closure.f k a0_0 l0_1 s).bind fun t => some (t == s)
theorem impl_flatsIn_1.mono (a0 : Int) (l0 : List Int) (s : Int) (k : Nat) : LeO (impl_flatsIn_1.f k a0 l0 s) (impl_flatsIn_1.f (k + 1) a0 l0 s) := LeO.bind (impl_closure.mono _ _ _ _) fun _ => LeO.refl _
def impl_flatsIn.f (k : Nat) (a0_0 : Int) (l0_1 : List Int) : Option (List Int) := impl_setsOf.f k a0_0 (fun s => impl_flatsIn_1.f k a0_0 l0_1 s)
theorem impl_flatsIn.mono : ∀ a0 a1 k, LeO (impl_flatsIn.f k a0 a1) (impl_flatsIn.f (k + 1) a0 a1) := fun a0 a1 k => impl_setsOf.mono (fun s => impl_flatsIn_1.mono a0 a1 s k) k a0
set_option maxHeartbeats 8000000 in
set_option maxRecDepth 100000 in
theorem impl_flatsIn_1.calls (k : Nat) (a0_0 : Int) (A0_1 : Option Addr) (c0_1 : Nat) (l0_1 : List Int) (s : Int) (b : Bool) (gb : Nat) (w : World) (hbk : w.heap[gb]? = some (.cells #[.int .i64 a0_0, (.slice A0_1 l0_1.length c0_1)] 27 (0, 0))) (hr0_1 : Kd.C (Kd.int .i64) w A0_1 l0_1.length l0_1) (hc0_1 : l0_1.length ≤ c0_1) (h : impl_flatsIn_1.f k a0_0 l0_1 s = some b) :
    Calls Try.prog 123 #[.int .i64 s, .pointer (some ⟨gb, 0, none⟩)] w fun e w' => e = .returned (.bool b) ∧ Below w.heap.size w w' := by
  have hu27 := Try.underlying27
  have HR := Aside0.mk hr0_1
  have HC := Aside0.mk hc0_1
  have hcz5_0 : w.cell? ⟨gb, 0, none⟩ = some (.int .i64 a0_0) := (blk_cell hbk 0).trans rfl
  have hcz5_1 : w.cell? ⟨gb, 1, none⟩ = some (.slice A0_1 l0_1.length c0_1) := (blk_cell hbk 1).trans rfl
  clear hr0_1 hc0_1 hbk
  unfold impl_flatsIn_1.f at h
  obtain ⟨t, h1, h⟩ := Option.bind_eq_some_iff.mp h
  have A1 := Aside0.mk h1
  clear h1
  obtain rfl := Option.some.inj h
  clear h
  go_enter Try.func123, Try.ntmps123
  go_wp2_with (first | ((with_reducible refine gate_callee (f := 74) rfl ?_); refine goesL_ (some 6) rfl rfl Try.func74 (by kernel_rfl) rfl #[.agg #[.int .i64 a0_0, .slice A0_1 l0_1.length c0_1], .int .i64 s] rfl (by (try simp only [List.map_toArray, List.map_cons, List.map_nil]); first | done | rfl) ?_; (with_reducible refine (impl_closure.calls k a0_0 _ _ l0_1 s t _ HR.out HC.out A1.out).mono ?_); rintro e w6 ⟨rfl, hb⟩; refine ⟨_, rfl, ?_⟩; have HB := Aside0.mk hb; clear hb))
  go_ret
  exact ⟨rfl, HB.out⟩
theorem impl_flatsIn_1.fun1 (k : Nat) (a0_0 : Int) (A0_1 : Option Addr) (c0_1 : Nat) (l0_1 : List Int) (gb : Nat) (w : World) (hbk : w.heap[gb]? = some (.cells #[.int .i64 a0_0, (.slice A0_1 l0_1.length c0_1)] 27 (0, 0))) (hr0_1 : Kd.C (Kd.int .i64) w A0_1 l0_1.length l0_1) (hc0_1 : l0_1.length ≤ c0_1) :
    Hof.Fun1 Try.prog w (.func (.func 123) #[] #[.pointer (some ⟨gb, 0, none⟩)]) (fun s => impl_flatsIn_1.f k a0_0 l0_1 s) :=
  ⟨⟨123, #[.pointer (some ⟨gb, 0, none⟩)], Try.f123, rfl, Try.func123, by kernel_rfl, rfl, fun s b w' hw hg => impl_flatsIn_1.calls k a0_0 A0_1 c0_1 l0_1 s b gb w' (blk_below hbk hw) (Kd.C_below hr0_1 hw) hc0_1 hg⟩⟩
set_option maxHeartbeats 8000000 in
set_option maxRecDepth 100000 in
theorem impl_flatsIn.calls (k : Nat) (a0_0 : Int) (A0_1 : Option Addr) (c0_1 : Nat) (l0_1 : List Int) (r : List Int) (w : World) (hr0_1 : Kd.C (Kd.int .i64) w A0_1 l0_1.length l0_1) (hc0_1 : l0_1.length ≤ c0_1) (h : impl_flatsIn.f k a0_0 l0_1 = some r) :
    Calls Try.prog 89 #[.agg #[.int .i64 a0_0, .slice A0_1 l0_1.length c0_1]] w fun e w' => ∃ v0_ : Value, e = .returned (v0_) ∧ Kd.R (Kd.int .i64) 3 w' w.heap.size (fun _ => True) v0_ r ∧ Below w.heap.size w w' := by
  have hu27 := Try.underlying27
  have HR := Aside0.mk hr0_1
  have HC := Aside0.mk hc0_1
  have HB := Aside0.mk (Below.refl w.heap.size w)
  have A1 := Aside0.mk (show impl_setsOf.f k a0_0 (fun s => impl_flatsIn_1.f k a0_0 l0_1 s) = some r from h)
  clear hr0_1 hc0_1 h
  go_enter Try.func89, Try.ntmps89
  go_wp2_with (first | ((with_reducible refine gate_dst (N := 1) rfl ?_); refine box_event ?hg (N := 1) ?hd (cs := #[.int .i64 a0_0, .slice A0_1 l0_1.length c0_1]) (t := 27) ?hr ?_; (case hd => rfl); (case hg => rfl); (case hr => first | (go_simp; done) | (go_simp; rfl)); intro gb275 hg w4 hbox hb; have n0_ := Aside0.mk (below_step HB.out hb); clear HB; have HB := n0_; have BK275 := Aside0.mk hbox; clear n0_ hb hbox hg; have hcz5_0 : w4.cell? ⟨gb275, 0, none⟩ = some (.int .i64 a0_0) := (blk_cell BK275.out 0).trans rfl; have hcz5_1 : w4.cell? ⟨gb275, 1, none⟩ = some (.slice A0_1 l0_1.length c0_1) := (blk_cell BK275.out 1).trans rfl) | ((with_reducible refine gate_callee (f := 122) rfl ?_); refine goesL_ (some 6) rfl rfl Try.func122 (by kernel_rfl) rfl #[.int .i64 a0_0, .func (.func 123) #[] #[.pointer (some ⟨gb275, 0, none⟩)]] rfl (by (try simp only [List.map_toArray, List.map_cons, List.map_nil]); first | done | rfl) ?_; (with_reducible refine (impl_setsOf.calls k a0_0 _ (fun s => impl_flatsIn_1.f k a0_0 l0_1 s) r _ (impl_flatsIn_1.fun1 k a0_0 A0_1 c0_1 l0_1 gb275 _ BK275.out (Kd.C_below HR.out HB.out) HC.out) A1.out).mono ?_); rintro e w6 ⟨v1, rfl, ho, hb⟩; refine ⟨_, rfl, ?_⟩; have HO := Aside0.mk (Kd.R_lower ho (below_size HB.out)); have n0_ := Aside0.mk (below_step HB.out hb); clear HB; have HB := n0_; clear n0_ hb ho hcz5_0 hcz5_1))
  go_ret
  exact ⟨_, rfl, HO.out, HB.out⟩

end Go.Proofs.Ytaepaekagenfnaa.Pr
end

/-! ## Pr98 -/
section
/- The functions that the laws reach, as plain Lean functions, and that the calls come to what these say. By pr.py over the kit's print. -/
namespace Go.Proofs.Ytaepaekagenfnaa.Pr
open Go.RowKit Go.Proofs.YtaepaekagenfnaaW.PrintWords Go.Proofs.YtaepaekagenfnaaW.PrintLast Go.Proofs.YtaepaekagenfnaaW.PrintMore
attribute [local go_sem] max2_int min2_int max_two min_two max_three min_three max_four min_four   -- for this text's walks alone
set_option linter.unusedVariables false
set_option linter.unusedSimpArgs false

/-! ### impl_WhitneyNumbers: function 36 -/
def impl_WhitneyNumbers.l0 : Nat → List Int → List Int → Int → Int → Int → List Int → Option (List Int)
  | 0, _, _, _, _, _, _ => none
  | k + 1, x4, x15, x16, x17, x506000, x506001 => if x17 < x16 then (if 0 ≤ x17 then (if x17 < (x15.length : Int) then ((impl_rankIn.f k x506000 x506001 (rd x15 x17)).bind fun t514 => (if 0 ≤ t514 then (if t514 < (x4.length : Int) then (impl_WhitneyNumbers.l0 k (x4.set (t514 : Int).toNat (wrap64 ((rd x4 t514) + 1))) x15 x16 (wrap64 (x17 + 1)) x506000 x506001) else (none)) else (none))) else (none)) else (none)) else (some x4)
def impl_WhitneyNumbers.f (k : Nat) (a0_0 : Int) (l0_1 : List Int) : Option (List Int) := (impl_RankOfMatroid.f k a0_0 l0_1).bind fun t506 => (if t506 < 0 then (some ([] : List Int)) else (if 0 ≤ (wrap64 (t506 + 1)) then (if (wrap64 (t506 + 1) : Int).toNat ≤ 35184372088832 then ((impl_flatsIn.f k a0_0 l0_1).bind fun t510 => (impl_WhitneyNumbers.l0 k (List.replicate (wrap64 (t506 + 1) : Int).toNat 0) t510 (t510.length : Int) 0 a0_0 l0_1)) else (none)) else (none)))
theorem impl_WhitneyNumbers.mono_l : ∀ k, (∀ y0 y1 y2 y3 y4 y5, LeO (impl_WhitneyNumbers.l0 k y0 y1 y2 y3 y4 y5) (impl_WhitneyNumbers.l0 (k + 1) y0 y1 y2 y3 y4 y5))
  | 0 => fun _ _ _ _ _ _ r h => by simp [impl_WhitneyNumbers.l0] at h
  | k + 1 => by
    have ih0 := impl_WhitneyNumbers.mono_l k
    · intro y0 y1 y2 y3 y4 y5
      unfold impl_WhitneyNumbers.l0
      repeat' first
      | (with_reducible exact ih0 _ _ _ _ _ _)
      | (with_reducible exact impl_RankOfMatroid.mono _ _ _)
      | (with_reducible exact impl_flatsIn.mono _ _ _)
      | (with_reducible exact impl_rankIn.mono _ _ _ _)
      | (with_reducible exact LeO.refl _)
      | (with_reducible exact LeO.none _)
      | (with_reducible refine LeO.ite ?_ ?_)
      | (with_reducible refine LeO.bind ?_ (fun _ => ?_))
      | exact ih0 _ _ _ _ _ _
      | exact impl_RankOfMatroid.mono _ _ _
      | exact impl_flatsIn.mono _ _ _
      | exact impl_rankIn.mono _ _ _ _
      | exact LeO.none _
      | refine LeO.ite ?_ ?_
      | refine LeO.bind ?_ (fun _ => ?_)
theorem impl_WhitneyNumbers.mono : ∀ a0 a1 k, LeO (impl_WhitneyNumbers.f k a0 a1) (impl_WhitneyNumbers.f (k + 1) a0 a1) := by
  intro a0 a1 k
  have ih0 := impl_WhitneyNumbers.mono_l k
  unfold impl_WhitneyNumbers.f
  repeat' first
      | (with_reducible exact ih0 _ _ _ _ _ _)
      | (with_reducible exact impl_RankOfMatroid.mono _ _ _)
      | (with_reducible exact impl_flatsIn.mono _ _ _)
      | (with_reducible exact impl_rankIn.mono _ _ _ _)
      | (with_reducible exact LeO.refl _)
      | (with_reducible exact LeO.none _)
      | (with_reducible refine LeO.ite ?_ ?_)
      | (with_reducible refine LeO.bind ?_ (fun _ => ?_))
      | exact ih0 _ _ _ _ _ _
      | exact impl_RankOfMatroid.mono _ _ _
      | exact impl_flatsIn.mono _ _ _
      | exact impl_rankIn.mono _ _ _ _
      | exact LeO.none _
      | refine LeO.ite ?_ ?_
      | refine LeO.bind ?_ (fun _ => ?_)
set_option maxHeartbeats 8000000 in
set_option maxRecDepth 100000 in
theorem impl_WhitneyNumbers.calls (k : Nat) (a0_0 : Int) (A0_1 : Option Addr) (c0_1 : Nat) (l0_1 : List Int) (r : List Int) (w : World) (hr0_1 : Kd.C (Kd.int .i64) w A0_1 l0_1.length l0_1) (hc0_1 : l0_1.length ≤ c0_1) (h : impl_WhitneyNumbers.f k a0_0 l0_1 = some r) :
    Calls Try.prog 36 #[.agg #[.int .i64 a0_0, .slice A0_1 l0_1.length c0_1]] w fun e w' => ∃ v0_ : Value, e = .returned (v0_) ∧ Kd.R (Kd.int .i64) 3 w' w.heap.size (fun _ => True) v0_ r ∧ Below w.heap.size w w' := by
  have hu27 := Try.underlying27
  have HR0_1 := Aside0.mk hr0_1
  have HC0_1 := Aside0.mk hc0_1
  clear hr0_1 hc0_1
  have HB := Aside0.mk (Below.refl w.heap.size w)
  have H : ((impl_RankOfMatroid.f k a0_0 l0_1).bind fun t506 => (if t506 < 0 then (some ([] : List Int)) else (if 0 ≤ (wrap64 (t506 + 1)) then (if (wrap64 (t506 + 1) : Int).toNat ≤ 35184372088832 then ((impl_flatsIn.f k a0_0 l0_1).bind fun t510 => (impl_WhitneyNumbers.l0 k (List.replicate (wrap64 (t506 + 1) : Int).toNat 0) t510 (t510.length : Int) 0 a0_0 l0_1)) else (none)) else (none)))) = some r := h
  clear h
  replace H := Option.bind_eq_some_iff.mp H
  obtain ⟨t506, A20, H⟩ := H
  replace H : (if t506 < 0 then (some ([] : List Int)) else (if 0 ≤ (wrap64 (t506 + 1)) then (if (wrap64 (t506 + 1) : Int).toNat ≤ 35184372088832 then ((impl_flatsIn.f k a0_0 l0_1).bind fun t510 => (impl_WhitneyNumbers.l0 k (List.replicate (wrap64 (t506 + 1) : Int).toNat 0) t510 (t510.length : Int) 0 a0_0 l0_1)) else (none)) else (none))) = some r := H
  have A2 := Aside0.mk A20
  clear A20
  by_cases c3 : t506 < 0
  · rw [if_pos c3] at H
    have c3b0 : decide (t506 < 0) = true := decide_eq_true c3
    clear c3
    obtain rfl := Option.some.inj H
    go_enter Try.func36, Try.ntmps36
    go_wp2_with (first | ((with_reducible refine gate_dst (N := 1) rfl ?_); refine box_event ?hg (N := 1) ?hd (cs := #[.int .i64 a0_0, .slice A0_1 l0_1.length c0_1]) (t := 27) ?hr ?_; (case hd => rfl); (case hg => rfl); (case hr => first | (go_simp; done) | (go_simp; rfl)); intro gb505 hg w4 hbox hb; have n0_ := Aside0.mk (below_step (by repeat (first | (with_reducible first | exact HB.out | apply below_alloc | apply pw_below_drewN | apply below_drew1) | exact HB.out)) hb); have n1_ := Aside0.mk (hbox); have n2_ := Aside0.mk ((by rw [hg]; exact (below_size (by repeat (first | (with_reducible first | exact HB.out | apply below_alloc | apply pw_below_drewN | apply below_drew1) | exact HB.out))) : w.heap.size ≤ gb505)); have n3_ := Aside0.mk ((by rw [hg]; exact (below_size (by repeat (first | (with_reducible first | exact HB.out | apply below_alloc | apply pw_below_drewN | apply below_drew1) | exact HB.out))) : w.heap.size ≤ gb505)); clear HB; have HB := n0_; have BK505 := n1_; have GW505 := n2_; have GE505 := n3_; clear n0_ n1_ n2_ n3_; clear hb hbox hg; have hcz5_0 : w4.cell? ⟨gb505, 0, none⟩ = some (.int .i64 a0_0) := (blk_cell BK505.out 0).trans rfl; have hcz5_1 : w4.cell? ⟨gb505, 1, none⟩ = some (.slice A0_1 l0_1.length c0_1) := (blk_cell BK505.out 1).trans rfl; have hfz5_0 := blk_frozen BK505.out 0; have hfz5_1 := blk_frozen BK505.out 1) | ((with_reducible refine gate_callee (f := 88) rfl ?_); refine goesL_ (some 8) rfl rfl Try.func88 (by kernel_rfl) rfl #[.agg #[.int .i64 a0_0, .slice A0_1 l0_1.length c0_1]] rfl (by (try simp only [List.map_toArray, List.map_cons, List.map_nil]); first | done | rfl | (simp only [List.length_drop, List.length_take]; rfl)) ?_; (with_reducible refine (impl_RankOfMatroid.calls k a0_0 _ _ l0_1 t506 _ ?side1 ?side2 A2.out).mono ?_); (case side1 => repeat (first | exact (Kd.C_below HR0_1.out HB.out) | (with_reducible refine Kd.C_alloc ?_ _) | (with_reducible refine Kd.C_drewN ?_ _) | (with_reducible refine Kd.C_drew ?_))); (case side2 => exact HC0_1.out); rintro e w6 ⟨rfl, hb⟩; refine ⟨_, rfl, ?_⟩; have n0_ := Aside0.mk (blk_below (g := gb505) (o := .cells #[.int .i64 a0_0, .slice A0_1 l0_1.length c0_1] 27 (0, 0)) (by (with_reducible repeat (first | refine blk_drewN ?_ _ | refine blk_drew ?_ | refine blk_alloc ?_ _)); exact BK505.out) hb); have n1_ := Aside0.mk (below_step (by repeat (first | (with_reducible first | exact HB.out | apply below_alloc | apply pw_below_drewN | apply below_drew1 | refine below_set ?_ GE505.out) | exact HB.out)) hb); clear BK505; clear HB; have BK505 := n0_; have HB := n1_; clear n0_ n1_; (try clear hb); (try clear hb2); (try clear hk); (try clear hi)))
    go_ret
    exact ⟨_, by first | rfl | (simp [errW_none, errW_some] <;> rfl) | (simp [*, errW_none, errW_some] <;> rfl), by first | exact Kd.R_nil _ _ _ _ _ | exact Kd.N_nil _ _ _ _ _ | exact Kd.V_nil _ _ _ _ _ | exact Kd.Q_nil _ _ _ _ _ | exact Kd.S_nil _ _ _ _ _, by repeat (first | (with_reducible first | exact HB.out | apply below_alloc | apply pw_below_drewN | apply below_drew1 | refine below_set ?_ GE505.out) | exact HB.out)⟩
  · rw [if_neg c3] at H
    have c3b0 : decide (t506 < 0) = false := decide_eq_false c3
    clear c3
    obtain ⟨ji7, hji7⟩ : ∃ j_ : Int, (wrap64 (t506 + 1)) = j_ := ⟨_, rfl⟩
    replace H : (if 0 ≤ (ji7) then (if (ji7 : Int).toNat ≤ 35184372088832 then ((impl_flatsIn.f k a0_0 l0_1).bind fun t510 => (impl_WhitneyNumbers.l0 k (List.replicate (ji7 : Int).toNat 0) t510 (t510.length : Int) 0 a0_0 l0_1)) else (none)) else (none)) = some r := by first | (rw [hji7] at H; exact H) | (simp only [hji7] at H ⊢; exact H)
    (try rw [hji7] at A2)
    have hji7w : (IntKind.i64.wrap (t506 + 1)) = ji7 := (i64_w _).trans hji7
    by_cases c8 : 0 ≤ (ji7)
    · rw [if_pos c8] at H
      have c8b0 := eq_true c8
      have c8b1 : decide (0 ≤ (ji7)) = true := decide_eq_true c8
      clear c8
      by_cases c9 : (ji7 : Int).toNat ≤ 35184372088832
      · rw [if_pos c9] at H
        have c9b0 := eq_true c9
        have c9b1 : decide ((ji7 : Int).toNat ≤ 35184372088832) = true := decide_eq_true c9
        clear c9
        obtain ⟨y507, hy507⟩ : ∃ y_ : List Int, y_ = (List.replicate (ji7 : Int).toNat 0) := ⟨_, rfl⟩
        replace H : ((impl_flatsIn.f k a0_0 l0_1).bind fun t510 => (impl_WhitneyNumbers.l0 k y507 t510 (t510.length : Int) 0 a0_0 l0_1)) = some r := by first | (rw [hy507]; with_reducible exact H) | (have H2_ := (Option.bind_some _ _).symm.trans H; rw [hy507]; with_reducible exact H2_) | (have H2_ := (Option.bind_some _ _).symm.trans H; with_reducible exact H2_) | with_reducible exact H | (rw [hy507]; exact H) | exact H
        have Ny507 := Aside0.mk hy507
        clear hy507
        replace H := Option.bind_eq_some_iff.mp H
        obtain ⟨t510, A100, H⟩ := H
        replace H : (impl_WhitneyNumbers.l0 k y507 t510 (t510.length : Int) 0 a0_0 l0_1) = some r := H
        have A10 := Aside0.mk A100
        clear A100
        have H' := Aside0.mk H
        clear H
        go_enter Try.func36, Try.ntmps36
        go_wp2_with (first | ((with_reducible refine gate_dst (N := 1) rfl ?_); refine box_event ?hg (N := 1) ?hd (cs := #[.int .i64 a0_0, .slice A0_1 l0_1.length c0_1]) (t := 27) ?hr ?_; (case hd => rfl); (case hg => rfl); (case hr => first | (go_simp; done) | (go_simp; rfl)); intro gb505 hg w11 hbox hb; have n0_ := Aside0.mk (below_step (by repeat (first | (with_reducible first | exact HB.out | apply below_alloc | apply pw_below_drewN | apply below_drew1) | exact HB.out)) hb); have n1_ := Aside0.mk (hbox); have n2_ := Aside0.mk ((by rw [hg]; exact (below_size (by repeat (first | (with_reducible first | exact HB.out | apply below_alloc | apply pw_below_drewN | apply below_drew1) | exact HB.out))) : w.heap.size ≤ gb505)); have n3_ := Aside0.mk ((by rw [hg]; exact (below_size (by repeat (first | (with_reducible first | exact HB.out | apply below_alloc | apply pw_below_drewN | apply below_drew1) | exact HB.out))) : w.heap.size ≤ gb505)); clear HB; have HB := n0_; have BK505 := n1_; have GW505 := n2_; have GE505 := n3_; clear n0_ n1_ n2_ n3_; clear hb hbox hg; have hcz12_0 : w11.cell? ⟨gb505, 0, none⟩ = some (.int .i64 a0_0) := (blk_cell BK505.out 0).trans rfl; have hcz12_1 : w11.cell? ⟨gb505, 1, none⟩ = some (.slice A0_1 l0_1.length c0_1) := (blk_cell BK505.out 1).trans rfl; have hfz12_0 := blk_frozen BK505.out 0; have hfz12_1 := blk_frozen BK505.out 1) | ((with_reducible refine gate_callee (f := 88) rfl ?_); refine goesL_ (some 8) rfl rfl Try.func88 (by kernel_rfl) rfl #[.agg #[.int .i64 a0_0, .slice A0_1 l0_1.length c0_1]] rfl (by (try simp only [List.map_toArray, List.map_cons, List.map_nil]); first | done | rfl | (simp only [List.length_drop, List.length_take]; rfl)) ?_; (with_reducible refine (impl_RankOfMatroid.calls k a0_0 _ _ l0_1 t506 _ ?side1 ?side2 A2.out).mono ?_); (case side1 => repeat (first | exact (Kd.C_below HR0_1.out HB.out) | (with_reducible refine Kd.C_alloc ?_ _) | (with_reducible refine Kd.C_drewN ?_ _) | (with_reducible refine Kd.C_drew ?_))); (case side2 => exact HC0_1.out); rintro e w13 ⟨rfl, hb⟩; refine ⟨_, rfl, ?_⟩; have n0_ := Aside0.mk (blk_below (g := gb505) (o := .cells #[.int .i64 a0_0, .slice A0_1 l0_1.length c0_1] 27 (0, 0)) (by (with_reducible repeat (first | refine blk_drewN ?_ _ | refine blk_drew ?_ | refine blk_alloc ?_ _)); exact BK505.out) hb); have n1_ := Aside0.mk (below_step (by repeat (first | (with_reducible first | exact HB.out | apply below_alloc | apply pw_below_drewN | apply below_drew1 | refine below_set ?_ GE505.out) | exact HB.out)) hb); clear BK505; clear HB; have BK505 := n0_; have HB := n1_; clear n0_ n1_; (try clear hb); (try clear hb2); (try clear hk); (try clear hi)) | ((with_reducible refine gate_dst (N := 13) rfl ?_); refine Kd.R_make (Kd.int .i64) _ 3 rfl (N := 13) rfl 22 _ _ rfl ji7 rfl rfl Try.underlying22 (.int .i64 0) 8 info3 rfl (by decide) (by omega) 0 (ok := fun _ => True) (okp := fun _ => True) rfl (fun _ hk => hk) trivial (of_decide_eq_true (by first | (with_reducible assumption) | assumption)) (Nat.le_trans (Nat.mul_le_mul_right _ (of_decide_eq_true (by first | (with_reducible assumption) | assumption) : ji7.toNat ≤ 35184372088832)) (by omega)) (Below.refl _ _) (Nat.le_refl _) ?_; intro v508 w14 ho15 hb hg_ hnew_; clear hg_ hnew_; (first | rw [← Ny507.out] at ho15 | (simp only [Int.reduceToNat] at ho15; rw [← Ny507.out] at ho15)); have n0_ := Aside0.mk (Kd.R_lower ho15 (below_size (by repeat (first | (with_reducible first | exact HB.out | apply below_alloc | apply pw_below_drewN | apply below_drew1 | refine below_set ?_ GE505.out) | exact HB.out)))); have n1_ := Aside0.mk (blk_below (g := gb505) (o := .cells #[.int .i64 a0_0, .slice A0_1 l0_1.length c0_1] 27 (0, 0)) (by (with_reducible repeat (first | refine blk_drewN ?_ _ | refine blk_drew ?_ | refine blk_alloc ?_ _)); exact BK505.out) hb); have n2_ := Aside0.mk (below_step (by repeat (first | (with_reducible first | exact HB.out | apply below_alloc | apply pw_below_drewN | apply below_drew1 | refine below_set ?_ GE505.out) | exact HB.out)) hb); clear BK505; clear HB; have HO509 := n0_; have BK505 := n1_; have HB := n2_; clear n0_ n1_ n2_; clear hb ho15; have hcz16_0 : w14.cell? ⟨gb505, 0, none⟩ = some (.int .i64 a0_0) := (blk_cell BK505.out 0).trans rfl; have hcz16_1 : w14.cell? ⟨gb505, 1, none⟩ = some (.slice A0_1 l0_1.length c0_1) := (blk_cell BK505.out 1).trans rfl; have hfz16_0 := blk_frozen BK505.out 0; have hfz16_1 := blk_frozen BK505.out 1) | ((with_reducible refine gate_callee (f := 89) rfl ?_); refine goesL_ (some 15) rfl rfl Try.func89 (by kernel_rfl) rfl #[.agg #[.int .i64 a0_0, .slice A0_1 l0_1.length c0_1]] rfl (by (try simp only [List.map_toArray, List.map_cons, List.map_nil]); first | done | rfl | (simp only [List.length_drop, List.length_take]; rfl)) ?_; (with_reducible refine (impl_flatsIn.calls k a0_0 _ _ l0_1 t510 _ ?side1 ?side2 A10.out).mono ?_); (case side1 => repeat (first | exact (Kd.C_below HR0_1.out HB.out) | (with_reducible refine Kd.C_alloc ?_ _) | (with_reducible refine Kd.C_drewN ?_ _) | (with_reducible refine Kd.C_drew ?_))); (case side2 => exact HC0_1.out); rintro e w17 ⟨v511, rfl, ho0, hb⟩; refine ⟨_, rfl, ?_⟩; have n0_ := Aside0.mk (Kd.R_elder' (by (with_reducible repeat (first | apply Kd.R_alloc | apply Kd.R_drewN | apply Kd.R_drew)); exact HO509.out) (Kd.R_base ho0) hb); have n1_ := Aside0.mk (Kd.R_lower (Kd.R_new' ho0 (Kd.R_lt (by (with_reducible repeat (first | apply Kd.R_alloc | apply Kd.R_drewN | apply Kd.R_drew)); exact HO509.out))) (below_size (by repeat (first | (with_reducible first | exact HB.out | apply below_alloc | apply pw_below_drewN | apply below_drew1 | refine below_set ?_ GE505.out) | exact HB.out)))); have n2_ := Aside0.mk (blk_below (g := gb505) (o := .cells #[.int .i64 a0_0, .slice A0_1 l0_1.length c0_1] 27 (0, 0)) (by (with_reducible repeat (first | refine blk_drewN ?_ _ | refine blk_drew ?_ | refine blk_alloc ?_ _)); exact BK505.out) hb); have n3_ := Aside0.mk (below_step (by repeat (first | (with_reducible first | exact HB.out | apply below_alloc | apply pw_below_drewN | apply below_drew1 | refine below_set ?_ GE505.out) | exact HB.out)) hb); clear HO509; clear BK505; clear HB; have HO509 := n0_; have HO512 := n1_; have BK505 := n2_; have HB := n3_; clear n0_ n1_ n2_ n3_; (try clear hb); (try clear hb2); (try clear hk); (try clear hi); (try clear ho0); obtain ⟨Ao18, co18, eo18⟩ := Kd.R_slice HO512.out; subst eo18))
        go_loopg [17] k (fun kq v17 w' => ∃ (x4_1 : List Int) (x17_1 : Int), v17 = .int .i64 x17_1 ∧ Aside0 (impl_WhitneyNumbers.l0 kq x4_1 t510 (t510.length : Int) x17_1 a0_0 l0_1 = some r) ∧ Aside0 (kq ≤ k) ∧ Aside0 (Kd.R (Kd.int .i64) 3 w' w.heap.size (fun k_ => some k_ ≠ ((.slice Ao18 t510.length co18) : Value).ownBlock) v508 x4_1) ∧ Aside0 (Kd.R (Kd.int .i64) 3 w' w.heap.size (fun k_ => some k_ ≠ (v508 : Value).ownBlock) (.slice Ao18 t510.length co18) t510) ∧ Aside0 (w'.heap[gb505]? = some (.cells #[.int .i64 a0_0, (.slice A0_1 l0_1.length c0_1)] 27 (0, 0))) ∧ Aside0 (Below w.heap.size w w'))
        case atStart => exact ⟨(y507), (0), (by first | rfl | (simp; done) | (simp [*]; done)), H', ⟨Nat.le_refl _⟩, ⟨by (with_reducible repeat (first | apply Kd.R_alloc | apply Kd.R_drewN | apply Kd.R_drew)); exact Kd.R_mono HO509.out (fun _ hk => hk.2)⟩, ⟨by (with_reducible repeat (first | apply Kd.R_alloc | apply Kd.R_drewN | apply Kd.R_drew)); exact Kd.R_mono HO512.out (fun _ hk => hk.2)⟩, ⟨by (with_reducible repeat (first | refine blk_drewN ?_ _ | refine blk_drew ?_ | refine blk_alloc ?_ _)); exact BK505.out⟩, ⟨by repeat (first | (with_reducible first | exact HB.out | apply below_alloc | apply pw_below_drewN | apply below_drew1 | refine below_set ?_ GE505.out) | exact HB.out)⟩⟩
        case round =>
          clear H'
          try clear p2
          try clear c3
          try clear c3b0
          try clear p6
          try clear c8
          try clear c8b0
          try clear c8b1
          try clear c9
          try clear c9b0
          try clear c9b1
          try clear hcz12_0
          try clear hcz12_1
          try clear hcz16_0
          try clear hcz16_1
          try clear hcz5_0
          try clear hcz5_1
          try clear hfz12_0
          try clear hfz12_1
          try clear hfz16_0
          try clear hfz16_1
          try clear hfz5_0
          try clear hfz5_1
          obtain ⟨x4_1, x17_1, rfl, HA, HK1, HO_4, HO_15, BK505, HB⟩ := hrel
          cases gk with
          | zero => exact absurd HA.out (by simp [impl_WhitneyNumbers.l0])
          | succ k1 =>
            have H := HA.out
            clear HA
            simp only [impl_WhitneyNumbers.l0] at H
            by_cases c19 : x17_1 < (t510.length : Int)
            · rw [if_pos c19] at H
              have c19b0 : decide (x17_1 < (t510.length : Int)) = true := decide_eq_true c19
              clear c19
              by_cases c20 : 0 ≤ x17_1
              · rw [if_pos c20] at H
                have c20b0 : decide (0 ≤ x17_1) = true := decide_eq_true c20
                clear c20
                by_cases c21 : x17_1 < (t510.length : Int)
                · rw [if_pos c21] at H
                  have c21b0 : decide (x17_1 < (t510.length : Int)) = true := decide_eq_true c21
                  clear c21
                  replace H := Option.bind_eq_some_iff.mp H
                  obtain ⟨t514, A220, H⟩ := H
                  replace H : (if 0 ≤ t514 then (if t514 < (x4_1.length : Int) then (impl_WhitneyNumbers.l0 k1 (x4_1.set (t514 : Int).toNat (wrap64 ((rd x4_1 t514) + 1))) t510 (t510.length : Int) (wrap64 (x17_1 + 1)) a0_0 l0_1) else (none)) else (none)) = some r := H
                  have A22 := Aside0.mk A220
                  clear A220
                  by_cases c23 : 0 ≤ t514
                  · rw [if_pos c23] at H
                    have c23b0 : decide (0 ≤ t514) = true := decide_eq_true c23
                    clear c23
                    by_cases c24 : t514 < (x4_1.length : Int)
                    · rw [if_pos c24] at H
                      have c24b0 : decide (t514 < (x4_1.length : Int)) = true := decide_eq_true c24
                      clear c24
                      obtain ⟨y516, hy516⟩ : ∃ y_ : List Int, y_ = (x4_1.set (t514 : Int).toNat (wrap64 ((rd x4_1 t514) + 1))) := ⟨_, rfl⟩
                      replace H : (impl_WhitneyNumbers.l0 k1 y516 t510 (t510.length : Int) (wrap64 (x17_1 + 1)) a0_0 l0_1) = some r := by first | (rw [hy516]; with_reducible exact H) | (have H2_ := (Option.bind_some _ _).symm.trans H; rw [hy516]; with_reducible exact H2_) | (have H2_ := (Option.bind_some _ _).symm.trans H; with_reducible exact H2_) | with_reducible exact H | (rw [hy516]; exact H) | exact H
                      have Ny516 := Aside0.mk hy516
                      clear hy516
                      have H' := Aside0.mk H
                      clear H
                      have p513 : 0 ≤ (x17_1 : Int) := of_decide_eq_true (by first | (with_reducible assumption) | assumption)
                      have q513 : x17_1 < (t510.length : Int) := of_decide_eq_true (by first | (with_reducible assumption) | assumption)
                      obtain ⟨ad513, e513, hx513_0⟩ := Kd.at_int (Kd.R_reads' HO_15.out).2.2 x17_1 p513 q513
                      cases e513
                      replace p513 := eq_true p513
                      replace q513 := eq_true q513
                      have hcz26_0 : wr.cell? ⟨gb505, 0, none⟩ = some (.int .i64 a0_0) := (blk_cell BK505.out 0).trans rfl
                      have hcz26_1 : wr.cell? ⟨gb505, 1, none⟩ = some (.slice A0_1 l0_1.length c0_1) := (blk_cell BK505.out 1).trans rfl
                      have hfz26_0 := blk_frozen BK505.out 0
                      have hfz26_1 := blk_frozen BK505.out 1
                      go_wp2_with (first | ((with_reducible refine gate_callee (f := 90) rfl ?_); refine goesL_ (some 24) rfl rfl Try.func90 (by kernel_rfl) rfl #[.agg #[.int .i64 a0_0, .slice A0_1 l0_1.length c0_1], .int .i64 (rd t510 x17_1)] rfl (by (try simp only [List.map_toArray, List.map_cons, List.map_nil]); first | done | rfl | (simp only [List.length_drop, List.length_take]; rfl)) ?_; (with_reducible refine (impl_rankIn.calls k1 a0_0 _ _ l0_1 (rd t510 x17_1) t514 _ ?side1 ?side2 A22.out).mono ?_); (case side1 => repeat (first | exact (Kd.C_below HR0_1.out HB.out) | (with_reducible refine Kd.C_alloc ?_ _) | (with_reducible refine Kd.C_drewN ?_ _) | (with_reducible refine Kd.C_drew ?_))); (case side2 => exact HC0_1.out); rintro e w27 ⟨rfl, hb⟩; refine ⟨_, rfl, ?_⟩; have n0_ := Aside0.mk (Kd.R_below (by (with_reducible repeat (first | apply Kd.R_alloc | apply Kd.R_drewN | apply Kd.R_drew)); exact HO_4.out) hb); have n1_ := Aside0.mk (Kd.R_below (by (with_reducible repeat (first | apply Kd.R_alloc | apply Kd.R_drewN | apply Kd.R_drew)); exact HO_15.out) hb); have n2_ := Aside0.mk (blk_below (g := gb505) (o := .cells #[.int .i64 a0_0, .slice A0_1 l0_1.length c0_1] 27 (0, 0)) (by (with_reducible repeat (first | refine blk_drewN ?_ _ | refine blk_drew ?_ | refine blk_alloc ?_ _)); exact BK505.out) hb); have n3_ := Aside0.mk (below_step (by repeat (first | (with_reducible first | exact HB.out | apply below_alloc | apply pw_below_drewN | apply below_drew1 | refine below_set ?_ GE505.out) | exact HB.out)) hb); clear HO_4; clear HO_15; clear BK505; clear HB; have HO_4 := n0_; have HO_15 := n1_; have BK505 := n2_; have HB := n3_; clear n0_ n1_ n2_ n3_; (try clear hb); (try clear hb2); (try clear hk); (try clear hi); obtain ⟨Ao28, co28, eo28⟩ := Kd.R_slice HO_4.out; subst eo28; have p515 : 0 ≤ (t514 : Int) := of_decide_eq_true (by first | (with_reducible assumption) | assumption); have q515 : t514 < (x4_1.length : Int) := of_decide_eq_true (by first | (with_reducible assumption) | assumption); obtain ⟨ad515, e515, hx515_0⟩ := Kd.at_int (Kd.R_reads' HO_4.out).2.2 t514 p515 q515; cases e515; replace p515 := eq_true p515; replace q515 := eq_true q515; have p25 : 0 ≤ (t514 : Int) := of_decide_eq_true (by first | (with_reducible assumption) | assumption); have q25 : (t514 : Int) < ((x4_1.length : Int) : Int) := of_decide_eq_true (by first | (with_reducible assumption) | assumption); obtain ⟨go25, co25, eo25, gb25, gl25, cl25, HG25⟩ := Kd.R_form HO_4.out (by omega); (first | cases eo25 | (injection eo25 with ea_ en_ ec_; (first | subst ea_ | (injection ea_ with ea_; subst ea_)); subst ec_; clear en_)); have GB25 := Aside0.mk gb25; have GG25 := Aside0.mk HG25; clear gb25 gl25 HG25; (first | simp only [add_plain] at hx515_0 | skip); obtain ⟨hx25_0, hf25_0⟩ := Kd.R_celln 0 HO_4.out (t514 : Int) p25 q25; replace p25 := eq_true p25; replace q25 := eq_true q25; obtain ⟨hy29_, hz29_⟩ := Kd.R_celln 0 HO_4.out (t514 : Int) (of_decide_eq_true (by first | (with_reducible assumption) | assumption)) (of_decide_eq_true (by first | (with_reducible assumption) | assumption)); have HP29 := Kd.R_putg HO_4.out (t514 : Int) (wrap64 ((rd x4_1 t514) + 1))) | ((with_reducible refine gate_store (t := 3) (p := 28) rfl ?_); refine store_event (t := 3) (p := 28) (v := ?vo_w30) (w1 := (w27.setCell ⟨go25, (t514 : Int).toNat, none⟩ (.int .i64 (wrap64 ((rd x4_1 t514) + 1))))) ?hg ?ho ?hn ?hr ?_; (case ho => rfl); (case hg => rfl); (case hn => rfl); (case hr => first | (go_simp; done) | (go_simp; rfl)); intro w30 hw; have hg : w27.grownBy w30 (some go25) := (by rw [hw]; exact HP29.2); have hp_ : Kd.R (Kd.int .i64) 3 w30 w.heap.size (fun k_ => some k_ ≠ (.slice (some ad513) t510.length co18 : Value).ownBlock) (.slice (some ⟨go25, 0, none⟩) x4_1.length co28) y516 := (by rw [hw, Ny516.out]; exact HP29.1); clear HP29; have n0_ := Aside0.mk (hp_); have n1_ := Aside0.mk (Kd.R_after (v := (.slice (some ⟨go25, 0, none⟩) x4_1.length co28)) (v1 := (.slice (some ⟨go25, 0, none⟩) x4_1.length co28)) (ok := (fun _ => True)) (by (with_reducible repeat (first | apply Kd.R_alloc | apply Kd.R_drewN | apply Kd.R_drew)); exact Kd.R_mono HO_15.out (fun _ hk => ⟨trivial, hk⟩)) hg (.inl rfl)); have n2_ := Aside0.mk (blk_grown (g := gb505) (o := .cells #[.int .i64 a0_0, .slice A0_1 l0_1.length c0_1] 27 (0, 0)) (by (with_reducible repeat (first | refine blk_drewN ?_ _ | refine blk_drew ?_ | refine blk_alloc ?_ _)); exact BK505.out) hg (Kd.R_ne HO_4.out BK505.out (by decide))); have n3_ := Aside0.mk ((by rw [hw]; exact below_set (HB.out) GB25.out : Below w.heap.size w w30)); clear HO_4; clear HO_15; clear BK505; clear HB; have HO_4 := n0_; have HO_15 := n1_; have BK505 := n2_; have HB := n3_; clear n0_ n1_ n2_ n3_; clear hg hw hp_))
                      go_roundg k1
                      case measure => have := HK1.out; omega
                      case rel => exact ⟨(y516), (wrap64 (x17_1 + 1)), (by first | rfl | (simp; done) | (simp [*]; done)), H', ⟨by have := HK1.out; omega⟩, ⟨by (with_reducible repeat (first | apply Kd.R_alloc | apply Kd.R_drewN | apply Kd.R_drew)); exact HO_4.out⟩, ⟨by (with_reducible repeat (first | apply Kd.R_alloc | apply Kd.R_drewN | apply Kd.R_drew)); exact Kd.R_mono HO_15.out (fun _ hk => hk.2)⟩, ⟨by (with_reducible repeat (first | refine blk_drewN ?_ _ | refine blk_drew ?_ | refine blk_alloc ?_ _)); exact BK505.out⟩, ⟨by repeat (first | (with_reducible first | exact HB.out | apply below_alloc | apply pw_below_drewN | apply below_drew1 | refine below_set ?_ GE505.out) | exact HB.out)⟩⟩
                    · rw [if_neg c24] at H
                      exact absurd H (by simp)
                  · rw [if_neg c23] at H
                    exact absurd H (by simp)
                · rw [if_neg c21] at H
                  exact absurd H (by simp)
              · rw [if_neg c20] at H
                exact absurd H (by simp)
            · rw [if_neg c19] at H
              have c19b0 : decide (x17_1 < (t510.length : Int)) = false := decide_eq_false c19
              clear c19
              obtain rfl := Option.some.inj H
              go_wp2
              go_ret
              exact ⟨_, by first | rfl | (simp [errW_none, errW_some] <;> rfl) | (simp only [← hji7]; first | rfl | (simp [errW_none, errW_some] <;> rfl)) | (simp [*, errW_none, errW_some] <;> rfl), by (with_reducible repeat (first | apply Kd.R_alloc | apply Kd.R_drewN | apply Kd.R_drew)); exact Kd.R_mono HO_4.out (fun _ hk => trivial), by repeat (first | (with_reducible first | exact HB.out | apply below_alloc | apply pw_below_drewN | apply below_drew1 | refine below_set ?_ GE505.out) | exact HB.out)⟩
      · rw [if_neg c9] at H
        exact absurd H (by simp)
    · rw [if_neg c8] at H
      exact absurd H (by simp)

end Go.Proofs.Ytaepaekagenfnaa.Pr
end

/-! ## Pr99 -/
section
/- The functions that the laws reach, as plain Lean functions, and that the calls come to what these say. By pr.py over the kit's print. -/
namespace Go.Proofs.Ytaepaekagenfnaa.Pr
open Go.RowKit Go.Proofs.YtaepaekagenfnaaW.PrintWords Go.Proofs.YtaepaekagenfnaaW.PrintLast Go.Proofs.YtaepaekagenfnaaW.PrintMore
attribute [local go_sem] max2_int min2_int max_two min_two max_three min_three max_four min_four   -- for this text's walks alone
set_option linter.unusedVariables false
set_option linter.unusedSimpArgs false

/-! ### laws_markMatroid: function 37 -/
def laws_markMatroid.f (k : Nat) (a0_0 : Int) (l0_1 : List Int) (a1 : Int) : Option (Int × List Int) := (laws_markIntS.f k l0_1 a1).bind fun bt518 => (some (bt518.1, bt518.2))
theorem laws_markMatroid.mono : ∀ a0 a1 a2 k, LeO (laws_markMatroid.f k a0 a1 a2) (laws_markMatroid.f (k + 1) a0 a1 a2) := by
  intro a0 a1 a2 k
  unfold laws_markMatroid.f
  repeat' first
      | (with_reducible exact laws_markIntS.mono _ _ _)
      | (with_reducible exact LeO.refl _)
      | (with_reducible exact LeO.none _)
      | (with_reducible refine LeO.ite ?_ ?_)
      | (with_reducible refine LeO.bind ?_ (fun _ => ?_))
      | exact laws_markIntS.mono _ _ _
      | exact LeO.none _
      | refine LeO.ite ?_ ?_
      | refine LeO.bind ?_ (fun _ => ?_)
set_option maxHeartbeats 8000000 in
set_option maxRecDepth 100000 in
theorem laws_markMatroid.calls (k : Nat) (a0_0 : Int) (P0_1_ : Nat → Prop) (u9000_ : Value) (l0_1 : List Int) (a1 : Int) (r1 : Int) (r2 : List Int) (w0 w : World) (hB : Below w0.heap.size w0 w) (ho0_1 : Kd.R (Kd.int .i64) 3 w w0.heap.size P0_1_ u9000_ l0_1) (h : laws_markMatroid.f k a0_0 l0_1 a1 = some (r1, r2)) :
    Calls Try.prog 37 #[.agg #[.int .i64 a0_0, u9000_], .int .i64 a1] w fun e w' => e = .returned (.int .i64 r1) ∧ Kd.R (Kd.int .i64) 3 w' w0.heap.size (fun k_ => (P0_1_ k_ ∨ w.heap.size ≤ k_)) u9000_ r2 ∧ Below w0.heap.size w0 w' ∧ Kept w w' (fun k_ => P0_1_ k_) := by
  have hu27 := Try.underlying27
  have HO0_1 := Aside0.mk (show Kd.R (Kd.int .i64) 3 w w0.heap.size (fun k_ => (P0_1_ k_ ∨ w.heap.size ≤ k_)) u9000_ l0_1 from Kd.R_mono ho0_1 (fun k_ hk => (.inl hk)))
  have HK := Aside0.mk (Kept.refl w (fun k_ => P0_1_ k_))
  have HW0 := Aside0.mk hB.size
  have HB := Aside0.mk hB
  clear hB
  have H : ((laws_markIntS.f k l0_1 a1).bind fun bt518 => (some (bt518.1, bt518.2))) = some (r1, r2) := h
  clear h
  replace H := Option.bind_eq_some_iff.mp H
  obtain ⟨⟨t518, t519⟩, A30, H⟩ := H
  replace H : (some (t518, t519)) = some (r1, r2) := H
  have A3 := Aside0.mk A30
  clear A30
  simp only [Option.some.injEq, Prod.mk.injEq] at H
  obtain ⟨rfl, rfl⟩ := H
  obtain ⟨Ao4, co4, eo4⟩ := Kd.R_slice HO0_1.out
  subst eo4
  go_enter Try.func37, Try.ntmps37
  go_wp2_with (first | ((with_reducible refine gate_dst (N := 2) rfl ?_); refine box_event ?hg (N := 2) ?hd (cs := #[.int .i64 a0_0, .slice Ao4 l0_1.length co4]) (t := 27) ?hr ?_; (case hd => rfl); (case hg => rfl); (case hr => first | (go_simp; done) | (go_simp; rfl)); intro gb517 hg w5 hbox hb; have n0_ := Aside0.mk (Kd.R_below (by (with_reducible repeat (first | apply Kd.R_alloc | apply Kd.R_drewN | apply Kd.R_drew)); exact HO0_1.out) hb); have n1_ := Aside0.mk (Kept.below (S := (fun k_ => P0_1_ k_)) (by repeat (first | (with_reducible first | exact HK.out | apply Kept.alloc | apply Kept.drewN | apply Kept.drew) | exact HK.out)) hb); have n2_ := Aside0.mk (below_step (by repeat (first | (with_reducible first | exact HB.out | apply below_alloc | apply pw_below_drewN | apply below_drew1) | exact HB.out)) hb); have n3_ := Aside0.mk (hbox); have n4_ := Aside0.mk ((by rw [hg]; exact (by first | exact HK.out.1 | exact (show Kept w _ (fun k_ => P0_1_ k_) from by repeat (first | (with_reducible first | exact HK.out | apply Kept.alloc | apply Kept.drewN | apply Kept.drew) | exact HK.out)).1) : w.heap.size ≤ gb517)); have n5_ := Aside0.mk ((by rw [hg]; exact (below_size (by repeat (first | (with_reducible first | exact HB.out | apply below_alloc | apply pw_below_drewN | apply below_drew1) | exact HB.out))) : w0.heap.size ≤ gb517)); clear HO0_1; clear HK; clear HB; have HO0_1 := n0_; have HK := n1_; have HB := n2_; have BK517 := n3_; have GW517 := n4_; have GE517 := n5_; clear n0_ n1_ n2_ n3_ n4_ n5_; clear hb hbox hg; have hcz6_0 : w5.cell? ⟨gb517, 0, none⟩ = some (.int .i64 a0_0) := (blk_cell BK517.out 0).trans rfl; have hcz6_1 : w5.cell? ⟨gb517, 1, none⟩ = some (.slice Ao4 l0_1.length co4) := (blk_cell BK517.out 1).trans rfl; have hfz6_0 := blk_frozen BK517.out 0; have hfz6_1 := blk_frozen BK517.out 1) | ((with_reducible refine gate_callee (f := 33) rfl ?_); refine goesL_ (some 8) rfl rfl Try.func33 (by kernel_rfl) rfl #[.slice Ao4 l0_1.length co4, .int .i64 a1] rfl (by (try simp only [List.map_toArray, List.map_cons, List.map_nil]); first | done | rfl | (simp only [List.length_drop, List.length_take]; rfl)) ?_; (with_reducible refine (laws_markIntS.calls k (fun k_ => some k_ = (.slice Ao4 l0_1.length co4 : Value).ownBlock) (.slice Ao4 l0_1.length co4) l0_1 a1 t518 t519 w0 _ ?side1 ?side2 A3.out).mono ?_); (case side1 => repeat (first | (with_reducible first | exact HB.out | apply below_alloc | apply pw_below_drewN | apply below_drew1 | refine below_set ?_ GE517.out) | exact HB.out)); (case side2 => exact Kd.R_tight rfl HO0_1.out); rintro e w7 ⟨rfl, hy0, hb, hkp⟩; refine ⟨_, rfl, ?_⟩; have n0_ := Aside0.mk (Kd.R_reok rfl hy0 (fun k_ e_ => HO0_1.out.1 k_ e_)); have n1_ := Aside0.mk (blk_kept (by (with_reducible repeat (first | refine blk_drewN ?_ _ | refine blk_drew ?_ | refine blk_alloc ?_ _)); exact BK517.out) hkp (fun hs_ => (fun e_ => (Kd.R_ne HO0_1.out BK517.out (by decide)) e_) hs_)); have n2_ := Aside0.mk (Kept.then_ (S := (fun k_ => P0_1_ k_)) (by repeat (first | (with_reducible first | exact HK.out | apply Kept.alloc | apply Kept.drewN | apply Kept.drew | refine Kept.setCell ?_ (.inr GW517.out) _) | exact HK.out)) hkp (fun k_ hs_ => (fun e_ => (HO0_1.out.1 k_ e_.symm)) hs_)); have n3_ := Aside0.mk (hb); clear HO0_1; clear BK517; clear HK; clear HB; have HO0_1 := n0_; have BK517 := n1_; have HK := n2_; have HB := n3_; clear n0_ n1_ n2_ n3_; (try clear hb); (try clear hkp); (try clear hy0)))
  go_ret
  exact ⟨by first | rfl | (simp [errW_none, errW_some] <;> rfl) | (simp [*, errW_none, errW_some] <;> rfl), by (with_reducible repeat (first | apply Kd.R_alloc | apply Kd.R_drewN | apply Kd.R_drew)); exact HO0_1.out, by repeat (first | (with_reducible first | exact HB.out | apply below_alloc | apply pw_below_drewN | apply below_drew1 | refine below_set ?_ GE517.out) | exact HB.out), by repeat (first | (with_reducible first | exact HK.out | apply Kept.alloc | apply Kept.drewN | apply Kept.drew | refine Kept.setCell ?_ (.inr GW517.out) _) | exact HK.out)⟩

end Go.Proofs.Ytaepaekagenfnaa.Pr
end
