/- The claim FnExactUnionOf: every text that its row comes to, laid together by slim.py (the words of the kit's print, the printed walks, the pure law, the row). -/
import Derived.Test.YtbjnkcfkhonkhaaYFnExactUnionOf3
section
namespace Go.Proofs.Ytbjnkcfkhonkhaa.Pr
open Go.RowKit Go.Proofs.YtbjnkcfkhonkhaaW.PrintWords Go.Proofs.YtbjnkcfkhonkhaaW.PrintLast Go.Proofs.YtbjnkcfkhonkhaaW.PrintMore
attribute [local go_sem] max2_int min2_int max_two min_two max_three min_three max_four min_four
set_option linter.unusedVariables false
set_option linter.unusedSimpArgs false
mutual
def laws_FnExactUnionOf.j0 : Nat → Bool → Bool → Bool → Int → List Int → Int → List Int → Int → List Int → Int → List Int → Int → List Int → Int → List Int → Option (Bool)
 | 0, _, _, _, _, _, _, _, _, _, _, _, _, _, _, _ => none
 | k + 1, x7, x11, x53, x997000, x997001, x998000, x998001, x1014000, x1014001, x1019000, x1019001, x1024000, x1024001, x1030000, x1030001 => if x53 = true then (some false) else ((laws_toMatroid.f k x997000 x997001).bind fun bt1031 => ((laws_eqMatroid.f k x1019000 x1019001 bt1031.1 bt1031.2).bind fun t1035 => (if t1035 = true then ((laws_toMatroid.f k x998000 x998001).bind fun bt1036 => ((laws_eqMatroid.f k x1024000 x1024001 bt1036.1 bt1036.2).bind fun t1040 => (if t1040 = true then ((laws_markMatroid.f k x1019000 x1019001 1).bind fun bt1041 => ((laws_markMatroid.f k x1024000 x1024001 bt1041.1).bind fun bt1043 => (if bt1043.1 < 0 then (laws_FnExactUnionOf.j1 k x7 true x997000 x997001 x998000 x998001 x1014000 x1014001 x1030000 x1030001) else ((laws_eqMatroid.f k x1030000 x1030001 x1014000 x1014001).bind fun t1045 => (if t1045 = true then (laws_FnExactUnionOf.j1 k x7 (x11 != x7) x997000 x997001 x998000 x998001 x1014000 x1014001 x1030000 x1030001) else (laws_FnExactUnionOf.j1 k x7 true x997000 x997001 x998000 x998001 x1014000 x1014001 x1030000 x1030001)))))) else (some false)))) else (some false))))
def laws_FnExactUnionOf.j1 : Nat → Bool → Bool → Int → List Int → Int → List Int → Int → List Int → Int → List Int → Option (Bool)
 | 0, _, _, _, _, _, _, _, _, _, _ => none
 | k + 1, x7, x82, x997000, x997001, x998000, x998001, x1014000, x1014001, x1030000, x1030001 => if x82 = true then (some false) else ((laws_markMatroid.f k x1030000 x1030001 1).bind fun bt1046 => ((laws_heldMatroid.f k x1030000 bt1046.2 1).bind fun t1048 => (if t1048 < 0 then (some false) else (if t1048 = bt1046.1 then ((laws_toMatroid.f k x997000 x997001).bind fun bt1049 => ((laws_toMatroid.f k x998000 x998001).bind fun bt1053 => ((impl_UnionOf.f k bt1049.1 bt1049.2 bt1053.1 bt1053.2).bind fun bt1057 => ((laws_eqMatroid.f k bt1057.1 bt1057.2.1 x1014000 x1014001).bind fun t1063 => (if t1063 = true then (laws_FnExactUnionOf.j2 k bt1046.1 (bt1057.2.2 != x7) x1030000 bt1046.2) else (laws_FnExactUnionOf.j2 k bt1046.1 true x1030000 bt1046.2)))))) else (some false)))))
def laws_FnExactUnionOf.j2 : Nat → Int → Bool → Int → List Int → Option (Bool)
 | 0, _, _, _, _ => none
 | k + 1, x13, x110, x1030000, x1030001 => if x110 = true then (some false) else ((laws_heldMatroid.f k x1030000 x1030001 1).bind fun t1064 => (if t1064 < 0 then (some false) else (if t1064 = x13 then (some true) else (some false))))
end
def laws_FnExactUnionOf.f (k : Nat) (a0_0 : Int) (l0_1 : List Int) (a1_0 : Int) (l1_1 : List Int) : Option (Bool) := (laws_szMatroid.f a0_0 l0_1 1048576).bind fun t998 => (if t998 < 0 then (some true) else ((laws_szMatroid.f a1_0 l1_1 t998).bind fun t999 => (if t999 < 0 then (some true) else ((laws_toMatroid.f k a0_0 l0_1).bind fun bt1000 => ((laws_toMatroid.f k a1_0 l1_1).bind fun bt1004 => ((spec_UnionOf.f k bt1000.1 bt1000.2 bt1004.1 bt1004.2).bind fun bt1008 => ((laws_toMatroid.f k a0_0 l0_1).bind fun bt1014 => ((laws_toMatroid.f k a1_0 l1_1).bind fun bt1019 => ((impl_UnionOf.f k bt1014.1 bt1014.2 bt1019.1 bt1019.2).bind fun bt1024 => ((laws_eqMatroid.f k bt1024.1 bt1024.2.1 bt1008.1 bt1008.2.1).bind fun t1030 => (if t1030 = true then (laws_FnExactUnionOf.j0 k bt1008.2.2 bt1024.2.2 (bt1024.2.2 != bt1008.2.2) a0_0 l0_1 a1_0 l1_1 bt1008.1 bt1008.2.1 bt1014.1 bt1014.2 bt1019.1 bt1019.2 bt1024.1 bt1024.2.1) else (laws_FnExactUnionOf.j0 k bt1008.2.2 bt1024.2.2 true a0_0 l0_1 a1_0 l1_1 bt1008.1 bt1008.2.1 bt1014.1 bt1014.2 bt1019.1 bt1019.2 bt1024.1 bt1024.2.1))))))))))))
def laws_FnExactUnionOf.T8 : Bool × List (List Nat × List Nat) := (true, [([], []), ([0], [0]), ([], []), ([2, 1], [2]), ([1, 3, 3], [1, 3]), ([4], [4]), ([5], [5]), ([5], [5]), ([], []), ([8, 6, 4, 0, 1, 2, 3, 4, 5, 6, 8], [6, 8]), ([7, 9, 0, 1, 2, 3, 4, 5, 6, 7, 8, 9], [7])])
def laws_FnExactUnionOf.B8 : List Nat := [0, 1, 0, 7, 15, 31, 63, 63, 0, 383, 1023]
theorem laws_FnExactUnionOf.tab8 : rtab .any (opsOf Try.f9 8) = laws_FnExactUnionOf.T8 := by kernel_rfl
theorem laws_FnExactUnionOf.bits8 : waitsOk laws_FnExactUnionOf.T8.2 laws_FnExactUnionOf.B8 = true := by kernel_rfl
def laws_FnExactUnionOf.T31 : Bool × List (List Nat × List Nat) := (true, [([], []), ([0], [0]), ([], []), ([2, 1], [2]), ([1, 3, 3], [1, 3]), ([4], [4]), ([5], [5]), ([5], [5]), ([], []), ([8, 6, 4, 0, 1, 2, 3, 4, 5, 6, 8], [6, 8]), ([7, 9, 0, 1, 2, 3, 4, 5, 6, 7, 8, 9], [7])])
def laws_FnExactUnionOf.B31 : List Nat := [0, 1, 0, 7, 15, 31, 63, 63, 0, 383, 1023]
theorem laws_FnExactUnionOf.tab31 : rtab .any (opsOf Try.f9 31) = laws_FnExactUnionOf.T31 := by kernel_rfl
theorem laws_FnExactUnionOf.bits31 : waitsOk laws_FnExactUnionOf.T31.2 laws_FnExactUnionOf.B31 = true := by kernel_rfl
theorem laws_FnExactUnionOf.Rf {α : Type} {d : Kd α} {e : Nat} {W : World} {base : Nat} {ok : Nat → Prop} {v : Value} {xs : List α} {g t : Nat} {cs : Array Value} {a b : Value} (h : d.R e W base ok v xs) (hb : W.heap[g]? = some (.cells cs t (0, 0))) (ht : ∀ q, q ∈ e :: d.E → q ≠ t) : d.R e ((W.setCell ⟨g, 0, none⟩ a).setCell ⟨g, 1, none⟩ b) base ok v xs := Kd.R_mono (Kd.R_far (p := ⟨g, 1, none⟩) (Kd.R_far (p := ⟨g, 0, none⟩) (Kd.R_types h hb ht) (fun _ hk => hk.2) a) (fun _ hk => hk.2) b) (fun _ h_ => h_.1)
theorem laws_FnExactUnionOf.Ls {w W : World} {g : Nat} {a b : Value} (h : Below w.heap.size w W) (hg : w.heap.size ≤ g) : Below w.heap.size w ((W.setCell ⟨g, 0, none⟩ a).setCell ⟨g, 1, none⟩ b) := below_set (below_set h hg) hg
theorem laws_FnExactUnionOf.Bf {W : World} {g g' t : Nat} {cs : Array Value} {a b : Value} (h : W.heap[g]? = some (.cells cs t (0, 0))) (hp : g ≠ g') : ((W.setCell ⟨g', 0, none⟩ a).setCell ⟨g', 1, none⟩ b).heap[g]? = some (.cells cs t (0, 0)) := blk_far (p := ⟨g', 1, none⟩) (blk_far (p := ⟨g', 0, none⟩) h hp a) hp b
set_option maxHeartbeats 8000000 in
set_option maxRecDepth 100000 in
theorem laws_FnExactUnionOf.calls (k : Nat) (a0_0 : Int) (A0_1 : Option Addr) (c0_1 : Nat) (l0_1 : List Int) (a1_0 : Int) (A1_1 : Option Addr) (c1_1 : Nat) (l1_1 : List Int) (r : Bool) (w : World) (hr0_1 : Kd.C (Kd.int .i64) w A0_1 l0_1.length l0_1) (hc0_1 : l0_1.length ≤ c0_1) (hr1_1 : Kd.C (Kd.int .i64) w A1_1 l1_1.length l1_1) (hc1_1 : l1_1.length ≤ c1_1) (hT : Aside0 (r = true)) (h : laws_FnExactUnionOf.f k a0_0 l0_1 a1_0 l1_1 = some r) :
  Calls Try.prog 9 #[.agg #[.int .i64 a0_0, .slice A0_1 l0_1.length c0_1], .agg #[.int .i64 a1_0, .slice A1_1 l1_1.length c1_1]] w fun e w' => e = .returned (.bool r) ∧ Below w.heap.size w w' := by
 have hu42 := Try.underlying42
 have hu45 := Try.underlying45
 have HR0_1 := Aside0.mk hr0_1
 have HC0_1 := Aside0.mk hc0_1
 clear hr0_1 hc0_1
 have HR1_1 := Aside0.mk hr1_1
 have HC1_1 := Aside0.mk hc1_1
 clear hr1_1 hc1_1
 have HB := Aside0.mk (Below.refl w.heap.size w)
 have H : ((laws_szMatroid.f a0_0 l0_1 1048576).bind fun t998 => (if t998 < 0 then (some true) else ((laws_szMatroid.f a1_0 l1_1 t998).bind fun t999 => (if t999 < 0 then (some true) else ((laws_toMatroid.f k a0_0 l0_1).bind fun bt1000 => ((laws_toMatroid.f k a1_0 l1_1).bind fun bt1004 => ((spec_UnionOf.f k bt1000.1 bt1000.2 bt1004.1 bt1004.2).bind fun bt1008 => ((laws_toMatroid.f k a0_0 l0_1).bind fun bt1014 => ((laws_toMatroid.f k a1_0 l1_1).bind fun bt1019 => ((impl_UnionOf.f k bt1014.1 bt1014.2 bt1019.1 bt1019.2).bind fun bt1024 => ((laws_eqMatroid.f k bt1024.1 bt1024.2.1 bt1008.1 bt1008.2.1).bind fun t1030 => (if t1030 = true then (laws_FnExactUnionOf.j0 k bt1008.2.2 bt1024.2.2 (bt1024.2.2 != bt1008.2.2) a0_0 l0_1 a1_0 l1_1 bt1008.1 bt1008.2.1 bt1014.1 bt1014.2 bt1019.1 bt1019.2 bt1024.1 bt1024.2.1) else (laws_FnExactUnionOf.j0 k bt1008.2.2 bt1024.2.2 true a0_0 l0_1 a1_0 l1_1 bt1008.1 bt1008.2.1 bt1014.1 bt1014.2 bt1019.1 bt1019.2 bt1024.1 bt1024.2.1))))))))))))) = some r := h
 clear h
 replace H := Option.bind_eq_some_iff.mp H
 obtain ⟨t998, A30, H⟩ := H
 (try dsimp only at H)
 have A3 := Aside0.mk A30
 clear A30
 by_cases c4 : t998 < 0
 ·rw [if_pos c4] at H
  have c4b0 : decide (t998 < 0) = true := decide_eq_true c4
  clear c4
  obtain rfl := Option.some.inj H
  go_enter Try.func9, Try.ntmps9
  go_wp2_with (first | ((with_reducible refine gate_dst (N := 2) rfl ?_); refine box_event ?hg (N := 2) ?hd (cs := #[.int .i64 a0_0, .slice A0_1 l0_1.length c0_1]) (t := 42) ?hr ?_; (case hd => rfl); (case hg => rfl); (case hr => first | (go_simp; done) | (go_simp; rfl)); intro gb996 hg w5 hbox hb; have BK996 := Aside0.mk hbox; have GW996 := Aside0.mk ((by rw [hg]; exact (below_size (Hof.Lw HB.out)) : w.heap.size ≤ gb996)); have GE996 := Aside0.mk ((by rw [hg]; exact (below_size (Hof.Lw HB.out)) : w.heap.size ≤ gb996)); replace HB := Aside0.mk (below_step (Hof.Lw HB.out) hb); clear hb hbox hg) | ((with_reducible refine gate_dst (N := 3) rfl ?_); refine box_event ?hg (N := 3) ?hd (cs := #[.int .i64 a1_0, .slice A1_1 l1_1.length c1_1]) (t := 42) ?hr ?_; (case hd => rfl); (case hg => rfl); (case hr => first | (go_simp; done) | (go_simp; rfl)); intro gb997 hg w6 hbox hb; have BK997 := Aside0.mk hbox; have GW997 := Aside0.mk ((by rw [hg]; exact (below_size (by first | exact Hof.Lw HB.out | exact laws_FnExactUnionOf.Ls HB.out GE996.out)) : w.heap.size ≤ gb997)); have GE997 := Aside0.mk ((by rw [hg]; exact (below_size (by first | exact Hof.Lw HB.out | exact laws_FnExactUnionOf.Ls HB.out GE996.out)) : w.heap.size ≤ gb997)); replace HB := Aside0.mk (below_step (by first | exact Hof.Lw HB.out | exact laws_FnExactUnionOf.Ls HB.out GE996.out) hb); have NB996_997 := Aside0.mk ((by rw [hg]; exact Nat.ne_of_lt (blk_lt (Hof.Bw BK996.out)) : gb996 ≠ gb997)); have NB997_996 := Aside0.mk ((by rw [hg]; exact Nat.ne_of_gt (blk_lt (Hof.Bw BK996.out)) : gb997 ≠ gb996)); replace BK996 := Aside0.mk (blk_below (Hof.Bw BK996.out) hb); clear hb hbox hg; have hnb7 := NB996_997.out; have hnc7 := NB997_996.out; obtain ⟨hcz8_0, hcz8_1, hfz8_0, hfz8_1⟩ := Hof.blk2 BK996.out) | ((with_reducible refine gate_callee (f := 32) rfl ?_); refine goesL_ (some 19) rfl rfl Try.func32 (by kernel_rfl) rfl #[.agg #[.int .i64 a0_0, .slice A0_1 l0_1.length c0_1], .int .i64 1048576] rfl (by (try simp only [List.map_toArray, List.map_cons, List.map_nil]); first | done | rfl) ?_; (with_reducible refine (laws_szMatroid.calls a0_0 _ _ l0_1 1048576 t998 _ ?side1 ?side2 A3.out).mono ?_); (case side1 => exact Hof.Cw (Kd.C_below HR0_1.out HB.out)); (case side2 => exact HC0_1.out); rintro e w9 ⟨rfl, hb⟩; refine ⟨_, rfl, ?_⟩; replace BK996 := Aside0.mk (blk_below (Hof.Bw BK996.out) hb); replace BK997 := Aside0.mk (blk_below (Hof.Bw BK997.out) hb); replace HB := Aside0.mk (below_step (by first | exact Hof.Lw HB.out | exact laws_FnExactUnionOf.Ls HB.out GE997.out) hb); (try clear hb); (try clear hb2); (try clear hk); (try clear hi)))
  go_ret
  exact ⟨by first | rfl | (simp [errW_none, errW_some] <;> rfl) | (simp [*, errW_none, errW_some] <;> rfl), by repeat (first | (with_reducible first | exact HB.out | apply below_alloc | apply pw_below_drewN | apply below_drew1 | refine below_set ?_ GE996.out | refine below_set ?_ GE997.out) | exact HB.out)⟩
 ·rw [if_neg c4] at H
  have c4b0 : decide (t998 < 0) = false := decide_eq_false c4
  clear c4
  replace H := Option.bind_eq_some_iff.mp H
  obtain ⟨t999, A100, H⟩ := H
  (try dsimp only at H)
  have A10 := Aside0.mk A100
  clear A100
  by_cases c11 : t999 < 0
  ·rw [if_pos c11] at H
   have c11b0 : decide (t999 < 0) = true := decide_eq_true c11
   clear c11
   obtain rfl := Option.some.inj H
   go_enter Try.func9, Try.ntmps9
   go_wp2_with (first | ((with_reducible refine gate_dst (N := 2) rfl ?_); refine box_event ?hg (N := 2) ?hd (cs := #[.int .i64 a0_0, .slice A0_1 l0_1.length c0_1]) (t := 42) ?hr ?_; (case hd => rfl); (case hg => rfl); (case hr => first | (go_simp; done) | (go_simp; rfl)); intro gb996 hg w12 hbox hb; have BK996 := Aside0.mk hbox; have GW996 := Aside0.mk ((by rw [hg]; exact (below_size (Hof.Lw HB.out)) : w.heap.size ≤ gb996)); have GE996 := Aside0.mk ((by rw [hg]; exact (below_size (Hof.Lw HB.out)) : w.heap.size ≤ gb996)); replace HB := Aside0.mk (below_step (Hof.Lw HB.out) hb); clear hb hbox hg) | ((with_reducible refine gate_dst (N := 3) rfl ?_); refine box_event ?hg (N := 3) ?hd (cs := #[.int .i64 a1_0, .slice A1_1 l1_1.length c1_1]) (t := 42) ?hr ?_; (case hd => rfl); (case hg => rfl); (case hr => first | (go_simp; done) | (go_simp; rfl)); intro gb997 hg w13 hbox hb; have BK997 := Aside0.mk hbox; have GW997 := Aside0.mk ((by rw [hg]; exact (below_size (by first | exact Hof.Lw HB.out | exact laws_FnExactUnionOf.Ls HB.out GE996.out)) : w.heap.size ≤ gb997)); have GE997 := Aside0.mk ((by rw [hg]; exact (below_size (by first | exact Hof.Lw HB.out | exact laws_FnExactUnionOf.Ls HB.out GE996.out)) : w.heap.size ≤ gb997)); replace HB := Aside0.mk (below_step (by first | exact Hof.Lw HB.out | exact laws_FnExactUnionOf.Ls HB.out GE996.out) hb); have NB996_997 := Aside0.mk ((by rw [hg]; exact Nat.ne_of_lt (blk_lt (Hof.Bw BK996.out)) : gb996 ≠ gb997)); have NB997_996 := Aside0.mk ((by rw [hg]; exact Nat.ne_of_gt (blk_lt (Hof.Bw BK996.out)) : gb997 ≠ gb996)); replace BK996 := Aside0.mk (blk_below (Hof.Bw BK996.out) hb); clear hb hbox hg; have hnb14 := NB996_997.out; have hnc14 := NB997_996.out; obtain ⟨hcz15_0, hcz15_1, hfz15_0, hfz15_1⟩ := Hof.blk2 BK996.out) | ((with_reducible refine gate_callee (f := 32) rfl ?_); refine goesL_ (some 19) rfl rfl Try.func32 (by kernel_rfl) rfl #[.agg #[.int .i64 a0_0, .slice A0_1 l0_1.length c0_1], .int .i64 1048576] rfl (by (try simp only [List.map_toArray, List.map_cons, List.map_nil]); first | done | rfl) ?_; (with_reducible refine (laws_szMatroid.calls a0_0 _ _ l0_1 1048576 t998 _ ?side1 ?side2 A3.out).mono ?_); (case side1 => exact Hof.Cw (Kd.C_below HR0_1.out HB.out)); (case side2 => exact HC0_1.out); rintro e w16 ⟨rfl, hb⟩; refine ⟨_, rfl, ?_⟩; replace BK996 := Aside0.mk (blk_below (Hof.Bw BK996.out) hb); replace BK997 := Aside0.mk (blk_below (Hof.Bw BK997.out) hb); replace HB := Aside0.mk (below_step (by first | exact Hof.Lw HB.out | exact laws_FnExactUnionOf.Ls HB.out GE997.out) hb); (try clear hb); (try clear hb2); (try clear hk); (try clear hi); obtain ⟨hcz17_0, hcz17_1, hfz17_0, hfz17_1⟩ := Hof.blk2 BK997.out) | ((with_reducible refine gate_callee (f := 32) rfl ?_); refine goesL_ (some 24) rfl rfl Try.func32 (by kernel_rfl) rfl #[.agg #[.int .i64 a1_0, .slice A1_1 l1_1.length c1_1], .int .i64 t998] rfl (by (try simp only [List.map_toArray, List.map_cons, List.map_nil]); first | done | rfl) ?_; (with_reducible refine (laws_szMatroid.calls a1_0 _ _ l1_1 t998 t999 _ ?side1 ?side2 A10.out).mono ?_); (case side1 => exact Hof.Cw (Kd.C_below HR1_1.out HB.out)); (case side2 => exact HC1_1.out); rintro e w18 ⟨rfl, hb⟩; refine ⟨_, rfl, ?_⟩; replace BK996 := Aside0.mk (blk_below (Hof.Bw BK996.out) hb); replace BK997 := Aside0.mk (blk_below (Hof.Bw BK997.out) hb); replace HB := Aside0.mk (below_step (by first | exact Hof.Lw HB.out | exact laws_FnExactUnionOf.Ls HB.out GE997.out) hb); (try clear hb); (try clear hb2); (try clear hk); (try clear hi)))
   go_ret
   exact ⟨by first | rfl | (simp [errW_none, errW_some] <;> rfl) | (simp [*, errW_none, errW_some] <;> rfl), by repeat (first | (with_reducible first | exact HB.out | apply below_alloc | apply pw_below_drewN | apply below_drew1 | refine below_set ?_ GE996.out | refine below_set ?_ GE997.out) | exact HB.out)⟩
  ·rw [if_neg c11] at H
   have c11b0 : decide (t999 < 0) = false := decide_eq_false c11
   clear c11
   replace H := Option.bind_eq_some_iff.mp H
   obtain ⟨⟨t1000, t1001⟩, A190, H⟩ := H
   (try dsimp only at H)
   have A19 := Aside0.mk A190
   clear A190
   replace H := Option.bind_eq_some_iff.mp H
   obtain ⟨⟨t1004, t1005⟩, A200, H⟩ := H
   (try dsimp only at H)
   have A20 := Aside0.mk A200
   clear A200
   replace H := Option.bind_eq_some_iff.mp H
   obtain ⟨⟨t1008, t1009, t1012⟩, A210, H⟩ := H
   (try dsimp only at H)
   have A21 := Aside0.mk A210
   clear A210
   replace H := Option.bind_eq_some_iff.mp H
   obtain ⟨⟨t1014, t1015⟩, A220, H⟩ := H
   (try dsimp only at H)
   have A22 := Aside0.mk A220
   clear A220
   replace H := Option.bind_eq_some_iff.mp H
   obtain ⟨⟨t1019, t1020⟩, A230, H⟩ := H
   (try dsimp only at H)
   have A23 := Aside0.mk A230
   clear A230
   replace H := Option.bind_eq_some_iff.mp H
   obtain ⟨⟨t1024, t1025, t1028⟩, A240, H⟩ := H
   (try dsimp only at H)
   have A24 := Aside0.mk A240
   clear A240
   have HC25 := Aside0.mk H
   clear H
   go_enter Try.func9, Try.ntmps9
   try go_wp2_with (first | ((with_reducible refine gate_dst (N := 2) rfl ?_); refine box_event ?hg (N := 2) ?hd (cs := #[.int .i64 a0_0, .slice A0_1 l0_1.length c0_1]) (t := 42) ?hr ?_; (case hd => rfl); (case hg => rfl); (case hr => first | (go_simp; done) | (go_simp; rfl)); intro gb996 hg w26 hbox hb; have BK996 := Aside0.mk hbox; have GW996 := Aside0.mk ((by rw [hg]; exact (below_size (Hof.Lw HB.out)) : w.heap.size ≤ gb996)); have GE996 := Aside0.mk ((by rw [hg]; exact (below_size (Hof.Lw HB.out)) : w.heap.size ≤ gb996)); replace HB := Aside0.mk (below_step (Hof.Lw HB.out) hb); clear hb hbox hg) | ((with_reducible refine gate_dst (N := 3) rfl ?_); refine box_event ?hg (N := 3) ?hd (cs := #[.int .i64 a1_0, .slice A1_1 l1_1.length c1_1]) (t := 42) ?hr ?_; (case hd => rfl); (case hg => rfl); (case hr => first | (go_simp; done) | (go_simp; rfl)); intro gb997 hg w27 hbox hb; have BK997 := Aside0.mk hbox; have GW997 := Aside0.mk ((by rw [hg]; exact (below_size (by first | exact Hof.Lw HB.out | exact laws_FnExactUnionOf.Ls HB.out GE996.out)) : w.heap.size ≤ gb997)); have GE997 := Aside0.mk ((by rw [hg]; exact (below_size (by first | exact Hof.Lw HB.out | exact laws_FnExactUnionOf.Ls HB.out GE996.out)) : w.heap.size ≤ gb997)); replace HB := Aside0.mk (below_step (by first | exact Hof.Lw HB.out | exact laws_FnExactUnionOf.Ls HB.out GE996.out) hb); have NB996_997 := Aside0.mk ((by rw [hg]; exact Nat.ne_of_lt (blk_lt (Hof.Bw BK996.out)) : gb996 ≠ gb997)); have NB997_996 := Aside0.mk ((by rw [hg]; exact Nat.ne_of_gt (blk_lt (Hof.Bw BK996.out)) : gb997 ≠ gb996)); replace BK996 := Aside0.mk (blk_below (Hof.Bw BK996.out) hb); clear hb hbox hg; have hnb28 := NB996_997.out; have hnc28 := NB997_996.out; obtain ⟨hcz29_0, hcz29_1, hfz29_0, hfz29_1⟩ := Hof.blk2 BK996.out) | ((with_reducible refine gate_callee (f := 32) rfl ?_); refine goesL_ (some 19) rfl rfl Try.func32 (by kernel_rfl) rfl #[.agg #[.int .i64 a0_0, .slice A0_1 l0_1.length c0_1], .int .i64 1048576] rfl (by (try simp only [List.map_toArray, List.map_cons, List.map_nil]); first | done | rfl) ?_; (with_reducible refine (laws_szMatroid.calls a0_0 _ _ l0_1 1048576 t998 _ ?side1 ?side2 A3.out).mono ?_); (case side1 => exact Hof.Cw (Kd.C_below HR0_1.out HB.out)); (case side2 => exact HC0_1.out); rintro e w30 ⟨rfl, hb⟩; refine ⟨_, rfl, ?_⟩; replace BK996 := Aside0.mk (blk_below (Hof.Bw BK996.out) hb); replace BK997 := Aside0.mk (blk_below (Hof.Bw BK997.out) hb); replace HB := Aside0.mk (below_step (by first | exact Hof.Lw HB.out | exact laws_FnExactUnionOf.Ls HB.out GE997.out) hb); (try clear hb); (try clear hb2); (try clear hk); (try clear hi); obtain ⟨hcz31_0, hcz31_1, hfz31_0, hfz31_1⟩ := Hof.blk2 BK997.out) | ((with_reducible refine gate_callee (f := 32) rfl ?_); refine goesL_ (some 24) rfl rfl Try.func32 (by kernel_rfl) rfl #[.agg #[.int .i64 a1_0, .slice A1_1 l1_1.length c1_1], .int .i64 t998] rfl (by (try simp only [List.map_toArray, List.map_cons, List.map_nil]); first | done | rfl) ?_; (with_reducible refine (laws_szMatroid.calls a1_0 _ _ l1_1 t998 t999 _ ?side1 ?side2 A10.out).mono ?_); (case side1 => exact Hof.Cw (Kd.C_below HR1_1.out HB.out)); (case side2 => exact HC1_1.out); rintro e w32 ⟨rfl, hb⟩; refine ⟨_, rfl, ?_⟩; replace BK996 := Aside0.mk (blk_below (Hof.Bw BK996.out) hb); replace BK997 := Aside0.mk (blk_below (Hof.Bw BK997.out) hb); replace HB := Aside0.mk (below_step (by first | exact Hof.Lw HB.out | exact laws_FnExactUnionOf.Ls HB.out GE997.out) hb); (try clear hb); (try clear hb2); (try clear hk); (try clear hi)))
   have n0_ := Aside0.mk (blk_drew BK996.out)
   have n1_ := Aside0.mk (blk_drew BK997.out)
   have n2_ := Aside0.mk (below_drew1 HB.out)
   clear BK996
   clear BK997
   clear HB
   have BK996 := n0_
   have BK997 := n1_
   have HB := n2_
   clear n0_ n1_ n2_
   refine start_ (n := 11) (S := fun w' => w'.cell? ⟨gb996, 0, none⟩ = some (.int .i64 a0_0) ∧ w'.cell? ⟨gb996, 1, none⟩ = some (.slice A0_1 l0_1.length c0_1) ∧ w'.cell? ⟨gb997, 0, none⟩ = some (.int .i64 a1_0) ∧ w'.cell? ⟨gb997, 1, none⟩ = some (.slice A1_1 l1_1.length c1_1)) (ds := []) #[false, false, false, false, false, false, false, false, false, false, false] (by kernel_rfl) rfl rfl ⟨(blk_cell BK996.out 0).trans rfl, (blk_cell BK996.out 1).trans rfl, (blk_cell BK997.out 0).trans rfl, (blk_cell BK997.out 1).trans rfl⟩ (fun hHeld => ?_); refine with_tabW laws_FnExactUnionOf.tab8 laws_FnExactUnionOf.bits8 (fun HT_ HW_ => ?_)
   generalize w32.drew = w33 at BK996 BK997 HB hHeld ⊢
   refine take_ (i := 0) (N := some 28) (v := ?_) (a' := ?_) #[true, false, false, false, false, false, false, false, false, false, false] rfl rfl (take_ofW HT_.out HW_.out (by kernel_rfl)) (fun _ _ _ h => h) (Or.inl ⟨by rfl, ?_⟩) hHeld ?_ ?_
   rotate_left
   ·rintro w' ⟨s0, s1, s2, s3⟩
    go_simp
    with_reducible rfl
   rotate_left
   ·simp only [Act.put, List.setIfInBounds_toArray, List.set_cons_zero, List.set_cons_succ, i64_w, i32_w]
    rfl
   refine take_ (i := 2) (N := some 30) (v := ?_) (a' := ?_) #[true, false, true, false, false, false, false, false, false, false, false] rfl rfl (take_ofW HT_.out HW_.out (by kernel_rfl)) (fun _ _ _ h => h) (Or.inl ⟨by rfl, ?_⟩) hHeld ?_ ?_
   rotate_left
   ·rintro w' ⟨s0, s1, s2, s3⟩
    go_simp
    with_reducible rfl
   rotate_left
   ·simp only [Act.put, List.setIfInBounds_toArray, List.set_cons_zero, List.set_cons_succ, i64_w, i32_w]
    rfl
   refine join_ (σ := Value × Value × Value × Nat) 2 #[true, true, true, true, true, true, true, true, true, false, false] (fun s_ => [(29, .agg #[.int .i64 t1000, s_.1]), (31, .agg #[.int .i64 t1004, s_.2.1]), (32, .tuple #[.agg #[.int .i64 t1008, s_.2.2.1], .bool t1012]), (6, .pointer (some ⟨s_.2.2.2, 0, none⟩)), (27, .tuple #[.agg #[.int .i64 t1008, s_.2.2.1], .bool t1012]), (33, .agg #[.int .i64 t1008, s_.2.2.1]), (34, .bool t1012)]) (fun s_ w' => (w'.cell? ⟨gb996, 0, none⟩ = some (.int .i64 a0_0) ∧ w'.cell? ⟨gb996, 1, none⟩ = some (.slice A0_1 l0_1.length c0_1) ∧ w'.cell? ⟨gb997, 0, none⟩ = some (.int .i64 a1_0) ∧ w'.cell? ⟨gb997, 1, none⟩ = some (.slice A1_1 l1_1.length c1_1)) ∧ (Kd.R (Kd.int .i64) 3 w' w.heap.size (fun k_ => some k_ ≠ (s_.2.1 : Value).ownBlock ∧ some k_ ≠ (s_.2.2.1 : Value).ownBlock) s_.1 t1001) ∧ (Kd.R (Kd.int .i64) 3 w' w.heap.size (fun k_ => some k_ ≠ (s_.1 : Value).ownBlock ∧ some k_ ≠ (s_.2.2.1 : Value).ownBlock) s_.2.1 t1005) ∧ (Kd.R (Kd.int .i64) 3 w' w.heap.size (fun k_ => some k_ ≠ (s_.1 : Value).ownBlock ∧ some k_ ≠ (s_.2.1 : Value).ownBlock) s_.2.2.1 t1009) ∧ (w'.heap[s_.2.2.2]? = some (.cells #[.int .i64 0, .slice none 0 0] 45 (0, 0))) ∧ (w'.heap[gb996]? = some (.cells #[.int .i64 a0_0, .slice A0_1 l0_1.length c0_1] 42 (0, 0))) ∧ (w'.heap[gb997]? = some (.cells #[.int .i64 a1_0, .slice A1_1 l1_1.length c1_1] 42 (0, 0))) ∧ (w.heap.size ≤ s_.2.2.2) ∧ (w.heap.size ≤ s_.2.2.2) ∧ (gb996 ≠ s_.2.2.2) ∧ (s_.2.2.2 ≠ gb996) ∧ (gb997 ≠ s_.2.2.2) ∧ (s_.2.2.2 ≠ gb997) ∧ (Below w.heap.size w w')) ?_ ?_
   rotate_left
   ·intro hCont
    refine two_ (i := 1) (j := 8) (Ni := some 29) (Nj := some 6) #[true, true, true, false, false, false, false, false, false, false, false] #[true, false, true, false, false, false, false, false, true, false, false] rfl rfl rfl rfl (two_of HT_.out (by kernel_rfl)) (by decide) (by decide) (fun K hK => ?_) (fun K hK => ?_)
    ·skip
     refine goes_ Try.func34 (by kernel_rfl) rfl #[.agg #[.int .i64 a0_0, .slice A0_1 l0_1.length c0_1]] (by rfl) rfl rfl (by (try simp only [List.map_toArray, List.map_cons, List.map_nil]); first | done | rfl) ?_
     with_reducible refine (laws_toMatroid.calls k a0_0 _ _ l0_1 t1000 t1001 _ ?side1 ?side2 A19.out).mono ?_
     (case side1 => exact Hof.Cw (Kd.C_below HR0_1.out HB.out))
     (case side2 => exact HC0_1.out)
     rintro e w34 ⟨v1002, rfl, ho0, hb⟩
     refine ⟨_, rfl, ?_⟩
     have HO1003 := Aside0.mk (Kd.R_lower ho0 (below_size (Hof.Lw HB.out)))
     replace BK996 := Aside0.mk (blk_below (Hof.Bw BK996.out) hb)
     replace BK997 := Aside0.mk (blk_below (Hof.Bw BK997.out) hb)
     replace HB := Aside0.mk (below_step (Hof.Lw HB.out) hb)
     clear hb ho0
     refine hK.out _ _ ⟨(blk_cell BK996.out 0).trans rfl, (blk_cell BK996.out 1).trans rfl, (blk_cell BK997.out 0).trans rfl, (blk_cell BK997.out 1).trans rfl⟩ (fun hHeld => ?_)
     clear hK K
     refine norm_ (a' := ?_) ?_ ?_
     rotate_left
     ·show Act.put _ (some 29) _ = _
      simp only [Act.put, List.setIfInBounds_toArray, List.set_cons_zero, List.set_cons_succ, i64_w, i32_w]
      rfl
     refine two_ (i := 3) (j := 8) (Ni := some 31) (Nj := some 6) #[true, true, true, true, false, false, false, false, false, false, false] #[true, true, true, false, false, false, false, false, true, false, false] rfl rfl rfl rfl (two_of HT_.out (by kernel_rfl)) (by decide) (by decide) (fun K hK => ?_) (fun K hK => ?_)
     ·skip
      refine goes_ Try.func34 (by kernel_rfl) rfl #[.agg #[.int .i64 a1_0, .slice A1_1 l1_1.length c1_1]] (by rfl) rfl rfl (by (try simp only [List.map_toArray, List.map_cons, List.map_nil]); first | done | rfl) ?_
      with_reducible refine (laws_toMatroid.calls k a1_0 _ _ l1_1 t1004 t1005 _ ?side1 ?side2 A20.out).mono ?_
      (case side1 => exact Hof.Cw (Kd.C_below HR1_1.out HB.out))
      (case side2 => exact HC1_1.out)
      rintro e w35 ⟨v1006, rfl, ho0, hb⟩
      refine ⟨_, rfl, ?_⟩
      have HO1007 := Aside0.mk (Kd.R_lower (Kd.R_new' ho0 (Kd.R_lt (Hof.Rw HO1003.out))) (below_size (Hof.Lw HB.out)))
      replace HO1003 := Aside0.mk (Kd.R_elder' (Hof.Rw HO1003.out) (Kd.R_base ho0) hb)
      replace BK996 := Aside0.mk (blk_below (Hof.Bw BK996.out) hb)
      replace BK997 := Aside0.mk (blk_below (Hof.Bw BK997.out) hb)
      replace HB := Aside0.mk (below_step (Hof.Lw HB.out) hb)
      clear hb ho0
      obtain ⟨Ao36, co36, eo36⟩ := Kd.R_slice HO1003.out
      (first | subst eo36 | (injection eo36 with f1_ f2_ f3_; have f4_ := f1_.symm; have f5_ := f3_.symm; clear f1_ f2_ f3_; subst f4_; subst f5_))
      obtain ⟨Ao37, co37, eo37⟩ := Kd.R_slice HO1007.out
      (first | subst eo37 | (injection eo37 with f1_ f2_ f3_; have f4_ := f1_.symm; have f5_ := f3_.symm; clear f1_ f2_ f3_; subst f4_; subst f5_))
      refine hK.out _ _ ⟨(blk_cell BK996.out 0).trans rfl, (blk_cell BK996.out 1).trans rfl, (blk_cell BK997.out 0).trans rfl, (blk_cell BK997.out 1).trans rfl⟩ (fun hHeld => ?_)
      clear hK K
      refine norm_ (a' := ?_) ?_ ?_
      rotate_left
      ·show Act.put _ (some 31) _ = _
       simp only [Act.put, List.setIfInBounds_toArray, List.set_cons_zero, List.set_cons_succ, i64_w, i32_w]
       rfl
      refine two_ (i := 4) (j := 8) (Ni := some 32) (Nj := some 6) #[true, true, true, true, true, false, false, false, false, false, false] #[true, true, true, true, false, false, false, false, true, false, false] rfl rfl rfl rfl (two_of HT_.out (by kernel_rfl)) (by decide) (by decide) (fun K hK => ?_) (fun K hK => ?_)
      ·skip
       refine goes_ Try.func43 (by kernel_rfl) rfl #[.agg #[.int .i64 t1000, .slice Ao36 t1001.length co36], .agg #[.int .i64 t1004, .slice Ao37 t1005.length co37]] (by rfl) rfl rfl (by (try simp only [List.map_toArray, List.map_cons, List.map_nil]); first | done | rfl) ?_
       with_reducible refine (spec_UnionOf.calls k t1000 _ _ t1001 t1004 _ _ t1005 t1008 t1009 t1012 _ ?side1 ?side2 ?side3 ?side4 A21.out).mono ?_
       (case side1 => exact Hof.Cw ((Kd.R_reads' HO1003.out).2.2))
       (case side2 => exact (Kd.R_reads' HO1003.out).2.1)
       (case side3 => exact Hof.Cw ((Kd.R_reads' HO1007.out).2.2))
       (case side4 => exact (Kd.R_reads' HO1007.out).2.1)
       rintro e w38 ⟨v1010, rfl, ho0, hb⟩
       refine ⟨_, rfl, ?_⟩
       have HO1011 := Aside0.mk (Kd.R_lower (Kd.R_new' (Kd.R_new' ho0 (Kd.R_lt (Hof.Rw HO1003.out))) (Kd.R_lt (Hof.Rw HO1007.out))) (below_size (Hof.Lw HB.out)))
       replace HO1003 := Aside0.mk (Kd.R_elder' (Hof.Rw HO1003.out) (Kd.R_base ho0) hb)
       replace HO1007 := Aside0.mk (Kd.R_elder' (Hof.Rw HO1007.out) (Kd.R_base ho0) hb)
       replace BK996 := Aside0.mk (blk_below (Hof.Bw BK996.out) hb)
       replace BK997 := Aside0.mk (blk_below (Hof.Bw BK997.out) hb)
       replace HB := Aside0.mk (below_step (Hof.Lw HB.out) hb)
       clear hb ho0
       refine hK.out _ _ ⟨(blk_cell BK996.out 0).trans rfl, (blk_cell BK996.out 1).trans rfl, (blk_cell BK997.out 0).trans rfl, (blk_cell BK997.out 1).trans rfl⟩ (fun hHeld => ?_)
       clear hK K
       refine norm_ (a' := ?_) ?_ ?_
       rotate_left
       ·show Act.put _ (some 32) _ = _
        simp only [Act.put, List.setIfInBounds_toArray, List.set_cons_zero, List.set_cons_succ, i64_w, i32_w]
        rfl
       refine pure_ (i := 5) (N := some 27) (v := ?_) (a' := ?_) #[true, true, true, true, true, true, false, false, false, false, false] rfl rfl (any_of HT_.out (by kernel_rfl)) (fun _ _ _ h => h) (Or.inl ⟨by rfl, ?_⟩) ?_ ?_
       rotate_left
       ·intro w'
        go_simp
        with_reducible rfl
       rotate_left
       ·simp only [Act.put, List.setIfInBounds_toArray, List.set_cons_zero, List.set_cons_succ, i64_w, i32_w]
        rfl
       refine pure_ (i := 6) (N := some 33) (v := ?_) (a' := ?_) #[true, true, true, true, true, true, true, false, false, false, false] rfl rfl (any_of HT_.out (by kernel_rfl)) (fun _ _ _ h => h) (Or.inl ⟨by rfl, ?_⟩) ?_ ?_
       rotate_left
       ·intro w'
        go_simp
        with_reducible rfl
       rotate_left
       ·simp only [Act.put, List.setIfInBounds_toArray, List.set_cons_zero, List.set_cons_succ, i64_w, i32_w]
        rfl
       refine pure_ (i := 7) (N := some 34) (v := ?_) (a' := ?_) #[true, true, true, true, true, true, true, true, false, false, false] rfl rfl (any_of HT_.out (by kernel_rfl)) (fun _ _ _ h => h) (Or.inl ⟨by rfl, ?_⟩) ?_ ?_
       rotate_left
       ·intro w'
        go_simp
        with_reducible rfl
       rotate_left
       ·simp only [Act.put, List.setIfInBounds_toArray, List.set_cons_zero, List.set_cons_succ, i64_w, i32_w]
        rfl
       refine one_ (i := 8) (N := some 6) #[true, true, true, true, true, true, true, true, true, false, false] rfl rfl (one_of HT_.out (by kernel_rfl)) (by decide) (fun K hK => ?_)
       refine box_step ?hg (N := 6) ?hd (cs := #[.int .i64 0, .slice none 0 0]) (t := 45) ?hr ?_; (case hd => rfl); (case hg => rfl); (case hr => first | (go_simp; done) | (go_simp; rfl))
       intro gb1013 hg w39 hbox hb
       have n0_ := Aside0.mk (Kd.R_below (Hof.Rw HO1003.out) hb)
       have n1_ := Aside0.mk (Kd.R_below (Hof.Rw HO1007.out) hb)
       have n2_ := Aside0.mk (Kd.R_below (Hof.Rw HO1011.out) hb)
       have n3_ := Aside0.mk (blk_below (Hof.Bw BK996.out) hb)
       have n4_ := Aside0.mk (blk_below (Hof.Bw BK997.out) hb)
       have n5_ := Aside0.mk (below_step (by first | exact Hof.Lw HB.out | exact laws_FnExactUnionOf.Ls HB.out GE997.out) hb)
       have n6_ := Aside0.mk hbox
       have n7_ := Aside0.mk ((by rw [hg]; exact (below_size (by first | exact Hof.Lw HB.out | exact laws_FnExactUnionOf.Ls HB.out GE997.out)) : w.heap.size ≤ gb1013))
       have n8_ := Aside0.mk ((by rw [hg]; exact (below_size (by first | exact Hof.Lw HB.out | exact laws_FnExactUnionOf.Ls HB.out GE997.out)) : w.heap.size ≤ gb1013))
       have n9_ := Aside0.mk ((by rw [hg]; exact Nat.ne_of_lt (blk_lt (Hof.Bw BK996.out)) : gb996 ≠ gb1013))
       have n10_ := Aside0.mk ((by rw [hg]; exact Nat.ne_of_gt (blk_lt (Hof.Bw BK996.out)) : gb1013 ≠ gb996))
       have n11_ := Aside0.mk ((by rw [hg]; exact Nat.ne_of_lt (blk_lt (Hof.Bw BK997.out)) : gb997 ≠ gb1013))
       have n12_ := Aside0.mk ((by rw [hg]; exact Nat.ne_of_gt (blk_lt (Hof.Bw BK997.out)) : gb1013 ≠ gb997))
       clear HO1003
       clear HO1007
       clear HO1011
       clear BK996
       clear BK997
       clear HB
       have HO1003 := n0_
       have HO1007 := n1_
       have HO1011 := n2_
       have BK996 := n3_
       have BK997 := n4_
       have HB := n5_
       have BK1013 := n6_
       have GW1013 := n7_
       have GE1013 := n8_
       have NB996_1013 := n9_
       have NB1013_996 := n10_
       have NB997_1013 := n11_
       have NB1013_997 := n12_
       clear n0_ n1_ n2_ n3_ n4_ n5_ n6_ n7_ n8_ n9_ n10_ n11_ n12_
       clear hb hbox hg
       refine hK.out _ _ ⟨(blk_cell BK996.out 0).trans rfl, (blk_cell BK996.out 1).trans rfl, (blk_cell BK997.out 0).trans rfl, (blk_cell BK997.out 1).trans rfl⟩ (fun hHeld => ?_)
       clear hK K
       refine norm_ (a' := ?_) ?_ ?_
       rotate_left
       ·show Act.put _ (some 6) _ = _
        simp only [Act.put, List.setIfInBounds_toArray, List.set_cons_zero, List.set_cons_succ, i64_w, i32_w]
        rfl
       exact norm_ (by simp only [putAll, Act.put, List.setIfInBounds_toArray, List.set_cons_zero, List.set_cons_succ]) (hCont (.slice Ao36 t1001.length co36, .slice Ao37 t1005.length co37, v1010, gb1013) _ ⟨hHeld, (Hof.Rw (Kd.R_mono HO1003.out (fun _ hk => (by first | exact ⟨hk.1.2, hk.2⟩ | (simp_all; done))))), (Hof.Rw (Kd.R_mono HO1007.out (fun _ hk => (by first | exact ⟨hk.1.2, hk.2⟩ | (simp_all; done))))), (Hof.Rw (Kd.R_mono HO1011.out (fun _ hk => (by first | exact ⟨hk.1.2, hk.2⟩ | (simp_all; done))))), (Hof.Bw BK1013.out), (Hof.Bw BK996.out), (Hof.Bw BK997.out), GW1013.out, GE1013.out, NB996_1013.out, NB1013_996.out, NB997_1013.out, NB1013_997.out, (by first | exact Hof.Lw HB.out | exact laws_FnExactUnionOf.Ls HB.out GE1013.out)⟩)
      ·skip
       refine box_step ?hg (N := 6) ?hd (cs := #[.int .i64 0, .slice none 0 0]) (t := 45) ?hr ?_; (case hd => rfl); (case hg => rfl); (case hr => first | (go_simp; done) | (go_simp; rfl))
       intro gb1013 hg w36 hbox hb
       have n0_ := Aside0.mk (Kd.R_below (Hof.Rw HO1003.out) hb)
       have n1_ := Aside0.mk (Kd.R_below (Hof.Rw HO1007.out) hb)
       have n2_ := Aside0.mk (blk_below (Hof.Bw BK996.out) hb)
       have n3_ := Aside0.mk (blk_below (Hof.Bw BK997.out) hb)
       have n4_ := Aside0.mk (below_step (by first | exact Hof.Lw HB.out | exact laws_FnExactUnionOf.Ls HB.out GE997.out) hb)
       have n5_ := Aside0.mk hbox
       have n6_ := Aside0.mk ((by rw [hg]; exact (below_size (by first | exact Hof.Lw HB.out | exact laws_FnExactUnionOf.Ls HB.out GE997.out)) : w.heap.size ≤ gb1013))
       have n7_ := Aside0.mk ((by rw [hg]; exact (below_size (by first | exact Hof.Lw HB.out | exact laws_FnExactUnionOf.Ls HB.out GE997.out)) : w.heap.size ≤ gb1013))
       have n8_ := Aside0.mk ((by rw [hg]; exact Nat.ne_of_lt (blk_lt (Hof.Bw BK996.out)) : gb996 ≠ gb1013))
       have n9_ := Aside0.mk ((by rw [hg]; exact Nat.ne_of_gt (blk_lt (Hof.Bw BK996.out)) : gb1013 ≠ gb996))
       have n10_ := Aside0.mk ((by rw [hg]; exact Nat.ne_of_lt (blk_lt (Hof.Bw BK997.out)) : gb997 ≠ gb1013))
       have n11_ := Aside0.mk ((by rw [hg]; exact Nat.ne_of_gt (blk_lt (Hof.Bw BK997.out)) : gb1013 ≠ gb997))
       clear HO1003
       clear HO1007
       clear BK996
       clear BK997
       clear HB
       have HO1003 := n0_
       have HO1007 := n1_
       have BK996 := n2_
       have BK997 := n3_
       have HB := n4_
       have BK1013 := n5_
       have GW1013 := n6_
       have GE1013 := n7_
       have NB996_1013 := n8_
       have NB1013_996 := n9_
       have NB997_1013 := n10_
       have NB1013_997 := n11_
       clear n0_ n1_ n2_ n3_ n4_ n5_ n6_ n7_ n8_ n9_ n10_ n11_
       clear hb hbox hg
       obtain ⟨Ao37, co37, eo37⟩ := Kd.R_slice HO1003.out
       (first | subst eo37 | (injection eo37 with f1_ f2_ f3_; have f4_ := f1_.symm; have f5_ := f3_.symm; clear f1_ f2_ f3_; subst f4_; subst f5_))
       obtain ⟨Ao38, co38, eo38⟩ := Kd.R_slice HO1007.out
       (first | subst eo38 | (injection eo38 with f1_ f2_ f3_; have f4_ := f1_.symm; have f5_ := f3_.symm; clear f1_ f2_ f3_; subst f4_; subst f5_))
       refine hK.out _ _ ⟨(blk_cell BK996.out 0).trans rfl, (blk_cell BK996.out 1).trans rfl, (blk_cell BK997.out 0).trans rfl, (blk_cell BK997.out 1).trans rfl⟩ (fun hHeld => ?_)
       clear hK K
       refine norm_ (a' := ?_) ?_ ?_
       rotate_left
       ·show Act.put _ (some 6) _ = _
        simp only [Act.put, List.setIfInBounds_toArray, List.set_cons_zero, List.set_cons_succ, i64_w, i32_w]
        rfl
       refine one_ (i := 4) (N := some 32) #[true, true, true, true, true, false, false, false, true, false, false] rfl rfl (one_of HT_.out (by kernel_rfl)) (by decide) (fun K hK => ?_)
       refine goes_ Try.func43 (by kernel_rfl) rfl #[.agg #[.int .i64 t1000, .slice Ao37 t1001.length co37], .agg #[.int .i64 t1004, .slice Ao38 t1005.length co38]] (by rfl) rfl rfl (by (try simp only [List.map_toArray, List.map_cons, List.map_nil]); first | done | rfl) ?_
       with_reducible refine (spec_UnionOf.calls k t1000 _ _ t1001 t1004 _ _ t1005 t1008 t1009 t1012 _ ?side1 ?side2 ?side3 ?side4 A21.out).mono ?_
       (case side1 => exact Hof.Cw ((Kd.R_reads' HO1003.out).2.2))
       (case side2 => exact (Kd.R_reads' HO1003.out).2.1)
       (case side3 => exact Hof.Cw ((Kd.R_reads' HO1007.out).2.2))
       (case side4 => exact (Kd.R_reads' HO1007.out).2.1)
       rintro e w39 ⟨v1010, rfl, ho0, hb⟩
       refine ⟨_, rfl, ?_⟩
       have HO1011 := Aside0.mk (Kd.R_lower (Kd.R_new' (Kd.R_new' ho0 (Kd.R_lt (Hof.Rw HO1003.out))) (Kd.R_lt (Hof.Rw HO1007.out))) (below_size (Hof.Lw HB.out)))
       replace HO1003 := Aside0.mk (Kd.R_elder' (Hof.Rw HO1003.out) (Kd.R_base ho0) hb)
       replace HO1007 := Aside0.mk (Kd.R_elder' (Hof.Rw HO1007.out) (Kd.R_base ho0) hb)
       replace BK996 := Aside0.mk (blk_below (Hof.Bw BK996.out) hb)
       replace BK997 := Aside0.mk (blk_below (Hof.Bw BK997.out) hb)
       replace BK1013 := Aside0.mk (blk_below (Hof.Bw BK1013.out) hb)
       replace HB := Aside0.mk (below_step (Hof.Lw HB.out) hb)
       clear hb ho0
       refine hK.out _ _ ⟨(blk_cell BK996.out 0).trans rfl, (blk_cell BK996.out 1).trans rfl, (blk_cell BK997.out 0).trans rfl, (blk_cell BK997.out 1).trans rfl⟩ (fun hHeld => ?_)
       clear hK K
       refine norm_ (a' := ?_) ?_ ?_
       rotate_left
       ·show Act.put _ (some 32) _ = _
        simp only [Act.put, List.setIfInBounds_toArray, List.set_cons_zero, List.set_cons_succ, i64_w, i32_w]
        rfl
       refine pure_ (i := 5) (N := some 27) (v := ?_) (a' := ?_) #[true, true, true, true, true, true, false, false, true, false, false] rfl rfl (any_of HT_.out (by kernel_rfl)) (fun _ _ _ h => h) (Or.inl ⟨by rfl, ?_⟩) ?_ ?_
       rotate_left
       ·intro w'
        go_simp
        with_reducible rfl
       rotate_left
       ·simp only [Act.put, List.setIfInBounds_toArray, List.set_cons_zero, List.set_cons_succ, i64_w, i32_w]
        rfl
       refine pure_ (i := 6) (N := some 33) (v := ?_) (a' := ?_) #[true, true, true, true, true, true, true, false, true, false, false] rfl rfl (any_of HT_.out (by kernel_rfl)) (fun _ _ _ h => h) (Or.inl ⟨by rfl, ?_⟩) ?_ ?_
       rotate_left
       ·intro w'
        go_simp
        with_reducible rfl
       rotate_left
       ·simp only [Act.put, List.setIfInBounds_toArray, List.set_cons_zero, List.set_cons_succ, i64_w, i32_w]
        rfl
       refine pure_ (i := 7) (N := some 34) (v := ?_) (a' := ?_) #[true, true, true, true, true, true, true, true, true, false, false] rfl rfl (any_of HT_.out (by kernel_rfl)) (fun _ _ _ h => h) (Or.inl ⟨by rfl, ?_⟩) ?_ ?_
       rotate_left
       ·intro w'
        go_simp
        with_reducible rfl
       rotate_left
       ·simp only [Act.put, List.setIfInBounds_toArray, List.set_cons_zero, List.set_cons_succ, i64_w, i32_w]
        rfl
       exact norm_ (by simp only [putAll, Act.put, List.setIfInBounds_toArray, List.set_cons_zero, List.set_cons_succ]) (hCont (.slice Ao37 t1001.length co37, .slice Ao38 t1005.length co38, v1010, gb1013) _ ⟨hHeld, (Hof.Rw (Kd.R_mono HO1003.out (fun _ hk => (by first | exact ⟨hk.1.2, hk.2⟩ | (simp_all; done))))), (Hof.Rw (Kd.R_mono HO1007.out (fun _ hk => (by first | exact ⟨hk.1.2, hk.2⟩ | (simp_all; done))))), (Hof.Rw (Kd.R_mono HO1011.out (fun _ hk => (by first | exact ⟨hk.1.2, hk.2⟩ | (simp_all; done))))), (Hof.Bw BK1013.out), (Hof.Bw BK996.out), (Hof.Bw BK997.out), GW1013.out, GE1013.out, NB996_1013.out, NB1013_996.out, NB997_1013.out, NB1013_997.out, (by first | exact Hof.Lw HB.out | exact laws_FnExactUnionOf.Ls HB.out GE1013.out)⟩)
     ·skip
      refine box_step ?hg (N := 6) ?hd (cs := #[.int .i64 0, .slice none 0 0]) (t := 45) ?hr ?_; (case hd => rfl); (case hg => rfl); (case hr => first | (go_simp; done) | (go_simp; rfl))
      intro gb1013 hg w35 hbox hb
      have n0_ := Aside0.mk (Kd.R_below (Hof.Rw HO1003.out) hb)
      have n1_ := Aside0.mk (blk_below (Hof.Bw BK996.out) hb)
      have n2_ := Aside0.mk (blk_below (Hof.Bw BK997.out) hb)
      have n3_ := Aside0.mk (below_step (by first | exact Hof.Lw HB.out | exact laws_FnExactUnionOf.Ls HB.out GE997.out) hb)
      have n4_ := Aside0.mk hbox
      have n5_ := Aside0.mk ((by rw [hg]; exact (below_size (by first | exact Hof.Lw HB.out | exact laws_FnExactUnionOf.Ls HB.out GE997.out)) : w.heap.size ≤ gb1013))
      have n6_ := Aside0.mk ((by rw [hg]; exact (below_size (by first | exact Hof.Lw HB.out | exact laws_FnExactUnionOf.Ls HB.out GE997.out)) : w.heap.size ≤ gb1013))
      have n7_ := Aside0.mk ((by rw [hg]; exact Nat.ne_of_lt (blk_lt (Hof.Bw BK996.out)) : gb996 ≠ gb1013))
      have n8_ := Aside0.mk ((by rw [hg]; exact Nat.ne_of_gt (blk_lt (Hof.Bw BK996.out)) : gb1013 ≠ gb996))
      have n9_ := Aside0.mk ((by rw [hg]; exact Nat.ne_of_lt (blk_lt (Hof.Bw BK997.out)) : gb997 ≠ gb1013))
      have n10_ := Aside0.mk ((by rw [hg]; exact Nat.ne_of_gt (blk_lt (Hof.Bw BK997.out)) : gb1013 ≠ gb997))
      clear HO1003
      clear BK996
      clear BK997
      clear HB
      have HO1003 := n0_
      have BK996 := n1_
      have BK997 := n2_
      have HB := n3_
      have BK1013 := n4_
      have GW1013 := n5_
      have GE1013 := n6_
      have NB996_1013 := n7_
      have NB1013_996 := n8_
      have NB997_1013 := n9_
      have NB1013_997 := n10_
      clear n0_ n1_ n2_ n3_ n4_ n5_ n6_ n7_ n8_ n9_ n10_
      clear hb hbox hg
      refine hK.out _ _ ⟨(blk_cell BK996.out 0).trans rfl, (blk_cell BK996.out 1).trans rfl, (blk_cell BK997.out 0).trans rfl, (blk_cell BK997.out 1).trans rfl⟩ (fun hHeld => ?_)
      clear hK K
      refine norm_ (a' := ?_) ?_ ?_
      rotate_left
      ·show Act.put _ (some 6) _ = _
       simp only [Act.put, List.setIfInBounds_toArray, List.set_cons_zero, List.set_cons_succ, i64_w, i32_w]
       rfl
      refine one_ (i := 3) (N := some 31) #[true, true, true, true, false, false, false, false, true, false, false] rfl rfl (one_of HT_.out (by kernel_rfl)) (by decide) (fun K hK => ?_)
      refine goes_ Try.func34 (by kernel_rfl) rfl #[.agg #[.int .i64 a1_0, .slice A1_1 l1_1.length c1_1]] (by rfl) rfl rfl (by (try simp only [List.map_toArray, List.map_cons, List.map_nil]); first | done | rfl) ?_
      with_reducible refine (laws_toMatroid.calls k a1_0 _ _ l1_1 t1004 t1005 _ ?side1 ?side2 A20.out).mono ?_
      (case side1 => exact Hof.Cw (Kd.C_below HR1_1.out HB.out))
      (case side2 => exact HC1_1.out)
      rintro e w36 ⟨v1006, rfl, ho0, hb⟩
      refine ⟨_, rfl, ?_⟩
      have HO1007 := Aside0.mk (Kd.R_lower (Kd.R_new' ho0 (Kd.R_lt (Hof.Rw HO1003.out))) (below_size (Hof.Lw HB.out)))
      replace HO1003 := Aside0.mk (Kd.R_elder' (Hof.Rw HO1003.out) (Kd.R_base ho0) hb)
      replace BK996 := Aside0.mk (blk_below (Hof.Bw BK996.out) hb)
      replace BK997 := Aside0.mk (blk_below (Hof.Bw BK997.out) hb)
      replace BK1013 := Aside0.mk (blk_below (Hof.Bw BK1013.out) hb)
      replace HB := Aside0.mk (below_step (Hof.Lw HB.out) hb)
      clear hb ho0
      obtain ⟨Ao37, co37, eo37⟩ := Kd.R_slice HO1003.out
      (first | subst eo37 | (injection eo37 with f1_ f2_ f3_; have f4_ := f1_.symm; have f5_ := f3_.symm; clear f1_ f2_ f3_; subst f4_; subst f5_))
      obtain ⟨Ao38, co38, eo38⟩ := Kd.R_slice HO1007.out
      (first | subst eo38 | (injection eo38 with f1_ f2_ f3_; have f4_ := f1_.symm; have f5_ := f3_.symm; clear f1_ f2_ f3_; subst f4_; subst f5_))
      refine hK.out _ _ ⟨(blk_cell BK996.out 0).trans rfl, (blk_cell BK996.out 1).trans rfl, (blk_cell BK997.out 0).trans rfl, (blk_cell BK997.out 1).trans rfl⟩ (fun hHeld => ?_)
      clear hK K
      refine norm_ (a' := ?_) ?_ ?_
      rotate_left
      ·show Act.put _ (some 31) _ = _
       simp only [Act.put, List.setIfInBounds_toArray, List.set_cons_zero, List.set_cons_succ, i64_w, i32_w]
       rfl
      refine one_ (i := 4) (N := some 32) #[true, true, true, true, true, false, false, false, true, false, false] rfl rfl (one_of HT_.out (by kernel_rfl)) (by decide) (fun K hK => ?_)
      refine goes_ Try.func43 (by kernel_rfl) rfl #[.agg #[.int .i64 t1000, .slice Ao37 t1001.length co37], .agg #[.int .i64 t1004, .slice Ao38 t1005.length co38]] (by rfl) rfl rfl (by (try simp only [List.map_toArray, List.map_cons, List.map_nil]); first | done | rfl) ?_
      with_reducible refine (spec_UnionOf.calls k t1000 _ _ t1001 t1004 _ _ t1005 t1008 t1009 t1012 _ ?side1 ?side2 ?side3 ?side4 A21.out).mono ?_
      (case side1 => exact Hof.Cw ((Kd.R_reads' HO1003.out).2.2))
      (case side2 => exact (Kd.R_reads' HO1003.out).2.1)
      (case side3 => exact Hof.Cw ((Kd.R_reads' HO1007.out).2.2))
      (case side4 => exact (Kd.R_reads' HO1007.out).2.1)
      rintro e w39 ⟨v1010, rfl, ho0, hb⟩
      refine ⟨_, rfl, ?_⟩
      have HO1011 := Aside0.mk (Kd.R_lower (Kd.R_new' (Kd.R_new' ho0 (Kd.R_lt (Hof.Rw HO1003.out))) (Kd.R_lt (Hof.Rw HO1007.out))) (below_size (Hof.Lw HB.out)))
      replace HO1003 := Aside0.mk (Kd.R_elder' (Hof.Rw HO1003.out) (Kd.R_base ho0) hb)
      replace HO1007 := Aside0.mk (Kd.R_elder' (Hof.Rw HO1007.out) (Kd.R_base ho0) hb)
      replace BK996 := Aside0.mk (blk_below (Hof.Bw BK996.out) hb)
      replace BK997 := Aside0.mk (blk_below (Hof.Bw BK997.out) hb)
      replace BK1013 := Aside0.mk (blk_below (Hof.Bw BK1013.out) hb)
      replace HB := Aside0.mk (below_step (Hof.Lw HB.out) hb)
      clear hb ho0
      refine hK.out _ _ ⟨(blk_cell BK996.out 0).trans rfl, (blk_cell BK996.out 1).trans rfl, (blk_cell BK997.out 0).trans rfl, (blk_cell BK997.out 1).trans rfl⟩ (fun hHeld => ?_)
      clear hK K
      refine norm_ (a' := ?_) ?_ ?_
      rotate_left
      ·show Act.put _ (some 32) _ = _
       simp only [Act.put, List.setIfInBounds_toArray, List.set_cons_zero, List.set_cons_succ, i64_w, i32_w]
       rfl
      refine pure_ (i := 5) (N := some 27) (v := ?_) (a' := ?_) #[true, true, true, true, true, true, false, false, true, false, false] rfl rfl (any_of HT_.out (by kernel_rfl)) (fun _ _ _ h => h) (Or.inl ⟨by rfl, ?_⟩) ?_ ?_
      rotate_left
      ·intro w'
       go_simp
       with_reducible rfl
      rotate_left
      ·simp only [Act.put, List.setIfInBounds_toArray, List.set_cons_zero, List.set_cons_succ, i64_w, i32_w]
       rfl
      refine pure_ (i := 6) (N := some 33) (v := ?_) (a' := ?_) #[true, true, true, true, true, true, true, false, true, false, false] rfl rfl (any_of HT_.out (by kernel_rfl)) (fun _ _ _ h => h) (Or.inl ⟨by rfl, ?_⟩) ?_ ?_
      rotate_left
      ·intro w'
       go_simp
       with_reducible rfl
      rotate_left
      ·simp only [Act.put, List.setIfInBounds_toArray, List.set_cons_zero, List.set_cons_succ, i64_w, i32_w]
       rfl
      refine pure_ (i := 7) (N := some 34) (v := ?_) (a' := ?_) #[true, true, true, true, true, true, true, true, true, false, false] rfl rfl (any_of HT_.out (by kernel_rfl)) (fun _ _ _ h => h) (Or.inl ⟨by rfl, ?_⟩) ?_ ?_
      rotate_left
      ·intro w'
       go_simp
       with_reducible rfl
      rotate_left
      ·simp only [Act.put, List.setIfInBounds_toArray, List.set_cons_zero, List.set_cons_succ, i64_w, i32_w]
       rfl
      exact norm_ (by simp only [putAll, Act.put, List.setIfInBounds_toArray, List.set_cons_zero, List.set_cons_succ]) (hCont (.slice Ao37 t1001.length co37, .slice Ao38 t1005.length co38, v1010, gb1013) _ ⟨hHeld, (Hof.Rw (Kd.R_mono HO1003.out (fun _ hk => (by first | exact ⟨hk.1.2, hk.2⟩ | (simp_all; done))))), (Hof.Rw (Kd.R_mono HO1007.out (fun _ hk => (by first | exact ⟨hk.1.2, hk.2⟩ | (simp_all; done))))), (Hof.Rw (Kd.R_mono HO1011.out (fun _ hk => (by first | exact ⟨hk.1.2, hk.2⟩ | (simp_all; done))))), (Hof.Bw BK1013.out), (Hof.Bw BK996.out), (Hof.Bw BK997.out), GW1013.out, GE1013.out, NB996_1013.out, NB1013_996.out, NB997_1013.out, NB1013_997.out, (by first | exact Hof.Lw HB.out | exact laws_FnExactUnionOf.Ls HB.out GE1013.out)⟩)
    ·skip
     refine box_step ?hg (N := 6) ?hd (cs := #[.int .i64 0, .slice none 0 0]) (t := 45) ?hr ?_; (case hd => rfl); (case hg => rfl); (case hr => first | (go_simp; done) | (go_simp; rfl))
     intro gb1013 hg w34 hbox hb
     have n0_ := Aside0.mk (blk_below (Hof.Bw BK996.out) hb)
     have n1_ := Aside0.mk (blk_below (Hof.Bw BK997.out) hb)
     have n2_ := Aside0.mk (below_step (by first | exact Hof.Lw HB.out | exact laws_FnExactUnionOf.Ls HB.out GE997.out) hb)
     have n3_ := Aside0.mk hbox
     have n4_ := Aside0.mk ((by rw [hg]; exact (below_size (by first | exact Hof.Lw HB.out | exact laws_FnExactUnionOf.Ls HB.out GE997.out)) : w.heap.size ≤ gb1013))
     have n5_ := Aside0.mk ((by rw [hg]; exact (below_size (by first | exact Hof.Lw HB.out | exact laws_FnExactUnionOf.Ls HB.out GE997.out)) : w.heap.size ≤ gb1013))
     have n6_ := Aside0.mk ((by rw [hg]; exact Nat.ne_of_lt (blk_lt (Hof.Bw BK996.out)) : gb996 ≠ gb1013))
     have n7_ := Aside0.mk ((by rw [hg]; exact Nat.ne_of_gt (blk_lt (Hof.Bw BK996.out)) : gb1013 ≠ gb996))
     have n8_ := Aside0.mk ((by rw [hg]; exact Nat.ne_of_lt (blk_lt (Hof.Bw BK997.out)) : gb997 ≠ gb1013))
     have n9_ := Aside0.mk ((by rw [hg]; exact Nat.ne_of_gt (blk_lt (Hof.Bw BK997.out)) : gb1013 ≠ gb997))
     clear BK996
     clear BK997
     clear HB
     have BK996 := n0_
     have BK997 := n1_
     have HB := n2_
     have BK1013 := n3_
     have GW1013 := n4_
     have GE1013 := n5_
     have NB996_1013 := n6_
     have NB1013_996 := n7_
     have NB997_1013 := n8_
     have NB1013_997 := n9_
     clear n0_ n1_ n2_ n3_ n4_ n5_ n6_ n7_ n8_ n9_
     clear hb hbox hg
     refine hK.out _ _ ⟨(blk_cell BK996.out 0).trans rfl, (blk_cell BK996.out 1).trans rfl, (blk_cell BK997.out 0).trans rfl, (blk_cell BK997.out 1).trans rfl⟩ (fun hHeld => ?_)
     clear hK K
     refine norm_ (a' := ?_) ?_ ?_
     rotate_left
     ·show Act.put _ (some 6) _ = _
      simp only [Act.put, List.setIfInBounds_toArray, List.set_cons_zero, List.set_cons_succ, i64_w, i32_w]
      rfl
     refine one_ (i := 1) (N := some 29) #[true, true, true, false, false, false, false, false, true, false, false] rfl rfl (one_of HT_.out (by kernel_rfl)) (by decide) (fun K hK => ?_)
     refine goes_ Try.func34 (by kernel_rfl) rfl #[.agg #[.int .i64 a0_0, .slice A0_1 l0_1.length c0_1]] (by rfl) rfl rfl (by (try simp only [List.map_toArray, List.map_cons, List.map_nil]); first | done | rfl) ?_
     with_reducible refine (laws_toMatroid.calls k a0_0 _ _ l0_1 t1000 t1001 _ ?side1 ?side2 A19.out).mono ?_
     (case side1 => exact Hof.Cw (Kd.C_below HR0_1.out HB.out))
     (case side2 => exact HC0_1.out)
     rintro e w35 ⟨v1002, rfl, ho0, hb⟩
     refine ⟨_, rfl, ?_⟩
     have HO1003 := Aside0.mk (Kd.R_lower ho0 (below_size (Hof.Lw HB.out)))
     replace BK996 := Aside0.mk (blk_below (Hof.Bw BK996.out) hb)
     replace BK997 := Aside0.mk (blk_below (Hof.Bw BK997.out) hb)
     replace BK1013 := Aside0.mk (blk_below (Hof.Bw BK1013.out) hb)
     replace HB := Aside0.mk (below_step (Hof.Lw HB.out) hb)
     clear hb ho0
     refine hK.out _ _ ⟨(blk_cell BK996.out 0).trans rfl, (blk_cell BK996.out 1).trans rfl, (blk_cell BK997.out 0).trans rfl, (blk_cell BK997.out 1).trans rfl⟩ (fun hHeld => ?_)
     clear hK K
     refine norm_ (a' := ?_) ?_ ?_
     rotate_left
     ·show Act.put _ (some 29) _ = _
      simp only [Act.put, List.setIfInBounds_toArray, List.set_cons_zero, List.set_cons_succ, i64_w, i32_w]
      rfl
     refine one_ (i := 3) (N := some 31) #[true, true, true, true, false, false, false, false, true, false, false] rfl rfl (one_of HT_.out (by kernel_rfl)) (by decide) (fun K hK => ?_)
     refine goes_ Try.func34 (by kernel_rfl) rfl #[.agg #[.int .i64 a1_0, .slice A1_1 l1_1.length c1_1]] (by rfl) rfl rfl (by (try simp only [List.map_toArray, List.map_cons, List.map_nil]); first | done | rfl) ?_
     with_reducible refine (laws_toMatroid.calls k a1_0 _ _ l1_1 t1004 t1005 _ ?side1 ?side2 A20.out).mono ?_
     (case side1 => exact Hof.Cw (Kd.C_below HR1_1.out HB.out))
     (case side2 => exact HC1_1.out)
     rintro e w36 ⟨v1006, rfl, ho0, hb⟩
     refine ⟨_, rfl, ?_⟩
     have HO1007 := Aside0.mk (Kd.R_lower (Kd.R_new' ho0 (Kd.R_lt (Hof.Rw HO1003.out))) (below_size (Hof.Lw HB.out)))
     replace HO1003 := Aside0.mk (Kd.R_elder' (Hof.Rw HO1003.out) (Kd.R_base ho0) hb)
     replace BK996 := Aside0.mk (blk_below (Hof.Bw BK996.out) hb)
     replace BK997 := Aside0.mk (blk_below (Hof.Bw BK997.out) hb)
     replace BK1013 := Aside0.mk (blk_below (Hof.Bw BK1013.out) hb)
     replace HB := Aside0.mk (below_step (Hof.Lw HB.out) hb)
     clear hb ho0
     obtain ⟨Ao37, co37, eo37⟩ := Kd.R_slice HO1003.out
     (first | subst eo37 | (injection eo37 with f1_ f2_ f3_; have f4_ := f1_.symm; have f5_ := f3_.symm; clear f1_ f2_ f3_; subst f4_; subst f5_))
     obtain ⟨Ao38, co38, eo38⟩ := Kd.R_slice HO1007.out
     (first | subst eo38 | (injection eo38 with f1_ f2_ f3_; have f4_ := f1_.symm; have f5_ := f3_.symm; clear f1_ f2_ f3_; subst f4_; subst f5_))
     refine hK.out _ _ ⟨(blk_cell BK996.out 0).trans rfl, (blk_cell BK996.out 1).trans rfl, (blk_cell BK997.out 0).trans rfl, (blk_cell BK997.out 1).trans rfl⟩ (fun hHeld => ?_)
     clear hK K
     refine norm_ (a' := ?_) ?_ ?_
     rotate_left
     ·show Act.put _ (some 31) _ = _
      simp only [Act.put, List.setIfInBounds_toArray, List.set_cons_zero, List.set_cons_succ, i64_w, i32_w]
      rfl
     refine one_ (i := 4) (N := some 32) #[true, true, true, true, true, false, false, false, true, false, false] rfl rfl (one_of HT_.out (by kernel_rfl)) (by decide) (fun K hK => ?_)
     refine goes_ Try.func43 (by kernel_rfl) rfl #[.agg #[.int .i64 t1000, .slice Ao37 t1001.length co37], .agg #[.int .i64 t1004, .slice Ao38 t1005.length co38]] (by rfl) rfl rfl (by (try simp only [List.map_toArray, List.map_cons, List.map_nil]); first | done | rfl) ?_
     with_reducible refine (spec_UnionOf.calls k t1000 _ _ t1001 t1004 _ _ t1005 t1008 t1009 t1012 _ ?side1 ?side2 ?side3 ?side4 A21.out).mono ?_
     (case side1 => exact Hof.Cw ((Kd.R_reads' HO1003.out).2.2))
     (case side2 => exact (Kd.R_reads' HO1003.out).2.1)
     (case side3 => exact Hof.Cw ((Kd.R_reads' HO1007.out).2.2))
     (case side4 => exact (Kd.R_reads' HO1007.out).2.1)
     rintro e w39 ⟨v1010, rfl, ho0, hb⟩
     refine ⟨_, rfl, ?_⟩
     have HO1011 := Aside0.mk (Kd.R_lower (Kd.R_new' (Kd.R_new' ho0 (Kd.R_lt (Hof.Rw HO1003.out))) (Kd.R_lt (Hof.Rw HO1007.out))) (below_size (Hof.Lw HB.out)))
     replace HO1003 := Aside0.mk (Kd.R_elder' (Hof.Rw HO1003.out) (Kd.R_base ho0) hb)
     replace HO1007 := Aside0.mk (Kd.R_elder' (Hof.Rw HO1007.out) (Kd.R_base ho0) hb)
     replace BK996 := Aside0.mk (blk_below (Hof.Bw BK996.out) hb)
     replace BK997 := Aside0.mk (blk_below (Hof.Bw BK997.out) hb)
     replace BK1013 := Aside0.mk (blk_below (Hof.Bw BK1013.out) hb)
     replace HB := Aside0.mk (below_step (Hof.Lw HB.out) hb)
     clear hb ho0
     refine hK.out _ _ ⟨(blk_cell BK996.out 0).trans rfl, (blk_cell BK996.out 1).trans rfl, (blk_cell BK997.out 0).trans rfl, (blk_cell BK997.out 1).trans rfl⟩ (fun hHeld => ?_)
     clear hK K
     refine norm_ (a' := ?_) ?_ ?_
     rotate_left
     ·show Act.put _ (some 32) _ = _
      simp only [Act.put, List.setIfInBounds_toArray, List.set_cons_zero, List.set_cons_succ, i64_w, i32_w]
      rfl
     refine pure_ (i := 5) (N := some 27) (v := ?_) (a' := ?_) #[true, true, true, true, true, true, false, false, true, false, false] rfl rfl (any_of HT_.out (by kernel_rfl)) (fun _ _ _ h => h) (Or.inl ⟨by rfl, ?_⟩) ?_ ?_
     rotate_left
     ·intro w'
      go_simp
      with_reducible rfl
     rotate_left
     ·simp only [Act.put, List.setIfInBounds_toArray, List.set_cons_zero, List.set_cons_succ, i64_w, i32_w]
      rfl
     refine pure_ (i := 6) (N := some 33) (v := ?_) (a' := ?_) #[true, true, true, true, true, true, true, false, true, false, false] rfl rfl (any_of HT_.out (by kernel_rfl)) (fun _ _ _ h => h) (Or.inl ⟨by rfl, ?_⟩) ?_ ?_
     rotate_left
     ·intro w'
      go_simp
      with_reducible rfl
     rotate_left
     ·simp only [Act.put, List.setIfInBounds_toArray, List.set_cons_zero, List.set_cons_succ, i64_w, i32_w]
      rfl
     refine pure_ (i := 7) (N := some 34) (v := ?_) (a' := ?_) #[true, true, true, true, true, true, true, true, true, false, false] rfl rfl (any_of HT_.out (by kernel_rfl)) (fun _ _ _ h => h) (Or.inl ⟨by rfl, ?_⟩) ?_ ?_
     rotate_left
     ·intro w'
      go_simp
      with_reducible rfl
     rotate_left
     ·simp only [Act.put, List.setIfInBounds_toArray, List.set_cons_zero, List.set_cons_succ, i64_w, i32_w]
      rfl
     exact norm_ (by simp only [putAll, Act.put, List.setIfInBounds_toArray, List.set_cons_zero, List.set_cons_succ]) (hCont (.slice Ao37 t1001.length co37, .slice Ao38 t1005.length co38, v1010, gb1013) _ ⟨hHeld, (Hof.Rw (Kd.R_mono HO1003.out (fun _ hk => (by first | exact ⟨hk.1.2, hk.2⟩ | (simp_all; done))))), (Hof.Rw (Kd.R_mono HO1007.out (fun _ hk => (by first | exact ⟨hk.1.2, hk.2⟩ | (simp_all; done))))), (Hof.Rw (Kd.R_mono HO1011.out (fun _ hk => (by first | exact ⟨hk.1.2, hk.2⟩ | (simp_all; done))))), (Hof.Bw BK1013.out), (Hof.Bw BK996.out), (Hof.Bw BK997.out), GW1013.out, GE1013.out, NB996_1013.out, NB1013_996.out, NB997_1013.out, NB1013_997.out, (by first | exact Hof.Lw HB.out | exact laws_FnExactUnionOf.Ls HB.out GE1013.out)⟩)
   rintro ⟨v1002, v1006, v1010, gb1013⟩ w40 ⟨hS_, h0_, h1_, h2_, h3_, h4_, h5_, h6_, h7_, h8_, h9_, h10_, h11_, h12_⟩
   have n0_ : Aside0 (Kd.R (Kd.int .i64) 3 w40 w.heap.size (fun k_ => some k_ ≠ (v1006 : Value).ownBlock ∧ some k_ ≠ (v1010 : Value).ownBlock) v1002 t1001) := ⟨h0_⟩
   have n1_ : Aside0 (Kd.R (Kd.int .i64) 3 w40 w.heap.size (fun k_ => some k_ ≠ (v1002 : Value).ownBlock ∧ some k_ ≠ (v1010 : Value).ownBlock) v1006 t1005) := ⟨h1_⟩
   have n2_ : Aside0 (Kd.R (Kd.int .i64) 3 w40 w.heap.size (fun k_ => some k_ ≠ (v1002 : Value).ownBlock ∧ some k_ ≠ (v1006 : Value).ownBlock) v1010 t1009) := ⟨h2_⟩
   have n3_ : Aside0 (w40.heap[gb1013]? = some (.cells #[.int .i64 0, .slice none 0 0] 45 (0, 0))) := ⟨h3_⟩
   have n4_ : Aside0 (w40.heap[gb996]? = some (.cells #[.int .i64 a0_0, .slice A0_1 l0_1.length c0_1] 42 (0, 0))) := ⟨h4_⟩
   have n5_ : Aside0 (w40.heap[gb997]? = some (.cells #[.int .i64 a1_0, .slice A1_1 l1_1.length c1_1] 42 (0, 0))) := ⟨h5_⟩
   have n6_ : Aside0 (w.heap.size ≤ gb1013) := ⟨h6_⟩
   have n7_ : Aside0 (w.heap.size ≤ gb1013) := ⟨h7_⟩
   have n8_ : Aside0 (gb996 ≠ gb1013) := ⟨h8_⟩
   have n9_ : Aside0 (gb1013 ≠ gb996) := ⟨h9_⟩
   have n10_ : Aside0 (gb997 ≠ gb1013) := ⟨h10_⟩
   have n11_ : Aside0 (gb1013 ≠ gb997) := ⟨h11_⟩
   have n12_ : Aside0 (Below w.heap.size w w40) := ⟨h12_⟩
   clear BK996
   clear BK997
   clear HB
   clear h0_ h1_ h2_ h3_ h4_ h5_ h6_ h7_ h8_ h9_ h10_ h11_ h12_
   have HO1003 := n0_
   have HO1007 := n1_
   have HO1011 := n2_
   have BK1013 := n3_
   have BK996 := n4_
   have BK997 := n5_
   have GW1013 := n6_
   have GE1013 := n7_
   have NB996_1013 := n8_
   have NB1013_996 := n9_
   have NB997_1013 := n10_
   have NB1013_997 := n11_
   have HB := n12_
   clear n0_ n1_ n2_ n3_ n4_ n5_ n6_ n7_ n8_ n9_ n10_ n11_ n12_
   have hHeld : w40.cell? ⟨gb996, 0, none⟩ = some (.int .i64 a0_0) ∧ w40.cell? ⟨gb996, 1, none⟩ = some (.slice A0_1 l0_1.length c0_1) ∧ w40.cell? ⟨gb997, 0, none⟩ = some (.int .i64 a1_0) ∧ w40.cell? ⟨gb997, 1, none⟩ = some (.slice A1_1 l1_1.length c1_1) := hS_
   obtain ⟨Ao42, co42, eo42⟩ := Kd.R_slice HO1011.out
   (first | subst eo42 | (injection eo42 with f1_ f2_ f3_; have f4_ := f1_.symm; have f5_ := f3_.symm; clear f1_ f2_ f3_; subst f4_; subst f5_))
   refine norm_ (a' := ?_) ?_ ?_
   rotate_left
   ·simp only [putAll, Act.put, List.setIfInBounds_toArray, List.set_cons_zero, List.set_cons_succ]
    rfl
   refine one_ (i := 9) (N := none) #[true, true, true, true, true, true, true, true, true, true, false] rfl rfl (one_of HT_.out (by kernel_rfl)) (by decide) (fun K hK => ?_)
   have hs41 : w40.cell? ⟨gb1013, 0, none⟩ = some (.int .i64 0) := (blk_cell BK1013.out 0).trans rfl
   have hfs41 := blk_frozen BK1013.out 0
   have hns41_0 := NB996_1013.out
   have hns41_1 := NB997_1013.out
   have hms41_0 := NB1013_996.out
   have hms41_1 := NB1013_997.out
   have hs43 : w40.cell? ⟨gb1013, 1, none⟩ = some (.slice none 0 0) := (blk_cell BK1013.out 1).trans rfl
   have hfs43 := blk_frozen BK1013.out 1
   have hns43_0 := NB996_1013.out
   have hns43_1 := NB997_1013.out
   have hms43_0 := NB1013_996.out
   have hms43_1 := NB1013_997.out
   refine skip_ (w1 := ?_) (by rfl) rfl ?_ ?_
   rotate_left
   ·go_simp
    rfl
   refine hK.out _ _ ⟨((cell_far (p := ⟨gb1013, _, none⟩) NB996_1013.out _).trans (((cell_far (p := ⟨gb1013, _, none⟩) NB996_1013.out _).trans (hHeld.1)))), ((cell_far (p := ⟨gb1013, _, none⟩) NB996_1013.out _).trans (((cell_far (p := ⟨gb1013, _, none⟩) NB996_1013.out _).trans (hHeld.2.1)))), ((cell_far (p := ⟨gb1013, _, none⟩) NB997_1013.out _).trans (((cell_far (p := ⟨gb1013, _, none⟩) NB997_1013.out _).trans (hHeld.2.2.1)))), ((cell_far (p := ⟨gb1013, _, none⟩) NB997_1013.out _).trans (((cell_far (p := ⟨gb1013, _, none⟩) NB997_1013.out _).trans (hHeld.2.2.2))))⟩ (fun hHeld => ?_)
   clear hK K
   refine pure_ (i := 10) (N := some 7) (v := ?_) (a' := ?_) #[true, true, true, true, true, true, true, true, true, true, true] rfl rfl (any_of HT_.out (by kernel_rfl)) (fun _ _ _ h => h) (Or.inl ⟨by rfl, ?_⟩) ?_ ?_
   rotate_left
   ·intro w'
    go_simp
    with_reducible rfl
   rotate_left
   ·simp only [Act.put, List.setIfInBounds_toArray, List.set_cons_zero, List.set_cons_succ, i64_w, i32_w]
    rfl
   refine done_ (done_of HT_.out (by kernel_rfl)) ?_
   have hnb44 := NB996_1013.out
   have hnc44 := NB1013_996.out
   obtain ⟨hcz45_0, hcz45_1, hfz45_0, hfz45_1⟩ := Hof.blk2 BK996.out
   go_upto_region 12 with (first | ((with_reducible refine gate_callee (f := 34) rfl ?_); refine goesL_ (some 36) rfl rfl Try.func34 (by kernel_rfl) rfl #[.agg #[.int .i64 a0_0, .slice A0_1 l0_1.length c0_1]] rfl (by (try simp only [List.map_toArray, List.map_cons, List.map_nil]); first | done | rfl) ?_; (with_reducible refine (laws_toMatroid.calls k a0_0 _ _ l0_1 t1014 t1015 _ ?side1 ?side2 A22.out).mono ?_); (case side1 => exact Kd.C_below HR0_1.out (by first | exact Hof.Lw HB.out | exact laws_FnExactUnionOf.Ls HB.out GE1013.out)); (case side2 => exact HC0_1.out); rintro e w46 ⟨v1016, rfl, ho0, hb⟩; refine ⟨_, rfl, ?_⟩; have HO1017 := Aside0.mk (Kd.R_lower (Kd.R_new' (Kd.R_new' (Kd.R_new' ho0 (Kd.R_lt (laws_FnExactUnionOf.Rf HO1003.out BK1013.out (by decide)))) (Kd.R_lt (laws_FnExactUnionOf.Rf HO1007.out BK1013.out (by decide)))) (Kd.R_lt (laws_FnExactUnionOf.Rf HO1011.out BK1013.out (by decide)))) (below_size (by first | exact Hof.Lw HB.out | exact laws_FnExactUnionOf.Ls HB.out GE1013.out))); replace HO1003 := Aside0.mk (Kd.R_elder' (laws_FnExactUnionOf.Rf HO1003.out BK1013.out (by decide)) (Kd.R_base ho0) hb); replace HO1007 := Aside0.mk (Kd.R_elder' (laws_FnExactUnionOf.Rf HO1007.out BK1013.out (by decide)) (Kd.R_base ho0) hb); replace HO1011 := Aside0.mk (Kd.R_elder' (laws_FnExactUnionOf.Rf HO1011.out BK1013.out (by decide)) (Kd.R_base ho0) hb); replace BK996 := Aside0.mk (blk_below (laws_FnExactUnionOf.Bf BK996.out NB996_1013.out) hb); replace BK997 := Aside0.mk (blk_below (laws_FnExactUnionOf.Bf BK997.out NB997_1013.out) hb); replace BK1013 := Aside0.mk (blk_below (g := gb1013) (o := .cells #[.int .i64 t1008, .slice Ao42 t1009.length co42] 45 (0, 0)) (by (with_reducible repeat (first | refine blk_drewN ?_ _ | refine blk_drew ?_ | refine blk_alloc ?_ _)); refine blk_put (cs := #[.int .i64 t1008, .slice none 0 0]) ?_ 1 _ rfl; (with_reducible repeat (first | refine blk_drewN ?_ _ | refine blk_drew ?_ | refine blk_alloc ?_ _)); refine blk_put (cs := #[.int .i64 0, .slice none 0 0]) ?_ 0 _ rfl; (with_reducible repeat (first | refine blk_drewN ?_ _ | refine blk_drew ?_ | refine blk_alloc ?_ _)); exact BK1013.out) hb); replace HB := Aside0.mk (below_step (by first | exact Hof.Lw HB.out | exact laws_FnExactUnionOf.Ls HB.out GE1013.out) hb); (try clear hb); (try clear hb2); (try clear hk); (try clear hi); (try clear ho0)) | ((with_reducible refine gate_dst (N := 8) rfl ?_); refine box_event ?hg (N := 8) ?hd (cs := #[.int .i64 0, .slice none 0 0]) (t := 45) ?hr ?_; (case hd => rfl); (case hg => rfl); (case hr => first | (go_simp; done) | (go_simp; rfl)); intro gb1018 hg w47 hbox hb; replace HO1003 := Aside0.mk (Kd.R_below (Hof.Rw HO1003.out) hb); replace HO1007 := Aside0.mk (Kd.R_below (Hof.Rw HO1007.out) hb); replace HO1011 := Aside0.mk (Kd.R_below (Hof.Rw HO1011.out) hb); replace HO1017 := Aside0.mk (Kd.R_below (Hof.Rw HO1017.out) hb); have BK1018 := Aside0.mk hbox; have GW1018 := Aside0.mk ((by rw [hg]; exact (below_size (by first | exact Hof.Lw HB.out | exact laws_FnExactUnionOf.Ls HB.out GE1013.out)) : w.heap.size ≤ gb1018)); have GE1018 := Aside0.mk ((by rw [hg]; exact (below_size (by first | exact Hof.Lw HB.out | exact laws_FnExactUnionOf.Ls HB.out GE1013.out)) : w.heap.size ≤ gb1018)); replace HB := Aside0.mk (below_step (by first | exact Hof.Lw HB.out | exact laws_FnExactUnionOf.Ls HB.out GE1013.out) hb); have NB996_1018 := Aside0.mk ((by rw [hg]; exact Nat.ne_of_lt (blk_lt (Hof.Bw BK996.out)) : gb996 ≠ gb1018)); have NB1018_996 := Aside0.mk ((by rw [hg]; exact Nat.ne_of_gt (blk_lt (Hof.Bw BK996.out)) : gb1018 ≠ gb996)); replace BK996 := Aside0.mk (blk_below (Hof.Bw BK996.out) hb); have NB997_1018 := Aside0.mk ((by rw [hg]; exact Nat.ne_of_lt (blk_lt (Hof.Bw BK997.out)) : gb997 ≠ gb1018)); have NB1018_997 := Aside0.mk ((by rw [hg]; exact Nat.ne_of_gt (blk_lt (Hof.Bw BK997.out)) : gb1018 ≠ gb997)); replace BK997 := Aside0.mk (blk_below (Hof.Bw BK997.out) hb); have NB1013_1018 := Aside0.mk ((by rw [hg]; exact Nat.ne_of_lt (blk_lt (Hof.Bw BK1013.out)) : gb1013 ≠ gb1018)); have NB1018_1013 := Aside0.mk ((by rw [hg]; exact Nat.ne_of_gt (blk_lt (Hof.Bw BK1013.out)) : gb1018 ≠ gb1013)); replace BK1013 := Aside0.mk (blk_below (Hof.Bw BK1013.out) hb); clear hb hbox hg; have hnb48 := NB1018_996.out; have hnc48 := NB996_1018.out; have hnb49 := NB1018_997.out; have hnc49 := NB997_1018.out; have hnb50 := NB1018_1013.out; have hnc50 := NB1013_1018.out; obtain ⟨hcz51_0, hcz51_1, hfz51_0, hfz51_1⟩ := Hof.blk2 BK1018.out; obtain ⟨Ao52, co52, eo52⟩ := Kd.R_slice HO1017.out; subst eo52; have hnb53 := NB997_1013.out; have hnc53 := NB1013_997.out; obtain ⟨hcz54_0, hcz54_1, hfz54_0, hfz54_1⟩ := Hof.blk2 BK997.out) | ((with_reducible refine gate_callee (f := 34) rfl ?_); refine goesL_ (some 38) rfl rfl Try.func34 (by kernel_rfl) rfl #[.agg #[.int .i64 a1_0, .slice A1_1 l1_1.length c1_1]] rfl (by (try simp only [List.map_toArray, List.map_cons, List.map_nil]); first | done | rfl) ?_; (with_reducible refine (laws_toMatroid.calls k a1_0 _ _ l1_1 t1019 t1020 _ ?side1 ?side2 A23.out).mono ?_); (case side1 => exact Kd.C_below HR1_1.out (by first | exact Hof.Lw HB.out | exact laws_FnExactUnionOf.Ls HB.out GE1018.out)); (case side2 => exact HC1_1.out); rintro e w55 ⟨v1021, rfl, ho0, hb⟩; refine ⟨_, rfl, ?_⟩; have HO1022 := Aside0.mk (Kd.R_lower (Kd.R_new' (Kd.R_new' (Kd.R_new' (Kd.R_new' ho0 (Kd.R_lt (laws_FnExactUnionOf.Rf HO1003.out BK1018.out (by decide)))) (Kd.R_lt (laws_FnExactUnionOf.Rf HO1007.out BK1018.out (by decide)))) (Kd.R_lt (laws_FnExactUnionOf.Rf HO1011.out BK1018.out (by decide)))) (Kd.R_lt (laws_FnExactUnionOf.Rf HO1017.out BK1018.out (by decide)))) (below_size (by first | exact Hof.Lw HB.out | exact laws_FnExactUnionOf.Ls HB.out GE1018.out))); replace HO1003 := Aside0.mk (Kd.R_elder' (laws_FnExactUnionOf.Rf HO1003.out BK1018.out (by decide)) (Kd.R_base ho0) hb); replace HO1007 := Aside0.mk (Kd.R_elder' (laws_FnExactUnionOf.Rf HO1007.out BK1018.out (by decide)) (Kd.R_base ho0) hb); replace HO1011 := Aside0.mk (Kd.R_elder' (laws_FnExactUnionOf.Rf HO1011.out BK1018.out (by decide)) (Kd.R_base ho0) hb); replace HO1017 := Aside0.mk (Kd.R_elder' (laws_FnExactUnionOf.Rf HO1017.out BK1018.out (by decide)) (Kd.R_base ho0) hb); replace BK996 := Aside0.mk (blk_below (laws_FnExactUnionOf.Bf BK996.out NB996_1018.out) hb); replace BK997 := Aside0.mk (blk_below (laws_FnExactUnionOf.Bf BK997.out NB997_1018.out) hb); replace BK1013 := Aside0.mk (blk_below (laws_FnExactUnionOf.Bf BK1013.out NB1013_1018.out) hb); replace BK1018 := Aside0.mk (blk_below (g := gb1018) (o := .cells #[.int .i64 t1014, .slice Ao52 t1015.length co52] 45 (0, 0)) (by (with_reducible repeat (first | refine blk_drewN ?_ _ | refine blk_drew ?_ | refine blk_alloc ?_ _)); refine blk_put (cs := #[.int .i64 t1014, .slice none 0 0]) ?_ 1 _ rfl; (with_reducible repeat (first | refine blk_drewN ?_ _ | refine blk_drew ?_ | refine blk_alloc ?_ _)); refine blk_put (cs := #[.int .i64 0, .slice none 0 0]) ?_ 0 _ rfl; (with_reducible repeat (first | refine blk_drewN ?_ _ | refine blk_drew ?_ | refine blk_alloc ?_ _)); exact BK1018.out) hb); replace HB := Aside0.mk (below_step (by first | exact Hof.Lw HB.out | exact laws_FnExactUnionOf.Ls HB.out GE1018.out) hb); (try clear hb); (try clear hb2); (try clear hk); (try clear hi); (try clear ho0)) | ((with_reducible refine gate_dst (N := 9) rfl ?_); refine box_event ?hg (N := 9) ?hd (cs := #[.int .i64 0, .slice none 0 0]) (t := 45) ?hr ?_; (case hd => rfl); (case hg => rfl); (case hr => first | (go_simp; done) | (go_simp; rfl)); intro gb1023 hg w56 hbox hb; replace HO1003 := Aside0.mk (Kd.R_below (Hof.Rw HO1003.out) hb); replace HO1007 := Aside0.mk (Kd.R_below (Hof.Rw HO1007.out) hb); replace HO1011 := Aside0.mk (Kd.R_below (Hof.Rw HO1011.out) hb); replace HO1017 := Aside0.mk (Kd.R_below (Hof.Rw HO1017.out) hb); replace HO1022 := Aside0.mk (Kd.R_below (Hof.Rw HO1022.out) hb); have BK1023 := Aside0.mk hbox; have GW1023 := Aside0.mk ((by rw [hg]; exact (below_size (by first | exact Hof.Lw HB.out | exact laws_FnExactUnionOf.Ls HB.out GE1018.out)) : w.heap.size ≤ gb1023)); have GE1023 := Aside0.mk ((by rw [hg]; exact (below_size (by first | exact Hof.Lw HB.out | exact laws_FnExactUnionOf.Ls HB.out GE1018.out)) : w.heap.size ≤ gb1023)); replace HB := Aside0.mk (below_step (by first | exact Hof.Lw HB.out | exact laws_FnExactUnionOf.Ls HB.out GE1018.out) hb); have NB996_1023 := Aside0.mk ((by rw [hg]; exact Nat.ne_of_lt (blk_lt (Hof.Bw BK996.out)) : gb996 ≠ gb1023)); have NB1023_996 := Aside0.mk ((by rw [hg]; exact Nat.ne_of_gt (blk_lt (Hof.Bw BK996.out)) : gb1023 ≠ gb996)); replace BK996 := Aside0.mk (blk_below (Hof.Bw BK996.out) hb); have NB997_1023 := Aside0.mk ((by rw [hg]; exact Nat.ne_of_lt (blk_lt (Hof.Bw BK997.out)) : gb997 ≠ gb1023)); have NB1023_997 := Aside0.mk ((by rw [hg]; exact Nat.ne_of_gt (blk_lt (Hof.Bw BK997.out)) : gb1023 ≠ gb997)); replace BK997 := Aside0.mk (blk_below (Hof.Bw BK997.out) hb); have NB1013_1023 := Aside0.mk ((by rw [hg]; exact Nat.ne_of_lt (blk_lt (Hof.Bw BK1013.out)) : gb1013 ≠ gb1023)); have NB1023_1013 := Aside0.mk ((by rw [hg]; exact Nat.ne_of_gt (blk_lt (Hof.Bw BK1013.out)) : gb1023 ≠ gb1013)); replace BK1013 := Aside0.mk (blk_below (Hof.Bw BK1013.out) hb); have NB1018_1023 := Aside0.mk ((by rw [hg]; exact Nat.ne_of_lt (blk_lt (Hof.Bw BK1018.out)) : gb1018 ≠ gb1023)); have NB1023_1018 := Aside0.mk ((by rw [hg]; exact Nat.ne_of_gt (blk_lt (Hof.Bw BK1018.out)) : gb1023 ≠ gb1018)); replace BK1018 := Aside0.mk (blk_below (Hof.Bw BK1018.out) hb); clear hb hbox hg; have hnb57 := NB1023_996.out; have hnc57 := NB996_1023.out; have hnb58 := NB1023_997.out; have hnc58 := NB997_1023.out; have hnb59 := NB1023_1013.out; have hnc59 := NB1013_1023.out; have hnb60 := NB1023_1018.out; have hnc60 := NB1018_1023.out; obtain ⟨hcz61_0, hcz61_1, hfz61_0, hfz61_1⟩ := Hof.blk2 BK1023.out; obtain ⟨Ao62, co62, eo62⟩ := Kd.R_slice HO1022.out; subst eo62; obtain ⟨hcz63_0, hcz63_1, hfz63_0, hfz63_1⟩ := Hof.blk2 BK1018.out) | ((with_reducible refine gate_callee (f := 44) rfl ?_); refine goesL_ (some 42) rfl rfl Try.func44 (by kernel_rfl) rfl #[.agg #[.int .i64 t1014, .slice Ao52 t1015.length co52], .agg #[.int .i64 t1019, .slice Ao62 t1020.length co62]] rfl (by (try simp only [List.map_toArray, List.map_cons, List.map_nil]); first | done | rfl) ?_; (with_reducible refine (impl_UnionOf.calls k t1014 _ _ t1015 t1019 _ _ t1020 t1024 t1025 t1028 _ ?side1 ?side2 ?side3 ?side4 A24.out).mono ?_); (case side1 => refine (Kd.R_reads' (e := 3) (base := w.heap.size) (ok := fun k_ => ((((True ∧ some k_ ≠ (v1002 : Value).ownBlock) ∧ some k_ ≠ (v1006 : Value).ownBlock) ∧ some k_ ≠ (.slice Ao42 t1009.length co42 : Value).ownBlock) ∧ some k_ ≠ (.slice Ao62 t1020.length co62 : Value).ownBlock)) (n := t1015.length) (c := co52) ?_).2.2; exact (laws_FnExactUnionOf.Rf HO1017.out BK1023.out (by decide))); (case side2 => exact (Kd.R_reads' HO1017.out).2.1); (case side3 => refine (Kd.R_reads' (e := 3) (base := w.heap.size) (ok := fun k_ => ((((True ∧ some k_ ≠ (v1002 : Value).ownBlock) ∧ some k_ ≠ (v1006 : Value).ownBlock) ∧ some k_ ≠ (.slice Ao42 t1009.length co42 : Value).ownBlock) ∧ some k_ ≠ (.slice Ao52 t1015.length co52 : Value).ownBlock)) (n := t1020.length) (c := co62) ?_).2.2; exact (laws_FnExactUnionOf.Rf HO1022.out BK1023.out (by decide))); (case side4 => exact (Kd.R_reads' HO1022.out).2.1); rintro e w64 ⟨v1026, rfl, ho0, hb⟩; refine ⟨_, rfl, ?_⟩; have HO1027 := Aside0.mk (Kd.R_lower (Kd.R_new' (Kd.R_new' (Kd.R_new' (Kd.R_new' (Kd.R_new' ho0 (Kd.R_lt (laws_FnExactUnionOf.Rf HO1003.out BK1023.out (by decide)))) (Kd.R_lt (laws_FnExactUnionOf.Rf HO1007.out BK1023.out (by decide)))) (Kd.R_lt (laws_FnExactUnionOf.Rf HO1011.out BK1023.out (by decide)))) (Kd.R_lt (laws_FnExactUnionOf.Rf HO1017.out BK1023.out (by decide)))) (Kd.R_lt (laws_FnExactUnionOf.Rf HO1022.out BK1023.out (by decide)))) (below_size (by first | exact Hof.Lw HB.out | exact laws_FnExactUnionOf.Ls HB.out GE1023.out))); replace HO1003 := Aside0.mk (Kd.R_elder' (laws_FnExactUnionOf.Rf HO1003.out BK1023.out (by decide)) (Kd.R_base ho0) hb); replace HO1007 := Aside0.mk (Kd.R_elder' (laws_FnExactUnionOf.Rf HO1007.out BK1023.out (by decide)) (Kd.R_base ho0) hb); replace HO1011 := Aside0.mk (Kd.R_elder' (laws_FnExactUnionOf.Rf HO1011.out BK1023.out (by decide)) (Kd.R_base ho0) hb); replace HO1017 := Aside0.mk (Kd.R_elder' (laws_FnExactUnionOf.Rf HO1017.out BK1023.out (by decide)) (Kd.R_base ho0) hb); replace HO1022 := Aside0.mk (Kd.R_elder' (laws_FnExactUnionOf.Rf HO1022.out BK1023.out (by decide)) (Kd.R_base ho0) hb); replace BK996 := Aside0.mk (blk_below (laws_FnExactUnionOf.Bf BK996.out NB996_1023.out) hb); replace BK997 := Aside0.mk (blk_below (laws_FnExactUnionOf.Bf BK997.out NB997_1023.out) hb); replace BK1013 := Aside0.mk (blk_below (laws_FnExactUnionOf.Bf BK1013.out NB1013_1023.out) hb); replace BK1018 := Aside0.mk (blk_below (laws_FnExactUnionOf.Bf BK1018.out NB1018_1023.out) hb); replace BK1023 := Aside0.mk (blk_below (g := gb1023) (o := .cells #[.int .i64 t1019, .slice Ao62 t1020.length co62] 45 (0, 0)) (by (with_reducible repeat (first | refine blk_drewN ?_ _ | refine blk_drew ?_ | refine blk_alloc ?_ _)); refine blk_put (cs := #[.int .i64 t1019, .slice none 0 0]) ?_ 1 _ rfl; (with_reducible repeat (first | refine blk_drewN ?_ _ | refine blk_drew ?_ | refine blk_alloc ?_ _)); refine blk_put (cs := #[.int .i64 0, .slice none 0 0]) ?_ 0 _ rfl; (with_reducible repeat (first | refine blk_drewN ?_ _ | refine blk_drew ?_ | refine blk_alloc ?_ _)); exact BK1023.out) hb); replace HB := Aside0.mk (below_step (by first | exact Hof.Lw HB.out | exact laws_FnExactUnionOf.Ls HB.out GE1023.out) hb); (try clear hb); (try clear hb2); (try clear hk); (try clear hi); (try clear ho0)) | ((with_reducible refine gate_dst (N := 10) rfl ?_); refine box_event ?hg (N := 10) ?hd (cs := #[.int .i64 0, .slice none 0 0]) (t := 45) ?hr ?_; (case hd => rfl); (case hg => rfl); (case hr => first | (go_simp; done) | (go_simp; rfl)); intro gb1029 hg w65 hbox hb; replace HO1003 := Aside0.mk (Kd.R_below (Hof.Rw HO1003.out) hb); replace HO1007 := Aside0.mk (Kd.R_below (Hof.Rw HO1007.out) hb); replace HO1011 := Aside0.mk (Kd.R_below (Hof.Rw HO1011.out) hb); replace HO1017 := Aside0.mk (Kd.R_below (Hof.Rw HO1017.out) hb); replace HO1022 := Aside0.mk (Kd.R_below (Hof.Rw HO1022.out) hb); replace HO1027 := Aside0.mk (Kd.R_below (Hof.Rw HO1027.out) hb); have BK1029 := Aside0.mk hbox; have GW1029 := Aside0.mk ((by rw [hg]; exact (below_size (by first | exact Hof.Lw HB.out | exact laws_FnExactUnionOf.Ls HB.out GE1023.out)) : w.heap.size ≤ gb1029)); have GE1029 := Aside0.mk ((by rw [hg]; exact (below_size (by first | exact Hof.Lw HB.out | exact laws_FnExactUnionOf.Ls HB.out GE1023.out)) : w.heap.size ≤ gb1029)); replace HB := Aside0.mk (below_step (by first | exact Hof.Lw HB.out | exact laws_FnExactUnionOf.Ls HB.out GE1023.out) hb); have NB996_1029 := Aside0.mk ((by rw [hg]; exact Nat.ne_of_lt (blk_lt (Hof.Bw BK996.out)) : gb996 ≠ gb1029)); have NB1029_996 := Aside0.mk ((by rw [hg]; exact Nat.ne_of_gt (blk_lt (Hof.Bw BK996.out)) : gb1029 ≠ gb996)); replace BK996 := Aside0.mk (blk_below (Hof.Bw BK996.out) hb); have NB997_1029 := Aside0.mk ((by rw [hg]; exact Nat.ne_of_lt (blk_lt (Hof.Bw BK997.out)) : gb997 ≠ gb1029)); have NB1029_997 := Aside0.mk ((by rw [hg]; exact Nat.ne_of_gt (blk_lt (Hof.Bw BK997.out)) : gb1029 ≠ gb997)); replace BK997 := Aside0.mk (blk_below (Hof.Bw BK997.out) hb); have NB1013_1029 := Aside0.mk ((by rw [hg]; exact Nat.ne_of_lt (blk_lt (Hof.Bw BK1013.out)) : gb1013 ≠ gb1029)); have NB1029_1013 := Aside0.mk ((by rw [hg]; exact Nat.ne_of_gt (blk_lt (Hof.Bw BK1013.out)) : gb1029 ≠ gb1013)); replace BK1013 := Aside0.mk (blk_below (Hof.Bw BK1013.out) hb); have NB1018_1029 := Aside0.mk ((by rw [hg]; exact Nat.ne_of_lt (blk_lt (Hof.Bw BK1018.out)) : gb1018 ≠ gb1029)); have NB1029_1018 := Aside0.mk ((by rw [hg]; exact Nat.ne_of_gt (blk_lt (Hof.Bw BK1018.out)) : gb1029 ≠ gb1018)); replace BK1018 := Aside0.mk (blk_below (Hof.Bw BK1018.out) hb); have NB1023_1029 := Aside0.mk ((by rw [hg]; exact Nat.ne_of_lt (blk_lt (Hof.Bw BK1023.out)) : gb1023 ≠ gb1029)); have NB1029_1023 := Aside0.mk ((by rw [hg]; exact Nat.ne_of_gt (blk_lt (Hof.Bw BK1023.out)) : gb1029 ≠ gb1023)); replace BK1023 := Aside0.mk (blk_below (Hof.Bw BK1023.out) hb); clear hb hbox hg; have hnb66 := NB1029_996.out; have hnc66 := NB996_1029.out; have hnb67 := NB1029_997.out; have hnc67 := NB997_1029.out; have hnb68 := NB1029_1013.out; have hnc68 := NB1013_1029.out; have hnb69 := NB1029_1018.out; have hnc69 := NB1018_1029.out; have hnb70 := NB1029_1023.out; have hnc70 := NB1023_1029.out; obtain ⟨hcz71_0, hcz71_1, hfz71_0, hfz71_1⟩ := Hof.blk2 BK1029.out; obtain ⟨Ao72, co72, eo72⟩ := Kd.R_slice HO1027.out; subst eo72))
   (try simp only [Act.put, List.setIfInBounds_toArray, List.set_cons_zero, List.set_cons_succ])
   go_cut [53] (fun v53 wc => ∃ (kq : Nat) (x53_24 : Bool), v53 = .bool x53_24 ∧ Aside0 (laws_FnExactUnionOf.j0 kq t1012 t1028 x53_24 a0_0 l0_1 a1_0 l1_1 t1008 t1009 t1014 t1015 t1019 t1020 t1024 t1025 = some r) ∧ Aside0 (kq ≤ k) ∧ Aside0 (Kd.R (Kd.int .i64) 3 wc w.heap.size (fun k_ => some k_ ≠ ((.slice Ao52 t1015.length co52) : Value).ownBlock ∧ some k_ ≠ ((.slice Ao62 t1020.length co62) : Value).ownBlock ∧ some k_ ≠ ((.slice Ao72 t1025.length co72) : Value).ownBlock) (.slice Ao42 t1009.length co42) t1009) ∧ Aside0 (Kd.R (Kd.int .i64) 3 wc w.heap.size (fun k_ => some k_ ≠ ((.slice Ao42 t1009.length co42) : Value).ownBlock ∧ some k_ ≠ ((.slice Ao62 t1020.length co62) : Value).ownBlock ∧ some k_ ≠ ((.slice Ao72 t1025.length co72) : Value).ownBlock) (.slice Ao52 t1015.length co52) t1015) ∧ Aside0 (Kd.R (Kd.int .i64) 3 wc w.heap.size (fun k_ => some k_ ≠ ((.slice Ao42 t1009.length co42) : Value).ownBlock ∧ some k_ ≠ ((.slice Ao52 t1015.length co52) : Value).ownBlock ∧ some k_ ≠ ((.slice Ao72 t1025.length co72) : Value).ownBlock) (.slice Ao62 t1020.length co62) t1020) ∧ Aside0 (Kd.R (Kd.int .i64) 3 wc w.heap.size (fun k_ => some k_ ≠ ((.slice Ao42 t1009.length co42) : Value).ownBlock ∧ some k_ ≠ ((.slice Ao52 t1015.length co52) : Value).ownBlock ∧ some k_ ≠ ((.slice Ao62 t1020.length co62) : Value).ownBlock) (.slice Ao72 t1025.length co72) t1025) ∧ Aside0 (wc.heap[gb996]? = some (.cells #[.int .i64 a0_0, (.slice A0_1 l0_1.length c0_1)] 42 (0, 0))) ∧ Aside0 (wc.heap[gb997]? = some (.cells #[.int .i64 a1_0, (.slice A1_1 l1_1.length c1_1)] 42 (0, 0))) ∧ Aside0 (wc.heap[gb1013]? = some (.cells #[.int .i64 t1008, (.slice Ao42 t1009.length co42)] 45 (0, 0))) ∧ Aside0 (wc.heap[gb1018]? = some (.cells #[.int .i64 t1014, (.slice Ao52 t1015.length co52)] 45 (0, 0))) ∧ Aside0 (wc.heap[gb1023]? = some (.cells #[.int .i64 t1019, (.slice Ao62 t1020.length co62)] 45 (0, 0))) ∧ Aside0 (wc.heap[gb1029]? = some (.cells #[.int .i64 t1024, (.slice Ao72 t1025.length co72)] 45 (0, 0))) ∧ Aside0 (Below w.heap.size w wc))
   case first =>
    have H := HC25.out
    clear HC25
    replace H := Option.bind_eq_some_iff.mp H
    obtain ⟨t1030, A730, H⟩ := H
    (try dsimp only at H)
    have A73 := Aside0.mk A730
    clear A730
    by_cases c74 : t1030 = true
    ·subst c74
     have H1 : (laws_FnExactUnionOf.j0 k t1012 t1028 (t1028 != t1012) a0_0 l0_1 a1_0 l1_1 t1008 t1009 t1014 t1015 t1019 t1020 t1024 t1025) = some r := by rw [if_pos rfl] at H; exact H
     clear H
     have H := H1
     clear H1
     have H' := Aside0.mk H
     clear H
     have hnb75 := NB1029_996.out
     have hnc75 := NB996_1029.out
     have hnb76 := NB1029_997.out
     have hnc76 := NB997_1029.out
     have hnb77 := NB1029_1013.out
     have hnc77 := NB1013_1029.out
     have hnb78 := NB1029_1018.out
     have hnc78 := NB1018_1029.out
     have hnb79 := NB1029_1023.out
     have hnc79 := NB1023_1029.out
     obtain ⟨hcz80_0, hcz80_1, hfz80_0, hfz80_1⟩ := Hof.blk2 BK1029.out
     have hnb81 := NB1013_996.out
     have hnc81 := NB996_1013.out
     have hnb82 := NB1013_997.out
     have hnc82 := NB997_1013.out
     have hnb83 := NB1013_1018.out
     have hnc83 := NB1018_1013.out
     have hnb84 := NB1013_1023.out
     have hnc84 := NB1023_1013.out
     obtain ⟨hcz85_0, hcz85_1, hfz85_0, hfz85_1⟩ := Hof.blk2 BK1013.out
     go_wp2_with (first | ((with_reducible refine gate_callee (f := 36) rfl ?_); refine goesL_ (some 47) rfl rfl Try.func36 (by kernel_rfl) rfl #[.agg #[.int .i64 t1024, .slice Ao72 t1025.length co72], .agg #[.int .i64 t1008, .slice Ao42 t1009.length co42]] rfl (by (try simp only [List.map_toArray, List.map_cons, List.map_nil]); first | done | rfl) ?_; (with_reducible refine (laws_eqMatroid.calls k t1024 _ _ t1025 t1008 _ _ t1009 true _ ?side1 ?side2 ?side3 ?side4 A73.out).mono ?_); (case side1 => refine (Kd.R_reads' (e := 3) (base := w.heap.size) (ok := fun k_ => (((((True ∧ some k_ ≠ (v1002 : Value).ownBlock) ∧ some k_ ≠ (v1006 : Value).ownBlock) ∧ some k_ ≠ (.slice Ao42 t1009.length co42 : Value).ownBlock) ∧ some k_ ≠ (.slice Ao52 t1015.length co52 : Value).ownBlock) ∧ some k_ ≠ (.slice Ao62 t1020.length co62 : Value).ownBlock)) (n := t1025.length) (c := co72) ?_).2.2; exact (laws_FnExactUnionOf.Rf HO1027.out BK1029.out (by decide))); (case side2 => exact (Kd.R_reads' HO1027.out).2.1); (case side3 => refine (Kd.R_reads' (e := 3) (base := w.heap.size) (ok := fun k_ => ((((some k_ ≠ (v1002 : Value).ownBlock ∧ some k_ ≠ (v1006 : Value).ownBlock) ∧ some k_ ≠ (.slice Ao52 t1015.length co52 : Value).ownBlock) ∧ some k_ ≠ (.slice Ao62 t1020.length co62 : Value).ownBlock) ∧ some k_ ≠ (.slice Ao72 t1025.length co72 : Value).ownBlock)) (n := t1009.length) (c := co42) ?_).2.2; exact (laws_FnExactUnionOf.Rf HO1011.out BK1029.out (by decide))); (case side4 => exact (Kd.R_reads' HO1011.out).2.1); rintro e w86 ⟨rfl, hb⟩; refine ⟨_, rfl, ?_⟩; replace HO1003 := Aside0.mk (Kd.R_below (laws_FnExactUnionOf.Rf HO1003.out BK1029.out (by decide)) hb); replace HO1007 := Aside0.mk (Kd.R_below (laws_FnExactUnionOf.Rf HO1007.out BK1029.out (by decide)) hb); replace HO1011 := Aside0.mk (Kd.R_below (laws_FnExactUnionOf.Rf HO1011.out BK1029.out (by decide)) hb); replace HO1017 := Aside0.mk (Kd.R_below (laws_FnExactUnionOf.Rf HO1017.out BK1029.out (by decide)) hb); replace HO1022 := Aside0.mk (Kd.R_below (laws_FnExactUnionOf.Rf HO1022.out BK1029.out (by decide)) hb); replace HO1027 := Aside0.mk (Kd.R_below (laws_FnExactUnionOf.Rf HO1027.out BK1029.out (by decide)) hb); replace BK996 := Aside0.mk (blk_below (laws_FnExactUnionOf.Bf BK996.out NB996_1029.out) hb); replace BK997 := Aside0.mk (blk_below (laws_FnExactUnionOf.Bf BK997.out NB997_1029.out) hb); replace BK1013 := Aside0.mk (blk_below (laws_FnExactUnionOf.Bf BK1013.out NB1013_1029.out) hb); replace BK1018 := Aside0.mk (blk_below (laws_FnExactUnionOf.Bf BK1018.out NB1018_1029.out) hb); replace BK1023 := Aside0.mk (blk_below (laws_FnExactUnionOf.Bf BK1023.out NB1023_1029.out) hb); replace BK1029 := Aside0.mk (blk_below (g := gb1029) (o := .cells #[.int .i64 t1024, .slice Ao72 t1025.length co72] 45 (0, 0)) (by (with_reducible repeat (first | refine blk_drewN ?_ _ | refine blk_drew ?_ | refine blk_alloc ?_ _)); refine blk_put (cs := #[.int .i64 t1024, .slice none 0 0]) ?_ 1 _ rfl; (with_reducible repeat (first | refine blk_drewN ?_ _ | refine blk_drew ?_ | refine blk_alloc ?_ _)); refine blk_put (cs := #[.int .i64 0, .slice none 0 0]) ?_ 0 _ rfl; (with_reducible repeat (first | refine blk_drewN ?_ _ | refine blk_drew ?_ | refine blk_alloc ?_ _)); exact BK1029.out) hb); replace HB := Aside0.mk (below_step (by first | exact Hof.Lw HB.out | exact laws_FnExactUnionOf.Ls HB.out GE1029.out) hb); (try clear hb); (try clear hb2); (try clear hk); (try clear hi)))
     go_meet
     case rel => exact ⟨_, ((t1028 != t1012)), (by first | rfl | (simp; done) | (simp [*]; done)), H', ⟨by first | omega | exact Nat.le_refl _⟩, ⟨Hof.Rw (Kd.R_mono HO1011.out (fun _ hk => ⟨hk.1.1.2, ⟨hk.1.2, hk.2⟩⟩))⟩, ⟨Hof.Rw (Kd.R_mono HO1017.out (fun _ hk => ⟨hk.1.1.2, ⟨hk.1.2, hk.2⟩⟩))⟩, ⟨Hof.Rw (Kd.R_mono HO1022.out (fun _ hk => ⟨hk.1.1.2, ⟨hk.1.2, hk.2⟩⟩))⟩, ⟨Hof.Rw (Kd.R_mono HO1027.out (fun _ hk => ⟨hk.1.1.2, ⟨hk.1.2, hk.2⟩⟩))⟩, ⟨Hof.Bw BK996.out⟩, ⟨Hof.Bw BK997.out⟩, ⟨Hof.Bw BK1013.out⟩, ⟨Hof.Bw BK1018.out⟩, ⟨Hof.Bw BK1023.out⟩, ⟨Hof.Bw BK1029.out⟩, ⟨by repeat (first | (with_reducible first | exact HB.out | apply below_alloc | apply pw_below_drewN | apply below_drew1 | refine below_set ?_ GE996.out | refine below_set ?_ GE997.out | refine below_set ?_ GE1013.out | refine below_set ?_ GE1018.out | refine below_set ?_ GE1023.out | refine below_set ?_ GE1029.out) | exact HB.out)⟩⟩
    ·replace c74 := Bool.eq_false_iff.mpr c74
     subst c74
     have H1 : (laws_FnExactUnionOf.j0 k t1012 t1028 true a0_0 l0_1 a1_0 l1_1 t1008 t1009 t1014 t1015 t1019 t1020 t1024 t1025) = some r := by rw [if_neg (show ¬ (false = true) by decide)] at H; exact H
     clear H
     have H := H1
     clear H1
     have H' := Aside0.mk H
     clear H
     have hnb87 := NB1029_996.out
     have hnc87 := NB996_1029.out
     have hnb88 := NB1029_997.out
     have hnc88 := NB997_1029.out
     have hnb89 := NB1029_1013.out
     have hnc89 := NB1013_1029.out
     have hnb90 := NB1029_1018.out
     have hnc90 := NB1018_1029.out
     have hnb91 := NB1029_1023.out
     have hnc91 := NB1023_1029.out
     obtain ⟨hcz92_0, hcz92_1, hfz92_0, hfz92_1⟩ := Hof.blk2 BK1029.out
     have hnb93 := NB1013_996.out
     have hnc93 := NB996_1013.out
     have hnb94 := NB1013_997.out
     have hnc94 := NB997_1013.out
     have hnb95 := NB1013_1018.out
     have hnc95 := NB1018_1013.out
     have hnb96 := NB1013_1023.out
     have hnc96 := NB1023_1013.out
     obtain ⟨hcz97_0, hcz97_1, hfz97_0, hfz97_1⟩ := Hof.blk2 BK1013.out
     go_wp2_with (first | ((with_reducible refine gate_callee (f := 36) rfl ?_); refine goesL_ (some 47) rfl rfl Try.func36 (by kernel_rfl) rfl #[.agg #[.int .i64 t1024, .slice Ao72 t1025.length co72], .agg #[.int .i64 t1008, .slice Ao42 t1009.length co42]] rfl (by (try simp only [List.map_toArray, List.map_cons, List.map_nil]); first | done | rfl) ?_; (with_reducible refine (laws_eqMatroid.calls k t1024 _ _ t1025 t1008 _ _ t1009 false _ ?side1 ?side2 ?side3 ?side4 A73.out).mono ?_); (case side1 => refine (Kd.R_reads' (e := 3) (base := w.heap.size) (ok := fun k_ => (((((True ∧ some k_ ≠ (v1002 : Value).ownBlock) ∧ some k_ ≠ (v1006 : Value).ownBlock) ∧ some k_ ≠ (.slice Ao42 t1009.length co42 : Value).ownBlock) ∧ some k_ ≠ (.slice Ao52 t1015.length co52 : Value).ownBlock) ∧ some k_ ≠ (.slice Ao62 t1020.length co62 : Value).ownBlock)) (n := t1025.length) (c := co72) ?_).2.2; exact (laws_FnExactUnionOf.Rf HO1027.out BK1029.out (by decide))); (case side2 => exact (Kd.R_reads' HO1027.out).2.1); (case side3 => refine (Kd.R_reads' (e := 3) (base := w.heap.size) (ok := fun k_ => ((((some k_ ≠ (v1002 : Value).ownBlock ∧ some k_ ≠ (v1006 : Value).ownBlock) ∧ some k_ ≠ (.slice Ao52 t1015.length co52 : Value).ownBlock) ∧ some k_ ≠ (.slice Ao62 t1020.length co62 : Value).ownBlock) ∧ some k_ ≠ (.slice Ao72 t1025.length co72 : Value).ownBlock)) (n := t1009.length) (c := co42) ?_).2.2; exact (laws_FnExactUnionOf.Rf HO1011.out BK1029.out (by decide))); (case side4 => exact (Kd.R_reads' HO1011.out).2.1); rintro e w98 ⟨rfl, hb⟩; refine ⟨_, rfl, ?_⟩; replace HO1003 := Aside0.mk (Kd.R_below (laws_FnExactUnionOf.Rf HO1003.out BK1029.out (by decide)) hb); replace HO1007 := Aside0.mk (Kd.R_below (laws_FnExactUnionOf.Rf HO1007.out BK1029.out (by decide)) hb); replace HO1011 := Aside0.mk (Kd.R_below (laws_FnExactUnionOf.Rf HO1011.out BK1029.out (by decide)) hb); replace HO1017 := Aside0.mk (Kd.R_below (laws_FnExactUnionOf.Rf HO1017.out BK1029.out (by decide)) hb); replace HO1022 := Aside0.mk (Kd.R_below (laws_FnExactUnionOf.Rf HO1022.out BK1029.out (by decide)) hb); replace HO1027 := Aside0.mk (Kd.R_below (laws_FnExactUnionOf.Rf HO1027.out BK1029.out (by decide)) hb); replace BK996 := Aside0.mk (blk_below (laws_FnExactUnionOf.Bf BK996.out NB996_1029.out) hb); replace BK997 := Aside0.mk (blk_below (laws_FnExactUnionOf.Bf BK997.out NB997_1029.out) hb); replace BK1013 := Aside0.mk (blk_below (laws_FnExactUnionOf.Bf BK1013.out NB1013_1029.out) hb); replace BK1018 := Aside0.mk (blk_below (laws_FnExactUnionOf.Bf BK1018.out NB1018_1029.out) hb); replace BK1023 := Aside0.mk (blk_below (laws_FnExactUnionOf.Bf BK1023.out NB1023_1029.out) hb); replace BK1029 := Aside0.mk (blk_below (g := gb1029) (o := .cells #[.int .i64 t1024, .slice Ao72 t1025.length co72] 45 (0, 0)) (by (with_reducible repeat (first | refine blk_drewN ?_ _ | refine blk_drew ?_ | refine blk_alloc ?_ _)); refine blk_put (cs := #[.int .i64 t1024, .slice none 0 0]) ?_ 1 _ rfl; (with_reducible repeat (first | refine blk_drewN ?_ _ | refine blk_drew ?_ | refine blk_alloc ?_ _)); refine blk_put (cs := #[.int .i64 0, .slice none 0 0]) ?_ 0 _ rfl; (with_reducible repeat (first | refine blk_drewN ?_ _ | refine blk_drew ?_ | refine blk_alloc ?_ _)); exact BK1029.out) hb); replace HB := Aside0.mk (below_step (by first | exact Hof.Lw HB.out | exact laws_FnExactUnionOf.Ls HB.out GE1029.out) hb); (try clear hb); (try clear hb2); (try clear hk); (try clear hi)))
     go_meet
     case rel => exact ⟨_, (true), (by first | rfl | (simp; done) | (simp [*]; done)), H', ⟨by first | omega | exact Nat.le_refl _⟩, ⟨Hof.Rw (Kd.R_mono HO1011.out (fun _ hk => ⟨hk.1.1.2, ⟨hk.1.2, hk.2⟩⟩))⟩, ⟨Hof.Rw (Kd.R_mono HO1017.out (fun _ hk => ⟨hk.1.1.2, ⟨hk.1.2, hk.2⟩⟩))⟩, ⟨Hof.Rw (Kd.R_mono HO1022.out (fun _ hk => ⟨hk.1.1.2, ⟨hk.1.2, hk.2⟩⟩))⟩, ⟨Hof.Rw (Kd.R_mono HO1027.out (fun _ hk => ⟨hk.1.1.2, ⟨hk.1.2, hk.2⟩⟩))⟩, ⟨Hof.Bw BK996.out⟩, ⟨Hof.Bw BK997.out⟩, ⟨Hof.Bw BK1013.out⟩, ⟨Hof.Bw BK1018.out⟩, ⟨Hof.Bw BK1023.out⟩, ⟨Hof.Bw BK1029.out⟩, ⟨by repeat (first | (with_reducible first | exact HB.out | apply below_alloc | apply pw_below_drewN | apply below_drew1 | refine below_set ?_ GE996.out | refine below_set ?_ GE997.out | refine below_set ?_ GE1013.out | refine below_set ?_ GE1018.out | refine below_set ?_ GE1023.out | refine below_set ?_ GE1029.out) | exact HB.out)⟩⟩
   case rest =>
    clear HC25
    try clear c1
    try clear p2
    try clear c3
    try clear c4
    try clear c5
    try clear c6
    try clear c7
    try clear c8
    try clear c9
    try clear c34
    try clear c36
    try clear c43
    try clear c44
    try clear c48
    try clear c49
    try clear c50
    try clear c53
    try clear c57
    try clear c58
    try clear c59
    try clear c60
    try clear c66
    try clear c67
    try clear c68
    try clear c69
    try clear c70
    try clear c74
    try clear c75
    try clear c76
    try clear c77
    try clear c78
    try clear c79
    try clear c81
    try clear c82
    try clear c83
    try clear c84
    try clear c87
    try clear c88
    try clear c89
    try clear c90
    try clear c91
    try clear c93
    try clear c94
    try clear c95
    try clear c96
    try clear hcz45_0
    try clear hcz45_1
    try clear hcz51_0
    try clear hcz51_1
    try clear hcz54_0
    try clear hcz54_1
    try clear hcz61_0
    try clear hcz61_1
    try clear hcz63_0
    try clear hcz63_1
    try clear hcz71_0
    try clear hcz71_1
    try clear hcz80_0
    try clear hcz80_1
    try clear hcz85_0
    try clear hcz85_1
    try clear hcz92_0
    try clear hcz92_1
    try clear hcz97_0
    try clear hcz97_1
    try clear hfz45_0
    try clear hfz45_1
    try clear hfz51_0
    try clear hfz51_1
    try clear hfz54_0
    try clear hfz54_1
    try clear hfz61_0
    try clear hfz61_1
    try clear hfz63_0
    try clear hfz63_1
    try clear hfz71_0
    try clear hfz71_1
    try clear hfz80_0
    try clear hfz80_1
    try clear hfz85_0
    try clear hfz85_1
    try clear hfz92_0
    try clear hfz92_1
    try clear hfz97_0
    try clear hfz97_1
    obtain ⟨kq, x53_24, rfl, HA, HJ24, HO_1014001, HO_1019001, HO_1024001, HO_1030001, BK996, BK997, BK1013, BK1018, BK1023, BK1029, HB⟩ := hcut
    cases kq with
    | zero => exact absurd HA.out (by simp [laws_FnExactUnionOf.j0])
    | succ kj24 =>
     have H := HA.out
     clear HA
     simp only [laws_FnExactUnionOf.j0] at H
     by_cases c99 : x53_24 = true
     ·subst c99
      have H1 : (some false) = some r := by rw [if_pos rfl] at H; exact H
      clear H
      have H := H1
      clear H1
      obtain rfl := Option.some.inj H
      exact absurd hT.out (by decide)
     ·replace c99 := Bool.eq_false_iff.mpr c99
      subst c99
      have H1 : ((laws_toMatroid.f kj24 a0_0 l0_1).bind fun bt1031 => ((laws_eqMatroid.f kj24 t1014 t1015 bt1031.1 bt1031.2).bind fun t1035 => (if t1035 = true then ((laws_toMatroid.f kj24 a1_0 l1_1).bind fun bt1036 => ((laws_eqMatroid.f kj24 t1019 t1020 bt1036.1 bt1036.2).bind fun t1040 => (if t1040 = true then ((laws_markMatroid.f kj24 t1014 t1015 1).bind fun bt1041 => ((laws_markMatroid.f kj24 t1019 t1020 bt1041.1).bind fun bt1043 => (if bt1043.1 < 0 then (laws_FnExactUnionOf.j1 kj24 t1012 true a0_0 l0_1 a1_0 l1_1 t1008 t1009 t1024 t1025) else ((laws_eqMatroid.f kj24 t1024 t1025 t1008 t1009).bind fun t1045 => (if t1045 = true then (laws_FnExactUnionOf.j1 kj24 t1012 (t1028 != t1012) a0_0 l0_1 a1_0 l1_1 t1008 t1009 t1024 t1025) else (laws_FnExactUnionOf.j1 kj24 t1012 true a0_0 l0_1 a1_0 l1_1 t1008 t1009 t1024 t1025)))))) else (some false)))) else (some false)))) = some r := by rw [if_neg (show ¬ (false = true) by decide)] at H; exact H
      clear H
      have H := H1
      clear H1
      replace H := Option.bind_eq_some_iff.mp H
      obtain ⟨⟨t1031, t1032⟩, A1000, H⟩ := H
      (try dsimp only at H)
      have A100 := Aside0.mk A1000
      clear A1000
      replace H := Option.bind_eq_some_iff.mp H
      obtain ⟨t1035, A1010, H⟩ := H
      (try dsimp only at H)
      have A101 := Aside0.mk A1010
      clear A1010
      by_cases c102 : t1035 = true
      ·subst c102
       have H1 : ((laws_toMatroid.f kj24 a1_0 l1_1).bind fun bt1036 => ((laws_eqMatroid.f kj24 t1019 t1020 bt1036.1 bt1036.2).bind fun t1040 => (if t1040 = true then ((laws_markMatroid.f kj24 t1014 t1015 1).bind fun bt1041 => ((laws_markMatroid.f kj24 t1019 t1020 bt1041.1).bind fun bt1043 => (if bt1043.1 < 0 then (laws_FnExactUnionOf.j1 kj24 t1012 true a0_0 l0_1 a1_0 l1_1 t1008 t1009 t1024 t1025) else ((laws_eqMatroid.f kj24 t1024 t1025 t1008 t1009).bind fun t1045 => (if t1045 = true then (laws_FnExactUnionOf.j1 kj24 t1012 (t1028 != t1012) a0_0 l0_1 a1_0 l1_1 t1008 t1009 t1024 t1025) else (laws_FnExactUnionOf.j1 kj24 t1012 true a0_0 l0_1 a1_0 l1_1 t1008 t1009 t1024 t1025)))))) else (some false)))) = some r := by rw [if_pos rfl] at H; exact H
       clear H
       have H := H1
       clear H1
       replace H := Option.bind_eq_some_iff.mp H
       obtain ⟨⟨t1036, t1037⟩, A1030, H⟩ := H
       (try dsimp only at H)
       have A103 := Aside0.mk A1030
       clear A1030
       replace H := Option.bind_eq_some_iff.mp H
       obtain ⟨t1040, A1040, H⟩ := H
       (try dsimp only at H)
       have A104 := Aside0.mk A1040
       clear A1040
       by_cases c105 : t1040 = true
       ·subst c105
        have H1 : ((laws_markMatroid.f kj24 t1014 t1015 1).bind fun bt1041 => ((laws_markMatroid.f kj24 t1019 t1020 bt1041.1).bind fun bt1043 => (if bt1043.1 < 0 then (laws_FnExactUnionOf.j1 kj24 t1012 true a0_0 l0_1 a1_0 l1_1 t1008 t1009 t1024 t1025) else ((laws_eqMatroid.f kj24 t1024 t1025 t1008 t1009).bind fun t1045 => (if t1045 = true then (laws_FnExactUnionOf.j1 kj24 t1012 (t1028 != t1012) a0_0 l0_1 a1_0 l1_1 t1008 t1009 t1024 t1025) else (laws_FnExactUnionOf.j1 kj24 t1012 true a0_0 l0_1 a1_0 l1_1 t1008 t1009 t1024 t1025)))))) = some r := by rw [if_pos rfl] at H; exact H
        clear H
        have H := H1
        clear H1
        replace H := Option.bind_eq_some_iff.mp H
        obtain ⟨⟨t1041, t1042⟩, A1060, H⟩ := H
        (try dsimp only at H)
        have A106 := Aside0.mk A1060
        clear A1060
        replace H := Option.bind_eq_some_iff.mp H
        obtain ⟨⟨t1043, t1044⟩, A1070, H⟩ := H
        (try dsimp only at H)
        have A107 := Aside0.mk A1070
        clear A1070
        have HC108 := Aside0.mk H
        clear H
        try go_wp2
        have n0_ := Aside0.mk (Kd.R_drew HO_1014001.out)
        have n1_ := Aside0.mk (Kd.R_drew HO_1019001.out)
        have n2_ := Aside0.mk (Kd.R_drew HO_1024001.out)
        have n3_ := Aside0.mk (Kd.R_drew HO_1030001.out)
        have n4_ := Aside0.mk (blk_drew BK996.out)
        have n5_ := Aside0.mk (blk_drew BK997.out)
        have n6_ := Aside0.mk (blk_drew BK1013.out)
        have n7_ := Aside0.mk (blk_drew BK1018.out)
        have n8_ := Aside0.mk (blk_drew BK1023.out)
        have n9_ := Aside0.mk (blk_drew BK1029.out)
        have n10_ := Aside0.mk (below_drew1 HB.out)
        clear HO_1014001
        clear HO_1019001
        clear HO_1024001
        clear HO_1030001
        clear BK996
        clear BK997
        clear BK1013
        clear BK1018
        clear BK1023
        clear BK1029
        clear HB
        have HO_1014001 := n0_
        have HO_1019001 := n1_
        have HO_1024001 := n2_
        have HO_1030001 := n3_
        have BK996 := n4_
        have BK997 := n5_
        have BK1013 := n6_
        have BK1018 := n7_
        have BK1023 := n8_
        have BK1029 := n9_
        have HB := n10_
        clear n0_ n1_ n2_ n3_ n4_ n5_ n6_ n7_ n8_ n9_ n10_
        refine start_ (n := 5) (S := fun w' => w'.cell? ⟨gb1018, 0, none⟩ = some (.int .i64 t1014) ∧ w'.cell? ⟨gb1018, 1, none⟩ = some (.slice Ao52 t1015.length co52) ∧ w'.cell? ⟨gb996, 0, none⟩ = some (.int .i64 a0_0) ∧ w'.cell? ⟨gb996, 1, none⟩ = some (.slice A0_1 l0_1.length c0_1)) (ds := []) #[false, false, false, false, false] (by kernel_rfl) rfl rfl ⟨(blk_cell BK1018.out 0).trans rfl, (blk_cell BK1018.out 1).trans rfl, (blk_cell BK996.out 0).trans rfl, (blk_cell BK996.out 1).trans rfl⟩ (fun hHeld => ?_)
        generalize wc.drew = w109 at HO_1014001 HO_1019001 HO_1024001 HO_1030001 BK996 BK997 BK1013 BK1018 BK1023 BK1029 HB hHeld ⊢
        refine take_ (i := 0) (N := some 54) (v := ?_) (a' := ?_) #[true, false, false, false, false] rfl rfl (by kernel_rfl) (fun _ _ _ h => h) (Or.inl ⟨by rfl, ?_⟩) hHeld ?_ ?_
        rotate_left
        ·rintro w' ⟨s0, s1, s2, s3⟩
         go_simp
         with_reducible rfl
        rotate_left
        ·simp only [Act.put, List.setIfInBounds_toArray, List.set_cons_zero, List.set_cons_succ, i64_w, i32_w]
         rfl
        refine take_ (i := 1) (N := some 55) (v := ?_) (a' := ?_) #[true, true, false, false, false] rfl rfl (by kernel_rfl) (fun _ _ _ h => h) (Or.inl ⟨by rfl, ?_⟩) hHeld ?_ ?_
        rotate_left
        ·rintro w' ⟨s0, s1, s2, s3⟩
         go_simp
         with_reducible rfl
        rotate_left
        ·simp only [Act.put, List.setIfInBounds_toArray, List.set_cons_zero, List.set_cons_succ, i64_w, i32_w]
         rfl
        refine one_ (i := 2) (N := some 56) #[true, true, true, false, false] rfl rfl (by kernel_rfl) (by decide) (fun K hK => ?_)
        refine goes_ Try.func34 (by kernel_rfl) rfl #[.agg #[.int .i64 a0_0, .slice A0_1 l0_1.length c0_1]] (by rfl) rfl rfl (by (try simp only [List.map_toArray, List.map_cons, List.map_nil]); first | done | rfl) ?_
        with_reducible refine (laws_toMatroid.calls kj24 a0_0 _ _ l0_1 t1031 t1032 _ ?side1 ?side2 A100.out).mono ?_
        (case side1 => exact Hof.Cw (Kd.C_below HR0_1.out HB.out))
        (case side2 => exact HC0_1.out)
        rintro e w110 ⟨v1033, rfl, ho0, hb⟩
        refine ⟨_, rfl, ?_⟩
        have HO1034 := Aside0.mk (Kd.R_lower (Kd.R_new' (Kd.R_new' (Kd.R_new' (Kd.R_new' ho0 (Kd.R_lt (Hof.Rw HO_1014001.out))) (Kd.R_lt (Hof.Rw HO_1019001.out))) (Kd.R_lt (Hof.Rw HO_1024001.out))) (Kd.R_lt (Hof.Rw HO_1030001.out))) (below_size (Hof.Lw HB.out)))
        replace HO_1014001 := Aside0.mk (Kd.R_elder' (Hof.Rw HO_1014001.out) (Kd.R_base ho0) hb)
        replace HO_1019001 := Aside0.mk (Kd.R_elder' (Hof.Rw HO_1019001.out) (Kd.R_base ho0) hb)
        replace HO_1024001 := Aside0.mk (Kd.R_elder' (Hof.Rw HO_1024001.out) (Kd.R_base ho0) hb)
        replace HO_1030001 := Aside0.mk (Kd.R_elder' (Hof.Rw HO_1030001.out) (Kd.R_base ho0) hb)
        replace BK996 := Aside0.mk (blk_below (Hof.Bw BK996.out) hb)
        replace BK997 := Aside0.mk (blk_below (Hof.Bw BK997.out) hb)
        replace BK1013 := Aside0.mk (blk_below (Hof.Bw BK1013.out) hb)
        replace BK1018 := Aside0.mk (blk_below (Hof.Bw BK1018.out) hb)
        replace BK1023 := Aside0.mk (blk_below (Hof.Bw BK1023.out) hb)
        replace BK1029 := Aside0.mk (blk_below (Hof.Bw BK1029.out) hb)
        replace HB := Aside0.mk (below_step (Hof.Lw HB.out) hb)
        clear hb ho0
        obtain ⟨Ao111, co111, eo111⟩ := Kd.R_slice HO1034.out
        (first | subst eo111 | (injection eo111 with f1_ f2_ f3_; have f4_ := f1_.symm; have f5_ := f3_.symm; clear f1_ f2_ f3_; subst f4_; subst f5_))
        refine hK.out _ _ ⟨(blk_cell BK1018.out 0).trans rfl, (blk_cell BK1018.out 1).trans rfl, (blk_cell BK996.out 0).trans rfl, (blk_cell BK996.out 1).trans rfl⟩ (fun hHeld => ?_)
        clear hK K
        refine norm_ (a' := ?_) ?_ ?_
        rotate_left
        ·show Act.put _ (some 56) _ = _
         simp only [Act.put, List.setIfInBounds_toArray, List.set_cons_zero, List.set_cons_succ, i64_w, i32_w]
         rfl
        refine one_ (i := 3) (N := some 57) #[true, true, true, true, false] rfl rfl (by kernel_rfl) (by decide) (fun K hK => ?_)
        refine goes_ Try.func36 (by kernel_rfl) rfl #[.agg #[.int .i64 t1014, .slice Ao52 t1015.length co52], .agg #[.int .i64 t1031, .slice Ao111 t1032.length co111]] (by rfl) rfl rfl (by (try simp only [List.map_toArray, List.map_cons, List.map_nil]); first | done | rfl) ?_
        with_reducible refine (laws_eqMatroid.calls kj24 t1014 _ _ t1015 t1031 _ _ t1032 true _ ?side1 ?side2 ?side3 ?side4 A101.out).mono ?_
        (case side1 => exact Hof.Cw ((Kd.R_reads' HO_1019001.out).2.2))
        (case side2 => exact (Kd.R_reads' HO_1019001.out).2.1)
        (case side3 => exact Hof.Cw ((Kd.R_reads' HO1034.out).2.2))
        (case side4 => exact (Kd.R_reads' HO1034.out).2.1)
        rintro e w112 ⟨rfl, hb⟩
        refine ⟨_, rfl, ?_⟩
        replace HO_1014001 := Aside0.mk (Kd.R_below (Hof.Rw HO_1014001.out) hb)
        replace HO_1019001 := Aside0.mk (Kd.R_below (Hof.Rw HO_1019001.out) hb)
        replace HO_1024001 := Aside0.mk (Kd.R_below (Hof.Rw HO_1024001.out) hb)
        replace HO_1030001 := Aside0.mk (Kd.R_below (Hof.Rw HO_1030001.out) hb)
        replace HO1034 := Aside0.mk (Kd.R_below (Hof.Rw HO1034.out) hb)
        replace BK996 := Aside0.mk (blk_below (Hof.Bw BK996.out) hb)
        replace BK997 := Aside0.mk (blk_below (Hof.Bw BK997.out) hb)
        replace BK1013 := Aside0.mk (blk_below (Hof.Bw BK1013.out) hb)
        replace BK1018 := Aside0.mk (blk_below (Hof.Bw BK1018.out) hb)
        replace BK1023 := Aside0.mk (blk_below (Hof.Bw BK1023.out) hb)
        replace BK1029 := Aside0.mk (blk_below (Hof.Bw BK1029.out) hb)
        replace HB := Aside0.mk (below_step (Hof.Lw HB.out) hb)
        clear hb
        refine hK.out _ _ ⟨(blk_cell BK1018.out 0).trans rfl, (blk_cell BK1018.out 1).trans rfl, (blk_cell BK996.out 0).trans rfl, (blk_cell BK996.out 1).trans rfl⟩ (fun hHeld => ?_)
        clear hK K
        refine norm_ (a' := ?_) ?_ ?_
        rotate_left
        ·show Act.put _ (some 57) _ = _
         simp only [Act.put, List.setIfInBounds_toArray, List.set_cons_zero, List.set_cons_succ, i64_w, i32_w]
         rfl
        refine pure_ (i := 4) (N := some 58) (v := ?_) (a' := ?_) #[true, true, true, true, true] rfl rfl (by kernel_rfl) (fun _ _ _ h => h) (Or.inl ⟨by rfl, ?_⟩) ?_ ?_
        rotate_left
        ·intro w'
         go_simp
         with_reducible rfl
        rotate_left
        ·simp only [Act.put, List.setIfInBounds_toArray, List.set_cons_zero, List.set_cons_succ, i64_w, i32_w]
         rfl
        refine done_ (by kernel_rfl) ?_
        try go_wp2
        have n0_ := Aside0.mk (Kd.R_drew HO_1014001.out)
        have n1_ := Aside0.mk (Kd.R_drew HO_1019001.out)
        have n2_ := Aside0.mk (Kd.R_drew HO_1024001.out)
        have n3_ := Aside0.mk (Kd.R_drew HO_1030001.out)
        have n4_ := Aside0.mk (Kd.R_drew HO1034.out)
        have n5_ := Aside0.mk (blk_drew BK996.out)
        have n6_ := Aside0.mk (blk_drew BK997.out)
        have n7_ := Aside0.mk (blk_drew BK1013.out)
        have n8_ := Aside0.mk (blk_drew BK1018.out)
        have n9_ := Aside0.mk (blk_drew BK1023.out)
        have n10_ := Aside0.mk (blk_drew BK1029.out)
        have n11_ := Aside0.mk (below_drew1 HB.out)
        clear HO_1014001
        clear HO_1019001
        clear HO_1024001
        clear HO_1030001
        clear HO1034
        clear BK996
        clear BK997
        clear BK1013
        clear BK1018
        clear BK1023
        clear BK1029
        clear HB
        have HO_1014001 := n0_
        have HO_1019001 := n1_
        have HO_1024001 := n2_
        have HO_1030001 := n3_
        have HO1034 := n4_
        have BK996 := n5_
        have BK997 := n6_
        have BK1013 := n7_
        have BK1018 := n8_
        have BK1023 := n9_
        have BK1029 := n10_
        have HB := n11_
        clear n0_ n1_ n2_ n3_ n4_ n5_ n6_ n7_ n8_ n9_ n10_ n11_
        refine start_ (n := 5) (S := fun w' => w'.cell? ⟨gb1023, 0, none⟩ = some (.int .i64 t1019) ∧ w'.cell? ⟨gb1023, 1, none⟩ = some (.slice Ao62 t1020.length co62) ∧ w'.cell? ⟨gb997, 0, none⟩ = some (.int .i64 a1_0) ∧ w'.cell? ⟨gb997, 1, none⟩ = some (.slice A1_1 l1_1.length c1_1)) (ds := []) #[false, false, false, false, false] (by kernel_rfl) rfl rfl ⟨(blk_cell BK1023.out 0).trans rfl, (blk_cell BK1023.out 1).trans rfl, (blk_cell BK997.out 0).trans rfl, (blk_cell BK997.out 1).trans rfl⟩ (fun hHeld => ?_)
        generalize w112.drew = w113 at HO_1014001 HO_1019001 HO_1024001 HO_1030001 HO1034 BK996 BK997 BK1013 BK1018 BK1023 BK1029 HB hHeld ⊢
        refine take_ (i := 0) (N := some 59) (v := ?_) (a' := ?_) #[true, false, false, false, false] rfl rfl (by kernel_rfl) (fun _ _ _ h => h) (Or.inl ⟨by rfl, ?_⟩) hHeld ?_ ?_
        rotate_left
        ·rintro w' ⟨s0, s1, s2, s3⟩
         go_simp
         with_reducible rfl
        rotate_left
        ·simp only [Act.put, List.setIfInBounds_toArray, List.set_cons_zero, List.set_cons_succ, i64_w, i32_w]
         rfl
        refine take_ (i := 1) (N := some 60) (v := ?_) (a' := ?_) #[true, true, false, false, false] rfl rfl (by kernel_rfl) (fun _ _ _ h => h) (Or.inl ⟨by rfl, ?_⟩) hHeld ?_ ?_
        rotate_left
        ·rintro w' ⟨s0, s1, s2, s3⟩
         go_simp
         with_reducible rfl
        rotate_left
        ·simp only [Act.put, List.setIfInBounds_toArray, List.set_cons_zero, List.set_cons_succ, i64_w, i32_w]
         rfl
        refine one_ (i := 2) (N := some 61) #[true, true, true, false, false] rfl rfl (by kernel_rfl) (by decide) (fun K hK => ?_)
        refine goes_ Try.func34 (by kernel_rfl) rfl #[.agg #[.int .i64 a1_0, .slice A1_1 l1_1.length c1_1]] (by rfl) rfl rfl (by (try simp only [List.map_toArray, List.map_cons, List.map_nil]); first | done | rfl) ?_
        with_reducible refine (laws_toMatroid.calls kj24 a1_0 _ _ l1_1 t1036 t1037 _ ?side1 ?side2 A103.out).mono ?_
        (case side1 => exact Hof.Cw (Kd.C_below HR1_1.out HB.out))
        (case side2 => exact HC1_1.out)
        rintro e w114 ⟨v1038, rfl, ho0, hb⟩
        refine ⟨_, rfl, ?_⟩
        have HO1039 := Aside0.mk (Kd.R_lower (Kd.R_new' (Kd.R_new' (Kd.R_new' (Kd.R_new' (Kd.R_new' ho0 (Kd.R_lt (Hof.Rw HO_1014001.out))) (Kd.R_lt (Hof.Rw HO_1019001.out))) (Kd.R_lt (Hof.Rw HO_1024001.out))) (Kd.R_lt (Hof.Rw HO_1030001.out))) (Kd.R_lt (Hof.Rw HO1034.out))) (below_size (Hof.Lw HB.out)))
        replace HO_1014001 := Aside0.mk (Kd.R_elder' (Hof.Rw HO_1014001.out) (Kd.R_base ho0) hb)
        replace HO_1019001 := Aside0.mk (Kd.R_elder' (Hof.Rw HO_1019001.out) (Kd.R_base ho0) hb)
        replace HO_1024001 := Aside0.mk (Kd.R_elder' (Hof.Rw HO_1024001.out) (Kd.R_base ho0) hb)
        replace HO_1030001 := Aside0.mk (Kd.R_elder' (Hof.Rw HO_1030001.out) (Kd.R_base ho0) hb)
        replace HO1034 := Aside0.mk (Kd.R_elder' (Hof.Rw HO1034.out) (Kd.R_base ho0) hb)
        replace BK996 := Aside0.mk (blk_below (Hof.Bw BK996.out) hb)
        replace BK997 := Aside0.mk (blk_below (Hof.Bw BK997.out) hb)
        replace BK1013 := Aside0.mk (blk_below (Hof.Bw BK1013.out) hb)
        replace BK1018 := Aside0.mk (blk_below (Hof.Bw BK1018.out) hb)
        replace BK1023 := Aside0.mk (blk_below (Hof.Bw BK1023.out) hb)
        replace BK1029 := Aside0.mk (blk_below (Hof.Bw BK1029.out) hb)
        replace HB := Aside0.mk (below_step (Hof.Lw HB.out) hb)
        clear hb ho0
        obtain ⟨Ao115, co115, eo115⟩ := Kd.R_slice HO1039.out
        (first | subst eo115 | (injection eo115 with f1_ f2_ f3_; have f4_ := f1_.symm; have f5_ := f3_.symm; clear f1_ f2_ f3_; subst f4_; subst f5_))
        refine hK.out _ _ ⟨(blk_cell BK1023.out 0).trans rfl, (blk_cell BK1023.out 1).trans rfl, (blk_cell BK997.out 0).trans rfl, (blk_cell BK997.out 1).trans rfl⟩ (fun hHeld => ?_)
        clear hK K
        refine norm_ (a' := ?_) ?_ ?_
        rotate_left
        ·show Act.put _ (some 61) _ = _
         simp only [Act.put, List.setIfInBounds_toArray, List.set_cons_zero, List.set_cons_succ, i64_w, i32_w]
         rfl
        refine one_ (i := 3) (N := some 62) #[true, true, true, true, false] rfl rfl (by kernel_rfl) (by decide) (fun K hK => ?_)
        refine goes_ Try.func36 (by kernel_rfl) rfl #[.agg #[.int .i64 t1019, .slice Ao62 t1020.length co62], .agg #[.int .i64 t1036, .slice Ao115 t1037.length co115]] (by rfl) rfl rfl (by (try simp only [List.map_toArray, List.map_cons, List.map_nil]); first | done | rfl) ?_
        with_reducible refine (laws_eqMatroid.calls kj24 t1019 _ _ t1020 t1036 _ _ t1037 true _ ?side1 ?side2 ?side3 ?side4 A104.out).mono ?_
        (case side1 => exact Hof.Cw ((Kd.R_reads' HO_1024001.out).2.2))
        (case side2 => exact (Kd.R_reads' HO_1024001.out).2.1)
        (case side3 => exact Hof.Cw ((Kd.R_reads' HO1039.out).2.2))
        (case side4 => exact (Kd.R_reads' HO1039.out).2.1)
        rintro e w116 ⟨rfl, hb⟩
        refine ⟨_, rfl, ?_⟩
        replace HO_1014001 := Aside0.mk (Kd.R_below (Hof.Rw HO_1014001.out) hb)
        replace HO_1019001 := Aside0.mk (Kd.R_below (Hof.Rw HO_1019001.out) hb)
        replace HO_1024001 := Aside0.mk (Kd.R_below (Hof.Rw HO_1024001.out) hb)
        replace HO_1030001 := Aside0.mk (Kd.R_below (Hof.Rw HO_1030001.out) hb)
        replace HO1034 := Aside0.mk (Kd.R_below (Hof.Rw HO1034.out) hb)
        replace HO1039 := Aside0.mk (Kd.R_below (Hof.Rw HO1039.out) hb)
        replace BK996 := Aside0.mk (blk_below (Hof.Bw BK996.out) hb)
        replace BK997 := Aside0.mk (blk_below (Hof.Bw BK997.out) hb)
        replace BK1013 := Aside0.mk (blk_below (Hof.Bw BK1013.out) hb)
        replace BK1018 := Aside0.mk (blk_below (Hof.Bw BK1018.out) hb)
        replace BK1023 := Aside0.mk (blk_below (Hof.Bw BK1023.out) hb)
        replace BK1029 := Aside0.mk (blk_below (Hof.Bw BK1029.out) hb)
        replace HB := Aside0.mk (below_step (Hof.Lw HB.out) hb)
        clear hb
        refine hK.out _ _ ⟨(blk_cell BK1023.out 0).trans rfl, (blk_cell BK1023.out 1).trans rfl, (blk_cell BK997.out 0).trans rfl, (blk_cell BK997.out 1).trans rfl⟩ (fun hHeld => ?_)
        clear hK K
        refine norm_ (a' := ?_) ?_ ?_
        rotate_left
        ·show Act.put _ (some 62) _ = _
         simp only [Act.put, List.setIfInBounds_toArray, List.set_cons_zero, List.set_cons_succ, i64_w, i32_w]
         rfl
        refine pure_ (i := 4) (N := some 63) (v := ?_) (a' := ?_) #[true, true, true, true, true] rfl rfl (by kernel_rfl) (fun _ _ _ h => h) (Or.inl ⟨by rfl, ?_⟩) ?_ ?_
        rotate_left
        ·intro w'
         go_simp
         with_reducible rfl
        rotate_left
        ·simp only [Act.put, List.setIfInBounds_toArray, List.set_cons_zero, List.set_cons_succ, i64_w, i32_w]
         rfl
        refine done_ (by kernel_rfl) ?_
        have hnb117 := NB1018_996.out
        have hnc117 := NB996_1018.out
        have hnb118 := NB1018_997.out
        have hnc118 := NB997_1018.out
        have hnb119 := NB1018_1013.out
        have hnc119 := NB1013_1018.out
        have hnb120 := NB1018_1023.out
        have hnc120 := NB1023_1018.out
        have hnb121 := NB1018_1029.out
        have hnc121 := NB1029_1018.out
        obtain ⟨hcz122_0, hcz122_1, hfz122_0, hfz122_1⟩ := Hof.blk2 BK1018.out
        go_upto_region 21 with (first | ((with_reducible refine gate_callee (f := 37) rfl ?_); refine goesL_ (some 66) rfl rfl Try.func37 (by kernel_rfl) rfl #[.agg #[.int .i64 t1014, .slice Ao52 t1015.length co52], .int .i64 1] rfl (by (try simp only [List.map_toArray, List.map_cons, List.map_nil]); first | done | rfl) ?_; (with_reducible refine (laws_markMatroid.calls kj24 t1014 (fun k_ => some k_ = (.slice Ao52 t1015.length co52 : Value).ownBlock) (.slice Ao52 t1015.length co52) t1015 1 t1041 t1042 w _ ?side1 ?side2 A106.out).mono ?_); (case side1 => repeat (first | (with_reducible first | exact HB.out | apply below_alloc | apply pw_below_drewN | apply below_drew1 | refine below_set ?_ GE996.out | refine below_set ?_ GE997.out | refine below_set ?_ GE1013.out | refine below_set ?_ GE1018.out | refine below_set ?_ GE1023.out | refine below_set ?_ GE1029.out) | exact HB.out)); (case side2 => exact Kd.R_tight rfl HO_1019001.out); rintro e w123 ⟨rfl, hy0, hb, hkp⟩; refine ⟨_, rfl, ?_⟩; replace HO_1014001 := Aside0.mk (Kd.R_mono (ok' := fun k_ => some k_ ≠ (.slice Ao52 t1015.length co52 : Value).ownBlock ∧ some k_ ≠ (.slice Ao62 t1020.length co62 : Value).ownBlock ∧ some k_ ≠ (.slice Ao72 t1025.length co72 : Value).ownBlock ∧ some k_ ≠ (.slice Ao111 t1032.length co111 : Value).ownBlock ∧ some k_ ≠ (.slice Ao115 t1037.length co115 : Value).ownBlock) (Kd.R_keptB (HO_1014001.out) hkp (fun k_ hk_ hs_ => (by first | exact (hk_.1.1.1) hs_ | (simp_all; done)))) (fun k_ hk_ => (by first | exact ⟨hk_.1.1.1.1, hk_.1.1.1.2.1, hk_.1.1.1.2.2, hk_.1.1.2, hk_.1.2⟩ | (simp_all; done)))); replace HO_1024001 := Aside0.mk (Kd.R_mono (ok' := fun k_ => some k_ ≠ (.slice Ao42 t1009.length co42 : Value).ownBlock ∧ some k_ ≠ (.slice Ao52 t1015.length co52 : Value).ownBlock ∧ some k_ ≠ (.slice Ao72 t1025.length co72 : Value).ownBlock ∧ some k_ ≠ (.slice Ao111 t1032.length co111 : Value).ownBlock ∧ some k_ ≠ (.slice Ao115 t1037.length co115 : Value).ownBlock) (Kd.R_keptB (HO_1024001.out) hkp (fun k_ hk_ hs_ => (by first | exact (hk_.1.1.2.1) hs_ | (simp_all; done)))) (fun k_ hk_ => (by first | exact ⟨hk_.1.1.1.1, hk_.1.1.1.2.1, hk_.1.1.1.2.2, hk_.1.1.2, hk_.1.2⟩ | (simp_all; done)))); replace HO_1030001 := Aside0.mk (Kd.R_mono (ok' := fun k_ => some k_ ≠ (.slice Ao42 t1009.length co42 : Value).ownBlock ∧ some k_ ≠ (.slice Ao52 t1015.length co52 : Value).ownBlock ∧ some k_ ≠ (.slice Ao62 t1020.length co62 : Value).ownBlock ∧ some k_ ≠ (.slice Ao111 t1032.length co111 : Value).ownBlock ∧ some k_ ≠ (.slice Ao115 t1037.length co115 : Value).ownBlock) (Kd.R_keptB (HO_1030001.out) hkp (fun k_ hk_ hs_ => (by first | exact (hk_.1.1.2.1) hs_ | (simp_all; done)))) (fun k_ hk_ => (by first | exact ⟨hk_.1.1.1.1, hk_.1.1.1.2.1, hk_.1.1.1.2.2, hk_.1.1.2, hk_.1.2⟩ | (simp_all; done)))); replace BK996 := Aside0.mk (blk_kept (Hof.Bw BK996.out) hkp (fun hs_ => (fun e_ => (Kd.R_ne HO_1019001.out BK996.out (by decide)) e_) hs_)); replace BK997 := Aside0.mk (blk_kept (Hof.Bw BK997.out) hkp (fun hs_ => (fun e_ => (Kd.R_ne HO_1019001.out BK997.out (by decide)) e_) hs_)); replace BK1013 := Aside0.mk (blk_kept (Hof.Bw BK1013.out) hkp (fun hs_ => (fun e_ => (Kd.R_ne HO_1019001.out BK1013.out (by decide)) e_) hs_)); replace BK1018 := Aside0.mk (blk_kept (Hof.Bw BK1018.out) hkp (fun hs_ => (fun e_ => (Kd.R_ne HO_1019001.out BK1018.out (by decide)) e_) hs_)); replace BK1023 := Aside0.mk (blk_kept (Hof.Bw BK1023.out) hkp (fun hs_ => (fun e_ => (Kd.R_ne HO_1019001.out BK1023.out (by decide)) e_) hs_)); replace BK1029 := Aside0.mk (blk_kept (Hof.Bw BK1029.out) hkp (fun hs_ => (fun e_ => (Kd.R_ne HO_1019001.out BK1029.out (by decide)) e_) hs_)); replace HO_1019001 := Aside0.mk (Kd.R_reok rfl hy0 (fun k_ e_ => HO_1019001.out.1 k_ e_)); replace HO1034 := Aside0.mk (Kd.R_mono (ok' := fun k_ => some k_ ≠ (.slice Ao42 t1009.length co42 : Value).ownBlock ∧ some k_ ≠ (.slice Ao52 t1015.length co52 : Value).ownBlock ∧ some k_ ≠ (.slice Ao62 t1020.length co62 : Value).ownBlock ∧ some k_ ≠ (.slice Ao72 t1025.length co72 : Value).ownBlock ∧ some k_ ≠ (.slice Ao115 t1037.length co115 : Value).ownBlock) (Kd.R_keptB (HO1034.out) hkp (fun k_ hk_ hs_ => (by first | exact (hk_.1.1.1.2) hs_ | (simp_all; done)))) (fun k_ hk_ => (by first | exact ⟨hk_.1.1.1.1.1.2, hk_.1.1.1.1.2, hk_.1.1.1.2, hk_.1.1.2, hk_.1.2⟩ | (simp_all; done)))); replace HO1039 := Aside0.mk (Kd.R_mono (ok' := fun k_ => some k_ ≠ (.slice Ao42 t1009.length co42 : Value).ownBlock ∧ some k_ ≠ (.slice Ao52 t1015.length co52 : Value).ownBlock ∧ some k_ ≠ (.slice Ao62 t1020.length co62 : Value).ownBlock ∧ some k_ ≠ (.slice Ao72 t1025.length co72 : Value).ownBlock ∧ some k_ ≠ (.slice Ao111 t1032.length co111 : Value).ownBlock) (Kd.R_keptB (HO1039.out) hkp (fun k_ hk_ hs_ => (by first | exact (hk_.1.1.1.2) hs_ | (simp_all; done)))) (fun k_ hk_ => (by first | exact ⟨hk_.1.1.1.1.1.2, hk_.1.1.1.1.2, hk_.1.1.1.2, hk_.1.1.2, hk_.1.2⟩ | (simp_all; done)))); replace HB := Aside0.mk hb; (try clear hb); (try clear hkp); (try clear hy0); have hnb124 := NB1023_996.out; have hnc124 := NB996_1023.out; have hnb125 := NB1023_997.out; have hnc125 := NB997_1023.out; have hnb126 := NB1023_1013.out; have hnc126 := NB1013_1023.out; have hnb127 := NB1023_1029.out; have hnc127 := NB1029_1023.out; obtain ⟨hcz128_0, hcz128_1, hfz128_0, hfz128_1⟩ := Hof.blk2 BK1023.out) | ((with_reducible refine gate_callee (f := 37) rfl ?_); refine goesL_ (some 69) rfl rfl Try.func37 (by kernel_rfl) rfl #[.agg #[.int .i64 t1019, .slice Ao62 t1020.length co62], .int .i64 t1041] rfl (by (try simp only [List.map_toArray, List.map_cons, List.map_nil]); first | done | rfl) ?_; (with_reducible refine (laws_markMatroid.calls kj24 t1019 (fun k_ => some k_ = (.slice Ao62 t1020.length co62 : Value).ownBlock) (.slice Ao62 t1020.length co62) t1020 t1041 t1043 t1044 w _ ?side1 ?side2 A107.out).mono ?_); (case side1 => repeat (first | (with_reducible first | exact HB.out | apply below_alloc | apply pw_below_drewN | apply below_drew1 | refine below_set ?_ GE996.out | refine below_set ?_ GE997.out | refine below_set ?_ GE1013.out | refine below_set ?_ GE1018.out | refine below_set ?_ GE1023.out | refine below_set ?_ GE1029.out) | exact HB.out)); (case side2 => exact Kd.R_tight rfl HO_1024001.out); rintro e w129 ⟨rfl, hy0, hb, hkp⟩; refine ⟨_, rfl, ?_⟩; replace HO_1014001 := Aside0.mk (Kd.R_mono (ok' := fun k_ => some k_ ≠ (.slice Ao52 t1015.length co52 : Value).ownBlock ∧ some k_ ≠ (.slice Ao62 t1020.length co62 : Value).ownBlock ∧ some k_ ≠ (.slice Ao72 t1025.length co72 : Value).ownBlock ∧ some k_ ≠ (.slice Ao111 t1032.length co111 : Value).ownBlock ∧ some k_ ≠ (.slice Ao115 t1037.length co115 : Value).ownBlock) (Kd.R_keptB (HO_1014001.out) hkp (fun k_ hk_ hs_ => (by first | exact (hk_.2.1) hs_ | (simp_all; done)))) (fun k_ hk_ => (by first | exact ⟨hk_.1.1, hk_.1.2.1, hk_.1.2.2.1, hk_.1.2.2.2.1, hk_.1.2.2.2.2⟩ | (simp_all; done)))); replace HO_1019001 := Aside0.mk (Kd.R_mono (ok' := fun k_ => some k_ ≠ (.slice Ao42 t1009.length co42 : Value).ownBlock ∧ some k_ ≠ (.slice Ao62 t1020.length co62 : Value).ownBlock ∧ some k_ ≠ (.slice Ao72 t1025.length co72 : Value).ownBlock ∧ some k_ ≠ (.slice Ao111 t1032.length co111 : Value).ownBlock ∧ some k_ ≠ (.slice Ao115 t1037.length co115 : Value).ownBlock) (Kd.R_keptB (HO_1019001.out) hkp (fun k_ hk_ hs_ => (by first | exact (hk_.1.1.2.1) hs_ | (simp_all; done)))) (fun k_ hk_ => (by first | exact ⟨hk_.1.1.1.1, hk_.1.1.1.2.1, hk_.1.1.1.2.2, hk_.1.1.2, hk_.1.2⟩ | (simp_all; done)))); replace HO_1030001 := Aside0.mk (Kd.R_mono (ok' := fun k_ => some k_ ≠ (.slice Ao42 t1009.length co42 : Value).ownBlock ∧ some k_ ≠ (.slice Ao52 t1015.length co52 : Value).ownBlock ∧ some k_ ≠ (.slice Ao62 t1020.length co62 : Value).ownBlock ∧ some k_ ≠ (.slice Ao111 t1032.length co111 : Value).ownBlock ∧ some k_ ≠ (.slice Ao115 t1037.length co115 : Value).ownBlock) (Kd.R_keptB (HO_1030001.out) hkp (fun k_ hk_ hs_ => (by first | exact (hk_.2.2.1) hs_ | (simp_all; done)))) (fun k_ hk_ => (by first | exact ⟨hk_.1.1, hk_.1.2.1, hk_.1.2.2.1, hk_.1.2.2.2.1, hk_.1.2.2.2.2⟩ | (simp_all; done)))); replace BK996 := Aside0.mk (blk_kept (Hof.Bw BK996.out) hkp (fun hs_ => (fun e_ => (Kd.R_ne HO_1024001.out BK996.out (by decide)) e_) hs_)); replace BK997 := Aside0.mk (blk_kept (Hof.Bw BK997.out) hkp (fun hs_ => (fun e_ => (Kd.R_ne HO_1024001.out BK997.out (by decide)) e_) hs_)); replace BK1013 := Aside0.mk (blk_kept (Hof.Bw BK1013.out) hkp (fun hs_ => (fun e_ => (Kd.R_ne HO_1024001.out BK1013.out (by decide)) e_) hs_)); replace BK1018 := Aside0.mk (blk_kept (Hof.Bw BK1018.out) hkp (fun hs_ => (fun e_ => (Kd.R_ne HO_1024001.out BK1018.out (by decide)) e_) hs_)); replace BK1023 := Aside0.mk (blk_kept (Hof.Bw BK1023.out) hkp (fun hs_ => (fun e_ => (Kd.R_ne HO_1024001.out BK1023.out (by decide)) e_) hs_)); replace BK1029 := Aside0.mk (blk_kept (Hof.Bw BK1029.out) hkp (fun hs_ => (fun e_ => (Kd.R_ne HO_1024001.out BK1029.out (by decide)) e_) hs_)); replace HO_1024001 := Aside0.mk (Kd.R_reok rfl hy0 (fun k_ e_ => HO_1024001.out.1 k_ e_)); replace HO1034 := Aside0.mk (Kd.R_mono (ok' := fun k_ => some k_ ≠ (.slice Ao42 t1009.length co42 : Value).ownBlock ∧ some k_ ≠ (.slice Ao52 t1015.length co52 : Value).ownBlock ∧ some k_ ≠ (.slice Ao62 t1020.length co62 : Value).ownBlock ∧ some k_ ≠ (.slice Ao72 t1025.length co72 : Value).ownBlock ∧ some k_ ≠ (.slice Ao115 t1037.length co115 : Value).ownBlock) (Kd.R_keptB (HO1034.out) hkp (fun k_ hk_ hs_ => (by first | exact (hk_.2.2.1) hs_ | (simp_all; done)))) (fun k_ hk_ => (by first | exact ⟨hk_.1.1, hk_.1.2.1, hk_.1.2.2.1, hk_.1.2.2.2.1, hk_.1.2.2.2.2⟩ | (simp_all; done)))); replace HO1039 := Aside0.mk (Kd.R_mono (ok' := fun k_ => some k_ ≠ (.slice Ao42 t1009.length co42 : Value).ownBlock ∧ some k_ ≠ (.slice Ao52 t1015.length co52 : Value).ownBlock ∧ some k_ ≠ (.slice Ao62 t1020.length co62 : Value).ownBlock ∧ some k_ ≠ (.slice Ao72 t1025.length co72 : Value).ownBlock ∧ some k_ ≠ (.slice Ao111 t1032.length co111 : Value).ownBlock) (Kd.R_keptB (HO1039.out) hkp (fun k_ hk_ hs_ => (by first | exact (hk_.2.2.1) hs_ | (simp_all; done)))) (fun k_ hk_ => (by first | exact ⟨hk_.1.1, hk_.1.2.1, hk_.1.2.2.1, hk_.1.2.2.2.1, hk_.1.2.2.2.2⟩ | (simp_all; done)))); replace HB := Aside0.mk hb; (try clear hb); (try clear hkp); (try clear hy0)))
        (try simp only [Act.put, List.setIfInBounds_toArray, List.set_cons_zero, List.set_cons_succ])
        go_cut [82] (fun v82 wc => ∃ (kq : Nat) (x82_107 : Bool), v82 = .bool x82_107 ∧ Aside0 (laws_FnExactUnionOf.j1 kq t1012 x82_107 a0_0 l0_1 a1_0 l1_1 t1008 t1009 t1024 t1025 = some r) ∧ Aside0 (kq ≤ kj24) ∧ Aside0 (Kd.R (Kd.int .i64) 3 wc w.heap.size (fun k_ => some k_ ≠ ((.slice Ao52 t1015.length co52) : Value).ownBlock ∧ some k_ ≠ ((.slice Ao62 t1020.length co62) : Value).ownBlock ∧ some k_ ≠ ((.slice Ao72 t1025.length co72) : Value).ownBlock) (.slice Ao42 t1009.length co42) t1009) ∧ Aside0 (Kd.R (Kd.int .i64) 3 wc w.heap.size (fun k_ => some k_ ≠ ((.slice Ao42 t1009.length co42) : Value).ownBlock ∧ some k_ ≠ ((.slice Ao62 t1020.length co62) : Value).ownBlock ∧ some k_ ≠ ((.slice Ao72 t1025.length co72) : Value).ownBlock) (.slice Ao52 t1015.length co52) t1042) ∧ Aside0 (Kd.R (Kd.int .i64) 3 wc w.heap.size (fun k_ => some k_ ≠ ((.slice Ao42 t1009.length co42) : Value).ownBlock ∧ some k_ ≠ ((.slice Ao52 t1015.length co52) : Value).ownBlock ∧ some k_ ≠ ((.slice Ao72 t1025.length co72) : Value).ownBlock) (.slice Ao62 t1020.length co62) t1044) ∧ Aside0 (Kd.R (Kd.int .i64) 3 wc w.heap.size (fun k_ => some k_ ≠ ((.slice Ao42 t1009.length co42) : Value).ownBlock ∧ some k_ ≠ ((.slice Ao52 t1015.length co52) : Value).ownBlock ∧ some k_ ≠ ((.slice Ao62 t1020.length co62) : Value).ownBlock) (.slice Ao72 t1025.length co72) t1025) ∧ Aside0 (wc.heap[gb996]? = some (.cells #[.int .i64 a0_0, (.slice A0_1 l0_1.length c0_1)] 42 (0, 0))) ∧ Aside0 (wc.heap[gb997]? = some (.cells #[.int .i64 a1_0, (.slice A1_1 l1_1.length c1_1)] 42 (0, 0))) ∧ Aside0 (wc.heap[gb1013]? = some (.cells #[.int .i64 t1008, (.slice Ao42 t1009.length co42)] 45 (0, 0))) ∧ Aside0 (wc.heap[gb1018]? = some (.cells #[.int .i64 t1014, (.slice Ao52 t1015.length co52)] 45 (0, 0))) ∧ Aside0 (wc.heap[gb1023]? = some (.cells #[.int .i64 t1019, (.slice Ao62 t1020.length co62)] 45 (0, 0))) ∧ Aside0 (wc.heap[gb1029]? = some (.cells #[.int .i64 t1024, (.slice Ao72 t1025.length co72)] 45 (0, 0))) ∧ Aside0 (Below w.heap.size w wc))
        case first =>
         have H := HC108.out
         clear HC108
         by_cases c130 : t1043 < 0
         ·rw [if_pos c130] at H
          have c130b0 : decide (t1043 < 0) = true := decide_eq_true c130
          clear c130
          (first | rw [c130b0] | (simp only [i64_w, i32_w]; rw [c130b0]) | skip)
          have H' := Aside0.mk H
          clear H
          go_wp2
          go_meet
          case rel => exact ⟨_, (true), (by first | rfl | (simp; done) | (simp [*]; done)), H', ⟨by have := HJ24.out; first | omega | exact Nat.le_refl _⟩, ⟨Hof.Rw (Kd.R_mono HO_1014001.out (fun _ hk => ⟨hk.1, ⟨hk.2.1, hk.2.2.1⟩⟩))⟩, ⟨Hof.Rw (Kd.R_mono HO_1019001.out (fun _ hk => ⟨hk.1, ⟨hk.2.1, hk.2.2.1⟩⟩))⟩, ⟨Hof.Rw (Kd.R_mono HO_1024001.out (fun _ hk => ⟨hk.1, ⟨hk.2.1, hk.2.2.1⟩⟩))⟩, ⟨Hof.Rw (Kd.R_mono HO_1030001.out (fun _ hk => ⟨hk.1, ⟨hk.2.1, hk.2.2.1⟩⟩))⟩, ⟨Hof.Bw BK996.out⟩, ⟨Hof.Bw BK997.out⟩, ⟨Hof.Bw BK1013.out⟩, ⟨Hof.Bw BK1018.out⟩, ⟨Hof.Bw BK1023.out⟩, ⟨Hof.Bw BK1029.out⟩, ⟨by repeat (first | (with_reducible first | exact HB.out | apply below_alloc | apply pw_below_drewN | apply below_drew1 | refine below_set ?_ GE996.out | refine below_set ?_ GE997.out | refine below_set ?_ GE1013.out | refine below_set ?_ GE1018.out | refine below_set ?_ GE1023.out | refine below_set ?_ GE1029.out) | exact HB.out)⟩⟩
         ·rw [if_neg c130] at H
          have c130b0 : decide (t1043 < 0) = false := decide_eq_false c130
          clear c130
          (first | rw [c130b0] | (simp only [i64_w, i32_w]; rw [c130b0]) | skip)
          replace H := Option.bind_eq_some_iff.mp H
          obtain ⟨t1045, A1310, H⟩ := H
          (try dsimp only at H)
          have A131 := Aside0.mk A1310
          clear A1310
          by_cases c132 : t1045 = true
          ·subst c132
           have H1 : (laws_FnExactUnionOf.j1 kj24 t1012 (t1028 != t1012) a0_0 l0_1 a1_0 l1_1 t1008 t1009 t1024 t1025) = some r := by rw [if_pos rfl] at H; exact H
           clear H
           have H := H1
           clear H1
           have H' := Aside0.mk H
           clear H
           have hnb133 := NB1029_996.out
           have hnc133 := NB996_1029.out
           have hnb134 := NB1029_997.out
           have hnc134 := NB997_1029.out
           have hnb135 := NB1029_1013.out
           have hnc135 := NB1013_1029.out
           have hnb136 := NB1029_1018.out
           have hnc136 := NB1018_1029.out
           have hnb137 := NB1029_1023.out
           have hnc137 := NB1023_1029.out
           obtain ⟨hcz138_0, hcz138_1, hfz138_0, hfz138_1⟩ := Hof.blk2 BK1029.out
           have hnb139 := NB1013_996.out
           have hnc139 := NB996_1013.out
           have hnb140 := NB1013_997.out
           have hnc140 := NB997_1013.out
           have hnb141 := NB1013_1018.out
           have hnc141 := NB1018_1013.out
           have hnb142 := NB1013_1023.out
           have hnc142 := NB1023_1013.out
           obtain ⟨hcz143_0, hcz143_1, hfz143_0, hfz143_1⟩ := Hof.blk2 BK1013.out
           go_wp2_with (first | (go_at_call 36; (with_reducible refine (laws_eqMatroid.calls kj24 t1024 _ _ t1025 t1008 _ _ t1009 true _ ?side1 ?side2 ?side3 ?side4 A131.out).mono ?_); (case side1 => exact Hof.Cw ((Kd.R_reads' HO_1030001.out).2.2)); (case side2 => exact (Kd.R_reads' HO_1030001.out).2.1); (case side3 => exact Hof.Cw ((Kd.R_reads' HO_1014001.out).2.2)); (case side4 => exact (Kd.R_reads' HO_1014001.out).2.1); rintro e w144 ⟨rfl, hb⟩; replace HO_1014001 := Aside0.mk (Kd.R_below (Hof.Rw HO_1014001.out) hb); replace HO_1019001 := Aside0.mk (Kd.R_below (Hof.Rw HO_1019001.out) hb); replace HO_1024001 := Aside0.mk (Kd.R_below (Hof.Rw HO_1024001.out) hb); replace HO_1030001 := Aside0.mk (Kd.R_below (Hof.Rw HO_1030001.out) hb); replace HO1034 := Aside0.mk (Kd.R_below (Hof.Rw HO1034.out) hb); replace HO1039 := Aside0.mk (Kd.R_below (Hof.Rw HO1039.out) hb); replace BK996 := Aside0.mk (blk_below (Hof.Bw BK996.out) hb); replace BK997 := Aside0.mk (blk_below (Hof.Bw BK997.out) hb); replace BK1013 := Aside0.mk (blk_below (Hof.Bw BK1013.out) hb); replace BK1018 := Aside0.mk (blk_below (Hof.Bw BK1018.out) hb); replace BK1023 := Aside0.mk (blk_below (Hof.Bw BK1023.out) hb); replace BK1029 := Aside0.mk (blk_below (Hof.Bw BK1029.out) hb); replace HB := Aside0.mk (below_step (by first | exact Hof.Lw HB.out | exact laws_FnExactUnionOf.Ls HB.out GE1029.out) hb); (try clear hb); (try clear hb2); (try clear hk); (try clear hi)))
           go_meet
           case rel => exact ⟨_, ((t1028 != t1012)), (by first | rfl | (simp; done) | (simp [*]; done)), H', ⟨by have := HJ24.out; first | omega | exact Nat.le_refl _⟩, ⟨Hof.Rw (Kd.R_mono HO_1014001.out (fun _ hk => ⟨hk.1, ⟨hk.2.1, hk.2.2.1⟩⟩))⟩, ⟨Hof.Rw (Kd.R_mono HO_1019001.out (fun _ hk => ⟨hk.1, ⟨hk.2.1, hk.2.2.1⟩⟩))⟩, ⟨Hof.Rw (Kd.R_mono HO_1024001.out (fun _ hk => ⟨hk.1, ⟨hk.2.1, hk.2.2.1⟩⟩))⟩, ⟨Hof.Rw (Kd.R_mono HO_1030001.out (fun _ hk => ⟨hk.1, ⟨hk.2.1, hk.2.2.1⟩⟩))⟩, ⟨Hof.Bw BK996.out⟩, ⟨Hof.Bw BK997.out⟩, ⟨Hof.Bw BK1013.out⟩, ⟨Hof.Bw BK1018.out⟩, ⟨Hof.Bw BK1023.out⟩, ⟨Hof.Bw BK1029.out⟩, ⟨by repeat (first | (with_reducible first | exact HB.out | apply below_alloc | apply pw_below_drewN | apply below_drew1 | refine below_set ?_ GE996.out | refine below_set ?_ GE997.out | refine below_set ?_ GE1013.out | refine below_set ?_ GE1018.out | refine below_set ?_ GE1023.out | refine below_set ?_ GE1029.out) | exact HB.out)⟩⟩
          ·replace c132 := Bool.eq_false_iff.mpr c132
           subst c132
           have H1 : (laws_FnExactUnionOf.j1 kj24 t1012 true a0_0 l0_1 a1_0 l1_1 t1008 t1009 t1024 t1025) = some r := by rw [if_neg (show ¬ (false = true) by decide)] at H; exact H
           clear H
           have H := H1
           clear H1
           have H' := Aside0.mk H
           clear H
           have hnb145 := NB1029_996.out
           have hnc145 := NB996_1029.out
           have hnb146 := NB1029_997.out
           have hnc146 := NB997_1029.out
           have hnb147 := NB1029_1013.out
           have hnc147 := NB1013_1029.out
           have hnb148 := NB1029_1018.out
           have hnc148 := NB1018_1029.out
           have hnb149 := NB1029_1023.out
           have hnc149 := NB1023_1029.out
           obtain ⟨hcz150_0, hcz150_1, hfz150_0, hfz150_1⟩ := Hof.blk2 BK1029.out
           have hnb151 := NB1013_996.out
           have hnc151 := NB996_1013.out
           have hnb152 := NB1013_997.out
           have hnc152 := NB997_1013.out
           have hnb153 := NB1013_1018.out
           have hnc153 := NB1018_1013.out
           have hnb154 := NB1013_1023.out
           have hnc154 := NB1023_1013.out
           obtain ⟨hcz155_0, hcz155_1, hfz155_0, hfz155_1⟩ := Hof.blk2 BK1013.out
           go_wp2_with (first | (go_at_call 36; (with_reducible refine (laws_eqMatroid.calls kj24 t1024 _ _ t1025 t1008 _ _ t1009 false _ ?side1 ?side2 ?side3 ?side4 A131.out).mono ?_); (case side1 => exact Hof.Cw ((Kd.R_reads' HO_1030001.out).2.2)); (case side2 => exact (Kd.R_reads' HO_1030001.out).2.1); (case side3 => exact Hof.Cw ((Kd.R_reads' HO_1014001.out).2.2)); (case side4 => exact (Kd.R_reads' HO_1014001.out).2.1); rintro e w156 ⟨rfl, hb⟩; replace HO_1014001 := Aside0.mk (Kd.R_below (Hof.Rw HO_1014001.out) hb); replace HO_1019001 := Aside0.mk (Kd.R_below (Hof.Rw HO_1019001.out) hb); replace HO_1024001 := Aside0.mk (Kd.R_below (Hof.Rw HO_1024001.out) hb); replace HO_1030001 := Aside0.mk (Kd.R_below (Hof.Rw HO_1030001.out) hb); replace HO1034 := Aside0.mk (Kd.R_below (Hof.Rw HO1034.out) hb); replace HO1039 := Aside0.mk (Kd.R_below (Hof.Rw HO1039.out) hb); replace BK996 := Aside0.mk (blk_below (Hof.Bw BK996.out) hb); replace BK997 := Aside0.mk (blk_below (Hof.Bw BK997.out) hb); replace BK1013 := Aside0.mk (blk_below (Hof.Bw BK1013.out) hb); replace BK1018 := Aside0.mk (blk_below (Hof.Bw BK1018.out) hb); replace BK1023 := Aside0.mk (blk_below (Hof.Bw BK1023.out) hb); replace BK1029 := Aside0.mk (blk_below (Hof.Bw BK1029.out) hb); replace HB := Aside0.mk (below_step (by first | exact Hof.Lw HB.out | exact laws_FnExactUnionOf.Ls HB.out GE1029.out) hb); (try clear hb); (try clear hb2); (try clear hk); (try clear hi)))
           go_meet
           case rel => exact ⟨_, (true), (by first | rfl | (simp; done) | (simp [*]; done)), H', ⟨by have := HJ24.out; first | omega | exact Nat.le_refl _⟩, ⟨Hof.Rw (Kd.R_mono HO_1014001.out (fun _ hk => ⟨hk.1, ⟨hk.2.1, hk.2.2.1⟩⟩))⟩, ⟨Hof.Rw (Kd.R_mono HO_1019001.out (fun _ hk => ⟨hk.1, ⟨hk.2.1, hk.2.2.1⟩⟩))⟩, ⟨Hof.Rw (Kd.R_mono HO_1024001.out (fun _ hk => ⟨hk.1, ⟨hk.2.1, hk.2.2.1⟩⟩))⟩, ⟨Hof.Rw (Kd.R_mono HO_1030001.out (fun _ hk => ⟨hk.1, ⟨hk.2.1, hk.2.2.1⟩⟩))⟩, ⟨Hof.Bw BK996.out⟩, ⟨Hof.Bw BK997.out⟩, ⟨Hof.Bw BK1013.out⟩, ⟨Hof.Bw BK1018.out⟩, ⟨Hof.Bw BK1023.out⟩, ⟨Hof.Bw BK1029.out⟩, ⟨by repeat (first | (with_reducible first | exact HB.out | apply below_alloc | apply pw_below_drewN | apply below_drew1 | refine below_set ?_ GE996.out | refine below_set ?_ GE997.out | refine below_set ?_ GE1013.out | refine below_set ?_ GE1018.out | refine below_set ?_ GE1023.out | refine below_set ?_ GE1029.out) | exact HB.out)⟩⟩
        case rest =>
         clear HC108
         try clear c1
         try clear p2
         try clear c3
         try clear c7
         try clear c8
         try clear c9
         try clear c10
         try clear c11
         try clear c12
         try clear c13
         try clear c14
         try clear c15
         try clear c34
         try clear c36
         try clear c37
         try clear c74
         try clear c75
         try clear c76
         try clear c77
         try clear c78
         try clear c79
         try clear c81
         try clear c82
         try clear c83
         try clear c84
         try clear c87
         try clear c88
         try clear c89
         try clear c90
         try clear c91
         try clear c93
         try clear c94
         try clear c95
         try clear c96
         try clear c99
         try clear c102
         try clear c105
         try clear c117
         try clear c118
         try clear c119
         try clear c120
         try clear c121
         try clear c124
         try clear c125
         try clear c126
         try clear c127
         try clear c130
         try clear c130b0
         try clear c132
         try clear c133
         try clear c134
         try clear c135
         try clear c136
         try clear c137
         try clear c139
         try clear c140
         try clear c141
         try clear c142
         try clear c145
         try clear c146
         try clear c147
         try clear c148
         try clear c149
         try clear c151
         try clear c152
         try clear c153
         try clear c154
         try clear hcz122_0
         try clear hcz122_1
         try clear hcz128_0
         try clear hcz128_1
         try clear hcz138_0
         try clear hcz138_1
         try clear hcz143_0
         try clear hcz143_1
         try clear hcz150_0
         try clear hcz150_1
         try clear hcz155_0
         try clear hcz155_1
         try clear hcz45_0
         try clear hcz45_1
         try clear hcz51_0
         try clear hcz51_1
         try clear hcz54_0
         try clear hcz54_1
         try clear hcz61_0
         try clear hcz61_1
         try clear hcz63_0
         try clear hcz63_1
         try clear hcz71_0
         try clear hcz71_1
         try clear hcz80_0
         try clear hcz80_1
         try clear hcz85_0
         try clear hcz85_1
         try clear hcz92_0
         try clear hcz92_1
         try clear hcz97_0
         try clear hcz97_1
         try clear hfz122_0
         try clear hfz122_1
         try clear hfz128_0
         try clear hfz128_1
         try clear hfz138_0
         try clear hfz138_1
         try clear hfz143_0
         try clear hfz143_1
         try clear hfz150_0
         try clear hfz150_1
         try clear hfz155_0
         try clear hfz155_1
         try clear hfz45_0
         try clear hfz45_1
         try clear hfz51_0
         try clear hfz51_1
         try clear hfz54_0
         try clear hfz54_1
         try clear hfz61_0
         try clear hfz61_1
         try clear hfz63_0
         try clear hfz63_1
         try clear hfz71_0
         try clear hfz71_1
         try clear hfz80_0
         try clear hfz80_1
         try clear hfz85_0
         try clear hfz85_1
         try clear hfz92_0
         try clear hfz92_1
         try clear hfz97_0
         try clear hfz97_1
         obtain ⟨kq, x82_107, rfl, HA, HJ107, HO_1014001, HO_1019001, HO_1024001, HO_1030001, BK996, BK997, BK1013, BK1018, BK1023, BK1029, HB⟩ := hcut
         have hl1019001_107 := (Kd.R_reads' HO_1019001.out).1
         rw [hl1019001_107] at HO_1019001
         (try simp only [hl1019001_107])
         (try simp only [hl1019001_107] at BK996)
         (try simp only [hl1019001_107] at BK997)
         (try simp only [hl1019001_107] at BK1013)
         (try simp only [hl1019001_107] at BK1018)
         (try simp only [hl1019001_107] at BK1023)
         (try simp only [hl1019001_107] at BK1029)
         (try simp only [hl1019001_107] at HO_1014001)
         (try simp only [hl1019001_107] at HO_1024001)
         (try simp only [hl1019001_107] at HO_1030001)
         have hl1024001_107 := (Kd.R_reads' HO_1024001.out).1
         rw [hl1024001_107] at HO_1024001
         (try simp only [hl1024001_107])
         (try simp only [hl1024001_107] at BK996)
         (try simp only [hl1024001_107] at BK997)
         (try simp only [hl1024001_107] at BK1013)
         (try simp only [hl1024001_107] at BK1018)
         (try simp only [hl1024001_107] at BK1023)
         (try simp only [hl1024001_107] at BK1029)
         (try simp only [hl1024001_107] at HO_1014001)
         (try simp only [hl1024001_107] at HO_1019001)
         (try simp only [hl1024001_107] at HO_1030001)
         cases kq with
         | zero => exact absurd HA.out (by simp [laws_FnExactUnionOf.j1])
         | succ kj107 =>
          have H := HA.out
          clear HA
          simp only [laws_FnExactUnionOf.j1] at H
          by_cases c157 : x82_107 = true
          ·subst c157
           have H1 : (some false) = some r := by rw [if_pos rfl] at H; exact H
           clear H
           have H := H1
           clear H1
           obtain rfl := Option.some.inj H
           exact absurd hT.out (by decide)
          ·replace c157 := Bool.eq_false_iff.mpr c157
           subst c157
           have H1 : ((laws_markMatroid.f kj107 t1024 t1025 1).bind fun bt1046 => ((laws_heldMatroid.f kj107 t1024 bt1046.2 1).bind fun t1048 => (if t1048 < 0 then (some false) else (if t1048 = bt1046.1 then ((laws_toMatroid.f kj107 a0_0 l0_1).bind fun bt1049 => ((laws_toMatroid.f kj107 a1_0 l1_1).bind fun bt1053 => ((impl_UnionOf.f kj107 bt1049.1 bt1049.2 bt1053.1 bt1053.2).bind fun bt1057 => ((laws_eqMatroid.f kj107 bt1057.1 bt1057.2.1 t1008 t1009).bind fun t1063 => (if t1063 = true then (laws_FnExactUnionOf.j2 kj107 bt1046.1 (bt1057.2.2 != t1012) t1024 bt1046.2) else (laws_FnExactUnionOf.j2 kj107 bt1046.1 true t1024 bt1046.2)))))) else (some false))))) = some r := by rw [if_neg (show ¬ (false = true) by decide)] at H; exact H
           clear H
           have H := H1
           clear H1
           replace H := Option.bind_eq_some_iff.mp H
           obtain ⟨⟨t1046, t1047⟩, A1580, H⟩ := H
           (try dsimp only at H)
           have A158 := Aside0.mk A1580
           clear A1580
           replace H := Option.bind_eq_some_iff.mp H
           obtain ⟨t1048, A1590, H⟩ := H
           (try dsimp only at H)
           have A159 := Aside0.mk A1590
           clear A1590
           by_cases c160 : t1048 < 0
           ·rw [if_pos c160] at H
            have c160b0 : decide (t1048 < 0) = true := decide_eq_true c160
            clear c160
            obtain rfl := Option.some.inj H
            exact absurd hT.out (by decide)
           ·rw [if_neg c160] at H
            have c160b0 : decide (t1048 < 0) = false := decide_eq_false c160
            clear c160
            by_cases c161 : t1048 = t1046
            ·rw [if_pos c161] at H
             have c161b0 : (t1048 == t1046) = true := beq_iff_eq.mpr c161
             have c161b1 : (t1048 != t1046) = false := bne_eq_false_iff_eq.mpr c161
             clear c161
             replace H := Option.bind_eq_some_iff.mp H
             obtain ⟨⟨t1049, t1050⟩, A1620, H⟩ := H
             (try dsimp only at H)
             have A162 := Aside0.mk A1620
             clear A1620
             replace H := Option.bind_eq_some_iff.mp H
             obtain ⟨⟨t1053, t1054⟩, A1630, H⟩ := H
             (try dsimp only at H)
             have A163 := Aside0.mk A1630
             clear A1630
             replace H := Option.bind_eq_some_iff.mp H
             obtain ⟨⟨t1057, t1058, t1061⟩, A1640, H⟩ := H
             (try dsimp only at H)
             have A164 := Aside0.mk A1640
             clear A1640
             have HC165 := Aside0.mk H
             clear H
             have hnb166 := NB1029_996.out
             have hnc166 := NB996_1029.out
             have hnb167 := NB1029_997.out
             have hnc167 := NB997_1029.out
             have hnb168 := NB1029_1013.out
             have hnc168 := NB1013_1029.out
             have hnb169 := NB1029_1018.out
             have hnc169 := NB1018_1029.out
             have hnb170 := NB1029_1023.out
             have hnc170 := NB1023_1029.out
             obtain ⟨hcz171_0, hcz171_1, hfz171_0, hfz171_1⟩ := Hof.blk2 BK1029.out
             try go_wp2_with (first | ((with_reducible refine gate_callee (f := 37) rfl ?_); refine goesL_ (some 85) rfl rfl Try.func37 (by kernel_rfl) rfl #[.agg #[.int .i64 t1024, .slice Ao72 t1025.length co72], .int .i64 1] rfl (by (try simp only [List.map_toArray, List.map_cons, List.map_nil]); first | done | rfl) ?_; (with_reducible refine (laws_markMatroid.calls kj107 t1024 (fun k_ => some k_ = (.slice Ao72 t1025.length co72 : Value).ownBlock) (.slice Ao72 t1025.length co72) t1025 1 t1046 t1047 w _ ?side1 ?side2 A158.out).mono ?_); (case side1 => repeat (first | (with_reducible first | exact HB.out | apply below_alloc | apply pw_below_drewN | apply below_drew1 | refine below_set ?_ GE996.out | refine below_set ?_ GE997.out | refine below_set ?_ GE1013.out | refine below_set ?_ GE1018.out | refine below_set ?_ GE1023.out | refine below_set ?_ GE1029.out) | exact HB.out)); (case side2 => exact Kd.R_tight rfl HO_1030001.out); rintro e w172 ⟨rfl, hy0, hb, hkp⟩; refine ⟨_, rfl, ?_⟩; replace HO_1014001 := Aside0.mk (Kd.R_mono (ok' := fun k_ => some k_ ≠ (.slice Ao52 t1042.length co52 : Value).ownBlock ∧ some k_ ≠ (.slice Ao62 t1044.length co62 : Value).ownBlock ∧ some k_ ≠ (.slice Ao72 t1025.length co72 : Value).ownBlock) (Kd.R_keptB (HO_1014001.out) hkp (fun k_ hk_ hs_ => (by first | exact (hk_.2.2) hs_ | (simp_all; done)))) (fun k_ hk_ => (by first | exact ⟨hk_.1.1, hk_.1.2.1, hk_.1.2.2⟩ | (simp_all; done)))); replace HO_1019001 := Aside0.mk (Kd.R_mono (ok' := fun k_ => some k_ ≠ (.slice Ao42 t1009.length co42 : Value).ownBlock ∧ some k_ ≠ (.slice Ao62 t1044.length co62 : Value).ownBlock ∧ some k_ ≠ (.slice Ao72 t1025.length co72 : Value).ownBlock) (Kd.R_keptB (HO_1019001.out) hkp (fun k_ hk_ hs_ => (by first | exact (hk_.2.2) hs_ | (simp_all; done)))) (fun k_ hk_ => (by first | exact ⟨hk_.1.1, hk_.1.2.1, hk_.1.2.2⟩ | (simp_all; done)))); replace HO_1024001 := Aside0.mk (Kd.R_mono (ok' := fun k_ => some k_ ≠ (.slice Ao42 t1009.length co42 : Value).ownBlock ∧ some k_ ≠ (.slice Ao52 t1042.length co52 : Value).ownBlock ∧ some k_ ≠ (.slice Ao72 t1025.length co72 : Value).ownBlock) (Kd.R_keptB (HO_1024001.out) hkp (fun k_ hk_ hs_ => (by first | exact (hk_.2.2) hs_ | (simp_all; done)))) (fun k_ hk_ => (by first | exact ⟨hk_.1.1, hk_.1.2.1, hk_.1.2.2⟩ | (simp_all; done)))); replace BK996 := Aside0.mk (blk_kept (Hof.Bw BK996.out) hkp (fun hs_ => (fun e_ => (Kd.R_ne HO_1030001.out BK996.out (by decide)) e_) hs_)); replace BK997 := Aside0.mk (blk_kept (Hof.Bw BK997.out) hkp (fun hs_ => (fun e_ => (Kd.R_ne HO_1030001.out BK997.out (by decide)) e_) hs_)); replace BK1013 := Aside0.mk (blk_kept (Hof.Bw BK1013.out) hkp (fun hs_ => (fun e_ => (Kd.R_ne HO_1030001.out BK1013.out (by decide)) e_) hs_)); replace BK1018 := Aside0.mk (blk_kept (Hof.Bw BK1018.out) hkp (fun hs_ => (fun e_ => (Kd.R_ne HO_1030001.out BK1018.out (by decide)) e_) hs_)); replace BK1023 := Aside0.mk (blk_kept (Hof.Bw BK1023.out) hkp (fun hs_ => (fun e_ => (Kd.R_ne HO_1030001.out BK1023.out (by decide)) e_) hs_)); replace BK1029 := Aside0.mk (blk_kept (Hof.Bw BK1029.out) hkp (fun hs_ => (fun e_ => (Kd.R_ne HO_1030001.out BK1029.out (by decide)) e_) hs_)); replace HO_1030001 := Aside0.mk (Kd.R_reok rfl hy0 (fun k_ e_ => HO_1030001.out.1 k_ e_)); replace HB := Aside0.mk hb; (try clear hb); (try clear hkp); (try clear hy0); obtain ⟨hcz173_0, hcz173_1, hfz173_0, hfz173_1⟩ := Hof.blk2 BK1029.out) | ((with_reducible refine gate_callee (f := 45) rfl ?_); refine goesL_ (some 88) rfl rfl Try.func45 (by kernel_rfl) rfl #[.agg #[.int .i64 t1024, .slice Ao72 t1047.length co72], .int .i64 1] rfl (by (try simp only [List.map_toArray, List.map_cons, List.map_nil]); first | done | (rw [show t1047.length = t1025.length from (Kd.R_reads' HO_1030001.out).1.symm] <;> rfl) | rfl | (simp only [List.length_drop, List.length_take]; rfl)) ?_; (with_reducible refine (laws_heldMatroid.calls kj107 t1024 _ _ t1047 1 t1048 _ ?side1 ?side2 A159.out).mono ?_); (case side1 => exact Hof.Cw ((Kd.R_reads' HO_1030001.out).2.2)); (case side2 => rw [show t1047.length = t1025.length from (Kd.R_reads' HO_1030001.out).1.symm]; exact (Kd.R_reads' HO_1030001.out).2.1); rintro e w174 ⟨rfl, hb⟩; refine ⟨_, rfl, ?_⟩; replace HO_1014001 := Aside0.mk (Kd.R_below (Hof.Rw HO_1014001.out) hb); replace HO_1019001 := Aside0.mk (Kd.R_below (Hof.Rw HO_1019001.out) hb); replace HO_1024001 := Aside0.mk (Kd.R_below (Hof.Rw HO_1024001.out) hb); replace HO_1030001 := Aside0.mk (Kd.R_below (Hof.Rw HO_1030001.out) hb); replace BK996 := Aside0.mk (blk_below (Hof.Bw BK996.out) hb); replace BK997 := Aside0.mk (blk_below (Hof.Bw BK997.out) hb); replace BK1013 := Aside0.mk (blk_below (Hof.Bw BK1013.out) hb); replace BK1018 := Aside0.mk (blk_below (Hof.Bw BK1018.out) hb); replace BK1023 := Aside0.mk (blk_below (Hof.Bw BK1023.out) hb); replace BK1029 := Aside0.mk (blk_below (Hof.Bw BK1029.out) hb); replace HB := Aside0.mk (below_step (by first | exact Hof.Lw HB.out | exact laws_FnExactUnionOf.Ls HB.out GE1029.out) hb); (try clear hb); (try clear hb2); (try clear hk); (try clear hi)))
             have n0_ := Aside0.mk (Kd.R_drew HO_1014001.out)
             have n1_ := Aside0.mk (Kd.R_drew HO_1019001.out)
             have n2_ := Aside0.mk (Kd.R_drew HO_1024001.out)
             have n3_ := Aside0.mk (Kd.R_drew HO_1030001.out)
             have n4_ := Aside0.mk (blk_drew BK996.out)
             have n5_ := Aside0.mk (blk_drew BK997.out)
             have n6_ := Aside0.mk (blk_drew BK1013.out)
             have n7_ := Aside0.mk (blk_drew BK1018.out)
             have n8_ := Aside0.mk (blk_drew BK1023.out)
             have n9_ := Aside0.mk (blk_drew BK1029.out)
             have n10_ := Aside0.mk (below_drew1 HB.out)
             clear HO_1014001
             clear HO_1019001
             clear HO_1024001
             clear HO_1030001
             clear BK996
             clear BK997
             clear BK1013
             clear BK1018
             clear BK1023
             clear BK1029
             clear HB
             have HO_1014001 := n0_
             have HO_1019001 := n1_
             have HO_1024001 := n2_
             have HO_1030001 := n3_
             have BK996 := n4_
             have BK997 := n5_
             have BK1013 := n6_
             have BK1018 := n7_
             have BK1023 := n8_
             have BK1029 := n9_
             have HB := n10_
             clear n0_ n1_ n2_ n3_ n4_ n5_ n6_ n7_ n8_ n9_ n10_
             refine start_ (n := 11) (S := fun w' => w'.cell? ⟨gb996, 0, none⟩ = some (.int .i64 a0_0) ∧ w'.cell? ⟨gb996, 1, none⟩ = some (.slice A0_1 l0_1.length c0_1) ∧ w'.cell? ⟨gb997, 0, none⟩ = some (.int .i64 a1_0) ∧ w'.cell? ⟨gb997, 1, none⟩ = some (.slice A1_1 l1_1.length c1_1)) (ds := []) #[false, false, false, false, false, false, false, false, false, false, false] (by kernel_rfl) rfl rfl ⟨(blk_cell BK996.out 0).trans rfl, (blk_cell BK996.out 1).trans rfl, (blk_cell BK997.out 0).trans rfl, (blk_cell BK997.out 1).trans rfl⟩ (fun hHeld => ?_); refine with_tabW laws_FnExactUnionOf.tab31 laws_FnExactUnionOf.bits31 (fun HT_ HW_ => ?_)
             generalize w174.drew = w175 at HO_1014001 HO_1019001 HO_1024001 HO_1030001 BK996 BK997 BK1013 BK1018 BK1023 BK1029 HB hHeld ⊢
             refine take_ (i := 0) (N := some 95) (v := ?_) (a' := ?_) #[true, false, false, false, false, false, false, false, false, false, false] rfl rfl (take_ofW HT_.out HW_.out (by kernel_rfl)) (fun _ _ _ h => h) (Or.inl ⟨by rfl, ?_⟩) hHeld ?_ ?_
             rotate_left
             ·rintro w' ⟨s0, s1, s2, s3⟩
              go_simp
              with_reducible rfl
             rotate_left
             ·simp only [Act.put, List.setIfInBounds_toArray, List.set_cons_zero, List.set_cons_succ, i64_w, i32_w]
              rfl
             refine take_ (i := 2) (N := some 97) (v := ?_) (a' := ?_) #[true, false, true, false, false, false, false, false, false, false, false] rfl rfl (take_ofW HT_.out HW_.out (by kernel_rfl)) (fun _ _ _ h => h) (Or.inl ⟨by rfl, ?_⟩) hHeld ?_ ?_
             rotate_left
             ·rintro w' ⟨s0, s1, s2, s3⟩
              go_simp
              with_reducible rfl
             rotate_left
             ·simp only [Act.put, List.setIfInBounds_toArray, List.set_cons_zero, List.set_cons_succ, i64_w, i32_w]
              rfl
             refine join_ (σ := Value × Value × Value × Nat) 2 #[true, true, true, true, true, true, true, true, true, false, false] (fun s_ => [(96, .agg #[.int .i64 t1049, s_.1]), (98, .agg #[.int .i64 t1053, s_.2.1]), (99, .tuple #[.agg #[.int .i64 t1057, s_.2.2.1], .bool t1061]), (15, .pointer (some ⟨s_.2.2.2, 0, none⟩)), (94, .tuple #[.agg #[.int .i64 t1057, s_.2.2.1], .bool t1061]), (100, .agg #[.int .i64 t1057, s_.2.2.1]), (101, .bool t1061)]) (fun s_ w' => (w'.cell? ⟨gb996, 0, none⟩ = some (.int .i64 a0_0) ∧ w'.cell? ⟨gb996, 1, none⟩ = some (.slice A0_1 l0_1.length c0_1) ∧ w'.cell? ⟨gb997, 0, none⟩ = some (.int .i64 a1_0) ∧ w'.cell? ⟨gb997, 1, none⟩ = some (.slice A1_1 l1_1.length c1_1)) ∧ (Kd.R (Kd.int .i64) 3 w' w.heap.size (fun k_ => some k_ ≠ (s_.2.1 : Value).ownBlock ∧ some k_ ≠ (s_.2.2.1 : Value).ownBlock ∧ some k_ ≠ (.slice Ao42 t1009.length co42 : Value).ownBlock ∧ some k_ ≠ (.slice Ao52 t1042.length co52 : Value).ownBlock ∧ some k_ ≠ (.slice Ao62 t1044.length co62 : Value).ownBlock ∧ some k_ ≠ (.slice Ao72 t1025.length co72 : Value).ownBlock) s_.1 t1050) ∧ (Kd.R (Kd.int .i64) 3 w' w.heap.size (fun k_ => some k_ ≠ (s_.1 : Value).ownBlock ∧ some k_ ≠ (s_.2.2.1 : Value).ownBlock ∧ some k_ ≠ (.slice Ao42 t1009.length co42 : Value).ownBlock ∧ some k_ ≠ (.slice Ao52 t1042.length co52 : Value).ownBlock ∧ some k_ ≠ (.slice Ao62 t1044.length co62 : Value).ownBlock ∧ some k_ ≠ (.slice Ao72 t1025.length co72 : Value).ownBlock) s_.2.1 t1054) ∧ (Kd.R (Kd.int .i64) 3 w' w.heap.size (fun k_ => some k_ ≠ (s_.1 : Value).ownBlock ∧ some k_ ≠ (s_.2.1 : Value).ownBlock ∧ some k_ ≠ (.slice Ao42 t1009.length co42 : Value).ownBlock ∧ some k_ ≠ (.slice Ao52 t1042.length co52 : Value).ownBlock ∧ some k_ ≠ (.slice Ao62 t1044.length co62 : Value).ownBlock ∧ some k_ ≠ (.slice Ao72 t1025.length co72 : Value).ownBlock) s_.2.2.1 t1058) ∧ (Kd.R (Kd.int .i64) 3 w' w.heap.size (fun k_ => some k_ ≠ (s_.1 : Value).ownBlock ∧ some k_ ≠ (s_.2.1 : Value).ownBlock ∧ some k_ ≠ (s_.2.2.1 : Value).ownBlock ∧ some k_ ≠ (.slice Ao52 t1042.length co52 : Value).ownBlock ∧ some k_ ≠ (.slice Ao62 t1044.length co62 : Value).ownBlock ∧ some k_ ≠ (.slice Ao72 t1025.length co72 : Value).ownBlock) (.slice Ao42 t1009.length co42) t1009) ∧ (Kd.R (Kd.int .i64) 3 w' w.heap.size (fun k_ => some k_ ≠ (s_.1 : Value).ownBlock ∧ some k_ ≠ (s_.2.1 : Value).ownBlock ∧ some k_ ≠ (s_.2.2.1 : Value).ownBlock ∧ some k_ ≠ (.slice Ao42 t1009.length co42 : Value).ownBlock ∧ some k_ ≠ (.slice Ao62 t1044.length co62 : Value).ownBlock ∧ some k_ ≠ (.slice Ao72 t1025.length co72 : Value).ownBlock) (.slice Ao52 t1042.length co52) t1042) ∧ (Kd.R (Kd.int .i64) 3 w' w.heap.size (fun k_ => some k_ ≠ (s_.1 : Value).ownBlock ∧ some k_ ≠ (s_.2.1 : Value).ownBlock ∧ some k_ ≠ (s_.2.2.1 : Value).ownBlock ∧ some k_ ≠ (.slice Ao42 t1009.length co42 : Value).ownBlock ∧ some k_ ≠ (.slice Ao52 t1042.length co52 : Value).ownBlock ∧ some k_ ≠ (.slice Ao72 t1025.length co72 : Value).ownBlock) (.slice Ao62 t1044.length co62) t1044) ∧ (Kd.R (Kd.int .i64) 3 w' w.heap.size (fun k_ => some k_ ≠ (s_.1 : Value).ownBlock ∧ some k_ ≠ (s_.2.1 : Value).ownBlock ∧ some k_ ≠ (s_.2.2.1 : Value).ownBlock ∧ some k_ ≠ (.slice Ao42 t1009.length co42 : Value).ownBlock ∧ some k_ ≠ (.slice Ao52 t1042.length co52 : Value).ownBlock ∧ some k_ ≠ (.slice Ao62 t1044.length co62 : Value).ownBlock) (.slice Ao72 t1025.length co72) t1047) ∧ (w'.heap[gb1013]? = some (.cells #[.int .i64 t1008, .slice Ao42 t1009.length co42] 45 (0, 0))) ∧ (w'.heap[gb1018]? = some (.cells #[.int .i64 t1014, .slice Ao52 t1042.length co52] 45 (0, 0))) ∧ (w'.heap[gb1023]? = some (.cells #[.int .i64 t1019, .slice Ao62 t1044.length co62] 45 (0, 0))) ∧ (w'.heap[gb1029]? = some (.cells #[.int .i64 t1024, .slice Ao72 t1025.length co72] 45 (0, 0))) ∧ (w'.heap[s_.2.2.2]? = some (.cells #[.int .i64 0, .slice none 0 0] 45 (0, 0))) ∧ (w'.heap[gb996]? = some (.cells #[.int .i64 a0_0, .slice A0_1 l0_1.length c0_1] 42 (0, 0))) ∧ (w'.heap[gb997]? = some (.cells #[.int .i64 a1_0, .slice A1_1 l1_1.length c1_1] 42 (0, 0))) ∧ (w.heap.size ≤ s_.2.2.2) ∧ (w.heap.size ≤ s_.2.2.2) ∧ (gb1013 ≠ s_.2.2.2) ∧ (s_.2.2.2 ≠ gb1013) ∧ (gb1018 ≠ s_.2.2.2) ∧ (s_.2.2.2 ≠ gb1018) ∧ (gb1023 ≠ s_.2.2.2) ∧ (s_.2.2.2 ≠ gb1023) ∧ (gb1029 ≠ s_.2.2.2) ∧ (s_.2.2.2 ≠ gb1029) ∧ (gb996 ≠ s_.2.2.2) ∧ (s_.2.2.2 ≠ gb996) ∧ (gb997 ≠ s_.2.2.2) ∧ (s_.2.2.2 ≠ gb997) ∧ (Below w.heap.size w w')) ?_ ?_
             rotate_left
             ·intro hCont
              refine two_ (i := 1) (j := 8) (Ni := some 96) (Nj := some 15) #[true, true, true, false, false, false, false, false, false, false, false] #[true, false, true, false, false, false, false, false, true, false, false] rfl rfl rfl rfl (two_of HT_.out (by kernel_rfl)) (by decide) (by decide) (fun K hK => ?_) (fun K hK => ?_)
              ·skip
               refine goes_ Try.func34 (by kernel_rfl) rfl #[.agg #[.int .i64 a0_0, .slice A0_1 l0_1.length c0_1]] (by rfl) rfl rfl (by (try simp only [List.map_toArray, List.map_cons, List.map_nil]); first | done | rfl) ?_
               with_reducible refine (laws_toMatroid.calls kj107 a0_0 _ _ l0_1 t1049 t1050 _ ?side1 ?side2 A162.out).mono ?_
               (case side1 => exact Hof.Cw (Kd.C_below HR0_1.out HB.out))
               (case side2 => exact HC0_1.out)
               rintro e w176 ⟨v1051, rfl, ho0, hb⟩
               refine ⟨_, rfl, ?_⟩
               have HO1052 := Aside0.mk (Kd.R_lower (Kd.R_new' (Kd.R_new' (Kd.R_new' (Kd.R_new' ho0 (Kd.R_lt (Hof.Rw HO_1014001.out))) (Kd.R_lt (Hof.Rw HO_1019001.out))) (Kd.R_lt (Hof.Rw HO_1024001.out))) (Kd.R_lt (Hof.Rw HO_1030001.out))) (below_size (Hof.Lw HB.out)))
               replace HO_1014001 := Aside0.mk (Kd.R_elder' (Hof.Rw HO_1014001.out) (Kd.R_base ho0) hb)
               replace HO_1019001 := Aside0.mk (Kd.R_elder' (Hof.Rw HO_1019001.out) (Kd.R_base ho0) hb)
               replace HO_1024001 := Aside0.mk (Kd.R_elder' (Hof.Rw HO_1024001.out) (Kd.R_base ho0) hb)
               replace HO_1030001 := Aside0.mk (Kd.R_elder' (Hof.Rw HO_1030001.out) (Kd.R_base ho0) hb)
               replace BK996 := Aside0.mk (blk_below (Hof.Bw BK996.out) hb)
               replace BK997 := Aside0.mk (blk_below (Hof.Bw BK997.out) hb)
               replace BK1013 := Aside0.mk (blk_below (Hof.Bw BK1013.out) hb)
               replace BK1018 := Aside0.mk (blk_below (Hof.Bw BK1018.out) hb)
               replace BK1023 := Aside0.mk (blk_below (Hof.Bw BK1023.out) hb)
               replace BK1029 := Aside0.mk (blk_below (Hof.Bw BK1029.out) hb)
               replace HB := Aside0.mk (below_step (Hof.Lw HB.out) hb)
               clear hb ho0
               refine hK.out _ _ ⟨(blk_cell BK996.out 0).trans rfl, (blk_cell BK996.out 1).trans rfl, (blk_cell BK997.out 0).trans rfl, (blk_cell BK997.out 1).trans rfl⟩ (fun hHeld => ?_)
               clear hK K
               refine norm_ (a' := ?_) ?_ ?_
               rotate_left
               ·show Act.put _ (some 96) _ = _
                simp only [Act.put, List.setIfInBounds_toArray, List.set_cons_zero, List.set_cons_succ, i64_w, i32_w]
                rfl
               refine two_ (i := 3) (j := 8) (Ni := some 98) (Nj := some 15) #[true, true, true, true, false, false, false, false, false, false, false] #[true, true, true, false, false, false, false, false, true, false, false] rfl rfl rfl rfl (two_of HT_.out (by kernel_rfl)) (by decide) (by decide) (fun K hK => ?_) (fun K hK => ?_)
               ·skip
                refine goes_ Try.func34 (by kernel_rfl) rfl #[.agg #[.int .i64 a1_0, .slice A1_1 l1_1.length c1_1]] (by rfl) rfl rfl (by (try simp only [List.map_toArray, List.map_cons, List.map_nil]); first | done | rfl) ?_
                with_reducible refine (laws_toMatroid.calls kj107 a1_0 _ _ l1_1 t1053 t1054 _ ?side1 ?side2 A163.out).mono ?_
                (case side1 => exact Hof.Cw (Kd.C_below HR1_1.out HB.out))
                (case side2 => exact HC1_1.out)
                rintro e w177 ⟨v1055, rfl, ho0, hb⟩
                refine ⟨_, rfl, ?_⟩
                have HO1056 := Aside0.mk (Kd.R_lower (Kd.R_new' (Kd.R_new' (Kd.R_new' (Kd.R_new' (Kd.R_new' ho0 (Kd.R_lt (Hof.Rw HO_1014001.out))) (Kd.R_lt (Hof.Rw HO_1019001.out))) (Kd.R_lt (Hof.Rw HO_1024001.out))) (Kd.R_lt (Hof.Rw HO_1030001.out))) (Kd.R_lt (Hof.Rw HO1052.out))) (below_size (Hof.Lw HB.out)))
                replace HO_1014001 := Aside0.mk (Kd.R_elder' (Hof.Rw HO_1014001.out) (Kd.R_base ho0) hb)
                replace HO_1019001 := Aside0.mk (Kd.R_elder' (Hof.Rw HO_1019001.out) (Kd.R_base ho0) hb)
                replace HO_1024001 := Aside0.mk (Kd.R_elder' (Hof.Rw HO_1024001.out) (Kd.R_base ho0) hb)
                replace HO_1030001 := Aside0.mk (Kd.R_elder' (Hof.Rw HO_1030001.out) (Kd.R_base ho0) hb)
                replace HO1052 := Aside0.mk (Kd.R_elder' (Hof.Rw HO1052.out) (Kd.R_base ho0) hb)
                replace BK996 := Aside0.mk (blk_below (Hof.Bw BK996.out) hb)
                replace BK997 := Aside0.mk (blk_below (Hof.Bw BK997.out) hb)
                replace BK1013 := Aside0.mk (blk_below (Hof.Bw BK1013.out) hb)
                replace BK1018 := Aside0.mk (blk_below (Hof.Bw BK1018.out) hb)
                replace BK1023 := Aside0.mk (blk_below (Hof.Bw BK1023.out) hb)
                replace BK1029 := Aside0.mk (blk_below (Hof.Bw BK1029.out) hb)
                replace HB := Aside0.mk (below_step (Hof.Lw HB.out) hb)
                clear hb ho0
                obtain ⟨Ao178, co178, eo178⟩ := Kd.R_slice HO1052.out
                (first | subst eo178 | (injection eo178 with f1_ f2_ f3_; have f4_ := f1_.symm; have f5_ := f3_.symm; clear f1_ f2_ f3_; subst f4_; subst f5_))
                obtain ⟨Ao179, co179, eo179⟩ := Kd.R_slice HO1056.out
                (first | subst eo179 | (injection eo179 with f1_ f2_ f3_; have f4_ := f1_.symm; have f5_ := f3_.symm; clear f1_ f2_ f3_; subst f4_; subst f5_))
                refine hK.out _ _ ⟨(blk_cell BK996.out 0).trans rfl, (blk_cell BK996.out 1).trans rfl, (blk_cell BK997.out 0).trans rfl, (blk_cell BK997.out 1).trans rfl⟩ (fun hHeld => ?_)
                clear hK K
                refine norm_ (a' := ?_) ?_ ?_
                rotate_left
                ·show Act.put _ (some 98) _ = _
                 simp only [Act.put, List.setIfInBounds_toArray, List.set_cons_zero, List.set_cons_succ, i64_w, i32_w]
                 rfl
                refine two_ (i := 4) (j := 8) (Ni := some 99) (Nj := some 15) #[true, true, true, true, true, false, false, false, false, false, false] #[true, true, true, true, false, false, false, false, true, false, false] rfl rfl rfl rfl (two_of HT_.out (by kernel_rfl)) (by decide) (by decide) (fun K hK => ?_) (fun K hK => ?_)
                ·skip
                 refine goes_ Try.func44 (by kernel_rfl) rfl #[.agg #[.int .i64 t1049, .slice Ao178 t1050.length co178], .agg #[.int .i64 t1053, .slice Ao179 t1054.length co179]] (by rfl) rfl rfl (by (try simp only [List.map_toArray, List.map_cons, List.map_nil]); first | done | rfl) ?_
                 with_reducible refine (impl_UnionOf.calls kj107 t1049 _ _ t1050 t1053 _ _ t1054 t1057 t1058 t1061 _ ?side1 ?side2 ?side3 ?side4 A164.out).mono ?_
                 (case side1 => exact Hof.Cw ((Kd.R_reads' HO1052.out).2.2))
                 (case side2 => exact (Kd.R_reads' HO1052.out).2.1)
                 (case side3 => exact Hof.Cw ((Kd.R_reads' HO1056.out).2.2))
                 (case side4 => exact (Kd.R_reads' HO1056.out).2.1)
                 rintro e w180 ⟨v1059, rfl, ho0, hb⟩
                 refine ⟨_, rfl, ?_⟩
                 have HO1060 := Aside0.mk (Kd.R_lower (Kd.R_new' (Kd.R_new' (Kd.R_new' (Kd.R_new' (Kd.R_new' (Kd.R_new' ho0 (Kd.R_lt (Hof.Rw HO_1014001.out))) (Kd.R_lt (Hof.Rw HO_1019001.out))) (Kd.R_lt (Hof.Rw HO_1024001.out))) (Kd.R_lt (Hof.Rw HO_1030001.out))) (Kd.R_lt (Hof.Rw HO1052.out))) (Kd.R_lt (Hof.Rw HO1056.out))) (below_size (Hof.Lw HB.out)))
                 replace HO_1014001 := Aside0.mk (Kd.R_elder' (Hof.Rw HO_1014001.out) (Kd.R_base ho0) hb)
                 replace HO_1019001 := Aside0.mk (Kd.R_elder' (Hof.Rw HO_1019001.out) (Kd.R_base ho0) hb)
                 replace HO_1024001 := Aside0.mk (Kd.R_elder' (Hof.Rw HO_1024001.out) (Kd.R_base ho0) hb)
                 replace HO_1030001 := Aside0.mk (Kd.R_elder' (Hof.Rw HO_1030001.out) (Kd.R_base ho0) hb)
                 replace HO1052 := Aside0.mk (Kd.R_elder' (Hof.Rw HO1052.out) (Kd.R_base ho0) hb)
                 replace HO1056 := Aside0.mk (Kd.R_elder' (Hof.Rw HO1056.out) (Kd.R_base ho0) hb)
                 replace BK996 := Aside0.mk (blk_below (Hof.Bw BK996.out) hb)
                 replace BK997 := Aside0.mk (blk_below (Hof.Bw BK997.out) hb)
                 replace BK1013 := Aside0.mk (blk_below (Hof.Bw BK1013.out) hb)
                 replace BK1018 := Aside0.mk (blk_below (Hof.Bw BK1018.out) hb)
                 replace BK1023 := Aside0.mk (blk_below (Hof.Bw BK1023.out) hb)
                 replace BK1029 := Aside0.mk (blk_below (Hof.Bw BK1029.out) hb)
                 replace HB := Aside0.mk (below_step (Hof.Lw HB.out) hb)
                 clear hb ho0
                 refine hK.out _ _ ⟨(blk_cell BK996.out 0).trans rfl, (blk_cell BK996.out 1).trans rfl, (blk_cell BK997.out 0).trans rfl, (blk_cell BK997.out 1).trans rfl⟩ (fun hHeld => ?_)
                 clear hK K
                 refine norm_ (a' := ?_) ?_ ?_
                 rotate_left
                 ·show Act.put _ (some 99) _ = _
                  simp only [Act.put, List.setIfInBounds_toArray, List.set_cons_zero, List.set_cons_succ, i64_w, i32_w]
                  rfl
                 refine pure_ (i := 5) (N := some 94) (v := ?_) (a' := ?_) #[true, true, true, true, true, true, false, false, false, false, false] rfl rfl (any_of HT_.out (by kernel_rfl)) (fun _ _ _ h => h) (Or.inl ⟨by rfl, ?_⟩) ?_ ?_
                 rotate_left
                 ·intro w'
                  go_simp
                  with_reducible rfl
                 rotate_left
                 ·simp only [Act.put, List.setIfInBounds_toArray, List.set_cons_zero, List.set_cons_succ, i64_w, i32_w]
                  rfl
                 refine pure_ (i := 6) (N := some 100) (v := ?_) (a' := ?_) #[true, true, true, true, true, true, true, false, false, false, false] rfl rfl (any_of HT_.out (by kernel_rfl)) (fun _ _ _ h => h) (Or.inl ⟨by rfl, ?_⟩) ?_ ?_
                 rotate_left
                 ·intro w'
                  go_simp
                  with_reducible rfl
                 rotate_left
                 ·simp only [Act.put, List.setIfInBounds_toArray, List.set_cons_zero, List.set_cons_succ, i64_w, i32_w]
                  rfl
                 refine pure_ (i := 7) (N := some 101) (v := ?_) (a' := ?_) #[true, true, true, true, true, true, true, true, false, false, false] rfl rfl (any_of HT_.out (by kernel_rfl)) (fun _ _ _ h => h) (Or.inl ⟨by rfl, ?_⟩) ?_ ?_
                 rotate_left
                 ·intro w'
                  go_simp
                  with_reducible rfl
                 rotate_left
                 ·simp only [Act.put, List.setIfInBounds_toArray, List.set_cons_zero, List.set_cons_succ, i64_w, i32_w]
                  rfl
                 refine one_ (i := 8) (N := some 15) #[true, true, true, true, true, true, true, true, true, false, false] rfl rfl (one_of HT_.out (by kernel_rfl)) (by decide) (fun K hK => ?_)
                 refine box_step ?hg (N := 15) ?hd (cs := #[.int .i64 0, .slice none 0 0]) (t := 45) ?hr ?_; (case hd => rfl); (case hg => rfl); (case hr => first | (go_simp; done) | (go_simp; rfl))
                 intro gb1062 hg w181 hbox hb
                 have n0_ := Aside0.mk (Kd.R_below (Hof.Rw HO_1014001.out) hb)
                 have n1_ := Aside0.mk (Kd.R_below (Hof.Rw HO_1019001.out) hb)
                 have n2_ := Aside0.mk (Kd.R_below (Hof.Rw HO_1024001.out) hb)
                 have n3_ := Aside0.mk (Kd.R_below (Hof.Rw HO_1030001.out) hb)
                 have n4_ := Aside0.mk (Kd.R_below (Hof.Rw HO1052.out) hb)
                 have n5_ := Aside0.mk (Kd.R_below (Hof.Rw HO1056.out) hb)
                 have n6_ := Aside0.mk (Kd.R_below (Hof.Rw HO1060.out) hb)
                 have n7_ := Aside0.mk (blk_below (Hof.Bw BK996.out) hb)
                 have n8_ := Aside0.mk (blk_below (Hof.Bw BK997.out) hb)
                 have n9_ := Aside0.mk (blk_below (Hof.Bw BK1013.out) hb)
                 have n10_ := Aside0.mk (blk_below (Hof.Bw BK1018.out) hb)
                 have n11_ := Aside0.mk (blk_below (Hof.Bw BK1023.out) hb)
                 have n12_ := Aside0.mk (blk_below (Hof.Bw BK1029.out) hb)
                 have n13_ := Aside0.mk (below_step (by first | exact Hof.Lw HB.out | exact laws_FnExactUnionOf.Ls HB.out GE1029.out) hb)
                 have n14_ := Aside0.mk hbox
                 have n15_ := Aside0.mk ((by rw [hg]; exact (below_size (by first | exact Hof.Lw HB.out | exact laws_FnExactUnionOf.Ls HB.out GE1029.out)) : w.heap.size ≤ gb1062))
                 have n16_ := Aside0.mk ((by rw [hg]; exact (below_size (by first | exact Hof.Lw HB.out | exact laws_FnExactUnionOf.Ls HB.out GE1029.out)) : w.heap.size ≤ gb1062))
                 have n17_ := Aside0.mk ((by rw [hg]; exact Nat.ne_of_lt (blk_lt (Hof.Bw BK996.out)) : gb996 ≠ gb1062))
                 have n18_ := Aside0.mk ((by rw [hg]; exact Nat.ne_of_gt (blk_lt (Hof.Bw BK996.out)) : gb1062 ≠ gb996))
                 have n19_ := Aside0.mk ((by rw [hg]; exact Nat.ne_of_lt (blk_lt (Hof.Bw BK997.out)) : gb997 ≠ gb1062))
                 have n20_ := Aside0.mk ((by rw [hg]; exact Nat.ne_of_gt (blk_lt (Hof.Bw BK997.out)) : gb1062 ≠ gb997))
                 have n21_ := Aside0.mk ((by rw [hg]; exact Nat.ne_of_lt (blk_lt (Hof.Bw BK1013.out)) : gb1013 ≠ gb1062))
                 have n22_ := Aside0.mk ((by rw [hg]; exact Nat.ne_of_gt (blk_lt (Hof.Bw BK1013.out)) : gb1062 ≠ gb1013))
                 have n23_ := Aside0.mk ((by rw [hg]; exact Nat.ne_of_lt (blk_lt (Hof.Bw BK1018.out)) : gb1018 ≠ gb1062))
                 have n24_ := Aside0.mk ((by rw [hg]; exact Nat.ne_of_gt (blk_lt (Hof.Bw BK1018.out)) : gb1062 ≠ gb1018))
                 have n25_ := Aside0.mk ((by rw [hg]; exact Nat.ne_of_lt (blk_lt (Hof.Bw BK1023.out)) : gb1023 ≠ gb1062))
                 have n26_ := Aside0.mk ((by rw [hg]; exact Nat.ne_of_gt (blk_lt (Hof.Bw BK1023.out)) : gb1062 ≠ gb1023))
                 have n27_ := Aside0.mk ((by rw [hg]; exact Nat.ne_of_lt (blk_lt (Hof.Bw BK1029.out)) : gb1029 ≠ gb1062))
                 have n28_ := Aside0.mk ((by rw [hg]; exact Nat.ne_of_gt (blk_lt (Hof.Bw BK1029.out)) : gb1062 ≠ gb1029))
                 clear HO_1014001
                 clear HO_1019001
                 clear HO_1024001
                 clear HO_1030001
                 clear HO1052
                 clear HO1056
                 clear HO1060
                 clear BK996
                 clear BK997
                 clear BK1013
                 clear BK1018
                 clear BK1023
                 clear BK1029
                 clear HB
                 have HO_1014001 := n0_
                 have HO_1019001 := n1_
                 have HO_1024001 := n2_
                 have HO_1030001 := n3_
                 have HO1052 := n4_
                 have HO1056 := n5_
                 have HO1060 := n6_
                 have BK996 := n7_
                 have BK997 := n8_
                 have BK1013 := n9_
                 have BK1018 := n10_
                 have BK1023 := n11_
                 have BK1029 := n12_
                 have HB := n13_
                 have BK1062 := n14_
                 have GW1062 := n15_
                 have GE1062 := n16_
                 have NB996_1062 := n17_
                 have NB1062_996 := n18_
                 have NB997_1062 := n19_
                 have NB1062_997 := n20_
                 have NB1013_1062 := n21_
                 have NB1062_1013 := n22_
                 have NB1018_1062 := n23_
                 have NB1062_1018 := n24_
                 have NB1023_1062 := n25_
                 have NB1062_1023 := n26_
                 have NB1029_1062 := n27_
                 have NB1062_1029 := n28_
                 clear n0_ n1_ n2_ n3_ n4_ n5_ n6_ n7_ n8_ n9_ n10_ n11_ n12_ n13_ n14_ n15_ n16_ n17_ n18_ n19_ n20_ n21_ n22_ n23_ n24_ n25_ n26_ n27_ n28_
                 clear hb hbox hg
                 refine hK.out _ _ ⟨(blk_cell BK996.out 0).trans rfl, (blk_cell BK996.out 1).trans rfl, (blk_cell BK997.out 0).trans rfl, (blk_cell BK997.out 1).trans rfl⟩ (fun hHeld => ?_)
                 clear hK K
                 refine norm_ (a' := ?_) ?_ ?_
                 rotate_left
                 ·show Act.put _ (some 15) _ = _
                  simp only [Act.put, List.setIfInBounds_toArray, List.set_cons_zero, List.set_cons_succ, i64_w, i32_w]
                  rfl
                 exact norm_ (by simp only [putAll, Act.put, List.setIfInBounds_toArray, List.set_cons_zero, List.set_cons_succ]) (hCont (.slice Ao178 t1050.length co178, .slice Ao179 t1054.length co179, v1059, gb1062) _ ⟨hHeld, (Hof.Rw (Kd.R_mono HO1052.out (fun _ hk => ⟨hk.1.2, ⟨hk.2, ⟨hk.1.1.1.1.1.2, ⟨hk.1.1.1.1.2, ⟨hk.1.1.1.2, hk.1.1.2⟩⟩⟩⟩⟩))), (Hof.Rw (Kd.R_mono HO1056.out (fun _ hk => ⟨hk.1.2, ⟨hk.2, ⟨hk.1.1.1.1.1.2, ⟨hk.1.1.1.1.2, ⟨hk.1.1.1.2, hk.1.1.2⟩⟩⟩⟩⟩))), (Hof.Rw (Kd.R_mono HO1060.out (fun _ hk => ⟨hk.1.2, ⟨hk.2, ⟨hk.1.1.1.1.1.2, ⟨hk.1.1.1.1.2, ⟨hk.1.1.1.2, hk.1.1.2⟩⟩⟩⟩⟩))), (Hof.Rw (Kd.R_mono HO_1014001.out (fun _ hk => ⟨hk.1.1.2, ⟨hk.1.2, ⟨hk.2, ⟨hk.1.1.1.1, ⟨hk.1.1.1.2.1, hk.1.1.1.2.2⟩⟩⟩⟩⟩))), (Hof.Rw (Kd.R_mono HO_1019001.out (fun _ hk => ⟨hk.1.1.2, ⟨hk.1.2, ⟨hk.2, ⟨hk.1.1.1.1, ⟨hk.1.1.1.2.1, hk.1.1.1.2.2⟩⟩⟩⟩⟩))), (Hof.Rw (Kd.R_mono HO_1024001.out (fun _ hk => ⟨hk.1.1.2, ⟨hk.1.2, ⟨hk.2, ⟨hk.1.1.1.1, ⟨hk.1.1.1.2.1, hk.1.1.1.2.2⟩⟩⟩⟩⟩))), (Hof.Rw (Kd.R_mono HO_1030001.out (fun _ hk => ⟨hk.1.1.2, ⟨hk.1.2, ⟨hk.2, ⟨hk.1.1.1.1, ⟨hk.1.1.1.2.1, hk.1.1.1.2.2⟩⟩⟩⟩⟩))), (Hof.Bw BK1013.out), (Hof.Bw BK1018.out), (Hof.Bw BK1023.out), (Hof.Bw BK1029.out), (Hof.Bw BK1062.out), (Hof.Bw BK996.out), (Hof.Bw BK997.out), GW1062.out, GE1062.out, NB1013_1062.out, NB1062_1013.out, NB1018_1062.out, NB1062_1018.out, NB1023_1062.out, NB1062_1023.out, NB1029_1062.out, NB1062_1029.out, NB996_1062.out, NB1062_996.out, NB997_1062.out, NB1062_997.out, (by first | exact Hof.Lw HB.out | exact laws_FnExactUnionOf.Ls HB.out GE1062.out)⟩)
                ·skip
                 refine box_step ?hg (N := 15) ?hd (cs := #[.int .i64 0, .slice none 0 0]) (t := 45) ?hr ?_; (case hd => rfl); (case hg => rfl); (case hr => first | (go_simp; done) | (go_simp; rfl))
                 intro gb1062 hg w178 hbox hb
                 have n0_ := Aside0.mk (Kd.R_below (Hof.Rw HO_1014001.out) hb)
                 have n1_ := Aside0.mk (Kd.R_below (Hof.Rw HO_1019001.out) hb)
                 have n2_ := Aside0.mk (Kd.R_below (Hof.Rw HO_1024001.out) hb)
                 have n3_ := Aside0.mk (Kd.R_below (Hof.Rw HO_1030001.out) hb)
                 have n4_ := Aside0.mk (Kd.R_below (Hof.Rw HO1052.out) hb)
                 have n5_ := Aside0.mk (Kd.R_below (Hof.Rw HO1056.out) hb)
                 have n6_ := Aside0.mk (blk_below (Hof.Bw BK996.out) hb)
                 have n7_ := Aside0.mk (blk_below (Hof.Bw BK997.out) hb)
                 have n8_ := Aside0.mk (blk_below (Hof.Bw BK1013.out) hb)
                 have n9_ := Aside0.mk (blk_below (Hof.Bw BK1018.out) hb)
                 have n10_ := Aside0.mk (blk_below (Hof.Bw BK1023.out) hb)
                 have n11_ := Aside0.mk (blk_below (Hof.Bw BK1029.out) hb)
                 have n12_ := Aside0.mk (below_step (by first | exact Hof.Lw HB.out | exact laws_FnExactUnionOf.Ls HB.out GE1029.out) hb)
                 have n13_ := Aside0.mk hbox
                 have n14_ := Aside0.mk ((by rw [hg]; exact (below_size (by first | exact Hof.Lw HB.out | exact laws_FnExactUnionOf.Ls HB.out GE1029.out)) : w.heap.size ≤ gb1062))
                 have n15_ := Aside0.mk ((by rw [hg]; exact (below_size (by first | exact Hof.Lw HB.out | exact laws_FnExactUnionOf.Ls HB.out GE1029.out)) : w.heap.size ≤ gb1062))
                 have n16_ := Aside0.mk ((by rw [hg]; exact Nat.ne_of_lt (blk_lt (Hof.Bw BK996.out)) : gb996 ≠ gb1062))
                 have n17_ := Aside0.mk ((by rw [hg]; exact Nat.ne_of_gt (blk_lt (Hof.Bw BK996.out)) : gb1062 ≠ gb996))
                 have n18_ := Aside0.mk ((by rw [hg]; exact Nat.ne_of_lt (blk_lt (Hof.Bw BK997.out)) : gb997 ≠ gb1062))
                 have n19_ := Aside0.mk ((by rw [hg]; exact Nat.ne_of_gt (blk_lt (Hof.Bw BK997.out)) : gb1062 ≠ gb997))
                 have n20_ := Aside0.mk ((by rw [hg]; exact Nat.ne_of_lt (blk_lt (Hof.Bw BK1013.out)) : gb1013 ≠ gb1062))
                 have n21_ := Aside0.mk ((by rw [hg]; exact Nat.ne_of_gt (blk_lt (Hof.Bw BK1013.out)) : gb1062 ≠ gb1013))
                 have n22_ := Aside0.mk ((by rw [hg]; exact Nat.ne_of_lt (blk_lt (Hof.Bw BK1018.out)) : gb1018 ≠ gb1062))
                 have n23_ := Aside0.mk ((by rw [hg]; exact Nat.ne_of_gt (blk_lt (Hof.Bw BK1018.out)) : gb1062 ≠ gb1018))
                 have n24_ := Aside0.mk ((by rw [hg]; exact Nat.ne_of_lt (blk_lt (Hof.Bw BK1023.out)) : gb1023 ≠ gb1062))
                 have n25_ := Aside0.mk ((by rw [hg]; exact Nat.ne_of_gt (blk_lt (Hof.Bw BK1023.out)) : gb1062 ≠ gb1023))
                 have n26_ := Aside0.mk ((by rw [hg]; exact Nat.ne_of_lt (blk_lt (Hof.Bw BK1029.out)) : gb1029 ≠ gb1062))
                 have n27_ := Aside0.mk ((by rw [hg]; exact Nat.ne_of_gt (blk_lt (Hof.Bw BK1029.out)) : gb1062 ≠ gb1029))
                 clear HO_1014001
                 clear HO_1019001
                 clear HO_1024001
                 clear HO_1030001
                 clear HO1052
                 clear HO1056
                 clear BK996
                 clear BK997
                 clear BK1013
                 clear BK1018
                 clear BK1023
                 clear BK1029
                 clear HB
                 have HO_1014001 := n0_
                 have HO_1019001 := n1_
                 have HO_1024001 := n2_
                 have HO_1030001 := n3_
                 have HO1052 := n4_
                 have HO1056 := n5_
                 have BK996 := n6_
                 have BK997 := n7_
                 have BK1013 := n8_
                 have BK1018 := n9_
                 have BK1023 := n10_
                 have BK1029 := n11_
                 have HB := n12_
                 have BK1062 := n13_
                 have GW1062 := n14_
                 have GE1062 := n15_
                 have NB996_1062 := n16_
                 have NB1062_996 := n17_
                 have NB997_1062 := n18_
                 have NB1062_997 := n19_
                 have NB1013_1062 := n20_
                 have NB1062_1013 := n21_
                 have NB1018_1062 := n22_
                 have NB1062_1018 := n23_
                 have NB1023_1062 := n24_
                 have NB1062_1023 := n25_
                 have NB1029_1062 := n26_
                 have NB1062_1029 := n27_
                 clear n0_ n1_ n2_ n3_ n4_ n5_ n6_ n7_ n8_ n9_ n10_ n11_ n12_ n13_ n14_ n15_ n16_ n17_ n18_ n19_ n20_ n21_ n22_ n23_ n24_ n25_ n26_ n27_
                 clear hb hbox hg
                 obtain ⟨Ao179, co179, eo179⟩ := Kd.R_slice HO1052.out
                 (first | subst eo179 | (injection eo179 with f1_ f2_ f3_; have f4_ := f1_.symm; have f5_ := f3_.symm; clear f1_ f2_ f3_; subst f4_; subst f5_))
                 obtain ⟨Ao180, co180, eo180⟩ := Kd.R_slice HO1056.out
                 (first | subst eo180 | (injection eo180 with f1_ f2_ f3_; have f4_ := f1_.symm; have f5_ := f3_.symm; clear f1_ f2_ f3_; subst f4_; subst f5_))
                 refine hK.out _ _ ⟨(blk_cell BK996.out 0).trans rfl, (blk_cell BK996.out 1).trans rfl, (blk_cell BK997.out 0).trans rfl, (blk_cell BK997.out 1).trans rfl⟩ (fun hHeld => ?_)
                 clear hK K
                 refine norm_ (a' := ?_) ?_ ?_
                 rotate_left
                 ·show Act.put _ (some 15) _ = _
                  simp only [Act.put, List.setIfInBounds_toArray, List.set_cons_zero, List.set_cons_succ, i64_w, i32_w]
                  rfl
                 refine one_ (i := 4) (N := some 99) #[true, true, true, true, true, false, false, false, true, false, false] rfl rfl (one_of HT_.out (by kernel_rfl)) (by decide) (fun K hK => ?_)
                 refine goes_ Try.func44 (by kernel_rfl) rfl #[.agg #[.int .i64 t1049, .slice Ao179 t1050.length co179], .agg #[.int .i64 t1053, .slice Ao180 t1054.length co180]] (by rfl) rfl rfl (by (try simp only [List.map_toArray, List.map_cons, List.map_nil]); first | done | rfl) ?_
                 with_reducible refine (impl_UnionOf.calls kj107 t1049 _ _ t1050 t1053 _ _ t1054 t1057 t1058 t1061 _ ?side1 ?side2 ?side3 ?side4 A164.out).mono ?_
                 (case side1 => exact Hof.Cw ((Kd.R_reads' HO1052.out).2.2))
                 (case side2 => exact (Kd.R_reads' HO1052.out).2.1)
                 (case side3 => exact Hof.Cw ((Kd.R_reads' HO1056.out).2.2))
                 (case side4 => exact (Kd.R_reads' HO1056.out).2.1)
                 rintro e w181 ⟨v1059, rfl, ho0, hb⟩
                 refine ⟨_, rfl, ?_⟩
                 have HO1060 := Aside0.mk (Kd.R_lower (Kd.R_new' (Kd.R_new' (Kd.R_new' (Kd.R_new' (Kd.R_new' (Kd.R_new' ho0 (Kd.R_lt (Hof.Rw HO_1014001.out))) (Kd.R_lt (Hof.Rw HO_1019001.out))) (Kd.R_lt (Hof.Rw HO_1024001.out))) (Kd.R_lt (Hof.Rw HO_1030001.out))) (Kd.R_lt (Hof.Rw HO1052.out))) (Kd.R_lt (Hof.Rw HO1056.out))) (below_size (Hof.Lw HB.out)))
                 replace HO_1014001 := Aside0.mk (Kd.R_elder' (Hof.Rw HO_1014001.out) (Kd.R_base ho0) hb)
                 replace HO_1019001 := Aside0.mk (Kd.R_elder' (Hof.Rw HO_1019001.out) (Kd.R_base ho0) hb)
                 replace HO_1024001 := Aside0.mk (Kd.R_elder' (Hof.Rw HO_1024001.out) (Kd.R_base ho0) hb)
                 replace HO_1030001 := Aside0.mk (Kd.R_elder' (Hof.Rw HO_1030001.out) (Kd.R_base ho0) hb)
                 replace HO1052 := Aside0.mk (Kd.R_elder' (Hof.Rw HO1052.out) (Kd.R_base ho0) hb)
                 replace HO1056 := Aside0.mk (Kd.R_elder' (Hof.Rw HO1056.out) (Kd.R_base ho0) hb)
                 replace BK996 := Aside0.mk (blk_below (Hof.Bw BK996.out) hb)
                 replace BK997 := Aside0.mk (blk_below (Hof.Bw BK997.out) hb)
                 replace BK1013 := Aside0.mk (blk_below (Hof.Bw BK1013.out) hb)
                 replace BK1018 := Aside0.mk (blk_below (Hof.Bw BK1018.out) hb)
                 replace BK1023 := Aside0.mk (blk_below (Hof.Bw BK1023.out) hb)
                 replace BK1029 := Aside0.mk (blk_below (Hof.Bw BK1029.out) hb)
                 replace BK1062 := Aside0.mk (blk_below (Hof.Bw BK1062.out) hb)
                 replace HB := Aside0.mk (below_step (Hof.Lw HB.out) hb)
                 clear hb ho0
                 refine hK.out _ _ ⟨(blk_cell BK996.out 0).trans rfl, (blk_cell BK996.out 1).trans rfl, (blk_cell BK997.out 0).trans rfl, (blk_cell BK997.out 1).trans rfl⟩ (fun hHeld => ?_)
                 clear hK K
                 refine norm_ (a' := ?_) ?_ ?_
                 rotate_left
                 ·show Act.put _ (some 99) _ = _
                  simp only [Act.put, List.setIfInBounds_toArray, List.set_cons_zero, List.set_cons_succ, i64_w, i32_w]
                  rfl
                 refine pure_ (i := 5) (N := some 94) (v := ?_) (a' := ?_) #[true, true, true, true, true, true, false, false, true, false, false] rfl rfl (any_of HT_.out (by kernel_rfl)) (fun _ _ _ h => h) (Or.inl ⟨by rfl, ?_⟩) ?_ ?_
                 rotate_left
                 ·intro w'
                  go_simp
                  with_reducible rfl
                 rotate_left
                 ·simp only [Act.put, List.setIfInBounds_toArray, List.set_cons_zero, List.set_cons_succ, i64_w, i32_w]
                  rfl
                 refine pure_ (i := 6) (N := some 100) (v := ?_) (a' := ?_) #[true, true, true, true, true, true, true, false, true, false, false] rfl rfl (any_of HT_.out (by kernel_rfl)) (fun _ _ _ h => h) (Or.inl ⟨by rfl, ?_⟩) ?_ ?_
                 rotate_left
                 ·intro w'
                  go_simp
                  with_reducible rfl
                 rotate_left
                 ·simp only [Act.put, List.setIfInBounds_toArray, List.set_cons_zero, List.set_cons_succ, i64_w, i32_w]
                  rfl
                 refine pure_ (i := 7) (N := some 101) (v := ?_) (a' := ?_) #[true, true, true, true, true, true, true, true, true, false, false] rfl rfl (any_of HT_.out (by kernel_rfl)) (fun _ _ _ h => h) (Or.inl ⟨by rfl, ?_⟩) ?_ ?_
                 rotate_left
                 ·intro w'
                  go_simp
                  with_reducible rfl
                 rotate_left
                 ·simp only [Act.put, List.setIfInBounds_toArray, List.set_cons_zero, List.set_cons_succ, i64_w, i32_w]
                  rfl
                 exact norm_ (by simp only [putAll, Act.put, List.setIfInBounds_toArray, List.set_cons_zero, List.set_cons_succ]) (hCont (.slice Ao179 t1050.length co179, .slice Ao180 t1054.length co180, v1059, gb1062) _ ⟨hHeld, (Hof.Rw (Kd.R_mono HO1052.out (fun _ hk => ⟨hk.1.2, ⟨hk.2, ⟨hk.1.1.1.1.1.2, ⟨hk.1.1.1.1.2, ⟨hk.1.1.1.2, hk.1.1.2⟩⟩⟩⟩⟩))), (Hof.Rw (Kd.R_mono HO1056.out (fun _ hk => ⟨hk.1.2, ⟨hk.2, ⟨hk.1.1.1.1.1.2, ⟨hk.1.1.1.1.2, ⟨hk.1.1.1.2, hk.1.1.2⟩⟩⟩⟩⟩))), (Hof.Rw (Kd.R_mono HO1060.out (fun _ hk => ⟨hk.1.2, ⟨hk.2, ⟨hk.1.1.1.1.1.2, ⟨hk.1.1.1.1.2, ⟨hk.1.1.1.2, hk.1.1.2⟩⟩⟩⟩⟩))), (Hof.Rw (Kd.R_mono HO_1014001.out (fun _ hk => ⟨hk.1.1.2, ⟨hk.1.2, ⟨hk.2, ⟨hk.1.1.1.1, ⟨hk.1.1.1.2.1, hk.1.1.1.2.2⟩⟩⟩⟩⟩))), (Hof.Rw (Kd.R_mono HO_1019001.out (fun _ hk => ⟨hk.1.1.2, ⟨hk.1.2, ⟨hk.2, ⟨hk.1.1.1.1, ⟨hk.1.1.1.2.1, hk.1.1.1.2.2⟩⟩⟩⟩⟩))), (Hof.Rw (Kd.R_mono HO_1024001.out (fun _ hk => ⟨hk.1.1.2, ⟨hk.1.2, ⟨hk.2, ⟨hk.1.1.1.1, ⟨hk.1.1.1.2.1, hk.1.1.1.2.2⟩⟩⟩⟩⟩))), (Hof.Rw (Kd.R_mono HO_1030001.out (fun _ hk => ⟨hk.1.1.2, ⟨hk.1.2, ⟨hk.2, ⟨hk.1.1.1.1, ⟨hk.1.1.1.2.1, hk.1.1.1.2.2⟩⟩⟩⟩⟩))), (Hof.Bw BK1013.out), (Hof.Bw BK1018.out), (Hof.Bw BK1023.out), (Hof.Bw BK1029.out), (Hof.Bw BK1062.out), (Hof.Bw BK996.out), (Hof.Bw BK997.out), GW1062.out, GE1062.out, NB1013_1062.out, NB1062_1013.out, NB1018_1062.out, NB1062_1018.out, NB1023_1062.out, NB1062_1023.out, NB1029_1062.out, NB1062_1029.out, NB996_1062.out, NB1062_996.out, NB997_1062.out, NB1062_997.out, (by first | exact Hof.Lw HB.out | exact laws_FnExactUnionOf.Ls HB.out GE1062.out)⟩)
               ·skip
                refine box_step ?hg (N := 15) ?hd (cs := #[.int .i64 0, .slice none 0 0]) (t := 45) ?hr ?_; (case hd => rfl); (case hg => rfl); (case hr => first | (go_simp; done) | (go_simp; rfl))
                intro gb1062 hg w177 hbox hb
                have n0_ := Aside0.mk (Kd.R_below (Hof.Rw HO_1014001.out) hb)
                have n1_ := Aside0.mk (Kd.R_below (Hof.Rw HO_1019001.out) hb)
                have n2_ := Aside0.mk (Kd.R_below (Hof.Rw HO_1024001.out) hb)
                have n3_ := Aside0.mk (Kd.R_below (Hof.Rw HO_1030001.out) hb)
                have n4_ := Aside0.mk (Kd.R_below (Hof.Rw HO1052.out) hb)
                have n5_ := Aside0.mk (blk_below (Hof.Bw BK996.out) hb)
                have n6_ := Aside0.mk (blk_below (Hof.Bw BK997.out) hb)
                have n7_ := Aside0.mk (blk_below (Hof.Bw BK1013.out) hb)
                have n8_ := Aside0.mk (blk_below (Hof.Bw BK1018.out) hb)
                have n9_ := Aside0.mk (blk_below (Hof.Bw BK1023.out) hb)
                have n10_ := Aside0.mk (blk_below (Hof.Bw BK1029.out) hb)
                have n11_ := Aside0.mk (below_step (by first | exact Hof.Lw HB.out | exact laws_FnExactUnionOf.Ls HB.out GE1029.out) hb)
                have n12_ := Aside0.mk hbox
                have n13_ := Aside0.mk ((by rw [hg]; exact (below_size (by first | exact Hof.Lw HB.out | exact laws_FnExactUnionOf.Ls HB.out GE1029.out)) : w.heap.size ≤ gb1062))
                have n14_ := Aside0.mk ((by rw [hg]; exact (below_size (by first | exact Hof.Lw HB.out | exact laws_FnExactUnionOf.Ls HB.out GE1029.out)) : w.heap.size ≤ gb1062))
                have n15_ := Aside0.mk ((by rw [hg]; exact Nat.ne_of_lt (blk_lt (Hof.Bw BK996.out)) : gb996 ≠ gb1062))
                have n16_ := Aside0.mk ((by rw [hg]; exact Nat.ne_of_gt (blk_lt (Hof.Bw BK996.out)) : gb1062 ≠ gb996))
                have n17_ := Aside0.mk ((by rw [hg]; exact Nat.ne_of_lt (blk_lt (Hof.Bw BK997.out)) : gb997 ≠ gb1062))
                have n18_ := Aside0.mk ((by rw [hg]; exact Nat.ne_of_gt (blk_lt (Hof.Bw BK997.out)) : gb1062 ≠ gb997))
                have n19_ := Aside0.mk ((by rw [hg]; exact Nat.ne_of_lt (blk_lt (Hof.Bw BK1013.out)) : gb1013 ≠ gb1062))
                have n20_ := Aside0.mk ((by rw [hg]; exact Nat.ne_of_gt (blk_lt (Hof.Bw BK1013.out)) : gb1062 ≠ gb1013))
                have n21_ := Aside0.mk ((by rw [hg]; exact Nat.ne_of_lt (blk_lt (Hof.Bw BK1018.out)) : gb1018 ≠ gb1062))
                have n22_ := Aside0.mk ((by rw [hg]; exact Nat.ne_of_gt (blk_lt (Hof.Bw BK1018.out)) : gb1062 ≠ gb1018))
                have n23_ := Aside0.mk ((by rw [hg]; exact Nat.ne_of_lt (blk_lt (Hof.Bw BK1023.out)) : gb1023 ≠ gb1062))
                have n24_ := Aside0.mk ((by rw [hg]; exact Nat.ne_of_gt (blk_lt (Hof.Bw BK1023.out)) : gb1062 ≠ gb1023))
                have n25_ := Aside0.mk ((by rw [hg]; exact Nat.ne_of_lt (blk_lt (Hof.Bw BK1029.out)) : gb1029 ≠ gb1062))
                have n26_ := Aside0.mk ((by rw [hg]; exact Nat.ne_of_gt (blk_lt (Hof.Bw BK1029.out)) : gb1062 ≠ gb1029))
                clear HO_1014001
                clear HO_1019001
                clear HO_1024001
                clear HO_1030001
                clear HO1052
                clear BK996
                clear BK997
                clear BK1013
                clear BK1018
                clear BK1023
                clear BK1029
                clear HB
                have HO_1014001 := n0_
                have HO_1019001 := n1_
                have HO_1024001 := n2_
                have HO_1030001 := n3_
                have HO1052 := n4_
                have BK996 := n5_
                have BK997 := n6_
                have BK1013 := n7_
                have BK1018 := n8_
                have BK1023 := n9_
                have BK1029 := n10_
                have HB := n11_
                have BK1062 := n12_
                have GW1062 := n13_
                have GE1062 := n14_
                have NB996_1062 := n15_
                have NB1062_996 := n16_
                have NB997_1062 := n17_
                have NB1062_997 := n18_
                have NB1013_1062 := n19_
                have NB1062_1013 := n20_
                have NB1018_1062 := n21_
                have NB1062_1018 := n22_
                have NB1023_1062 := n23_
                have NB1062_1023 := n24_
                have NB1029_1062 := n25_
                have NB1062_1029 := n26_
                clear n0_ n1_ n2_ n3_ n4_ n5_ n6_ n7_ n8_ n9_ n10_ n11_ n12_ n13_ n14_ n15_ n16_ n17_ n18_ n19_ n20_ n21_ n22_ n23_ n24_ n25_ n26_
                clear hb hbox hg
                refine hK.out _ _ ⟨(blk_cell BK996.out 0).trans rfl, (blk_cell BK996.out 1).trans rfl, (blk_cell BK997.out 0).trans rfl, (blk_cell BK997.out 1).trans rfl⟩ (fun hHeld => ?_)
                clear hK K
                refine norm_ (a' := ?_) ?_ ?_
                rotate_left
                ·show Act.put _ (some 15) _ = _
                 simp only [Act.put, List.setIfInBounds_toArray, List.set_cons_zero, List.set_cons_succ, i64_w, i32_w]
                 rfl
                refine one_ (i := 3) (N := some 98) #[true, true, true, true, false, false, false, false, true, false, false] rfl rfl (one_of HT_.out (by kernel_rfl)) (by decide) (fun K hK => ?_)
                refine goes_ Try.func34 (by kernel_rfl) rfl #[.agg #[.int .i64 a1_0, .slice A1_1 l1_1.length c1_1]] (by rfl) rfl rfl (by (try simp only [List.map_toArray, List.map_cons, List.map_nil]); first | done | rfl) ?_
                with_reducible refine (laws_toMatroid.calls kj107 a1_0 _ _ l1_1 t1053 t1054 _ ?side1 ?side2 A163.out).mono ?_
                (case side1 => exact Hof.Cw (Kd.C_below HR1_1.out HB.out))
                (case side2 => exact HC1_1.out)
                rintro e w178 ⟨v1055, rfl, ho0, hb⟩
                refine ⟨_, rfl, ?_⟩
                have HO1056 := Aside0.mk (Kd.R_lower (Kd.R_new' (Kd.R_new' (Kd.R_new' (Kd.R_new' (Kd.R_new' ho0 (Kd.R_lt (Hof.Rw HO_1014001.out))) (Kd.R_lt (Hof.Rw HO_1019001.out))) (Kd.R_lt (Hof.Rw HO_1024001.out))) (Kd.R_lt (Hof.Rw HO_1030001.out))) (Kd.R_lt (Hof.Rw HO1052.out))) (below_size (Hof.Lw HB.out)))
                replace HO_1014001 := Aside0.mk (Kd.R_elder' (Hof.Rw HO_1014001.out) (Kd.R_base ho0) hb)
                replace HO_1019001 := Aside0.mk (Kd.R_elder' (Hof.Rw HO_1019001.out) (Kd.R_base ho0) hb)
                replace HO_1024001 := Aside0.mk (Kd.R_elder' (Hof.Rw HO_1024001.out) (Kd.R_base ho0) hb)
                replace HO_1030001 := Aside0.mk (Kd.R_elder' (Hof.Rw HO_1030001.out) (Kd.R_base ho0) hb)
                replace HO1052 := Aside0.mk (Kd.R_elder' (Hof.Rw HO1052.out) (Kd.R_base ho0) hb)
                replace BK996 := Aside0.mk (blk_below (Hof.Bw BK996.out) hb)
                replace BK997 := Aside0.mk (blk_below (Hof.Bw BK997.out) hb)
                replace BK1013 := Aside0.mk (blk_below (Hof.Bw BK1013.out) hb)
                replace BK1018 := Aside0.mk (blk_below (Hof.Bw BK1018.out) hb)
                replace BK1023 := Aside0.mk (blk_below (Hof.Bw BK1023.out) hb)
                replace BK1029 := Aside0.mk (blk_below (Hof.Bw BK1029.out) hb)
                replace BK1062 := Aside0.mk (blk_below (Hof.Bw BK1062.out) hb)
                replace HB := Aside0.mk (below_step (Hof.Lw HB.out) hb)
                clear hb ho0
                obtain ⟨Ao179, co179, eo179⟩ := Kd.R_slice HO1052.out
                (first | subst eo179 | (injection eo179 with f1_ f2_ f3_; have f4_ := f1_.symm; have f5_ := f3_.symm; clear f1_ f2_ f3_; subst f4_; subst f5_))
                obtain ⟨Ao180, co180, eo180⟩ := Kd.R_slice HO1056.out
                (first | subst eo180 | (injection eo180 with f1_ f2_ f3_; have f4_ := f1_.symm; have f5_ := f3_.symm; clear f1_ f2_ f3_; subst f4_; subst f5_))
                refine hK.out _ _ ⟨(blk_cell BK996.out 0).trans rfl, (blk_cell BK996.out 1).trans rfl, (blk_cell BK997.out 0).trans rfl, (blk_cell BK997.out 1).trans rfl⟩ (fun hHeld => ?_)
                clear hK K
                refine norm_ (a' := ?_) ?_ ?_
                rotate_left
                ·show Act.put _ (some 98) _ = _
                 simp only [Act.put, List.setIfInBounds_toArray, List.set_cons_zero, List.set_cons_succ, i64_w, i32_w]
                 rfl
                refine one_ (i := 4) (N := some 99) #[true, true, true, true, true, false, false, false, true, false, false] rfl rfl (one_of HT_.out (by kernel_rfl)) (by decide) (fun K hK => ?_)
                refine goes_ Try.func44 (by kernel_rfl) rfl #[.agg #[.int .i64 t1049, .slice Ao179 t1050.length co179], .agg #[.int .i64 t1053, .slice Ao180 t1054.length co180]] (by rfl) rfl rfl (by (try simp only [List.map_toArray, List.map_cons, List.map_nil]); first | done | rfl) ?_
                with_reducible refine (impl_UnionOf.calls kj107 t1049 _ _ t1050 t1053 _ _ t1054 t1057 t1058 t1061 _ ?side1 ?side2 ?side3 ?side4 A164.out).mono ?_
                (case side1 => exact Hof.Cw ((Kd.R_reads' HO1052.out).2.2))
                (case side2 => exact (Kd.R_reads' HO1052.out).2.1)
                (case side3 => exact Hof.Cw ((Kd.R_reads' HO1056.out).2.2))
                (case side4 => exact (Kd.R_reads' HO1056.out).2.1)
                rintro e w181 ⟨v1059, rfl, ho0, hb⟩
                refine ⟨_, rfl, ?_⟩
                have HO1060 := Aside0.mk (Kd.R_lower (Kd.R_new' (Kd.R_new' (Kd.R_new' (Kd.R_new' (Kd.R_new' (Kd.R_new' ho0 (Kd.R_lt (Hof.Rw HO_1014001.out))) (Kd.R_lt (Hof.Rw HO_1019001.out))) (Kd.R_lt (Hof.Rw HO_1024001.out))) (Kd.R_lt (Hof.Rw HO_1030001.out))) (Kd.R_lt (Hof.Rw HO1052.out))) (Kd.R_lt (Hof.Rw HO1056.out))) (below_size (Hof.Lw HB.out)))
                replace HO_1014001 := Aside0.mk (Kd.R_elder' (Hof.Rw HO_1014001.out) (Kd.R_base ho0) hb)
                replace HO_1019001 := Aside0.mk (Kd.R_elder' (Hof.Rw HO_1019001.out) (Kd.R_base ho0) hb)
                replace HO_1024001 := Aside0.mk (Kd.R_elder' (Hof.Rw HO_1024001.out) (Kd.R_base ho0) hb)
                replace HO_1030001 := Aside0.mk (Kd.R_elder' (Hof.Rw HO_1030001.out) (Kd.R_base ho0) hb)
                replace HO1052 := Aside0.mk (Kd.R_elder' (Hof.Rw HO1052.out) (Kd.R_base ho0) hb)
                replace HO1056 := Aside0.mk (Kd.R_elder' (Hof.Rw HO1056.out) (Kd.R_base ho0) hb)
                replace BK996 := Aside0.mk (blk_below (Hof.Bw BK996.out) hb)
                replace BK997 := Aside0.mk (blk_below (Hof.Bw BK997.out) hb)
                replace BK1013 := Aside0.mk (blk_below (Hof.Bw BK1013.out) hb)
                replace BK1018 := Aside0.mk (blk_below (Hof.Bw BK1018.out) hb)
                replace BK1023 := Aside0.mk (blk_below (Hof.Bw BK1023.out) hb)
                replace BK1029 := Aside0.mk (blk_below (Hof.Bw BK1029.out) hb)
                replace BK1062 := Aside0.mk (blk_below (Hof.Bw BK1062.out) hb)
                replace HB := Aside0.mk (below_step (Hof.Lw HB.out) hb)
                clear hb ho0
                refine hK.out _ _ ⟨(blk_cell BK996.out 0).trans rfl, (blk_cell BK996.out 1).trans rfl, (blk_cell BK997.out 0).trans rfl, (blk_cell BK997.out 1).trans rfl⟩ (fun hHeld => ?_)
                clear hK K
                refine norm_ (a' := ?_) ?_ ?_
                rotate_left
                ·show Act.put _ (some 99) _ = _
                 simp only [Act.put, List.setIfInBounds_toArray, List.set_cons_zero, List.set_cons_succ, i64_w, i32_w]
                 rfl
                refine pure_ (i := 5) (N := some 94) (v := ?_) (a' := ?_) #[true, true, true, true, true, true, false, false, true, false, false] rfl rfl (any_of HT_.out (by kernel_rfl)) (fun _ _ _ h => h) (Or.inl ⟨by rfl, ?_⟩) ?_ ?_
                rotate_left
                ·intro w'
                 go_simp
                 with_reducible rfl
                rotate_left
                ·simp only [Act.put, List.setIfInBounds_toArray, List.set_cons_zero, List.set_cons_succ, i64_w, i32_w]
                 rfl
                refine pure_ (i := 6) (N := some 100) (v := ?_) (a' := ?_) #[true, true, true, true, true, true, true, false, true, false, false] rfl rfl (any_of HT_.out (by kernel_rfl)) (fun _ _ _ h => h) (Or.inl ⟨by rfl, ?_⟩) ?_ ?_
                rotate_left
                ·intro w'
                 go_simp
                 with_reducible rfl
                rotate_left
                ·simp only [Act.put, List.setIfInBounds_toArray, List.set_cons_zero, List.set_cons_succ, i64_w, i32_w]
                 rfl
                refine pure_ (i := 7) (N := some 101) (v := ?_) (a' := ?_) #[true, true, true, true, true, true, true, true, true, false, false] rfl rfl (any_of HT_.out (by kernel_rfl)) (fun _ _ _ h => h) (Or.inl ⟨by rfl, ?_⟩) ?_ ?_
                rotate_left
                ·intro w'
                 go_simp
                 with_reducible rfl
                rotate_left
                ·simp only [Act.put, List.setIfInBounds_toArray, List.set_cons_zero, List.set_cons_succ, i64_w, i32_w]
                 rfl
                exact norm_ (by simp only [putAll, Act.put, List.setIfInBounds_toArray, List.set_cons_zero, List.set_cons_succ]) (hCont (.slice Ao179 t1050.length co179, .slice Ao180 t1054.length co180, v1059, gb1062) _ ⟨hHeld, (Hof.Rw (Kd.R_mono HO1052.out (fun _ hk => ⟨hk.1.2, ⟨hk.2, ⟨hk.1.1.1.1.1.2, ⟨hk.1.1.1.1.2, ⟨hk.1.1.1.2, hk.1.1.2⟩⟩⟩⟩⟩))), (Hof.Rw (Kd.R_mono HO1056.out (fun _ hk => ⟨hk.1.2, ⟨hk.2, ⟨hk.1.1.1.1.1.2, ⟨hk.1.1.1.1.2, ⟨hk.1.1.1.2, hk.1.1.2⟩⟩⟩⟩⟩))), (Hof.Rw (Kd.R_mono HO1060.out (fun _ hk => ⟨hk.1.2, ⟨hk.2, ⟨hk.1.1.1.1.1.2, ⟨hk.1.1.1.1.2, ⟨hk.1.1.1.2, hk.1.1.2⟩⟩⟩⟩⟩))), (Hof.Rw (Kd.R_mono HO_1014001.out (fun _ hk => ⟨hk.1.1.2, ⟨hk.1.2, ⟨hk.2, ⟨hk.1.1.1.1, ⟨hk.1.1.1.2.1, hk.1.1.1.2.2⟩⟩⟩⟩⟩))), (Hof.Rw (Kd.R_mono HO_1019001.out (fun _ hk => ⟨hk.1.1.2, ⟨hk.1.2, ⟨hk.2, ⟨hk.1.1.1.1, ⟨hk.1.1.1.2.1, hk.1.1.1.2.2⟩⟩⟩⟩⟩))), (Hof.Rw (Kd.R_mono HO_1024001.out (fun _ hk => ⟨hk.1.1.2, ⟨hk.1.2, ⟨hk.2, ⟨hk.1.1.1.1, ⟨hk.1.1.1.2.1, hk.1.1.1.2.2⟩⟩⟩⟩⟩))), (Hof.Rw (Kd.R_mono HO_1030001.out (fun _ hk => ⟨hk.1.1.2, ⟨hk.1.2, ⟨hk.2, ⟨hk.1.1.1.1, ⟨hk.1.1.1.2.1, hk.1.1.1.2.2⟩⟩⟩⟩⟩))), (Hof.Bw BK1013.out), (Hof.Bw BK1018.out), (Hof.Bw BK1023.out), (Hof.Bw BK1029.out), (Hof.Bw BK1062.out), (Hof.Bw BK996.out), (Hof.Bw BK997.out), GW1062.out, GE1062.out, NB1013_1062.out, NB1062_1013.out, NB1018_1062.out, NB1062_1018.out, NB1023_1062.out, NB1062_1023.out, NB1029_1062.out, NB1062_1029.out, NB996_1062.out, NB1062_996.out, NB997_1062.out, NB1062_997.out, (by first | exact Hof.Lw HB.out | exact laws_FnExactUnionOf.Ls HB.out GE1062.out)⟩)
              ·skip
               refine box_step ?hg (N := 15) ?hd (cs := #[.int .i64 0, .slice none 0 0]) (t := 45) ?hr ?_; (case hd => rfl); (case hg => rfl); (case hr => first | (go_simp; done) | (go_simp; rfl))
               intro gb1062 hg w176 hbox hb
               have n0_ := Aside0.mk (Kd.R_below (Hof.Rw HO_1014001.out) hb)
               have n1_ := Aside0.mk (Kd.R_below (Hof.Rw HO_1019001.out) hb)
               have n2_ := Aside0.mk (Kd.R_below (Hof.Rw HO_1024001.out) hb)
               have n3_ := Aside0.mk (Kd.R_below (Hof.Rw HO_1030001.out) hb)
               have n4_ := Aside0.mk (blk_below (Hof.Bw BK996.out) hb)
               have n5_ := Aside0.mk (blk_below (Hof.Bw BK997.out) hb)
               have n6_ := Aside0.mk (blk_below (Hof.Bw BK1013.out) hb)
               have n7_ := Aside0.mk (blk_below (Hof.Bw BK1018.out) hb)
               have n8_ := Aside0.mk (blk_below (Hof.Bw BK1023.out) hb)
               have n9_ := Aside0.mk (blk_below (Hof.Bw BK1029.out) hb)
               have n10_ := Aside0.mk (below_step (by first | exact Hof.Lw HB.out | exact laws_FnExactUnionOf.Ls HB.out GE1029.out) hb)
               have n11_ := Aside0.mk hbox
               have n12_ := Aside0.mk ((by rw [hg]; exact (below_size (by first | exact Hof.Lw HB.out | exact laws_FnExactUnionOf.Ls HB.out GE1029.out)) : w.heap.size ≤ gb1062))
               have n13_ := Aside0.mk ((by rw [hg]; exact (below_size (by first | exact Hof.Lw HB.out | exact laws_FnExactUnionOf.Ls HB.out GE1029.out)) : w.heap.size ≤ gb1062))
               have n14_ := Aside0.mk ((by rw [hg]; exact Nat.ne_of_lt (blk_lt (Hof.Bw BK996.out)) : gb996 ≠ gb1062))
               have n15_ := Aside0.mk ((by rw [hg]; exact Nat.ne_of_gt (blk_lt (Hof.Bw BK996.out)) : gb1062 ≠ gb996))
               have n16_ := Aside0.mk ((by rw [hg]; exact Nat.ne_of_lt (blk_lt (Hof.Bw BK997.out)) : gb997 ≠ gb1062))
               have n17_ := Aside0.mk ((by rw [hg]; exact Nat.ne_of_gt (blk_lt (Hof.Bw BK997.out)) : gb1062 ≠ gb997))
               have n18_ := Aside0.mk ((by rw [hg]; exact Nat.ne_of_lt (blk_lt (Hof.Bw BK1013.out)) : gb1013 ≠ gb1062))
               have n19_ := Aside0.mk ((by rw [hg]; exact Nat.ne_of_gt (blk_lt (Hof.Bw BK1013.out)) : gb1062 ≠ gb1013))
               have n20_ := Aside0.mk ((by rw [hg]; exact Nat.ne_of_lt (blk_lt (Hof.Bw BK1018.out)) : gb1018 ≠ gb1062))
               have n21_ := Aside0.mk ((by rw [hg]; exact Nat.ne_of_gt (blk_lt (Hof.Bw BK1018.out)) : gb1062 ≠ gb1018))
               have n22_ := Aside0.mk ((by rw [hg]; exact Nat.ne_of_lt (blk_lt (Hof.Bw BK1023.out)) : gb1023 ≠ gb1062))
               have n23_ := Aside0.mk ((by rw [hg]; exact Nat.ne_of_gt (blk_lt (Hof.Bw BK1023.out)) : gb1062 ≠ gb1023))
               have n24_ := Aside0.mk ((by rw [hg]; exact Nat.ne_of_lt (blk_lt (Hof.Bw BK1029.out)) : gb1029 ≠ gb1062))
               have n25_ := Aside0.mk ((by rw [hg]; exact Nat.ne_of_gt (blk_lt (Hof.Bw BK1029.out)) : gb1062 ≠ gb1029))
               clear HO_1014001
               clear HO_1019001
               clear HO_1024001
               clear HO_1030001
               clear BK996
               clear BK997
               clear BK1013
               clear BK1018
               clear BK1023
               clear BK1029
               clear HB
               have HO_1014001 := n0_
               have HO_1019001 := n1_
               have HO_1024001 := n2_
               have HO_1030001 := n3_
               have BK996 := n4_
               have BK997 := n5_
               have BK1013 := n6_
               have BK1018 := n7_
               have BK1023 := n8_
               have BK1029 := n9_
               have HB := n10_
               have BK1062 := n11_
               have GW1062 := n12_
               have GE1062 := n13_
               have NB996_1062 := n14_
               have NB1062_996 := n15_
               have NB997_1062 := n16_
               have NB1062_997 := n17_
               have NB1013_1062 := n18_
               have NB1062_1013 := n19_
               have NB1018_1062 := n20_
               have NB1062_1018 := n21_
               have NB1023_1062 := n22_
               have NB1062_1023 := n23_
               have NB1029_1062 := n24_
               have NB1062_1029 := n25_
               clear n0_ n1_ n2_ n3_ n4_ n5_ n6_ n7_ n8_ n9_ n10_ n11_ n12_ n13_ n14_ n15_ n16_ n17_ n18_ n19_ n20_ n21_ n22_ n23_ n24_ n25_
               clear hb hbox hg
               refine hK.out _ _ ⟨(blk_cell BK996.out 0).trans rfl, (blk_cell BK996.out 1).trans rfl, (blk_cell BK997.out 0).trans rfl, (blk_cell BK997.out 1).trans rfl⟩ (fun hHeld => ?_)
               clear hK K
               refine norm_ (a' := ?_) ?_ ?_
               rotate_left
               ·show Act.put _ (some 15) _ = _
                simp only [Act.put, List.setIfInBounds_toArray, List.set_cons_zero, List.set_cons_succ, i64_w, i32_w]
                rfl
               refine one_ (i := 1) (N := some 96) #[true, true, true, false, false, false, false, false, true, false, false] rfl rfl (one_of HT_.out (by kernel_rfl)) (by decide) (fun K hK => ?_)
               refine goes_ Try.func34 (by kernel_rfl) rfl #[.agg #[.int .i64 a0_0, .slice A0_1 l0_1.length c0_1]] (by rfl) rfl rfl (by (try simp only [List.map_toArray, List.map_cons, List.map_nil]); first | done | rfl) ?_
               with_reducible refine (laws_toMatroid.calls kj107 a0_0 _ _ l0_1 t1049 t1050 _ ?side1 ?side2 A162.out).mono ?_
               (case side1 => exact Hof.Cw (Kd.C_below HR0_1.out HB.out))
               (case side2 => exact HC0_1.out)
               rintro e w177 ⟨v1051, rfl, ho0, hb⟩
               refine ⟨_, rfl, ?_⟩
               have HO1052 := Aside0.mk (Kd.R_lower (Kd.R_new' (Kd.R_new' (Kd.R_new' (Kd.R_new' ho0 (Kd.R_lt (Hof.Rw HO_1014001.out))) (Kd.R_lt (Hof.Rw HO_1019001.out))) (Kd.R_lt (Hof.Rw HO_1024001.out))) (Kd.R_lt (Hof.Rw HO_1030001.out))) (below_size (Hof.Lw HB.out)))
               replace HO_1014001 := Aside0.mk (Kd.R_elder' (Hof.Rw HO_1014001.out) (Kd.R_base ho0) hb)
               replace HO_1019001 := Aside0.mk (Kd.R_elder' (Hof.Rw HO_1019001.out) (Kd.R_base ho0) hb)
               replace HO_1024001 := Aside0.mk (Kd.R_elder' (Hof.Rw HO_1024001.out) (Kd.R_base ho0) hb)
               replace HO_1030001 := Aside0.mk (Kd.R_elder' (Hof.Rw HO_1030001.out) (Kd.R_base ho0) hb)
               replace BK996 := Aside0.mk (blk_below (Hof.Bw BK996.out) hb)
               replace BK997 := Aside0.mk (blk_below (Hof.Bw BK997.out) hb)
               replace BK1013 := Aside0.mk (blk_below (Hof.Bw BK1013.out) hb)
               replace BK1018 := Aside0.mk (blk_below (Hof.Bw BK1018.out) hb)
               replace BK1023 := Aside0.mk (blk_below (Hof.Bw BK1023.out) hb)
               replace BK1029 := Aside0.mk (blk_below (Hof.Bw BK1029.out) hb)
               replace BK1062 := Aside0.mk (blk_below (Hof.Bw BK1062.out) hb)
               replace HB := Aside0.mk (below_step (Hof.Lw HB.out) hb)
               clear hb ho0
               refine hK.out _ _ ⟨(blk_cell BK996.out 0).trans rfl, (blk_cell BK996.out 1).trans rfl, (blk_cell BK997.out 0).trans rfl, (blk_cell BK997.out 1).trans rfl⟩ (fun hHeld => ?_)
               clear hK K
               refine norm_ (a' := ?_) ?_ ?_
               rotate_left
               ·show Act.put _ (some 96) _ = _
                simp only [Act.put, List.setIfInBounds_toArray, List.set_cons_zero, List.set_cons_succ, i64_w, i32_w]
                rfl
               refine one_ (i := 3) (N := some 98) #[true, true, true, true, false, false, false, false, true, false, false] rfl rfl (one_of HT_.out (by kernel_rfl)) (by decide) (fun K hK => ?_)
               refine goes_ Try.func34 (by kernel_rfl) rfl #[.agg #[.int .i64 a1_0, .slice A1_1 l1_1.length c1_1]] (by rfl) rfl rfl (by (try simp only [List.map_toArray, List.map_cons, List.map_nil]); first | done | rfl) ?_
               with_reducible refine (laws_toMatroid.calls kj107 a1_0 _ _ l1_1 t1053 t1054 _ ?side1 ?side2 A163.out).mono ?_
               (case side1 => exact Hof.Cw (Kd.C_below HR1_1.out HB.out))
               (case side2 => exact HC1_1.out)
               rintro e w178 ⟨v1055, rfl, ho0, hb⟩
               refine ⟨_, rfl, ?_⟩
               have HO1056 := Aside0.mk (Kd.R_lower (Kd.R_new' (Kd.R_new' (Kd.R_new' (Kd.R_new' (Kd.R_new' ho0 (Kd.R_lt (Hof.Rw HO_1014001.out))) (Kd.R_lt (Hof.Rw HO_1019001.out))) (Kd.R_lt (Hof.Rw HO_1024001.out))) (Kd.R_lt (Hof.Rw HO_1030001.out))) (Kd.R_lt (Hof.Rw HO1052.out))) (below_size (Hof.Lw HB.out)))
               replace HO_1014001 := Aside0.mk (Kd.R_elder' (Hof.Rw HO_1014001.out) (Kd.R_base ho0) hb)
               replace HO_1019001 := Aside0.mk (Kd.R_elder' (Hof.Rw HO_1019001.out) (Kd.R_base ho0) hb)
               replace HO_1024001 := Aside0.mk (Kd.R_elder' (Hof.Rw HO_1024001.out) (Kd.R_base ho0) hb)
               replace HO_1030001 := Aside0.mk (Kd.R_elder' (Hof.Rw HO_1030001.out) (Kd.R_base ho0) hb)
               replace HO1052 := Aside0.mk (Kd.R_elder' (Hof.Rw HO1052.out) (Kd.R_base ho0) hb)
               replace BK996 := Aside0.mk (blk_below (Hof.Bw BK996.out) hb)
               replace BK997 := Aside0.mk (blk_below (Hof.Bw BK997.out) hb)
               replace BK1013 := Aside0.mk (blk_below (Hof.Bw BK1013.out) hb)
               replace BK1018 := Aside0.mk (blk_below (Hof.Bw BK1018.out) hb)
               replace BK1023 := Aside0.mk (blk_below (Hof.Bw BK1023.out) hb)
               replace BK1029 := Aside0.mk (blk_below (Hof.Bw BK1029.out) hb)
               replace BK1062 := Aside0.mk (blk_below (Hof.Bw BK1062.out) hb)
               replace HB := Aside0.mk (below_step (Hof.Lw HB.out) hb)
               clear hb ho0
               obtain ⟨Ao179, co179, eo179⟩ := Kd.R_slice HO1052.out
               (first | subst eo179 | (injection eo179 with f1_ f2_ f3_; have f4_ := f1_.symm; have f5_ := f3_.symm; clear f1_ f2_ f3_; subst f4_; subst f5_))
               obtain ⟨Ao180, co180, eo180⟩ := Kd.R_slice HO1056.out
               (first | subst eo180 | (injection eo180 with f1_ f2_ f3_; have f4_ := f1_.symm; have f5_ := f3_.symm; clear f1_ f2_ f3_; subst f4_; subst f5_))
               refine hK.out _ _ ⟨(blk_cell BK996.out 0).trans rfl, (blk_cell BK996.out 1).trans rfl, (blk_cell BK997.out 0).trans rfl, (blk_cell BK997.out 1).trans rfl⟩ (fun hHeld => ?_)
               clear hK K
               refine norm_ (a' := ?_) ?_ ?_
               rotate_left
               ·show Act.put _ (some 98) _ = _
                simp only [Act.put, List.setIfInBounds_toArray, List.set_cons_zero, List.set_cons_succ, i64_w, i32_w]
                rfl
               refine one_ (i := 4) (N := some 99) #[true, true, true, true, true, false, false, false, true, false, false] rfl rfl (one_of HT_.out (by kernel_rfl)) (by decide) (fun K hK => ?_)
               refine goes_ Try.func44 (by kernel_rfl) rfl #[.agg #[.int .i64 t1049, .slice Ao179 t1050.length co179], .agg #[.int .i64 t1053, .slice Ao180 t1054.length co180]] (by rfl) rfl rfl (by (try simp only [List.map_toArray, List.map_cons, List.map_nil]); first | done | rfl) ?_
               with_reducible refine (impl_UnionOf.calls kj107 t1049 _ _ t1050 t1053 _ _ t1054 t1057 t1058 t1061 _ ?side1 ?side2 ?side3 ?side4 A164.out).mono ?_
               (case side1 => exact Hof.Cw ((Kd.R_reads' HO1052.out).2.2))
               (case side2 => exact (Kd.R_reads' HO1052.out).2.1)
               (case side3 => exact Hof.Cw ((Kd.R_reads' HO1056.out).2.2))
               (case side4 => exact (Kd.R_reads' HO1056.out).2.1)
               rintro e w181 ⟨v1059, rfl, ho0, hb⟩
               refine ⟨_, rfl, ?_⟩
               have HO1060 := Aside0.mk (Kd.R_lower (Kd.R_new' (Kd.R_new' (Kd.R_new' (Kd.R_new' (Kd.R_new' (Kd.R_new' ho0 (Kd.R_lt (Hof.Rw HO_1014001.out))) (Kd.R_lt (Hof.Rw HO_1019001.out))) (Kd.R_lt (Hof.Rw HO_1024001.out))) (Kd.R_lt (Hof.Rw HO_1030001.out))) (Kd.R_lt (Hof.Rw HO1052.out))) (Kd.R_lt (Hof.Rw HO1056.out))) (below_size (Hof.Lw HB.out)))
               replace HO_1014001 := Aside0.mk (Kd.R_elder' (Hof.Rw HO_1014001.out) (Kd.R_base ho0) hb)
               replace HO_1019001 := Aside0.mk (Kd.R_elder' (Hof.Rw HO_1019001.out) (Kd.R_base ho0) hb)
               replace HO_1024001 := Aside0.mk (Kd.R_elder' (Hof.Rw HO_1024001.out) (Kd.R_base ho0) hb)
               replace HO_1030001 := Aside0.mk (Kd.R_elder' (Hof.Rw HO_1030001.out) (Kd.R_base ho0) hb)
               replace HO1052 := Aside0.mk (Kd.R_elder' (Hof.Rw HO1052.out) (Kd.R_base ho0) hb)
               replace HO1056 := Aside0.mk (Kd.R_elder' (Hof.Rw HO1056.out) (Kd.R_base ho0) hb)
               replace BK996 := Aside0.mk (blk_below (Hof.Bw BK996.out) hb)
               replace BK997 := Aside0.mk (blk_below (Hof.Bw BK997.out) hb)
               replace BK1013 := Aside0.mk (blk_below (Hof.Bw BK1013.out) hb)
               replace BK1018 := Aside0.mk (blk_below (Hof.Bw BK1018.out) hb)
               replace BK1023 := Aside0.mk (blk_below (Hof.Bw BK1023.out) hb)
               replace BK1029 := Aside0.mk (blk_below (Hof.Bw BK1029.out) hb)
               replace BK1062 := Aside0.mk (blk_below (Hof.Bw BK1062.out) hb)
               replace HB := Aside0.mk (below_step (Hof.Lw HB.out) hb)
               clear hb ho0
               refine hK.out _ _ ⟨(blk_cell BK996.out 0).trans rfl, (blk_cell BK996.out 1).trans rfl, (blk_cell BK997.out 0).trans rfl, (blk_cell BK997.out 1).trans rfl⟩ (fun hHeld => ?_)
               clear hK K
               refine norm_ (a' := ?_) ?_ ?_
               rotate_left
               ·show Act.put _ (some 99) _ = _
                simp only [Act.put, List.setIfInBounds_toArray, List.set_cons_zero, List.set_cons_succ, i64_w, i32_w]
                rfl
               refine pure_ (i := 5) (N := some 94) (v := ?_) (a' := ?_) #[true, true, true, true, true, true, false, false, true, false, false] rfl rfl (any_of HT_.out (by kernel_rfl)) (fun _ _ _ h => h) (Or.inl ⟨by rfl, ?_⟩) ?_ ?_
               rotate_left
               ·intro w'
                go_simp
                with_reducible rfl
               rotate_left
               ·simp only [Act.put, List.setIfInBounds_toArray, List.set_cons_zero, List.set_cons_succ, i64_w, i32_w]
                rfl
               refine pure_ (i := 6) (N := some 100) (v := ?_) (a' := ?_) #[true, true, true, true, true, true, true, false, true, false, false] rfl rfl (any_of HT_.out (by kernel_rfl)) (fun _ _ _ h => h) (Or.inl ⟨by rfl, ?_⟩) ?_ ?_
               rotate_left
               ·intro w'
                go_simp
                with_reducible rfl
               rotate_left
               ·simp only [Act.put, List.setIfInBounds_toArray, List.set_cons_zero, List.set_cons_succ, i64_w, i32_w]
                rfl
               refine pure_ (i := 7) (N := some 101) (v := ?_) (a' := ?_) #[true, true, true, true, true, true, true, true, true, false, false] rfl rfl (any_of HT_.out (by kernel_rfl)) (fun _ _ _ h => h) (Or.inl ⟨by rfl, ?_⟩) ?_ ?_
               rotate_left
               ·intro w'
                go_simp
                with_reducible rfl
               rotate_left
               ·simp only [Act.put, List.setIfInBounds_toArray, List.set_cons_zero, List.set_cons_succ, i64_w, i32_w]
                rfl
               exact norm_ (by simp only [putAll, Act.put, List.setIfInBounds_toArray, List.set_cons_zero, List.set_cons_succ]) (hCont (.slice Ao179 t1050.length co179, .slice Ao180 t1054.length co180, v1059, gb1062) _ ⟨hHeld, (Hof.Rw (Kd.R_mono HO1052.out (fun _ hk => ⟨hk.1.2, ⟨hk.2, ⟨hk.1.1.1.1.1.2, ⟨hk.1.1.1.1.2, ⟨hk.1.1.1.2, hk.1.1.2⟩⟩⟩⟩⟩))), (Hof.Rw (Kd.R_mono HO1056.out (fun _ hk => ⟨hk.1.2, ⟨hk.2, ⟨hk.1.1.1.1.1.2, ⟨hk.1.1.1.1.2, ⟨hk.1.1.1.2, hk.1.1.2⟩⟩⟩⟩⟩))), (Hof.Rw (Kd.R_mono HO1060.out (fun _ hk => ⟨hk.1.2, ⟨hk.2, ⟨hk.1.1.1.1.1.2, ⟨hk.1.1.1.1.2, ⟨hk.1.1.1.2, hk.1.1.2⟩⟩⟩⟩⟩))), (Hof.Rw (Kd.R_mono HO_1014001.out (fun _ hk => ⟨hk.1.1.2, ⟨hk.1.2, ⟨hk.2, ⟨hk.1.1.1.1, ⟨hk.1.1.1.2.1, hk.1.1.1.2.2⟩⟩⟩⟩⟩))), (Hof.Rw (Kd.R_mono HO_1019001.out (fun _ hk => ⟨hk.1.1.2, ⟨hk.1.2, ⟨hk.2, ⟨hk.1.1.1.1, ⟨hk.1.1.1.2.1, hk.1.1.1.2.2⟩⟩⟩⟩⟩))), (Hof.Rw (Kd.R_mono HO_1024001.out (fun _ hk => ⟨hk.1.1.2, ⟨hk.1.2, ⟨hk.2, ⟨hk.1.1.1.1, ⟨hk.1.1.1.2.1, hk.1.1.1.2.2⟩⟩⟩⟩⟩))), (Hof.Rw (Kd.R_mono HO_1030001.out (fun _ hk => ⟨hk.1.1.2, ⟨hk.1.2, ⟨hk.2, ⟨hk.1.1.1.1, ⟨hk.1.1.1.2.1, hk.1.1.1.2.2⟩⟩⟩⟩⟩))), (Hof.Bw BK1013.out), (Hof.Bw BK1018.out), (Hof.Bw BK1023.out), (Hof.Bw BK1029.out), (Hof.Bw BK1062.out), (Hof.Bw BK996.out), (Hof.Bw BK997.out), GW1062.out, GE1062.out, NB1013_1062.out, NB1062_1013.out, NB1018_1062.out, NB1062_1018.out, NB1023_1062.out, NB1062_1023.out, NB1029_1062.out, NB1062_1029.out, NB996_1062.out, NB1062_996.out, NB997_1062.out, NB1062_997.out, (by first | exact Hof.Lw HB.out | exact laws_FnExactUnionOf.Ls HB.out GE1062.out)⟩)
             rintro ⟨v1051, v1055, v1059, gb1062⟩ w182 ⟨hS_, h0_, h1_, h2_, h3_, h4_, h5_, h6_, h7_, h8_, h9_, h10_, h11_, h12_, h13_, h14_, h15_, h16_, h17_, h18_, h19_, h20_, h21_, h22_, h23_, h24_, h25_, h26_, h27_, h28_⟩
             have n0_ : Aside0 (Kd.R (Kd.int .i64) 3 w182 w.heap.size (fun k_ => some k_ ≠ (v1055 : Value).ownBlock ∧ some k_ ≠ (v1059 : Value).ownBlock ∧ some k_ ≠ (.slice Ao42 t1009.length co42 : Value).ownBlock ∧ some k_ ≠ (.slice Ao52 t1042.length co52 : Value).ownBlock ∧ some k_ ≠ (.slice Ao62 t1044.length co62 : Value).ownBlock ∧ some k_ ≠ (.slice Ao72 t1025.length co72 : Value).ownBlock) v1051 t1050) := ⟨h0_⟩
             have n1_ : Aside0 (Kd.R (Kd.int .i64) 3 w182 w.heap.size (fun k_ => some k_ ≠ (v1051 : Value).ownBlock ∧ some k_ ≠ (v1059 : Value).ownBlock ∧ some k_ ≠ (.slice Ao42 t1009.length co42 : Value).ownBlock ∧ some k_ ≠ (.slice Ao52 t1042.length co52 : Value).ownBlock ∧ some k_ ≠ (.slice Ao62 t1044.length co62 : Value).ownBlock ∧ some k_ ≠ (.slice Ao72 t1025.length co72 : Value).ownBlock) v1055 t1054) := ⟨h1_⟩
             have n2_ : Aside0 (Kd.R (Kd.int .i64) 3 w182 w.heap.size (fun k_ => some k_ ≠ (v1051 : Value).ownBlock ∧ some k_ ≠ (v1055 : Value).ownBlock ∧ some k_ ≠ (.slice Ao42 t1009.length co42 : Value).ownBlock ∧ some k_ ≠ (.slice Ao52 t1042.length co52 : Value).ownBlock ∧ some k_ ≠ (.slice Ao62 t1044.length co62 : Value).ownBlock ∧ some k_ ≠ (.slice Ao72 t1025.length co72 : Value).ownBlock) v1059 t1058) := ⟨h2_⟩
             have n3_ : Aside0 (Kd.R (Kd.int .i64) 3 w182 w.heap.size (fun k_ => some k_ ≠ (v1051 : Value).ownBlock ∧ some k_ ≠ (v1055 : Value).ownBlock ∧ some k_ ≠ (v1059 : Value).ownBlock ∧ some k_ ≠ (.slice Ao52 t1042.length co52 : Value).ownBlock ∧ some k_ ≠ (.slice Ao62 t1044.length co62 : Value).ownBlock ∧ some k_ ≠ (.slice Ao72 t1025.length co72 : Value).ownBlock) (.slice Ao42 t1009.length co42) t1009) := ⟨h3_⟩
             have n4_ : Aside0 (Kd.R (Kd.int .i64) 3 w182 w.heap.size (fun k_ => some k_ ≠ (v1051 : Value).ownBlock ∧ some k_ ≠ (v1055 : Value).ownBlock ∧ some k_ ≠ (v1059 : Value).ownBlock ∧ some k_ ≠ (.slice Ao42 t1009.length co42 : Value).ownBlock ∧ some k_ ≠ (.slice Ao62 t1044.length co62 : Value).ownBlock ∧ some k_ ≠ (.slice Ao72 t1025.length co72 : Value).ownBlock) (.slice Ao52 t1042.length co52) t1042) := ⟨h4_⟩
             have n5_ : Aside0 (Kd.R (Kd.int .i64) 3 w182 w.heap.size (fun k_ => some k_ ≠ (v1051 : Value).ownBlock ∧ some k_ ≠ (v1055 : Value).ownBlock ∧ some k_ ≠ (v1059 : Value).ownBlock ∧ some k_ ≠ (.slice Ao42 t1009.length co42 : Value).ownBlock ∧ some k_ ≠ (.slice Ao52 t1042.length co52 : Value).ownBlock ∧ some k_ ≠ (.slice Ao72 t1025.length co72 : Value).ownBlock) (.slice Ao62 t1044.length co62) t1044) := ⟨h5_⟩
             have n6_ : Aside0 (Kd.R (Kd.int .i64) 3 w182 w.heap.size (fun k_ => some k_ ≠ (v1051 : Value).ownBlock ∧ some k_ ≠ (v1055 : Value).ownBlock ∧ some k_ ≠ (v1059 : Value).ownBlock ∧ some k_ ≠ (.slice Ao42 t1009.length co42 : Value).ownBlock ∧ some k_ ≠ (.slice Ao52 t1042.length co52 : Value).ownBlock ∧ some k_ ≠ (.slice Ao62 t1044.length co62 : Value).ownBlock) (.slice Ao72 t1025.length co72) t1047) := ⟨h6_⟩
             have n7_ : Aside0 (w182.heap[gb1013]? = some (.cells #[.int .i64 t1008, .slice Ao42 t1009.length co42] 45 (0, 0))) := ⟨h7_⟩
             have n8_ : Aside0 (w182.heap[gb1018]? = some (.cells #[.int .i64 t1014, .slice Ao52 t1042.length co52] 45 (0, 0))) := ⟨h8_⟩
             have n9_ : Aside0 (w182.heap[gb1023]? = some (.cells #[.int .i64 t1019, .slice Ao62 t1044.length co62] 45 (0, 0))) := ⟨h9_⟩
             have n10_ : Aside0 (w182.heap[gb1029]? = some (.cells #[.int .i64 t1024, .slice Ao72 t1025.length co72] 45 (0, 0))) := ⟨h10_⟩
             have n11_ : Aside0 (w182.heap[gb1062]? = some (.cells #[.int .i64 0, .slice none 0 0] 45 (0, 0))) := ⟨h11_⟩
             have n12_ : Aside0 (w182.heap[gb996]? = some (.cells #[.int .i64 a0_0, .slice A0_1 l0_1.length c0_1] 42 (0, 0))) := ⟨h12_⟩
             have n13_ : Aside0 (w182.heap[gb997]? = some (.cells #[.int .i64 a1_0, .slice A1_1 l1_1.length c1_1] 42 (0, 0))) := ⟨h13_⟩
             have n14_ : Aside0 (w.heap.size ≤ gb1062) := ⟨h14_⟩
             have n15_ : Aside0 (w.heap.size ≤ gb1062) := ⟨h15_⟩
             have n16_ : Aside0 (gb1013 ≠ gb1062) := ⟨h16_⟩
             have n17_ : Aside0 (gb1062 ≠ gb1013) := ⟨h17_⟩
             have n18_ : Aside0 (gb1018 ≠ gb1062) := ⟨h18_⟩
             have n19_ : Aside0 (gb1062 ≠ gb1018) := ⟨h19_⟩
             have n20_ : Aside0 (gb1023 ≠ gb1062) := ⟨h20_⟩
             have n21_ : Aside0 (gb1062 ≠ gb1023) := ⟨h21_⟩
             have n22_ : Aside0 (gb1029 ≠ gb1062) := ⟨h22_⟩
             have n23_ : Aside0 (gb1062 ≠ gb1029) := ⟨h23_⟩
             have n24_ : Aside0 (gb996 ≠ gb1062) := ⟨h24_⟩
             have n25_ : Aside0 (gb1062 ≠ gb996) := ⟨h25_⟩
             have n26_ : Aside0 (gb997 ≠ gb1062) := ⟨h26_⟩
             have n27_ : Aside0 (gb1062 ≠ gb997) := ⟨h27_⟩
             have n28_ : Aside0 (Below w.heap.size w w182) := ⟨h28_⟩
             clear HO_1014001
             clear HO_1019001
             clear HO_1024001
             clear HO_1030001
             clear BK996
             clear BK997
             clear BK1013
             clear BK1018
             clear BK1023
             clear BK1029
             clear HB
             clear h0_ h1_ h2_ h3_ h4_ h5_ h6_ h7_ h8_ h9_ h10_ h11_ h12_ h13_ h14_ h15_ h16_ h17_ h18_ h19_ h20_ h21_ h22_ h23_ h24_ h25_ h26_ h27_ h28_
             have HO1052 := n0_
             have HO1056 := n1_
             have HO1060 := n2_
             have HO_1014001 := n3_
             have HO_1019001 := n4_
             have HO_1024001 := n5_
             have HO_1030001 := n6_
             have BK1013 := n7_
             have BK1018 := n8_
             have BK1023 := n9_
             have BK1029 := n10_
             have BK1062 := n11_
             have BK996 := n12_
             have BK997 := n13_
             have GW1062 := n14_
             have GE1062 := n15_
             have NB1013_1062 := n16_
             have NB1062_1013 := n17_
             have NB1018_1062 := n18_
             have NB1062_1018 := n19_
             have NB1023_1062 := n20_
             have NB1062_1023 := n21_
             have NB1029_1062 := n22_
             have NB1062_1029 := n23_
             have NB996_1062 := n24_
             have NB1062_996 := n25_
             have NB997_1062 := n26_
             have NB1062_997 := n27_
             have HB := n28_
             clear n0_ n1_ n2_ n3_ n4_ n5_ n6_ n7_ n8_ n9_ n10_ n11_ n12_ n13_ n14_ n15_ n16_ n17_ n18_ n19_ n20_ n21_ n22_ n23_ n24_ n25_ n26_ n27_ n28_
             have hHeld : w182.cell? ⟨gb996, 0, none⟩ = some (.int .i64 a0_0) ∧ w182.cell? ⟨gb996, 1, none⟩ = some (.slice A0_1 l0_1.length c0_1) ∧ w182.cell? ⟨gb997, 0, none⟩ = some (.int .i64 a1_0) ∧ w182.cell? ⟨gb997, 1, none⟩ = some (.slice A1_1 l1_1.length c1_1) := hS_
             obtain ⟨Ao184, co184, eo184⟩ := Kd.R_slice HO1060.out
             (first | subst eo184 | (injection eo184 with f1_ f2_ f3_; have f4_ := f1_.symm; have f5_ := f3_.symm; clear f1_ f2_ f3_; subst f4_; subst f5_))
             refine norm_ (a' := ?_) ?_ ?_
             rotate_left
             ·simp only [putAll, Act.put, List.setIfInBounds_toArray, List.set_cons_zero, List.set_cons_succ]
              rfl
             refine one_ (i := 9) (N := none) #[true, true, true, true, true, true, true, true, true, true, false] rfl rfl (one_of HT_.out (by kernel_rfl)) (by decide) (fun K hK => ?_)
             have hs183 : w182.cell? ⟨gb1062, 0, none⟩ = some (.int .i64 0) := (blk_cell BK1062.out 0).trans rfl
             have hfs183 := blk_frozen BK1062.out 0
             have hns183_0 := NB996_1062.out
             have hns183_1 := NB997_1062.out
             have hns183_2 := NB1013_1062.out
             have hns183_3 := NB1018_1062.out
             have hns183_4 := NB1023_1062.out
             have hns183_5 := NB1029_1062.out
             have hms183_0 := NB1062_996.out
             have hms183_1 := NB1062_997.out
             have hms183_2 := NB1062_1013.out
             have hms183_3 := NB1062_1018.out
             have hms183_4 := NB1062_1023.out
             have hms183_5 := NB1062_1029.out
             have hs185 : w182.cell? ⟨gb1062, 1, none⟩ = some (.slice none 0 0) := (blk_cell BK1062.out 1).trans rfl
             have hfs185 := blk_frozen BK1062.out 1
             have hns185_0 := NB996_1062.out
             have hns185_1 := NB997_1062.out
             have hns185_2 := NB1013_1062.out
             have hns185_3 := NB1018_1062.out
             have hns185_4 := NB1023_1062.out
             have hns185_5 := NB1029_1062.out
             have hms185_0 := NB1062_996.out
             have hms185_1 := NB1062_997.out
             have hms185_2 := NB1062_1013.out
             have hms185_3 := NB1062_1018.out
             have hms185_4 := NB1062_1023.out
             have hms185_5 := NB1062_1029.out
             refine skip_ (w1 := ?_) (by rfl) rfl ?_ ?_
             rotate_left
             ·go_simp
              rfl
             refine hK.out _ _ ⟨((cell_far (p := ⟨gb1062, _, none⟩) NB996_1062.out _).trans (((cell_far (p := ⟨gb1062, _, none⟩) NB996_1062.out _).trans (hHeld.1)))), ((cell_far (p := ⟨gb1062, _, none⟩) NB996_1062.out _).trans (((cell_far (p := ⟨gb1062, _, none⟩) NB996_1062.out _).trans (hHeld.2.1)))), ((cell_far (p := ⟨gb1062, _, none⟩) NB997_1062.out _).trans (((cell_far (p := ⟨gb1062, _, none⟩) NB997_1062.out _).trans (hHeld.2.2.1)))), ((cell_far (p := ⟨gb1062, _, none⟩) NB997_1062.out _).trans (((cell_far (p := ⟨gb1062, _, none⟩) NB997_1062.out _).trans (hHeld.2.2.2))))⟩ (fun hHeld => ?_)
             clear hK K
             refine pure_ (i := 10) (N := some 16) (v := ?_) (a' := ?_) #[true, true, true, true, true, true, true, true, true, true, true] rfl rfl (any_of HT_.out (by kernel_rfl)) (fun _ _ _ h => h) (Or.inl ⟨by rfl, ?_⟩) ?_ ?_
             rotate_left
             ·intro w'
              go_simp
              with_reducible rfl
             rotate_left
             ·simp only [Act.put, List.setIfInBounds_toArray, List.set_cons_zero, List.set_cons_succ, i64_w, i32_w]
              rfl
             refine done_ (done_of HT_.out (by kernel_rfl)) ?_
             go_upto_region 32 with (fail)
             go_cut [110] (fun v110 wc => ∃ (kq : Nat) (x110_164 : Bool), v110 = .bool x110_164 ∧ Aside0 (laws_FnExactUnionOf.j2 kq t1046 x110_164 t1024 t1047 = some r) ∧ Aside0 (kq ≤ kj107) ∧ Aside0 (Kd.R (Kd.int .i64) 3 wc w.heap.size (fun k_ => some k_ ≠ ((.slice Ao52 t1042.length co52) : Value).ownBlock ∧ some k_ ≠ ((.slice Ao62 t1044.length co62) : Value).ownBlock ∧ some k_ ≠ ((.slice Ao72 t1025.length co72) : Value).ownBlock ∧ some k_ ≠ ((.slice Ao184 t1058.length co184) : Value).ownBlock) (.slice Ao42 t1009.length co42) t1009) ∧ Aside0 (Kd.R (Kd.int .i64) 3 wc w.heap.size (fun k_ => some k_ ≠ ((.slice Ao42 t1009.length co42) : Value).ownBlock ∧ some k_ ≠ ((.slice Ao62 t1044.length co62) : Value).ownBlock ∧ some k_ ≠ ((.slice Ao72 t1025.length co72) : Value).ownBlock ∧ some k_ ≠ ((.slice Ao184 t1058.length co184) : Value).ownBlock) (.slice Ao52 t1042.length co52) t1042) ∧ Aside0 (Kd.R (Kd.int .i64) 3 wc w.heap.size (fun k_ => some k_ ≠ ((.slice Ao42 t1009.length co42) : Value).ownBlock ∧ some k_ ≠ ((.slice Ao52 t1042.length co52) : Value).ownBlock ∧ some k_ ≠ ((.slice Ao72 t1025.length co72) : Value).ownBlock ∧ some k_ ≠ ((.slice Ao184 t1058.length co184) : Value).ownBlock) (.slice Ao62 t1044.length co62) t1044) ∧ Aside0 (Kd.R (Kd.int .i64) 3 wc w.heap.size (fun k_ => some k_ ≠ ((.slice Ao42 t1009.length co42) : Value).ownBlock ∧ some k_ ≠ ((.slice Ao52 t1042.length co52) : Value).ownBlock ∧ some k_ ≠ ((.slice Ao62 t1044.length co62) : Value).ownBlock ∧ some k_ ≠ ((.slice Ao184 t1058.length co184) : Value).ownBlock) (.slice Ao72 t1025.length co72) t1047) ∧ Aside0 (Kd.R (Kd.int .i64) 3 wc w.heap.size (fun k_ => some k_ ≠ ((.slice Ao42 t1009.length co42) : Value).ownBlock ∧ some k_ ≠ ((.slice Ao52 t1042.length co52) : Value).ownBlock ∧ some k_ ≠ ((.slice Ao62 t1044.length co62) : Value).ownBlock ∧ some k_ ≠ ((.slice Ao72 t1025.length co72) : Value).ownBlock) (.slice Ao184 t1058.length co184) t1058) ∧ Aside0 (wc.heap[gb996]? = some (.cells #[.int .i64 a0_0, (.slice A0_1 l0_1.length c0_1)] 42 (0, 0))) ∧ Aside0 (wc.heap[gb997]? = some (.cells #[.int .i64 a1_0, (.slice A1_1 l1_1.length c1_1)] 42 (0, 0))) ∧ Aside0 (wc.heap[gb1013]? = some (.cells #[.int .i64 t1008, (.slice Ao42 t1009.length co42)] 45 (0, 0))) ∧ Aside0 (wc.heap[gb1018]? = some (.cells #[.int .i64 t1014, (.slice Ao52 t1042.length co52)] 45 (0, 0))) ∧ Aside0 (wc.heap[gb1023]? = some (.cells #[.int .i64 t1019, (.slice Ao62 t1044.length co62)] 45 (0, 0))) ∧ Aside0 (wc.heap[gb1029]? = some (.cells #[.int .i64 t1024, (.slice Ao72 t1025.length co72)] 45 (0, 0))) ∧ Aside0 (wc.heap[gb1062]? = some (.cells #[.int .i64 t1057, (.slice Ao184 t1058.length co184)] 45 (0, 0))) ∧ Aside0 (Below w.heap.size w wc))
             case first =>
              have H := HC165.out
              clear HC165
              replace H := Option.bind_eq_some_iff.mp H
              obtain ⟨t1063, A1860, H⟩ := H
              (try dsimp only at H)
              have A186 := Aside0.mk A1860
              clear A1860
              by_cases c187 : t1063 = true
              ·subst c187
               have H1 : (laws_FnExactUnionOf.j2 kj107 t1046 (t1061 != t1012) t1024 t1047) = some r := by rw [if_pos rfl] at H; exact H
               clear H
               have H := H1
               clear H1
               have H' := Aside0.mk H
               clear H
               have hnb188 := NB1062_996.out
               have hnc188 := NB996_1062.out
               have hnb189 := NB1062_997.out
               have hnc189 := NB997_1062.out
               have hnb190 := NB1062_1013.out
               have hnc190 := NB1013_1062.out
               have hnb191 := NB1062_1018.out
               have hnc191 := NB1018_1062.out
               have hnb192 := NB1062_1023.out
               have hnc192 := NB1023_1062.out
               have hnb193 := NB1062_1029.out
               have hnc193 := NB1029_1062.out
               obtain ⟨hcz194_0, hcz194_1, hfz194_0, hfz194_1⟩ := Hof.blk2 BK1062.out
               have hnb195 := NB1013_996.out
               have hnc195 := NB996_1013.out
               have hnb196 := NB1013_997.out
               have hnc196 := NB997_1013.out
               have hnb197 := NB1013_1018.out
               have hnc197 := NB1018_1013.out
               have hnb198 := NB1013_1023.out
               have hnc198 := NB1023_1013.out
               have hnb199 := NB1013_1029.out
               have hnc199 := NB1029_1013.out
               obtain ⟨hcz200_0, hcz200_1, hfz200_0, hfz200_1⟩ := Hof.blk2 BK1013.out
               go_wp2_with (first | ((with_reducible refine gate_callee (f := 36) rfl ?_); refine goesL_ (some 104) rfl rfl Try.func36 (by kernel_rfl) rfl #[.agg #[.int .i64 t1057, .slice Ao184 t1058.length co184], .agg #[.int .i64 t1008, .slice Ao42 t1009.length co42]] rfl (by (try simp only [List.map_toArray, List.map_cons, List.map_nil]); first | done | rfl) ?_; (with_reducible refine (laws_eqMatroid.calls kj107 t1057 _ _ t1058 t1008 _ _ t1009 true _ ?side1 ?side2 ?side3 ?side4 A186.out).mono ?_); (case side1 => refine (Kd.R_reads' (e := 3) (base := w.heap.size) (ok := fun k_ => (some k_ ≠ (v1051 : Value).ownBlock ∧ (some k_ ≠ (v1055 : Value).ownBlock ∧ (some k_ ≠ (.slice Ao42 t1009.length co42 : Value).ownBlock ∧ (some k_ ≠ (.slice Ao52 t1042.length co52 : Value).ownBlock ∧ (some k_ ≠ (.slice Ao62 t1044.length co62 : Value).ownBlock ∧ some k_ ≠ (.slice Ao72 t1025.length co72 : Value).ownBlock)))))) (n := t1058.length) (c := co184) ?_).2.2; exact (laws_FnExactUnionOf.Rf HO1060.out BK1062.out (by decide))); (case side2 => exact (Kd.R_reads' HO1060.out).2.1); (case side3 => refine (Kd.R_reads' (e := 3) (base := w.heap.size) (ok := fun k_ => (some k_ ≠ (v1051 : Value).ownBlock ∧ (some k_ ≠ (v1055 : Value).ownBlock ∧ (some k_ ≠ (.slice Ao184 t1058.length co184 : Value).ownBlock ∧ (some k_ ≠ (.slice Ao52 t1042.length co52 : Value).ownBlock ∧ (some k_ ≠ (.slice Ao62 t1044.length co62 : Value).ownBlock ∧ some k_ ≠ (.slice Ao72 t1025.length co72 : Value).ownBlock)))))) (n := t1009.length) (c := co42) ?_).2.2; exact (laws_FnExactUnionOf.Rf HO_1014001.out BK1062.out (by decide))); (case side4 => exact (Kd.R_reads' HO_1014001.out).2.1); rintro e w201 ⟨rfl, hb⟩; refine ⟨_, rfl, ?_⟩; replace HO_1014001 := Aside0.mk (Kd.R_below (laws_FnExactUnionOf.Rf HO_1014001.out BK1062.out (by decide)) hb); replace HO_1019001 := Aside0.mk (Kd.R_below (laws_FnExactUnionOf.Rf HO_1019001.out BK1062.out (by decide)) hb); replace HO_1024001 := Aside0.mk (Kd.R_below (laws_FnExactUnionOf.Rf HO_1024001.out BK1062.out (by decide)) hb); replace HO_1030001 := Aside0.mk (Kd.R_below (laws_FnExactUnionOf.Rf HO_1030001.out BK1062.out (by decide)) hb); replace HO1052 := Aside0.mk (Kd.R_below (laws_FnExactUnionOf.Rf HO1052.out BK1062.out (by decide)) hb); replace HO1056 := Aside0.mk (Kd.R_below (laws_FnExactUnionOf.Rf HO1056.out BK1062.out (by decide)) hb); replace HO1060 := Aside0.mk (Kd.R_below (laws_FnExactUnionOf.Rf HO1060.out BK1062.out (by decide)) hb); replace BK996 := Aside0.mk (blk_below (laws_FnExactUnionOf.Bf BK996.out NB996_1062.out) hb); replace BK997 := Aside0.mk (blk_below (laws_FnExactUnionOf.Bf BK997.out NB997_1062.out) hb); replace BK1013 := Aside0.mk (blk_below (laws_FnExactUnionOf.Bf BK1013.out NB1013_1062.out) hb); replace BK1018 := Aside0.mk (blk_below (laws_FnExactUnionOf.Bf BK1018.out NB1018_1062.out) hb); replace BK1023 := Aside0.mk (blk_below (laws_FnExactUnionOf.Bf BK1023.out NB1023_1062.out) hb); replace BK1029 := Aside0.mk (blk_below (laws_FnExactUnionOf.Bf BK1029.out NB1029_1062.out) hb); replace BK1062 := Aside0.mk (blk_below (g := gb1062) (o := .cells #[.int .i64 t1057, .slice Ao184 t1058.length co184] 45 (0, 0)) (by (with_reducible repeat (first | refine blk_drewN ?_ _ | refine blk_drew ?_ | refine blk_alloc ?_ _)); refine blk_put (cs := #[.int .i64 t1057, .slice none 0 0]) ?_ 1 _ rfl; (with_reducible repeat (first | refine blk_drewN ?_ _ | refine blk_drew ?_ | refine blk_alloc ?_ _)); refine blk_put (cs := #[.int .i64 0, .slice none 0 0]) ?_ 0 _ rfl; (with_reducible repeat (first | refine blk_drewN ?_ _ | refine blk_drew ?_ | refine blk_alloc ?_ _)); exact BK1062.out) hb); replace HB := Aside0.mk (below_step (by first | exact Hof.Lw HB.out | exact laws_FnExactUnionOf.Ls HB.out GE1062.out) hb); (try clear hb); (try clear hb2); (try clear hk); (try clear hi)))
               go_meet
               case rel => exact ⟨_, ((t1061 != t1012)), (by first | rfl | (simp; done) | (simp [*]; done)), H', ⟨by have := HJ24.out; have := HJ107.out; first | omega | exact Nat.le_refl _⟩, ⟨by (try simp only [hl1019001_107]); (try simp only [hl1024001_107]); (with_reducible repeat (first | apply Kd.R_alloc | apply Kd.R_drewN | apply Kd.R_drew)); exact Kd.R_mono HO_1014001.out (fun _ hk => ⟨hk.2.2.2.1, ⟨hk.2.2.2.2.1, ⟨hk.2.2.2.2.2, hk.2.2.1⟩⟩⟩)⟩, ⟨by (try simp only [hl1019001_107]); (try simp only [hl1024001_107]); (with_reducible repeat (first | apply Kd.R_alloc | apply Kd.R_drewN | apply Kd.R_drew)); exact Kd.R_mono HO_1019001.out (fun _ hk => ⟨hk.2.2.2.1, ⟨hk.2.2.2.2.1, ⟨hk.2.2.2.2.2, hk.2.2.1⟩⟩⟩)⟩, ⟨by (try simp only [hl1019001_107]); (try simp only [hl1024001_107]); (with_reducible repeat (first | apply Kd.R_alloc | apply Kd.R_drewN | apply Kd.R_drew)); exact Kd.R_mono HO_1024001.out (fun _ hk => ⟨hk.2.2.2.1, ⟨hk.2.2.2.2.1, ⟨hk.2.2.2.2.2, hk.2.2.1⟩⟩⟩)⟩, ⟨by (try simp only [hl1019001_107]); (try simp only [hl1024001_107]); (with_reducible repeat (first | apply Kd.R_alloc | apply Kd.R_drewN | apply Kd.R_drew)); exact Kd.R_mono HO_1030001.out (fun _ hk => ⟨hk.2.2.2.1, ⟨hk.2.2.2.2.1, ⟨hk.2.2.2.2.2, hk.2.2.1⟩⟩⟩)⟩, ⟨by (try simp only [hl1019001_107]); (try simp only [hl1024001_107]); (with_reducible repeat (first | apply Kd.R_alloc | apply Kd.R_drewN | apply Kd.R_drew)); exact Kd.R_mono HO1060.out (fun _ hk => ⟨hk.2.2.1, ⟨hk.2.2.2.1, ⟨hk.2.2.2.2.1, hk.2.2.2.2.2⟩⟩⟩)⟩, ⟨by (try simp only [hl1019001_107]); (try simp only [hl1024001_107]); (with_reducible repeat (first | refine blk_drewN ?_ _ | refine blk_drew ?_ | refine blk_alloc ?_ _)); exact BK996.out⟩, ⟨by (try simp only [hl1019001_107]); (try simp only [hl1024001_107]); (with_reducible repeat (first | refine blk_drewN ?_ _ | refine blk_drew ?_ | refine blk_alloc ?_ _)); exact BK997.out⟩, ⟨by (try simp only [hl1019001_107]); (try simp only [hl1024001_107]); (with_reducible repeat (first | refine blk_drewN ?_ _ | refine blk_drew ?_ | refine blk_alloc ?_ _)); exact BK1013.out⟩, ⟨by (try simp only [hl1019001_107]); (try simp only [hl1024001_107]); (with_reducible repeat (first | refine blk_drewN ?_ _ | refine blk_drew ?_ | refine blk_alloc ?_ _)); exact BK1018.out⟩, ⟨by (try simp only [hl1019001_107]); (try simp only [hl1024001_107]); (with_reducible repeat (first | refine blk_drewN ?_ _ | refine blk_drew ?_ | refine blk_alloc ?_ _)); exact BK1023.out⟩, ⟨by (try simp only [hl1019001_107]); (try simp only [hl1024001_107]); (with_reducible repeat (first | refine blk_drewN ?_ _ | refine blk_drew ?_ | refine blk_alloc ?_ _)); exact BK1029.out⟩, ⟨by (try simp only [hl1019001_107]); (try simp only [hl1024001_107]); (with_reducible repeat (first | refine blk_drewN ?_ _ | refine blk_drew ?_ | refine blk_alloc ?_ _)); exact BK1062.out⟩, ⟨by repeat (first | (with_reducible first | exact HB.out | apply below_alloc | apply pw_below_drewN | apply below_drew1 | refine below_set ?_ GE996.out | refine below_set ?_ GE997.out | refine below_set ?_ GE1013.out | refine below_set ?_ GE1018.out | refine below_set ?_ GE1023.out | refine below_set ?_ GE1029.out | refine below_set ?_ GE1062.out) | exact HB.out)⟩⟩
              ·replace c187 := Bool.eq_false_iff.mpr c187
               subst c187
               have H1 : (laws_FnExactUnionOf.j2 kj107 t1046 true t1024 t1047) = some r := by rw [if_neg (show ¬ (false = true) by decide)] at H; exact H
               clear H
               have H := H1
               clear H1
               have H' := Aside0.mk H
               clear H
               have hnb202 := NB1062_996.out
               have hnc202 := NB996_1062.out
               have hnb203 := NB1062_997.out
               have hnc203 := NB997_1062.out
               have hnb204 := NB1062_1013.out
               have hnc204 := NB1013_1062.out
               have hnb205 := NB1062_1018.out
               have hnc205 := NB1018_1062.out
               have hnb206 := NB1062_1023.out
               have hnc206 := NB1023_1062.out
               have hnb207 := NB1062_1029.out
               have hnc207 := NB1029_1062.out
               obtain ⟨hcz208_0, hcz208_1, hfz208_0, hfz208_1⟩ := Hof.blk2 BK1062.out
               have hnb209 := NB1013_996.out
               have hnc209 := NB996_1013.out
               have hnb210 := NB1013_997.out
               have hnc210 := NB997_1013.out
               have hnb211 := NB1013_1018.out
               have hnc211 := NB1018_1013.out
               have hnb212 := NB1013_1023.out
               have hnc212 := NB1023_1013.out
               have hnb213 := NB1013_1029.out
               have hnc213 := NB1029_1013.out
               obtain ⟨hcz214_0, hcz214_1, hfz214_0, hfz214_1⟩ := Hof.blk2 BK1013.out
               go_wp2_with (first | ((with_reducible refine gate_callee (f := 36) rfl ?_); refine goesL_ (some 104) rfl rfl Try.func36 (by kernel_rfl) rfl #[.agg #[.int .i64 t1057, .slice Ao184 t1058.length co184], .agg #[.int .i64 t1008, .slice Ao42 t1009.length co42]] rfl (by (try simp only [List.map_toArray, List.map_cons, List.map_nil]); first | done | rfl) ?_; (with_reducible refine (laws_eqMatroid.calls kj107 t1057 _ _ t1058 t1008 _ _ t1009 false _ ?side1 ?side2 ?side3 ?side4 A186.out).mono ?_); (case side1 => refine (Kd.R_reads' (e := 3) (base := w.heap.size) (ok := fun k_ => (some k_ ≠ (v1051 : Value).ownBlock ∧ (some k_ ≠ (v1055 : Value).ownBlock ∧ (some k_ ≠ (.slice Ao42 t1009.length co42 : Value).ownBlock ∧ (some k_ ≠ (.slice Ao52 t1042.length co52 : Value).ownBlock ∧ (some k_ ≠ (.slice Ao62 t1044.length co62 : Value).ownBlock ∧ some k_ ≠ (.slice Ao72 t1025.length co72 : Value).ownBlock)))))) (n := t1058.length) (c := co184) ?_).2.2; exact (laws_FnExactUnionOf.Rf HO1060.out BK1062.out (by decide))); (case side2 => exact (Kd.R_reads' HO1060.out).2.1); (case side3 => refine (Kd.R_reads' (e := 3) (base := w.heap.size) (ok := fun k_ => (some k_ ≠ (v1051 : Value).ownBlock ∧ (some k_ ≠ (v1055 : Value).ownBlock ∧ (some k_ ≠ (.slice Ao184 t1058.length co184 : Value).ownBlock ∧ (some k_ ≠ (.slice Ao52 t1042.length co52 : Value).ownBlock ∧ (some k_ ≠ (.slice Ao62 t1044.length co62 : Value).ownBlock ∧ some k_ ≠ (.slice Ao72 t1025.length co72 : Value).ownBlock)))))) (n := t1009.length) (c := co42) ?_).2.2; exact (laws_FnExactUnionOf.Rf HO_1014001.out BK1062.out (by decide))); (case side4 => exact (Kd.R_reads' HO_1014001.out).2.1); rintro e w215 ⟨rfl, hb⟩; refine ⟨_, rfl, ?_⟩; replace HO_1014001 := Aside0.mk (Kd.R_below (laws_FnExactUnionOf.Rf HO_1014001.out BK1062.out (by decide)) hb); replace HO_1019001 := Aside0.mk (Kd.R_below (laws_FnExactUnionOf.Rf HO_1019001.out BK1062.out (by decide)) hb); replace HO_1024001 := Aside0.mk (Kd.R_below (laws_FnExactUnionOf.Rf HO_1024001.out BK1062.out (by decide)) hb); replace HO_1030001 := Aside0.mk (Kd.R_below (laws_FnExactUnionOf.Rf HO_1030001.out BK1062.out (by decide)) hb); replace HO1052 := Aside0.mk (Kd.R_below (laws_FnExactUnionOf.Rf HO1052.out BK1062.out (by decide)) hb); replace HO1056 := Aside0.mk (Kd.R_below (laws_FnExactUnionOf.Rf HO1056.out BK1062.out (by decide)) hb); replace HO1060 := Aside0.mk (Kd.R_below (laws_FnExactUnionOf.Rf HO1060.out BK1062.out (by decide)) hb); replace BK996 := Aside0.mk (blk_below (laws_FnExactUnionOf.Bf BK996.out NB996_1062.out) hb); replace BK997 := Aside0.mk (blk_below (laws_FnExactUnionOf.Bf BK997.out NB997_1062.out) hb); replace BK1013 := Aside0.mk (blk_below (laws_FnExactUnionOf.Bf BK1013.out NB1013_1062.out) hb); replace BK1018 := Aside0.mk (blk_below (laws_FnExactUnionOf.Bf BK1018.out NB1018_1062.out) hb); replace BK1023 := Aside0.mk (blk_below (laws_FnExactUnionOf.Bf BK1023.out NB1023_1062.out) hb); replace BK1029 := Aside0.mk (blk_below (laws_FnExactUnionOf.Bf BK1029.out NB1029_1062.out) hb); replace BK1062 := Aside0.mk (blk_below (g := gb1062) (o := .cells #[.int .i64 t1057, .slice Ao184 t1058.length co184] 45 (0, 0)) (by (with_reducible repeat (first | refine blk_drewN ?_ _ | refine blk_drew ?_ | refine blk_alloc ?_ _)); refine blk_put (cs := #[.int .i64 t1057, .slice none 0 0]) ?_ 1 _ rfl; (with_reducible repeat (first | refine blk_drewN ?_ _ | refine blk_drew ?_ | refine blk_alloc ?_ _)); refine blk_put (cs := #[.int .i64 0, .slice none 0 0]) ?_ 0 _ rfl; (with_reducible repeat (first | refine blk_drewN ?_ _ | refine blk_drew ?_ | refine blk_alloc ?_ _)); exact BK1062.out) hb); replace HB := Aside0.mk (below_step (by first | exact Hof.Lw HB.out | exact laws_FnExactUnionOf.Ls HB.out GE1062.out) hb); (try clear hb); (try clear hb2); (try clear hk); (try clear hi)))
               go_meet
               case rel => exact ⟨_, (true), (by first | rfl | (simp; done) | (simp [*]; done)), H', ⟨by have := HJ24.out; have := HJ107.out; first | omega | exact Nat.le_refl _⟩, ⟨by (try simp only [hl1019001_107]); (try simp only [hl1024001_107]); (with_reducible repeat (first | apply Kd.R_alloc | apply Kd.R_drewN | apply Kd.R_drew)); exact Kd.R_mono HO_1014001.out (fun _ hk => ⟨hk.2.2.2.1, ⟨hk.2.2.2.2.1, ⟨hk.2.2.2.2.2, hk.2.2.1⟩⟩⟩)⟩, ⟨by (try simp only [hl1019001_107]); (try simp only [hl1024001_107]); (with_reducible repeat (first | apply Kd.R_alloc | apply Kd.R_drewN | apply Kd.R_drew)); exact Kd.R_mono HO_1019001.out (fun _ hk => ⟨hk.2.2.2.1, ⟨hk.2.2.2.2.1, ⟨hk.2.2.2.2.2, hk.2.2.1⟩⟩⟩)⟩, ⟨by (try simp only [hl1019001_107]); (try simp only [hl1024001_107]); (with_reducible repeat (first | apply Kd.R_alloc | apply Kd.R_drewN | apply Kd.R_drew)); exact Kd.R_mono HO_1024001.out (fun _ hk => ⟨hk.2.2.2.1, ⟨hk.2.2.2.2.1, ⟨hk.2.2.2.2.2, hk.2.2.1⟩⟩⟩)⟩, ⟨by (try simp only [hl1019001_107]); (try simp only [hl1024001_107]); (with_reducible repeat (first | apply Kd.R_alloc | apply Kd.R_drewN | apply Kd.R_drew)); exact Kd.R_mono HO_1030001.out (fun _ hk => ⟨hk.2.2.2.1, ⟨hk.2.2.2.2.1, ⟨hk.2.2.2.2.2, hk.2.2.1⟩⟩⟩)⟩, ⟨by (try simp only [hl1019001_107]); (try simp only [hl1024001_107]); (with_reducible repeat (first | apply Kd.R_alloc | apply Kd.R_drewN | apply Kd.R_drew)); exact Kd.R_mono HO1060.out (fun _ hk => ⟨hk.2.2.1, ⟨hk.2.2.2.1, ⟨hk.2.2.2.2.1, hk.2.2.2.2.2⟩⟩⟩)⟩, ⟨by (try simp only [hl1019001_107]); (try simp only [hl1024001_107]); (with_reducible repeat (first | refine blk_drewN ?_ _ | refine blk_drew ?_ | refine blk_alloc ?_ _)); exact BK996.out⟩, ⟨by (try simp only [hl1019001_107]); (try simp only [hl1024001_107]); (with_reducible repeat (first | refine blk_drewN ?_ _ | refine blk_drew ?_ | refine blk_alloc ?_ _)); exact BK997.out⟩, ⟨by (try simp only [hl1019001_107]); (try simp only [hl1024001_107]); (with_reducible repeat (first | refine blk_drewN ?_ _ | refine blk_drew ?_ | refine blk_alloc ?_ _)); exact BK1013.out⟩, ⟨by (try simp only [hl1019001_107]); (try simp only [hl1024001_107]); (with_reducible repeat (first | refine blk_drewN ?_ _ | refine blk_drew ?_ | refine blk_alloc ?_ _)); exact BK1018.out⟩, ⟨by (try simp only [hl1019001_107]); (try simp only [hl1024001_107]); (with_reducible repeat (first | refine blk_drewN ?_ _ | refine blk_drew ?_ | refine blk_alloc ?_ _)); exact BK1023.out⟩, ⟨by (try simp only [hl1019001_107]); (try simp only [hl1024001_107]); (with_reducible repeat (first | refine blk_drewN ?_ _ | refine blk_drew ?_ | refine blk_alloc ?_ _)); exact BK1029.out⟩, ⟨by (try simp only [hl1019001_107]); (try simp only [hl1024001_107]); (with_reducible repeat (first | refine blk_drewN ?_ _ | refine blk_drew ?_ | refine blk_alloc ?_ _)); exact BK1062.out⟩, ⟨by repeat (first | (with_reducible first | exact HB.out | apply below_alloc | apply pw_below_drewN | apply below_drew1 | refine below_set ?_ GE996.out | refine below_set ?_ GE997.out | refine below_set ?_ GE1013.out | refine below_set ?_ GE1018.out | refine below_set ?_ GE1023.out | refine below_set ?_ GE1029.out | refine below_set ?_ GE1062.out) | exact HB.out)⟩⟩
             case rest =>
              clear HC165
              try clear c1
              try clear c2
              try clear p2
              try clear c3
              try clear c4
              try clear c18
              try clear c19
              try clear c20
              try clear c21
              try clear c34
              try clear c36
              try clear c44
              try clear c187
              try clear c188
              try clear c189
              try clear c190
              try clear c191
              try clear c192
              try clear c193
              try clear c195
              try clear c196
              try clear c197
              try clear c198
              try clear c199
              try clear c202
              try clear c203
              try clear c204
              try clear c205
              try clear c206
              try clear c207
              try clear c209
              try clear c210
              try clear c211
              try clear c212
              try clear c213
              try clear hcz194_0
              try clear hcz194_1
              try clear hcz200_0
              try clear hcz200_1
              try clear hcz208_0
              try clear hcz208_1
              try clear hcz214_0
              try clear hcz214_1
              try clear hfz194_0
              try clear hfz194_1
              try clear hfz200_0
              try clear hfz200_1
              try clear hfz208_0
              try clear hfz208_1
              try clear hfz214_0
              try clear hfz214_1
              obtain ⟨kq, x110_164, rfl, HA, HJ164, HO_1014001, HO_1019001, HO_1024001, HO_1030001, HO_1063001, BK996, BK997, BK1013, BK1018, BK1023, BK1029, BK1062, HB⟩ := hcut
              have hl1030001_164 := (Kd.R_reads' HO_1030001.out).1
              rw [hl1030001_164] at HO_1030001
              (try simp only [hl1030001_164])
              (try simp only [hl1030001_164] at BK996)
              (try simp only [hl1030001_164] at BK997)
              (try simp only [hl1030001_164] at BK1013)
              (try simp only [hl1030001_164] at BK1018)
              (try simp only [hl1030001_164] at BK1023)
              (try simp only [hl1030001_164] at BK1029)
              (try simp only [hl1030001_164] at BK1062)
              (try simp only [hl1030001_164] at HO_1014001)
              (try simp only [hl1030001_164] at HO_1019001)
              (try simp only [hl1030001_164] at HO_1024001)
              (try simp only [hl1030001_164] at HO_1063001)
              cases kq with
              | zero => exact absurd HA.out (by simp [laws_FnExactUnionOf.j2])
              | succ kj164 =>
               have H := HA.out
               clear HA
               simp only [laws_FnExactUnionOf.j2] at H
               by_cases c216 : x110_164 = true
               ·subst c216
                have H1 : (some false) = some r := by rw [if_pos rfl] at H; exact H
                clear H
                have H := H1
                clear H1
                obtain rfl := Option.some.inj H
                exact absurd hT.out (by decide)
               ·replace c216 := Bool.eq_false_iff.mpr c216
                subst c216
                have H1 : ((laws_heldMatroid.f kj164 t1024 t1047 1).bind fun t1064 => (if t1064 < 0 then (some false) else (if t1064 = t1046 then (some true) else (some false)))) = some r := by rw [if_neg (show ¬ (false = true) by decide)] at H; exact H
                clear H
                have H := H1
                clear H1
                replace H := Option.bind_eq_some_iff.mp H
                obtain ⟨t1064, A2170, H⟩ := H
                (try dsimp only at H)
                have A217 := Aside0.mk A2170
                clear A2170
                by_cases c218 : t1064 < 0
                ·rw [if_pos c218] at H
                 have c218b0 : decide (t1064 < 0) = true := decide_eq_true c218
                 clear c218
                 obtain rfl := Option.some.inj H
                 exact absurd hT.out (by decide)
                ·rw [if_neg c218] at H
                 have c218b0 : decide (t1064 < 0) = false := decide_eq_false c218
                 clear c218
                 by_cases c219 : t1064 = t1046
                 ·rw [if_pos c219] at H
                  have c219b0 : (t1064 == t1046) = true := beq_iff_eq.mpr c219
                  have c219b1 : (t1064 != t1046) = false := bne_eq_false_iff_eq.mpr c219
                  clear c219
                  obtain rfl := Option.some.inj H
                  have hnb220 := NB1029_996.out
                  have hnc220 := NB996_1029.out
                  have hnb221 := NB1029_997.out
                  have hnc221 := NB997_1029.out
                  have hnb222 := NB1029_1013.out
                  have hnc222 := NB1013_1029.out
                  have hnb223 := NB1029_1018.out
                  have hnc223 := NB1018_1029.out
                  have hnb224 := NB1029_1023.out
                  have hnc224 := NB1023_1029.out
                  have hnb225 := NB1029_1062.out
                  have hnc225 := NB1062_1029.out
                  obtain ⟨hcz226_0, hcz226_1, hfz226_0, hfz226_1⟩ := Hof.blk2 BK1029.out
                  go_wp2_with (first | ((with_reducible refine gate_callee (f := 45) rfl ?_); refine goesL_ (some 113) rfl rfl Try.func45 (by kernel_rfl) rfl #[.agg #[.int .i64 t1024, .slice Ao72 t1047.length co72], .int .i64 1] rfl (by (try simp only [List.map_toArray, List.map_cons, List.map_nil]); first | done | rfl) ?_; (with_reducible refine (laws_heldMatroid.calls kj164 t1024 _ _ t1047 1 t1064 _ ?side1 ?side2 A217.out).mono ?_); (case side1 => exact Hof.Cw ((Kd.R_reads' HO_1030001.out).2.2)); (case side2 => exact (Kd.R_reads' HO_1030001.out).2.1); rintro e w227 ⟨rfl, hb⟩; refine ⟨_, rfl, ?_⟩; replace HO_1014001 := Aside0.mk (Kd.R_below (Hof.Rw HO_1014001.out) hb); replace HO_1019001 := Aside0.mk (Kd.R_below (Hof.Rw HO_1019001.out) hb); replace HO_1024001 := Aside0.mk (Kd.R_below (Hof.Rw HO_1024001.out) hb); replace HO_1030001 := Aside0.mk (Kd.R_below (Hof.Rw HO_1030001.out) hb); replace HO_1063001 := Aside0.mk (Kd.R_below (Hof.Rw HO_1063001.out) hb); replace BK996 := Aside0.mk (blk_below (Hof.Bw BK996.out) hb); replace BK997 := Aside0.mk (blk_below (Hof.Bw BK997.out) hb); replace BK1013 := Aside0.mk (blk_below (Hof.Bw BK1013.out) hb); replace BK1018 := Aside0.mk (blk_below (Hof.Bw BK1018.out) hb); replace BK1023 := Aside0.mk (blk_below (Hof.Bw BK1023.out) hb); replace BK1029 := Aside0.mk (blk_below (Hof.Bw BK1029.out) hb); replace BK1062 := Aside0.mk (blk_below (Hof.Bw BK1062.out) hb); replace HB := Aside0.mk (below_step (by first | exact Hof.Lw HB.out | exact laws_FnExactUnionOf.Ls HB.out GE1062.out) hb); (try clear hb); (try clear hb2); (try clear hk); (try clear hi)))
                  go_ret
                  exact ⟨by first | rfl | (simp [errW_none, errW_some] <;> rfl) | (simp [*, errW_none, errW_some] <;> rfl), by repeat (first | (with_reducible first | exact HB.out | apply below_alloc | apply pw_below_drewN | apply below_drew1 | refine below_set ?_ GE996.out | refine below_set ?_ GE997.out | refine below_set ?_ GE1013.out | refine below_set ?_ GE1018.out | refine below_set ?_ GE1023.out | refine below_set ?_ GE1029.out | refine below_set ?_ GE1062.out) | exact HB.out)⟩
                 ·rw [if_neg c219] at H
                  have c219b0 : (t1064 == t1046) = false := beq_eq_false_iff_ne.mpr c219
                  have c219b1 : (t1064 != t1046) = true := bne_iff_ne.mpr c219
                  obtain rfl := Option.some.inj H
                  exact absurd hT.out (by decide)
            ·rw [if_neg c161] at H
             have c161b0 : (t1048 == t1046) = false := beq_eq_false_iff_ne.mpr c161
             have c161b1 : (t1048 != t1046) = true := bne_iff_ne.mpr c161
             obtain rfl := Option.some.inj H
             exact absurd hT.out (by decide)
       ·replace c105 := Bool.eq_false_iff.mpr c105
        subst c105
        have H1 : (some false) = some r := by rw [if_neg (show ¬ (false = true) by decide)] at H; exact H
        clear H
        have H := H1
        clear H1
        obtain rfl := Option.some.inj H
        exact absurd hT.out (by decide)
      ·replace c102 := Bool.eq_false_iff.mpr c102
       subst c102
       have H1 : (some false) = some r := by rw [if_neg (show ¬ (false = true) by decide)] at H; exact H
       clear H
       have H := H1
       clear H1
       obtain rfl := Option.some.inj H
       exact absurd hT.out (by decide)
end Go.Proofs.Ytbjnkcfkhonkhaa.Pr
end
section
namespace Go.Proofs.Ytbjnkcfkhonkhaa.Gen
open Go.RowKit Go.Proofs.YtbjnkcfkhonkhaaW.PrintWords Go.Proofs.YtbjnkcfkhonkhaaW.PrintMore
theorem w64 {i : Int} (h0 : -9223372036854775808 ≤ i) (h1 : i ≤ 9223372036854775807) : wrap64 i = i := by
 unfold wrap64
 omega
theorem w64s (i : Nat) (h1 : i < 9223372036854775807) : wrap64 ((i : Int) + 1) = ((i + 1 : Nat) : Int) := by
 unfold wrap64
 omega
theorem rd_nat (xs : List Int) (i : Nat) : rd xs (i : Int) = xs.getD i 0 := rfl
theorem count_loop {σ γ : Type} (L : Nat → σ → Int → Option γ) (n : Nat) (step : Nat → σ → σ) (P : Nat → σ → Prop) (K : Nat)
  (hstep : ∀ k i s, K ≤ k → i < n → P i s → L (k + 1) s (i : Int) = L k (step i s) ((i + 1 : Nat) : Int) ∧ P (i + 1) (step i s)) :
  ∀ (d i : Nat) (s : σ) (k : Nat), i + d = n → K + d ≤ k → P i s → ∃ s', L k s (i : Int) = L (k - d) s' (n : Int) ∧ P n s' ∧ s' = (List.range' i d).foldl (fun s j => step j s) s := by
 intro d
 induction d with
 | zero =>
  intro i s k hi hk hP
  obtain rfl : i = n := by omega
  exact ⟨s, by simp, hP, by simp⟩
 | succ d ih =>
  intro i s k hi hk hP
  obtain ⟨k, rfl⟩ : ∃ m, k = m + 1 := ⟨k - 1, by omega⟩
  obtain ⟨h1, h2⟩ := hstep k i s (by omega) (by omega) hP
  obtain ⟨s', h3, h4, h5⟩ := ih (i + 1) (step i s) k (by omega) (by omega) h2
  refine ⟨s', ?_, h4, ?_⟩
  ·rw [h1, h3]
   congr 1
   omega
  ·rw [h5, List.range'_succ]
   rfl
theorem fill_loop {β γ : Type} (L : Nat → List β → Int → Option γ) (f : Nat → β) (K n : Nat)
  (hstep : ∀ k i ys, K ≤ k → i < n → ys.length = n → L (k + 1) ys (i : Int) = L k (ys.set i (f i)) ((i + 1 : Nat) : Int))
  (ys : List β) (hy : ys.length = n) (k : Nat) (hk : K + n ≤ k) : L k ys 0 = L (k - n) ((List.range n).map f) (n : Int) := by
 obtain ⟨s', h1, h2, _⟩ := count_loop L n (fun i s => s.set i (f i)) (fun i s => s.length = n ∧ ∀ j, j < i → s[j]? = some (f j)) K
  (fun k i s hK hi hP => ⟨hstep k i s hK hi hP.1, by simpa using hP.1, fun j hj => by
   rw [List.getElem?_set]
   by_cases e : i = j
   ·subst e
    rw [if_pos rfl, if_pos (by omega)]
   ·rw [if_neg e]
    exact hP.2 j (by omega)⟩) n 0 ys k (by omega) hk ⟨hy, fun j hj => by omega⟩
 refine h1.trans ?_
 congr 1
 apply List.ext_getElem?
 intro j
 by_cases hj : j < n
 ·rw [h2.2 j hj]
  simp [hj]
 ·rw [List.getElem?_eq_none (by omega), List.getElem?_eq_none (by simp; omega)]
theorem map_getD {α β : Type} (xs : List α) (d : α) (g : α → β) : (List.range xs.length).map (fun i => g (xs.getD i d)) = xs.map g := by
 apply List.ext_getElem?
 intro j
 by_cases hj : j < xs.length
 ·simp [hj, List.getD]
 ·simp [hj]
theorem map_getD' {α : Type} (xs : List α) (d : α) : (List.range xs.length).map (fun i => xs.getD i d) = xs := by
 have := map_getD xs d id
 simpa using this
theorem all_loop (L : Nat → Int → Option Bool) (n : Nat) (p : Nat → Bool) (K : Nat) (last : Bool)
  (hstep : ∀ k i, K ≤ k → i < n → L (k + 1) (i : Int) = if p i = true then L k ((i + 1 : Nat) : Int) else some false)
  (hend : ∀ k, K ≤ k → L (k + 1) (n : Int) = some last) :
  ∀ (d i k : Nat), i + d = n → K + d < k → L k (i : Int) = some ((List.range' i d).all p && last) := by
 intro d
 induction d with
 | zero =>
  intro i k hi hk
  obtain rfl : i = n := by omega
  obtain ⟨k, rfl⟩ : ∃ m, k = m + 1 := ⟨k - 1, by omega⟩
  simp [hend k (by omega)]
 | succ d ih =>
  intro i k hi hk
  obtain ⟨k, rfl⟩ : ∃ m, k = m + 1 := ⟨k - 1, by omega⟩
  rw [hstep k i (by omega) (by omega), List.range'_succ]
  by_cases h : p i = true
  ·rw [if_pos h, ih (i + 1) k (by omega) (by omega)]
   simp [h]
  ·rw [if_neg h]
   simp [h]
theorem ev_loop {σ γ : Type} (L : Nat → σ → Int → Option γ) (n : Nat) (step : Nat → σ → σ) (P : Nat → σ → Prop) (r : γ)
  (hround : ∀ i s, i < n → P i s → P (i + 1) (step i s) ∧ (Ev (fun k => L k (step i s) ((i + 1 : Nat) : Int)) r → Ev (fun k => L k s (i : Int)) r)) :
  ∀ (d i : Nat) (s : σ), i + d = n → P i s → (P n ((List.range' i d).foldl (fun s j => step j s) s) → Ev (fun k => L k ((List.range' i d).foldl (fun s j => step j s) s) (n : Int)) r) → Ev (fun k => L k s (i : Int)) r := by
 intro d
 induction d with
 | zero =>
  intro i s hi hP h
  obtain rfl : i = n := by omega
  exact h (by simpa using hP)
 | succ d ih =>
  intro i s hi hP h
  obtain ⟨h1, h2⟩ := hround i s (by omega) hP
  refine h2 (ih (i + 1) (step i s) (by omega) h1 ?_)
  rw [List.range'_succ] at h
  exact h
theorem ev_at {γ : Type} {g : Nat → Option γ} {r : γ} (K : Nat) (h : ∀ k, K ≤ k → g k = some r) : Ev g r := ⟨K, h⟩
theorem foldl_append (p : Nat → Bool) (l : List Nat) (acc : List Int) : l.foldl (fun s j => if p j = true then s ++ [(j : Int)] else s) acc = acc ++ (l.filter p).map (fun j : Nat => (j : Int)) := by
 induction l generalizing acc with
 | nil => simp
 | cons a l ih =>
  rw [List.foldl_cons, ih]
  by_cases h : p a = true
  ·simp [h]
  ·simp [h]
theorem all_yes (l : List Nat) : (l.all fun _ => true) = true := List.all_eq_true.2 (fun _ _ => rfl)
end Go.Proofs.Ytbjnkcfkhonkhaa.Gen
end
section
namespace Go.Proofs.Ytbjnkcfkhonkhaa.Base
open Go.RowKit Go.Proofs.Ytbjnkcfkhonkhaa.Pr Go.Proofs.YtbjnkcfkhonkhaaW.PrintWords Go.Proofs.YtbjnkcfkhonkhaaW.PrintLast Go.Proofs.YtbjnkcfkhonkhaaW.PrintMore
theorem toIntS (xs : List Int) (hn : xs.length ≤ 1048576) (k : Nat) (hk : xs.length < k) : laws_toIntS.f k xs = some xs := by
 unfold laws_toIntS.f
 rw [if_pos (by omega), if_pos (by omega)]
 rw [Gen.fill_loop (fun k ys i => laws_toIntS.l0 k xs ys i) (fun i => xs.getD i 0) 0 xs.length (fun k i ys _ hi hy => by
  simp only [laws_toIntS.l0]
  rw [if_pos (by omega), if_pos (by omega), if_pos (by omega), Gen.w64s i (by omega), Gen.rd_nat]
  simp) _ (by simp) k (by omega), Gen.map_getD']
 obtain ⟨m, hm⟩ : ∃ m, k - xs.length = m + 1 := ⟨k - xs.length - 1, by omega⟩
 rw [hm]
 simp only [laws_toIntS.l0]
 rw [if_neg (by omega)]
theorem eqIntS (xs : List Int) (hn : xs.length ≤ 1048576) (k : Nat) (hk : xs.length < k) : laws_eqIntS.f k xs xs = some true := by
 unfold laws_eqIntS.f
 rw [if_pos rfl]
 have := Gen.all_loop (fun k i => laws_eqIntS.l0 k xs xs i) xs.length (fun _ => true) 0 true (fun k i _ hi => by
  simp only [laws_eqIntS.l0]
  rw [if_pos (by omega), if_pos (by omega), if_pos (by omega), if_pos (by trivial), Gen.w64s i (by omega), if_pos (by trivial)]) (fun k _ => by
  simp only [laws_eqIntS.l0]
  rw [if_neg (by omega)]) xs.length 0 k (by omega) (by omega)
 simpa [Gen.all_yes] using this
end Go.Proofs.Ytbjnkcfkhonkhaa.Base
end
