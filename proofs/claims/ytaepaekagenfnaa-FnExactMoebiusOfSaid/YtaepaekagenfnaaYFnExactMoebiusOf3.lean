/- The claim FnExactMoebiusOf: every text that its row comes to, laid together by slim.py (the words of the kit's print, the printed walks, the pure law, the row). -/
import Derived.Below
import Derived.ChangeArms
import Derived.ChangeOld
import Derived.DataReads
import Derived.Deep.Slices
import Derived.OpenShut
import Derived.ProofKit
import Derived.ShutString
import Derived.SizedLaws
import Derived.Test.YtaepaekagenfnaaRows
import Derived.WalkKit
import Derived.Test.YtaepaekagenfnaaYFnExactMoebiusOf2
section
namespace Go.Proofs.Ytaepaekagenfnaa.Mat
open Go.RowKit Go.Proofs.Ytaepaekagenfnaa.Pr Go.Proofs.Ytaepaekagenfnaa.Sets Go.Proofs.YtaepaekagenfnaaW.PrintWords Go.Proofs.YtaepaekagenfnaaW.PrintLast Go.Proofs.YtaepaekagenfnaaW.PrintMore
set_option linter.unusedVariables false
def isSet (n s : Int) : Bool := decide (0 ≤ n ∧ n ≤ 8 ∧ 0 ≤ s ∧ s < 2 ^ n.toNat)
theorem implIsSet (n s : Int) : impl_IsSet.f n s = some (isSet n s) := by
  unfold impl_IsSet.f impl_isSize.f isSet
  by_cases h0 : n ≥ 0
  · rw [if_pos h0]
    simp only [Option.bind_some]
    by_cases h1 : n ≤ 8
    · rw [if_pos (decide_eq_true h1)]
      obtain ⟨m, rfl⟩ : ∃ m : Nat, n = m := ⟨n.toNat, by omega⟩
      by_cases h2 : s ≥ 0
      · rw [if_pos h2, if_pos h0, shl_nat m (by omega)]
        congr 1
        rw [decide_eq_decide]
        simp only [Int.toNat_natCast]
        push_cast
        omega
      · rw [if_neg h2, decide_eq_false (by omega)]
    · rw [if_neg (by rw [decide_eq_true_eq]; exact h1), decide_eq_false (by omega)]
  · rw [if_neg h0]
    simp only [Option.bind_some]
    rw [if_neg (by decide), decide_eq_false (by omega)]
theorem specIsSet (n s : Int) : spec_IsSet.f n s = some (isSet n s) := by
  unfold spec_IsSet.f spec_l1In.f isSet
  by_cases h0 : n ≥ 0
  · rw [if_pos h0]
    simp only [Option.bind_some]
    by_cases h1 : n ≤ 8
    · rw [if_pos (decide_eq_true h1)]
      obtain ⟨m, rfl⟩ : ∃ m : Nat, n = m := ⟨n.toNat, by omega⟩
      have hu : IntKind.u64.wrap (m : Int) = m := by
        have : m = 0 ∨ m = 1 ∨ m = 2 ∨ m = 3 ∨ m = 4 ∨ m = 5 ∨ m = 6 ∨ m = 7 ∨ m = 8 := by omega
        rcases this with rfl | rfl | rfl | rfl | rfl | rfl | rfl | rfl | rfl <;> decide +kernel
      have hp := pow_le_256 (m := m) (by omega)
      have hp1 : 1 ≤ 2 ^ m := Nat.one_le_two_pow
      rw [hu, if_pos h0, shl_nat m (by omega), Gen.w64 (by omega) (by omega)]
      by_cases h2 : s ≥ 0
      · rw [if_pos h2]
        simp only [Option.bind_some]
        congr 1
        rw [decide_eq_decide]
        simp only [Int.toNat_natCast]
        have : ((2 : Int) ^ m) = ((2 ^ m : Nat) : Int) := by push_cast; rfl
        rw [this]
        omega
      · rw [if_neg h2]
        simp only [Option.bind_some]
        rw [decide_eq_false (by omega)]
    · rw [if_neg (by rw [decide_eq_true_eq]; exact h1), decide_eq_false (by omega)]
  · rw [if_neg h0]
    simp only [Option.bind_some]
    rw [if_neg (by decide), decide_eq_false (by omega)]
def fam (n : Int) (l : List Int) : Bool := ((List.range' 0 l.length).all fun i => isSet n (l.getD i 0) && (decide (i = 0) || decide (l.getD (i - 1) 0 < l.getD i 0))) && decide (0 ≤ n ∧ n ≤ 8)
theorem implFamily (n : Int) (l : List Int) (hn : l.length ≤ 1048576) (k : Nat) (hk : l.length < k) : impl_IsFamily.f k n l = some (fam n l) := by
  unfold impl_IsFamily.f fam
  refine Gen.all_loop (fun k i => impl_IsFamily.l0 k n l l (l.length : Int) i) l.length (fun i => isSet n (l.getD i 0) && (decide (i = 0) || decide (l.getD (i - 1) 0 < l.getD i 0))) 0 (decide (0 ≤ n ∧ n ≤ 8)) (fun k i _ hi => ?_) (fun k _ => ?_) l.length 0 k (by omega) (by omega)
  · simp only [impl_IsFamily.l0]
    rw [if_pos (by omega), if_pos (by omega), if_pos (by omega), implIsSet, Gen.rd_nat]
    simp only [Option.bind_some]
    cases isSet n (l.getD i 0) with
    | false => rfl
    | true =>
      rw [if_pos rfl, Gen.w64s i (by omega)]
      by_cases h0 : i = 0
      · subst h0
        rw [if_neg (by decide), if_pos (by rfl)]
      · rw [if_pos (by omega), Gen.w64 (by omega) (by omega), show (i : Int) - 1 = ((i - 1 : Nat) : Int) by omega, if_pos (by omega), if_pos (by omega), Gen.rd_nat]
        by_cases h1 : l.getD i 0 ≤ l.getD (i - 1) 0
        · rw [if_pos h1, decide_eq_false h0, decide_eq_false (by omega)]
          rfl
        · rw [if_neg h1, decide_eq_false h0, decide_eq_true (by omega)]
          rfl
  · simp only [impl_IsFamily.l0]
    rw [if_neg (by omega)]
    unfold impl_isSize.f
    by_cases h0 : n ≥ 0
    · rw [if_pos h0]
      simp only [Option.bind_some]
      congr 1
      rw [decide_eq_decide]
      omega
    · rw [if_neg h0, decide_eq_false (by omega)]
      rfl
theorem specFamily (n : Int) (l : List Int) (hn : l.length ≤ 1048576) (k : Nat) (hk : l.length < k) : spec_IsFamily.f k n l = some (fam n l) := by
  unfold spec_IsFamily.f fam
  refine Gen.all_loop (fun k i => spec_IsFamily.l0 k n l i) l.length (fun i => isSet n (l.getD i 0) && (decide (i = 0) || decide (l.getD (i - 1) 0 < l.getD i 0))) 0 (decide (0 ≤ n ∧ n ≤ 8)) (fun k i _ hi => ?_) (fun k _ => ?_) l.length 0 k (by omega) (by omega)
  · simp only [spec_IsFamily.l0]
    rw [if_pos (by omega), if_pos (by omega), specIsSet, Gen.rd_nat]
    simp only [Option.bind_some]
    cases isSet n (l.getD i 0) with
    | false => rfl
    | true =>
      rw [if_pos rfl, Gen.w64s i (by omega)]
      by_cases h0 : i = 0
      · subst h0
        rw [if_neg (by decide), if_pos (by rfl)]
      · rw [if_pos (by omega), Gen.w64 (by omega) (by omega), show (i : Int) - 1 = ((i - 1 : Nat) : Int) by omega, if_pos (by omega), if_pos (by omega), Gen.rd_nat]
        by_cases h1 : l.getD (i - 1) 0 ≥ l.getD i 0
        · rw [if_pos h1, decide_eq_false h0, decide_eq_false (by omega)]
          rfl
        · rw [if_neg h1, decide_eq_false h0, decide_eq_true (by omega)]
          rfl
  · simp only [spec_IsFamily.l0]
    rw [if_neg (by omega)]
    unfold spec_l1In.f
    by_cases h0 : n ≥ 0
    · rw [if_pos h0]
      simp only [Option.bind_some]
      congr 1
      rw [decide_eq_decide]
      omega
    · rw [if_neg h0, decide_eq_false (by omega)]
      rfl
theorem fam_nat {n : Int} {l : List Int} (h : fam n l = true) : ∃ (m : Nat) (lN : List Nat), n = m ∧ m ≤ 8 ∧ l = ints lN ∧ ∀ s ∈ lN, s < 2 ^ m := by
  unfold fam at h
  rw [Bool.and_eq_true, decide_eq_true_eq] at h
  obtain ⟨hl, h0, h8⟩ := h
  have key : ∀ s ∈ l, 0 ≤ s ∧ s < 2 ^ n.toNat := fun s hs => by
    obtain ⟨i, hi, rfl⟩ := List.getElem_of_mem hs
    have := List.all_eq_true.1 hl i (List.mem_range'_1.2 (by omega))
    rw [Bool.and_eq_true] at this
    have h1 := this.1
    unfold isSet at h1
    rw [decide_eq_true_eq] at h1
    have e : l.getD i 0 = l[i] := by simp [List.getD, hi]
    rw [e] at h1
    exact ⟨h1.2.2.1, h1.2.2.2⟩
  refine ⟨n.toNat, l.map Int.toNat, by omega, by omega, ?_, fun s hs => ?_⟩
  · unfold ints
    rw [List.map_map]
    conv => lhs; rw [← List.map_id l]
    refine List.map_congr_left fun s hs => ?_
    have := (key s hs).1
    show s = ((s.toNat : Nat) : Int)
    omega
  · obtain ⟨x, hx, rfl⟩ := List.mem_map.1 hs
    obtain ⟨h1, h2⟩ := key x hx
    have e : ((2 : Int) ^ n.toNat) = ((2 ^ n.toNat : Nat) : Int) := by push_cast; rfl
    rw [e] at h2
    omega
theorem index (l : List Nat) (x : Nat) (hn : l.length ≤ 1048576) : ∀ (d i k : Nat), i + d = l.length → d < k → ∃ r, slices_Index_int_int.l0 k (ints l) (x : Int) ((ints l).length : Int) (i : Int) = some r ∧ decide (r ≥ 0) = (l.drop i).contains x := by
  intro d
  induction d with
  | zero =>
    intro i k hi hk
    obtain ⟨k, rfl⟩ : ∃ m, k = m + 1 := ⟨k - 1, by omega⟩
    refine ⟨-1, ?_, ?_⟩
    · simp only [slices_Index_int_int.l0]
      rw [if_neg (by rw [ints_length]; omega)]
    · rw [List.drop_of_length_le (by omega)]
      rfl
  | succ d ih =>
    intro i k hi hk
    obtain ⟨k, rfl⟩ : ∃ m, k = m + 1 := ⟨k - 1, by omega⟩
    have hlt : i < l.length := by omega
    simp only [slices_Index_int_int.l0]
    rw [if_pos (by rw [ints_length]; omega), if_pos (by omega), if_pos (by rw [ints_length]; omega), ints_rd, Gen.w64s i (by omega)]
    have hd : l.drop i = l.getD i 0 :: l.drop (i + 1) := by
      rw [List.drop_eq_getElem_cons hlt]
      simp [List.getD, hlt]
    rw [hd]
    by_cases h : x = l.getD i 0
    · refine ⟨i, by rw [if_pos (by omega)], ?_⟩
      rw [← h, List.contains_cons, beq_self_eq_true, Bool.true_or, decide_eq_true (by omega)]
    · obtain ⟨r, h1, h2⟩ := ih (i + 1) k (by omega) (by omega)
      refine ⟨r, by rw [if_neg (by omega)]; exact h1, ?_⟩
      rw [h2, List.contains_cons, beq_eq_false_iff_ne.2 h, Bool.false_or]
theorem implHas (l : List Nat) (x : Nat) (hn : l.length ≤ 1048576) (k : Nat) (hk : l.length < k) : impl_HasSet.f k (ints l) (x : Int) = some (l.contains x) := by
  unfold impl_HasSet.f slices_Contains_int_int.f slices_Index_int_int.f
  obtain ⟨r, h1, h2⟩ := index l x hn l.length 0 k (by omega) hk
  rw [show (0 : Int) = ((0 : Nat) : Int) from rfl, h1]
  simp only [Option.bind_some]
  rw [show ((0 : Nat) : Int) = (0 : Int) from rfl, h2, List.drop_zero]
theorem specHas (l : List Nat) (x : Nat) (hn : l.length ≤ 1048576) (k : Nat) (hk : l.length < k) : spec_HasSet.f k (ints l) (x : Int) = some (l.contains x) := by
  unfold spec_HasSet.f
  have key : ∀ (d i k : Nat), i + d = l.length → d < k → spec_HasSet.l0 k (ints l) (x : Int) (i : Int) = some ((l.drop i).contains x) := by
    intro d
    induction d with
    | zero =>
      intro i k hi hk
      obtain ⟨k, rfl⟩ : ∃ m, k = m + 1 := ⟨k - 1, by omega⟩
      simp only [spec_HasSet.l0]
      rw [if_neg (by rw [ints_length]; omega), List.drop_of_length_le (by omega)]
      rfl
    | succ d ih =>
      intro i k hi hk
      obtain ⟨k, rfl⟩ : ∃ m, k = m + 1 := ⟨k - 1, by omega⟩
      have hlt : i < l.length := by omega
      simp only [spec_HasSet.l0]
      rw [if_pos (by rw [ints_length]; omega), if_pos (by omega), ints_rd, Gen.w64s i (by omega)]
      have hd : l.drop i = l.getD i 0 :: l.drop (i + 1) := by
        rw [List.drop_eq_getElem_cons hlt]
        simp [List.getD, hlt]
      rw [hd, List.contains_cons]
      by_cases h : l.getD i 0 = x
      · rw [if_pos (by omega), ← h, beq_self_eq_true, Bool.true_or]
      · rw [if_neg (by omega), ih (i + 1) k (by omega) (by omega), beq_eq_false_iff_ne.2 (Ne.symm h), Bool.false_or]
  have := key l.length 0 k (by omega) hk
  rw [List.drop_zero] at this
  exact this
theorem implElem (s : Nat) (j : Nat) (hs : s < 256) (hj : j < 8) : impl_HasElement.f (s : Int) (j : Int) = some (s.testBit j) := by
  unfold impl_HasElement.f impl_isAny.f
  rw [if_pos (by omega)]
  simp only [Option.bind_some]
  rw [if_pos (decide_eq_true (by omega)), if_pos (by omega), if_pos (by omega), if_pos (by omega), shr_bit s j (by omega) (by omega)]
theorem foldl_elems (s : Nat) : ((List.range' 0 8).foldl (fun (acc : List Int) (j : Nat) => if s.testBit j = true then acc ++ [(j : Int)] else acc) []) = ints (elems s) := by
  rw [Gen.foldl_append (fun j => s.testBit j)]
  rfl
theorem implElements (s : Nat) (hs : s < 256) : Ev (fun k => impl_ElementsOf.f k (s : Int)) (ints (elems s)) := by
  unfold impl_ElementsOf.f
  refine Gen.ev_loop (fun k s3 i => impl_ElementsOf.l0 k (s : Int) s3 i) 8 (fun j s3 => if s.testBit j = true then s3 ++ [(j : Int)] else s3) (fun i s3 => s3.length ≤ i) _ (fun i s3 hi hP => ⟨?_, fun h => Ev.step (fun k => ?_) h⟩) 8 0 [] rfl (by simp) (fun _ => Gen.ev_at 1 (fun k hk => ?_))
  · by_cases hh : s.testBit i = true
    · rw [if_pos hh]; simp; omega
    · rw [if_neg hh]; omega
  · simp only [impl_ElementsOf.l0]
    rw [if_pos (by omega), implElem s i hs hi]
    simp only [Option.bind_some]
    rw [Gen.w64s i (by omega)]
    by_cases hh : s.testBit i = true
    · rw [if_pos hh, if_pos (by omega), if_pos hh]
    · rw [if_neg hh, if_neg hh]
  · obtain ⟨m, rfl⟩ : ∃ m, k = m + 1 := ⟨k - 1, by omega⟩
    simp only [impl_ElementsOf.l0]
    rw [if_neg (by omega), foldl_elems]
end Go.Proofs.Ytaepaekagenfnaa.Mat
end
section
namespace Go.Proofs.Ytaepaekagenfnaa.Mat
open Go.RowKit Go.Proofs.Ytaepaekagenfnaa.Pr Go.Proofs.Ytaepaekagenfnaa.Sets Go.Proofs.YtaepaekagenfnaaW.PrintWords Go.Proofs.YtaepaekagenfnaaW.PrintLast Go.Proofs.YtaepaekagenfnaaW.PrintMore
set_option linter.unusedVariables false
theorem indexFunc (g : Int → Option Bool) (fs : List Nat) (v : Nat → Bool) (hn : fs.length ≤ 1048576) (hg : ∀ f ∈ fs, g (f : Int) = some (v f)) :
    ∀ (d i k : Nat), i + d = fs.length → d < k → ∃ r, slices_IndexFunc_int_int.l0 g k (ints fs) (i : Int) = some r ∧ decide (r ≥ 0) = (fs.drop i).any v := by
  intro d
  induction d with
  | zero =>
    intro i k hi hk
    obtain ⟨k, rfl⟩ : ∃ m, k = m + 1 := ⟨k - 1, by omega⟩
    refine ⟨-1, ?_, ?_⟩
    · simp only [slices_IndexFunc_int_int.l0]
      rw [if_neg (by rw [ints_length]; omega)]
    · rw [List.drop_of_length_le (by omega)]
      rfl
  | succ d ih =>
    intro i k hi hk
    obtain ⟨k, rfl⟩ : ∃ m, k = m + 1 := ⟨k - 1, by omega⟩
    have hlt : i < fs.length := by omega
    simp only [slices_IndexFunc_int_int.l0]
    rw [if_pos (by rw [ints_length]; omega), if_pos (by omega), ints_rd, hg _ (getD_mem fs 0 i hlt), Gen.w64s i (by omega)]
    simp only [Option.bind_some]
    have hd : fs.drop i = fs.getD i 0 :: fs.drop (i + 1) := by
      rw [List.drop_eq_getElem_cons hlt]
      simp [List.getD, hlt]
    rw [hd, List.any_cons]
    cases hv : v (fs.getD i 0) with
    | true => exact ⟨i, by rw [if_pos rfl], by rw [decide_eq_true (by omega), Bool.true_or]⟩
    | false =>
      obtain ⟨r, h1, h2⟩ := ih (i + 1) k (by omega) (by omega)
      exact ⟨r, by rw [if_neg (by decide)]; exact h1, by rw [h2, Bool.false_or]⟩
theorem containsFunc (g : Int → Option Bool) (fs : List Nat) (v : Nat → Bool) (hn : fs.length ≤ 1048576) (hg : ∀ f ∈ fs, g (f : Int) = some (v f)) (k : Nat) (hk : fs.length < k) :
    slices_ContainsFunc_int_int.f k (ints fs) g = some (fs.any v) := by
  unfold slices_ContainsFunc_int_int.f slices_IndexFunc_int_int.f
  obtain ⟨r, h1, h2⟩ := indexFunc g fs v hn hg fs.length 0 k (by omega) hk
  rw [show (0 : Int) = ((0 : Nat) : Int) from rfl, h1]
  simp only [Option.bind_some]
  rw [show ((0 : Nat) : Int) = (0 : Int) from rfl, h2, List.drop_zero]
theorem swapImpl (l : List Nat) (a e f : Nat) (hn : l.length ≤ 1048576) (ha : a < 256) (he : e < 8) (hf : f < 8) (hae : a.testBit e = true) (haf : a.testBit f = false) (k : Nat) (hk : l.length < k) :
    impl_FirstFailure_1.f k (ints l) (a : Int) (e : Int) (f : Int) = some (l.contains (a - 2 ^ e + 2 ^ f)) := by
  unfold impl_FirstFailure_1.f
  have h1 : (2 : Nat) ^ e < 2 ^ 62 := Nat.pow_lt_pow_right (by decide) (by omega)
  have h2 : (2 : Nat) ^ f < 2 ^ 62 := Nat.pow_lt_pow_right (by decide) (by omega)
  have h3 : diff a (2 ^ e) < 2 ^ 8 := diff_lt (n := 8) (by omega)
  rw [if_pos (by omega), if_pos (by omega), shl_nat e (by omega), shl_nat f (by omega), andNot_nat a _ (by omega), or_nat _ _ (by omega) h2, swap_eq a ha e he f hf hae haf]
  exact implHas l _ hn k hk
theorem exch_elems (l : List Nat) (a b e : Nat) : exch l a b e = (elems (diff b a)).any fun f => l.contains (a - 2 ^ e + 2 ^ f) := by
  rw [elems_any]
  unfold exch
  congr 1
  funext f
  rw [diff_bit]
theorem fails_elems (l : List Nat) : fails l = l.any fun a => l.any fun b => (elems (diff a b)).any fun e => !exch l a b e := by
  unfold fails
  congr 1
  funext a
  congr 1
  funext b
  rw [elems_any]
  congr 1
  funext e
  rw [diff_bit]
theorem implFirst (m : Nat) (hm : m ≤ 8) (l : List Nat) (hl : ∀ s ∈ l, s < 2 ^ m) (hn : l.length ≤ 1048576) (hf : fam (m : Int) (ints l) = true) :
    ∃ x y z, Ev (fun k => impl_FirstFailure.f k (m : Int) (ints l)) (x, y, z, fails l) := by
  have h256 := pow_le_256 hm
  have hlt : ∀ i, i < l.length → l.getD i 0 < 256 := fun i hi => Nat.lt_of_lt_of_le (hl _ (getD_mem l 0 i hi)) h256
  have inner : ∀ x y : Nat, x < l.length → y < l.length → ∀ d i : Nat, i + d = (elems (diff (l.getD x 0) (l.getD y 0))).length → _ := fun x y hx hy =>
    ev_search (fun k z => impl_FirstFailure.l2 k (m : Int) (ints l) (x : Int) ((l.getD x 0 : Nat) : Int) (y : Int) ((l.getD y 0 : Nat) : Int) (ints (elems (diff (l.getD x 0) (l.getD y 0)))) z) (elems (diff (l.getD x 0) (l.getD y 0))).length
      (fun z => !exch l (l.getD x 0) (l.getD y 0) ((elems (diff (l.getD x 0) (l.getD y 0))).getD z 0)) (fun r => r.2.2.2 = true)
      (by
        intro z hz hp
        have ha := hlt x hx
        have hb := hlt y hy
        obtain ⟨he, hbit⟩ := elems_lt (getD_mem _ 0 z hz)
        rw [diff_bit, Bool.and_eq_true] at hbit
        have hl8 := elems_length (diff (l.getD x 0) (l.getD y 0))
        have hd : diff (l.getD y 0) (l.getD x 0) < 2 ^ 8 := diff_lt (n := 8) (by omega)
        refine ⟨(((l.getD x 0 : Nat) : Int), ((l.getD y 0 : Nat) : Int), (((elems (diff (l.getD x 0) (l.getD y 0))).getD z 0 : Nat) : Int), true), rfl, ?_⟩
        refine Ev.step (f := fun k => (impl_ElementsOf.f k (Go.bits .andNot .i64 ((l.getD y 0 : Nat) : Int) ((l.getD x 0 : Nat) : Int))).bind fun fs => ((slices_ContainsFunc_int_int.f k fs (fun f => impl_FirstFailure_1.f k (ints l) ((l.getD x 0 : Nat) : Int) (((elems (diff (l.getD x 0) (l.getD y 0))).getD z 0 : Nat) : Int) f)).bind fun t => (if t = true then (impl_FirstFailure.l2 k (m : Int) (ints l) (x : Int) ((l.getD x 0 : Nat) : Int) (y : Int) ((l.getD y 0 : Nat) : Int) (ints (elems (diff (l.getD x 0) (l.getD y 0)))) ((z + 1 : Nat) : Int)) else (some (((l.getD x 0 : Nat) : Int), ((l.getD y 0 : Nat) : Int), (((elems (diff (l.getD x 0) (l.getD y 0))).getD z 0 : Nat) : Int), true))))) (fun k => ?_) ?_
        · simp only [impl_FirstFailure.l2]
          rw [if_pos (by rw [ints_length]; omega), if_pos (by omega), ints_rd, Gen.w64s z (by omega)]
        · rw [andNot_nat _ _ (by omega)]
          refine Ev.bind (implElements _ (by omega)) ?_
          refine Ev.bind (a := exch l (l.getD x 0) (l.getD y 0) ((elems (diff (l.getD x 0) (l.getD y 0))).getD z 0)) (Gen.ev_at (1048577 + 8) (fun k hk => ?_)) ?_
          · rw [exch_elems]
            refine containsFunc _ _ _ (by have := elems_length (diff (l.getD y 0) (l.getD x 0)); omega) (fun f hf => ?_) k (by have := elems_length (diff (l.getD y 0) (l.getD x 0)); omega)
            obtain ⟨hf8, hfb⟩ := elems_lt hf
            rw [diff_bit, Bool.and_eq_true] at hfb
            exact swapImpl l _ _ _ hn ha he hf8 hbit.1 (by simpa using hfb.2) k (by omega)
          · have hp' : exch l (l.getD x 0) (l.getD y 0) ((elems (diff (l.getD x 0) (l.getD y 0))).getD z 0) = false := by simpa using hp
            rw [hp']
            exact Ev.now _)
      (by
        intro z hz hp r hr
        have ha := hlt x hx
        have hb := hlt y hy
        obtain ⟨he, hbit⟩ := elems_lt (getD_mem _ 0 z hz)
        rw [diff_bit, Bool.and_eq_true] at hbit
        have hl8 := elems_length (diff (l.getD x 0) (l.getD y 0))
        have hd : diff (l.getD y 0) (l.getD x 0) < 2 ^ 8 := diff_lt (n := 8) (by omega)
        refine Ev.step (f := fun k => (impl_ElementsOf.f k (Go.bits .andNot .i64 ((l.getD y 0 : Nat) : Int) ((l.getD x 0 : Nat) : Int))).bind fun fs => ((slices_ContainsFunc_int_int.f k fs (fun f => impl_FirstFailure_1.f k (ints l) ((l.getD x 0 : Nat) : Int) (((elems (diff (l.getD x 0) (l.getD y 0))).getD z 0 : Nat) : Int) f)).bind fun t => (if t = true then (impl_FirstFailure.l2 k (m : Int) (ints l) (x : Int) ((l.getD x 0 : Nat) : Int) (y : Int) ((l.getD y 0 : Nat) : Int) (ints (elems (diff (l.getD x 0) (l.getD y 0)))) ((z + 1 : Nat) : Int)) else (some (((l.getD x 0 : Nat) : Int), ((l.getD y 0 : Nat) : Int), (((elems (diff (l.getD x 0) (l.getD y 0))).getD z 0 : Nat) : Int), true))))) (fun k => ?_) ?_
        · simp only [impl_FirstFailure.l2]
          rw [if_pos (by rw [ints_length]; omega), if_pos (by omega), ints_rd, Gen.w64s z (by omega)]
        · rw [andNot_nat _ _ (by omega)]
          refine Ev.bind (implElements _ (by omega)) ?_
          refine Ev.bind (a := exch l (l.getD x 0) (l.getD y 0) ((elems (diff (l.getD x 0) (l.getD y 0))).getD z 0)) (Gen.ev_at (1048577 + 8) (fun k hk => ?_)) ?_
          · rw [exch_elems]
            refine containsFunc _ _ _ (by have := elems_length (diff (l.getD y 0) (l.getD x 0)); omega) (fun f hf => ?_) k (by have := elems_length (diff (l.getD y 0) (l.getD x 0)); omega)
            obtain ⟨hf8, hfb⟩ := elems_lt hf
            rw [diff_bit, Bool.and_eq_true] at hfb
            exact swapImpl l _ _ _ hn ha he hf8 hbit.1 (by simpa using hfb.2) k (by omega)
          · have hp' : exch l (l.getD x 0) (l.getD y 0) ((elems (diff (l.getD x 0) (l.getD y 0))).getD z 0) = true := by simpa using hp
            rw [hp']
            simp only [if_true]
            exact hr)
  have innerAny : ∀ x y : Nat, ((List.range' 0 (elems (diff (l.getD x 0) (l.getD y 0))).length).any fun z => !exch l (l.getD x 0) (l.getD y 0) ((elems (diff (l.getD x 0) (l.getD y 0))).getD z 0)) = (elems (diff (l.getD x 0) (l.getD y 0))).any fun e => !exch l (l.getD x 0) (l.getD y 0) e := fun x y => any_index (elems (diff (l.getD x 0) (l.getD y 0))) 0 (fun e => !exch l (l.getD x 0) (l.getD y 0) e)
  have middle : ∀ x : Nat, x < l.length → ∀ d i : Nat, i + d = l.length → _ := fun x hx =>
    ev_search (fun k y => impl_FirstFailure.l1 k (m : Int) (ints l) (x : Int) ((l.getD x 0 : Nat) : Int) y) l.length
      (fun y => (elems (diff (l.getD x 0) (l.getD y 0))).any fun e => !exch l (l.getD x 0) (l.getD y 0) e) (fun r => r.2.2.2 = true)
      (by
        intro y hy hp
        have ha := hlt x hx
        obtain ⟨h1, _⟩ := inner x y hx hy (elems (diff (l.getD x 0) (l.getD y 0))).length 0 (by omega)
        rw [innerAny] at h1
        obtain ⟨r, hr, hE⟩ := h1 hp
        refine ⟨r, hr, Ev.step (f := fun k => (impl_ElementsOf.f k (Go.bits .andNot .i64 ((l.getD x 0 : Nat) : Int) ((l.getD y 0 : Nat) : Int))).bind fun es => (impl_FirstFailure.l2 k (m : Int) (ints l) (x : Int) ((l.getD x 0 : Nat) : Int) (y : Int) ((l.getD y 0 : Nat) : Int) es 0)) (fun k => ?_) ?_⟩
        · simp only [impl_FirstFailure.l1]
          rw [if_pos (by rw [ints_length]; omega), if_pos (by omega), ints_rd]
        · rw [andNot_nat _ _ (by omega)]
          have hd : diff (l.getD x 0) (l.getD y 0) < 2 ^ 8 := diff_lt (n := 8) (by omega)
          exact Ev.bind (implElements _ (by omega)) hE)
      (by
        intro y hy hp r hr
        have ha := hlt x hx
        obtain ⟨_, h2⟩ := inner x y hx hy (elems (diff (l.getD x 0) (l.getD y 0))).length 0 (by omega)
        rw [innerAny] at h2
        refine Ev.step (f := fun k => (impl_ElementsOf.f k (Go.bits .andNot .i64 ((l.getD x 0 : Nat) : Int) ((l.getD y 0 : Nat) : Int))).bind fun es => (impl_FirstFailure.l2 k (m : Int) (ints l) (x : Int) ((l.getD x 0 : Nat) : Int) (y : Int) ((l.getD y 0 : Nat) : Int) es 0)) (fun k => ?_) ?_
        · simp only [impl_FirstFailure.l1]
          rw [if_pos (by rw [ints_length]; omega), if_pos (by omega), ints_rd]
        · rw [andNot_nat _ _ (by omega)]
          have hd : diff (l.getD x 0) (l.getD y 0) < 2 ^ 8 := diff_lt (n := 8) (by omega)
          refine Ev.bind (implElements _ (by omega)) (h2 hp r (Ev.step (fun k => ?_) hr))
          simp only [impl_FirstFailure.l2]
          rw [if_neg (by rw [ints_length]; omega), Gen.w64s y (by omega)])
  have middleAny : ∀ x : Nat, ((List.range' 0 l.length).any fun y => (elems (diff (l.getD x 0) (l.getD y 0))).any fun e => !exch l (l.getD x 0) (l.getD y 0) e) = l.any fun b => (elems (diff (l.getD x 0) b)).any fun e => !exch l (l.getD x 0) b e := fun x => any_index l 0 (fun b => (elems (diff (l.getD x 0) b)).any fun e => !exch l (l.getD x 0) b e)
  obtain ⟨o1, o2⟩ := ev_search (fun k x => impl_FirstFailure.l0 k (m : Int) (ints l) x) l.length
      (fun x => l.any fun b => (elems (diff (l.getD x 0) b)).any fun e => !exch l (l.getD x 0) b e) (fun r => r.2.2.2 = true)
      (by
        intro x hx hp
        obtain ⟨h1, _⟩ := middle x hx l.length 0 (by omega)
        rw [middleAny] at h1
        obtain ⟨r, hr, hE⟩ := h1 hp
        refine ⟨r, hr, Ev.step (fun k => ?_) hE⟩
        simp only [impl_FirstFailure.l0]
        rw [if_pos (by rw [ints_length]; omega), if_pos (by omega), ints_rd]
        rfl)
      (by
        intro x hx hp r hr
        obtain ⟨_, h2⟩ := middle x hx l.length 0 (by omega)
        rw [middleAny] at h2
        have h3 := h2 hp r (Ev.step (fun k => by
          simp only [impl_FirstFailure.l1]
          rw [if_neg (by rw [ints_length]; omega), Gen.w64s x (by omega)]) hr)
        refine Ev.step (fun k => ?_) h3
        simp only [impl_FirstFailure.l0]
        rw [if_pos (by rw [ints_length]; omega), if_pos (by omega), ints_rd]
        rfl) l.length 0 (by omega)
  have outerAny : ((List.range' 0 l.length).any fun x => l.any fun b => (elems (diff (l.getD x 0) b)).any fun e => !exch l (l.getD x 0) b e) = fails l := by
    rw [fails_elems]
    exact any_index l 0 (fun a => l.any fun b => (elems (diff a b)).any fun e => !exch l a b e)
  rw [outerAny] at o1 o2
  have start : ∀ r, Ev (fun k => impl_FirstFailure.l0 k (m : Int) (ints l) 0) r → Ev (fun k => impl_FirstFailure.f k (m : Int) (ints l)) r := fun r hr => by
    unfold impl_FirstFailure.f
    refine Ev.bind (Gen.ev_at (l.length + 1) (fun k hk => implFamily (m : Int) (ints l) (by rw [ints_length]; exact hn) k (by rw [ints_length]; omega))) ?_
    rw [hf]
    simp only [if_true]
    exact hr
  cases hfl : fails l with
  | true =>
    obtain ⟨⟨x, y, z, b⟩, hb, hE⟩ := o1 hfl
    simp only at hb
    subst hb
    exact ⟨x, y, z, start _ hE⟩
  | false =>
    refine ⟨0, 0, 0, start _ (o2 hfl _ (Gen.ev_at 1 (fun k hk => ?_)))⟩
    obtain ⟨q, rfl⟩ : ∃ q, k = q + 1 := ⟨k - 1, by omega⟩
    simp only [impl_FirstFailure.l0]
    rw [if_neg (by rw [ints_length]; omega)]
end Go.Proofs.Ytaepaekagenfnaa.Mat
end
section
namespace Go.Proofs.Ytaepaekagenfnaa.Mat
open Go.RowKit Go.Proofs.Ytaepaekagenfnaa.Pr Go.Proofs.Ytaepaekagenfnaa.Sets Go.Proofs.YtaepaekagenfnaaW.PrintWords Go.Proofs.YtaepaekagenfnaaW.PrintLast Go.Proofs.YtaepaekagenfnaaW.PrintMore
set_option linter.unusedVariables false
theorem u64_small (e : Nat) (he : e < 62) : IntKind.u64.wrap (e : Int) = e := by
  unfold IntKind.wrap
  simp only [IntKind.bits, IntKind.signed, Bool.false_and, Bool.false_eq_true, if_false]
  omega
theorem l2Has (s e : Nat) (hs : s < 256) (he : e < 8) : spec_l2Has.f (s : Int) (e : Int) = some (s.testBit e) := by
  unfold spec_l2Has.f
  rw [u64_small e (by omega), if_pos (by omega), shr_bit s e (by omega) (by omega)]
theorem specExchange (m : Nat) (hm : m ≤ 8) (l : List Nat) (hn : l.length ≤ 1048576) (a b e : Nat) (ha : a < 256) (hb : b < 2 ^ m) (he : e < 8) (hae : a.testBit e = true) : Ev (fun k => spec_l4Exchange.f k (m : Int) (ints l) (a : Int) (b : Int) (e : Int)) (exch l a b e) := by
  have h256 := pow_le_256 hm
  unfold spec_l4Exchange.f
  have hle := bit_le a ha e he hae
  have key : ∀ f : Nat, f < m → a.testBit f = false → wrap64 ((wrap64 ((a : Int) - ((2 ^ e : Nat) : Int))) + ((2 ^ f : Nat) : Int)) = ((a - 2 ^ e + 2 ^ f : Nat) : Int) := fun f hf haf => by
    have h1 := swap_le a ha e he f (by omega) hae haf
    have h2 : 2 ^ f ≤ 256 := pow_le_256 (by omega)
    clear hae
    generalize (2 : Nat) ^ e = P at *
    generalize (2 : Nat) ^ f = Q at *
    rw [Gen.w64 (i := (a : Int) - (P : Int)) (by omega) (by omega), Gen.w64 (by omega) (by omega)]
    omega
  obtain ⟨o1, o2⟩ := ev_search (fun k f => spec_l4Exchange.l0 k (a : Int) (b : Int) (e : Int) f (m : Int) (ints l)) m (fun f => b.testBit f && !a.testBit f && l.contains (a - 2 ^ e + 2 ^ f)) (fun r => r = true)
    (by
      intro f hf hp
      rw [Bool.and_eq_true, Bool.and_eq_true] at hp
      obtain ⟨⟨h1, h2⟩, h3⟩ := hp
      have h2' : a.testBit f = false := by simpa using h2
      refine ⟨true, rfl, Gen.ev_at (l.length + 2) (fun k hk => ?_)⟩
      obtain ⟨q, rfl⟩ : ∃ q, k = q + 1 := ⟨k - 1, by omega⟩
      simp only [spec_l4Exchange.l0]
      rw [if_pos (by omega), l2Has b f (by omega) (by omega), h1]
      simp only [Option.bind_some, if_true]
      rw [l2Has a f ha (by omega), h2']
      simp only [Option.bind_some, Bool.false_eq_true, if_false]
      rw [u64_small e (by omega), u64_small f (by omega), if_pos (by omega), if_pos (by omega), shl_nat e (by omega), shl_nat f (by omega), key f hf h2', specHas l _ hn q (by omega), h3]
      rfl)
    (by
      intro f hf hp r hr
      by_cases h1 : b.testBit f = true
      · by_cases h2 : a.testBit f = true
        · refine Ev.step (fun k => ?_) hr
          simp only [spec_l4Exchange.l0]
          rw [if_pos (by omega), l2Has b f (by omega) (by omega), h1]
          simp only [Option.bind_some, if_true]
          rw [l2Has a f ha (by omega), h2]
          simp only [Option.bind_some, if_true]
          rw [Gen.w64s f (by omega)]
        · have h2' : a.testBit f = false := by simpa using h2
          have h3 : l.contains (a - 2 ^ e + 2 ^ f) = false := by
            rw [h1, h2'] at hp
            simpa using hp
          refine Ev.step (f := fun k => (spec_HasSet.f k (ints l) ((a - 2 ^ e + 2 ^ f : Nat) : Int)).bind fun t => (if t = true then (some true) else (spec_l4Exchange.l0 k (a : Int) (b : Int) (e : Int) ((f + 1 : Nat) : Int) (m : Int) (ints l)))) (fun k => ?_) ?_
          · simp only [spec_l4Exchange.l0]
            rw [if_pos (by omega), l2Has b f (by omega) (by omega), h1]
            simp only [Option.bind_some, if_true]
            rw [l2Has a f ha (by omega), h2']
            simp only [Option.bind_some, Bool.false_eq_true, if_false]
            rw [u64_small e (by omega), u64_small f (by omega), if_pos (by omega), if_pos (by omega), shl_nat e (by omega), shl_nat f (by omega), key f hf h2', Gen.w64s f (by omega)]
          · refine Ev.bind (Gen.ev_at (l.length + 1) (fun k hk => specHas l _ hn k (by omega))) ?_
            rw [h3]
            exact hr
      · have h1' : b.testBit f = false := by simpa using h1
        refine Ev.step (fun k => ?_) hr
        simp only [spec_l4Exchange.l0]
        rw [if_pos (by omega), l2Has b f (by omega) (by omega), h1']
        simp only [Option.bind_some, Bool.false_eq_true, if_false]
        rw [Gen.w64s f (by omega)]) m 0 (by omega)
  have e8 : ((List.range' 0 m).any fun f => b.testBit f && !a.testBit f && l.contains (a - 2 ^ e + 2 ^ f)) = exch l a b e := range8 m hm _ (fun j hj => by rw [bit_far hb hj]; rfl)
  rw [e8] at o1 o2
  cases hx : exch l a b e with
  | true =>
    obtain ⟨r, rfl, hE⟩ := o1 hx
    exact hE
  | false =>
    refine o2 hx _ (Gen.ev_at 1 (fun k hk => ?_))
    obtain ⟨q, rfl⟩ : ∃ q, k = q + 1 := ⟨k - 1, by omega⟩
    simp only [spec_l4Exchange.l0]
    rw [if_neg (by omega)]
theorem specFirst (m : Nat) (hm : m ≤ 8) (l : List Nat) (hl : ∀ s ∈ l, s < 2 ^ m) (hn : l.length ≤ 1048576) (hf : fam (m : Int) (ints l) = true) :
    ∃ x y z, Ev (fun k => spec_FirstFailure.f k (m : Int) (ints l)) (x, y, z, fails l) := by
  have h256 := pow_le_256 hm
  have hlt : ∀ i, i < l.length → l.getD i 0 < 256 := fun i hi => Nat.lt_of_lt_of_le (hl _ (getD_mem l 0 i hi)) h256
  have hltm : ∀ i, i < l.length → l.getD i 0 < 2 ^ m := fun i hi => hl _ (getD_mem l 0 i hi)
  have round : ∀ x y z : Nat, x < l.length → y < l.length → z < m → ∀ r, (((l.getD x 0).testBit z && !(l.getD y 0).testBit z && !exch l (l.getD x 0) (l.getD y 0) z) = true → r.2.2.2 = true → r = (((l.getD x 0 : Nat) : Int), ((l.getD y 0 : Nat) : Int), (z : Int), true) → Ev (fun k => spec_FirstFailure.l2 k (x : Int) (y : Int) (z : Int) (m : Int) (ints l)) r) ∧
      (((l.getD x 0).testBit z && !(l.getD y 0).testBit z && !exch l (l.getD x 0) (l.getD y 0) z) = false → Ev (fun k => spec_FirstFailure.l2 k (x : Int) (y : Int) ((z + 1 : Nat) : Int) (m : Int) (ints l)) r → Ev (fun k => spec_FirstFailure.l2 k (x : Int) (y : Int) (z : Int) (m : Int) (ints l)) r) := by
    intro x y z hx hy hz r
    have ha := hlt x hx
    have hb := hlt y hy
    have unf : ∀ k, spec_FirstFailure.l2 (k + 1) (x : Int) (y : Int) (z : Int) (m : Int) (ints l) = (if (l.getD x 0).testBit z = true then (if (l.getD y 0).testBit z = true then spec_FirstFailure.l2 k (x : Int) (y : Int) ((z + 1 : Nat) : Int) (m : Int) (ints l) else ((spec_l4Exchange.f k (m : Int) (ints l) ((l.getD x 0 : Nat) : Int) ((l.getD y 0 : Nat) : Int) (z : Int)).bind fun t => (if t = true then spec_FirstFailure.l2 k (x : Int) (y : Int) ((z + 1 : Nat) : Int) (m : Int) (ints l) else some (((l.getD x 0 : Nat) : Int), ((l.getD y 0 : Nat) : Int), (z : Int), true)))) else spec_FirstFailure.l2 k (x : Int) (y : Int) ((z + 1 : Nat) : Int) (m : Int) (ints l)) := fun k => by
      simp only [spec_FirstFailure.l2]
      rw [if_pos (by omega), if_pos (by omega), if_pos (by rw [ints_length]; omega), if_pos (by omega), if_pos (by rw [ints_length]; omega), ints_rd, ints_rd, l2Has _ z ha (by omega)]
      simp only [Option.bind_some]
      rw [l2Has _ z hb (by omega)]
      simp only [Option.bind_some]
      rw [Gen.w64s z (by omega)]
    cases h1 : (l.getD x 0).testBit z with
    | false =>
      refine ⟨fun h => by simp at h, fun _ hr => Ev.step (fun k => ?_) hr⟩
      rw [unf, h1, if_neg (by decide)]
    | true =>
      cases h2 : (l.getD y 0).testBit z with
      | true =>
        refine ⟨fun h => by simp at h, fun _ hr => Ev.step (fun k => ?_) hr⟩
        rw [unf, h1, h2, if_pos rfl, if_pos rfl]
      | false =>
        have hE := specExchange m hm l hn (l.getD x 0) (l.getD y 0) z ha (hltm y hy) (by omega) h1
        cases h3 : exch l (l.getD x 0) (l.getD y 0) z with
        | true =>
          rw [h3] at hE
          refine ⟨fun h => by simp at h, fun _ hr => Ev.step (fun k => ?_) (Ev.bind hE (f := fun k t => (if t = true then spec_FirstFailure.l2 k (x : Int) (y : Int) ((z + 1 : Nat) : Int) (m : Int) (ints l) else some (((l.getD x 0 : Nat) : Int), ((l.getD y 0 : Nat) : Int), (z : Int), true))) (by simp only [if_true]; exact hr))⟩
          rw [unf, h1, h2, if_pos rfl, if_neg (by decide)]
        | false =>
          rw [h3] at hE
          refine ⟨fun _ _ e => ?_, fun h => by simp at h⟩
          subst e
          refine Ev.step (fun k => ?_) (Ev.bind hE (f := fun k t => (if t = true then spec_FirstFailure.l2 k (x : Int) (y : Int) ((z + 1 : Nat) : Int) (m : Int) (ints l) else some (((l.getD x 0 : Nat) : Int), ((l.getD y 0 : Nat) : Int), (z : Int), true))) (by simp only [Bool.false_eq_true, if_false]; exact Ev.now _))
          rw [unf, h1, h2, if_pos rfl, if_neg (by decide)]
  have inner : ∀ x y : Nat, x < l.length → y < l.length → ∀ d i : Nat, i + d = m → _ := fun x y hx hy =>
    ev_search (fun k z => spec_FirstFailure.l2 k (x : Int) (y : Int) z (m : Int) (ints l)) m
      (fun z => (l.getD x 0).testBit z && !(l.getD y 0).testBit z && !exch l (l.getD x 0) (l.getD y 0) z) (fun r => r.2.2.2 = true)
      (fun z hz hp => ⟨_, rfl, (round x y z hx hy hz (((l.getD x 0 : Nat) : Int), ((l.getD y 0 : Nat) : Int), (z : Int), true)).1 hp rfl rfl⟩)
      (fun z hz hp r hr => (round x y z hx hy hz r).2 hp hr)
  have innerAny : ∀ x y : Nat, x < l.length → ((List.range' 0 m).any fun z => (l.getD x 0).testBit z && !(l.getD y 0).testBit z && !exch l (l.getD x 0) (l.getD y 0) z) = (List.range' 0 8).any fun e => (l.getD x 0).testBit e && !(l.getD y 0).testBit e && !exch l (l.getD x 0) (l.getD y 0) e := fun x y hx => range8 m hm _ (fun j hj => by rw [bit_far (hltm x hx) hj]; rfl)
  have middle : ∀ x : Nat, x < l.length → ∀ d i : Nat, i + d = l.length → _ := fun x hx =>
    ev_search (fun k y => spec_FirstFailure.l1 k (x : Int) y (m : Int) (ints l)) l.length
      (fun y => (List.range' 0 8).any fun e => (l.getD x 0).testBit e && !(l.getD y 0).testBit e && !exch l (l.getD x 0) (l.getD y 0) e) (fun r => r.2.2.2 = true)
      (by
        intro y hy hp
        obtain ⟨h1, _⟩ := inner x y hx hy m 0 (by omega)
        rw [innerAny x y hx] at h1
        obtain ⟨r, hr, hE⟩ := h1 hp
        refine ⟨r, hr, Ev.step (fun k => ?_) hE⟩
        simp only [spec_FirstFailure.l1]
        rw [if_pos (by rw [ints_length]; omega)]
        rfl)
      (by
        intro y hy hp r hr
        obtain ⟨_, h2⟩ := inner x y hx hy m 0 (by omega)
        rw [innerAny x y hx] at h2
        refine Ev.step (fun k => ?_) (h2 hp r (Ev.step (fun k => by
          simp only [spec_FirstFailure.l2]
          rw [if_neg (by omega), Gen.w64s y (by omega)]) hr))
        simp only [spec_FirstFailure.l1]
        rw [if_pos (by rw [ints_length]; omega)]
        rfl)
  have middleAny : ∀ x : Nat, ((List.range' 0 l.length).any fun y => (List.range' 0 8).any fun e => (l.getD x 0).testBit e && !(l.getD y 0).testBit e && !exch l (l.getD x 0) (l.getD y 0) e) = l.any fun b => (List.range' 0 8).any fun e => (l.getD x 0).testBit e && !b.testBit e && !exch l (l.getD x 0) b e := fun x => any_index l 0 (fun b => (List.range' 0 8).any fun e => (l.getD x 0).testBit e && !b.testBit e && !exch l (l.getD x 0) b e)
  obtain ⟨o1, o2⟩ := ev_search (fun k x => spec_FirstFailure.l0 k x (m : Int) (ints l)) l.length
      (fun x => l.any fun b => (List.range' 0 8).any fun e => (l.getD x 0).testBit e && !b.testBit e && !exch l (l.getD x 0) b e) (fun r => r.2.2.2 = true)
      (by
        intro x hx hp
        obtain ⟨h1, _⟩ := middle x hx l.length 0 (by omega)
        rw [middleAny] at h1
        obtain ⟨r, hr, hE⟩ := h1 hp
        refine ⟨r, hr, Ev.step (fun k => ?_) hE⟩
        simp only [spec_FirstFailure.l0]
        rw [if_pos (by rw [ints_length]; omega)]
        rfl)
      (by
        intro x hx hp r hr
        obtain ⟨_, h2⟩ := middle x hx l.length 0 (by omega)
        rw [middleAny] at h2
        refine Ev.step (fun k => ?_) (h2 hp r (Ev.step (fun k => by
          simp only [spec_FirstFailure.l1]
          rw [if_neg (by rw [ints_length]; omega), Gen.w64s x (by omega)]) hr))
        simp only [spec_FirstFailure.l0]
        rw [if_pos (by rw [ints_length]; omega)]
        rfl) l.length 0 (by omega)
  have outerAny : ((List.range' 0 l.length).any fun x => l.any fun b => (List.range' 0 8).any fun e => (l.getD x 0).testBit e && !b.testBit e && !exch l (l.getD x 0) b e) = fails l := by
    unfold fails
    exact any_index l 0 (fun a => l.any fun b => (List.range' 0 8).any fun e => a.testBit e && !b.testBit e && !exch l a b e)
  rw [outerAny] at o1 o2
  have start : ∀ r, Ev (fun k => spec_FirstFailure.l0 k 0 (m : Int) (ints l)) r → Ev (fun k => spec_FirstFailure.f k (m : Int) (ints l)) r := fun r hr => by
    unfold spec_FirstFailure.f
    refine Ev.bind (Gen.ev_at (l.length + 1) (fun k hk => specFamily (m : Int) (ints l) (by rw [ints_length]; exact hn) k (by rw [ints_length]; omega))) ?_
    rw [hf]
    simp only [if_true]
    exact hr
  cases hfl : fails l with
  | true =>
    obtain ⟨⟨x, y, z, b⟩, hb, hE⟩ := o1 hfl
    simp only at hb
    subst hb
    exact ⟨x, y, z, start _ hE⟩
  | false =>
    refine ⟨0, 0, 0, start _ (o2 hfl _ (Gen.ev_at 1 (fun k hk => ?_)))⟩
    obtain ⟨q, rfl⟩ : ∃ q, k = q + 1 := ⟨k - 1, by omega⟩
    simp only [spec_FirstFailure.l0]
    rw [if_neg (by rw [ints_length]; omega)]
def isMat (n : Int) (l : List Int) : Bool := fam n l && decide (0 < l.length) && !fails (l.map Int.toNat)
theorem toNat_ints (l : List Nat) : (ints l).map Int.toNat = l := by
  unfold ints
  rw [List.map_map]
  conv => rhs; rw [← List.map_id l]
  exact List.map_congr_left fun x _ => by simp
theorem implMat (n : Int) (l : List Int) (hn : l.length ≤ 1048576) : Ev (fun k => impl_IsMatroid.f k n l) (isMat n l) := by
  unfold impl_IsMatroid.f isMat
  have hF : Ev (fun k => impl_IsFamily.f k n l) (fam n l) := Gen.ev_at (l.length + 1) (fun k hk => implFamily n l hn k (by omega))
  cases hf : fam n l with
  | false =>
    rw [hf] at hF
    refine Ev.bind (a := (0, 0, 0, false)) ?_ (Ev.bind hF (by simp only [Bool.false_eq_true, if_false]; exact Ev.now _))
    unfold impl_FirstFailure.f
    exact Ev.bind hF (by simp only [Bool.false_eq_true, if_false]; exact Ev.now _)
  | true =>
    rw [hf] at hF
    obtain ⟨m, lN, rfl, hm, rfl, hl⟩ := fam_nat hf
    rw [toNat_ints]
    rw [ints_length] at hn
    obtain ⟨x, y, z, hE⟩ := implFirst m hm lN hl hn hf
    refine Ev.bind hE (Ev.bind hF ?_)
    simp only [if_true, ints_length]
    by_cases h0 : 0 < lN.length
    · simp only [if_pos (show (lN.length : Int) > 0 by omega), decide_eq_true h0, Bool.true_and]
      exact Ev.now _
    · simp only [if_neg (show ¬ (lN.length : Int) > 0 by omega), decide_eq_false h0, Bool.true_and, Bool.false_and]
      exact Ev.now _
theorem specMat (n : Int) (l : List Int) (hn : l.length ≤ 1048576) : Ev (fun k => spec_IsMatroid.f k n l) (isMat n l) := by
  unfold spec_IsMatroid.f isMat
  have hF : Ev (fun k => spec_IsFamily.f k n l) (fam n l) := Gen.ev_at (l.length + 1) (fun k hk => specFamily n l hn k (by omega))
  cases hf : fam n l with
  | false =>
    rw [hf] at hF
    refine Ev.bind (a := (0, 0, 0, false)) ?_ (Ev.bind hF (by simp only [Bool.false_eq_true, if_false]; exact Ev.now _))
    unfold spec_FirstFailure.f
    exact Ev.bind hF (by simp only [Bool.false_eq_true, if_false]; exact Ev.now _)
  | true =>
    rw [hf] at hF
    obtain ⟨m, lN, rfl, hm, rfl, hl⟩ := fam_nat hf
    rw [toNat_ints]
    rw [ints_length] at hn
    obtain ⟨x, y, z, hE⟩ := specFirst m hm lN hl hn hf
    refine Ev.bind hE (Ev.bind hF ?_)
    simp only [if_true, ints_length]
    by_cases h0 : 0 < lN.length
    · simp only [if_pos (show (lN.length : Int) > 0 by omega), decide_eq_true h0, Bool.true_and]
      exact Ev.now _
    · simp only [if_neg (show ¬ (lN.length : Int) > 0 by omega), decide_eq_false h0, Bool.true_and, Bool.false_and]
      exact Ev.now _
end Go.Proofs.Ytaepaekagenfnaa.Mat
end
section
namespace Go.Proofs.Ytaepaekagenfnaa.Rank
open Go.RowKit Go.Proofs.Ytaepaekagenfnaa.Pr Go.Proofs.Ytaepaekagenfnaa.Sets Go.Proofs.Ytaepaekagenfnaa.Mat Go.Proofs.YtaepaekagenfnaaW.PrintWords Go.Proofs.YtaepaekagenfnaaW.PrintLast Go.Proofs.YtaepaekagenfnaaW.PrintMore
set_option linter.unusedVariables false
def cnt (s : Nat) : Nat := (elems s).length
set_option maxRecDepth 100000 in
theorem implCountB : ∀ s : Nat, s < 256 → impl_CountOf.f (s : Int) = some (cnt s : Int) := by decide +kernel
theorem implCount (s : Nat) (h : s < 256) : impl_CountOf.f (s : Int) = some (cnt s : Int) := implCountB s h
set_option maxRecDepth 100000 in
theorem specCountB : ∀ s : Nat, s < 256 → spec_CountOf.f 10 (s : Int) = some (cnt s : Int) := by decide +kernel
theorem specCount (s : Nat) (h : s < 256) (k : Nat) (hk : 10 ≤ k) : spec_CountOf.f k (s : Int) = some (cnt s : Int) := by
  induction k with
  | zero => omega
  | succ k ih =>
    by_cases e : 10 ≤ k
    · exact spec_CountOf.mono _ _ _ (ih e)
    · obtain rfl : k = 9 := by omega
      exact specCountB s h
theorem specCountE (s : Nat) (h : s < 256) : Ev (fun k => spec_CountOf.f k (s : Int)) (cnt s : Int) := Gen.ev_at 10 (fun k hk => specCount s h k hk)
def rank (l : List Nat) (s : Nat) : Nat := l.foldl (fun m b => max m (cnt (s &&& b))) 0
theorem foldl_index {σ : Type} (l : List Nat) (f : σ → Nat → σ) (s : σ) : (List.range' 0 l.length).foldl (fun s i => f s (l.getD i 0)) s = l.foldl f s := by
  have e : l = (List.range' 0 l.length).map fun i => l.getD i 0 := by
    rw [← List.range_eq_range', Gen.map_getD']
  conv => rhs; rw [e]
  rw [List.foldl_map]
theorem and_lt {a b n : Nat} (ha : a < 2 ^ n) : a &&& b < 2 ^ n := Nat.lt_of_le_of_lt Nat.and_le_left ha
theorem implRank (m : Nat) (l : List Nat) (s : Nat) (hs : s < 256) (hl : ∀ b ∈ l, b < 256) (hn : l.length ≤ 1048576) : Ev (fun k => impl_rankIn.f k (m : Int) (ints l) (s : Int)) (rank l s : Int) := by
  unfold impl_rankIn.f
  have e : rank l s = (List.range' 0 l.length).foldl (fun o i => max o (cnt (s &&& l.getD i 0))) 0 := (foldl_index l (fun o b => max o (cnt (s &&& b))) 0).symm
  rw [e]
  have key := Gen.ev_loop (fun k (o : Nat) i => impl_rankIn.l0 k (s : Int) (o : Int) (ints l) ((ints l).length : Int) i) l.length (fun i o => max o (cnt (s &&& l.getD i 0))) (fun _ _ => True) (((List.range' 0 l.length).foldl (fun o i => max o (cnt (s &&& l.getD i 0))) 0 : Nat) : Int) (fun i o hi _ => ⟨trivial, fun h => Ev.step (fun k => ?_) h⟩) l.length 0 0 (by omega) trivial (fun _ => Gen.ev_at 1 (fun k hk => ?_))
  · exact key
  · simp only [impl_rankIn.l0]
    have hb := hl _ (getD_mem l 0 i hi)
    rw [if_pos (by rw [ints_length]; omega), if_pos (by omega), if_pos (by rw [ints_length]; omega), ints_rd, and_nat s _ (by omega) (by omega), implCount _ (and_lt (n := 8) hs)]
    simp only [Option.bind_some]
    rw [Gen.w64s i (by omega)]
    congr 1
    unfold mx
    split <;> omega
  · obtain ⟨q, rfl⟩ : ∃ q, k = q + 1 := ⟨k - 1, by omega⟩
    simp only [impl_rankIn.l0]
    rw [if_neg (by rw [ints_length]; omega)]
theorem specRank (m : Nat) (l : List Nat) (s : Nat) (hs : s < 256) (hl : ∀ b ∈ l, b < 256) (hn : l.length ≤ 1048576) : Ev (fun k => spec_l5Rank.f k (m : Int) (ints l) (s : Int)) (rank l s : Int) := by
  unfold spec_l5Rank.f
  have e : rank l s = (List.range' 0 l.length).foldl (fun o i => max o (cnt (s &&& l.getD i 0))) 0 := (foldl_index l (fun o b => max o (cnt (s &&& b))) 0).symm
  rw [e]
  have key := Gen.ev_loop (fun k (o : Nat) i => spec_l5Rank.l0 k (s : Int) (o : Int) i (m : Int) (ints l)) l.length (fun i o => max o (cnt (s &&& l.getD i 0))) (fun _ _ => True) (((List.range' 0 l.length).foldl (fun o i => max o (cnt (s &&& l.getD i 0))) 0 : Nat) : Int) (fun i o hi _ => ⟨trivial, fun h => ?_⟩) l.length 0 0 (by omega) trivial (fun _ => Gen.ev_at 1 (fun k hk => ?_))
  · exact key
  · have hb := hl _ (getD_mem l 0 i hi)
    refine Ev.step (f := fun k => (spec_CountOf.f k (Go.bits .and .i64 (rd (ints l) (i : Int)) (s : Int))).bind fun t278 => ((spec_l1Max.f (o : Int) t278).bind fun t279 => (spec_l5Rank.l0 k (s : Int) t279 (wrap64 ((i : Int) + 1)) (m : Int) (ints l)))) (fun k => ?_) ?_
    · simp only [spec_l5Rank.l0]
      rw [if_pos (by rw [ints_length]; omega), if_pos (by omega)]
    · rw [ints_rd, and_nat _ s (by omega) (by omega), Nat.and_comm, Gen.w64s i (by omega)]
      refine Ev.bind (specCountE _ (and_lt (n := 8) hs)) ?_
      have hx : spec_l1Max.f (o : Int) (cnt (s &&& l.getD i 0) : Int) = some ((max o (cnt (s &&& l.getD i 0)) : Nat) : Int) := by
        unfold spec_l1Max.f
        split <;> · congr 1; omega
      rw [hx]
      exact h
  · obtain ⟨q, rfl⟩ : ∃ q, k = q + 1 := ⟨k - 1, by omega⟩
    simp only [spec_l5Rank.l0]
    rw [if_neg (by rw [ints_length]; omega)]
def clos (m : Nat) (l : List Nat) (s o : Nat) : Nat := (List.range' 0 m).foldl (fun o e => if rank l (s ||| 2 ^ e) = rank l s then o ||| 2 ^ e else o) o
theorem foldl_or (p : Nat → Bool) (q : List Nat) (o : Nat) (j : Nat) : (q.foldl (fun o e => if p e = true then o ||| 2 ^ e else o) o).testBit j = (o.testBit j || q.any fun e => p e && decide (e = j)) := by
  induction q generalizing o with
  | nil => simp
  | cons a q ih =>
    rw [List.foldl_cons, ih, List.any_cons]
    cases h : p a with
    | false => simp
    | true =>
      simp only [if_true, Nat.testBit_or, Nat.testBit_two_pow, Bool.true_and]
      rw [Bool.or_assoc]
theorem clos_bit (m : Nat) (l : List Nat) (s o j : Nat) : (clos m l s o).testBit j = (o.testBit j || (decide (j < m) && decide (rank l (s ||| 2 ^ j) = rank l s))) := by
  unfold clos
  have := foldl_or (fun e => decide (rank l (s ||| 2 ^ e) = rank l s)) (List.range' 0 m) o j
  simp only [decide_eq_true_eq] at this
  rw [this]
  congr 1
  rw [Bool.eq_iff_iff]
  simp only [List.any_eq_true, List.mem_range'_1, Bool.and_eq_true, decide_eq_true_eq]
  constructor
  · rintro ⟨x, h1, h2, rfl⟩
    exact ⟨by omega, h2⟩
  · rintro ⟨h1, h2⟩
    exact ⟨j, by omega, h2, rfl⟩
theorem or_bit {s j : Nat} (h : s.testBit j = true) : s ||| 2 ^ j = s := by
  apply Nat.eq_of_testBit_eq
  intro i
  rw [Nat.testBit_or, Nat.testBit_two_pow]
  by_cases e : j = i
  · subst e; rw [h]; rfl
  · rw [decide_eq_false e, Bool.or_false]
theorem clos_same (m : Nat) (l : List Nat) (s : Nat) (hs : s < 2 ^ m) : clos m l s s = clos m l s 0 := by
  apply Nat.eq_of_testBit_eq
  intro j
  rw [clos_bit, clos_bit, Nat.zero_testBit, Bool.false_or]
  cases h : s.testBit j with
  | false => rfl
  | true =>
    have hj : j < m := by
      refine Nat.lt_of_not_le fun hle => ?_
      rw [bit_far hs hle] at h
      exact Bool.noConfusion h
    rw [or_bit h, decide_eq_true hj, decide_eq_true rfl]
    rfl
theorem or_lt {a b n : Nat} (ha : a < 2 ^ n) (hb : b < 2 ^ n) : a ||| b < 2 ^ n := Nat.or_lt_two_pow ha hb
theorem pow_lt {e m : Nat} (h : e < m) : 2 ^ e < 2 ^ m := Nat.pow_lt_pow_right (by decide) h
theorem implClos (m : Nat) (hm : m ≤ 8) (l : List Nat) (s : Nat) (hs : s < 2 ^ m) (hl : ∀ b ∈ l, b < 256) (hn : l.length ≤ 1048576) : Ev (fun k => impl_closure.f k (m : Int) (ints l) (s : Int)) (clos m l s 0 : Int) := by
  have h256 := pow_le_256 hm
  unfold impl_closure.f
  refine Ev.bind (implRank m l s (by omega) hl hn) ?_
  refine Gen.ev_loop (fun k (o : Nat) i => impl_closure.l0 k (s : Int) (rank l s : Int) (o : Int) i (m : Int) (ints l)) m (fun e o => if rank l (s ||| 2 ^ e) = rank l s then o ||| 2 ^ e else o) (fun _ o => o < 2 ^ m) (clos m l s 0 : Int) (fun i o hi ho => ⟨?_, fun h => ?_⟩) m 0 0 (by omega) (by exact Nat.pow_pos (by decide)) (fun _ => Gen.ev_at 1 (fun k hk => ?_))
  · show (if _ then _ else _) < _
    split
    · exact or_lt ho (pow_lt hi)
    · exact ho
  · have hp := pow_lt hi
    refine Ev.step (f := fun k => (impl_rankIn.f k (m : Int) (ints l) ((s ||| 2 ^ i : Nat) : Int)).bind fun t => (if t = (rank l s : Int) then (impl_closure.l0 k (s : Int) (rank l s : Int) ((o ||| 2 ^ i : Nat) : Int) ((i + 1 : Nat) : Int) (m : Int) (ints l)) else (impl_closure.l0 k (s : Int) (rank l s : Int) (o : Int) ((i + 1 : Nat) : Int) (m : Int) (ints l)))) (fun k => ?_) ?_
    · simp only [impl_closure.l0]
      rw [if_pos (by omega), if_pos (by omega), shl_nat i (by omega), or_nat s _ (by omega) (by omega), or_nat o _ (by omega) (by omega), Gen.w64s i (by omega)]
    · refine Ev.bind (implRank m l _ (by have := or_lt hs hp; omega) hl hn) ?_
      by_cases e : rank l (s ||| 2 ^ i) = rank l s
      · rw [if_pos e] at h
        simp only [e, if_true]
        exact h
      · rw [if_neg e] at h
        simp only [if_neg (show ¬ ((rank l (s ||| 2 ^ i) : Nat) : Int) = (rank l s : Int) by omega)]
        exact h
  · obtain ⟨q, rfl⟩ : ∃ q, k = q + 1 := ⟨k - 1, by omega⟩
    simp only [impl_closure.l0]
    rw [if_neg (by omega)]
    rfl
theorem u64_nat (m : Nat) (h : m < 2 ^ 62) : IntKind.u64.wrap (m : Int) = m := by
  rw [IntKind.wrap_u64]
  omega
theorem specClos (m : Nat) (hm : m ≤ 8) (l : List Nat) (s : Nat) (hs : s < 2 ^ m) (hl : ∀ b ∈ l, b < 256) (hn : l.length ≤ 1048576) : Ev (fun k => spec_l5Closure.f k (m : Int) (ints l) (s : Int)) (clos m l s 0 : Int) := by
  have h256 := pow_le_256 hm
  rw [← clos_same m l s hs]
  unfold spec_l5Closure.f
  refine Ev.bind (specRank m l s (by omega) hl hn) ?_
  refine Gen.ev_loop (fun k (o : Nat) i => spec_l5Closure.l0 k (s : Int) (o : Int) (rank l s : Int) i (m : Int) (ints l)) m (fun e o => if rank l (s ||| 2 ^ e) = rank l s then o ||| 2 ^ e else o) (fun _ o => o < 2 ^ m) (clos m l s s : Int) (fun i o hi ho => ⟨?_, fun h => ?_⟩) m 0 s (by omega) hs (fun _ => Gen.ev_at 1 (fun k hk => ?_))
  · show (if _ then _ else _) < _
    split
    · exact or_lt ho (pow_lt hi)
    · exact ho
  · have hp := pow_lt hi
    refine Ev.step (f := fun k => (spec_l5Rank.f k (m : Int) (ints l) ((s ||| 2 ^ i : Nat) : Int)).bind fun t => (if t = (rank l s : Int) then (spec_l5Closure.l0 k (s : Int) ((o ||| 2 ^ i : Nat) : Int) (rank l s : Int) ((i + 1 : Nat) : Int) (m : Int) (ints l)) else (spec_l5Closure.l0 k (s : Int) (o : Int) (rank l s : Int) ((i + 1 : Nat) : Int) (m : Int) (ints l)))) (fun k => ?_) ?_
    · simp only [spec_l5Closure.l0]
      rw [u64_nat i (by omega), if_pos (by omega), if_pos (by omega), shl_nat i (by omega), or_nat s _ (by omega) (by omega), or_nat o _ (by omega) (by omega), Gen.w64s i (by omega)]
    · refine Ev.bind (specRank m l _ (by have := or_lt hs hp; omega) hl hn) ?_
      by_cases e : rank l (s ||| 2 ^ i) = rank l s
      · rw [if_pos e] at h
        simp only [e, if_true]
        exact h
      · rw [if_neg e] at h
        simp only [if_neg (show ¬ ((rank l (s ||| 2 ^ i) : Nat) : Int) = (rank l s : Int) by omega)]
        exact h
  · obtain ⟨q, rfl⟩ : ∃ q, k = q + 1 := ⟨k - 1, by omega⟩
    simp only [spec_l5Closure.l0]
    rw [if_neg (by omega)]
    rfl
end Go.Proofs.Ytaepaekagenfnaa.Rank
end
section
namespace Go.Proofs.Ytaepaekagenfnaa.Flat
open Go.RowKit Go.Proofs.Ytaepaekagenfnaa.Pr Go.Proofs.Ytaepaekagenfnaa.Sets Go.Proofs.Ytaepaekagenfnaa.Mat Go.Proofs.Ytaepaekagenfnaa.Rank Go.Proofs.YtaepaekagenfnaaW.PrintWords Go.Proofs.YtaepaekagenfnaaW.PrintLast Go.Proofs.YtaepaekagenfnaaW.PrintMore
set_option linter.unusedVariables false
theorem any_search {γ : Type} (l : List Int) (x : Int) (L : Nat → Int → Option γ) (yes no : γ) (hn : l.length ≤ 1048576)
    (hstep : ∀ k i, i < l.length → L (k + 1) (i : Int) = if l.getD i 0 = x then some yes else L k ((i + 1 : Nat) : Int))
    (hend : ∀ k, L (k + 1) (l.length : Int) = some no) : Ev (fun k => L k 0) (if l.contains x = true then yes else no) := by
  have key : ∀ d i : Nat, i + d = l.length → Ev (fun k => L k (i : Int)) (if (l.drop i).contains x = true then yes else no) := by
    intro d
    induction d with
    | zero =>
      intro i hi
      obtain rfl : i = l.length := by omega
      rw [List.drop_length]
      refine Gen.ev_at 1 (fun k hk => ?_)
      obtain ⟨q, rfl⟩ : ∃ q, k = q + 1 := ⟨k - 1, by omega⟩
      rw [hend]
      rfl
    | succ d ih =>
      intro i hi
      have hlt : i < l.length := by omega
      have hd : l.drop i = l.getD i 0 :: l.drop (i + 1) := by
        rw [List.drop_eq_getElem_cons hlt]
        simp [List.getD, hlt]
      rw [hd, List.contains_cons]
      by_cases e : l.getD i 0 = x
      · refine Gen.ev_at 1 (fun k hk => ?_)
        obtain ⟨q, rfl⟩ : ∃ q, k = q + 1 := ⟨k - 1, by omega⟩
        rw [hstep q i hlt, if_pos e, e]
        simp
      · have e' : (x == l.getD i 0) = false := by
          rw [beq_eq_false_iff_ne]
          exact fun h => e h.symm
        rw [e', Bool.false_or]
        exact Ev.step (fun k => by rw [hstep k i hlt, if_neg e]) (ih (i + 1) (by omega))
  have := key l.length 0 (by omega)
  rw [List.drop_zero] at this
  exact this
theorem specHasI (l : List Int) (x : Int) (hn : l.length ≤ 1048576) : Ev (fun k => spec_HasSet.f k l x) (l.contains x) := by
  unfold spec_HasSet.f
  have := any_search l x (fun k i => spec_HasSet.l0 k l x i) true false hn (fun k i hi => by
    simp only [spec_HasSet.l0]
    rw [if_pos (by omega), if_pos (by omega), Gen.rd_nat, Gen.w64s i (by omega)]) (fun k => by
    simp only [spec_HasSet.l0]
    rw [if_neg (by omega)])
  cases h : l.contains x <;> rw [h] at this <;> exact this
theorem mat_nat {n : Int} {l : List Int} (h : isMat n l = true) : ∃ (m : Nat) (lN : List Nat), n = m ∧ m ≤ 8 ∧ l = ints lN ∧ (∀ s ∈ lN, s < 2 ^ m) ∧ 0 < lN.length ∧ fails lN = false := by
  unfold isMat at h
  rw [Bool.and_eq_true, Bool.and_eq_true, decide_eq_true_eq] at h
  obtain ⟨⟨h1, h2⟩, h3⟩ := h
  obtain ⟨m, lN, rfl, hm, rfl, hl⟩ := fam_nat h1
  rw [toNat_ints] at h3
  rw [ints_length] at h2
  exact ⟨m, lN, rfl, hm, rfl, hl, h2, by simpa using h3⟩
theorem isSet_nat {m : Nat} {s : Int} (h : isSet (m : Int) s = true) : ∃ x : Nat, s = x ∧ x < 2 ^ m := by
  unfold isSet at h
  rw [decide_eq_true_eq] at h
  obtain ⟨_, _, h1, h2⟩ := h
  rw [Int.toNat_natCast] at h2
  refine ⟨s.toNat, by omega, ?_⟩
  have : ((s.toNat : Nat) : Int) < ((2 ^ m : Nat) : Int) := by push_cast; omega
  exact_mod_cast this
theorem isSet_of {m : Nat} {x : Nat} (hm : m ≤ 8) (h : x < 2 ^ m) : isSet (m : Int) (x : Int) = true := by
  unfold isSet
  rw [decide_eq_true_eq, Int.toNat_natCast]
  refine ⟨by omega, by omega, by omega, ?_⟩
  exact_mod_cast h
def flats (m : Nat) (l : List Nat) : List Nat := (List.range' 0 (2 ^ m)).filter fun s => decide (clos m l s 0 = s)
theorem flats_length (m : Nat) (hm : m ≤ 8) (l : List Nat) : (flats m l).length ≤ 256 := by
  refine Nat.le_trans (List.length_filter_le _ _) ?_
  rw [List.length_range']
  exact pow_le_256 hm
theorem flats_lt {m : Nat} {l : List Nat} {s : Nat} (h : s ∈ flats m l) : s < 2 ^ m ∧ clos m l s 0 = s := by
  unfold flats at h
  obtain ⟨h1, h2⟩ := List.mem_filter.1 h
  have := List.mem_range'_1.1 h1
  exact ⟨by omega, by simpa using h2⟩
theorem flats_contains {m : Nat} (l : List Nat) {s : Nat} (h : s < 2 ^ m) : (flats m l).contains s = decide (clos m l s 0 = s) := by
  rw [Bool.eq_iff_iff]
  simp only [List.contains_eq_mem, decide_eq_true_eq]
  unfold flats
  rw [List.mem_filter]
  constructor
  · exact fun h => by simpa using h.2
  · exact fun h1 => ⟨List.mem_range'_1.2 (by omega), by simpa using h1⟩
theorem full_impl (m : Nat) (hm : m ≤ 8) : impl_FullSet.f (m : Int) = some ((2 ^ m - 1 : Nat) : Int) := by
  have : ∀ m : Nat, m < 9 → impl_FullSet.f (m : Int) = some ((2 ^ m - 1 : Nat) : Int) := by decide +kernel
  exact this m (by omega)
theorem full_spec (m : Nat) (hm : m ≤ 8) : spec_FullSet.f (m : Int) = some ((2 ^ m - 1 : Nat) : Int) := by
  have : ∀ m : Nat, m < 9 → spec_FullSet.f (m : Int) = some ((2 ^ m - 1 : Nat) : Int) := by decide +kernel
  exact this m (by omega)
theorem foldl_filter (p : Nat → Bool) (q : List Nat) : (q.foldl (fun (s : List Int) j => if p j = true then s ++ [(j : Int)] else s) []) = ints (q.filter p) := by
  rw [Gen.foldl_append, List.nil_append]
  rfl
theorem keep_loop (L : Nat → List Int → Int → Option (List Int)) (n : Nat) (p : Nat → Bool)
    (hround : ∀ i s, i < n → s.length ≤ i → ∀ r, Ev (fun k => L k (if p i = true then s ++ [(i : Int)] else s) ((i + 1 : Nat) : Int)) r → Ev (fun k => L k s (i : Int)) r)
    (hend : ∀ k s, L (k + 1) s (n : Int) = some s) : Ev (fun k => L k [] 0) (ints ((List.range' 0 n).filter p)) := by
  rw [← foldl_filter]
  refine Gen.ev_loop L n (fun i s => if p i = true then s ++ [(i : Int)] else s) (fun i s => s.length ≤ i) _ (fun i s hi hP => ⟨?_, hround i s hi hP _⟩) n 0 [] (by omega) (by simp) (fun _ => Gen.ev_at 1 (fun k hk => ?_))
  · show (if _ then _ else _ : List Int).length ≤ _
    split
    · simp; omega
    · omega
  · obtain ⟨q, rfl⟩ : ∃ q, k = q + 1 := ⟨k - 1, by omega⟩
    exact hend _ _
theorem specFlatsN (m : Nat) (hm : m ≤ 8) (l : List Nat) (hl : ∀ b ∈ l, b < 256) (hn : l.length ≤ 1048576) : Ev (fun k => spec_l7Flats.f k (m : Int) (ints l)) (ints (flats m l)) := by
  have h256 := pow_le_256 hm
  have hpos : 0 < 2 ^ m := Nat.pow_pos (by decide)
  unfold spec_l7Flats.f flats
  refine keep_loop (fun k s i => spec_l7Flats.l0 k s i (m : Int) (ints l)) (2 ^ m) (fun s => decide (clos m l s 0 = s)) (fun i s hi hs r h => ?_) (fun k s => ?_)
  · refine Ev.step (f := fun k => (spec_l5Closure.f k (m : Int) (ints l) (i : Int)).bind fun t => (if t = (i : Int) then (spec_l7Flats.l0 k (s ++ [(i : Int)]) ((i + 1 : Nat) : Int) (m : Int) (ints l)) else (spec_l7Flats.l0 k s ((i + 1 : Nat) : Int) (m : Int) (ints l)))) (fun k => ?_) ?_
    · simp only [spec_l7Flats.l0]
      rw [full_spec m hm]
      simp only [Option.bind_some]
      rw [if_pos (by omega), if_pos (by omega), Gen.w64s i (by omega)]
    · refine Ev.bind (specClos m hm l i hi hl hn) ?_
      by_cases e : clos m l i 0 = i
      · rw [decide_eq_true e] at h
        rw [e]
        simp only [if_true] at h ⊢
        exact h
      · rw [decide_eq_false e] at h
        simp only [if_neg (show ¬ ((clos m l i 0 : Nat) : Int) = (i : Int) by omega)]
        simpa using h
  · simp only [spec_l7Flats.l0]
    rw [full_spec m hm]
    simp only [Option.bind_some]
    rw [if_neg (by omega)]
theorem implSetsOf (m : Nat) (hm : m ≤ 8) (g : Nat → Int → Option Bool) (p : Nat → Bool) (hg : ∀ s : Nat, s < 2 ^ m → Ev (fun k => g k (s : Int)) (p s)) (hmono : ∀ k s, LeO (g k s) (g (k + 1) s)) : Ev (fun k => impl_setsOf.f k (m : Int) (g k)) (ints ((List.range' 0 (2 ^ m)).filter p)) := by
  have h256 := pow_le_256 hm
  have hpos : 0 < 2 ^ m := Nat.pow_pos (by decide)
  have hup : ∀ s : Int, ∀ a d r, g a s = some r → g (a + d) s = some r := by
    intro s a d r h
    induction d with
    | zero => exact h
    | succ d ih => exact hmono _ _ _ ih
  have all : ∀ n : Nat, n ≤ 2 ^ m → ∃ K, ∀ k, K ≤ k → ∀ s : Nat, s < n → g k (s : Int) = some (p s) := by
    intro n
    induction n with
    | zero => exact fun _ => ⟨0, fun k _ s hs => by omega⟩
    | succ n ih =>
      intro hn
      obtain ⟨K, hK⟩ := ih (by omega)
      obtain ⟨K', hK'⟩ := hg n (by omega)
      refine ⟨max K K', fun k hk s hs => ?_⟩
      by_cases e : s = n
      · subst e
        exact hK' k (by omega)
      · exact hK k (by omega) s (by omega)
  obtain ⟨K, hK⟩ := all (2 ^ m) (Nat.le_refl _)
  have fixed : ∀ k0, K ≤ k0 → Ev (fun k => impl_setsOf.l0 (g k0) k (m : Int) [] 0) (ints ((List.range' 0 (2 ^ m)).filter p)) := fun k0 hk0 => by
    refine keep_loop (fun k s i => impl_setsOf.l0 (g k0) k (m : Int) s i) (2 ^ m) p (fun i s hi hs r h => Ev.step (fun k => ?_) h) (fun k s => ?_)
    · simp only [impl_setsOf.l0]
      rw [full_impl m hm]
      simp only [Option.bind_some]
      rw [if_pos (by omega), hK k0 hk0 i hi]
      simp only [Option.bind_some]
      rw [Gen.w64s i (by omega)]
      cases p i with
      | false => rfl
      | true => rw [if_pos rfl, if_pos (by omega), if_pos rfl]
    · simp only [impl_setsOf.l0]
      rw [full_impl m hm]
      simp only [Option.bind_some]
      rw [if_neg (by omega)]
  have count : ∀ k0, K ≤ k0 → ∀ (d i : Nat) (s : List Int) (k : Nat), i + d = 2 ^ m → d < k → s.length ≤ i → impl_setsOf.l0 (g k0) k (m : Int) s (i : Int) = impl_setsOf.l0 (g K) k (m : Int) s (i : Int) ∧ ∀ e, impl_setsOf.l0 (g k0) (k + e) (m : Int) s (i : Int) = impl_setsOf.l0 (g k0) k (m : Int) s (i : Int) := by
    intro k0 hk0 d
    induction d with
    | zero =>
      intro i s k hi hk hs
      obtain rfl : i = 2 ^ m := by omega
      obtain ⟨k, rfl⟩ : ∃ q, k = q + 1 := ⟨k - 1, by omega⟩
      refine ⟨?_, fun e => ?_⟩
      · simp only [impl_setsOf.l0]
        rw [full_impl m hm]
        simp only [Option.bind_some]
        rw [if_neg (by omega), if_neg (by omega)]
      · rw [show k + 1 + e = (k + e) + 1 by omega]
        simp only [impl_setsOf.l0]
        rw [full_impl m hm]
        simp only [Option.bind_some]
        rw [if_neg (by omega), if_neg (by omega)]
    | succ d ih =>
      intro i s k hi hk hs
      obtain ⟨k, rfl⟩ : ∃ q, k = q + 1 := ⟨k - 1, by omega⟩
      obtain ⟨a1, a2⟩ := ih (i + 1) (s ++ [(i : Int)]) k (by omega) (by omega) (by simp; omega)
      obtain ⟨b1, b2⟩ := ih (i + 1) s k (by omega) (by omega) (by omega)
      refine ⟨?_, fun e => ?_⟩
      · simp only [impl_setsOf.l0]
        rw [full_impl m hm]
        simp only [Option.bind_some]
        simp only [if_pos (show (i : Int) ≤ ((2 ^ m - 1 : Nat) : Int) by omega), if_pos (show s.length < 17592186044416 by omega), hK k0 hk0 i (by omega), hK K (Nat.le_refl _) i (by omega), Gen.w64s i (by omega), Option.bind_some, a1, b1]
      · rw [show k + 1 + e = (k + e) + 1 by omega]
        simp only [impl_setsOf.l0]
        rw [full_impl m hm]
        simp only [Option.bind_some]
        simp only [if_pos (show (i : Int) ≤ ((2 ^ m - 1 : Nat) : Int) by omega), if_pos (show s.length < 17592186044416 by omega), hK k0 hk0 i (by omega), Gen.w64s i (by omega), Option.bind_some, a2, b2]
  obtain ⟨K2, hK2⟩ := fixed K (Nat.le_refl _)
  refine ⟨max (max K K2) (2 ^ m + 1), fun k hk => ?_⟩
  show impl_setsOf.l0 (g k) k (m : Int) [] ((0 : Nat) : Int) = _
  rw [(count k (by omega) (2 ^ m) 0 [] k (by omega) (by omega) (by simp)).1]
  exact hK2 k (by omega)
theorem implFlatsN (m : Nat) (hm : m ≤ 8) (l : List Nat) (hl : ∀ b ∈ l, b < 256) (hn : l.length ≤ 1048576) : Ev (fun k => impl_flatsIn.f k (m : Int) (ints l)) (ints (flats m l)) := by
  unfold impl_flatsIn.f flats
  refine implSetsOf m hm (fun k s => impl_flatsIn_1.f k (m : Int) (ints l) s) (fun s => decide (clos m l s 0 = s)) (fun s hs => ?_) (fun k s => impl_flatsIn_1.mono _ _ _ k)
  unfold impl_flatsIn_1.f
  refine Ev.bind (implClos m hm l s hs hl hn) ?_
  have : (((clos m l s 0 : Nat) : Int) == (s : Int)) = decide (clos m l s 0 = s) := by
    rw [Bool.eq_iff_iff]
    simp
    omega
  rw [this]
  exact Ev.now _
def isFlat (n : Int) (l : List Int) (s : Int) : Bool := isMat n l && isSet n s && decide (clos n.toNat (l.map Int.toNat) s.toNat 0 = s.toNat)
theorem implFlat (n : Int) (l : List Int) (s : Int) (hn : l.length ≤ 1048576) : Ev (fun k => impl_isFlat.f k n l s) (isFlat n l s) := by
  unfold impl_isFlat.f impl_knows.f isFlat
  cases h : isMat n l with
  | false =>
    have hM := implMat n l hn
    rw [h] at hM
    refine Ev.bind (a := false) (Ev.bind hM (by simp only [Bool.false_eq_true, if_false]; exact Ev.now _)) ?_
    simp only [Bool.false_eq_true, if_false, Bool.false_and]
    exact Ev.now _
  | true =>
    have hM := implMat n l hn
    rw [h] at hM
    cases h2 : isSet n s with
    | false =>
      refine Ev.bind (a := false) (Ev.bind hM (by simp only [if_true, implIsSet, h2]; exact Ev.now _)) ?_
      simp only [Bool.false_eq_true, if_false, Bool.false_and, Bool.and_false]
      exact Ev.now _
    | true =>
      refine Ev.bind (a := true) (Ev.bind hM (by simp only [if_true, implIsSet, h2]; exact Ev.now _)) ?_
      obtain ⟨m, lN, rfl, hm, rfl, hl, _, _⟩ := mat_nat h
      obtain ⟨x, rfl, hx⟩ := isSet_nat h2
      have h256 := pow_le_256 hm
      rw [ints_length] at hn
      simp only [if_true, Bool.true_and, toNat_ints, Int.toNat_natCast]
      refine Ev.bind (implClos m hm lN x hx (fun b hb => by have := hl b hb; omega) hn) ?_
      have : (((clos m lN x 0 : Nat) : Int) == (x : Int)) = decide (clos m lN x 0 = x) := by
        rw [Bool.eq_iff_iff]
        simp
        omega
      rw [this]
      exact Ev.now _
theorem specFlats (n : Int) (l : List Int) (hn : l.length ≤ 1048576) : Ev (fun k => spec_Flats.f k n l) (if isMat n l = true then ints (flats n.toNat (l.map Int.toNat)) else []) := by
  unfold spec_Flats.f
  refine Ev.bind (specMat n l hn) ?_
  cases h : isMat n l with
  | false =>
    simp only [Bool.false_eq_true, if_false]
    exact Ev.now _
  | true =>
    obtain ⟨m, lN, rfl, hm, rfl, hl, _, _⟩ := mat_nat h
    have h256 := pow_le_256 hm
    rw [ints_length] at hn
    simp only [if_true, toNat_ints, Int.toNat_natCast]
    exact Ev.bind (specFlatsN m hm lN (fun b hb => by have := hl b hb; omega) hn) (Ev.now _)
theorem flat_contains (n : Int) (l : List Int) (s : Int) : (if isMat n l = true then ints (flats n.toNat (l.map Int.toNat)) else []).contains s = isFlat n l s := by
  unfold isFlat
  cases h : isMat n l with
  | false => simp
  | true =>
    obtain ⟨m, lN, rfl, hm, rfl, hl, _, _⟩ := mat_nat h
    simp only [if_true, toNat_ints, Int.toNat_natCast, Bool.true_and]
    cases h2 : isSet (m : Int) s with
    | true =>
      obtain ⟨x, rfl, hx⟩ := isSet_nat h2
      rw [ints_contains, flats_contains lN hx]
      simp
    | false =>
      rw [Bool.false_and, ← Bool.not_eq_true]
      intro hc
      simp only [ints, List.contains_eq_mem, List.mem_map, decide_eq_true_eq] at hc
      obtain ⟨a, ha, rfl⟩ := hc
      rw [isSet_of hm (flats_lt ha).1] at h2
      exact Bool.noConfusion h2
theorem flatsI_length (n : Int) (l : List Int) : (if isMat n l = true then ints (flats n.toNat (l.map Int.toNat)) else []).length ≤ 256 := by
  cases h : isMat n l with
  | false => simp
  | true =>
    obtain ⟨m, lN, rfl, hm, rfl, hl, _, _⟩ := mat_nat h
    simp only [if_true, toNat_ints, Int.toNat_natCast, ints_length]
    exact flats_length m hm lN
end Go.Proofs.Ytaepaekagenfnaa.Flat
end
section
namespace Go.Proofs.Ytaepaekagenfnaa.Moeb
open Go.RowKit Go.Proofs.Ytaepaekagenfnaa.Pr Go.Proofs.Ytaepaekagenfnaa.Sets Go.Proofs.Ytaepaekagenfnaa.Mat Go.Proofs.Ytaepaekagenfnaa.Rank Go.Proofs.Ytaepaekagenfnaa.Flat Go.Proofs.YtaepaekagenfnaaW.PrintWords Go.Proofs.YtaepaekagenfnaaW.PrintLast Go.Proofs.YtaepaekagenfnaaW.PrintMore
set_option linter.unusedVariables false
def subs (t s : Nat) : Bool := decide (t &&& s = t)
theorem diff_zero (t s : Nat) : diff t s = 0 ↔ t &&& s = t := by
  constructor
  · intro h
    apply Nat.eq_of_testBit_eq
    intro i
    have := diff_bit t s i
    rw [h, Nat.zero_testBit] at this
    rw [Nat.testBit_and]
    cases h1 : t.testBit i <;> cases h2 : s.testBit i <;> simp_all
  · intro h
    apply Nat.eq_of_testBit_eq
    intro i
    rw [diff_bit, Nat.zero_testBit]
    have := congrArg (fun x => x.testBit i) h
    simp only [Nat.testBit_and] at this
    cases h1 : t.testBit i <;> cases h2 : s.testBit i <;> simp_all
theorem implSub (t s : Nat) (ht : t < 256) (hs : s < 256) : impl_IsSubset.f (t : Int) (s : Int) = some (subs t s) := by
  have ha : ∀ x : Nat, x < 256 → impl_isAny.f (x : Int) = some true := fun x hx => by
    unfold impl_isAny.f
    rw [if_pos (by omega), decide_eq_true (by omega)]
  unfold impl_IsSubset.f subs
  rw [ha t ht, ha s hs]
  simp only [Option.bind_some, if_true]
  rw [andNot_nat t s (by omega)]
  congr 1
  rw [Bool.eq_iff_iff, beq_iff_eq, decide_eq_true_eq, ← diff_zero]
  omega
def msum (q : List Nat) (v : List Int) (i : Nat) : Int := (List.range' 0 i).foldl (fun s k => if subs (q.getD k 0) (q.getD i 0) = true then wrap64 (s + v.getD k 0) else s) 0
def mu (q : List Nat) : Nat → List Int
  | 0 => []
  | i + 1 => mu q i ++ [wrap64 ((if i = 0 then 1 else 0) - msum q (mu q i) i)]
theorem mu_length (q : List Nat) (i : Nat) : (mu q i).length = i := by
  induction i with
  | zero => rfl
  | succ i ih => simp [mu, ih]
theorem specMoeb (n : Int) (l : List Int) (q : List Nat) (hq : q.length ≤ 256) (h256 : ∀ s ∈ q, s < 256) : Ev (fun k => spec_l25Moebius.f k n l (ints q)) (mu q q.length) := by
  unfold spec_l25Moebius.f
  have key : ∀ d i : Nat, i + d = q.length → Ev (fun k => spec_l25Moebius.l0 k (ints q) (mu q i) (i : Int)) (mu q q.length) := by
    intro d
    induction d with
    | zero =>
      intro i hi
      obtain rfl : i = q.length := by omega
      refine Gen.ev_at 1 (fun k hk => ?_)
      obtain ⟨m, rfl⟩ : ∃ m, k = m + 1 := ⟨k - 1, by omega⟩
      simp only [spec_l25Moebius.l0]
      rw [if_neg (by rw [ints_length]; omega)]
    | succ d ih =>
      intro i hi
      have hlen := mu_length q i
      refine Ev.step (f := fun k => spec_l25Moebius.l1 k (ints q) (mu q i) (i : Int) 0 0) (fun k => ?_) ?_
      · simp only [spec_l25Moebius.l0]
        rw [if_pos (by rw [ints_length]; omega)]
      · refine Gen.ev_loop (fun k (s : Int) j => spec_l25Moebius.l1 k (ints q) (mu q i) (i : Int) s j) i (fun j s => if subs (q.getD j 0) (q.getD i 0) = true then wrap64 (s + (mu q i).getD j 0) else s) (fun _ _ => True) _ (fun j s hj _ => ⟨trivial, fun h => Ev.step (fun k => ?_) h⟩) i 0 0 (by omega) trivial (fun _ => ?_)
        · have hb1 := h256 _ (getD_mem q 0 j (by omega))
          have hb2 := h256 _ (getD_mem q 0 i (by omega))
          have hc : (((q.getD j 0 &&& q.getD i 0 : Nat) : Int) = ((q.getD j 0 : Nat) : Int)) = (subs (q.getD j 0) (q.getD i 0) = true) := by
            unfold subs
            rw [decide_eq_true_eq]
            exact propext ⟨fun h => by exact_mod_cast h, fun h => by exact_mod_cast h⟩
          simp only [spec_l25Moebius.l1]
          rw [if_pos (by omega), if_pos (by omega), if_pos (by rw [ints_length]; omega), if_pos (by omega), if_pos (by rw [ints_length]; omega), ints_rd, ints_rd, and_nat _ _ (by omega) (by omega), Gen.rd_nat, Gen.w64s j (by omega)]
          simp only [hc, if_pos (show (j : Int) < ((mu q i).length : Int) by omega)]
          split <;> rfl
        · refine Ev.step (f := fun k => spec_l25Moebius.l0 k (ints q) (mu q (i + 1)) ((i + 1 : Nat) : Int)) (fun k => ?_) (ih (i + 1) (by omega))
          simp only [spec_l25Moebius.l1]
          rw [if_neg (by omega), Gen.w64s i (by omega)]
          have hbit : spec_l1Bit.f ((i : Int) == 0) = some (if i = 0 then 1 else 0) := by
            unfold spec_l1Bit.f
            by_cases h0 : i = 0
            · subst h0; rfl
            · rw [if_neg (by simpa using h0), if_neg h0]
          rw [hbit]
          simp only [Option.bind_some]
          rw [if_pos (by omega)]
          rfl
  exact key q.length 0 (by omega)
def pad (q : List Nat) (i : Nat) : List Int := mu q i ++ List.replicate (q.length - i) 0
theorem pad_length (q : List Nat) (i : Nat) (hi : i ≤ q.length) : (pad q i).length = q.length := by
  simp [pad, mu_length]
  omega
theorem pad_set (q : List Nat) (i : Nat) (hi : i < q.length) (x : Int) : (pad q i).set i x = mu q i ++ (x :: List.replicate (q.length - (i + 1)) 0) := by
  unfold pad
  rw [List.set_append_right i x (by rw [mu_length]; exact Nat.le_refl _), mu_length, Nat.sub_self, show q.length - i = (q.length - (i + 1)) + 1 by omega, List.replicate_succ]
  rfl
theorem implMoeb (m : Nat) (hm : m ≤ 8) (l : List Nat) (hl : ∀ b ∈ l, b < 256) (hn : l.length ≤ 1048576) : Ev (fun k => impl_moebius.f k (m : Int) (ints l)) (ints (flats m l), mu (flats m l) (flats m l).length) := by
  unfold impl_moebius.f
  refine Ev.bind (implFlatsN m hm l hl hn) ?_
  have hq := flats_length m hm l
  have h256 : ∀ s ∈ flats m l, s < 256 := fun s hs => by
    have := (flats_lt hs).1
    have := pow_le_256 hm
    omega
  generalize flats m l = q at *
  simp only [ints_length, Int.toNat_natCast, if_pos (show (0 : Int) ≤ (q.length : Int) by omega), if_pos (show q.length ≤ 35184372088832 by omega)]
  have key : ∀ d i : Nat, i + d = q.length → Ev (fun k => impl_moebius.l0 k (ints q) (pad q i) (ints q) (q.length : Int) (i : Int)) (ints q, mu q q.length) := by
    intro d
    induction d with
    | zero =>
      intro i hi
      obtain rfl : i = q.length := by omega
      refine Gen.ev_at 1 (fun k hk => ?_)
      obtain ⟨m, rfl⟩ : ∃ m, k = m + 1 := ⟨k - 1, by omega⟩
      simp only [impl_moebius.l0]
      rw [if_neg (by omega)]
      simp [pad]
    | succ d ih =>
      intro i hi
      have hlen := pad_length q i (by omega)
      have htake : ((ints q).take (i : Int).toNat).length = i := by
        rw [List.length_take, ints_length, Int.toNat_natCast]
        omega
      have htrd : ∀ j : Nat, j < i → rd ((ints q).take (i : Int).toNat) (j : Int) = ((q.getD j 0 : Nat) : Int) := fun j hj => by
        rw [← ints_rd, Gen.rd_nat, Gen.rd_nat, Int.toNat_natCast]
        simp [List.getD, hj]
      refine Ev.step (f := fun k => impl_moebius.l1 k (ints q) (pad q i) (i : Int) ((q.getD i 0 : Nat) : Int) 0 (ints q) (q.length : Int) (i : Int) ((ints q).take (i : Int).toNat) (i : Int) 0) (fun k => ?_) ?_
      · simp only [impl_moebius.l0]
        rw [if_pos (by omega), if_pos (by omega), if_pos (by rw [ints_length]; omega), if_pos (by rw [ints_length]; omega), ints_rd]
        simp only [Option.bind_some]
        rw [htake]
      · refine Gen.ev_loop (fun k (s : Int) j => impl_moebius.l1 k (ints q) (pad q i) (i : Int) ((q.getD i 0 : Nat) : Int) s (ints q) (q.length : Int) (i : Int) ((ints q).take (i : Int).toNat) (i : Int) j) i (fun j s => if subs (q.getD j 0) (q.getD i 0) = true then wrap64 (s + (mu q i).getD j 0) else s) (fun _ _ => True) _ (fun j s hj _ => ⟨trivial, fun h => Ev.step (fun k => ?_) h⟩) i 0 0 (by omega) trivial (fun _ => ?_)
        · have hb1 := h256 _ (getD_mem q 0 j (by omega))
          have hb2 := h256 _ (getD_mem q 0 i (by omega))
          have hp : rd (pad q i) (j : Int) = (mu q i).getD j 0 := by
            rw [Gen.rd_nat]
            unfold pad
            simp [List.getD, List.getElem?_append, mu_length, hj]
          simp only [impl_moebius.l1]
          rw [if_pos (by omega), if_pos (by omega), if_pos (by rw [htake]; omega), htrd j hj, implSub _ _ hb1 hb2, hp, Gen.w64s j (by omega)]
          simp only [Option.bind_some, if_pos (show (j : Int) < ((pad q i).length : Int) by omega)]
          split <;> rfl
        · refine Ev.step (f := fun k => impl_moebius.l0 k (ints q) (pad q (i + 1)) (ints q) (q.length : Int) ((i + 1 : Nat) : Int)) (fun k => ?_) (ih (i + 1) (by omega))
          have hS : (List.range' 0 i).foldl (fun (s : Int) j => if subs (q.getD j 0) (q.getD i 0) = true then wrap64 (s + (mu q i).getD j 0) else s) 0 = msum q (mu q i) i := rfl
          rw [hS]
          simp only [impl_moebius.l1]
          rw [if_neg (by omega), if_pos (by omega), if_pos (by omega), Gen.w64s i (by omega)]
          simp only [Option.bind_some, Int.toNat_natCast]
          by_cases h0 : i = 0
          · subst h0
            rw [if_pos (by rfl), List.set_set, pad_set q 0 (by omega)]
            have e : pad q (0 + 1) = mu q 0 ++ ((1 : Int) :: List.replicate (q.length - (0 + 1)) 0) := by
              unfold pad
              have e1 : wrap64 ((1 : Int) - msum q (mu q 0) 0) = 1 := by
                show wrap64 ((1 : Int) - 0) = 1
                exact Gen.w64 (by decide) (by decide)
              have e2 : mu q (0 + 1) = mu q 0 ++ [wrap64 ((if 0 = 0 then 1 else 0) - msum q (mu q 0) 0)] := rfl
              rw [e2, if_pos rfl, e1, List.append_assoc]
              rfl
            rw [e]
          · rw [if_neg (by omega), pad_set q i (by omega)]
            have e : pad q (i + 1) = mu q i ++ (wrap64 (-(msum q (mu q i) i)) :: List.replicate (q.length - (i + 1)) 0) := by
              unfold pad
              rw [mu, if_neg h0, Int.zero_sub, List.append_assoc]
              rfl
            rw [e]
  have := key q.length 0 (by omega)
  have e0 : pad q 0 = List.replicate q.length 0 := by simp [pad, mu]
  rw [e0] at this
  exact this
def look : List Int → List Int → Int → Int
  | [], _, _ => 0
  | a :: q, v, x => if a = x then v.headD 0 else look q v.tail x
theorem drop_cons (l : List Int) (i : Nat) (h : i < l.length) : l.drop i = l.getD i 0 :: l.drop (i + 1) := by
  rw [List.drop_eq_getElem_cons h]
  simp [List.getD, h]
theorem look_loop (q v : List Int) (x : Int) (hv : v.length = q.length) (L : Nat → Int → Option Int)
    (hstep : ∀ k i, i < q.length → L (k + 1) (i : Int) = if q.getD i 0 = x then some (v.getD i 0) else L k ((i + 1 : Nat) : Int))
    (hend : ∀ k, L (k + 1) (q.length : Int) = some 0) : Ev (fun k => L k 0) (look q v x) := by
  have key : ∀ d i : Nat, i + d = q.length → Ev (fun k => L k (i : Int)) (look (q.drop i) (v.drop i) x) := by
    intro d
    induction d with
    | zero =>
      intro i hi
      obtain rfl : i = q.length := by omega
      rw [List.drop_length]
      refine Gen.ev_at 1 (fun k hk => ?_)
      obtain ⟨m, rfl⟩ : ∃ m, k = m + 1 := ⟨k - 1, by omega⟩
      exact hend m
    | succ d ih =>
      intro i hi
      rw [drop_cons q i (by omega), drop_cons v i (by omega)]
      by_cases e : q.getD i 0 = x
      · refine Gen.ev_at 1 (fun k hk => ?_)
        obtain ⟨m, rfl⟩ : ∃ m, k = m + 1 := ⟨k - 1, by omega⟩
        rw [hstep m i (by omega), if_pos e]
        simp only [look]
        rw [if_pos e]
        rfl
      · refine Ev.step (fun k => by rw [hstep k i (by omega), if_neg e]) ?_
        simp only [look]
        rw [if_neg e]
        exact ih (i + 1) (by omega)
  have := key q.length 0 (by omega)
  rw [List.drop_zero, List.drop_zero] at this
  exact this
def moebI (n : Int) (l : List Int) (s : Int) : Int := if isFlat n l s = true then look (ints (flats n.toNat (l.map Int.toNat))) (mu (flats n.toNat (l.map Int.toNat)) (flats n.toNat (l.map Int.toNat)).length) s else 0
theorem flat_mat {n : Int} {l : List Int} {s : Int} (h : isFlat n l s = true) : isMat n l = true := by
  unfold isFlat at h
  simp only [Bool.and_eq_true] at h
  exact h.1.1
theorem implMoebOf (n : Int) (l : List Int) (s : Int) (hn : l.length ≤ 1048576) : Ev (fun k => impl_MoebiusOf.f k n l s) (moebI n l s) := by
  unfold impl_MoebiusOf.f moebI
  refine Ev.bind (implFlat n l s hn) ?_
  cases h : isFlat n l s with
  | false => simp only [Bool.false_eq_true, if_false]; exact Ev.now _
  | true =>
    obtain ⟨m, lN, rfl, hm, rfl, hl, _, _⟩ := mat_nat (flat_mat h)
    have h256 := pow_le_256 hm
    rw [ints_length] at hn
    simp only [if_true, toNat_ints, Int.toNat_natCast]
    refine Ev.bind (implMoeb m hm lN (fun b hb => by have := hl b hb; omega) hn) ?_
    have hq := flats_length m hm lN
    refine look_loop _ _ s (by rw [mu_length, ints_length]) (fun k i => impl_MoebiusOf.l0 k s (mu (flats m lN) (flats m lN).length) (ints (flats m lN)) ((ints (flats m lN)).length : Int) i) (fun k i hi => ?_) (fun k => ?_)
    · rw [ints_length] at hi
      simp only [impl_MoebiusOf.l0]
      rw [if_pos (by rw [ints_length]; omega), if_pos (by omega), if_pos (by rw [ints_length]; omega), Gen.rd_nat, Gen.rd_nat, Gen.w64s i (by omega)]
      simp only [if_pos (show (i : Int) < ((mu (flats m lN) (flats m lN).length).length : Int) by rw [mu_length]; omega)]
    · simp only [impl_MoebiusOf.l0]
      rw [if_neg (by omega)]
theorem specMoebOf (n : Int) (l : List Int) (s : Int) (hn : l.length ≤ 1048576) : Ev (fun k => spec_MoebiusOf.f k n l s) (moebI n l s) := by
  unfold spec_MoebiusOf.f moebI
  have hle := flatsI_length n l
  refine Ev.bind (specFlats n l hn) (Ev.bind (specHasI _ s (by omega)) ?_)
  rw [flat_contains]
  cases h : isFlat n l s with
  | false => simp only [Bool.false_eq_true, if_false]; exact Ev.now _
  | true =>
    rw [if_pos (flat_mat h)]
    obtain ⟨m, lN, rfl, hm, rfl, hl, _, _⟩ := mat_nat (flat_mat h)
    have h256 := pow_le_256 hm
    simp only [if_true, toNat_ints, Int.toNat_natCast]
    have hq := flats_length m hm lN
    refine Ev.bind (specMoeb (m : Int) (ints lN) (flats m lN) hq (fun x hx => by have := (flats_lt hx).1; omega)) ?_
    refine look_loop _ _ s (by rw [mu_length, ints_length]) (fun k i => spec_MoebiusOf.l0 k s (ints (flats m lN)) (mu (flats m lN) (flats m lN).length) i) (fun k i hi => ?_) (fun k => ?_)
    · rw [ints_length] at hi
      simp only [spec_MoebiusOf.l0]
      rw [if_pos (by rw [ints_length]; omega), if_pos (by omega), Gen.rd_nat, Gen.rd_nat, Gen.w64s i (by omega)]
      simp only [if_pos (show (i : Int) < ((mu (flats m lN) (flats m lN).length).length : Int) by rw [mu_length]; omega)]
    · simp only [spec_MoebiusOf.l0]
      rw [if_neg (by omega)]
end Go.Proofs.Ytaepaekagenfnaa.Moeb
end
section
namespace Go.Proofs.Ytaepaekagenfnaa.Pure
open Go.RowKit Go.Proofs.Ytaepaekagenfnaa.Pr Go.Proofs.Ytaepaekagenfnaa.Base Go.Proofs.Ytaepaekagenfnaa.Sets Go.Proofs.Ytaepaekagenfnaa.Mat Go.Proofs.Ytaepaekagenfnaa.Rank Go.Proofs.Ytaepaekagenfnaa.Flat Go.Proofs.Ytaepaekagenfnaa.Moeb Go.Proofs.YtaepaekagenfnaaW.PrintWords Go.Proofs.YtaepaekagenfnaaW.PrintLast Go.Proofs.YtaepaekagenfnaaW.PrintMore
set_option linter.unusedVariables false
theorem FnExactMoebiusOf (n : Int) (xs : List Int) (s : Int) (_ : (Lit.int .i64 n).wf = true) (hm : xs.length ≤ maxLen ∧ ∀ x ∈ xs, (Lit.int .i64 x).wf = true) (_ : (Lit.int .i64 s).wf = true) : ∃ k, laws_FnExactMoebiusOf.f k n xs s = some true := by
  obtain ⟨z, hz, h⟩ := szMatroid n xs 1048576 hm.1 (by decide) (by decide)
  refine Ev.rounds ?_
  unfold laws_FnExactMoebiusOf.f
  rw [hz]
  simp only [Option.bind_some]
  by_cases hneg : z < 0
  · simp only [if_pos hneg]
    exact Ev.now _
  · simp only [if_neg hneg]
    have hl : xs.length ≤ 1048576 := by rcases h with h | h <;> omega
    refine Ev.bind (toMatroid n xs hl) (Ev.bind (specMoebOf n xs s hl) (Ev.bind (toMatroid n xs hl) (Ev.bind (implMoebOf n xs s hl) ?_)))
    simp only [if_true]
    refine Ev.bind (toMatroid n xs hl) (Ev.bind (eqMatroid n xs hl) ?_)
    simp only [if_true]
    exact Ev.now _
end Go.Proofs.Ytaepaekagenfnaa.Pure
end
section
namespace Go.Proofs.Ytaepaekagenfnaa.Open
open Go.ChangeShapes Go.WideShapes Go.RowKit Go.Proofs.YtaepaekagenfnaaW.PrintWords Go.Deep
set_option linter.unusedVariables false
structure Opens {α : Type} (P : Program) (d : Kd α) (t : TypeId) (Wf : α → Prop) : Prop where
  go : ∀ (H : Type) (enc : TypeId × Value → H) (w : World) (base : Nat) (spare : Nat → Bool) (held : Bool) (fuel : Nat) (cs : List Value) (x : DataW H × List MemPlace),
    DataW.trod enc P w base spare held fuel t cs = some x → ∃ a, d.K w a cs ∧ Wf a
theorem Opens.int {P : Program} {t : TypeId} {k : IntKind} (ht : P.underlying t = some (.int k)) : Opens P (Kd.int k) t (fun n => (Lit.int k n).wf = true) := by
  refine ⟨fun H enc w base spare held fuel cs x h => ?_⟩
  obtain ⟨n, rfl, _, hw⟩ := DataW.trod_int ht h
  exact ⟨n, rfl, hw⟩
theorem Opens.bool {P : Program} {t : TypeId} (ht : P.underlying t = some .bool) : Opens P Kd.bool t (fun _ => True) := by
  refine ⟨fun H enc w base spare held fuel cs x h => ?_⟩
  obtain ⟨n, rfl, _⟩ := DataW.trod_bool ht h
  exact ⟨n, rfl, trivial⟩
theorem list_of {α : Type} {p : Nat → α → Prop} : ∀ {len : Nat}, (∀ i, i < len → ∃ y, p i y) → ∃ xs : List α, xs.length = len ∧ ∀ i y, xs[i]? = some y → p i y := by
  intro len
  induction len with
  | zero => exact fun _ => ⟨[], rfl, fun i y h => by simp at h⟩
  | succ len ih =>
    intro key
    obtain ⟨xs, hxl, hxs⟩ := ih (fun i hi => key i (by omega))
    obtain ⟨y, hy⟩ := key len (by omega)
    refine ⟨xs ++ [y], by simp [hxl], fun i z hz => ?_⟩
    by_cases hi : i < xs.length
    · rw [List.getElem?_append_left hi] at hz
      exact hxs i z hz
    · have hlt : i < (xs ++ [y]).length := (List.getElem?_eq_some_iff.1 hz).1
      have e : i = len := by simp [hxl] at hlt hi; omega
      subst e
      rw [List.getElem?_append_right (by omega), hxl] at hz
      simp at hz
      subst hz
      exact hy
theorem Opens.slice {α : Type} {P : Program} {t e : TypeId} {d : Kd α} {Wf : α → Prop} (ht : P.underlying t = some (.slice e)) (hs : P.cellsOf e = d.sz) (h : Opens P d e Wf) :
    Opens P (Kd.slice e d) t (fun xs => xs.length ≤ maxLen ∧ ∀ x ∈ xs, Wf x) := by
  refine ⟨fun H enc w base spare held fuel cs x hx => ?_⟩
  rcases open_slice ht hx with ⟨rfl, _⟩ | ⟨a, len, cap, m, n, D, Pl, rfl, hb, hl, hm, hmm, _, hel⟩
  · exact ⟨[], ⟨none, 0, rfl, Nat.le_refl _, rfl, by simp, fun h => absurd h (by simp)⟩, by simp, by simp⟩
  · have hlm : len ≤ m := by rw [hmm]; split <;> omega
    have key : ∀ i, i < len → ∃ y : α, (∃ cs', w.cells? base (a.add (i * P.cellsOf e)) (P.cellsOf e) = some cs' ∧ d.K w y cs') ∧ Wf y := fun i hi => by
      obtain ⟨cs', h1, h2⟩ := hel i (by omega)
      obtain ⟨y, h3, h4⟩ := h.go _ enc w base spare held n cs' _ h2
      exact ⟨y, ⟨cs', h1, h3⟩, h4⟩
    obtain ⟨xs, hxl, hxs⟩ := list_of key
    refine ⟨xs, ⟨some a, cap, by rw [hxl], by omega, rfl, by have := hm; unfold maxLen at this; omega, fun _ => ⟨a, rfl, fun j p hj => ?_⟩⟩, by omega, fun y hy => ?_⟩
    · obtain ⟨⟨cs', h1, h2⟩, _⟩ := hxs j p hj
      obtain ⟨_, h3, h4⟩ := World.cells?_some h1
      refine ⟨cs', by rw [h3, hs], h2, fun i u hu => ?_⟩
      have hlt : i < cs'.length := (List.getElem?_eq_some_iff.1 hu).1
      have := h4 i (by omega)
      rw [hs, Go.Deep.add_add] at this
      rw [this, hu]
    · obtain ⟨i, hi⟩ := List.getElem?_of_mem hy
      exact (hxs i y hi).2
structure OpensFs {α : Type} (P : Program) (fs : List Field) (off : Nat) (d : Kd α) (Wf : α → Prop) : Prop where
  go : ∀ (H : Type) (enc : TypeId × Value → H) (w : World) (base : Nat) (spare : Nat → Bool) (held : Bool) (n : Nat) (cs : List Value),
    cs.length = off + d.sz → (∀ f ∈ fs, ∃ x, DataW.trod enc P w base spare held n f.type ((cs.drop f.offset).take (P.cellsOf f.type)) = some x) → ∃ a, d.K w a (cs.drop off) ∧ Wf a
theorem OpensFs.one {α : Type} {P : Program} {f : Field} {off : Nat} {d : Kd α} {Wf : α → Prop} (ho : f.offset = off) (hs : P.cellsOf f.type = d.sz) (h : Opens P d f.type Wf) : OpensFs P [f] off d Wf := by
  refine ⟨fun H enc w base spare held n cs hl hf => ?_⟩
  obtain ⟨x, hx⟩ := hf f (by simp)
  rw [ho, hs, List.take_of_length_le (by rw [List.length_drop]; omega)] at hx
  exact h.go _ enc w base spare held n _ x hx
theorem OpensFs.cons {α β : Type} {P : Program} {f : Field} {fs : List Field} {off : Nat} {d : Kd α} {d' : Kd β} {Wf : α → Prop} {Wf' : β → Prop} (ho : f.offset = off) (hs : P.cellsOf f.type = d.sz) (h : Opens P d f.type Wf)
    (h' : OpensFs P fs (off + d.sz) d' Wf') : OpensFs P (f :: fs) off (Kd.pair d d') (fun x => Wf x.1 ∧ Wf' x.2) := by
  refine ⟨fun H enc w base spare held n cs hl hf => ?_⟩
  have hl' : cs.length = off + (d.sz + d'.sz) := hl
  obtain ⟨x, hx⟩ := hf f (by simp)
  rw [ho, hs] at hx
  obtain ⟨a, ha, wa⟩ := h.go _ enc w base spare held n _ x hx
  obtain ⟨b, hb, wb⟩ := h'.go _ enc w base spare held n cs (by omega) (fun g hg => hf g (by simp [hg]))
  refine ⟨(a, b), ⟨(cs.drop off).take d.sz, cs.drop (off + d.sz), ?_, ha, hb⟩, wa, wb⟩
  rw [← List.drop_drop, List.take_append_drop]
theorem Opens.struct {α : Type} {P : Program} {t : TypeId} {fs : Array Field} {d : Kd α} {Wf : α → Prop} (ht : P.underlying t = some (.struct fs)) (hs : P.cellsOf t = d.sz) (h : OpensFs P fs.toList 0 d Wf) : Opens P d t Wf := by
  refine ⟨fun H enc w base spare held fuel cs x hx => ?_⟩
  obtain ⟨xs, n, _, _, hl, hlen, hg⟩ := DataW.trod_struct ht hx
  obtain ⟨a, ha, wa⟩ := h.go _ enc w base spare held n cs (by omega) (fun f hf => by
    obtain ⟨i, hi⟩ := List.getElem?_of_mem hf
    have h1 := hg i f (by simpa using hi)
    have hlt : i < fs.size := by have := (List.getElem?_eq_some_iff.1 hi).1; simpa using this
    exact ⟨_, h1.trans (List.getElem?_eq_getElem (by omega))⟩)
  exact ⟨a, by simpa using ha, wa⟩
theorem Opens.argStruct {α : Type} {P : Program} {t : TypeId} {d : Kd α} {Wf : α → Prop} (h : Opens P d t Wf) {H : Type} {enc : TypeId × Value → H} {w : World} {base : Nat} {spare : Nat → Bool} {held : Bool} {v : Value} {x : DataW H} {ps : List MemPlace}
    (hv : ∃ cs, v = .agg cs ∧ cs.size = P.cellsOf t) (ht : DataW.Trod enc P w base spare held t v x ps) : ∃ cs a, v = .agg cs.toArray ∧ d.K w a cs ∧ Wf a := by
  obtain ⟨cs, rfl, _⟩ := hv
  obtain ⟨fuel, hf⟩ := ht
  obtain ⟨a, ha, wf⟩ := h.go _ enc w base spare held fuel _ _ hf
  exact ⟨cs.toList, a, by simp, ha, wf⟩
end Go.Proofs.Ytaepaekagenfnaa.Open
end
section
namespace Go.Proofs.Ytaepaekagenfnaa.fnExactMoebiusOf
open Go.ChangeShapes Go.WideShapes Go.ChangeAt Go.RowKit Go.Proofs.Ytaepaekagenfnaa.Open Go.Proofs.YtaepaekagenfnaaW.PrintWords
open Go.ChangeMaps (open_string shut_string)
set_option linter.unusedVariables false
theorem own : ownKnob Try.prog.godebug = none := by kernel_rfl
theorem laidOut : laidOutB Try.prog = true := by kernel_rfl
set_option maxRecDepth 100000 in
theorem lifted (os : Os) (started : os.Started) (H : Type) (enc : TypeId × Value → H) :
    ReturnsInHanded {} Try.checked os 9 .any (Rows.fnExactMoebiusOfSpec.pre6 enc Try.prog Try.f9 Rows.fnExactMoebiusOfRow.domain false) (Rows.fnExactMoebiusOfSpec.post enc Try.prog Try.f9 false true false false) := by
  refine returnsInHanded_of_change_sized (C := Try.checked) own started (by kernel_rfl) Try.func9
    (ChangeSpec.witness6 (enc := enc) (C := Try.checked) false ⟨#[], #[.agg #[.int .i64 0, .slice none 0 0], .int .i64 0], []⟩ 8 (by kernel_rfl) (by kernel_rfl) (by kernel_rfl) (by kernel_rfl)) ?_
  intro W base args ds gs before hval0 hW hcnd hsz0 _
  have hval : ∀ (j : Nat) t v, Try.f9.params[j]? = some t → args[j]? = some v → Value.okWide Try.prog W .any base t v := hval0
  have hW' := hW
  obtain ⟨p, q, hA0, hV, rfl, hfz, hnd⟩ := hW
  have hA : DataW.TrodAll enc Try.prog W 0 (fun _ => true) true Try.f9.params.toList args.toList ds p := hA0
  rw [Try.params9] at hA hval
  obtain ⟨v0, vs0, d0, ds0, p0, q0, hargs, rfl, rfl, h0, r0⟩ := trodAll_cons hA
  obtain ⟨v1, vs1, d1, ds1, p1, q1, rfl, rfl, rfl, h1, r1⟩ := trodAll_cons r0
  obtain ⟨rfl, rfl, rfl⟩ := trodAll_nil r1
  obtain rfl : args = #[v0, v1] := by cases args; simp_all
  obtain ⟨rfl, rfl⟩ := trodVars_none hV
  have k0 := h0
  have lt0 : ∀ x ∈ p0, x.block < W.heap.size := by obtain ⟨m, hm⟩ := k0; exact DataW.trod_lt m _ _ _ hm
  obtain ⟨cs0, x0, rfl, K0, w0⟩ := Opens.argStruct (Opens.struct Try.underlying24 (by kernel_rfl) (OpensFs.cons rfl (by kernel_rfl) (Opens.int Try.underlying3) (OpensFs.one rfl (by kernel_rfl) (Opens.slice Try.underlying22 (by kernel_rfl) (Opens.int Try.underlying3))))) (okWide_struct Try.underlying24 (hval 0 24 v0 rfl rfl)) h0
  obtain ⟨_, _, rfl, rfl, ⟨A0_1, c0_1, rfl, hl0_1, hr0_1⟩⟩ := K0
  obtain ⟨w0_0, w0_1⟩ := w0
  obtain ⟨a1, rfl, rfl, rfl, w1⟩ := open_int Try.underlying3 (hval 1 3 v1 rfl rfl) h1
  clear hA0 hval0 hsz0
  obtain ⟨k, hk⟩ := Pure.FnExactMoebiusOf x0.1 x0.2 a1 w0_0 w0_1 w1
  refine (Pr.laws_FnExactMoebiusOf.calls k x0.1 _ _ x0.2 a1 true W hr0_1 hl0_1 ⟨rfl⟩ hk).mono fun e W' ⟨he, bel⟩ => ?_
  subst he
  exact ⟨_, rfl, _, _, _, [], _, [], hW', trodAll_mk1 (shut_bool Try.underlying4 _), (trodAll_cons_mk (Below.trod laidOut (by kernel_rfl) (of_decide_eq_true (by kernel_rfl)) k0 bel lt0) (trodAll_cons_mk (shut_int Try.underlying3 w1) trodAll_mk0)), rfl, bel.frame _, fun h => by cases h⟩
theorem over : Rows.fnExactMoebiusOfRow.holds Try.pinned (OpenSpec.ofChange Rows.fnExactMoebiusOfSpec) :=
  OpenClaim.holds_of_wide 9 Try.f9 rfl rfl rfl rfl rfl rfl rfl ⟨rfl, rfl, rfl, rfl, rfl⟩ rfl rfl rfl rfl rfl (by kernel_rfl) Try.func9 (by kernel_rfl)
    (of_decide_eq_true (by kernel_rfl)) (by unfold Func.isWrapper; first | (rw [if_pos (by decide +kernel)]; kernel_rfl) | (rw [if_neg (by decide +kernel)]; exact ⟨rfl, rfl⟩))
    (fun os started H enc _ => lifted os started H enc)
theorem proved : Rows.FnExactMoebiusOfSaid := over
#print axioms proved
end Go.Proofs.Ytaepaekagenfnaa.fnExactMoebiusOf
namespace Go.Proofs.Ytaepaekagenfnaa
theorem fnExactMoebiusOf_holds : Rows.FnExactMoebiusOfSaid := fnExactMoebiusOf.proved
end Go.Proofs.Ytaepaekagenfnaa
end
