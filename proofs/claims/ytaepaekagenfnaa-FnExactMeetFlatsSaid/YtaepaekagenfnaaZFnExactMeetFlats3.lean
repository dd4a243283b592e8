/- Texts of the claim FnExactMeetFlats, laid together by merge.py. -/
import Derived.Below
import Derived.ChangeArms
import Derived.ChangeOld
import Derived.DataReads
import Derived.Deep.Slices
import Derived.OpenShut
import Derived.ProofKit
import Derived.ShutString
import Derived.SizedLaws
import Derived.Test.YtaepaekagenfnaaRows
import Derived.Test.YtaepaekagenfnaaWWords
import Derived.Test.YtaepaekagenfnaaZFnExactMeetFlats2
import Derived.WalkKit
/-! ## Flat -/
section
/- Flats, and the searches for a number in a list: the program and the reference. -/
namespace Go.Proofs.Ytaepaekagenfnaa.Flat
open Go.RowKit Go.Proofs.Ytaepaekagenfnaa.Pr Go.Proofs.Ytaepaekagenfnaa.Sets Go.Proofs.Ytaepaekagenfnaa.Mat Go.Proofs.Ytaepaekagenfnaa.Rank Go.Proofs.YtaepaekagenfnaaW.PrintWords Go.Proofs.YtaepaekagenfnaaW.PrintLast Go.Proofs.YtaepaekagenfnaaW.PrintMore
set_option linter.unusedVariables false

theorem any_search {γ : Type} (l : List Int) (x : Int) (L : Nat → Int → Option γ) (yes no : γ) (hn : l.length ≤ 1048576)
    (hstep : ∀ k i, i < l.length → L (k + 1) (i : Int) = if l.getD i 0 = x then some yes else L k ((i + 1 : Nat) : Int))
    (hend : ∀ k, L (k + 1) (l.length : Int) = some no) : Ev (fun k => L k 0) (if l.contains x = true then yes else no) := by
  have key : ∀ d i : Nat, i + d = l.length → Ev (fun k => L k (i : Int)) (if (l.drop i).contains x = true then yes else no) := by
    intro d
    induction d with
    | zero =>
      intro i hi
      obtain rfl : i = l.length := by omega
      rw [List.drop_length]
      refine Gen.ev_at 1 (fun k hk => ?_)
      obtain ⟨q, rfl⟩ : ∃ q, k = q + 1 := ⟨k - 1, by omega⟩
      rw [hend]
      rfl
    | succ d ih =>
      intro i hi
      have hlt : i < l.length := by omega
      have hd : l.drop i = l.getD i 0 :: l.drop (i + 1) := by
        rw [List.drop_eq_getElem_cons hlt]
        simp [List.getD, hlt]
      rw [hd, List.contains_cons]
      by_cases e : l.getD i 0 = x
      · refine Gen.ev_at 1 (fun k hk => ?_)
        obtain ⟨q, rfl⟩ : ∃ q, k = q + 1 := ⟨k - 1, by omega⟩
        rw [hstep q i hlt, if_pos e, e]
        simp
      · have e' : (x == l.getD i 0) = false := by
          rw [beq_eq_false_iff_ne]
          exact fun h => e h.symm
        rw [e', Bool.false_or]
        exact Ev.step (fun k => by rw [hstep k i hlt, if_neg e]) (ih (i + 1) (by omega))
  have := key l.length 0 (by omega)
  rw [List.drop_zero] at this
  exact this
theorem specHasI (l : List Int) (x : Int) (hn : l.length ≤ 1048576) : Ev (fun k => spec_HasSet.f k l x) (l.contains x) := by
  unfold spec_HasSet.f
  have := any_search l x (fun k i => spec_HasSet.l0 k l x i) true false hn (fun k i hi => by
    simp only [spec_HasSet.l0]
    rw [if_pos (by omega), if_pos (by omega), Gen.rd_nat, Gen.w64s i (by omega)]) (fun k => by
    simp only [spec_HasSet.l0]
    rw [if_neg (by omega)])
  cases h : l.contains x <;> rw [h] at this <;> exact this
theorem implHasI (l : List Int) (x : Int) (hn : l.length ≤ 1048576) : Ev (fun k => impl_HasSet.f k l x) (l.contains x) := by
  unfold impl_HasSet.f slices_Contains_int_int.f slices_Index_int_int.f
  have key : ∀ d i : Nat, i + d = l.length → ∃ r, Ev (fun k => slices_Index_int_int.l0 k l x (l.length : Int) (i : Int)) r ∧ decide (r ≥ 0) = (l.drop i).contains x := by
    intro d
    induction d with
    | zero =>
      intro i hi
      obtain rfl : i = l.length := by omega
      refine ⟨-1, Gen.ev_at 1 (fun k hk => ?_), by rw [List.drop_length]; rfl⟩
      obtain ⟨q, rfl⟩ : ∃ q, k = q + 1 := ⟨k - 1, by omega⟩
      simp only [slices_Index_int_int.l0]
      rw [if_neg (by omega)]
    | succ d ih =>
      intro i hi
      have hlt : i < l.length := by omega
      have hd : l.drop i = l.getD i 0 :: l.drop (i + 1) := by
        rw [List.drop_eq_getElem_cons hlt]
        simp [List.getD, hlt]
      rw [hd, List.contains_cons]
      by_cases e : x = l.getD i 0
      · refine ⟨(i : Int), Gen.ev_at 1 (fun k hk => ?_), ?_⟩
        · obtain ⟨q, rfl⟩ : ∃ q, k = q + 1 := ⟨k - 1, by omega⟩
          simp only [slices_Index_int_int.l0]
          rw [if_pos (by omega), if_pos (by omega), if_pos (by omega), Gen.rd_nat, if_pos e]
        · rw [beq_iff_eq.2 e, Bool.true_or, decide_eq_true (by omega)]
      · obtain ⟨r, h1, h2⟩ := ih (i + 1) (by omega)
        refine ⟨r, Ev.step (fun k => ?_) h1, ?_⟩
        · simp only [slices_Index_int_int.l0]
          rw [if_pos (by omega), if_pos (by omega), if_pos (by omega), Gen.rd_nat, if_neg e, Gen.w64s i (by omega)]
        · rw [h2, beq_eq_false_iff_ne.2 e, Bool.false_or]
  obtain ⟨r, h1, h2⟩ := key l.length 0 (by omega)
  rw [List.drop_zero] at h2
  refine Ev.bind (a := decide (r ≥ 0)) (Ev.bind h1 (Ev.now _)) ?_
  rw [h2]
  exact Ev.now _
/-- What a matroid is made of. -/
theorem mat_nat {n : Int} {l : List Int} (h : isMat n l = true) : ∃ (m : Nat) (lN : List Nat), n = m ∧ m ≤ 8 ∧ l = ints lN ∧ (∀ s ∈ lN, s < 2 ^ m) ∧ 0 < lN.length ∧ fails lN = false := by
  unfold isMat at h
  rw [Bool.and_eq_true, Bool.and_eq_true, decide_eq_true_eq] at h
  obtain ⟨⟨h1, h2⟩, h3⟩ := h
  obtain ⟨m, lN, rfl, hm, rfl, hl⟩ := fam_nat h1
  rw [toNat_ints] at h3
  rw [ints_length] at h2
  exact ⟨m, lN, rfl, hm, rfl, hl, h2, by simpa using h3⟩
theorem isSet_nat {m : Nat} {s : Int} (h : isSet (m : Int) s = true) : ∃ x : Nat, s = x ∧ x < 2 ^ m := by
  unfold isSet at h
  rw [decide_eq_true_eq] at h
  obtain ⟨_, _, h1, h2⟩ := h
  rw [Int.toNat_natCast] at h2
  refine ⟨s.toNat, by omega, ?_⟩
  have : ((s.toNat : Nat) : Int) < ((2 ^ m : Nat) : Int) := by push_cast; omega
  exact_mod_cast this
theorem isSet_of {m : Nat} {x : Nat} (hm : m ≤ 8) (h : x < 2 ^ m) : isSet (m : Int) (x : Int) = true := by
  unfold isSet
  rw [decide_eq_true_eq, Int.toNat_natCast]
  refine ⟨by omega, by omega, by omega, ?_⟩
  exact_mod_cast h
/-- The flats, in their order. -/
def flats (m : Nat) (l : List Nat) : List Nat := (List.range' 0 (2 ^ m)).filter fun s => decide (clos m l s 0 = s)
theorem flats_length (m : Nat) (hm : m ≤ 8) (l : List Nat) : (flats m l).length ≤ 256 := by
  refine Nat.le_trans (List.length_filter_le _ _) ?_
  rw [List.length_range']
  exact pow_le_256 hm
theorem flats_lt {m : Nat} {l : List Nat} {s : Nat} (h : s ∈ flats m l) : s < 2 ^ m ∧ clos m l s 0 = s := by
  unfold flats at h
  obtain ⟨h1, h2⟩ := List.mem_filter.1 h
  have := List.mem_range'_1.1 h1
  exact ⟨by omega, by simpa using h2⟩
theorem flats_contains {m : Nat} (l : List Nat) {s : Nat} (h : s < 2 ^ m) : (flats m l).contains s = decide (clos m l s 0 = s) := by
  rw [Bool.eq_iff_iff]
  simp only [List.contains_eq_mem, decide_eq_true_eq]
  unfold flats
  rw [List.mem_filter]
  constructor
  · exact fun h => by simpa using h.2
  · exact fun h1 => ⟨List.mem_range'_1.2 (by omega), by simpa using h1⟩
theorem full_impl (m : Nat) (hm : m ≤ 8) : impl_FullSet.f (m : Int) = some ((2 ^ m - 1 : Nat) : Int) := by
  have : ∀ m : Nat, m < 9 → impl_FullSet.f (m : Int) = some ((2 ^ m - 1 : Nat) : Int) := by decide +kernel
  exact this m (by omega)
theorem full_spec (m : Nat) (hm : m ≤ 8) : spec_FullSet.f (m : Int) = some ((2 ^ m - 1 : Nat) : Int) := by
  have : ∀ m : Nat, m < 9 → spec_FullSet.f (m : Int) = some ((2 ^ m - 1 : Nat) : Int) := by decide +kernel
  exact this m (by omega)
theorem foldl_filter (p : Nat → Bool) (q : List Nat) : (q.foldl (fun (s : List Int) j => if p j = true then s ++ [(j : Int)] else s) []) = ints (q.filter p) := by
  rw [Gen.foldl_append, List.nil_append]
  rfl
/-- A loop over all sets of a size that keeps some. -/
theorem keep_loop (L : Nat → List Int → Int → Option (List Int)) (n : Nat) (p : Nat → Bool)
    (hround : ∀ i s, i < n → s.length ≤ i → ∀ r, Ev (fun k => L k (if p i = true then s ++ [(i : Int)] else s) ((i + 1 : Nat) : Int)) r → Ev (fun k => L k s (i : Int)) r)
    (hend : ∀ k s, L (k + 1) s (n : Int) = some s) : Ev (fun k => L k [] 0) (ints ((List.range' 0 n).filter p)) := by
  rw [← foldl_filter]
  refine Gen.ev_loop L n (fun i s => if p i = true then s ++ [(i : Int)] else s) (fun i s => s.length ≤ i) _ (fun i s hi hP => ⟨?_, hround i s hi hP _⟩) n 0 [] (by omega) (by simp) (fun _ => Gen.ev_at 1 (fun k hk => ?_))
  · show (if _ then _ else _ : List Int).length ≤ _
    split
    · simp; omega
    · omega
  · obtain ⟨q, rfl⟩ : ∃ q, k = q + 1 := ⟨k - 1, by omega⟩
    exact hend _ _
theorem specFlatsN (m : Nat) (hm : m ≤ 8) (l : List Nat) (hl : ∀ b ∈ l, b < 256) (hn : l.length ≤ 1048576) : Ev (fun k => spec_l7Flats.f k (m : Int) (ints l)) (ints (flats m l)) := by
  have h256 := pow_le_256 hm
  have hpos : 0 < 2 ^ m := Nat.pow_pos (by decide)
  unfold spec_l7Flats.f flats
  refine keep_loop (fun k s i => spec_l7Flats.l0 k s i (m : Int) (ints l)) (2 ^ m) (fun s => decide (clos m l s 0 = s)) (fun i s hi hs r h => ?_) (fun k s => ?_)
  · refine Ev.step (f := fun k => (spec_l5Closure.f k (m : Int) (ints l) (i : Int)).bind fun t => (if t = (i : Int) then (spec_l7Flats.l0 k (s ++ [(i : Int)]) ((i + 1 : Nat) : Int) (m : Int) (ints l)) else (spec_l7Flats.l0 k s ((i + 1 : Nat) : Int) (m : Int) (ints l)))) (fun k => ?_) ?_
    · simp only [spec_l7Flats.l0]
      rw [full_spec m hm]
      simp only [Option.bind_some]
      rw [if_pos (by omega), if_pos (by omega), Gen.w64s i (by omega)]
    · refine Ev.bind (specClos m hm l i hi hl hn) ?_
      by_cases e : clos m l i 0 = i
      · rw [decide_eq_true e] at h
        rw [e]
        simp only [if_true] at h ⊢
        exact h
      · rw [decide_eq_false e] at h
        simp only [if_neg (show ¬ ((clos m l i 0 : Nat) : Int) = (i : Int) by omega)]
        simpa using h
  · simp only [spec_l7Flats.l0]
    rw [full_spec m hm]
    simp only [Option.bind_some]
    rw [if_neg (by omega)]
theorem implSetsOf (m : Nat) (hm : m ≤ 8) (g : Nat → Int → Option Bool) (p : Nat → Bool) (hg : ∀ s : Nat, s < 2 ^ m → Ev (fun k => g k (s : Int)) (p s)) (hmono : ∀ k s, LeO (g k s) (g (k + 1) s)) : Ev (fun k => impl_setsOf.f k (m : Int) (g k)) (ints ((List.range' 0 (2 ^ m)).filter p)) := by
  have h256 := pow_le_256 hm
  have hpos : 0 < 2 ^ m := Nat.pow_pos (by decide)
  -- one number of rounds for all sets
  have hup : ∀ s : Int, ∀ a d r, g a s = some r → g (a + d) s = some r := by
    intro s a d r h
    induction d with
    | zero => exact h
    | succ d ih => exact hmono _ _ _ ih
  have all : ∀ n : Nat, n ≤ 2 ^ m → ∃ K, ∀ k, K ≤ k → ∀ s : Nat, s < n → g k (s : Int) = some (p s) := by
    intro n
    induction n with
    | zero => exact fun _ => ⟨0, fun k _ s hs => by omega⟩
    | succ n ih =>
      intro hn
      obtain ⟨K, hK⟩ := ih (by omega)
      obtain ⟨K', hK'⟩ := hg n (by omega)
      refine ⟨max K K', fun k hk s hs => ?_⟩
      by_cases e : s = n
      · subst e
        exact hK' k (by omega)
      · exact hK k (by omega) s (by omega)
  obtain ⟨K, hK⟩ := all (2 ^ m) (Nat.le_refl _)
  have fixed : ∀ k0, K ≤ k0 → Ev (fun k => impl_setsOf.l0 (g k0) k (m : Int) [] 0) (ints ((List.range' 0 (2 ^ m)).filter p)) := fun k0 hk0 => by
    refine keep_loop (fun k s i => impl_setsOf.l0 (g k0) k (m : Int) s i) (2 ^ m) p (fun i s hi hs r h => Ev.step (fun k => ?_) h) (fun k s => ?_)
    · simp only [impl_setsOf.l0]
      rw [full_impl m hm]
      simp only [Option.bind_some]
      rw [if_pos (by omega), hK k0 hk0 i hi]
      simp only [Option.bind_some]
      rw [Gen.w64s i (by omega)]
      cases p i with
      | false => rfl
      | true => rw [if_pos rfl, if_pos (by omega), if_pos rfl]
    · simp only [impl_setsOf.l0]
      rw [full_impl m hm]
      simp only [Option.bind_some]
      rw [if_neg (by omega)]
  have count : ∀ k0, K ≤ k0 → ∀ (d i : Nat) (s : List Int) (k : Nat), i + d = 2 ^ m → d < k → s.length ≤ i → impl_setsOf.l0 (g k0) k (m : Int) s (i : Int) = impl_setsOf.l0 (g K) k (m : Int) s (i : Int) ∧ ∀ e, impl_setsOf.l0 (g k0) (k + e) (m : Int) s (i : Int) = impl_setsOf.l0 (g k0) k (m : Int) s (i : Int) := by
    intro k0 hk0 d
    induction d with
    | zero =>
      intro i s k hi hk hs
      obtain rfl : i = 2 ^ m := by omega
      obtain ⟨k, rfl⟩ : ∃ q, k = q + 1 := ⟨k - 1, by omega⟩
      refine ⟨?_, fun e => ?_⟩
      · simp only [impl_setsOf.l0]
        rw [full_impl m hm]
        simp only [Option.bind_some]
        rw [if_neg (by omega), if_neg (by omega)]
      · rw [show k + 1 + e = (k + e) + 1 by omega]
        simp only [impl_setsOf.l0]
        rw [full_impl m hm]
        simp only [Option.bind_some]
        rw [if_neg (by omega), if_neg (by omega)]
    | succ d ih =>
      intro i s k hi hk hs
      obtain ⟨k, rfl⟩ : ∃ q, k = q + 1 := ⟨k - 1, by omega⟩
      obtain ⟨a1, a2⟩ := ih (i + 1) (s ++ [(i : Int)]) k (by omega) (by omega) (by simp; omega)
      obtain ⟨b1, b2⟩ := ih (i + 1) s k (by omega) (by omega) (by omega)
      refine ⟨?_, fun e => ?_⟩
      · simp only [impl_setsOf.l0]
        rw [full_impl m hm]
        simp only [Option.bind_some]
        simp only [if_pos (show (i : Int) ≤ ((2 ^ m - 1 : Nat) : Int) by omega), if_pos (show s.length < 17592186044416 by omega), hK k0 hk0 i (by omega), hK K (Nat.le_refl _) i (by omega), Gen.w64s i (by omega), Option.bind_some, a1, b1]
      · rw [show k + 1 + e = (k + e) + 1 by omega]
        simp only [impl_setsOf.l0]
        rw [full_impl m hm]
        simp only [Option.bind_some]
        simp only [if_pos (show (i : Int) ≤ ((2 ^ m - 1 : Nat) : Int) by omega), if_pos (show s.length < 17592186044416 by omega), hK k0 hk0 i (by omega), Gen.w64s i (by omega), Option.bind_some, a2, b2]
  obtain ⟨K2, hK2⟩ := fixed K (Nat.le_refl _)
  refine ⟨max (max K K2) (2 ^ m + 1), fun k hk => ?_⟩
  show impl_setsOf.l0 (g k) k (m : Int) [] ((0 : Nat) : Int) = _
  rw [(count k (by omega) (2 ^ m) 0 [] k (by omega) (by omega) (by simp)).1]
  exact hK2 k (by omega)
theorem implFlatsN (m : Nat) (hm : m ≤ 8) (l : List Nat) (hl : ∀ b ∈ l, b < 256) (hn : l.length ≤ 1048576) : Ev (fun k => impl_flatsIn.f k (m : Int) (ints l)) (ints (flats m l)) := by
  unfold impl_flatsIn.f flats
  refine implSetsOf m hm (fun k s => impl_flatsIn_1.f k (m : Int) (ints l) s) (fun s => decide (clos m l s 0 = s)) (fun s hs => ?_) (fun k s => impl_flatsIn_1.mono _ _ _ k)
  unfold impl_flatsIn_1.f
  refine Ev.bind (implClos m hm l s hs hl hn) ?_
  have : (((clos m l s 0 : Nat) : Int) == (s : Int)) = decide (clos m l s 0 = s) := by
    rw [Bool.eq_iff_iff]
    simp
    omega
  rw [this]
  exact Ev.now _
/-- Is it a flat? -/
def isFlat (n : Int) (l : List Int) (s : Int) : Bool := isMat n l && isSet n s && decide (clos n.toNat (l.map Int.toNat) s.toNat 0 = s.toNat)
theorem implFlat (n : Int) (l : List Int) (s : Int) (hn : l.length ≤ 1048576) : Ev (fun k => impl_isFlat.f k n l s) (isFlat n l s) := by
  unfold impl_isFlat.f impl_knows.f isFlat
  cases h : isMat n l with
  | false =>
    have hM := implMat n l hn
    rw [h] at hM
    refine Ev.bind (a := false) (Ev.bind hM (by simp only [Bool.false_eq_true, if_false]; exact Ev.now _)) ?_
    simp only [Bool.false_eq_true, if_false, Bool.false_and]
    exact Ev.now _
  | true =>
    have hM := implMat n l hn
    rw [h] at hM
    cases h2 : isSet n s with
    | false =>
      refine Ev.bind (a := false) (Ev.bind hM (by simp only [if_true, implIsSet, h2]; exact Ev.now _)) ?_
      simp only [Bool.false_eq_true, if_false, Bool.false_and, Bool.and_false]
      exact Ev.now _
    | true =>
      refine Ev.bind (a := true) (Ev.bind hM (by simp only [if_true, implIsSet, h2]; exact Ev.now _)) ?_
      obtain ⟨m, lN, rfl, hm, rfl, hl, _, _⟩ := mat_nat h
      obtain ⟨x, rfl, hx⟩ := isSet_nat h2
      have h256 := pow_le_256 hm
      rw [ints_length] at hn
      simp only [if_true, Bool.true_and, toNat_ints, Int.toNat_natCast]
      refine Ev.bind (implClos m hm lN x hx (fun b hb => by have := hl b hb; omega) hn) ?_
      have : (((clos m lN x 0 : Nat) : Int) == (x : Int)) = decide (clos m lN x 0 = x) := by
        rw [Bool.eq_iff_iff]
        simp
        omega
      rw [this]
      exact Ev.now _
theorem specFlats (n : Int) (l : List Int) (hn : l.length ≤ 1048576) : Ev (fun k => spec_Flats.f k n l) (if isMat n l = true then ints (flats n.toNat (l.map Int.toNat)) else []) := by
  unfold spec_Flats.f
  refine Ev.bind (specMat n l hn) ?_
  cases h : isMat n l with
  | false =>
    simp only [Bool.false_eq_true, if_false]
    exact Ev.now _
  | true =>
    obtain ⟨m, lN, rfl, hm, rfl, hl, _, _⟩ := mat_nat h
    have h256 := pow_le_256 hm
    rw [ints_length] at hn
    simp only [if_true, toNat_ints, Int.toNat_natCast]
    exact Ev.bind (specFlatsN m hm lN (fun b hb => by have := hl b hb; omega) hn) (Ev.now _)
theorem flat_contains (n : Int) (l : List Int) (s : Int) : (if isMat n l = true then ints (flats n.toNat (l.map Int.toNat)) else []).contains s = isFlat n l s := by
  unfold isFlat
  cases h : isMat n l with
  | false => simp
  | true =>
    obtain ⟨m, lN, rfl, hm, rfl, hl, _, _⟩ := mat_nat h
    simp only [if_true, toNat_ints, Int.toNat_natCast, Bool.true_and]
    cases h2 : isSet (m : Int) s with
    | true =>
      obtain ⟨x, rfl, hx⟩ := isSet_nat h2
      rw [ints_contains, flats_contains lN hx]
      simp
    | false =>
      rw [Bool.false_and, ← Bool.not_eq_true]
      intro hc
      simp only [ints, List.contains_eq_mem, List.mem_map, decide_eq_true_eq] at hc
      obtain ⟨a, ha, rfl⟩ := hc
      rw [isSet_of hm (flats_lt ha).1] at h2
      exact Bool.noConfusion h2
theorem flatsI_length (n : Int) (l : List Int) : (if isMat n l = true then ints (flats n.toNat (l.map Int.toNat)) else []).length ≤ 256 := by
  cases h : isMat n l with
  | false => simp
  | true =>
    obtain ⟨m, lN, rfl, hm, rfl, hl, _, _⟩ := mat_nat h
    simp only [if_true, toNat_ints, Int.toNat_natCast, ints_length]
    exact flats_length m hm lN
theorem specTwo (n : Int) (l : List Int) (s t : Int) (hn : l.length ≤ 1048576) : Ev (fun k => spec_l25Two.f k n l s t) (isFlat n l s && isFlat n l t) := by
  unfold spec_l25Two.f
  have hle := flatsI_length n l
  refine Ev.bind (specFlats n l hn) (Ev.bind (specHasI _ s (by omega)) ?_)
  rw [flat_contains]
  cases h : isFlat n l s with
  | false =>
    simp only [Bool.false_eq_true, if_false, Bool.false_and]
    exact Ev.now _
  | true =>
    simp only [if_true, Bool.true_and]
    refine Ev.bind (specHasI _ t (by omega)) ?_
    rw [flat_contains]
    exact Ev.now _
end Go.Proofs.Ytaepaekagenfnaa.Flat
end

/-! ## PureFnExactMeetFlats -/
section
/- MeetFlats: of two flats, what they share, by the program and by the reference; the argument stays. -/
namespace Go.Proofs.Ytaepaekagenfnaa.Pure
open Go.RowKit Go.Proofs.Ytaepaekagenfnaa.Pr Go.Proofs.Ytaepaekagenfnaa.Base Go.Proofs.Ytaepaekagenfnaa.Sets Go.Proofs.Ytaepaekagenfnaa.Mat Go.Proofs.Ytaepaekagenfnaa.Rank Go.Proofs.Ytaepaekagenfnaa.Flat Go.Proofs.YtaepaekagenfnaaW.PrintWords Go.Proofs.YtaepaekagenfnaaW.PrintLast Go.Proofs.YtaepaekagenfnaaW.PrintMore
set_option linter.unusedVariables false

namespace MeetFlats
theorem spec (n : Int) (l : List Int) (s t : Int) (hn : l.length ≤ 1048576) : Ev (fun k => spec_MeetFlats.f k n l s t) (if (isFlat n l s && isFlat n l t) = true then Go.bits .and .i64 s t else 0) := by
  unfold spec_MeetFlats.f
  refine Ev.bind (specTwo n l s t hn) ?_
  cases (isFlat n l s && isFlat n l t) with
  | false => simp only [Bool.false_eq_true, if_false]; exact Ev.now _
  | true => simp only [if_true]; exact Ev.now _
theorem impl (n : Int) (l : List Int) (s t : Int) (hn : l.length ≤ 1048576) : Ev (fun k => impl_MeetFlats.f k n l s t) (if (isFlat n l s && isFlat n l t) = true then Go.bits .and .i64 s t else 0) := by
  unfold impl_MeetFlats.f
  refine Ev.bind (implFlat n l s hn) ?_
  cases isFlat n l s with
  | false => simp only [Bool.false_eq_true, if_false, Bool.false_and]; exact Ev.now _
  | true =>
    simp only [if_true, Bool.true_and]
    refine Ev.bind (implFlat n l t hn) ?_
    cases isFlat n l t with
    | false => simp only [Bool.false_eq_true, if_false]; exact Ev.now _
    | true => simp only [if_true]; exact Ev.now _
end MeetFlats
open MeetFlats in
theorem FnExactMeetFlats (n : Int) (xs : List Int) (s t : Int) (_ : (Lit.int .i64 n).wf = true) (hm : xs.length ≤ maxLen ∧ ∀ x ∈ xs, (Lit.int .i64 x).wf = true) (_ : (Lit.int .i64 s).wf = true) (_ : (Lit.int .i64 t).wf = true) : ∃ k, laws_FnExactMeetFlats.f k n xs s t = some true := by
  obtain ⟨z, hz, h⟩ := szMatroid n xs 1048576 hm.1 (by decide) (by decide)
  refine Ev.rounds ?_
  unfold laws_FnExactMeetFlats.f
  rw [hz]
  simp only [Option.bind_some]
  by_cases hneg : z < 0
  · simp only [if_pos hneg]
    exact Ev.now _
  · simp only [if_neg hneg]
    have hl : xs.length ≤ 1048576 := by rcases h with h | h <;> omega
    refine Ev.bind (toMatroid n xs hl) (Ev.bind (spec n xs s t hl) (Ev.bind (toMatroid n xs hl) (Ev.bind (impl n xs s t hl) ?_)))
    simp only [if_true]
    refine Ev.bind (toMatroid n xs hl) (Ev.bind (eqMatroid n xs hl) ?_)
    simp only [if_true]
    exact Ev.now _
end Go.Proofs.Ytaepaekagenfnaa.Pure
end

/-! ## Open -/
section
/- What can be read as data of a Go type is a value of the print's kind of that type: numbers, bools, strings, slices and structs in any nesting. -/
namespace Go.Proofs.Ytaepaekagenfnaa.Open
open Go.ChangeShapes Go.WideShapes Go.RowKit Go.Proofs.YtaepaekagenfnaaW.PrintWords Go.Deep
set_option linter.unusedVariables false

structure Opens {α : Type} (P : Program) (d : Kd α) (t : TypeId) (Wf : α → Prop) : Prop where
  go : ∀ (H : Type) (enc : TypeId × Value → H) (w : World) (base : Nat) (spare : Nat → Bool) (held : Bool) (fuel : Nat) (cs : List Value) (x : DataW H × List MemPlace),
    DataW.trod enc P w base spare held fuel t cs = some x → ∃ a, d.K w a cs ∧ Wf a
theorem Opens.int {P : Program} {t : TypeId} {k : IntKind} (ht : P.underlying t = some (.int k)) : Opens P (Kd.int k) t (fun n => (Lit.int k n).wf = true) := by
  refine ⟨fun H enc w base spare held fuel cs x h => ?_⟩
  obtain ⟨n, rfl, _, hw⟩ := DataW.trod_int ht h
  exact ⟨n, rfl, hw⟩
theorem Opens.bool {P : Program} {t : TypeId} (ht : P.underlying t = some .bool) : Opens P Kd.bool t (fun _ => True) := by
  refine ⟨fun H enc w base spare held fuel cs x h => ?_⟩
  obtain ⟨n, rfl, _⟩ := DataW.trod_bool ht h
  exact ⟨n, rfl, trivial⟩
theorem Opens.string {P : Program} {t : TypeId} (ht : P.underlying t = some .string) : Opens P Kd.string t (fun s => s.size ≤ maxLen) := by
  refine ⟨fun H enc w base spare held fuel cs x h => ?_⟩
  obtain ⟨n, rfl, _, hw⟩ := DataW.trod_string ht h
  exact ⟨n, rfl, hw⟩
theorem list_of {α : Type} {p : Nat → α → Prop} : ∀ {len : Nat}, (∀ i, i < len → ∃ y, p i y) → ∃ xs : List α, xs.length = len ∧ ∀ i y, xs[i]? = some y → p i y := by
  intro len
  induction len with
  | zero => exact fun _ => ⟨[], rfl, fun i y h => by simp at h⟩
  | succ len ih =>
    intro key
    obtain ⟨xs, hxl, hxs⟩ := ih (fun i hi => key i (by omega))
    obtain ⟨y, hy⟩ := key len (by omega)
    refine ⟨xs ++ [y], by simp [hxl], fun i z hz => ?_⟩
    by_cases hi : i < xs.length
    · rw [List.getElem?_append_left hi] at hz
      exact hxs i z hz
    · have hlt : i < (xs ++ [y]).length := (List.getElem?_eq_some_iff.1 hz).1
      have e : i = len := by simp [hxl] at hlt hi; omega
      subst e
      rw [List.getElem?_append_right (by omega), hxl] at hz
      simp at hz
      subst hz
      exact hy
theorem Opens.slice {α : Type} {P : Program} {t e : TypeId} {d : Kd α} {Wf : α → Prop} (ht : P.underlying t = some (.slice e)) (hs : P.cellsOf e = d.sz) (h : Opens P d e Wf) :
    Opens P (Kd.slice e d) t (fun xs => xs.length ≤ maxLen ∧ ∀ x ∈ xs, Wf x) := by
  refine ⟨fun H enc w base spare held fuel cs x hx => ?_⟩
  rcases open_slice ht hx with ⟨rfl, _⟩ | ⟨a, len, cap, m, n, D, Pl, rfl, hb, hl, hm, hmm, _, hel⟩
  · exact ⟨[], ⟨none, 0, rfl, Nat.le_refl _, rfl, by simp, fun h => absurd h (by simp)⟩, by simp, by simp⟩
  · have hlm : len ≤ m := by rw [hmm]; split <;> omega
    have key : ∀ i, i < len → ∃ y : α, (∃ cs', w.cells? base (a.add (i * P.cellsOf e)) (P.cellsOf e) = some cs' ∧ d.K w y cs') ∧ Wf y := fun i hi => by
      obtain ⟨cs', h1, h2⟩ := hel i (by omega)
      obtain ⟨y, h3, h4⟩ := h.go _ enc w base spare held n cs' _ h2
      exact ⟨y, ⟨cs', h1, h3⟩, h4⟩
    obtain ⟨xs, hxl, hxs⟩ := list_of key
    refine ⟨xs, ⟨some a, cap, by rw [hxl], by omega, rfl, by have := hm; unfold maxLen at this; omega, fun _ => ⟨a, rfl, fun j p hj => ?_⟩⟩, by omega, fun y hy => ?_⟩
    · obtain ⟨⟨cs', h1, h2⟩, _⟩ := hxs j p hj
      obtain ⟨_, h3, h4⟩ := World.cells?_some h1
      refine ⟨cs', by rw [h3, hs], h2, fun i u hu => ?_⟩
      have hlt : i < cs'.length := (List.getElem?_eq_some_iff.1 hu).1
      have := h4 i (by omega)
      rw [hs, Go.Deep.add_add] at this
      rw [this, hu]
    · obtain ⟨i, hi⟩ := List.getElem?_of_mem hy
      exact (hxs i y hi).2
/-- Fields in line, from a place on. -/
structure OpensFs {α : Type} (P : Program) (fs : List Field) (off : Nat) (d : Kd α) (Wf : α → Prop) : Prop where
  go : ∀ (H : Type) (enc : TypeId × Value → H) (w : World) (base : Nat) (spare : Nat → Bool) (held : Bool) (n : Nat) (cs : List Value),
    cs.length = off + d.sz → (∀ f ∈ fs, ∃ x, DataW.trod enc P w base spare held n f.type ((cs.drop f.offset).take (P.cellsOf f.type)) = some x) → ∃ a, d.K w a (cs.drop off) ∧ Wf a
theorem OpensFs.one {α : Type} {P : Program} {f : Field} {off : Nat} {d : Kd α} {Wf : α → Prop} (ho : f.offset = off) (hs : P.cellsOf f.type = d.sz) (h : Opens P d f.type Wf) : OpensFs P [f] off d Wf := by
  refine ⟨fun H enc w base spare held n cs hl hf => ?_⟩
  obtain ⟨x, hx⟩ := hf f (by simp)
  rw [ho, hs, List.take_of_length_le (by rw [List.length_drop]; omega)] at hx
  exact h.go _ enc w base spare held n _ x hx
theorem OpensFs.cons {α β : Type} {P : Program} {f : Field} {fs : List Field} {off : Nat} {d : Kd α} {d' : Kd β} {Wf : α → Prop} {Wf' : β → Prop} (ho : f.offset = off) (hs : P.cellsOf f.type = d.sz) (h : Opens P d f.type Wf)
    (h' : OpensFs P fs (off + d.sz) d' Wf') : OpensFs P (f :: fs) off (Kd.pair d d') (fun x => Wf x.1 ∧ Wf' x.2) := by
  refine ⟨fun H enc w base spare held n cs hl hf => ?_⟩
  have hl' : cs.length = off + (d.sz + d'.sz) := hl
  obtain ⟨x, hx⟩ := hf f (by simp)
  rw [ho, hs] at hx
  obtain ⟨a, ha, wa⟩ := h.go _ enc w base spare held n _ x hx
  obtain ⟨b, hb, wb⟩ := h'.go _ enc w base spare held n cs (by omega) (fun g hg => hf g (by simp [hg]))
  refine ⟨(a, b), ⟨(cs.drop off).take d.sz, cs.drop (off + d.sz), ?_, ha, hb⟩, wa, wb⟩
  rw [← List.drop_drop, List.take_append_drop]
theorem Opens.struct {α : Type} {P : Program} {t : TypeId} {fs : Array Field} {d : Kd α} {Wf : α → Prop} (ht : P.underlying t = some (.struct fs)) (hs : P.cellsOf t = d.sz) (h : OpensFs P fs.toList 0 d Wf) : Opens P d t Wf := by
  refine ⟨fun H enc w base spare held fuel cs x hx => ?_⟩
  obtain ⟨xs, n, _, _, hl, hlen, hg⟩ := DataW.trod_struct ht hx
  obtain ⟨a, ha, wa⟩ := h.go _ enc w base spare held n cs (by omega) (fun f hf => by
    obtain ⟨i, hi⟩ := List.getElem?_of_mem hf
    have h1 := hg i f (by simpa using hi)
    have hlt : i < fs.size := by have := (List.getElem?_eq_some_iff.1 hi).1; simpa using this
    exact ⟨_, h1.trans (List.getElem?_eq_getElem (by omega))⟩)
  exact ⟨a, by simpa using ha, wa⟩
theorem Opens.iso {α β : Type} {P : Program} {t : TypeId} {d : Kd α} {Wf : α → Prop} (h : Opens P d t Wf) (f : β → α) (g : α → β) (hfg : ∀ a, f (g a) = a) : Opens P (Kd.iso d f) t (fun b => Wf (f b)) := by
  refine ⟨fun H enc w base spare held fuel cs x hx => ?_⟩
  obtain ⟨a, ha, wa⟩ := h.go _ enc w base spare held fuel cs x hx
  exact ⟨g a, by show d.K w (f (g a)) cs; rw [hfg]; exact ha, by show Wf (f (g a)); rw [hfg]; exact wa⟩
theorem Opens.wk {α : Type} {P : Program} {t : TypeId} {d : Kd α} {Wf Wf' : α → Prop} (h : Opens P d t Wf) (hw : ∀ a, Wf a → Wf' a) : Opens P d t Wf' := by
  refine ⟨fun H enc w base spare held fuel cs x hx => ?_⟩
  obtain ⟨a, ha, wa⟩ := h.go _ enc w base spare held fuel cs x hx
  exact ⟨a, ha, hw _ wa⟩
/-- An argument of one slice. -/
theorem Opens.argSlice {α : Type} {P : Program} {t e : TypeId} {d : Kd α} {Wf : List α → Prop} (h : Opens P (Kd.slice e d) t Wf) {H : Type} {enc : TypeId × Value → H} {w : World} {base : Nat} {spare : Nat → Bool} {held : Bool} {v : Value} {x : DataW H} {ps : List MemPlace}
    (hv : ∃ a len cap, v = .slice a len cap) (ht : DataW.Trod enc P w base spare held t v x ps) : ∃ A c xs, v = .slice A xs.length c ∧ xs.length ≤ c ∧ d.C w A xs.length xs ∧ Wf xs := by
  obtain ⟨a, len, cap, rfl⟩ := hv
  obtain ⟨fuel, hf⟩ := ht
  obtain ⟨xs, ⟨A, c, hc, hl, hr⟩, wf⟩ := h.go _ enc w base spare held fuel _ _ hf
  simp only [Value.cells, List.cons.injEq, and_true] at hc
  exact ⟨A, c, xs, hc, hl, hr, wf⟩
/-- An argument that is a struct. -/
theorem Opens.argStruct {α : Type} {P : Program} {t : TypeId} {d : Kd α} {Wf : α → Prop} (h : Opens P d t Wf) {H : Type} {enc : TypeId × Value → H} {w : World} {base : Nat} {spare : Nat → Bool} {held : Bool} {v : Value} {x : DataW H} {ps : List MemPlace}
    (hv : ∃ cs, v = .agg cs ∧ cs.size = P.cellsOf t) (ht : DataW.Trod enc P w base spare held t v x ps) : ∃ cs a, v = .agg cs.toArray ∧ d.K w a cs ∧ Wf a := by
  obtain ⟨cs, rfl, _⟩ := hv
  obtain ⟨fuel, hf⟩ := ht
  obtain ⟨a, ha, wf⟩ := h.go _ enc w base spare held fuel _ _ hf
  exact ⟨cs.toList, a, by simp, ha, wf⟩
end Go.Proofs.Ytaepaekagenfnaa.Open
end

/-! ## LawFnExactMeetFlats -/
section
/- The row of the law FnExactMeetFlats: for every input the law returns true, and its arguments read as before. Out of the pure theorem and the walk. Written by mkrow.py. -/
namespace Go.Proofs.Ytaepaekagenfnaa.fnExactMeetFlats
open Go.ChangeShapes Go.WideShapes Go.ChangeAt Go.RowKit Go.Proofs.Ytaepaekagenfnaa.Open Go.Proofs.YtaepaekagenfnaaW.PrintWords
open Go.ChangeMaps (open_string shut_string)
set_option linter.unusedVariables false
theorem own : ownKnob Try.prog.godebug = none := by kernel_rfl
theorem laidOut : laidOutB Try.prog = true := by kernel_rfl
set_option maxRecDepth 100000 in
theorem lifted (os : Os) (started : os.Started) (H : Type) (enc : TypeId × Value → H) :
    ReturnsInHanded {} Try.checked os 6 .any (Rows.fnExactMeetFlatsSpec.pre6 enc Try.prog Try.f6 Rows.fnExactMeetFlatsRow.domain false) (Rows.fnExactMeetFlatsSpec.post enc Try.prog Try.f6 false true false false) := by
  refine returnsInHanded_of_change_sized (C := Try.checked) own started (by kernel_rfl) Try.func6
    (ChangeSpec.witness6 (enc := enc) (C := Try.checked) false ⟨#[], #[.agg #[.int .i64 0, .slice none 0 0], .int .i64 0, .int .i64 0], []⟩ 8 (by kernel_rfl) (by kernel_rfl) (by kernel_rfl) (by kernel_rfl)) ?_
  intro W base args ds gs before hval0 hW hcnd hsz0 _
  have hval : ∀ (j : Nat) t v, Try.f6.params[j]? = some t → args[j]? = some v → Value.okWide Try.prog W .any base t v := hval0
  have hW' := hW
  obtain ⟨p, q, hA0, hV, rfl, hfz, hnd⟩ := hW
  have hA : DataW.TrodAll enc Try.prog W 0 (fun _ => true) true Try.f6.params.toList args.toList ds p := hA0
  rw [Try.params6] at hA hval
  obtain ⟨v0, vs0, d0, ds0, p0, q0, hargs, rfl, rfl, h0, r0⟩ := trodAll_cons hA
  obtain ⟨v1, vs1, d1, ds1, p1, q1, rfl, rfl, rfl, h1, r1⟩ := trodAll_cons r0
  obtain ⟨v2, vs2, d2, ds2, p2, q2, rfl, rfl, rfl, h2, r2⟩ := trodAll_cons r1
  obtain ⟨rfl, rfl, rfl⟩ := trodAll_nil r2
  obtain rfl : args = #[v0, v1, v2] := by cases args; simp_all
  obtain ⟨rfl, rfl⟩ := trodVars_none hV
  have k0 := h0
  have lt0 : ∀ x ∈ p0, x.block < W.heap.size := by obtain ⟨m, hm⟩ := k0; exact DataW.trod_lt m _ _ _ hm
  obtain ⟨cs0, x0, rfl, K0, w0⟩ := Opens.argStruct (Opens.struct Try.underlying24 (by kernel_rfl) (OpensFs.cons rfl (by kernel_rfl) (Opens.int Try.underlying3) (OpensFs.one rfl (by kernel_rfl) (Opens.slice Try.underlying22 (by kernel_rfl) (Opens.int Try.underlying3))))) (okWide_struct Try.underlying24 (hval 0 24 v0 rfl rfl)) h0
  obtain ⟨_, _, rfl, rfl, ⟨A0_1, c0_1, rfl, hl0_1, hr0_1⟩⟩ := K0
  obtain ⟨w0_0, w0_1⟩ := w0
  obtain ⟨a1, rfl, rfl, rfl, w1⟩ := open_int Try.underlying3 (hval 1 3 v1 rfl rfl) h1
  obtain ⟨a2, rfl, rfl, rfl, w2⟩ := open_int Try.underlying3 (hval 2 3 v2 rfl rfl) h2
  clear hA0 hval0 hsz0
  obtain ⟨k, hk⟩ := Pure.FnExactMeetFlats x0.1 x0.2 a1 a2 w0_0 w0_1 w1 w2
  refine (Pr.laws_FnExactMeetFlats.calls k x0.1 _ _ x0.2 a1 a2 true W hr0_1 hl0_1 ⟨rfl⟩ hk).mono fun e W' ⟨he, bel⟩ => ?_
  subst he
  exact ⟨_, rfl, _, _, _, [], _, [], hW', trodAll_mk1 (shut_bool Try.underlying4 _), (trodAll_cons_mk (Below.trod laidOut (by kernel_rfl) (of_decide_eq_true (by kernel_rfl)) k0 bel lt0) (trodAll_cons_mk (shut_int Try.underlying3 w1) (trodAll_cons_mk (shut_int Try.underlying3 w2) trodAll_mk0))), rfl, bel.frame _, fun h => by cases h⟩
theorem over : Rows.fnExactMeetFlatsRow.holds Try.pinned (OpenSpec.ofChange Rows.fnExactMeetFlatsSpec) :=
  OpenClaim.holds_of_wide 6 Try.f6 rfl rfl rfl rfl rfl rfl rfl ⟨rfl, rfl, rfl, rfl, rfl⟩ rfl rfl rfl rfl rfl (by kernel_rfl) Try.func6 (by kernel_rfl)
    (of_decide_eq_true (by kernel_rfl)) (by unfold Func.isWrapper; first | (rw [if_pos (by decide +kernel)]; kernel_rfl) | (rw [if_neg (by decide +kernel)]; exact ⟨rfl, rfl⟩))
    (fun os started H enc _ => lifted os started H enc)
theorem proved : Rows.FnExactMeetFlatsSaid := over
#print axioms proved
end Go.Proofs.Ytaepaekagenfnaa.fnExactMeetFlats
namespace Go.Proofs.Ytaepaekagenfnaa
theorem fnExactMeetFlats_holds : Rows.FnExactMeetFlatsSaid := fnExactMeetFlats.proved
end Go.Proofs.Ytaepaekagenfnaa
end
