/- The claim FnExactTaskMatroid: every text that its row comes to, laid together by slim.py (the words of the kit's print, the printed walks, the pure law, the row). -/
import Derived.Below
import Derived.ChangeArms
import Derived.ChangeOld
import Derived.DataReads
import Derived.Deep.Slices
import Derived.OpenShut
import Derived.ProofKit
import Derived.ShutString
import Derived.SizedLaws
import Derived.Test.YtmpodackojmojaaRows
import Derived.WalkKit
import Derived.Test.YtmpodackojmojaaYFnExactTaskMatroid3
section
namespace Go.Proofs.Ytmpodackojmojaa.Moeb
open Go.RowKit Go.Proofs.Ytmpodackojmojaa.Pr Go.Proofs.Ytmpodackojmojaa.Sets Go.Proofs.Ytmpodackojmojaa.Mat Go.Proofs.Ytmpodackojmojaa.Rank Go.Proofs.Ytmpodackojmojaa.Flat Go.Proofs.YtmpodackojmojaaW.PrintWords Go.Proofs.YtmpodackojmojaaW.PrintLast Go.Proofs.YtmpodackojmojaaW.PrintMore
set_option linter.unusedVariables false
def subs (t s : Nat) : Bool := decide (t &&& s = t)
theorem diff_zero (t s : Nat) : diff t s = 0 ↔ t &&& s = t := by
 constructor
 ·intro h
  apply Nat.eq_of_testBit_eq
  intro i
  have := diff_bit t s i
  rw [h, Nat.zero_testBit] at this
  rw [Nat.testBit_and]
  cases h1 : t.testBit i <;> cases h2 : s.testBit i <;> simp_all
 ·intro h
  apply Nat.eq_of_testBit_eq
  intro i
  rw [diff_bit, Nat.zero_testBit]
  have := congrArg (fun x => x.testBit i) h
  simp only [Nat.testBit_and] at this
  cases h1 : t.testBit i <;> cases h2 : s.testBit i <;> simp_all
theorem implSub (t s : Nat) (ht : t < 256) (hs : s < 256) : impl_IsSubset.f (t : Int) (s : Int) = some (subs t s) := by
 have ha : ∀ x : Nat, x < 256 → impl_isAny.f (x : Int) = some true := fun x hx => by
  unfold impl_isAny.f
  rw [if_pos (by omega), decide_eq_true (by omega)]
 unfold impl_IsSubset.f subs
 rw [ha t ht, ha s hs]
 simp only [Option.bind_some, if_true]
 rw [andNot_nat t s (by omega)]
 congr 1
 rw [Bool.eq_iff_iff, beq_iff_eq, decide_eq_true_eq, ← diff_zero]
 omega
end Go.Proofs.Ytmpodackojmojaa.Moeb
end
section
namespace Go.Proofs.Ytmpodackojmojaa.Mini
open Go.RowKit Go.Proofs.Ytmpodackojmojaa.Pr Go.Proofs.Ytmpodackojmojaa.Sets Go.Proofs.Ytmpodackojmojaa.Mat Go.Proofs.Ytmpodackojmojaa.Rank Go.Proofs.Ytmpodackojmojaa.Flat Go.Proofs.Ytmpodackojmojaa.Sort Go.Proofs.Ytmpodackojmojaa.Moeb Go.Proofs.YtmpodackojmojaaW.PrintWords Go.Proofs.YtmpodackojmojaaW.PrintLast Go.Proofs.YtmpodackojmojaaW.PrintMore
set_option linter.unusedVariables false
theorem implAny (l : List Nat) (hl : ∀ s ∈ l, s < 256) (hn : l.length ≤ 1048576) : Ev (fun k => impl_areSets.f k (ints l)) true := by
 refine Gen.ev_at (l.length + 1) (fun k hk => ?_)
 unfold impl_areSets.f
 have := Gen.all_loop (fun k i => impl_areSets.l0 k (ints l) ((ints l).length : Int) i) l.length (fun _ => true) 0 true (fun k i _ hi => by
  simp only [impl_areSets.l0]
  have hb := hl _ (getD_mem l 0 i hi)
  unfold impl_isAny.f
  rw [if_pos (by rw [ints_length]; omega), if_pos (by omega), if_pos (by rw [ints_length]; omega), ints_rd, if_pos (by omega), decide_eq_true (by omega), Gen.w64s i (by omega)]
  rfl) (fun k _ => by
  simp only [impl_areSets.l0]
  rw [if_neg (by rw [ints_length]; omega)]) l.length 0 k (by omega) (by omega)
 simpa [Gen.all_yes] using this
theorem specAny (l : List Nat) (hl : ∀ s ∈ l, s < 256) (hn : l.length ≤ 1048576) : Ev (fun k => spec_l3Sets.f k 8 (ints l)) true := by
 refine Gen.ev_at (l.length + 1) (fun k hk => ?_)
 unfold spec_l3Sets.f
 have := Gen.all_loop (fun k i => spec_l3Sets.l0 k 8 (ints l) i) l.length (fun _ => true) 0 true (fun k i _ hi => by
  simp only [spec_l3Sets.l0]
  have hb := hl _ (getD_mem l 0 i hi)
  have e := isSet_of (m := 8) (by omega) (x := l.getD i 0) (by omega)
  rw [if_pos (by rw [ints_length]; omega), if_pos (by omega), ints_rd, specIsSet, show (8 : Int) = ((8 : Nat) : Int) from rfl, e, Gen.w64s i (by omega)]
  rfl) (fun k _ => by
  simp only [spec_l3Sets.l0]
  rw [if_neg (by rw [ints_length]; omega)]) l.length 0 k (by omega) (by omega)
 simpa [Gen.all_yes] using this
def kept (p : Nat → Nat → Bool) (l : List Nat) : List Int := sset (ints (l.filter fun s => !l.any fun t => !decide (t = s) && p t s))
theorem mem_ints {l : List Nat} {x : Int} : x ∈ ints l ↔ ∃ y ∈ l, x = (y : Int) := by
 unfold ints
 rw [List.mem_map]
 constructor
 ·rintro ⟨y, h, rfl⟩; exact ⟨y, h, rfl⟩
 ·rintro ⟨y, h, rfl⟩; exact ⟨y, h, rfl⟩
theorem sset_filter (l : List Nat) (p : Nat → Bool) : (sset (ints l)).filter (fun x => p x.toNat) = sset (ints (l.filter p)) := by
 refine same_of _ _ ((sset_sorted _).filter _) (sset_sorted _) fun x => ?_
 rw [List.mem_filter, mem_sset, mem_sset, mem_ints, mem_ints]
 constructor
 ·rintro ⟨⟨y, h1, rfl⟩, h2⟩
  exact ⟨y, List.mem_filter.2 ⟨h1, by simpa using h2⟩, rfl⟩
 ·rintro ⟨y, h1, rfl⟩
  obtain ⟨h2, h3⟩ := List.mem_filter.1 h1
  exact ⟨⟨y, h2, rfl⟩, by simpa using h3⟩
theorem sset_nat (l : List Nat) : ∃ q : List Nat, sset (ints l) = ints q ∧ (∀ s, s ∈ q ↔ s ∈ l) ∧ q.length ≤ l.length := by
 have h : ∀ x ∈ sset (ints l), ∃ y ∈ l, x = (y : Int) := fun x hx => mem_ints.1 ((mem_sset _ _).1 hx)
 refine ⟨(sset (ints l)).map Int.toNat, ?_, fun s => ?_, ?_⟩
 ·unfold ints
  rw [List.map_map]
  conv => lhs; rw [← List.map_id (sset _)]
  refine List.map_congr_left fun x hx => ?_
  obtain ⟨y, _, rfl⟩ := h x hx
  rfl
 ·rw [List.mem_map]
  constructor
  ·rintro ⟨x, hx, rfl⟩
   obtain ⟨y, hy, rfl⟩ := h x hx
   simpa using hy
  ·intro hs
   exact ⟨(s : Int), (mem_sset _ _).2 (mem_ints.2 ⟨s, hs, rfl⟩), by simp⟩
 ·rw [List.length_map]
  have := sset_length (ints l)
  rw [ints_length] at this
  exact this
theorem implKept (l : List Nat) (hn : l.length ≤ 1048576) (p : Nat → Nat → Bool) (C : Int → Int → Option Bool) (L : Nat → List Int → List Int → List Int → Int → Option (List Int))
  (hC : ∀ s ∈ l, ∀ t ∈ l, C (s : Int) (t : Int) = some (!decide (t = s) && p t s))
  (hL : ∀ k q x3 x13, L (k + 1) (ints l) q x3 x13 = if x13 < (q.length : Int) then (if 0 ≤ x13 then ((slices_ContainsFunc_int_int.f k (ints l) (fun t => C (rd q x13) t)).bind fun b => (if b = true then (L k (ints l) q x3 (wrap64 (x13 + 1))) else (if x3.length < 17592186044416 then (L k (ints l) q (x3 ++ [rd q x13]) (wrap64 (x13 + 1))) else (none)))) else (none)) else (some x3)) :
  Ev (fun k => L k (ints l) (sset (ints l)) [] 0) (kept p l) := by
 obtain ⟨q, hq, hmem, hlen⟩ := sset_nat l
 unfold kept
 rw [← sset_filter, hq]
 have key := Gen.ev_loop (fun k (s : List Int) i => L k (ints l) (ints q) s i) q.length (fun i s => if (!l.any fun t => !decide (t = q.getD i 0) && p t (q.getD i 0)) = true then s ++ [((q.getD i 0 : Nat) : Int)] else s) (fun i s => s.length ≤ i) ((ints q).filter fun x => !l.any fun t => !decide (t = x.toNat) && p t x.toNat) (fun i s hi hP => ⟨?_, fun h => ?_⟩) q.length 0 [] (by omega) (by simp) (fun _ => ?_)
 ·exact key
 ·show (if _ then _ else _ : List Int).length ≤ _
  split
  ·simp; omega
  ·omega
 ·have hqi : q.getD i 0 ∈ l := (hmem _).1 (getD_mem q 0 i hi)
  refine Ev.step (f := fun k => (slices_ContainsFunc_int_int.f k (ints l) (fun t => C ((q.getD i 0 : Nat) : Int) t)).bind fun b => (if b = true then (L k (ints l) (ints q) s ((i + 1 : Nat) : Int)) else (L k (ints l) (ints q) (s ++ [((q.getD i 0 : Nat) : Int)]) ((i + 1 : Nat) : Int)))) (fun k => ?_) ?_
  ·show L (k + 1) (ints l) (ints q) s (i : Int) = _
   rw [hL, if_pos (by rw [ints_length]; omega), if_pos (by omega), ints_rd, Gen.w64s i (by omega), if_pos (by omega)]
  ·refine Ev.bind (Gen.ev_at (l.length + 1) (fun k hk => Mat.containsFunc _ l (fun t => !decide (t = q.getD i 0) && p t (q.getD i 0)) hn (fun t ht => hC _ hqi t ht) k (by omega))) ?_
   cases hb : l.any fun t => !decide (t = q.getD i 0) && p t (q.getD i 0) with
   | true =>
    rw [hb] at h
    simpa using h
   | false =>
    rw [hb] at h
    simpa using h
 ·refine Ev.step (f := fun _ => some ((ints q).filter fun x => !l.any fun t => !decide (t = x.toNat) && p t x.toNat)) (fun k => ?_) (Ev.now _)
  show L (k + 1) (ints l) (ints q) _ _ = _
  rw [hL, if_neg (by rw [ints_length]; omega)]
  congr 1
  have e : ∀ (r : List Nat) (s : List Int), r.foldl (fun s i => if (!l.any fun t => !decide (t = i) && p t i) = true then s ++ [((i : Nat) : Int)] else s) s = s ++ (ints r).filter fun x => !l.any fun t => !decide (t = x.toNat) && p t x.toNat := by
   intro r
   induction r with
   | nil => intro s; simp [ints]
   | cons a r ih =>
    intro s
    rw [List.foldl_cons, ih]
    show _ = s ++ ((a : Int) :: ints r).filter _
    rw [List.filter_cons]
    simp only [Int.toNat_natCast]
    split
    ·simp
    ·rfl
  rw [foldl_index q (fun s i => if (!l.any fun t => !decide (t = i) && p t i) = true then s ++ [((i : Nat) : Int)] else s) [], e]
  simp
theorem specKeep (l : List Nat) (hl : ∀ s ∈ l, s < 256) (hn : l.length ≤ 1048576) (p : Nat → Nat → Bool) (L0 : Nat → List Int → List Int → Int → Option (List Int)) (L1 : Nat → List Int → List Int → Int → Bool → Int → Option (List Int))
  (h0 : ∀ k x3 (i : Nat), i < l.length → L0 (k + 1) (ints l) x3 (i : Int) = L1 k (ints l) x3 (i : Int) true 0)
  (hend : ∀ k x3, L0 (k + 1) (ints l) x3 (l.length : Int) = (spec_SortSets.f k x3).bind fun t => some t)
  (h1 : ∀ k x3 (i j : Nat) (b : Bool), i < l.length → j < l.length → L1 (k + 1) (ints l) x3 (i : Int) b (j : Int) = L1 k (ints l) x3 (i : Int) (b && !(!decide (l.getD j 0 = l.getD i 0) && p (l.getD j 0) (l.getD i 0))) ((j + 1 : Nat) : Int))
  (h2 : ∀ k x3 (i : Nat) (b : Bool), i < l.length → x3.length < 17592186044416 → L1 (k + 1) (ints l) x3 (i : Int) b (l.length : Int) = if b = true then L0 k (ints l) (x3 ++ [((l.getD i 0 : Nat) : Int)]) ((i + 1 : Nat) : Int) else L0 k (ints l) x3 ((i + 1 : Nat) : Int)) :
  Ev (fun k => L0 k (ints l) [] 0) (kept p l) := by
 have key := Gen.ev_loop (fun k (s : List Int) i => L0 k (ints l) s i) l.length (fun i s => if (!l.any fun t => !decide (t = l.getD i 0) && p t (l.getD i 0)) = true then s ++ [((l.getD i 0 : Nat) : Int)] else s) (fun i s => s.length ≤ i) (kept p l) (fun i s hi hP => ⟨?_, fun h => ?_⟩) l.length 0 [] (by omega) (by simp) (fun hP => ?_)
 ·exact key
 ·show (if _ then _ else _ : List Int).length ≤ _
  split
  ·simp; omega
  ·omega
 ·refine Ev.step (f := fun k => L1 k (ints l) s (i : Int) true 0) (fun k => h0 k s i hi) ?_
  have inner := Gen.ev_loop (fun k (b : Bool) j => L1 k (ints l) s (i : Int) b j) l.length (fun j b => b && !(!decide (l.getD j 0 = l.getD i 0) && p (l.getD j 0) (l.getD i 0))) (fun _ _ => True) (kept p l) (fun j b hj _ => ⟨trivial, fun h => Ev.step (fun k => h1 k s i j b hi hj) h⟩) l.length 0 true (by omega) trivial (fun _ => ?_)
  ·exact inner
  ·have e : ∀ (r : List Nat) (b : Bool), r.foldl (fun b t => b && !(!decide (t = l.getD i 0) && p t (l.getD i 0))) b = (b && !r.any fun t => !decide (t = l.getD i 0) && p t (l.getD i 0)) := by
    intro r
    induction r with
    | nil => intro b; simp
    | cons a r ih =>
     intro b
     rw [List.foldl_cons, ih, List.any_cons, Bool.not_or, Bool.and_assoc]
   have e2 := foldl_index l (fun b t => b && !(!decide (t = l.getD i 0) && p t (l.getD i 0))) true
   rw [e, Bool.true_and] at e2
   rw [e2]
   refine Ev.step (fun k => h2 k s i _ hi (by omega)) ?_
   split
   ·rename_i hb
    rw [if_pos hb] at h
    exact h
   ·rename_i hb
    rw [if_neg hb] at h
    exact h
 ·have e : ∀ (r : List Nat) (s : List Int), r.foldl (fun s i => if (!l.any fun t => !decide (t = i) && p t i) = true then s ++ [((i : Nat) : Int)] else s) s = s ++ ints (r.filter fun i => !l.any fun t => !decide (t = i) && p t i) := by
   intro r
   induction r with
   | nil => intro s; simp [ints]
   | cons a r ih =>
    intro s
    rw [List.foldl_cons, ih, List.filter_cons]
    split
    ·simp [ints]
    ·rfl
  have e2 := foldl_index l (fun s i => if (!l.any fun t => !decide (t = i) && p t i) = true then s ++ [((i : Nat) : Int)] else s) ([] : List Int)
  rw [e, List.nil_append] at e2
  rw [e2]
  refine Ev.step (f := fun k => (spec_SortSets.f k (ints (l.filter fun i => !l.any fun t => !decide (t = i) && p t i))).bind fun t => some t) (fun k => hend k _) ?_
  refine Ev.bind (specSort _ ?_) (Ev.now _)
  rw [ints_length]
  exact Nat.le_trans (List.length_filter_le _ _) hn
end Go.Proofs.Ytmpodackojmojaa.Mini
end
section
namespace Go.Proofs.Ytmpodackojmojaa.MinorP
open Go.RowKit Go.Proofs.Ytmpodackojmojaa.Pr Go.Proofs.Ytmpodackojmojaa.Sets Go.Proofs.Ytmpodackojmojaa.Mat Go.Proofs.Ytmpodackojmojaa.Rank Go.Proofs.Ytmpodackojmojaa.Flat Go.Proofs.Ytmpodackojmojaa.Size Go.Proofs.Ytmpodackojmojaa.Sort Go.Proofs.Ytmpodackojmojaa.Aug Go.Proofs.Ytmpodackojmojaa.Mini Go.Proofs.YtmpodackojmojaaW.PrintWords Go.Proofs.YtmpodackojmojaaW.PrintLast Go.Proofs.YtmpodackojmojaaW.PrintMore
set_option linter.unusedVariables false
theorem sset_ints {l q : List Nat} (hq : q.Pairwise (· < ·)) (h : ∀ s, s ∈ l ↔ s ∈ q) : sset (ints l) = ints q := by
 refine same_of _ _ (sset_sorted _) ?_ fun x => ?_
 ·unfold ints
  rw [List.pairwise_map]
  exact hq.imp fun h => by omega
 ·rw [mem_sset, mem_ints, mem_ints]
  constructor
  ·rintro ⟨y, hy, rfl⟩; exact ⟨y, (h y).1 hy, rfl⟩
  ·rintro ⟨y, hy, rfl⟩; exact ⟨y, (h y).2 hy, rfl⟩
theorem range_asc (n m : Nat) : (List.range' n m).Pairwise (· < ·) := List.pairwise_lt_range'
theorem isMat_of {m : Nat} (hm : m ≤ 8) {l : List Nat} (hl : ∀ s ∈ l, s < 2 ^ m) (hs : l.Pairwise (· < ·)) (hn : 0 < l.length) (hf : fails l = false) : isMat (m : Int) (ints l) = true := by
 unfold isMat
 rw [toNat_ints, hf, ints_length, decide_eq_true hn, Bool.and_true, Bool.not_false, Bool.and_true]
 unfold fam
 rw [decide_eq_true (show (0 : Int) ≤ (m : Int) ∧ (m : Int) ≤ 8 by omega), Bool.and_true, List.all_eq_true]
 intro i hi
 have hi' := List.mem_range'_1.1 hi
 rw [ints_length] at hi'
 rw [ints_getD, ints_getD, isSet_of hm (hl _ (getD_mem l 0 i (by omega))), Bool.true_and]
 by_cases h0 : i = 0
 ·rw [decide_eq_true h0]; rfl
 ·have := List.pairwise_iff_getElem.1 hs (i - 1) i (by omega) (by omega) (by omega)
  have e1 : l.getD (i - 1) 0 = l[i - 1] := by simp [List.getD, show i - 1 < l.length by omega]
  have e2 : l.getD i 0 = l[i] := by simp [List.getD, show i < l.length by omega]
  have h3 : decide (((l[i - 1] : Nat) : Int) < ((l[i] : Nat) : Int)) = true := decide_eq_true (by omega)
  rw [e1, e2, h3, Bool.or_true]
theorem maxes_asc (m : Nat) (P : Nat → Bool) : (maxes m P).Pairwise (· < ·) := (range_asc _ _).filter _
theorem maxes_length (m : Nat) (hm : m ≤ 8) (P : Nat → Bool) : (maxes m P).length ≤ 256 := by
 unfold maxes
 refine Nat.le_trans (List.length_filter_le _ _) ?_
 rw [List.length_range']
 exact pow_le_256 hm
theorem maxes_isMat {m : Nat} (hm : m ≤ 8) {P : Nat → Bool} (h : Ind m P) : isMat (m : Int) (ints (maxes m P)) = true :=
 isMat_of hm (fun s hs => (mem_maxes.1 hs).1) (maxes_asc m P) (h.some hm) (h.exch hm)
end Go.Proofs.Ytmpodackojmojaa.MinorP
end
section
namespace Go.Proofs.Ytmpodackojmojaa.FromInd
open Go.RowKit Go.Proofs.Ytmpodackojmojaa.Pr Go.Proofs.Ytmpodackojmojaa.Sets Go.Proofs.Ytmpodackojmojaa.Mat Go.Proofs.Ytmpodackojmojaa.Rank Go.Proofs.Ytmpodackojmojaa.Flat Go.Proofs.Ytmpodackojmojaa.Size Go.Proofs.Ytmpodackojmojaa.Sort Go.Proofs.Ytmpodackojmojaa.Moeb Go.Proofs.Ytmpodackojmojaa.Aug Go.Proofs.Ytmpodackojmojaa.Mini Go.Proofs.Ytmpodackojmojaa.MinorP Go.Proofs.YtmpodackojmojaaW.PrintWords Go.Proofs.YtmpodackojmojaaW.PrintLast Go.Proofs.YtmpodackojmojaaW.PrintMore
set_option linter.unusedVariables false
def maxi (l : List Nat) : List Int := kept (fun t s => subs s t) l
theorem implMax (l : List Nat) (hl : ∀ s ∈ l, s < 256) (hn : l.length ≤ 1048576) : Ev (fun k => impl_MaximalSets.f k (ints l)) (maxi l) := by
 unfold impl_MaximalSets.f
 refine Ev.bind (implAny l hl hn) ?_
 simp only [if_true]
 have hs := implSort (ints l) (by rw [ints_length]; exact hn)
 rw [hs]
 simp only [Option.bind_some]
 refine implKept l hn (fun t s => subs s t) impl_MaximalSets_1.f impl_MaximalSets.l0 (fun s hs t ht => ?_) (fun k q x3 x13 => by rw [impl_MaximalSets.l0])
 unfold impl_MaximalSets_1.f
 by_cases e : t = s
 ·subst e
  rw [if_pos rfl]
  simp
 ·rw [if_neg (by omega), implSub s t (hl s hs) (hl t ht), decide_eq_false e]
  simp
theorem specMax (l : List Nat) (hl : ∀ s ∈ l, s < 256) (hn : l.length ≤ 1048576) : Ev (fun k => spec_MaximalSets.f k (ints l)) (maxi l) := by
 unfold spec_MaximalSets.f
 simp only [Option.bind_some]
 refine Ev.bind (specAny l hl hn) ?_
 simp only [if_true]
 refine specKeep l hl hn (fun t s => subs s t) spec_MaximalSets.l0 spec_MaximalSets.l1 (fun k x3 i hi => ?_) (fun k x3 => ?_) (fun k x3 i j b hi hj => ?_) (fun k x3 i b hi hx => ?_)
 ·rw [spec_MaximalSets.l0, if_pos (by rw [ints_length]; omega)]
 ·rw [spec_MaximalSets.l0, if_neg (by rw [ints_length]; omega)]
 ·rw [spec_MaximalSets.l1, if_pos (by rw [ints_length]; omega), Gen.w64s j (by omega)]
  cases b with
  | false => rw [if_neg (by decide), Bool.false_and]
  | true =>
   rw [if_pos rfl, if_pos (by omega), if_pos (by omega), if_pos (by rw [ints_length]; omega), ints_rd, ints_rd, Bool.true_and]
   have hi' := hl _ (getD_mem l 0 i hi)
   have hj' := hl _ (getD_mem l 0 j hj)
   by_cases e : l.getD j 0 = l.getD i 0
   ·rw [if_pos (by omega), decide_eq_true e]
    rfl
   ·rw [if_neg (by omega), decide_eq_false e, and_nat _ _ (by omega) (by omega), Bool.not_false, Bool.true_and]
    congr 1
    unfold subs
    rw [Nat.and_comm]
    by_cases e2 : l.getD i 0 &&& l.getD j 0 = l.getD i 0
    ·rw [e2, decide_eq_true rfl]
     simp
    ·rw [decide_eq_false e2]
     simp only [Bool.not_false, bne_iff_ne, ne_eq]
     omega
 ·rw [spec_MaximalSets.l1, if_neg (by rw [ints_length]; omega)]
  cases b with
  | false => rw [if_neg (by decide), if_neg (by decide), Gen.w64s i (by omega)]
  | true => rw [if_pos rfl, if_pos rfl, if_pos (by omega), if_pos (by rw [ints_length]; omega), if_pos hx, ints_rd, Gen.w64s i (by omega)]
theorem maxi_range (m : Nat) (P : Nat → Bool) : maxi ((List.range' 0 (2 ^ m)).filter P) = ints (maxes m P) := by
 unfold maxi kept
 refine sset_ints (maxes_asc m P) fun s => ?_
 rw [List.mem_filter, List.mem_filter, mem_maxes, Bool.not_eq_true', List.any_eq_false]
 constructor
 ·rintro ⟨⟨h1, h2⟩, h3⟩
  refine ⟨by have := List.mem_range'_1.1 h1; omega, h2, fun t ht hp hs => ?_⟩
  have := h3 t (List.mem_filter.2 ⟨List.mem_range'_1.2 (by omega), hp⟩)
  have e : subs s t = true := by unfold subs; rw [sub_and.2 hs]; exact decide_eq_true rfl
  simpa [e] using this
 ·rintro ⟨h1, h2, h3⟩
  refine ⟨⟨List.mem_range'_1.2 (by omega), h2⟩, fun t ht => ?_⟩
  obtain ⟨ht1, ht2⟩ := List.mem_filter.1 ht
  by_cases e : s &&& t = s
  ·have := h3 t (by have := List.mem_range'_1.1 ht1; omega) ht2 (sub_and.1 e)
   simp [this]
  ·have e2 : subs s t = false := by unfold subs; exact decide_eq_false e
   simp [e2]
theorem range_lt {m : Nat} (hm : m ≤ 8) (P : Nat → Bool) : ∀ s ∈ (List.range' 0 (2 ^ m)).filter P, s < 256 := fun s hs => by
 have := List.mem_range'_1.1 (List.mem_filter.1 hs).1
 have := pow_le_256 hm
 omega
theorem range_len {m : Nat} (hm : m ≤ 8) (P : Nat → Bool) : ((List.range' 0 (2 ^ m)).filter P).length ≤ 1048576 := by
 refine Nat.le_trans (List.length_filter_le _ _) ?_
 rw [List.length_range']
 exact Nat.le_trans (pow_le_256 hm) (by decide)
theorem implFrom {m : Nat} (hm : m ≤ 8) {P : Nat → Bool} (h : Ind m P) : Ev (fun k => impl_fromIndependent.f k (m : Int) (ints ((List.range' 0 (2 ^ m)).filter P))) ((m : Int), ints (maxes m P), true) := by
 unfold impl_fromIndependent.f
 refine Ev.bind (implMax _ (range_lt hm P) (range_len hm P)) ?_
 rw [maxi_range]
 have hM := implMat (m : Int) (ints (maxes m P)) (by rw [ints_length]; exact Nat.le_trans (maxes_length m hm P) (by decide))
 rw [maxes_isMat hm h] at hM
 refine Ev.bind hM ?_
 simp only [if_true]
 exact Ev.now _
end Go.Proofs.Ytmpodackojmojaa.FromInd
end
section
namespace Go.Proofs.Ytmpodackojmojaa.Union
open Go.RowKit Go.Proofs.Ytmpodackojmojaa.Sets Go.Proofs.Ytmpodackojmojaa.Rank Go.Proofs.Ytmpodackojmojaa.Size Go.Proofs.Ytmpodackojmojaa.Aug
set_option linter.unusedVariables false
def timely (up : Nat → Nat) (s : Nat) : Bool := (List.range' 0 7).all fun t => decide (cnt (s &&& up t) ≤ t)
theorem timely_iff {up : Nat → Nat} {s : Nat} : timely up s = true ↔ ∀ t, t ≤ 6 → cnt (s &&& up t) ≤ t := by
 unfold timely
 rw [List.all_eq_true]
 constructor
 ·intro h t ht
  simpa using h t (List.mem_range'_1.2 (by omega))
 ·intro h t ht
  have := List.mem_range'_1.1 ht
  simpa using h t (by omega)
theorem timely_ind {m : Nat} (hm : m ≤ 8) {up : Nat → Nat} (hup : ∀ t, Sub (up t) (up (t + 1))) (hall : ∀ s, s < 2 ^ m → Sub s (up 6)) : Ind m (timely up) := by
 have h256 := pow_le_256 hm
 have hmono : ∀ t d, Sub (up t) (up (t + d)) := by
  intro t d
  induction d with
  | zero => exact Sub.refl _
  | succ d ih => exact ih.trans (hup _)
 refine ⟨timely_iff.2 fun t _ => ?_, fun a b _ hab h => timely_iff.2 fun t ht => ?_, fun a b ha hb h1 h2 hlt => ?_⟩
 ·rw [Nat.zero_and]
  exact Nat.le_trans (Nat.le_of_eq (by decide +kernel : cnt 0 = 0)) (Nat.zero_le _)
 ·exact Nat.le_trans (cnt_sub (and_mono hab (Sub.refl _))) (timely_iff.1 h t ht)
 ·have h1' := timely_iff.1 h1
  have h2' := timely_iff.1 h2
  have key : ∀ d, d ≤ 7 → (∀ t, 7 - d ≤ t → t ≤ 6 → cnt (a &&& up t) < cnt (b &&& up t)) ∨ ∃ t1, 1 ≤ t1 ∧ t1 ≤ 6 ∧ (∀ t, t1 ≤ t → t ≤ 6 → cnt (a &&& up t) < cnt (b &&& up t)) ∧ cnt (b &&& up (t1 - 1)) ≤ cnt (a &&& up (t1 - 1)) := by
   intro d
   induction d with
   | zero => exact fun _ => .inl fun t h3 h4 => absurd h3 (by omega)
   | succ d ih =>
    intro hd
    rcases ih (by omega) with h | h
    ·by_cases hx : cnt (a &&& up (7 - (d + 1))) < cnt (b &&& up (7 - (d + 1)))
     ·refine .inl fun t h3 h4 => ?_
      by_cases e : t = 7 - (d + 1)
      ·rw [e]; exact hx
      ·exact h t (by omega) h4
     ·by_cases hd0 : d = 0
      ·subst hd0
       exfalso
       apply hx
       rw [sub_and.2 (hall a ha), sub_and.2 (hall b hb)]
       exact hlt
      ·refine .inr ⟨7 - d, by omega, by omega, h, ?_⟩
       rw [show 7 - d - 1 = 7 - (d + 1) by omega]
       omega
    ·exact .inr h
  rcases key 7 (by omega) with h | ⟨t1, h3, h4, h5, h6⟩
  ·have := h 0 (by omega) (by omega)
   have := h2' 0 (by omega)
   omega
  ·have hm1 := hmono (t1 - 1) 1
   rw [show t1 - 1 + 1 = t1 by omega] at hm1
   have split : ∀ s, cnt (s &&& up t1) = cnt (s &&& up (t1 - 1)) + cnt (diff (s &&& up t1) (up (t1 - 1))) := fun s => by
    rw [cnt_split (s &&& up t1) (up (t1 - 1))]
    congr 2
    refine sub_antisymm (and_mono (sub_and_left _ _) (Sub.refl _)) (sub_and_of (and_mono (Sub.refl _) hm1) (sub_and_right _ _))
   have h7 := split a
   have h8 := split b
   have h9 := h5 t1 (Nat.le_refl _) h4
   obtain ⟨e, h10, h11⟩ := cnt_more (a := diff (a &&& up t1) (up (t1 - 1))) (b := diff (b &&& up t1) (up (t1 - 1))) (Nat.lt_of_lt_of_le (diff_lt (Nat.lt_of_le_of_lt Nat.and_le_left hb)) h256) (by omega)
   rw [diff_bit, Nat.testBit_and, Bool.and_eq_true, Bool.and_eq_true] at h10
   obtain ⟨⟨hbe, hue⟩, hue'⟩ := h10
   have hae : a.testBit e = false := by
    rw [diff_bit, Nat.testBit_and, hue, hue', Bool.and_true, Bool.and_true] at h11
    exact h11
   have hne : (up (t1 - 1)).testBit e = false := by simpa using hue'
   refine ⟨e, hbe, hae, timely_iff.2 fun t ht => ?_⟩
   by_cases hlt1 : t < t1
   ·have hsame : (a ||| 2 ^ e) &&& up t = a &&& up t := by
     apply Nat.eq_of_testBit_eq
     intro j
     rw [Nat.testBit_and, Nat.testBit_and, or_one]
     by_cases ej : e = j
     ·subst ej
      have : (up t).testBit e = false := by
       cases hu : (up t).testBit e with
       | false => rfl
       | true =>
        have := hmono t (t1 - 1 - t) e hu
        rw [show t + (t1 - 1 - t) = t1 - 1 by omega, hne] at this
        exact Bool.noConfusion this
      rw [this]
      simp
     ·simp [ej]
    rw [hsame]
    exact h1' t ht
   ·have hle : cnt ((a ||| 2 ^ e) &&& up t) ≤ cnt (a &&& up t) + 1 := by
     have e8 := bit_lt8 (a := b) (by omega) hbe
     rw [← cnt_or_bit (a := a &&& up t) e8 (by rw [Nat.testBit_and, hae]; rfl)]
     refine cnt_sub fun j hj => ?_
     rw [Nat.testBit_and, or_one, Bool.and_eq_true] at hj
     rw [or_one, Nat.testBit_and, hj.2, Bool.and_true]
     exact hj.1
    have := h5 t (by omega) ht
    have := h2' t ht
    omega
end Go.Proofs.Ytmpodackojmojaa.Union
end
section
namespace Go.Proofs.Ytmpodackojmojaa.TaskMat
open Go.RowKit Go.Proofs.Ytmpodackojmojaa.Pr Go.Proofs.Ytmpodackojmojaa.Base Go.Proofs.Ytmpodackojmojaa.Sets Go.Proofs.Ytmpodackojmojaa.Mat Go.Proofs.Ytmpodackojmojaa.Rank Go.Proofs.Ytmpodackojmojaa.Flat Go.Proofs.Ytmpodackojmojaa.Size Go.Proofs.Ytmpodackojmojaa.Sort Go.Proofs.Ytmpodackojmojaa.Aug Go.Proofs.Ytmpodackojmojaa.Mini Go.Proofs.Ytmpodackojmojaa.MinorP Go.Proofs.Ytmpodackojmojaa.FromInd Go.Proofs.Ytmpodackojmojaa.Union Go.Proofs.Ytmpodackojmojaa.Task Go.Proofs.YtmpodackojmojaaW.PrintWords Go.Proofs.YtmpodackojmojaaW.PrintLast Go.Proofs.YtmpodackojmojaaW.PrintMore
set_option linter.unusedVariables false
def bitsOf (p : Nat → Bool) : Nat → Nat
 | 0 => 0
 | n + 1 => bitsOf p n ||| (if p n = true then 2 ^ n else 0)
theorem bitsOf_bit (p : Nat → Bool) (j : Nat) : ∀ n, (bitsOf p n).testBit j = (decide (j < n) && p j)
 | 0 => by simp [bitsOf]
 | n + 1 => by
  unfold bitsOf
  rw [Nat.testBit_or, bitsOf_bit p j n]
  by_cases e : j = n
  ·subst e
   cases hp : p j with
   | true => simp
   | false => simp
  ·have h2 : (if p n = true then 2 ^ n else 0).testBit j = false := by
    split
    ·rw [Nat.testBit_two_pow]
     exact decide_eq_false (fun h => e h.symm)
    ·exact Nat.zero_testBit j
   rw [h2, Bool.or_false]
   by_cases hl : j < n
   ·rw [decide_eq_true hl, decide_eq_true (by omega)]
   ·rw [decide_eq_false hl, decide_eq_false (by omega)]
def up (xs : List TB) (t : Nat) : Nat := bitsOf (fun j => decide (dl xs j ≤ (t : Int))) xs.length
theorem insr_perm (lt : Nat → Nat → Bool) (x : Nat) : ∀ r : List Nat, (SortF.insr lt x r).Perm (x :: r)
 | [] => List.Perm.refl _
 | y :: r => by
  unfold SortF.insr
  split
  ·exact ((insr_perm lt x r).cons y).trans (List.Perm.swap x y r)
  ·exact List.Perm.refl _
theorem insl_perm (lt : Nat → Nat → Bool) (l : List Nat) : (SortF.insl lt l).Perm l := by
 unfold SortF.insl
 refine (List.reverse_perm _).trans ?_
 have key : ∀ (l r : List Nat), (l.foldl (fun r x => SortF.insr lt x r) r).Perm (l ++ r) := by
  intro l
  induction l with
  | nil => exact fun r => List.Perm.refl _
  | cons x l ih =>
   intro r
   rw [List.foldl_cons]
   refine (ih _).trans ?_
   refine ((insr_perm lt x r).append_left l).trans ?_
   rw [List.cons_append]
   exact List.perm_middle
 have := key l []
 rwa [List.append_nil] at this
theorem insr_sorted (xs : List TB) (x : Nat) : ∀ r : List Nat, r.Pairwise (fun a b => dl xs b ≤ dl xs a) → (SortF.insr (ltd xs) x r).Pairwise (fun a b => dl xs b ≤ dl xs a)
 | [], _ => by simp [SortF.insr]
 | y :: r, h => by
  obtain ⟨h1, h2⟩ := List.pairwise_cons.1 h
  unfold SortF.insr
  by_cases hl : ltd xs x y = true
  ·rw [if_pos hl]
   have hlt : dl xs x < dl xs y := of_decide_eq_true hl
   refine List.pairwise_cons.2 ⟨fun z hz => ?_, insr_sorted xs x r h2⟩
   rcases (SortF.insr_mem (ltd xs) x r z).1 hz with e | e
   ·subst e; omega
   ·exact h1 z e
  ·rw [if_neg hl]
   have hlt : ¬ dl xs x < dl xs y := fun h => hl (decide_eq_true h)
   refine List.pairwise_cons.2 ⟨fun z hz => ?_, h⟩
   rcases List.mem_cons.1 hz with e | e
   ·subst e; omega
   ·have := h1 z e
    omega
theorem ord_sorted (xs : List TB) (s : Nat) : (ordOf xs s).Pairwise (fun a b => dl xs a ≤ dl xs b) := by
 unfold ordOf SortF.insl
 rw [List.pairwise_reverse]
 have key : ∀ (l r : List Nat), r.Pairwise (fun a b => dl xs b ≤ dl xs a) → (l.foldl (fun r x => SortF.insr (ltd xs) x r) r).Pairwise (fun a b => dl xs b ≤ dl xs a) := by
  intro l
  induction l with
  | nil => exact fun r h => h
  | cons x l ih => exact fun r h => ih _ (insr_sorted xs x r h)
 exact key _ [] List.Pairwise.nil
theorem ahead (xs : List TB) (t : Int) : ∀ (l : List Nat), l.Pairwise (fun a b => dl xs a ≤ dl xs b) → ∀ i, i < l.length → (dl xs (l.getD i 0) ≤ t ↔ i < l.countP fun j => decide (dl xs j ≤ t))
 | [], _, i, hi => absurd hi (Nat.not_lt_zero _)
 | x :: l, h, i, hi => by
  obtain ⟨h1, h2⟩ := List.pairwise_cons.1 h
  by_cases hx : dl xs x ≤ t
  ·have e := List.countP_cons_of_pos (p := fun j => decide (dl xs j ≤ t)) (l := l) (a := x) (decide_eq_true hx)
   rw [e]
   cases i with
   | zero => exact ⟨fun _ => by omega, fun _ => hx⟩
   | succ i =>
    have := ahead xs t l h2 i (by rw [List.length_cons] at hi; omega)
    rw [List.getD_cons_succ]
    omega
  ·have hz : (x :: l).countP (fun j => decide (dl xs j ≤ t)) = 0 := by
    rw [List.countP_eq_zero]
    intro z hz
    rcases List.mem_cons.1 hz with e | e
    ·subst e; simpa using hx
    ·have := h1 z e
     simp; omega
   rw [hz]
   constructor
   ·intro h3
    exfalso
    cases i with
    | zero => exact hx h3
    | succ i =>
     rw [List.getD_cons_succ, getD_at l 0 (by rw [List.length_cons] at hi; omega)] at h3
     have := h1 _ (List.getElem_mem (l := l) (n := i) (by rw [List.length_cons] at hi; omega))
     omega
   ·intro h3
    omega
theorem cnt_up {xs : List TB} {s : Nat} (h8 : xs.length ≤ 8) (hs : s < 2 ^ xs.length) (t : Nat) : cnt (s &&& up xs t) = (ordOf xs s).countP fun j => decide (dl xs j ≤ (t : Int)) := by
 have hp : (ordOf xs s).countP (fun j => decide (dl xs j ≤ (t : Int))) = (elems s).countP (fun j => decide (dl xs j ≤ (t : Int))) := (insl_perm (ltd xs) (elems s)).countP_eq _
 rw [hp, List.countP_eq_length_filter]
 unfold cnt elems
 rw [List.filter_filter]
 congr 1
 refine List.filter_congr fun j _ => ?_
 rw [Nat.testBit_and]
 unfold up
 rw [bitsOf_bit]
 by_cases hb : s.testBit j = true
 ·have hj : j < xs.length := by
   refine Nat.lt_of_not_le fun hle => ?_
   rw [bit_far hs hle] at hb
   cases hb
  rw [hb, decide_eq_true hj, Bool.true_and, Bool.true_and, Bool.and_true]
 ·have hb' : s.testBit j = false := by simpa using hb
  rw [hb', Bool.false_and, Bool.and_false]
theorem fits_timely {xs : List TB} {s : Nat} (h : all xs = true) (hs : s < 2 ^ xs.length) : fits xs (ordOf xs s) = timely (up xs) s := by
 obtain ⟨h8, hg⟩ := all_good h
 have hso := ord_sorted xs s
 have hmem : ∀ i, i < (ordOf xs s).length → (ordOf xs s).getD i 0 < xs.length := fun i hi => by
  have h1 : (ordOf xs s).getD i 0 ∈ elems s := (ord_mem xs s _).1 (by rw [getD_at _ _ hi]; exact List.getElem_mem _)
  have hb := (elems_lt h1).2
  refine Nat.lt_of_not_le fun hle => ?_
  rw [bit_far hs hle] at hb
  cases hb
 rw [Bool.eq_iff_iff, timely_iff]
 unfold fits
 rw [List.all_eq_true]
 constructor
 ·intro hf t ht
  rw [cnt_up h8 hs]
  refine Nat.le_of_not_lt fun hlt => ?_
  have hl : t < (ordOf xs s).length := Nat.lt_of_lt_of_le hlt List.countP_le_length
  have h1 := (ahead xs (t : Int) _ hso t hl).2 hlt
  have h2 := of_decide_eq_true (hf t (List.mem_range'_1.2 (by omega)))
  omega
 ·intro ht i hi
  have hi' := List.mem_range'_1.1 hi
  have hl : i < (ordOf xs s).length := by omega
  have hd := hg _ (hmem i hl)
  have h1 := (ahead xs (((dl xs ((ordOf xs s).getD i 0)).toNat : Nat) : Int) _ hso i hl).1 (by omega)
  have h2 := ht (dl xs ((ordOf xs s).getD i 0)).toNat (by omega)
  rw [cnt_up h8 hs] at h2
  exact decide_eq_true (by omega)
theorem task_ind {xs : List TB} (h : all xs = true) : Ind xs.length (timely (up xs)) := by
 obtain ⟨h8, hg⟩ := all_good h
 refine timely_ind h8 (fun t j hj => ?_) (fun s hs j hj => ?_)
 ·unfold up at hj ⊢
  rw [bitsOf_bit, Bool.and_eq_true] at hj ⊢
  exact ⟨hj.1, decide_eq_true (by have := of_decide_eq_true hj.2; omega)⟩
 ·have hl : j < xs.length := by
   refine Nat.lt_of_not_le fun hle => ?_
   rw [bit_far hs hle] at hj
   cases hj
  unfold up
  rw [bitsOf_bit, decide_eq_true hl, Bool.true_and]
  exact decide_eq_true (by have := hg j hl; omega)
theorem isSet_lt {m s : Nat} (hm : m ≤ 8) (hs : s < 2 ^ m) : isSet (m : Int) (s : Int) = true := by
 unfold isSet
 refine decide_eq_true ⟨by omega, by omega, by omega, ?_⟩
 rw [Int.toNat_natCast]
 exact_mod_cast hs
theorem plan_ok {xs : List TB} {s : Nat} (h : all xs = true) (hs : s < 2 ^ xs.length) : (plan xs (s : Int)).2 = timely (up xs) s := by
 unfold plan
 rw [h, isSet_lt (all_good h).1 hs, Bool.true_and, if_pos rfl, Int.toNat_natCast, fits_timely h hs]
 cases timely (up xs) s <;> rfl
def bas (xs : List TB) : List Nat := maxes xs.length (timely (up xs))
def tm (xs : List TB) : Int × List Int := if all xs = true then ((xs.length : Int), ints (bas xs)) else (0, [])
theorem bas_length {xs : List TB} (h : all xs = true) : (bas xs).length ≤ 256 := maxes_length _ (all_good h).1 _
theorem tm_length (xs : List TB) : (tm xs).2.length ≤ 256 := by
 unfold tm
 split
 ·rename_i h
  rw [ints_length]
  exact bas_length h
 ·exact Nat.zero_le _
theorem implTM (xs : List TB) (hn : xs.length ≤ 1048576) : Ev (fun k => impl_TaskMatroid.f k xs) (tm xs) := by
 unfold impl_TaskMatroid.f tm
 refine Ev.bind (Gen.ev_at (xs.length + 1) (fun k hk => implAre xs hn k (by omega))) ?_
 cases ha : all xs with
 | false =>
  simp only [Bool.false_eq_true, if_false]
  exact Ev.now _
 | true =>
  simp only [if_true]
  have h8 := (all_good ha).1
  refine Ev.bind (implSetsOf xs.length h8 (fun k s => impl_TaskMatroid_1.f k xs s) (timely (up xs)) (fun s hs => ?_) (fun k s => impl_TaskMatroid_1.mono xs s k)) ?_
  ·unfold impl_TaskMatroid_1.f
   refine Ev.bind (implPlan xs (s : Int) hn) ?_
   rw [plan_ok ha hs]
   exact Ev.now _
  ·refine Ev.bind (implFrom h8 (task_ind ha)) ?_
   exact Ev.now _
theorem filter_succ' (p : Nat → Bool) (i : Nat) : ints ((List.range' 0 (i + 1)).filter p) = if p i = true then ints ((List.range' 0 i).filter p) ++ [(i : Int)] else ints ((List.range' 0 i).filter p) := by
 rw [filter_succ]
 by_cases h : p i = true
 ·rw [if_pos h, if_pos h]
  simp [ints]
 ·rw [if_neg h, if_neg h]
  simp
theorem specTM (xs : List TB) (hn : xs.length ≤ 1048576) : Ev (fun k => spec_TaskMatroid.f k xs) (tm xs) := by
 unfold spec_TaskMatroid.f tm
 refine Ev.bind (Gen.ev_at (xs.length + 1) (fun k hk => specAre xs hn k (by omega))) ?_
 cases ha : all xs with
 | false =>
  simp only [Bool.false_eq_true, if_false]
  exact Ev.now _
 | true =>
  simp only [if_true]
  have h8 := (all_good ha).1
  have h256 := pow_le_256 h8
  have hpos : 0 < 2 ^ xs.length := Nat.pow_pos (by decide)
  have key : ∀ d i : Nat, i + d = 2 ^ xs.length → Ev (fun k => spec_TaskMatroid.l0 k xs (ints ((List.range' 0 i).filter (timely (up xs)))) (i : Int)) ((xs.length : Int), ints (bas xs)) := by
   intro d
   induction d with
   | zero =>
    intro i hi
    obtain rfl : i = 2 ^ xs.length := by omega
    refine Ev.step (f := fun k => (spec_MaximalSets.f k (ints ((List.range' 0 (2 ^ xs.length)).filter (timely (up xs))))).bind fun t480 => (some ((xs.length : Int), t480))) (fun k => ?_) ?_
    ·simp only [spec_TaskMatroid.l0]
     rw [full_spec xs.length h8]
     simp only [Option.bind_some]
     rw [if_neg (by omega)]
    ·refine Ev.bind (specMax _ (range_lt h8 _) (range_len h8 _)) ?_
     rw [maxi_range]
     exact Ev.now _
   | succ d ih =>
    intro i hi
    have hn2 := ih (i + 1) (by omega)
    rw [filter_succ'] at hn2
    have hfl : (ints ((List.range' 0 i).filter (timely (up xs)))).length < 17592186044416 := by
     have := filter_le (timely (up xs)) i
     rw [ints_length]
     omega
    refine Ev.step (f := fun k => (spec_PlanOf.f k xs (i : Int)).bind fun bt => (if bt.2 = true then (spec_TaskMatroid.l0 k xs (ints ((List.range' 0 i).filter (timely (up xs))) ++ [(i : Int)]) ((i + 1 : Nat) : Int)) else (spec_TaskMatroid.l0 k xs (ints ((List.range' 0 i).filter (timely (up xs)))) ((i + 1 : Nat) : Int)))) (fun k => ?_) ?_
    ·simp only [spec_TaskMatroid.l0]
     rw [full_spec xs.length h8]
     simp only [Option.bind_some]
     rw [if_pos (by omega), Gen.w64s i (by omega)]
     simp only [if_pos hfl]
    ·refine Ev.bind (specPlan xs (i : Int) hn) ?_
     rw [plan_ok ha (by omega)]
     by_cases hp : timely (up xs) i = true
     ·simp only [if_pos hp] at hn2 ⊢
      exact hn2
     ·simp only [if_neg hp] at hn2 ⊢
      exact hn2
  exact key (2 ^ xs.length) 0 (by omega)
end Go.Proofs.Ytmpodackojmojaa.TaskMat
end
section
namespace Go.Proofs.Ytmpodackojmojaa.Pure
open Go.RowKit Go.Proofs.Ytmpodackojmojaa.Pr Go.Proofs.Ytmpodackojmojaa.Base Go.Proofs.Ytmpodackojmojaa.Sets Go.Proofs.Ytmpodackojmojaa.Mat Go.Proofs.Ytmpodackojmojaa.Task Go.Proofs.Ytmpodackojmojaa.TaskMat Go.Proofs.YtmpodackojmojaaW.PrintWords Go.Proofs.YtmpodackojmojaaW.PrintLast Go.Proofs.YtmpodackojmojaaW.PrintMore
set_option linter.unusedVariables false
theorem FnExactTaskMatroid (xs : List TA) (hm : xs.length ≤ maxLen) : ∃ k, laws_FnExactTaskMatroid.f k xs = some true := by
 refine Ev.rounds ?_
 unfold maxLen at hm
 unfold laws_FnExactTaskMatroid.f laws_szTaskS.f
 rw [Gen.w64 (by omega) (by omega)]
 by_cases hbig : 1048576 - (xs.length : Int) < 0
 ·simp only [if_pos hbig, Option.bind_some]
  exact Ev.now _
 ·simp only [if_neg hbig, Option.bind_some]
  have hn : xs.length ≤ 1048576 := by omega
  have hn' : (xs.map mkTask).length ≤ 1048576 := by simpa using hn
  have hl := tm_length (xs.map mkTask)
  have hto := toTaskSE xs hn
  have hi := implTM (xs.map mkTask) hn'
  have hs := specTM (xs.map mkTask) hn'
  generalize hP : tm (xs.map mkTask) = P at hi hs hl
  obtain ⟨n, bs⟩ := P
  have hb : bs.length ≤ 1048576 := by have : bs.length ≤ 256 := hl; omega
  have EU := eqMatroid n bs hb
  obtain ⟨ys, hys⟩ := markTaskS (xs.map mkTask) hn'
  have hh := heldMat n 1 bs.length hb (by decide) (by decide)
  refine Ev.bind hto (Ev.bind hs (Ev.bind hto (Ev.bind hi (Ev.bind EU ?_))))
  simp only [if_true]
  refine Ev.bind hto (Ev.bind (eqTaskSE (xs.map mkTask) hn') ?_)
  simp only [if_true]
  refine Ev.bind hys ?_
  simp only [if_neg (show ¬ ((1 : Int) + 2 * ((xs.map mkTask).length : Int) < 0) by omega)]
  refine Ev.bind EU ?_
  simp only [Bool.not_true]
  refine Ev.step (f := fun k => ((laws_markMatroid.f k n bs 1).bind fun bt540 => ((laws_heldMatroid.f k n bt540.2 1).bind fun t542 => (if t542 < 0 then (some false) else (if t542 = bt540.1 then ((laws_toTaskS.f k xs).bind fun t543 => ((impl_TaskMatroid.f k t543).bind fun bt546 => ((laws_eqMatroid.f k bt546.1 bt546.2 n bs).bind fun t551 => (if t551 = true then ((laws_heldMatroid.f k n bt540.2 1).bind fun t552 => (if t552 < 0 then (some false) else (if t552 = bt540.1 then (some true) else (some false)))) else (some false))))) else (some false)))))) (fun k => ?_) (Ev.bind (markMatroid n bs 1 hb (by decide) (by decide)) (Ev.bind hh ?_))
  ·simp only [laws_FnExactTaskMatroid.j0, Bool.false_eq_true, if_false]
  ·simp only [if_neg (show ¬ ((1 : Int) + (bs.length : Int) < 0) by omega), if_true]
   refine Ev.bind hto (Ev.bind hi (Ev.bind EU ?_))
   simp only [if_true]
   refine Ev.bind hh ?_
   simp only [if_neg (show ¬ ((1 : Int) + (bs.length : Int) < 0) by omega), if_true]
   exact Ev.now _
end Go.Proofs.Ytmpodackojmojaa.Pure
end
section
namespace Go.Proofs.Ytmpodackojmojaa.Open
open Go.ChangeShapes Go.WideShapes Go.RowKit Go.Proofs.YtmpodackojmojaaW.PrintWords Go.Deep
set_option linter.unusedVariables false
structure Opens {α : Type} (P : Program) (d : Kd α) (t : TypeId) (Wf : α → Prop) : Prop where
 go : ∀ (H : Type) (enc : TypeId × Value → H) (w : World) (base : Nat) (spare : Nat → Bool) (held : Bool) (fuel : Nat) (cs : List Value) (x : DataW H × List MemPlace),
  DataW.trod enc P w base spare held fuel t cs = some x → ∃ a, d.K w a cs ∧ Wf a
theorem Opens.int {P : Program} {t : TypeId} {k : IntKind} (ht : P.underlying t = some (.int k)) : Opens P (Kd.int k) t (fun n => (Lit.int k n).wf = true) := by
 refine ⟨fun H enc w base spare held fuel cs x h => ?_⟩
 obtain ⟨n, rfl, _, hw⟩ := DataW.trod_int ht h
 exact ⟨n, rfl, hw⟩
theorem Opens.bool {P : Program} {t : TypeId} (ht : P.underlying t = some .bool) : Opens P Kd.bool t (fun _ => True) := by
 refine ⟨fun H enc w base spare held fuel cs x h => ?_⟩
 obtain ⟨n, rfl, _⟩ := DataW.trod_bool ht h
 exact ⟨n, rfl, trivial⟩
theorem list_of {α : Type} {p : Nat → α → Prop} : ∀ {len : Nat}, (∀ i, i < len → ∃ y, p i y) → ∃ xs : List α, xs.length = len ∧ ∀ i y, xs[i]? = some y → p i y := by
 intro len
 induction len with
 | zero => exact fun _ => ⟨[], rfl, fun i y h => by simp at h⟩
 | succ len ih =>
  intro key
  obtain ⟨xs, hxl, hxs⟩ := ih (fun i hi => key i (by omega))
  obtain ⟨y, hy⟩ := key len (by omega)
  refine ⟨xs ++ [y], by simp [hxl], fun i z hz => ?_⟩
  by_cases hi : i < xs.length
  ·rw [List.getElem?_append_left hi] at hz
   exact hxs i z hz
  ·have hlt : i < (xs ++ [y]).length := (List.getElem?_eq_some_iff.1 hz).1
   have e : i = len := by simp [hxl] at hlt hi; omega
   subst e
   rw [List.getElem?_append_right (by omega), hxl] at hz
   simp at hz
   subst hz
   exact hy
theorem Opens.slice {α : Type} {P : Program} {t e : TypeId} {d : Kd α} {Wf : α → Prop} (ht : P.underlying t = some (.slice e)) (hs : P.cellsOf e = d.sz) (h : Opens P d e Wf) :
  Opens P (Kd.slice e d) t (fun xs => xs.length ≤ maxLen ∧ ∀ x ∈ xs, Wf x) := by
 refine ⟨fun H enc w base spare held fuel cs x hx => ?_⟩
 rcases open_slice ht hx with ⟨rfl, _⟩ | ⟨a, len, cap, m, n, D, Pl, rfl, hb, hl, hm, hmm, _, hel⟩
 ·exact ⟨[], ⟨none, 0, rfl, Nat.le_refl _, rfl, by simp, fun h => absurd h (by simp)⟩, by simp, by simp⟩
 ·have hlm : len ≤ m := by rw [hmm]; split <;> omega
  have key : ∀ i, i < len → ∃ y : α, (∃ cs', w.cells? base (a.add (i * P.cellsOf e)) (P.cellsOf e) = some cs' ∧ d.K w y cs') ∧ Wf y := fun i hi => by
   obtain ⟨cs', h1, h2⟩ := hel i (by omega)
   obtain ⟨y, h3, h4⟩ := h.go _ enc w base spare held n cs' _ h2
   exact ⟨y, ⟨cs', h1, h3⟩, h4⟩
  obtain ⟨xs, hxl, hxs⟩ := list_of key
  refine ⟨xs, ⟨some a, cap, by rw [hxl], by omega, rfl, by have := hm; unfold maxLen at this; omega, fun _ => ⟨a, rfl, fun j p hj => ?_⟩⟩, by omega, fun y hy => ?_⟩
  ·obtain ⟨⟨cs', h1, h2⟩, _⟩ := hxs j p hj
   obtain ⟨_, h3, h4⟩ := World.cells?_some h1
   refine ⟨cs', by rw [h3, hs], h2, fun i u hu => ?_⟩
   have hlt : i < cs'.length := (List.getElem?_eq_some_iff.1 hu).1
   have := h4 i (by omega)
   rw [hs, Go.Deep.add_add] at this
   rw [this, hu]
  ·obtain ⟨i, hi⟩ := List.getElem?_of_mem hy
   exact (hxs i y hi).2
structure OpensFs {α : Type} (P : Program) (fs : List Field) (off : Nat) (d : Kd α) (Wf : α → Prop) : Prop where
 go : ∀ (H : Type) (enc : TypeId × Value → H) (w : World) (base : Nat) (spare : Nat → Bool) (held : Bool) (n : Nat) (cs : List Value),
  cs.length = off + d.sz → (∀ f ∈ fs, ∃ x, DataW.trod enc P w base spare held n f.type ((cs.drop f.offset).take (P.cellsOf f.type)) = some x) → ∃ a, d.K w a (cs.drop off) ∧ Wf a
theorem OpensFs.one {α : Type} {P : Program} {f : Field} {off : Nat} {d : Kd α} {Wf : α → Prop} (ho : f.offset = off) (hs : P.cellsOf f.type = d.sz) (h : Opens P d f.type Wf) : OpensFs P [f] off d Wf := by
 refine ⟨fun H enc w base spare held n cs hl hf => ?_⟩
 obtain ⟨x, hx⟩ := hf f (by simp)
 rw [ho, hs, List.take_of_length_le (by rw [List.length_drop]; omega)] at hx
 exact h.go _ enc w base spare held n _ x hx
theorem OpensFs.cons {α β : Type} {P : Program} {f : Field} {fs : List Field} {off : Nat} {d : Kd α} {d' : Kd β} {Wf : α → Prop} {Wf' : β → Prop} (ho : f.offset = off) (hs : P.cellsOf f.type = d.sz) (h : Opens P d f.type Wf)
  (h' : OpensFs P fs (off + d.sz) d' Wf') : OpensFs P (f :: fs) off (Kd.pair d d') (fun x => Wf x.1 ∧ Wf' x.2) := by
 refine ⟨fun H enc w base spare held n cs hl hf => ?_⟩
 have hl' : cs.length = off + (d.sz + d'.sz) := hl
 obtain ⟨x, hx⟩ := hf f (by simp)
 rw [ho, hs] at hx
 obtain ⟨a, ha, wa⟩ := h.go _ enc w base spare held n _ x hx
 obtain ⟨b, hb, wb⟩ := h'.go _ enc w base spare held n cs (by omega) (fun g hg => hf g (by simp [hg]))
 refine ⟨(a, b), ⟨(cs.drop off).take d.sz, cs.drop (off + d.sz), ?_, ha, hb⟩, wa, wb⟩
 rw [← List.drop_drop, List.take_append_drop]
theorem Opens.struct {α : Type} {P : Program} {t : TypeId} {fs : Array Field} {d : Kd α} {Wf : α → Prop} (ht : P.underlying t = some (.struct fs)) (hs : P.cellsOf t = d.sz) (h : OpensFs P fs.toList 0 d Wf) : Opens P d t Wf := by
 refine ⟨fun H enc w base spare held fuel cs x hx => ?_⟩
 obtain ⟨xs, n, _, _, hl, hlen, hg⟩ := DataW.trod_struct ht hx
 obtain ⟨a, ha, wa⟩ := h.go _ enc w base spare held n cs (by omega) (fun f hf => by
  obtain ⟨i, hi⟩ := List.getElem?_of_mem hf
  have h1 := hg i f (by simpa using hi)
  have hlt : i < fs.size := by have := (List.getElem?_eq_some_iff.1 hi).1; simpa using this
  exact ⟨_, h1.trans (List.getElem?_eq_getElem (by omega))⟩)
 exact ⟨a, by simpa using ha, wa⟩
theorem Opens.iso {α β : Type} {P : Program} {t : TypeId} {d : Kd α} {Wf : α → Prop} (h : Opens P d t Wf) (f : β → α) (g : α → β) (hfg : ∀ a, f (g a) = a) : Opens P (Kd.iso d f) t (fun b => Wf (f b)) := by
 refine ⟨fun H enc w base spare held fuel cs x hx => ?_⟩
 obtain ⟨a, ha, wa⟩ := h.go _ enc w base spare held fuel cs x hx
 exact ⟨g a, by show d.K w (f (g a)) cs; rw [hfg]; exact ha, by show Wf (f (g a)); rw [hfg]; exact wa⟩
theorem Opens.argSlice {α : Type} {P : Program} {t e : TypeId} {d : Kd α} {Wf : List α → Prop} (h : Opens P (Kd.slice e d) t Wf) {H : Type} {enc : TypeId × Value → H} {w : World} {base : Nat} {spare : Nat → Bool} {held : Bool} {v : Value} {x : DataW H} {ps : List MemPlace}
  (hv : ∃ a len cap, v = .slice a len cap) (ht : DataW.Trod enc P w base spare held t v x ps) : ∃ A c xs, v = .slice A xs.length c ∧ xs.length ≤ c ∧ d.C w A xs.length xs ∧ Wf xs := by
 obtain ⟨a, len, cap, rfl⟩ := hv
 obtain ⟨fuel, hf⟩ := ht
 obtain ⟨xs, ⟨A, c, hc, hl, hr⟩, wf⟩ := h.go _ enc w base spare held fuel _ _ hf
 simp only [Value.cells, List.cons.injEq, and_true] at hc
 exact ⟨A, c, xs, hc, hl, hr, wf⟩
end Go.Proofs.Ytmpodackojmojaa.Open
end
section
namespace Go.Proofs.Ytmpodackojmojaa.fnExactTaskMatroid
open Go.ChangeShapes Go.WideShapes Go.ChangeAt Go.RowKit Go.Proofs.Ytmpodackojmojaa.Open Go.Proofs.YtmpodackojmojaaW.PrintWords
open Go.ChangeMaps (open_string shut_string)
set_option linter.unusedVariables false
theorem own : ownKnob Try.prog.godebug = none := by kernel_rfl
theorem laidOut : laidOutB Try.prog = true := by kernel_rfl
set_option maxRecDepth 100000 in
theorem lifted (os : Os) (started : os.Started) (H : Type) (enc : TypeId × Value → H) :
  ReturnsInHanded {} Try.checked os 4 .any (Rows.fnExactTaskMatroidSpec.pre6 enc Try.prog Try.f4 Rows.fnExactTaskMatroidRow.domain false) (Rows.fnExactTaskMatroidSpec.post enc Try.prog Try.f4 false true false false) := by
 refine returnsInHanded_of_change_sized (C := Try.checked) own started (by kernel_rfl) Try.func4
  (ChangeSpec.witness6 (enc := enc) (C := Try.checked) false ⟨#[], #[.slice none 0 0], []⟩ 8 (by kernel_rfl) (by kernel_rfl) (by kernel_rfl) (by kernel_rfl)) ?_
 intro W base args ds gs before hval0 hW hcnd hsz0 _
 have hval : ∀ (j : Nat) t v, Try.f4.params[j]? = some t → args[j]? = some v → Value.okWide Try.prog W .any base t v := hval0
 have hW' := hW
 obtain ⟨p, q, hA0, hV, rfl, hfz, hnd⟩ := hW
 have hA : DataW.TrodAll enc Try.prog W 0 (fun _ => true) true Try.f4.params.toList args.toList ds p := hA0
 rw [Try.params4] at hA hval
 obtain ⟨v0, vs0, d0, ds0, p0, q0, hargs, rfl, rfl, h0, r0⟩ := trodAll_cons hA
 obtain ⟨rfl, rfl, rfl⟩ := trodAll_nil r0
 obtain rfl : args = #[v0] := by cases args; simp_all
 obtain ⟨rfl, rfl⟩ := trodVars_none hV
 have k0 := h0
 have lt0 : ∀ x ∈ p0, x.block < W.heap.size := by obtain ⟨m, hm⟩ := k0; exact DataW.trod_lt m _ _ _ hm
 obtain ⟨A0, c0, x0, rfl, hl0, hr0, w0⟩ := Opens.argSlice (Opens.slice Try.underlying22 (by kernel_rfl) (Opens.iso (Opens.struct Try.underlying75 (by kernel_rfl) (OpensFs.cons rfl (by kernel_rfl) (Opens.int Try.underlying3) (OpensFs.one rfl (by kernel_rfl) (Opens.int Try.underlying3)))) (fun x : Pr.S75 => (x.f0, x.f1)) (fun a => ⟨a.1, a.2⟩) (fun _ => rfl))) (okWide_slice Try.underlying22 (hval 0 22 v0 rfl rfl)) h0
 clear hA0 hval0 hsz0
 obtain ⟨k, hk⟩ := Pure.FnExactTaskMatroid x0 w0.1
 refine (Pr.laws_FnExactTaskMatroid.calls k _ _ x0 true W hr0 hl0 ⟨rfl⟩ hk).mono fun e W' ⟨he, bel⟩ => ?_
 subst he
 exact ⟨_, rfl, _, _, _, [], _, [], hW', trodAll_mk1 (shut_bool Try.underlying4 _), (trodAll_cons_mk (Below.trod laidOut (by kernel_rfl) (of_decide_eq_true (by kernel_rfl)) k0 bel lt0) trodAll_mk0), rfl, bel.frame _, fun h => by cases h⟩
theorem over : Rows.fnExactTaskMatroidRow.holds Try.pinned (OpenSpec.ofChange Rows.fnExactTaskMatroidSpec) :=
 OpenClaim.holds_of_wide 4 Try.f4 rfl rfl rfl rfl rfl rfl rfl ⟨rfl, rfl, rfl, rfl, rfl⟩ rfl rfl rfl rfl rfl (by kernel_rfl) Try.func4 (by kernel_rfl)
  (of_decide_eq_true (by kernel_rfl)) (by unfold Func.isWrapper; first | (rw [if_pos (by decide +kernel)]; kernel_rfl) | (rw [if_neg (by decide +kernel)]; exact ⟨rfl, rfl⟩))
  (fun os started H enc _ => lifted os started H enc)
theorem proved : Rows.FnExactTaskMatroidSaid := over
#print axioms proved
end Go.Proofs.Ytmpodackojmojaa.fnExactTaskMatroid
namespace Go.Proofs.Ytmpodackojmojaa
theorem fnExactTaskMatroid_holds : Rows.FnExactTaskMatroidSaid := fnExactTaskMatroid.proved
end Go.Proofs.Ytmpodackojmojaa
end
