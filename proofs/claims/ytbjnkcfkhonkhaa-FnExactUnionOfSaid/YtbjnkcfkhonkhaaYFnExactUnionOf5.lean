/- The claim FnExactUnionOf: every text that its row comes to, laid together by slim.py (the words of the kit's print, the printed walks, the pure law, the row). -/
import Derived.Below
import Derived.ChangeArms
import Derived.ChangeOld
import Derived.DataReads
import Derived.Deep.Slices
import Derived.OpenShut
import Derived.ProofKit
import Derived.ShutString
import Derived.SizedLaws
import Derived.Test.YtbjnkcfkhonkhaaRows
import Derived.WalkKit
import Derived.Test.YtbjnkcfkhonkhaaYFnExactUnionOf4
section
namespace Go.Proofs.Ytbjnkcfkhonkhaa.Base
open Go.RowKit Go.Proofs.Ytbjnkcfkhonkhaa.Pr Go.Proofs.YtbjnkcfkhonkhaaW.PrintWords Go.Proofs.YtbjnkcfkhonkhaaW.PrintLast Go.Proofs.YtbjnkcfkhonkhaaW.PrintMore
theorem szIntS (xs : List Int) (left : Int) (hm : xs.length ≤ maxLen) (h1 : left ≤ 1048576) (h0 : 0 ≤ left) : ∃ z, laws_szIntS.f xs left = some z ∧ (z < 0 ∨ (xs.length ≤ 1048576 ∧ 0 ≤ z ∧ z ≤ left)) := by
 unfold maxLen at hm
 unfold laws_szIntS.f
 rw [Gen.w64 (by omega) (by omega)]
 by_cases h : left - (xs.length : Int) < 0
 ·exact ⟨-1, by rw [if_pos h], .inl (by omega)⟩
 ·exact ⟨_, by rw [if_neg h], .inr ⟨by omega, by omega, by omega⟩⟩
theorem szMatroid (n : Int) (xs : List Int) (left : Int) (hm : xs.length ≤ maxLen) (h1 : left ≤ 1048576) (h0 : 0 ≤ left) : ∃ z, laws_szMatroid.f n xs left = some z ∧ (z < 0 ∨ (xs.length ≤ 1048576 ∧ 0 ≤ z ∧ z ≤ left)) := by
 obtain ⟨z, hz, h⟩ := szIntS xs left hm h1 h0
 unfold laws_szMatroid.f
 rw [hz]
 simp only [Option.bind_some]
 by_cases hn : z < 0
 ·exact ⟨-1, by rw [if_pos hn], .inl (by omega)⟩
 ·exact ⟨z, by rw [if_neg hn], h⟩
theorem toIntSE (xs : List Int) (hn : xs.length ≤ 1048576) : Ev (fun k => laws_toIntS.f k xs) xs := Gen.ev_at (xs.length + 1) (fun k hk => toIntS xs hn k (by omega))
theorem eqIntSE (xs : List Int) (hn : xs.length ≤ 1048576) : Ev (fun k => laws_eqIntS.f k xs xs) true := Gen.ev_at (xs.length + 1) (fun k hk => eqIntS xs hn k (by omega))
theorem toMatroid (n : Int) (xs : List Int) (hn : xs.length ≤ 1048576) : Ev (fun k => laws_toMatroid.f k n xs) (n, xs) := by
 unfold laws_toMatroid.f
 exact Ev.bind (toIntSE xs hn) (Ev.now _)
theorem eqMatroid (n : Int) (xs : List Int) (hn : xs.length ≤ 1048576) : Ev (fun k => laws_eqMatroid.f k n xs n xs) true := by
 unfold laws_eqMatroid.f
 simp only [if_true]
 exact Ev.bind (eqIntSE xs hn) (Ev.now _)
end Go.Proofs.Ytbjnkcfkhonkhaa.Base
end
section
namespace Go.Proofs.Ytbjnkcfkhonkhaa.Base
open Go.RowKit Go.Proofs.Ytbjnkcfkhonkhaa.Pr Go.Proofs.YtbjnkcfkhonkhaaW.PrintWords Go.Proofs.YtbjnkcfkhonkhaaW.PrintLast Go.Proofs.YtbjnkcfkhonkhaaW.PrintMore
def marks (a : Int) (n : Nat) : List Int := (List.range n).map fun i : Nat => a + (i : Int)
theorem marks_length (a : Int) (n : Nat) : (marks a n).length = n := by simp [marks]
theorem markIntS (xs : List Int) (a : Int) (hn : xs.length ≤ 1048576) (h0 : 0 ≤ a) (h1 : a ≤ 2 ^ 50) : Ev (fun k => laws_markIntS.f k xs a) (a + (xs.length : Int), marks a xs.length) := by
 unfold laws_markIntS.f
 refine Gen.ev_loop (fun k (s : List Int × Int) i => laws_markIntS.l0 k s.1 s.2 i) xs.length (fun i s => (s.1.set i s.2, s.2 + 1)) (fun i s => s.2 = a + (i : Int) ∧ s.1.length = xs.length ∧ ∀ j, j < i → s.1[j]? = some (a + (j : Int))) _ (fun i s hi hP => ⟨?_, fun h => Ev.step (fun k => ?_) h⟩) xs.length 0 (xs, a) (by omega) ⟨by simp, rfl, fun j hj => by omega⟩ (fun hP => Gen.ev_at 1 (fun k hk => ?_))
 ·obtain ⟨p1, p2, p3⟩ := hP
  refine ⟨by show s.2 + 1 = _; rw [p1]; push_cast; omega, by simpa using p2, fun j hj => ?_⟩
  show (s.1.set i s.2)[j]? = _
  rw [List.getElem?_set]
  by_cases e : i = j
  ·subst e
   rw [if_pos rfl, if_pos (by omega), p1]
  ·rw [if_neg e]
   exact p3 j (by omega)
 ·obtain ⟨p1, p2, p3⟩ := hP
  simp only [laws_markIntS.l0]
  rw [if_pos (by omega), if_pos (by omega), Gen.w64s i (by omega), Gen.w64 (i := s.2 + 1) (by omega) (by omega)]
  rfl
 ·obtain ⟨q, rfl⟩ : ∃ q, k = q + 1 := ⟨k - 1, by omega⟩
  generalize (List.range' 0 xs.length).foldl (fun (s : List Int × Int) j => (s.1.set j s.2, s.2 + 1)) (xs, a) = s at hP ⊢
  obtain ⟨p1, p2, p3⟩ := hP
  simp only [laws_markIntS.l0]
  rw [if_neg (by omega), p1]
  congr 2
  apply List.ext_getElem?
  intro j
  by_cases hj : j < xs.length
  ·rw [p3 j hj]
   simp [marks, hj]
  ·rw [List.getElem?_eq_none (by omega), List.getElem?_eq_none (by rw [marks_length]; omega)]
theorem heldIntS (a : Int) (n : Nat) (hn : n ≤ 1048576) (h0 : 0 ≤ a) (h1 : a ≤ 2 ^ 50) : Ev (fun k => laws_heldIntS.f k (marks a n) a) (a + (n : Int)) := by
 unfold laws_heldIntS.f
 refine Gen.ev_loop (fun k (s : Int) i => laws_heldIntS.l0 k (marks a n) s i) n (fun i s => s + 1) (fun i s => s = a + (i : Int)) _ (fun i s hi hP => ⟨?_, fun h => Ev.step (fun k => ?_) h⟩) n 0 a (by omega) (by simp) (fun hP => Gen.ev_at 1 (fun k hk => ?_))
 ·show s + 1 = _
  rw [hP]; push_cast; omega
 ·have hr : rd (marks a n) (i : Int) = s := by
   rw [Gen.rd_nat, hP]
   simp [marks, List.getD, hi]
  simp only [laws_heldIntS.l0]
  rw [if_pos (by rw [marks_length]; omega), if_pos (by omega), if_pos hr, Gen.w64s i (by omega), Gen.w64 (i := s + 1) (by omega) (by omega)]
 ·obtain ⟨q, rfl⟩ : ∃ q, k = q + 1 := ⟨k - 1, by omega⟩
  simp only [laws_heldIntS.l0]
  rw [if_neg (by rw [marks_length]; omega), hP]
theorem markMatroid (n : Int) (xs : List Int) (a : Int) (hn : xs.length ≤ 1048576) (h0 : 0 ≤ a) (h1 : a ≤ 2 ^ 50) : Ev (fun k => laws_markMatroid.f k n xs a) (a + (xs.length : Int), marks a xs.length) := by
 unfold laws_markMatroid.f
 exact Ev.bind (markIntS xs a hn h0 h1) (Ev.now _)
end Go.Proofs.Ytbjnkcfkhonkhaa.Base
end
section
namespace Go.Proofs.Ytbjnkcfkhonkhaa.Sets
open Go.RowKit Go.Proofs.YtbjnkcfkhonkhaaW.PrintWords Go.Proofs.YtbjnkcfkhonkhaaW.PrintMore
theorem ev_search {γ : Type} (L : Nat → Int → Option γ) (n : Nat) (p : Nat → Bool) (S : γ → Prop)
  (hyes : ∀ i, i < n → p i = true → ∃ r, S r ∧ Ev (fun k => L k (i : Int)) r)
  (hno : ∀ i, i < n → p i = false → ∀ r, Ev (fun k => L k ((i + 1 : Nat) : Int)) r → Ev (fun k => L k (i : Int)) r) :
  ∀ d i : Nat, i + d = n → ((List.range' i d).any p = true → ∃ r, S r ∧ Ev (fun k => L k (i : Int)) r) ∧ ((List.range' i d).any p = false → ∀ r, Ev (fun k => L k (n : Int)) r → Ev (fun k => L k (i : Int)) r) := by
 intro d
 induction d with
 | zero =>
  intro i hi
  obtain rfl : i = n := by omega
  exact ⟨fun h => by simp at h, fun _ r h => h⟩
 | succ d ih =>
  intro i hi
  obtain ⟨h1, h2⟩ := ih (i + 1) (by omega)
  rw [List.range'_succ, List.any_cons]
  cases hp : p i with
  | true => exact ⟨fun _ => hyes i (by omega) hp, fun h => by simp at h⟩
  | false =>
   refine ⟨fun h => ?_, fun h r hr => hno i (by omega) hp r (h2 (by simpa using h) r hr)⟩
   obtain ⟨r, hr, hE⟩ := h1 (by simpa using h)
   exact ⟨r, hr, hno i (by omega) hp r hE⟩
theorem wraps_i64 (n : Int) (h0 : 0 ≤ n) (h1 : n < 2 ^ 62) : IntKind.i64.wrap n = n := by
 rw [IntKind.wrap_i64]
 omega
theorem and_nat (a b : Nat) (ha : a < 2 ^ 62) (hb : b < 2 ^ 62) : Go.bits .and .i64 (a : Int) (b : Int) = ((a &&& b : Nat) : Int) := (bits_nat .i64 62 (by decide) wraps_i64 a b ha hb).1
theorem or_nat (a b : Nat) (ha : a < 2 ^ 62) (hb : b < 2 ^ 62) : Go.bits .or .i64 (a : Int) (b : Int) = ((a ||| b : Nat) : Int) := (bits_nat .i64 62 (by decide) wraps_i64 a b ha hb).2
def diff (a b : Nat) : Nat := a ^^^ (a &&& b)
theorem diff_bit (a b i : Nat) : (diff a b).testBit i = (a.testBit i && !b.testBit i) := by
 unfold diff
 rw [Nat.testBit_xor, Nat.testBit_and]
 cases a.testBit i <;> cases b.testBit i <;> rfl
theorem diff_lt {a b : Nat} {n : Nat} (ha : a < 2 ^ n) : diff a b < 2 ^ n := by
 apply Nat.lt_pow_two_of_testBit
 intro i hi
 rw [diff_bit, Nat.testBit_lt_two_pow (Nat.lt_of_lt_of_le ha (Nat.pow_le_pow_right (by decide) hi))]
 rfl
theorem andNot_nat (a b : Nat) (ha : a < 2 ^ 62) : Go.bits .andNot .i64 (a : Int) (b : Int) = ((diff a b : Nat) : Int) := by
 have h64 : (2 : Nat) ^ 62 ≤ 2 ^ 64 := by decide
 have key : (BitVec.ofNat 64 a &&& ~~~(BitVec.ofNat 64 b)).toNat = diff a b := by
  apply Nat.eq_of_testBit_eq
  intro i
  rw [diff_bit, BitVec.testBit_toNat, BitVec.getLsbD_and, BitVec.getLsbD_not, BitVec.getLsbD_ofNat, BitVec.getLsbD_ofNat]
  by_cases hi : i < 64
  ·simp [hi]
  ·have : a.testBit i = false := Nat.testBit_lt_two_pow (Nat.lt_of_lt_of_le ha (Nat.pow_le_pow_right (by decide) (by omega)))
   simp [hi, this]
 show IntKind.i64.wrap ((BitVec.ofInt 64 (a : Int) &&& ~~~(BitVec.ofInt 64 (b : Int))).toNat : Int) = _
 have e1 : BitVec.ofInt 64 (a : Int) = BitVec.ofNat 64 a := by simp
 have e2 : BitVec.ofInt 64 (b : Int) = BitVec.ofNat 64 b := by simp
 rw [e1, e2, key]
 have := diff_lt (b := b) ha
 exact wraps_i64 _ (by omega) (by exact_mod_cast this)
theorem shl_nat (e : Nat) (he : e < 62) : shl .i64 1 (e : Int) = ((2 ^ e : Nat) : Int) := by
 unfold shl
 have h1 : min ((e : Int)).toNat IntKind.i64.bits = e := by
  show min e 64 = e
  omega
 rw [h1, Int.one_mul]
 have h2 : (2 : Nat) ^ e < 2 ^ 62 := Nat.pow_lt_pow_right (by decide) he
 rw [wraps_i64 _ (by exact_mod_cast Nat.zero_le _) (by exact_mod_cast h2)]
 push_cast
 rfl
theorem shr_bit (a e : Nat) (he : e < 62) (ha : a < 2 ^ 62) : ((Go.bits .and .i64 (shr .i64 (a : Int) (e : Int)) 1) == 1) = a.testBit e := by
 unfold shr
 have h1 : min ((e : Int)).toNat IntKind.i64.bits = e := by
  show min e 64 = e
  omega
 rw [h1]
 have h2 : ((a : Int) / 2 ^ e) = ((a / 2 ^ e : Nat) : Int) := by push_cast; rfl
 have h3 : a / 2 ^ e < 2 ^ 62 := Nat.lt_of_le_of_lt (Nat.div_le_self _ _) ha
 rw [h2, show (1 : Int) = ((1 : Nat) : Int) from rfl, and_nat _ 1 h3 (by decide), Nat.testBit_eq_decide_div_mod_eq, Nat.and_one_is_mod]
 by_cases h : a / 2 ^ e % 2 = 1
 ·simp [h]
 ·have h4 : a / 2 ^ e % 2 = 0 := by omega
  simp [h4]
theorem bit_far {a n e : Nat} (ha : a < 2 ^ n) (he : n ≤ e) : a.testBit e = false := Nat.testBit_lt_two_pow (Nat.lt_of_lt_of_le ha (Nat.pow_le_pow_right (by decide) he))
theorem swap_eq : ∀ a, a < 256 → ∀ e, e < 8 → ∀ f, f < 8 → a.testBit e = true → a.testBit f = false → diff a (2 ^ e) ||| 2 ^ f = a - 2 ^ e + 2 ^ f := by decide +kernel
theorem bit_le : ∀ a, a < 256 → ∀ e, e < 8 → a.testBit e = true → 2 ^ e ≤ a := by decide +kernel
def elems (s : Nat) : List Nat := (List.range' 0 8).filter fun j => s.testBit j
def exch (l : List Nat) (a b e : Nat) : Bool := (List.range' 0 8).any fun f => b.testBit f && !a.testBit f && l.contains (a - 2 ^ e + 2 ^ f)
def fails (l : List Nat) : Bool := l.any fun a => l.any fun b => (List.range' 0 8).any fun e => a.testBit e && !b.testBit e && !exch l a b e
def ints (l : List Nat) : List Int := l.map fun j : Nat => (j : Int)
theorem ints_length (l : List Nat) : (ints l).length = l.length := by simp [ints]
theorem ints_getD (l : List Nat) (i : Nat) : (ints l).getD i 0 = ((l.getD i 0 : Nat) : Int) := by
 by_cases h : i < l.length
 ·simp [ints, List.getD, h]
 ·simp [ints, List.getD, h]
theorem ints_rd (l : List Nat) (i : Nat) : rd (ints l) (i : Int) = ((l.getD i 0 : Nat) : Int) := by rw [Gen.rd_nat, ints_getD]
theorem any_index {α : Type} (l : List α) (d : α) (p : α → Bool) : ((List.range' 0 l.length).any fun i => p (l.getD i d)) = l.any p := by
 rw [Bool.eq_iff_iff]
 simp only [List.any_eq_true]
 constructor
 ·rintro ⟨i, hi, hp⟩
  have hlt : i < l.length := by have := List.mem_range'_1.1 hi; omega
  refine ⟨l[i], List.getElem_mem hlt, ?_⟩
  simpa [List.getD, hlt] using hp
 ·rintro ⟨x, hx, hp⟩
  obtain ⟨i, hi, rfl⟩ := List.getElem_of_mem hx
  exact ⟨i, List.mem_range'_1.2 (by omega), by simpa [List.getD, hi] using hp⟩
theorem any_more (p : Nat → Bool) (m d : Nat) (h : ∀ j, m ≤ j → p j = false) : (List.range' 0 (m + d)).any p = (List.range' 0 m).any p := by
 rw [← List.range'_append_1, List.any_append]
 have : (List.range' (0 + m) d).any p = false := by
  rw [List.any_eq_false]
  intro j hj
  have := List.mem_range'_1.1 hj
  rw [h j (by omega)]
  decide
 rw [this, Bool.or_false]
theorem range8 (m : Nat) (hm : m ≤ 8) (p : Nat → Bool) (h : ∀ j, m ≤ j → p j = false) : (List.range' 0 m).any p = (List.range' 0 8).any p := by
 have := any_more p m (8 - m) h
 rw [show m + (8 - m) = 8 by omega] at this
 exact this.symm
theorem elems_any (s : Nat) (q : Nat → Bool) : (elems s).any q = (List.range' 0 8).any fun j => s.testBit j && q j := by
 unfold elems
 rw [List.any_filter]
theorem elems_lt {s j : Nat} (h : j ∈ elems s) : j < 8 ∧ s.testBit j = true := by
 unfold elems at h
 obtain ⟨h1, h2⟩ := List.mem_filter.1 h
 have := List.mem_range'_1.1 h1
 exact ⟨by omega, h2⟩
theorem elems_length (s : Nat) : (elems s).length ≤ 8 := by
 unfold elems
 exact Nat.le_trans (List.length_filter_le _ _) (by simp)
theorem pow_le_256 {m : Nat} (hm : m ≤ 8) : (2 : Nat) ^ m ≤ 256 := Nat.pow_le_pow_right (n := 2) (by decide) hm
theorem swap_le : ∀ a, a < 256 → ∀ e, e < 8 → ∀ f, f < 8 → a.testBit e = true → a.testBit f = false → a - 2 ^ e + 2 ^ f < 256 := by decide +kernel
theorem getD_mem {α : Type} (l : List α) (d : α) (i : Nat) (h : i < l.length) : l.getD i d ∈ l := by
 have : l.getD i d = l[i] := by simp [List.getD, h]
 rw [this]
 exact List.getElem_mem h
end Go.Proofs.Ytbjnkcfkhonkhaa.Sets
end
section
namespace Go.Proofs.Ytbjnkcfkhonkhaa.Mat
open Go.RowKit Go.Proofs.Ytbjnkcfkhonkhaa.Pr Go.Proofs.Ytbjnkcfkhonkhaa.Sets Go.Proofs.YtbjnkcfkhonkhaaW.PrintWords Go.Proofs.YtbjnkcfkhonkhaaW.PrintLast Go.Proofs.YtbjnkcfkhonkhaaW.PrintMore
set_option linter.unusedVariables false
def isSet (n s : Int) : Bool := decide (0 ≤ n ∧ n ≤ 8 ∧ 0 ≤ s ∧ s < 2 ^ n.toNat)
theorem implIsSet (n s : Int) : impl_IsSet.f n s = some (isSet n s) := by
 unfold impl_IsSet.f impl_isSize.f isSet
 by_cases h0 : n ≥ 0
 ·rw [if_pos h0]
  simp only [Option.bind_some]
  by_cases h1 : n ≤ 8
  ·rw [if_pos (decide_eq_true h1)]
   obtain ⟨m, rfl⟩ : ∃ m : Nat, n = m := ⟨n.toNat, by omega⟩
   by_cases h2 : s ≥ 0
   ·rw [if_pos h2, if_pos h0, shl_nat m (by omega)]
    congr 1
    rw [decide_eq_decide]
    simp only [Int.toNat_natCast]
    push_cast
    omega
   ·rw [if_neg h2, decide_eq_false (by omega)]
  ·rw [if_neg (by rw [decide_eq_true_eq]; exact h1), decide_eq_false (by omega)]
 ·rw [if_neg h0]
  simp only [Option.bind_some]
  rw [if_neg (by decide), decide_eq_false (by omega)]
theorem specIsSet (n s : Int) : spec_IsSet.f n s = some (isSet n s) := by
 unfold spec_IsSet.f spec_l1In.f isSet
 by_cases h0 : n ≥ 0
 ·rw [if_pos h0]
  simp only [Option.bind_some]
  by_cases h1 : n ≤ 8
  ·rw [if_pos (decide_eq_true h1)]
   obtain ⟨m, rfl⟩ : ∃ m : Nat, n = m := ⟨n.toNat, by omega⟩
   have hu : IntKind.u64.wrap (m : Int) = m := by
    have : m = 0 ∨ m = 1 ∨ m = 2 ∨ m = 3 ∨ m = 4 ∨ m = 5 ∨ m = 6 ∨ m = 7 ∨ m = 8 := by omega
    rcases this with rfl | rfl | rfl | rfl | rfl | rfl | rfl | rfl | rfl <;> decide +kernel
   have hp := pow_le_256 (m := m) (by omega)
   have hp1 : 1 ≤ 2 ^ m := Nat.one_le_two_pow
   rw [hu, if_pos h0, shl_nat m (by omega), Gen.w64 (by omega) (by omega)]
   by_cases h2 : s ≥ 0
   ·rw [if_pos h2]
    simp only [Option.bind_some]
    congr 1
    rw [decide_eq_decide]
    simp only [Int.toNat_natCast]
    have : ((2 : Int) ^ m) = ((2 ^ m : Nat) : Int) := by push_cast; rfl
    rw [this]
    omega
   ·rw [if_neg h2]
    simp only [Option.bind_some]
    rw [decide_eq_false (by omega)]
  ·rw [if_neg (by rw [decide_eq_true_eq]; exact h1), decide_eq_false (by omega)]
 ·rw [if_neg h0]
  simp only [Option.bind_some]
  rw [if_neg (by decide), decide_eq_false (by omega)]
def fam (n : Int) (l : List Int) : Bool := ((List.range' 0 l.length).all fun i => isSet n (l.getD i 0) && (decide (i = 0) || decide (l.getD (i - 1) 0 < l.getD i 0))) && decide (0 ≤ n ∧ n ≤ 8)
theorem implFamily (n : Int) (l : List Int) (hn : l.length ≤ 1048576) (k : Nat) (hk : l.length < k) : impl_IsFamily.f k n l = some (fam n l) := by
 unfold impl_IsFamily.f fam
 refine Gen.all_loop (fun k i => impl_IsFamily.l0 k n l l (l.length : Int) i) l.length (fun i => isSet n (l.getD i 0) && (decide (i = 0) || decide (l.getD (i - 1) 0 < l.getD i 0))) 0 (decide (0 ≤ n ∧ n ≤ 8)) (fun k i _ hi => ?_) (fun k _ => ?_) l.length 0 k (by omega) (by omega)
 ·simp only [impl_IsFamily.l0]
  rw [if_pos (by omega), if_pos (by omega), if_pos (by omega), implIsSet, Gen.rd_nat]
  simp only [Option.bind_some]
  cases isSet n (l.getD i 0) with
  | false => rfl
  | true =>
   rw [if_pos rfl, Gen.w64s i (by omega)]
   by_cases h0 : i = 0
   ·subst h0
    rw [if_neg (by decide), if_pos (by rfl)]
   ·rw [if_pos (by omega), Gen.w64 (by omega) (by omega), show (i : Int) - 1 = ((i - 1 : Nat) : Int) by omega, if_pos (by omega), if_pos (by omega), Gen.rd_nat]
    by_cases h1 : l.getD i 0 ≤ l.getD (i - 1) 0
    ·rw [if_pos h1, decide_eq_false h0, decide_eq_false (by omega)]
     rfl
    ·rw [if_neg h1, decide_eq_false h0, decide_eq_true (by omega)]
     rfl
 ·simp only [impl_IsFamily.l0]
  rw [if_neg (by omega)]
  unfold impl_isSize.f
  by_cases h0 : n ≥ 0
  ·rw [if_pos h0]
   simp only [Option.bind_some]
   congr 1
   rw [decide_eq_decide]
   omega
  ·rw [if_neg h0, decide_eq_false (by omega)]
   rfl
theorem specFamily (n : Int) (l : List Int) (hn : l.length ≤ 1048576) (k : Nat) (hk : l.length < k) : spec_IsFamily.f k n l = some (fam n l) := by
 unfold spec_IsFamily.f fam
 refine Gen.all_loop (fun k i => spec_IsFamily.l0 k n l i) l.length (fun i => isSet n (l.getD i 0) && (decide (i = 0) || decide (l.getD (i - 1) 0 < l.getD i 0))) 0 (decide (0 ≤ n ∧ n ≤ 8)) (fun k i _ hi => ?_) (fun k _ => ?_) l.length 0 k (by omega) (by omega)
 ·simp only [spec_IsFamily.l0]
  rw [if_pos (by omega), if_pos (by omega), specIsSet, Gen.rd_nat]
  simp only [Option.bind_some]
  cases isSet n (l.getD i 0) with
  | false => rfl
  | true =>
   rw [if_pos rfl, Gen.w64s i (by omega)]
   by_cases h0 : i = 0
   ·subst h0
    rw [if_neg (by decide), if_pos (by rfl)]
   ·rw [if_pos (by omega), Gen.w64 (by omega) (by omega), show (i : Int) - 1 = ((i - 1 : Nat) : Int) by omega, if_pos (by omega), if_pos (by omega), Gen.rd_nat]
    by_cases h1 : l.getD (i - 1) 0 ≥ l.getD i 0
    ·rw [if_pos h1, decide_eq_false h0, decide_eq_false (by omega)]
     rfl
    ·rw [if_neg h1, decide_eq_false h0, decide_eq_true (by omega)]
     rfl
 ·simp only [spec_IsFamily.l0]
  rw [if_neg (by omega)]
  unfold spec_l1In.f
  by_cases h0 : n ≥ 0
  ·rw [if_pos h0]
   simp only [Option.bind_some]
   congr 1
   rw [decide_eq_decide]
   omega
  ·rw [if_neg h0, decide_eq_false (by omega)]
   rfl
theorem fam_nat {n : Int} {l : List Int} (h : fam n l = true) : ∃ (m : Nat) (lN : List Nat), n = m ∧ m ≤ 8 ∧ l = ints lN ∧ ∀ s ∈ lN, s < 2 ^ m := by
 unfold fam at h
 rw [Bool.and_eq_true, decide_eq_true_eq] at h
 obtain ⟨hl, h0, h8⟩ := h
 have key : ∀ s ∈ l, 0 ≤ s ∧ s < 2 ^ n.toNat := fun s hs => by
  obtain ⟨i, hi, rfl⟩ := List.getElem_of_mem hs
  have := List.all_eq_true.1 hl i (List.mem_range'_1.2 (by omega))
  rw [Bool.and_eq_true] at this
  have h1 := this.1
  unfold isSet at h1
  rw [decide_eq_true_eq] at h1
  have e : l.getD i 0 = l[i] := by simp [List.getD, hi]
  rw [e] at h1
  exact ⟨h1.2.2.1, h1.2.2.2⟩
 refine ⟨n.toNat, l.map Int.toNat, by omega, by omega, ?_, fun s hs => ?_⟩
 ·unfold ints
  rw [List.map_map]
  conv => lhs; rw [← List.map_id l]
  refine List.map_congr_left fun s hs => ?_
  have := (key s hs).1
  show s = ((s.toNat : Nat) : Int)
  omega
 ·obtain ⟨x, hx, rfl⟩ := List.mem_map.1 hs
  obtain ⟨h1, h2⟩ := key x hx
  have e : ((2 : Int) ^ n.toNat) = ((2 ^ n.toNat : Nat) : Int) := by push_cast; rfl
  rw [e] at h2
  omega
theorem index (l : List Nat) (x : Nat) (hn : l.length ≤ 1048576) : ∀ (d i k : Nat), i + d = l.length → d < k → ∃ r, slices_Index_int_int.l0 k (ints l) (x : Int) ((ints l).length : Int) (i : Int) = some r ∧ decide (r ≥ 0) = (l.drop i).contains x := by
 intro d
 induction d with
 | zero =>
  intro i k hi hk
  obtain ⟨k, rfl⟩ : ∃ m, k = m + 1 := ⟨k - 1, by omega⟩
  refine ⟨-1, ?_, ?_⟩
  ·simp only [slices_Index_int_int.l0]
   rw [if_neg (by rw [ints_length]; omega)]
  ·rw [List.drop_of_length_le (by omega)]
   rfl
 | succ d ih =>
  intro i k hi hk
  obtain ⟨k, rfl⟩ : ∃ m, k = m + 1 := ⟨k - 1, by omega⟩
  have hlt : i < l.length := by omega
  simp only [slices_Index_int_int.l0]
  rw [if_pos (by rw [ints_length]; omega), if_pos (by omega), if_pos (by rw [ints_length]; omega), ints_rd, Gen.w64s i (by omega)]
  have hd : l.drop i = l.getD i 0 :: l.drop (i + 1) := by
   rw [List.drop_eq_getElem_cons hlt]
   simp [List.getD, hlt]
  rw [hd]
  by_cases h : x = l.getD i 0
  ·refine ⟨i, by rw [if_pos (by omega)], ?_⟩
   rw [← h, List.contains_cons, beq_self_eq_true, Bool.true_or, decide_eq_true (by omega)]
  ·obtain ⟨r, h1, h2⟩ := ih (i + 1) k (by omega) (by omega)
   refine ⟨r, by rw [if_neg (by omega)]; exact h1, ?_⟩
   rw [h2, List.contains_cons, beq_eq_false_iff_ne.2 h, Bool.false_or]
theorem implHas (l : List Nat) (x : Nat) (hn : l.length ≤ 1048576) (k : Nat) (hk : l.length < k) : impl_HasSet.f k (ints l) (x : Int) = some (l.contains x) := by
 unfold impl_HasSet.f slices_Contains_int_int.f slices_Index_int_int.f
 obtain ⟨r, h1, h2⟩ := index l x hn l.length 0 k (by omega) hk
 rw [show (0 : Int) = ((0 : Nat) : Int) from rfl, h1]
 simp only [Option.bind_some]
 rw [show ((0 : Nat) : Int) = (0 : Int) from rfl, h2, List.drop_zero]
theorem specHas (l : List Nat) (x : Nat) (hn : l.length ≤ 1048576) (k : Nat) (hk : l.length < k) : spec_HasSet.f k (ints l) (x : Int) = some (l.contains x) := by
 unfold spec_HasSet.f
 have key : ∀ (d i k : Nat), i + d = l.length → d < k → spec_HasSet.l0 k (ints l) (x : Int) (i : Int) = some ((l.drop i).contains x) := by
  intro d
  induction d with
  | zero =>
   intro i k hi hk
   obtain ⟨k, rfl⟩ : ∃ m, k = m + 1 := ⟨k - 1, by omega⟩
   simp only [spec_HasSet.l0]
   rw [if_neg (by rw [ints_length]; omega), List.drop_of_length_le (by omega)]
   rfl
  | succ d ih =>
   intro i k hi hk
   obtain ⟨k, rfl⟩ : ∃ m, k = m + 1 := ⟨k - 1, by omega⟩
   have hlt : i < l.length := by omega
   simp only [spec_HasSet.l0]
   rw [if_pos (by rw [ints_length]; omega), if_pos (by omega), ints_rd, Gen.w64s i (by omega)]
   have hd : l.drop i = l.getD i 0 :: l.drop (i + 1) := by
    rw [List.drop_eq_getElem_cons hlt]
    simp [List.getD, hlt]
   rw [hd, List.contains_cons]
   by_cases h : l.getD i 0 = x
   ·rw [if_pos (by omega), ← h, beq_self_eq_true, Bool.true_or]
   ·rw [if_neg (by omega), ih (i + 1) k (by omega) (by omega), beq_eq_false_iff_ne.2 (Ne.symm h), Bool.false_or]
 have := key l.length 0 k (by omega) hk
 rw [List.drop_zero] at this
 exact this
theorem implElem (s : Nat) (j : Nat) (hs : s < 256) (hj : j < 8) : impl_HasElement.f (s : Int) (j : Int) = some (s.testBit j) := by
 unfold impl_HasElement.f impl_isAny.f
 rw [if_pos (by omega)]
 simp only [Option.bind_some]
 rw [if_pos (decide_eq_true (by omega)), if_pos (by omega), if_pos (by omega), if_pos (by omega), shr_bit s j (by omega) (by omega)]
theorem foldl_elems (s : Nat) : ((List.range' 0 8).foldl (fun (acc : List Int) (j : Nat) => if s.testBit j = true then acc ++ [(j : Int)] else acc) []) = ints (elems s) := by
 rw [Gen.foldl_append (fun j => s.testBit j)]
 rfl
theorem implElements (s : Nat) (hs : s < 256) : Ev (fun k => impl_ElementsOf.f k (s : Int)) (ints (elems s)) := by
 unfold impl_ElementsOf.f
 refine Gen.ev_loop (fun k s3 i => impl_ElementsOf.l0 k (s : Int) s3 i) 8 (fun j s3 => if s.testBit j = true then s3 ++ [(j : Int)] else s3) (fun i s3 => s3.length ≤ i) _ (fun i s3 hi hP => ⟨?_, fun h => Ev.step (fun k => ?_) h⟩) 8 0 [] rfl (by simp) (fun _ => Gen.ev_at 1 (fun k hk => ?_))
 ·by_cases hh : s.testBit i = true
  ·rw [if_pos hh]; simp; omega
  ·rw [if_neg hh]; omega
 ·simp only [impl_ElementsOf.l0]
  rw [if_pos (by omega), implElem s i hs hi]
  simp only [Option.bind_some]
  rw [Gen.w64s i (by omega)]
  by_cases hh : s.testBit i = true
  ·rw [if_pos hh, if_pos (by omega), if_pos hh]
  ·rw [if_neg hh, if_neg hh]
 ·obtain ⟨m, rfl⟩ : ∃ m, k = m + 1 := ⟨k - 1, by omega⟩
  simp only [impl_ElementsOf.l0]
  rw [if_neg (by omega), foldl_elems]
end Go.Proofs.Ytbjnkcfkhonkhaa.Mat
end
section
namespace Go.Proofs.Ytbjnkcfkhonkhaa.Mat
open Go.RowKit Go.Proofs.Ytbjnkcfkhonkhaa.Pr Go.Proofs.Ytbjnkcfkhonkhaa.Sets Go.Proofs.YtbjnkcfkhonkhaaW.PrintWords Go.Proofs.YtbjnkcfkhonkhaaW.PrintLast Go.Proofs.YtbjnkcfkhonkhaaW.PrintMore
set_option linter.unusedVariables false
theorem indexFunc (g : Int → Option Bool) (fs : List Nat) (v : Nat → Bool) (hn : fs.length ≤ 1048576) (hg : ∀ f ∈ fs, g (f : Int) = some (v f)) :
  ∀ (d i k : Nat), i + d = fs.length → d < k → ∃ r, slices_IndexFunc_int_int.l0 g k (ints fs) (i : Int) = some r ∧ decide (r ≥ 0) = (fs.drop i).any v := by
 intro d
 induction d with
 | zero =>
  intro i k hi hk
  obtain ⟨k, rfl⟩ : ∃ m, k = m + 1 := ⟨k - 1, by omega⟩
  refine ⟨-1, ?_, ?_⟩
  ·simp only [slices_IndexFunc_int_int.l0]
   rw [if_neg (by rw [ints_length]; omega)]
  ·rw [List.drop_of_length_le (by omega)]
   rfl
 | succ d ih =>
  intro i k hi hk
  obtain ⟨k, rfl⟩ : ∃ m, k = m + 1 := ⟨k - 1, by omega⟩
  have hlt : i < fs.length := by omega
  simp only [slices_IndexFunc_int_int.l0]
  rw [if_pos (by rw [ints_length]; omega), if_pos (by omega), ints_rd, hg _ (getD_mem fs 0 i hlt), Gen.w64s i (by omega)]
  simp only [Option.bind_some]
  have hd : fs.drop i = fs.getD i 0 :: fs.drop (i + 1) := by
   rw [List.drop_eq_getElem_cons hlt]
   simp [List.getD, hlt]
  rw [hd, List.any_cons]
  cases hv : v (fs.getD i 0) with
  | true => exact ⟨i, by rw [if_pos rfl], by rw [decide_eq_true (by omega), Bool.true_or]⟩
  | false =>
   obtain ⟨r, h1, h2⟩ := ih (i + 1) k (by omega) (by omega)
   exact ⟨r, by rw [if_neg (by decide)]; exact h1, by rw [h2, Bool.false_or]⟩
theorem containsFunc (g : Int → Option Bool) (fs : List Nat) (v : Nat → Bool) (hn : fs.length ≤ 1048576) (hg : ∀ f ∈ fs, g (f : Int) = some (v f)) (k : Nat) (hk : fs.length < k) :
  slices_ContainsFunc_int_int.f k (ints fs) g = some (fs.any v) := by
 unfold slices_ContainsFunc_int_int.f slices_IndexFunc_int_int.f
 obtain ⟨r, h1, h2⟩ := indexFunc g fs v hn hg fs.length 0 k (by omega) hk
 rw [show (0 : Int) = ((0 : Nat) : Int) from rfl, h1]
 simp only [Option.bind_some]
 rw [show ((0 : Nat) : Int) = (0 : Int) from rfl, h2, List.drop_zero]
theorem swapImpl (l : List Nat) (a e f : Nat) (hn : l.length ≤ 1048576) (ha : a < 256) (he : e < 8) (hf : f < 8) (hae : a.testBit e = true) (haf : a.testBit f = false) (k : Nat) (hk : l.length < k) :
  impl_FirstFailure_1.f k (ints l) (a : Int) (e : Int) (f : Int) = some (l.contains (a - 2 ^ e + 2 ^ f)) := by
 unfold impl_FirstFailure_1.f
 have h1 : (2 : Nat) ^ e < 2 ^ 62 := Nat.pow_lt_pow_right (by decide) (by omega)
 have h2 : (2 : Nat) ^ f < 2 ^ 62 := Nat.pow_lt_pow_right (by decide) (by omega)
 have h3 : diff a (2 ^ e) < 2 ^ 8 := diff_lt (n := 8) (by omega)
 rw [if_pos (by omega), if_pos (by omega), shl_nat e (by omega), shl_nat f (by omega), andNot_nat a _ (by omega), or_nat _ _ (by omega) h2, swap_eq a ha e he f hf hae haf]
 exact implHas l _ hn k hk
theorem exch_elems (l : List Nat) (a b e : Nat) : exch l a b e = (elems (diff b a)).any fun f => l.contains (a - 2 ^ e + 2 ^ f) := by
 rw [elems_any]
 unfold exch
 congr 1
 funext f
 rw [diff_bit]
theorem fails_elems (l : List Nat) : fails l = l.any fun a => l.any fun b => (elems (diff a b)).any fun e => !exch l a b e := by
 unfold fails
 congr 1
 funext a
 congr 1
 funext b
 rw [elems_any]
 congr 1
 funext e
 rw [diff_bit]
theorem implFirst (m : Nat) (hm : m ≤ 8) (l : List Nat) (hl : ∀ s ∈ l, s < 2 ^ m) (hn : l.length ≤ 1048576) (hf : fam (m : Int) (ints l) = true) :
  ∃ x y z, Ev (fun k => impl_FirstFailure.f k (m : Int) (ints l)) (x, y, z, fails l) := by
 have h256 := pow_le_256 hm
 have hlt : ∀ i, i < l.length → l.getD i 0 < 256 := fun i hi => Nat.lt_of_lt_of_le (hl _ (getD_mem l 0 i hi)) h256
 have inner : ∀ x y : Nat, x < l.length → y < l.length → ∀ d i : Nat, i + d = (elems (diff (l.getD x 0) (l.getD y 0))).length → _ := fun x y hx hy =>
  ev_search (fun k z => impl_FirstFailure.l2 k (m : Int) (ints l) (x : Int) ((l.getD x 0 : Nat) : Int) (y : Int) ((l.getD y 0 : Nat) : Int) (ints (elems (diff (l.getD x 0) (l.getD y 0)))) z) (elems (diff (l.getD x 0) (l.getD y 0))).length
   (fun z => !exch l (l.getD x 0) (l.getD y 0) ((elems (diff (l.getD x 0) (l.getD y 0))).getD z 0)) (fun r => r.2.2.2 = true)
   (by
    intro z hz hp
    have ha := hlt x hx
    have hb := hlt y hy
    obtain ⟨he, hbit⟩ := elems_lt (getD_mem _ 0 z hz)
    rw [diff_bit, Bool.and_eq_true] at hbit
    have hl8 := elems_length (diff (l.getD x 0) (l.getD y 0))
    have hd : diff (l.getD y 0) (l.getD x 0) < 2 ^ 8 := diff_lt (n := 8) (by omega)
    refine ⟨(((l.getD x 0 : Nat) : Int), ((l.getD y 0 : Nat) : Int), (((elems (diff (l.getD x 0) (l.getD y 0))).getD z 0 : Nat) : Int), true), rfl, ?_⟩
    refine Ev.step (f := fun k => (impl_ElementsOf.f k (Go.bits .andNot .i64 ((l.getD y 0 : Nat) : Int) ((l.getD x 0 : Nat) : Int))).bind fun fs => ((slices_ContainsFunc_int_int.f k fs (fun f => impl_FirstFailure_1.f k (ints l) ((l.getD x 0 : Nat) : Int) (((elems (diff (l.getD x 0) (l.getD y 0))).getD z 0 : Nat) : Int) f)).bind fun t => (if t = true then (impl_FirstFailure.l2 k (m : Int) (ints l) (x : Int) ((l.getD x 0 : Nat) : Int) (y : Int) ((l.getD y 0 : Nat) : Int) (ints (elems (diff (l.getD x 0) (l.getD y 0)))) ((z + 1 : Nat) : Int)) else (some (((l.getD x 0 : Nat) : Int), ((l.getD y 0 : Nat) : Int), (((elems (diff (l.getD x 0) (l.getD y 0))).getD z 0 : Nat) : Int), true))))) (fun k => ?_) ?_
    ·simp only [impl_FirstFailure.l2]
     rw [if_pos (by rw [ints_length]; omega), if_pos (by omega), ints_rd, Gen.w64s z (by omega)]
    ·rw [andNot_nat _ _ (by omega)]
     refine Ev.bind (implElements _ (by omega)) ?_
     refine Ev.bind (a := exch l (l.getD x 0) (l.getD y 0) ((elems (diff (l.getD x 0) (l.getD y 0))).getD z 0)) (Gen.ev_at (1048577 + 8) (fun k hk => ?_)) ?_
     ·rw [exch_elems]
      refine containsFunc _ _ _ (by have := elems_length (diff (l.getD y 0) (l.getD x 0)); omega) (fun f hf => ?_) k (by have := elems_length (diff (l.getD y 0) (l.getD x 0)); omega)
      obtain ⟨hf8, hfb⟩ := elems_lt hf
      rw [diff_bit, Bool.and_eq_true] at hfb
      exact swapImpl l _ _ _ hn ha he hf8 hbit.1 (by simpa using hfb.2) k (by omega)
     ·have hp' : exch l (l.getD x 0) (l.getD y 0) ((elems (diff (l.getD x 0) (l.getD y 0))).getD z 0) = false := by simpa using hp
      rw [hp']
      exact Ev.now _)
   (by
    intro z hz hp r hr
    have ha := hlt x hx
    have hb := hlt y hy
    obtain ⟨he, hbit⟩ := elems_lt (getD_mem _ 0 z hz)
    rw [diff_bit, Bool.and_eq_true] at hbit
    have hl8 := elems_length (diff (l.getD x 0) (l.getD y 0))
    have hd : diff (l.getD y 0) (l.getD x 0) < 2 ^ 8 := diff_lt (n := 8) (by omega)
    refine Ev.step (f := fun k => (impl_ElementsOf.f k (Go.bits .andNot .i64 ((l.getD y 0 : Nat) : Int) ((l.getD x 0 : Nat) : Int))).bind fun fs => ((slices_ContainsFunc_int_int.f k fs (fun f => impl_FirstFailure_1.f k (ints l) ((l.getD x 0 : Nat) : Int) (((elems (diff (l.getD x 0) (l.getD y 0))).getD z 0 : Nat) : Int) f)).bind fun t => (if t = true then (impl_FirstFailure.l2 k (m : Int) (ints l) (x : Int) ((l.getD x 0 : Nat) : Int) (y : Int) ((l.getD y 0 : Nat) : Int) (ints (elems (diff (l.getD x 0) (l.getD y 0)))) ((z + 1 : Nat) : Int)) else (some (((l.getD x 0 : Nat) : Int), ((l.getD y 0 : Nat) : Int), (((elems (diff (l.getD x 0) (l.getD y 0))).getD z 0 : Nat) : Int), true))))) (fun k => ?_) ?_
    ·simp only [impl_FirstFailure.l2]
     rw [if_pos (by rw [ints_length]; omega), if_pos (by omega), ints_rd, Gen.w64s z (by omega)]
    ·rw [andNot_nat _ _ (by omega)]
     refine Ev.bind (implElements _ (by omega)) ?_
     refine Ev.bind (a := exch l (l.getD x 0) (l.getD y 0) ((elems (diff (l.getD x 0) (l.getD y 0))).getD z 0)) (Gen.ev_at (1048577 + 8) (fun k hk => ?_)) ?_
     ·rw [exch_elems]
      refine containsFunc _ _ _ (by have := elems_length (diff (l.getD y 0) (l.getD x 0)); omega) (fun f hf => ?_) k (by have := elems_length (diff (l.getD y 0) (l.getD x 0)); omega)
      obtain ⟨hf8, hfb⟩ := elems_lt hf
      rw [diff_bit, Bool.and_eq_true] at hfb
      exact swapImpl l _ _ _ hn ha he hf8 hbit.1 (by simpa using hfb.2) k (by omega)
     ·have hp' : exch l (l.getD x 0) (l.getD y 0) ((elems (diff (l.getD x 0) (l.getD y 0))).getD z 0) = true := by simpa using hp
      rw [hp']
      simp only [if_true]
      exact hr)
 have innerAny : ∀ x y : Nat, ((List.range' 0 (elems (diff (l.getD x 0) (l.getD y 0))).length).any fun z => !exch l (l.getD x 0) (l.getD y 0) ((elems (diff (l.getD x 0) (l.getD y 0))).getD z 0)) = (elems (diff (l.getD x 0) (l.getD y 0))).any fun e => !exch l (l.getD x 0) (l.getD y 0) e := fun x y => any_index (elems (diff (l.getD x 0) (l.getD y 0))) 0 (fun e => !exch l (l.getD x 0) (l.getD y 0) e)
 have middle : ∀ x : Nat, x < l.length → ∀ d i : Nat, i + d = l.length → _ := fun x hx =>
  ev_search (fun k y => impl_FirstFailure.l1 k (m : Int) (ints l) (x : Int) ((l.getD x 0 : Nat) : Int) y) l.length
   (fun y => (elems (diff (l.getD x 0) (l.getD y 0))).any fun e => !exch l (l.getD x 0) (l.getD y 0) e) (fun r => r.2.2.2 = true)
   (by
    intro y hy hp
    have ha := hlt x hx
    obtain ⟨h1, _⟩ := inner x y hx hy (elems (diff (l.getD x 0) (l.getD y 0))).length 0 (by omega)
    rw [innerAny] at h1
    obtain ⟨r, hr, hE⟩ := h1 hp
    refine ⟨r, hr, Ev.step (f := fun k => (impl_ElementsOf.f k (Go.bits .andNot .i64 ((l.getD x 0 : Nat) : Int) ((l.getD y 0 : Nat) : Int))).bind fun es => (impl_FirstFailure.l2 k (m : Int) (ints l) (x : Int) ((l.getD x 0 : Nat) : Int) (y : Int) ((l.getD y 0 : Nat) : Int) es 0)) (fun k => ?_) ?_⟩
    ·simp only [impl_FirstFailure.l1]
     rw [if_pos (by rw [ints_length]; omega), if_pos (by omega), ints_rd]
    ·rw [andNot_nat _ _ (by omega)]
     have hd : diff (l.getD x 0) (l.getD y 0) < 2 ^ 8 := diff_lt (n := 8) (by omega)
     exact Ev.bind (implElements _ (by omega)) hE)
   (by
    intro y hy hp r hr
    have ha := hlt x hx
    obtain ⟨_, h2⟩ := inner x y hx hy (elems (diff (l.getD x 0) (l.getD y 0))).length 0 (by omega)
    rw [innerAny] at h2
    refine Ev.step (f := fun k => (impl_ElementsOf.f k (Go.bits .andNot .i64 ((l.getD x 0 : Nat) : Int) ((l.getD y 0 : Nat) : Int))).bind fun es => (impl_FirstFailure.l2 k (m : Int) (ints l) (x : Int) ((l.getD x 0 : Nat) : Int) (y : Int) ((l.getD y 0 : Nat) : Int) es 0)) (fun k => ?_) ?_
    ·simp only [impl_FirstFailure.l1]
     rw [if_pos (by rw [ints_length]; omega), if_pos (by omega), ints_rd]
    ·rw [andNot_nat _ _ (by omega)]
     have hd : diff (l.getD x 0) (l.getD y 0) < 2 ^ 8 := diff_lt (n := 8) (by omega)
     refine Ev.bind (implElements _ (by omega)) (h2 hp r (Ev.step (fun k => ?_) hr))
     simp only [impl_FirstFailure.l2]
     rw [if_neg (by rw [ints_length]; omega), Gen.w64s y (by omega)])
 have middleAny : ∀ x : Nat, ((List.range' 0 l.length).any fun y => (elems (diff (l.getD x 0) (l.getD y 0))).any fun e => !exch l (l.getD x 0) (l.getD y 0) e) = l.any fun b => (elems (diff (l.getD x 0) b)).any fun e => !exch l (l.getD x 0) b e := fun x => any_index l 0 (fun b => (elems (diff (l.getD x 0) b)).any fun e => !exch l (l.getD x 0) b e)
 obtain ⟨o1, o2⟩ := ev_search (fun k x => impl_FirstFailure.l0 k (m : Int) (ints l) x) l.length
   (fun x => l.any fun b => (elems (diff (l.getD x 0) b)).any fun e => !exch l (l.getD x 0) b e) (fun r => r.2.2.2 = true)
   (by
    intro x hx hp
    obtain ⟨h1, _⟩ := middle x hx l.length 0 (by omega)
    rw [middleAny] at h1
    obtain ⟨r, hr, hE⟩ := h1 hp
    refine ⟨r, hr, Ev.step (fun k => ?_) hE⟩
    simp only [impl_FirstFailure.l0]
    rw [if_pos (by rw [ints_length]; omega), if_pos (by omega), ints_rd]
    rfl)
   (by
    intro x hx hp r hr
    obtain ⟨_, h2⟩ := middle x hx l.length 0 (by omega)
    rw [middleAny] at h2
    have h3 := h2 hp r (Ev.step (fun k => by
     simp only [impl_FirstFailure.l1]
     rw [if_neg (by rw [ints_length]; omega), Gen.w64s x (by omega)]) hr)
    refine Ev.step (fun k => ?_) h3
    simp only [impl_FirstFailure.l0]
    rw [if_pos (by rw [ints_length]; omega), if_pos (by omega), ints_rd]
    rfl) l.length 0 (by omega)
 have outerAny : ((List.range' 0 l.length).any fun x => l.any fun b => (elems (diff (l.getD x 0) b)).any fun e => !exch l (l.getD x 0) b e) = fails l := by
  rw [fails_elems]
  exact any_index l 0 (fun a => l.any fun b => (elems (diff a b)).any fun e => !exch l a b e)
 rw [outerAny] at o1 o2
 have start : ∀ r, Ev (fun k => impl_FirstFailure.l0 k (m : Int) (ints l) 0) r → Ev (fun k => impl_FirstFailure.f k (m : Int) (ints l)) r := fun r hr => by
  unfold impl_FirstFailure.f
  refine Ev.bind (Gen.ev_at (l.length + 1) (fun k hk => implFamily (m : Int) (ints l) (by rw [ints_length]; exact hn) k (by rw [ints_length]; omega))) ?_
  rw [hf]
  simp only [if_true]
  exact hr
 cases hfl : fails l with
 | true =>
  obtain ⟨⟨x, y, z, b⟩, hb, hE⟩ := o1 hfl
  simp only at hb
  subst hb
  exact ⟨x, y, z, start _ hE⟩
 | false =>
  refine ⟨0, 0, 0, start _ (o2 hfl _ (Gen.ev_at 1 (fun k hk => ?_)))⟩
  obtain ⟨q, rfl⟩ : ∃ q, k = q + 1 := ⟨k - 1, by omega⟩
  simp only [impl_FirstFailure.l0]
  rw [if_neg (by rw [ints_length]; omega)]
end Go.Proofs.Ytbjnkcfkhonkhaa.Mat
end
section
namespace Go.Proofs.Ytbjnkcfkhonkhaa.Mat
open Go.RowKit Go.Proofs.Ytbjnkcfkhonkhaa.Pr Go.Proofs.Ytbjnkcfkhonkhaa.Sets Go.Proofs.YtbjnkcfkhonkhaaW.PrintWords Go.Proofs.YtbjnkcfkhonkhaaW.PrintLast Go.Proofs.YtbjnkcfkhonkhaaW.PrintMore
set_option linter.unusedVariables false
theorem u64_small (e : Nat) (he : e < 62) : IntKind.u64.wrap (e : Int) = e := by
 unfold IntKind.wrap
 simp only [IntKind.bits, IntKind.signed, Bool.false_and, Bool.false_eq_true, if_false]
 omega
theorem l2Has (s e : Nat) (hs : s < 256) (he : e < 8) : spec_l2Has.f (s : Int) (e : Int) = some (s.testBit e) := by
 unfold spec_l2Has.f
 rw [u64_small e (by omega), if_pos (by omega), shr_bit s e (by omega) (by omega)]
theorem specExchange (m : Nat) (hm : m ≤ 8) (l : List Nat) (hn : l.length ≤ 1048576) (a b e : Nat) (ha : a < 256) (hb : b < 2 ^ m) (he : e < 8) (hae : a.testBit e = true) : Ev (fun k => spec_l4Exchange.f k (m : Int) (ints l) (a : Int) (b : Int) (e : Int)) (exch l a b e) := by
 have h256 := pow_le_256 hm
 unfold spec_l4Exchange.f
 have hle := bit_le a ha e he hae
 have key : ∀ f : Nat, f < m → a.testBit f = false → wrap64 ((wrap64 ((a : Int) - ((2 ^ e : Nat) : Int))) + ((2 ^ f : Nat) : Int)) = ((a - 2 ^ e + 2 ^ f : Nat) : Int) := fun f hf haf => by
  have h1 := swap_le a ha e he f (by omega) hae haf
  have h2 : 2 ^ f ≤ 256 := pow_le_256 (by omega)
  clear hae
  generalize (2 : Nat) ^ e = P at *
  generalize (2 : Nat) ^ f = Q at *
  rw [Gen.w64 (i := (a : Int) - (P : Int)) (by omega) (by omega), Gen.w64 (by omega) (by omega)]
  omega
 obtain ⟨o1, o2⟩ := ev_search (fun k f => spec_l4Exchange.l0 k (a : Int) (b : Int) (e : Int) f (m : Int) (ints l)) m (fun f => b.testBit f && !a.testBit f && l.contains (a - 2 ^ e + 2 ^ f)) (fun r => r = true)
  (by
   intro f hf hp
   rw [Bool.and_eq_true, Bool.and_eq_true] at hp
   obtain ⟨⟨h1, h2⟩, h3⟩ := hp
   have h2' : a.testBit f = false := by simpa using h2
   refine ⟨true, rfl, Gen.ev_at (l.length + 2) (fun k hk => ?_)⟩
   obtain ⟨q, rfl⟩ : ∃ q, k = q + 1 := ⟨k - 1, by omega⟩
   simp only [spec_l4Exchange.l0]
   rw [if_pos (by omega), l2Has b f (by omega) (by omega), h1]
   simp only [Option.bind_some, if_true]
   rw [l2Has a f ha (by omega), h2']
   simp only [Option.bind_some, Bool.false_eq_true, if_false]
   rw [u64_small e (by omega), u64_small f (by omega), if_pos (by omega), if_pos (by omega), shl_nat e (by omega), shl_nat f (by omega), key f hf h2', specHas l _ hn q (by omega), h3]
   rfl)
  (by
   intro f hf hp r hr
   by_cases h1 : b.testBit f = true
   ·by_cases h2 : a.testBit f = true
    ·refine Ev.step (fun k => ?_) hr
     simp only [spec_l4Exchange.l0]
     rw [if_pos (by omega), l2Has b f (by omega) (by omega), h1]
     simp only [Option.bind_some, if_true]
     rw [l2Has a f ha (by omega), h2]
     simp only [Option.bind_some, if_true]
     rw [Gen.w64s f (by omega)]
    ·have h2' : a.testBit f = false := by simpa using h2
     have h3 : l.contains (a - 2 ^ e + 2 ^ f) = false := by
      rw [h1, h2'] at hp
      simpa using hp
     refine Ev.step (f := fun k => (spec_HasSet.f k (ints l) ((a - 2 ^ e + 2 ^ f : Nat) : Int)).bind fun t => (if t = true then (some true) else (spec_l4Exchange.l0 k (a : Int) (b : Int) (e : Int) ((f + 1 : Nat) : Int) (m : Int) (ints l)))) (fun k => ?_) ?_
     ·simp only [spec_l4Exchange.l0]
      rw [if_pos (by omega), l2Has b f (by omega) (by omega), h1]
      simp only [Option.bind_some, if_true]
      rw [l2Has a f ha (by omega), h2']
      simp only [Option.bind_some, Bool.false_eq_true, if_false]
      rw [u64_small e (by omega), u64_small f (by omega), if_pos (by omega), if_pos (by omega), shl_nat e (by omega), shl_nat f (by omega), key f hf h2', Gen.w64s f (by omega)]
     ·refine Ev.bind (Gen.ev_at (l.length + 1) (fun k hk => specHas l _ hn k (by omega))) ?_
      rw [h3]
      exact hr
   ·have h1' : b.testBit f = false := by simpa using h1
    refine Ev.step (fun k => ?_) hr
    simp only [spec_l4Exchange.l0]
    rw [if_pos (by omega), l2Has b f (by omega) (by omega), h1']
    simp only [Option.bind_some, Bool.false_eq_true, if_false]
    rw [Gen.w64s f (by omega)]) m 0 (by omega)
 have e8 : ((List.range' 0 m).any fun f => b.testBit f && !a.testBit f && l.contains (a - 2 ^ e + 2 ^ f)) = exch l a b e := range8 m hm _ (fun j hj => by rw [bit_far hb hj]; rfl)
 rw [e8] at o1 o2
 cases hx : exch l a b e with
 | true =>
  obtain ⟨r, rfl, hE⟩ := o1 hx
  exact hE
 | false =>
  refine o2 hx _ (Gen.ev_at 1 (fun k hk => ?_))
  obtain ⟨q, rfl⟩ : ∃ q, k = q + 1 := ⟨k - 1, by omega⟩
  simp only [spec_l4Exchange.l0]
  rw [if_neg (by omega)]
theorem specFirst (m : Nat) (hm : m ≤ 8) (l : List Nat) (hl : ∀ s ∈ l, s < 2 ^ m) (hn : l.length ≤ 1048576) (hf : fam (m : Int) (ints l) = true) :
  ∃ x y z, Ev (fun k => spec_FirstFailure.f k (m : Int) (ints l)) (x, y, z, fails l) := by
 have h256 := pow_le_256 hm
 have hlt : ∀ i, i < l.length → l.getD i 0 < 256 := fun i hi => Nat.lt_of_lt_of_le (hl _ (getD_mem l 0 i hi)) h256
 have hltm : ∀ i, i < l.length → l.getD i 0 < 2 ^ m := fun i hi => hl _ (getD_mem l 0 i hi)
 have round : ∀ x y z : Nat, x < l.length → y < l.length → z < m → ∀ r, (((l.getD x 0).testBit z && !(l.getD y 0).testBit z && !exch l (l.getD x 0) (l.getD y 0) z) = true → r.2.2.2 = true → r = (((l.getD x 0 : Nat) : Int), ((l.getD y 0 : Nat) : Int), (z : Int), true) → Ev (fun k => spec_FirstFailure.l2 k (x : Int) (y : Int) (z : Int) (m : Int) (ints l)) r) ∧
   (((l.getD x 0).testBit z && !(l.getD y 0).testBit z && !exch l (l.getD x 0) (l.getD y 0) z) = false → Ev (fun k => spec_FirstFailure.l2 k (x : Int) (y : Int) ((z + 1 : Nat) : Int) (m : Int) (ints l)) r → Ev (fun k => spec_FirstFailure.l2 k (x : Int) (y : Int) (z : Int) (m : Int) (ints l)) r) := by
  intro x y z hx hy hz r
  have ha := hlt x hx
  have hb := hlt y hy
  have unf : ∀ k, spec_FirstFailure.l2 (k + 1) (x : Int) (y : Int) (z : Int) (m : Int) (ints l) = (if (l.getD x 0).testBit z = true then (if (l.getD y 0).testBit z = true then spec_FirstFailure.l2 k (x : Int) (y : Int) ((z + 1 : Nat) : Int) (m : Int) (ints l) else ((spec_l4Exchange.f k (m : Int) (ints l) ((l.getD x 0 : Nat) : Int) ((l.getD y 0 : Nat) : Int) (z : Int)).bind fun t => (if t = true then spec_FirstFailure.l2 k (x : Int) (y : Int) ((z + 1 : Nat) : Int) (m : Int) (ints l) else some (((l.getD x 0 : Nat) : Int), ((l.getD y 0 : Nat) : Int), (z : Int), true)))) else spec_FirstFailure.l2 k (x : Int) (y : Int) ((z + 1 : Nat) : Int) (m : Int) (ints l)) := fun k => by
   simp only [spec_FirstFailure.l2]
   rw [if_pos (by omega), if_pos (by omega), if_pos (by rw [ints_length]; omega), if_pos (by omega), if_pos (by rw [ints_length]; omega), ints_rd, ints_rd, l2Has _ z ha (by omega)]
   simp only [Option.bind_some]
   rw [l2Has _ z hb (by omega)]
   simp only [Option.bind_some]
   rw [Gen.w64s z (by omega)]
  cases h1 : (l.getD x 0).testBit z with
  | false =>
   refine ⟨fun h => by simp at h, fun _ hr => Ev.step (fun k => ?_) hr⟩
   rw [unf, h1, if_neg (by decide)]
  | true =>
   cases h2 : (l.getD y 0).testBit z with
   | true =>
    refine ⟨fun h => by simp at h, fun _ hr => Ev.step (fun k => ?_) hr⟩
    rw [unf, h1, h2, if_pos rfl, if_pos rfl]
   | false =>
    have hE := specExchange m hm l hn (l.getD x 0) (l.getD y 0) z ha (hltm y hy) (by omega) h1
    cases h3 : exch l (l.getD x 0) (l.getD y 0) z with
    | true =>
     rw [h3] at hE
     refine ⟨fun h => by simp at h, fun _ hr => Ev.step (fun k => ?_) (Ev.bind hE (f := fun k t => (if t = true then spec_FirstFailure.l2 k (x : Int) (y : Int) ((z + 1 : Nat) : Int) (m : Int) (ints l) else some (((l.getD x 0 : Nat) : Int), ((l.getD y 0 : Nat) : Int), (z : Int), true))) (by simp only [if_true]; exact hr))⟩
     rw [unf, h1, h2, if_pos rfl, if_neg (by decide)]
    | false =>
     rw [h3] at hE
     refine ⟨fun _ _ e => ?_, fun h => by simp at h⟩
     subst e
     refine Ev.step (fun k => ?_) (Ev.bind hE (f := fun k t => (if t = true then spec_FirstFailure.l2 k (x : Int) (y : Int) ((z + 1 : Nat) : Int) (m : Int) (ints l) else some (((l.getD x 0 : Nat) : Int), ((l.getD y 0 : Nat) : Int), (z : Int), true))) (by simp only [Bool.false_eq_true, if_false]; exact Ev.now _))
     rw [unf, h1, h2, if_pos rfl, if_neg (by decide)]
 have inner : ∀ x y : Nat, x < l.length → y < l.length → ∀ d i : Nat, i + d = m → _ := fun x y hx hy =>
  ev_search (fun k z => spec_FirstFailure.l2 k (x : Int) (y : Int) z (m : Int) (ints l)) m
   (fun z => (l.getD x 0).testBit z && !(l.getD y 0).testBit z && !exch l (l.getD x 0) (l.getD y 0) z) (fun r => r.2.2.2 = true)
   (fun z hz hp => ⟨_, rfl, (round x y z hx hy hz (((l.getD x 0 : Nat) : Int), ((l.getD y 0 : Nat) : Int), (z : Int), true)).1 hp rfl rfl⟩)
   (fun z hz hp r hr => (round x y z hx hy hz r).2 hp hr)
 have innerAny : ∀ x y : Nat, x < l.length → ((List.range' 0 m).any fun z => (l.getD x 0).testBit z && !(l.getD y 0).testBit z && !exch l (l.getD x 0) (l.getD y 0) z) = (List.range' 0 8).any fun e => (l.getD x 0).testBit e && !(l.getD y 0).testBit e && !exch l (l.getD x 0) (l.getD y 0) e := fun x y hx => range8 m hm _ (fun j hj => by rw [bit_far (hltm x hx) hj]; rfl)
 have middle : ∀ x : Nat, x < l.length → ∀ d i : Nat, i + d = l.length → _ := fun x hx =>
  ev_search (fun k y => spec_FirstFailure.l1 k (x : Int) y (m : Int) (ints l)) l.length
   (fun y => (List.range' 0 8).any fun e => (l.getD x 0).testBit e && !(l.getD y 0).testBit e && !exch l (l.getD x 0) (l.getD y 0) e) (fun r => r.2.2.2 = true)
   (by
    intro y hy hp
    obtain ⟨h1, _⟩ := inner x y hx hy m 0 (by omega)
    rw [innerAny x y hx] at h1
    obtain ⟨r, hr, hE⟩ := h1 hp
    refine ⟨r, hr, Ev.step (fun k => ?_) hE⟩
    simp only [spec_FirstFailure.l1]
    rw [if_pos (by rw [ints_length]; omega)]
    rfl)
   (by
    intro y hy hp r hr
    obtain ⟨_, h2⟩ := inner x y hx hy m 0 (by omega)
    rw [innerAny x y hx] at h2
    refine Ev.step (fun k => ?_) (h2 hp r (Ev.step (fun k => by
     simp only [spec_FirstFailure.l2]
     rw [if_neg (by omega), Gen.w64s y (by omega)]) hr))
    simp only [spec_FirstFailure.l1]
    rw [if_pos (by rw [ints_length]; omega)]
    rfl)
 have middleAny : ∀ x : Nat, ((List.range' 0 l.length).any fun y => (List.range' 0 8).any fun e => (l.getD x 0).testBit e && !(l.getD y 0).testBit e && !exch l (l.getD x 0) (l.getD y 0) e) = l.any fun b => (List.range' 0 8).any fun e => (l.getD x 0).testBit e && !b.testBit e && !exch l (l.getD x 0) b e := fun x => any_index l 0 (fun b => (List.range' 0 8).any fun e => (l.getD x 0).testBit e && !b.testBit e && !exch l (l.getD x 0) b e)
 obtain ⟨o1, o2⟩ := ev_search (fun k x => spec_FirstFailure.l0 k x (m : Int) (ints l)) l.length
   (fun x => l.any fun b => (List.range' 0 8).any fun e => (l.getD x 0).testBit e && !b.testBit e && !exch l (l.getD x 0) b e) (fun r => r.2.2.2 = true)
   (by
    intro x hx hp
    obtain ⟨h1, _⟩ := middle x hx l.length 0 (by omega)
    rw [middleAny] at h1
    obtain ⟨r, hr, hE⟩ := h1 hp
    refine ⟨r, hr, Ev.step (fun k => ?_) hE⟩
    simp only [spec_FirstFailure.l0]
    rw [if_pos (by rw [ints_length]; omega)]
    rfl)
   (by
    intro x hx hp r hr
    obtain ⟨_, h2⟩ := middle x hx l.length 0 (by omega)
    rw [middleAny] at h2
    refine Ev.step (fun k => ?_) (h2 hp r (Ev.step (fun k => by
     simp only [spec_FirstFailure.l1]
     rw [if_neg (by rw [ints_length]; omega), Gen.w64s x (by omega)]) hr))
    simp only [spec_FirstFailure.l0]
    rw [if_pos (by rw [ints_length]; omega)]
    rfl) l.length 0 (by omega)
 have outerAny : ((List.range' 0 l.length).any fun x => l.any fun b => (List.range' 0 8).any fun e => (l.getD x 0).testBit e && !b.testBit e && !exch l (l.getD x 0) b e) = fails l := by
  unfold fails
  exact any_index l 0 (fun a => l.any fun b => (List.range' 0 8).any fun e => a.testBit e && !b.testBit e && !exch l a b e)
 rw [outerAny] at o1 o2
 have start : ∀ r, Ev (fun k => spec_FirstFailure.l0 k 0 (m : Int) (ints l)) r → Ev (fun k => spec_FirstFailure.f k (m : Int) (ints l)) r := fun r hr => by
  unfold spec_FirstFailure.f
  refine Ev.bind (Gen.ev_at (l.length + 1) (fun k hk => specFamily (m : Int) (ints l) (by rw [ints_length]; exact hn) k (by rw [ints_length]; omega))) ?_
  rw [hf]
  simp only [if_true]
  exact hr
 cases hfl : fails l with
 | true =>
  obtain ⟨⟨x, y, z, b⟩, hb, hE⟩ := o1 hfl
  simp only at hb
  subst hb
  exact ⟨x, y, z, start _ hE⟩
 | false =>
  refine ⟨0, 0, 0, start _ (o2 hfl _ (Gen.ev_at 1 (fun k hk => ?_)))⟩
  obtain ⟨q, rfl⟩ : ∃ q, k = q + 1 := ⟨k - 1, by omega⟩
  simp only [spec_FirstFailure.l0]
  rw [if_neg (by rw [ints_length]; omega)]
def isMat (n : Int) (l : List Int) : Bool := fam n l && decide (0 < l.length) && !fails (l.map Int.toNat)
theorem toNat_ints (l : List Nat) : (ints l).map Int.toNat = l := by
 unfold ints
 rw [List.map_map]
 conv => rhs; rw [← List.map_id l]
 exact List.map_congr_left fun x _ => by simp
theorem implMat (n : Int) (l : List Int) (hn : l.length ≤ 1048576) : Ev (fun k => impl_IsMatroid.f k n l) (isMat n l) := by
 unfold impl_IsMatroid.f isMat
 have hF : Ev (fun k => impl_IsFamily.f k n l) (fam n l) := Gen.ev_at (l.length + 1) (fun k hk => implFamily n l hn k (by omega))
 cases hf : fam n l with
 | false =>
  rw [hf] at hF
  refine Ev.bind (a := (0, 0, 0, false)) ?_ (Ev.bind hF (by simp only [Bool.false_eq_true, if_false]; exact Ev.now _))
  unfold impl_FirstFailure.f
  exact Ev.bind hF (by simp only [Bool.false_eq_true, if_false]; exact Ev.now _)
 | true =>
  rw [hf] at hF
  obtain ⟨m, lN, rfl, hm, rfl, hl⟩ := fam_nat hf
  rw [toNat_ints]
  rw [ints_length] at hn
  obtain ⟨x, y, z, hE⟩ := implFirst m hm lN hl hn hf
  refine Ev.bind hE (Ev.bind hF ?_)
  simp only [if_true, ints_length]
  by_cases h0 : 0 < lN.length
  ·simp only [if_pos (show (lN.length : Int) > 0 by omega), decide_eq_true h0, Bool.true_and]
   exact Ev.now _
  ·simp only [if_neg (show ¬ (lN.length : Int) > 0 by omega), decide_eq_false h0, Bool.true_and, Bool.false_and]
   exact Ev.now _
theorem specMat (n : Int) (l : List Int) (hn : l.length ≤ 1048576) : Ev (fun k => spec_IsMatroid.f k n l) (isMat n l) := by
 unfold spec_IsMatroid.f isMat
 have hF : Ev (fun k => spec_IsFamily.f k n l) (fam n l) := Gen.ev_at (l.length + 1) (fun k hk => specFamily n l hn k (by omega))
 cases hf : fam n l with
 | false =>
  rw [hf] at hF
  refine Ev.bind (a := (0, 0, 0, false)) ?_ (Ev.bind hF (by simp only [Bool.false_eq_true, if_false]; exact Ev.now _))
  unfold spec_FirstFailure.f
  exact Ev.bind hF (by simp only [Bool.false_eq_true, if_false]; exact Ev.now _)
 | true =>
  rw [hf] at hF
  obtain ⟨m, lN, rfl, hm, rfl, hl⟩ := fam_nat hf
  rw [toNat_ints]
  rw [ints_length] at hn
  obtain ⟨x, y, z, hE⟩ := specFirst m hm lN hl hn hf
  refine Ev.bind hE (Ev.bind hF ?_)
  simp only [if_true, ints_length]
  by_cases h0 : 0 < lN.length
  ·simp only [if_pos (show (lN.length : Int) > 0 by omega), decide_eq_true h0, Bool.true_and]
   exact Ev.now _
  ·simp only [if_neg (show ¬ (lN.length : Int) > 0 by omega), decide_eq_false h0, Bool.true_and, Bool.false_and]
   exact Ev.now _
end Go.Proofs.Ytbjnkcfkhonkhaa.Mat
end
section
namespace Go.Proofs.Ytbjnkcfkhonkhaa.Rank
open Go.RowKit Go.Proofs.Ytbjnkcfkhonkhaa.Pr Go.Proofs.Ytbjnkcfkhonkhaa.Sets Go.Proofs.Ytbjnkcfkhonkhaa.Mat Go.Proofs.YtbjnkcfkhonkhaaW.PrintWords Go.Proofs.YtbjnkcfkhonkhaaW.PrintLast Go.Proofs.YtbjnkcfkhonkhaaW.PrintMore
set_option linter.unusedVariables false
def cnt (s : Nat) : Nat := (elems s).length
theorem cnt_le (s : Nat) : cnt s ≤ 8 := elems_length s
set_option maxRecDepth 100000 in
theorem specCountB : ∀ s : Nat, s < 256 → spec_CountOf.f 10 (s : Int) = some (cnt s : Int) := by decide +kernel
theorem specCount (s : Nat) (h : s < 256) (k : Nat) (hk : 10 ≤ k) : spec_CountOf.f k (s : Int) = some (cnt s : Int) := by
 induction k with
 | zero => omega
 | succ k ih =>
  by_cases e : 10 ≤ k
  ·exact spec_CountOf.mono _ _ _ (ih e)
  ·obtain rfl : k = 9 := by omega
   exact specCountB s h
theorem specCountE (s : Nat) (h : s < 256) : Ev (fun k => spec_CountOf.f k (s : Int)) (cnt s : Int) := Gen.ev_at 10 (fun k hk => specCount s h k hk)
def rank (l : List Nat) (s : Nat) : Nat := l.foldl (fun m b => max m (cnt (s &&& b))) 0
theorem foldl_index {σ : Type} (l : List Nat) (f : σ → Nat → σ) (s : σ) : (List.range' 0 l.length).foldl (fun s i => f s (l.getD i 0)) s = l.foldl f s := by
 have e : l = (List.range' 0 l.length).map fun i => l.getD i 0 := by
  rw [← List.range_eq_range', Gen.map_getD']
 conv => rhs; rw [e]
 rw [List.foldl_map]
theorem and_lt {a b n : Nat} (ha : a < 2 ^ n) : a &&& b < 2 ^ n := Nat.lt_of_le_of_lt Nat.and_le_left ha
theorem specRank (m : Nat) (l : List Nat) (s : Nat) (hs : s < 256) (hl : ∀ b ∈ l, b < 256) (hn : l.length ≤ 1048576) : Ev (fun k => spec_l5Rank.f k (m : Int) (ints l) (s : Int)) (rank l s : Int) := by
 unfold spec_l5Rank.f
 have e : rank l s = (List.range' 0 l.length).foldl (fun o i => max o (cnt (s &&& l.getD i 0))) 0 := (foldl_index l (fun o b => max o (cnt (s &&& b))) 0).symm
 rw [e]
 have key := Gen.ev_loop (fun k (o : Nat) i => spec_l5Rank.l0 k (s : Int) (o : Int) i (m : Int) (ints l)) l.length (fun i o => max o (cnt (s &&& l.getD i 0))) (fun _ _ => True) (((List.range' 0 l.length).foldl (fun o i => max o (cnt (s &&& l.getD i 0))) 0 : Nat) : Int) (fun i o hi _ => ⟨trivial, fun h => ?_⟩) l.length 0 0 (by omega) trivial (fun _ => Gen.ev_at 1 (fun k hk => ?_))
 ·exact key
 ·have hb := hl _ (getD_mem l 0 i hi)
  refine Ev.step (f := fun k => (spec_CountOf.f k (Go.bits .and .i64 (rd (ints l) (i : Int)) (s : Int))).bind fun t278 => ((spec_l1Max.f (o : Int) t278).bind fun t279 => (spec_l5Rank.l0 k (s : Int) t279 (wrap64 ((i : Int) + 1)) (m : Int) (ints l)))) (fun k => ?_) ?_
  ·simp only [spec_l5Rank.l0]
   rw [if_pos (by rw [ints_length]; omega), if_pos (by omega)]
  ·rw [ints_rd, and_nat _ s (by omega) (by omega), Nat.and_comm, Gen.w64s i (by omega)]
   refine Ev.bind (specCountE _ (and_lt (n := 8) hs)) ?_
   have hx : spec_l1Max.f (o : Int) (cnt (s &&& l.getD i 0) : Int) = some ((max o (cnt (s &&& l.getD i 0)) : Nat) : Int) := by
    unfold spec_l1Max.f
    split <;> · congr 1; omega
   rw [hx]
   exact h
 ·obtain ⟨q, rfl⟩ : ∃ q, k = q + 1 := ⟨k - 1, by omega⟩
  simp only [spec_l5Rank.l0]
  rw [if_neg (by rw [ints_length]; omega)]
theorem or_lt {a b n : Nat} (ha : a < 2 ^ n) (hb : b < 2 ^ n) : a ||| b < 2 ^ n := Nat.or_lt_two_pow ha hb
theorem pow_lt {e m : Nat} (h : e < m) : 2 ^ e < 2 ^ m := Nat.pow_lt_pow_right (by decide) h
end Go.Proofs.Ytbjnkcfkhonkhaa.Rank
end
section
namespace Go.Proofs.Ytbjnkcfkhonkhaa.Size
open Go.RowKit Go.Proofs.Ytbjnkcfkhonkhaa.Sets Go.Proofs.Ytbjnkcfkhonkhaa.Rank
set_option linter.unusedVariables false
theorem cnt_count (s : Nat) : cnt s = (List.range' 0 8).countP fun j => s.testBit j := by
 unfold cnt elems
 rw [List.countP_eq_length_filter]
theorem cnt_mono {a b : Nat} (h : ∀ j, j < 8 → a.testBit j = true → b.testBit j = true) : cnt a ≤ cnt b := by
 rw [cnt_count, cnt_count]
 refine List.countP_mono_left fun j hj => h j ?_
 have := List.mem_range'_1.1 hj
 omega
theorem cnt_swap : ∀ a, a < 256 → ∀ e, e < 8 → ∀ f, f < 8 → a.testBit e = true → a.testBit f = false → cnt (diff a (2 ^ e) ||| 2 ^ f) = cnt a := by decide +kernel
theorem cnt_less : ∀ a, a < 256 → ∀ e, e < 8 → a.testBit e = true → cnt (diff a (2 ^ e)) < cnt a := by decide +kernel
theorem cnt_some : ∀ a, a < 256 → 0 < cnt a → ∃ e, e < 8 ∧ a.testBit e = true := by decide +kernel
theorem cnt_zero_bit : ∀ a, a < 256 → cnt a = 0 → a = 0 := by decide +kernel
theorem exch_some {l : List Nat} {a b e : Nat} (hf : fails l = false) (ha : a ∈ l) (hb : b ∈ l) (he : e < 8) (h1 : a.testBit e = true) (h2 : b.testBit e = false) : ∃ f, f < 8 ∧ b.testBit f = true ∧ a.testBit f = false ∧ (a - 2 ^ e + 2 ^ f) ∈ l := by
 have hx : exch l a b e = true := by
  cases h : exch l a b e with
  | true => rfl
  | false =>
   have : fails l = true := by
    unfold fails
    rw [List.any_eq_true]
    refine ⟨a, ha, List.any_eq_true.2 ⟨b, hb, List.any_eq_true.2 ⟨e, List.mem_range'_1.2 (by omega), ?_⟩⟩⟩
    rw [h1, h2, h]
    rfl
   rw [hf] at this
   exact Bool.noConfusion this
 unfold exch at hx
 obtain ⟨f, hf1, hf2⟩ := List.any_eq_true.1 hx
 have := List.mem_range'_1.1 hf1
 rw [Bool.and_eq_true, Bool.and_eq_true] at hf2
 exact ⟨f, by omega, hf2.1.1, by simpa using hf2.1.2, by simpa using hf2.2⟩
theorem bases_le (l : List Nat) (hl : ∀ s ∈ l, s < 256) (hf : fails l = false) : ∀ n a b : Nat, a ∈ l → b ∈ l → cnt (diff a b) ≤ n → cnt a ≤ cnt b := by
 intro n
 induction n with
 | zero =>
  intro a b ha hb h
  have h256 := hl a ha
  have hz : diff a b = 0 := cnt_zero_bit _ (diff_lt (n := 8) h256) (by omega)
  refine cnt_mono fun j hj hbit => ?_
  have := diff_bit a b j
  rw [hz, Nat.zero_testBit, hbit] at this
  simpa using this.symm
 | succ n ih =>
  intro a b ha hb h
  have h256 := hl a ha
  by_cases hle : cnt (diff a b) ≤ n
  ·exact ih a b ha hb hle
  ·obtain ⟨e, he, hbit⟩ := cnt_some _ (diff_lt (n := 8) h256) (show 0 < cnt (diff a b) by omega)
   have hbit' := hbit
   rw [diff_bit, Bool.and_eq_true] at hbit'
   obtain ⟨h1, h2⟩ := hbit'
   have h2' : b.testBit e = false := by simpa using h2
   obtain ⟨f, hf8, hbf, haf, hmem⟩ := exch_some hf ha hb he h1 h2'
   rw [← swap_eq a h256 e he f hf8 h1 haf] at hmem
   have hd : diff (diff a (2 ^ e) ||| 2 ^ f) b = diff (diff a b) (2 ^ e) := by
    apply Nat.eq_of_testBit_eq
    intro j
    rw [diff_bit, Nat.testBit_or, diff_bit, diff_bit, diff_bit, Nat.testBit_two_pow, Nat.testBit_two_pow]
    by_cases ej : f = j
    ·subst ej
     rw [hbf, haf]
     simp
    ·rw [decide_eq_false ej, Bool.or_false]
     cases a.testBit j <;> cases b.testBit j <;> cases decide (e = j) <;> rfl
   have hlt := cnt_less _ (diff_lt (n := 8) h256) e he hbit
   rw [← hd] at hlt
   have := ih _ b hmem hb (by omega)
   rw [cnt_swap a h256 e he f hf8 h1 haf] at this
   exact this
theorem bases_same {l : List Nat} (hl : ∀ s ∈ l, s < 256) (hf : fails l = false) {a b : Nat} (ha : a ∈ l) (hb : b ∈ l) : cnt a = cnt b :=
 Nat.le_antisymm (bases_le l hl hf _ a b ha hb (Nat.le_refl _)) (bases_le l hl hf _ b a hb ha (Nat.le_refl _))
theorem rank_le_of (l : List Nat) (s r : Nat) (h : ∀ b ∈ l, cnt (s &&& b) ≤ r) : rank l s ≤ r := by
 have : ∀ (l : List Nat) (o : Nat), o ≤ r → (∀ b ∈ l, cnt (s &&& b) ≤ r) → l.foldl (fun m b => max m (cnt (s &&& b))) o ≤ r := by
  intro l
  induction l with
  | nil => exact fun o ho _ => ho
  | cons a l ih =>
   intro o ho h
   rw [List.foldl_cons]
   have := h a (by simp)
   exact ih _ (by omega) fun b hb => h b (by simp [hb])
 exact this l 0 (by omega) h
theorem rank_ge (l : List Nat) (s b : Nat) (hb : b ∈ l) : cnt (s &&& b) ≤ rank l s := by
 have mono : ∀ (l : List Nat) (o : Nat), o ≤ l.foldl (fun m b => max m (cnt (s &&& b))) o := by
  intro l
  induction l with
  | nil => exact fun o => Nat.le_refl _
  | cons a l ih =>
   intro o
   rw [List.foldl_cons]
   exact Nat.le_trans (by omega) (ih _)
 have : ∀ (l : List Nat) (o : Nat), b ∈ l → cnt (s &&& b) ≤ l.foldl (fun m b => max m (cnt (s &&& b))) o := by
  intro l
  induction l with
  | nil => exact fun o h => by simp at h
  | cons a l ih =>
   intro o h
   rw [List.foldl_cons]
   rcases List.mem_cons.1 h with rfl | h
   ·exact Nat.le_trans (by omega) (mono l _)
   ·exact ih _ h
 exact this l 0 hb
end Go.Proofs.Ytbjnkcfkhonkhaa.Size
end
section
namespace Go.Proofs.Ytbjnkcfkhonkhaa.Indep
open Go.RowKit Go.Proofs.Ytbjnkcfkhonkhaa.Sets Go.Proofs.Ytbjnkcfkhonkhaa.Rank Go.Proofs.Ytbjnkcfkhonkhaa.Size
set_option linter.unusedVariables false
def indep (l : List Nat) (s : Nat) : Bool := l.any fun b => decide (s &&& b = s)
theorem and_less {s b : Nat} (hs : s < 256) (h : s &&& b ≠ s) : cnt (s &&& b) < cnt s := by
 have hex : ∃ j, s.testBit j = true ∧ b.testBit j = false := by
  refine Classical.byContradiction fun hn => h ?_
  apply Nat.eq_of_testBit_eq
  intro j
  rw [Nat.testBit_and]
  cases h1 : s.testBit j with
  | false => rfl
  | true =>
   cases h2 : b.testBit j with
   | true => rfl
   | false => exact absurd ⟨j, h1, h2⟩ hn
 obtain ⟨j, h1, h2⟩ := hex
 have hj : j < 8 := by
  refine Nat.lt_of_not_le fun hle => ?_
  rw [bit_far (n := 8) hs hle] at h1
  exact Bool.noConfusion h1
 refine Nat.lt_of_le_of_lt (cnt_mono fun i _ hi => ?_) (cnt_less s hs j hj h1)
 rw [Nat.testBit_and, Bool.and_eq_true] at hi
 rw [diff_bit, Nat.testBit_two_pow, hi.1, Bool.true_and]
 by_cases e : j = i
 ·subst e
  rw [h2] at hi
  exact absurd hi.2 (by decide)
 ·rw [decide_eq_false e]
  rfl
theorem rank_indep {l : List Nat} {s : Nat} (hs : s < 256) (hn : 0 < l.length) : decide (rank l s < cnt s) = !indep l s := by
 cases h : indep l s with
 | true =>
  unfold indep at h
  obtain ⟨b, hb, he⟩ := List.any_eq_true.1 h
  rw [decide_eq_true_eq] at he
  have := rank_ge l s b hb
  rw [he] at this
  rw [decide_eq_false (by omega)]
  rfl
 | false =>
  unfold indep at h
  rw [List.any_eq_false] at h
  have hlt : ∀ b ∈ l, cnt (s &&& b) < cnt s := fun b hb => and_less hs (by simpa using h b hb)
  have h0 := hlt _ (getD_mem l 0 0 hn)
  have := rank_le_of l s (cnt s - 1) fun b hb => by have := hlt b hb; omega
  rw [decide_eq_true (by omega)]
  rfl
theorem rank_is_cnt {l : List Nat} {s : Nat} (hs : s < 256) (hn : 0 < l.length) : decide (rank l s = cnt s) = indep l s := by
 have h := rank_indep (l := l) hs hn
 have hle : rank l s ≤ cnt s := rank_le_of l s _ fun b _ => cnt_mono fun j _ hj => by
  rw [Nat.testBit_and, Bool.and_eq_true] at hj
  exact hj.1
 cases hi : indep l s with
 | true =>
  rw [hi, Bool.not_true, decide_eq_false_iff_not] at h
  rw [decide_eq_true (by omega)]
 | false =>
  rw [hi, Bool.not_false, decide_eq_true_eq] at h
  rw [decide_eq_false (by omega)]
theorem indep_zero {l : List Nat} (hn : 0 < l.length) : indep l 0 = true := by
 unfold indep
 rw [List.any_eq_true]
 exact ⟨_, getD_mem l 0 0 hn, by simp⟩
end Go.Proofs.Ytbjnkcfkhonkhaa.Indep
end
section
namespace Go.Proofs.Ytbjnkcfkhonkhaa.Aug
open Go.RowKit Go.Proofs.Ytbjnkcfkhonkhaa.Sets Go.Proofs.Ytbjnkcfkhonkhaa.Rank Go.Proofs.Ytbjnkcfkhonkhaa.Size Go.Proofs.Ytbjnkcfkhonkhaa.Indep
set_option linter.unusedVariables false
def Sub (a b : Nat) : Prop := ∀ j, a.testBit j = true → b.testBit j = true
theorem sub_and {a b : Nat} : a &&& b = a ↔ Sub a b := by
 constructor
 ·intro h j hj
  rw [← h, Nat.testBit_and, Bool.and_eq_true] at hj
  exact hj.2
 ·intro h
  apply Nat.eq_of_testBit_eq
  intro j
  rw [Nat.testBit_and]
  cases ha : a.testBit j with
  | false => rfl
  | true => rw [h j ha]; rfl
theorem Sub.refl (a : Nat) : Sub a a := fun _ h => h
theorem Sub.trans {a b c : Nat} (h : Sub a b) (k : Sub b c) : Sub a c := fun j hj => k j (h j hj)
theorem sub_antisymm {a b : Nat} (h : Sub a b) (k : Sub b a) : a = b := by
 apply Nat.eq_of_testBit_eq
 intro j
 cases ha : a.testBit j with
 | true => exact (h j ha).symm
 | false =>
  cases hb : b.testBit j with
  | false => rfl
  | true => rw [k j hb] at ha; exact Bool.noConfusion ha
theorem sub_lt {a b n : Nat} (h : Sub a b) (hb : b < 2 ^ n) : a < 2 ^ n := by
 apply Nat.lt_pow_two_of_testBit
 intro j hj
 cases ha : a.testBit j with
 | false => rfl
 | true =>
  have := h j ha
  rw [bit_far hb hj] at this
  exact Bool.noConfusion this
theorem sub_or_left (a b : Nat) : Sub a (a ||| b) := fun j h => by rw [Nat.testBit_or, h]; rfl
theorem sub_or_right (a b : Nat) : Sub b (a ||| b) := fun j h => by rw [Nat.testBit_or, h, Bool.or_true]
theorem sub_and_left (a b : Nat) : Sub (a &&& b) a := fun j h => by rw [Nat.testBit_and, Bool.and_eq_true] at h; exact h.1
theorem sub_and_right (a b : Nat) : Sub (a &&& b) b := fun j h => by rw [Nat.testBit_and, Bool.and_eq_true] at h; exact h.2
theorem sub_diff (a b : Nat) : Sub (diff a b) a := fun j h => by rw [diff_bit, Bool.and_eq_true] at h; exact h.1
theorem sub_or {a b c : Nat} (h : Sub a c) (k : Sub b c) : Sub (a ||| b) c := fun j hj => by
 rw [Nat.testBit_or, Bool.or_eq_true] at hj
 exact hj.elim (h j) (k j)
theorem sub_and_of {a b c : Nat} (h : Sub c a) (k : Sub c b) : Sub c (a &&& b) := fun j hj => by
 rw [Nat.testBit_and, h j hj, k j hj]; rfl
theorem or_mono {a b c d : Nat} (h : Sub a c) (k : Sub b d) : Sub (a ||| b) (c ||| d) := sub_or (h.trans (sub_or_left _ _)) (k.trans (sub_or_right _ _))
theorem bit_lt8 {a e : Nat} (ha : a < 256) (h : a.testBit e = true) : e < 8 := by
 refine Nat.lt_of_not_le fun hle => ?_
 rw [bit_far (n := 8) ha hle] at h
 exact Bool.noConfusion h
theorem bit_ltn {a e n : Nat} (ha : a < 2 ^ n) (h : a.testBit e = true) : e < n := by
 refine Nat.lt_of_not_le fun hle => ?_
 rw [bit_far ha hle] at h
 exact Bool.noConfusion h
theorem pow_bit (e j : Nat) : (2 ^ e).testBit j = decide (e = j) := Nat.testBit_two_pow
theorem bit_sub {a e : Nat} (h : a.testBit e = true) : Sub (2 ^ e) a := fun j hj => by
 rw [pow_bit, decide_eq_true_eq] at hj
 rw [← hj]; exact h
theorem or_one (a e j : Nat) : (a ||| 2 ^ e).testBit j = (a.testBit j || decide (e = j)) := by rw [Nat.testBit_or, pow_bit]
theorem or_self_bit (a e : Nat) : (a ||| 2 ^ e).testBit e = true := by rw [or_one, decide_eq_true rfl, Bool.or_true]
theorem less_one (a e j : Nat) : (diff a (2 ^ e)).testBit j = (a.testBit j && !decide (e = j)) := by rw [diff_bit, pow_bit]
theorem not_bit {b : Bool} (h : b ≠ true) : b = false := by cases b <;> simp_all
theorem countP_split {α : Type} (p q : α → Bool) (l : List α) : l.countP p = l.countP (fun x => p x && q x) + l.countP (fun x => p x && !q x) := by
 induction l with
 | nil => rfl
 | cons a l ih =>
  rw [List.countP_cons, List.countP_cons, List.countP_cons, ih]
  cases p a <;> cases q a <;> simp <;> omega
theorem cnt_split (a b : Nat) : cnt a = cnt (a &&& b) + cnt (diff a b) := by
 rw [cnt_count, cnt_count, cnt_count, countP_split (fun j => a.testBit j) (fun j => b.testBit j)]
 congr 1
 ·refine List.countP_congr fun j _ => ?_
  rw [Nat.testBit_and]
 ·refine List.countP_congr fun j _ => ?_
  rw [diff_bit]
theorem cnt_sub {a b : Nat} (h : Sub a b) : cnt a ≤ cnt b := cnt_mono fun j _ hj => h j hj
theorem cnt_bitB : ∀ e, e < 8 → cnt (2 ^ e) = 1 := by decide +kernel
theorem cnt_disj {a b : Nat} (h : ∀ j, a.testBit j = true → b.testBit j = false) : cnt (a ||| b) = cnt a + cnt b := by
 rw [cnt_split (a ||| b) a]
 congr 1
 ·congr 1
  exact sub_antisymm (fun j hj => (sub_and_right _ _) j hj) (sub_and_of (sub_or_left _ _) (Sub.refl _))
 ·congr 1
  apply Nat.eq_of_testBit_eq
  intro j
  rw [diff_bit, Nat.testBit_or]
  cases ha : a.testBit j with
  | false => simp
  | true => rw [h j ha]; rfl
theorem cnt_or_bit {a e : Nat} (he : e < 8) (h : a.testBit e = false) : cnt (a ||| 2 ^ e) = cnt a + 1 := by
 rw [cnt_disj fun j hj => ?_, cnt_bitB e he]
 rw [pow_bit, decide_eq_false_iff_not]
 rintro rfl
 rw [h] at hj
 exact Bool.noConfusion hj
theorem cnt_less_bit {a e : Nat} (ha : a < 256) (h : a.testBit e = true) : cnt a = cnt (diff a (2 ^ e)) + 1 := by
 rw [← cnt_or_bit (bit_lt8 ha h) (a := diff a (2 ^ e)) (by rw [less_one, decide_eq_true rfl]; simp)]
 congr 1
 apply Nat.eq_of_testBit_eq
 intro j
 rw [or_one, less_one]
 by_cases e' : e = j
 ·subst e'
  simp [h]
 ·simp [e']
theorem eq_of_cnt {a b : Nat} (hb : b < 256) (h : Sub a b) (hc : cnt b ≤ cnt a) : a = b := by
 have hs := cnt_split b a
 have hba : b &&& a = a := by
  rw [Nat.and_comm]
  exact sub_and.2 h
 rw [hba] at hs
 have hz : diff b a = 0 := cnt_zero_bit _ (diff_lt (n := 8) hb) (by omega)
 refine sub_antisymm h fun j hj => ?_
 have := diff_bit b a j
 rw [hz, Nat.zero_testBit, hj] at this
 simpa using this.symm
theorem cnt_some_bit {a : Nat} (ha : a < 256) (h : 0 < cnt a) : ∃ e, a.testBit e = true := by
 obtain ⟨e, _, he⟩ := cnt_some a ha h
 exact ⟨e, he⟩
theorem cnt_more {a b : Nat} (hb : b < 256) (h : cnt a < cnt b) : ∃ e, b.testBit e = true ∧ a.testBit e = false := by
 have h1 := cnt_split b a
 have h2 : cnt (b &&& a) ≤ cnt a := cnt_sub (sub_and_right _ _)
 obtain ⟨e, he⟩ := cnt_some_bit (a := diff b a) (diff_lt (n := 8) hb) (by omega)
 rw [diff_bit, Bool.and_eq_true] at he
 exact ⟨e, he.1, by simpa using he.2⟩
structure Ind (m : Nat) (P : Nat → Bool) : Prop where
 zero : P 0 = true
 down : ∀ a b, b < 2 ^ m → Sub a b → P b = true → P a = true
 aug : ∀ a b, a < 2 ^ m → b < 2 ^ m → P a = true → P b = true → cnt a < cnt b → ∃ e, b.testBit e = true ∧ a.testBit e = false ∧ P (a ||| 2 ^ e) = true
theorem indep_iff {l : List Nat} {s : Nat} : indep l s = true ↔ ∃ b ∈ l, Sub s b := by
 unfold indep
 rw [List.any_eq_true]
 constructor
 ·rintro ⟨b, hb, h⟩
  exact ⟨b, hb, sub_and.1 (by simpa using h)⟩
 ·rintro ⟨b, hb, h⟩
  exact ⟨b, hb, by simpa using sub_and.2 h⟩
theorem base_aug {l : List Nat} (hl : ∀ s ∈ l, s < 256) (hf : fails l = false) (K c : Nat) (hc : c ∈ l) : ∀ n b, b ∈ l → cnt (diff b c) ≤ n → cnt (b &&& K) < cnt (c &&& K) → ∃ b' ∈ l, ∃ f, c.testBit f = true ∧ K.testBit f = true ∧ b.testBit f = false ∧ Sub ((b &&& K) ||| 2 ^ f) b' := by
 intro n
 induction n with
 | zero =>
  intro b hb hn hlt
  have hz : diff b c = 0 := cnt_zero_bit _ (diff_lt (n := 8) (hl b hb)) (by omega)
  have hbc : Sub b c := fun j hj => by
   have := diff_bit b c j
   rw [hz, Nat.zero_testBit, hj] at this
   simpa using this.symm
  have := eq_of_cnt (hl c hc) hbc (Nat.le_of_eq (bases_same hl hf hc hb))
  subst this
  omega
 | succ n ih =>
  intro b hb hn hlt
  have hb256 := hl b hb
  have hc256 := hl c hc
  have h1 := cnt_split b K
  have h2 := cnt_split c K
  have h3 := bases_same hl hf hb hc
  obtain ⟨e, he1, he2⟩ := cnt_more (a := diff c K) (b := diff b K) (diff_lt (n := 8) hb256) (by omega)
  rw [diff_bit, Bool.and_eq_true] at he1
  obtain ⟨hbe, hKe⟩ := he1
  have hKe' : K.testBit e = false := by simpa using hKe
  have hce : c.testBit e = false := by
   rw [diff_bit, hKe'] at he2
   simpa using he2
  have he8 := bit_lt8 hb256 hbe
  obtain ⟨f, hf8, hcf, hbf, hmem⟩ := exch_some hf hb hc he8 hbe hce
  rw [← swap_eq b hb256 e he8 f hf8 hbe hbf] at hmem
  have hsub : Sub (b &&& K) (diff b (2 ^ e) ||| 2 ^ f) := fun j hj => by
   rw [Nat.testBit_and, Bool.and_eq_true] at hj
   rw [or_one, less_one, hj.1]
   by_cases ej : e = j
   ·subst ej
    rw [hKe'] at hj
    exact absurd hj.2 (by decide)
   ·simp [ej]
  by_cases hKf : K.testBit f = true
  ·exact ⟨_, hmem, f, hcf, hKf, hbf, sub_or hsub (sub_or_right _ _)⟩
  ·have hKf' := not_bit hKf
   have hsame : (diff b (2 ^ e) ||| 2 ^ f) &&& K = b &&& K := by
    refine sub_antisymm (fun j hj => ?_) (sub_and_of hsub (sub_and_right _ _))
    rw [Nat.testBit_and, or_one, less_one, Bool.and_eq_true] at hj
    rw [Nat.testBit_and, hj.2, Bool.and_true]
    by_cases fj : f = j
    ·subst fj
     rw [hKf'] at hj
     exact absurd hj.2 (by decide)
    ·have := hj.1
     simp [fj] at this
     exact this.1
   have hd : diff (diff b (2 ^ e) ||| 2 ^ f) c = diff (diff b c) (2 ^ e) := by
    apply Nat.eq_of_testBit_eq
    intro j
    rw [diff_bit, or_one, less_one, less_one, diff_bit]
    by_cases fj : f = j
    ·subst fj
     rw [hcf, hbf]
     simp
    ·rw [decide_eq_false fj, Bool.or_false]
     cases b.testBit j <;> cases c.testBit j <;> cases decide (e = j) <;> rfl
   have hdc := cnt_less_bit (a := diff b c) (e := e) (diff_lt (n := 8) hb256) (by rw [diff_bit, hbe, hce]; rfl)
   rw [← hd] at hdc
   obtain ⟨b', hb', f', h4, h5, h6, h7⟩ := ih _ hmem (by omega) (by rw [hsame]; exact hlt)
   rw [hsame] at h7
   refine ⟨b', hb', f', h4, h5, ?_, h7⟩
   rw [or_one, less_one] at h6
   simp only [Bool.or_eq_false_iff] at h6
   by_cases ej : e = f'
   ·subst ej
    rw [hKe'] at h5
    exact Bool.noConfusion h5
   ·have := h6.1
    simpa [ej] using this
theorem ind_of_mat {m : Nat} (hm : m ≤ 8) {l : List Nat} (hl : ∀ s ∈ l, s < 2 ^ m) (hn : 0 < l.length) (hf : fails l = false) : Ind m (indep l) := by
 have h256 := pow_le_256 hm
 have hl' : ∀ s ∈ l, s < 256 := fun s hs => Nat.lt_of_lt_of_le (hl s hs) h256
 refine ⟨indep_zero hn, fun a b _ hab hb => ?_, fun a b ha hb hia hib hlt => ?_⟩
 ·obtain ⟨c, hc, hs⟩ := indep_iff.1 hb
  exact indep_iff.2 ⟨c, hc, hab.trans hs⟩
 ·obtain ⟨x, hx, hax⟩ := indep_iff.1 hia
  obtain ⟨y, hy, hby⟩ := indep_iff.1 hib
  by_cases hmore : ∃ e, x.testBit e = true ∧ b.testBit e = true ∧ a.testBit e = false
  ·obtain ⟨e, h1, h2, h3⟩ := hmore
   exact ⟨e, h2, h3, indep_iff.2 ⟨x, hx, sub_or hax (bit_sub h1)⟩⟩
  ·have hxa : x &&& (a ||| b) = a := by
    refine sub_antisymm (fun j hj => ?_) (sub_and_of hax (sub_or_left _ _))
    rw [Nat.testBit_and, Nat.testBit_or, Bool.and_eq_true, Bool.or_eq_true] at hj
    rcases hj.2 with h | h
    ·exact h
    ·cases ha' : a.testBit j with
     | true => rfl
     | false => exact absurd ⟨j, hj.1, h, ha'⟩ hmore
   have hyb : cnt b ≤ cnt (y &&& (a ||| b)) := cnt_sub (sub_and_of hby (sub_or_right _ _))
   obtain ⟨b', hb', f, h1, h2, h3, h4⟩ := base_aug hl' hf (a ||| b) y hy _ x hx (Nat.le_refl _) (by rw [hxa]; omega)
   rw [hxa] at h4
   have haf : a.testBit f = false := by
    cases h : a.testBit f with
    | false => rfl
    | true => rw [hax f h] at h3; exact Bool.noConfusion h3
   rw [Nat.testBit_or, haf, Bool.false_or] at h2
   exact ⟨f, h2, haf, indep_iff.2 ⟨b', hb', h4⟩⟩
def maxes (m : Nat) (P : Nat → Bool) : List Nat := (List.range' 0 (2 ^ m)).filter fun s => P s && (List.range' 0 (2 ^ m)).all fun t => !(P t && !decide (t = s) && decide (s &&& t = s))
theorem mem_maxes {m : Nat} {P : Nat → Bool} {s : Nat} : s ∈ maxes m P ↔ s < 2 ^ m ∧ P s = true ∧ ∀ t, t < 2 ^ m → P t = true → Sub s t → t = s := by
 unfold maxes
 rw [List.mem_filter, Bool.and_eq_true, List.all_eq_true]
 constructor
 ·rintro ⟨h1, h2, h3⟩
  refine ⟨by have := List.mem_range'_1.1 h1; omega, h2, fun t ht hp hs => ?_⟩
  have := h3 t (List.mem_range'_1.2 (by omega))
  rw [hp, sub_and.2 hs] at this
  simpa using this
 ·rintro ⟨h1, h2, h3⟩
  refine ⟨List.mem_range'_1.2 (by omega), h2, fun t ht => ?_⟩
  cases hp : P t with
  | false => rfl
  | true =>
   by_cases hs : s &&& t = s
   ·have := h3 t (by have := List.mem_range'_1.1 ht; omega) hp (sub_and.1 hs)
    simp [this]
   ·simp [hs]
section
variable {m : Nat} {P : Nat → Bool}
theorem Ind.max_ge (h : Ind m P) (hm : m ≤ 8) {s t : Nat} (hs : s ∈ maxes m P) (ht : t < 2 ^ m) (hp : P t = true) : cnt t ≤ cnt s := by
 obtain ⟨h1, h2, h3⟩ := mem_maxes.1 hs
 refine Nat.le_of_not_lt fun hlt => ?_
 obtain ⟨e, h4, h5, h6⟩ := h.aug s t h1 ht h2 hp hlt
 have hlt' : s ||| 2 ^ e < 2 ^ m := or_lt h1 (pow_lt (bit_ltn ht h4))
 have := h3 _ hlt' h6 (sub_or_left _ _)
 have h7 := or_self_bit s e
 rw [this, h5] at h7
 exact Bool.noConfusion h7
theorem Ind.max_of (h : Ind m P) (hm : m ≤ 8) {s : Nat} (hs : s < 2 ^ m) (hp : P s = true) (hmax : ∀ t, t < 2 ^ m → P t = true → cnt t ≤ cnt s) : s ∈ maxes m P := by
 have h256 := pow_le_256 hm
 refine mem_maxes.2 ⟨hs, hp, fun t ht hpt hst => (eq_of_cnt (by omega) hst (hmax t ht hpt)).symm⟩
theorem Ind.ext (h : Ind m P) (hm : m ≤ 8) : ∀ n s, s < 2 ^ m → P s = true → 8 ≤ cnt s + n → ∃ t ∈ maxes m P, Sub s t := by
 have h256 := pow_le_256 hm
 intro n
 induction n with
 | zero =>
  intro s hs hp hn
  exact ⟨s, h.max_of hm hs hp (fun t _ _ => Nat.le_trans (cnt_le t) (by omega)), Sub.refl s⟩
 | succ n ih =>
  intro s hs hp hn
  by_cases hmx : ∃ t, t < 2 ^ m ∧ P t = true ∧ cnt s < cnt t
  ·obtain ⟨t, ht, hpt, hlt⟩ := hmx
   obtain ⟨e, h4, h5, h6⟩ := h.aug s t hs ht hp hpt hlt
   have hlt' : s ||| 2 ^ e < 2 ^ m := or_lt hs (pow_lt (bit_ltn ht h4))
   have := cnt_or_bit (bit_lt8 (by omega) h4) h5
   obtain ⟨u, hu, hsub⟩ := ih _ hlt' h6 (by omega)
   exact ⟨u, hu, (sub_or_left _ _).trans hsub⟩
  ·exact ⟨s, h.max_of hm hs hp (fun t ht hpt => Nat.le_of_not_lt fun hlt => hmx ⟨t, ht, hpt, hlt⟩), Sub.refl s⟩
theorem Ind.some (h : Ind m P) (hm : m ≤ 8) : 0 < (maxes m P).length := by
 obtain ⟨t, ht, _⟩ := h.ext hm 8 0 (Nat.pow_pos (by decide)) h.zero (by omega)
 exact List.length_pos_of_mem ht
theorem Ind.indep (h : Ind m P) (hm : m ≤ 8) {s : Nat} (hs : s < 2 ^ m) : indep (maxes m P) s = P s := by
 cases hp : P s with
 | true =>
  obtain ⟨t, ht, hst⟩ := h.ext hm 8 s hs hp (by omega)
  exact indep_iff.2 ⟨t, ht, hst⟩
 | false =>
  cases hi : Indep.indep (maxes m P) s with
  | false => rfl
  | true =>
   obtain ⟨t, ht, hst⟩ := indep_iff.1 hi
   obtain ⟨h1, h2, _⟩ := mem_maxes.1 ht
   rw [h.down s t h1 hst h2] at hp
   exact Bool.noConfusion hp
theorem Ind.exch (h : Ind m P) (hm : m ≤ 8) : fails (maxes m P) = false := by
 have h256 := pow_le_256 hm
 unfold fails
 rw [List.any_eq_false]
 intro a ha
 rw [Bool.not_eq_true, List.any_eq_false]
 intro b hb
 rw [Bool.not_eq_true, List.any_eq_false]
 intro e he
 have he8 : e < 8 := by have := List.mem_range'_1.1 he; omega
 obtain ⟨a1, a2, a3⟩ := mem_maxes.1 ha
 obtain ⟨b1, b2, b3⟩ := mem_maxes.1 hb
 cases hae : a.testBit e with
 | false => simp
 | true =>
  cases hbe : b.testBit e with
  | true => simp
  | false =>
   have hx : Sets.exch (maxes m P) a b e = true := by
    have hsame : cnt a ≤ cnt b := h.max_ge hm hb a1 a2
    have hsame' : cnt b ≤ cnt a := h.max_ge hm ha b1 b2
    have hless := cnt_less_bit (a := a) (e := e) (by omega) hae
    have hd : diff a (2 ^ e) < 2 ^ m := diff_lt a1
    obtain ⟨f, h4, h5, h6⟩ := h.aug (diff a (2 ^ e)) b hd b1 (h.down _ a a1 (sub_diff _ _) a2) b2 (by omega)
    have hef : e ≠ f := fun e' => by
     subst e'
     rw [hbe] at h4
     exact Bool.noConfusion h4
    rw [less_one] at h5
    have haf : a.testBit f = false := by simpa [hef] using h5
    have hf8 : f < 8 := bit_lt8 (by omega) h4
    have hlt' : diff a (2 ^ e) ||| 2 ^ f < 2 ^ m := or_lt hd (pow_lt (bit_ltn b1 h4))
    have hc : cnt (diff a (2 ^ e) ||| 2 ^ f) = cnt a := cnt_swap a (by omega) e he8 f hf8 hae haf
    unfold Sets.exch
    rw [List.any_eq_true]
    refine ⟨f, List.mem_range'_1.2 (by omega), ?_⟩
    rw [h4, haf, ← swap_eq a (by omega) e he8 f hf8 hae haf, List.contains_iff_mem.2 (h.max_of hm hlt' h6 (fun t ht hpt => by rw [hc]; exact h.max_ge hm ha ht hpt))]
    rfl
   rw [hx]
   simp
end
end Go.Proofs.Ytbjnkcfkhonkhaa.Aug
end
section
namespace Go.Proofs.Ytbjnkcfkhonkhaa.Sort
open Go.RowKit Go.Proofs.Ytbjnkcfkhonkhaa.Pr Go.Proofs.Ytbjnkcfkhonkhaa.Sets Go.Proofs.YtbjnkcfkhonkhaaW.PrintWords Go.Proofs.YtbjnkcfkhonkhaaW.PrintLast Go.Proofs.YtbjnkcfkhonkhaaW.PrintMore
set_option linter.unusedVariables false
def ins (x : Int) : List Int → List Int
 | [] => [x]
 | a :: l => if a < x then a :: ins x l else if a = x then a :: l else x :: a :: l
def sset (l : List Int) : List Int := l.foldl (fun out x => ins x out) []
theorem mem_ins (x y : Int) (l : List Int) : y ∈ ins x l ↔ y = x ∨ y ∈ l := by
 induction l with
 | nil => simp [ins]
 | cons a l ih =>
  unfold ins
  split
  ·simp only [List.mem_cons, ih]
   constructor
   ·rintro (h | h | h) <;> simp [h]
   ·rintro (h | h | h) <;> simp [h]
  ·split
   ·rename_i h
    subst h
    simp
   ·simp
theorem ins_sorted (x : Int) (l : List Int) (h : l.Pairwise (· < ·)) : (ins x l).Pairwise (· < ·) := by
 induction l with
 | nil => simp [ins]
 | cons a l ih =>
  obtain ⟨h1, h2⟩ := List.pairwise_cons.1 h
  unfold ins
  split
  ·rename_i hlt
   refine List.pairwise_cons.2 ⟨fun y hy => ?_, ih h2⟩
   rcases (mem_ins x y l).1 hy with rfl | hy
   ·exact hlt
   ·exact h1 y hy
  ·split
   ·exact h
   ·rename_i ha hb
    refine List.pairwise_cons.2 ⟨fun y hy => ?_, h⟩
    rcases List.mem_cons.1 hy with rfl | hy
    ·omega
    ·have := h1 y hy
     omega
theorem ins_length (x : Int) (l : List Int) : (ins x l).length ≤ l.length + 1 := by
 induction l with
 | nil => simp [ins]
 | cons a l ih =>
  unfold ins
  split
  ·simp only [List.length_cons]; omega
  ·split <;> simp
theorem foldl_ins (l out : List Int) (ho : out.Pairwise (· < ·)) : (l.foldl (fun out x => ins x out) out).Pairwise (· < ·) ∧ (∀ y, y ∈ l.foldl (fun out x => ins x out) out ↔ y ∈ out ∨ y ∈ l) ∧ (l.foldl (fun out x => ins x out) out).length ≤ out.length + l.length := by
 induction l generalizing out with
 | nil => exact ⟨ho, fun y => by simp, by simp⟩
 | cons a l ih =>
  rw [List.foldl_cons]
  obtain ⟨h1, h2, h3⟩ := ih (ins a out) (ins_sorted a out ho)
  refine ⟨h1, fun y => ?_, ?_⟩
  ·rw [h2 y, mem_ins, List.mem_cons]
   constructor
   ·rintro ((h | h) | h) <;> simp [h]
   ·rintro (h | h | h) <;> simp [h]
  ·have := ins_length a out
   simp only [List.length_cons]
   omega
theorem sset_sorted (l : List Int) : (sset l).Pairwise (· < ·) := (foldl_ins l [] List.Pairwise.nil).1
theorem mem_sset (l : List Int) (y : Int) : y ∈ sset l ↔ y ∈ l := by
 have := (foldl_ins l [] List.Pairwise.nil).2.1 y
 simpa [sset] using this
theorem sset_length (l : List Int) : (sset l).length ≤ l.length := by
 have := (foldl_ins l [] List.Pairwise.nil).2.2
 simpa [sset] using this
theorem same_of (a b : List Int) (ha : a.Pairwise (· < ·)) (hb : b.Pairwise (· < ·)) (h : ∀ x, x ∈ a ↔ x ∈ b) : a = b := by
 induction a generalizing b with
 | nil =>
  cases b with
  | nil => rfl
  | cons y b => exact absurd ((h y).2 (by simp)) (by simp)
 | cons x a ih =>
  cases b with
  | nil => exact absurd ((h x).1 (by simp)) (by simp)
  | cons y b =>
   obtain ⟨a1, a2⟩ := List.pairwise_cons.1 ha
   obtain ⟨b1, b2⟩ := List.pairwise_cons.1 hb
   have hxy : x = y := by
    rcases List.mem_cons.1 ((h x).1 (by simp)) with e | e
    ·exact e
    ·rcases List.mem_cons.1 ((h y).2 (by simp)) with e' | e'
     ·exact e'.symm
     ·have := b1 x e
      have := a1 y e'
      omega
   subst hxy
   congr 1
   refine ih b a2 b2 fun z => ⟨fun hz => ?_, fun hz => ?_⟩
   ·rcases List.mem_cons.1 ((h z).1 (by simp [hz])) with rfl | e
    ·exact absurd (a1 z hz) (by omega)
    ·exact e
   ·rcases List.mem_cons.1 ((h z).2 (by simp [hz])) with rfl | e
    ·exact absurd (b1 z hz) (by omega)
    ·exact e
theorem compact_upto (d : Array Int) (hd : ∀ i j, i ≤ j → j < d.size → d[i]! ≤ d[j]!) : ∀ m, m ≤ d.size → (Lib.compactUpTo d m).Pairwise (· < ·) ∧ (∀ y, y ∈ Lib.compactUpTo d m ↔ ∃ j, j < m ∧ d[j]! = y) := by
 intro m
 induction m with
 | zero => exact fun _ => ⟨by simp [Lib.compactUpTo], fun y => by simp [Lib.compactUpTo]⟩
 | succ m ih =>
  intro hm
  obtain ⟨h1, h2⟩ := ih (by omega)
  rw [Lib.compactUpTo_succ]
  by_cases hk : Lib.keeps d m = true
  ·rw [if_pos hk]
   refine ⟨?_, fun y => ?_⟩
   ·rw [List.pairwise_append]
    refine ⟨h1, by simp, fun x hx y hy => ?_⟩
    obtain rfl : y = d[m]! := by simpa using hy
    obtain ⟨j, hj, rfl⟩ := (h2 x).1 hx
    have hne : d[m]! ≠ d[m - 1]! := by
     unfold Lib.keeps at hk
     rw [decide_eq_true_eq] at hk
     rcases hk with rfl | hk
     ·omega
     ·exact hk
    have e1 := hd j (m - 1) (by omega) (by omega)
    have e2 := hd (m - 1) m (by omega) (by omega)
    omega
   ·rw [List.mem_append, h2 y]
    constructor
    ·rintro (⟨j, hj, rfl⟩ | h)
     ·exact ⟨j, by omega, rfl⟩
     ·have e : y = d[m]! := by simpa using h
      exact ⟨m, by omega, e.symm⟩
    ·rintro ⟨j, hj, rfl⟩
     by_cases e : j = m
     ·subst e
      exact .inr (by simp)
     ·exact .inl ⟨j, by omega, rfl⟩
  ·rw [if_neg hk, List.append_nil]
   refine ⟨h1, fun y => ?_⟩
   rw [h2 y]
   constructor
   ·rintro ⟨j, hj, rfl⟩
    exact ⟨j, by omega, rfl⟩
   ·rintro ⟨j, hj, rfl⟩
    by_cases e : j = m
    ·subst e
     have hk' : ¬ (j = 0 ∨ d[j]! ≠ d[j - 1]!) := by
      unfold Lib.keeps at hk
      rw [decide_eq_true_eq] at hk
      exact hk
     have hj0 : j ≠ 0 := fun h => hk' (.inl h)
     have he : d[j]! = d[j - 1]! := Decidable.byContradiction fun h => hk' (.inr h)
     exact ⟨j - 1, by omega, he.symm⟩
    ·exact ⟨j, by omega, rfl⟩
theorem compact_sset (l : List Int) : Lib.compact (SortR.sorted l) = sset l := by
 have hs : (SortR.sorted l).Pairwise (fun x y => decide (x ≤ y) = true) := List.pairwise_mergeSort (le := fun x y => decide (x ≤ y)) (fun a b c h1 h2 => by simp only [decide_eq_true_eq] at *; omega) (fun a b => by simp only [Bool.or_eq_true, decide_eq_true_eq]; omega) l
 have hmem : ∀ y, y ∈ SortR.sorted l ↔ y ∈ l := fun y => (List.mergeSort_perm l _).mem_iff
 generalize SortR.sorted l = q at *
 have hd : ∀ i j, i ≤ j → j < q.toArray.size → q.toArray[i]! ≤ q.toArray[j]! := fun i j hij hj => by
  have hj' : j < q.length := by simpa using hj
  rcases Nat.lt_or_eq_of_le hij with h | rfl
  ·have := (List.pairwise_iff_getElem.1 hs) i j (by omega) hj' h
   simp only [decide_eq_true_eq] at this
   simpa [getElem!_pos, show i < q.length by omega, hj'] using this
  ·exact Int.le_refl _
 obtain ⟨h1, h2⟩ := compact_upto q.toArray hd q.length (by simp)
 refine same_of _ _ h1 (sset_sorted l) fun x => ?_
 rw [mem_sset, ← hmem]
 refine (h2 x).trans ⟨?_, fun h => ?_⟩
 ·rintro ⟨j, hj, rfl⟩
  have : q.toArray[j]! = q[j] := by simp [getElem!_pos, hj]
  rw [this]
  exact List.getElem_mem hj
 ·obtain ⟨j, hj, rfl⟩ := List.getElem_of_mem h
  exact ⟨j, hj, by simp [getElem!_pos, hj]⟩
theorem implSort (l : List Int) (hn : l.length ≤ 1048576) : impl_SortSets.f l = some (sset l) := by
 unfold impl_SortSets.f
 rw [if_pos (by omega), compact_sset]
theorem drop_cons (l : List Int) (i : Nat) (h : i < l.length) : l.drop i = l.getD i 0 :: l.drop (i + 1) := by
 rw [List.drop_eq_getElem_cons h]
 simp [List.getD, h]
theorem ins_at (x : Int) (out : List Int) : ∀ i, i ≤ out.length → (∀ j, j < i → out.getD j 0 < x) → ins x out = out.take i ++ ins x (out.drop i) := by
 intro i
 induction i with
 | zero => intro _ _; simp
 | succ i ih =>
  intro hi h
  rw [ih (by omega) fun j hj => h j (by omega), drop_cons out i (by omega)]
  have := h i (by omega)
  rw [ins, if_pos this, List.take_succ_eq_append_getElem (by omega), List.append_assoc]
  simp [List.getD, show i < out.length by omega]
theorem specSort (l : List Int) (hn : l.length ≤ 1048576) : Ev (fun k => spec_SortSets.f k l) (sset l) := by
 unfold spec_SortSets.f sset
 have e : l.foldl (fun out x => ins x out) [] = (List.range' 0 l.length).foldl (fun out i => ins (l.getD i 0) out) [] := by
  have e2 : l = (List.range' 0 l.length).map fun i => l.getD i 0 := by rw [← List.range_eq_range', Gen.map_getD']
  conv => lhs; rw [e2]
  rw [List.foldl_map]
 rw [e]
 refine Gen.ev_loop (fun k (out : List Int) i => spec_SortSets.l0 k l out i) l.length (fun i out => ins (l.getD i 0) out) (fun i out => out.length ≤ i) _ (fun i out hi hP => ⟨?_, fun h => ?_⟩) l.length 0 [] (by omega) (by simp) (fun _ => Gen.ev_at 1 (fun k hk => ?_))
 ·have := ins_length (l.getD i 0) out
  show (ins _ _).length ≤ _
  omega
 ·refine Ev.step (f := fun k => spec_SortSets.l1 k l out (i : Int) 0) (fun k => ?_) ?_
  ·simp only [spec_SortSets.l0]
   rw [if_pos (by omega)]
  ·have key : ∀ d a : Nat, a + d = out.length → (∀ j, j < a → out.getD j 0 < l.getD i 0) → Ev (fun k => spec_SortSets.l1 k l out (i : Int) (a : Int)) ((List.range' 0 l.length).foldl (fun out i => ins (l.getD i 0) out) []) := by
    intro d
    induction d with
    | zero =>
     intro a ha hlt
     obtain rfl : a = out.length := by omega
     have hins : ins (l.getD i 0) out = out.take out.length ++ [l.getD i 0] ++ out.drop out.length := by
      rw [ins_at _ _ out.length (Nat.le_refl _) hlt, List.drop_length, ins]
      simp
     rw [hins] at h
     refine Ev.step (fun k => ?_) h
     simp only [spec_SortSets.l1]
     rw [if_neg (by omega)]
     simp only [Option.bind_some, Int.toNat_natCast, Gen.rd_nat, List.nil_append, List.length_nil, Nat.zero_add]
     rw [if_pos (by omega), if_pos (by omega), if_pos (by simp), if_pos (by omega), if_pos (by omega), if_pos (by rw [List.length_take]; omega), if_pos (by simp; omega), Gen.w64s i (by omega)]
    | succ d ih =>
     intro a ha hlt
     have hlen : a < out.length := by omega
     by_cases h1 : out.getD a 0 < l.getD i 0
     ·refine Ev.step (fun k => ?_) (ih (a + 1) (by omega) fun j hj => ?_)
      ·simp only [spec_SortSets.l1]
       rw [if_pos (by omega), if_pos (by omega), if_pos (by omega), if_pos (by omega), Gen.rd_nat, Gen.rd_nat, if_pos h1, Gen.w64s a (by omega)]
      ·by_cases e : j = a
       ·subst e; exact h1
       ·exact hlt j (by omega)
     ·have hat := ins_at (l.getD i 0) out a (by omega) hlt
      rw [drop_cons out a hlen, ins, if_neg h1] at hat
      by_cases h2 : out.getD a 0 = l.getD i 0
      ·have hins : ins (l.getD i 0) out = out := by
        rw [hat, if_pos h2, ← drop_cons out a hlen, List.take_append_drop]
       rw [hins] at h
       refine Ev.step (fun k => ?_) h
       simp only [spec_SortSets.l1]
       rw [if_pos (by omega), if_pos (by omega), if_pos (by omega), if_pos (by omega), Gen.rd_nat, Gen.rd_nat, if_neg h1, if_pos h2, Gen.w64s i (by omega)]
      ·have hins : ins (l.getD i 0) out = out.take a ++ [l.getD i 0] ++ out.drop a := by
        rw [hat, if_neg h2, ← drop_cons out a hlen, List.append_assoc]
        rfl
       rw [hins] at h
       refine Ev.step (fun k => ?_) h
       simp only [spec_SortSets.l1]
       rw [if_pos (by omega), if_pos (by omega), if_pos (by omega), if_pos (by omega), Gen.rd_nat, Gen.rd_nat, if_neg h1, if_neg h2]
       simp only [Option.bind_some, Int.toNat_natCast, List.nil_append, List.length_nil, Nat.zero_add]
       rw [if_pos (by omega), if_pos (by simp; omega), if_pos (by rw [List.length_take]; omega), if_pos (by simp; omega), Gen.w64s i (by omega)]
   exact key out.length 0 (by omega) (fun j hj => by omega)
 ·obtain ⟨q, rfl⟩ : ∃ q, k = q + 1 := ⟨k - 1, by omega⟩
  simp only [spec_SortSets.l0]
  rw [if_neg (by omega)]
end Go.Proofs.Ytbjnkcfkhonkhaa.Sort
end
section
namespace Go.Proofs.Ytbjnkcfkhonkhaa.Flat
open Go.RowKit Go.Proofs.Ytbjnkcfkhonkhaa.Pr Go.Proofs.Ytbjnkcfkhonkhaa.Sets Go.Proofs.Ytbjnkcfkhonkhaa.Mat Go.Proofs.Ytbjnkcfkhonkhaa.Rank Go.Proofs.YtbjnkcfkhonkhaaW.PrintWords Go.Proofs.YtbjnkcfkhonkhaaW.PrintLast Go.Proofs.YtbjnkcfkhonkhaaW.PrintMore
set_option linter.unusedVariables false
theorem mat_nat {n : Int} {l : List Int} (h : isMat n l = true) : ∃ (m : Nat) (lN : List Nat), n = m ∧ m ≤ 8 ∧ l = ints lN ∧ (∀ s ∈ lN, s < 2 ^ m) ∧ 0 < lN.length ∧ fails lN = false := by
 unfold isMat at h
 rw [Bool.and_eq_true, Bool.and_eq_true, decide_eq_true_eq] at h
 obtain ⟨⟨h1, h2⟩, h3⟩ := h
 obtain ⟨m, lN, rfl, hm, rfl, hl⟩ := fam_nat h1
 rw [toNat_ints] at h3
 rw [ints_length] at h2
 exact ⟨m, lN, rfl, hm, rfl, hl, h2, by simpa using h3⟩
theorem isSet_of {m : Nat} {x : Nat} (hm : m ≤ 8) (h : x < 2 ^ m) : isSet (m : Int) (x : Int) = true := by
 unfold isSet
 rw [decide_eq_true_eq, Int.toNat_natCast]
 refine ⟨by omega, by omega, by omega, ?_⟩
 exact_mod_cast h
theorem full_impl (m : Nat) (hm : m ≤ 8) : impl_FullSet.f (m : Int) = some ((2 ^ m - 1 : Nat) : Int) := by
 have : ∀ m : Nat, m < 9 → impl_FullSet.f (m : Int) = some ((2 ^ m - 1 : Nat) : Int) := by decide +kernel
 exact this m (by omega)
theorem foldl_filter (p : Nat → Bool) (q : List Nat) : (q.foldl (fun (s : List Int) j => if p j = true then s ++ [(j : Int)] else s) []) = ints (q.filter p) := by
 rw [Gen.foldl_append, List.nil_append]
 rfl
theorem keep_loop (L : Nat → List Int → Int → Option (List Int)) (n : Nat) (p : Nat → Bool)
  (hround : ∀ i s, i < n → s.length ≤ i → ∀ r, Ev (fun k => L k (if p i = true then s ++ [(i : Int)] else s) ((i + 1 : Nat) : Int)) r → Ev (fun k => L k s (i : Int)) r)
  (hend : ∀ k s, L (k + 1) s (n : Int) = some s) : Ev (fun k => L k [] 0) (ints ((List.range' 0 n).filter p)) := by
 rw [← foldl_filter]
 refine Gen.ev_loop L n (fun i s => if p i = true then s ++ [(i : Int)] else s) (fun i s => s.length ≤ i) _ (fun i s hi hP => ⟨?_, hround i s hi hP _⟩) n 0 [] (by omega) (by simp) (fun _ => Gen.ev_at 1 (fun k hk => ?_))
 ·show (if _ then _ else _ : List Int).length ≤ _
  split
  ·simp; omega
  ·omega
 ·obtain ⟨q, rfl⟩ : ∃ q, k = q + 1 := ⟨k - 1, by omega⟩
  exact hend _ _
theorem implSetsOf (m : Nat) (hm : m ≤ 8) (g : Nat → Int → Option Bool) (p : Nat → Bool) (hg : ∀ s : Nat, s < 2 ^ m → Ev (fun k => g k (s : Int)) (p s)) (hmono : ∀ k s, LeO (g k s) (g (k + 1) s)) : Ev (fun k => impl_setsOf.f k (m : Int) (g k)) (ints ((List.range' 0 (2 ^ m)).filter p)) := by
 have h256 := pow_le_256 hm
 have hpos : 0 < 2 ^ m := Nat.pow_pos (by decide)
 have hup : ∀ s : Int, ∀ a d r, g a s = some r → g (a + d) s = some r := by
  intro s a d r h
  induction d with
  | zero => exact h
  | succ d ih => exact hmono _ _ _ ih
 have all : ∀ n : Nat, n ≤ 2 ^ m → ∃ K, ∀ k, K ≤ k → ∀ s : Nat, s < n → g k (s : Int) = some (p s) := by
  intro n
  induction n with
  | zero => exact fun _ => ⟨0, fun k _ s hs => by omega⟩
  | succ n ih =>
   intro hn
   obtain ⟨K, hK⟩ := ih (by omega)
   obtain ⟨K', hK'⟩ := hg n (by omega)
   refine ⟨max K K', fun k hk s hs => ?_⟩
   by_cases e : s = n
   ·subst e
    exact hK' k (by omega)
   ·exact hK k (by omega) s (by omega)
 obtain ⟨K, hK⟩ := all (2 ^ m) (Nat.le_refl _)
 have fixed : ∀ k0, K ≤ k0 → Ev (fun k => impl_setsOf.l0 (g k0) k (m : Int) [] 0) (ints ((List.range' 0 (2 ^ m)).filter p)) := fun k0 hk0 => by
  refine keep_loop (fun k s i => impl_setsOf.l0 (g k0) k (m : Int) s i) (2 ^ m) p (fun i s hi hs r h => Ev.step (fun k => ?_) h) (fun k s => ?_)
  ·simp only [impl_setsOf.l0]
   rw [full_impl m hm]
   simp only [Option.bind_some]
   rw [if_pos (by omega), hK k0 hk0 i hi]
   simp only [Option.bind_some]
   rw [Gen.w64s i (by omega)]
   cases p i with
   | false => rfl
   | true => rw [if_pos rfl, if_pos (by omega), if_pos rfl]
  ·simp only [impl_setsOf.l0]
   rw [full_impl m hm]
   simp only [Option.bind_some]
   rw [if_neg (by omega)]
 have count : ∀ k0, K ≤ k0 → ∀ (d i : Nat) (s : List Int) (k : Nat), i + d = 2 ^ m → d < k → s.length ≤ i → impl_setsOf.l0 (g k0) k (m : Int) s (i : Int) = impl_setsOf.l0 (g K) k (m : Int) s (i : Int) ∧ ∀ e, impl_setsOf.l0 (g k0) (k + e) (m : Int) s (i : Int) = impl_setsOf.l0 (g k0) k (m : Int) s (i : Int) := by
  intro k0 hk0 d
  induction d with
  | zero =>
   intro i s k hi hk hs
   obtain rfl : i = 2 ^ m := by omega
   obtain ⟨k, rfl⟩ : ∃ q, k = q + 1 := ⟨k - 1, by omega⟩
   refine ⟨?_, fun e => ?_⟩
   ·simp only [impl_setsOf.l0]
    rw [full_impl m hm]
    simp only [Option.bind_some]
    rw [if_neg (by omega), if_neg (by omega)]
   ·rw [show k + 1 + e = (k + e) + 1 by omega]
    simp only [impl_setsOf.l0]
    rw [full_impl m hm]
    simp only [Option.bind_some]
    rw [if_neg (by omega), if_neg (by omega)]
  | succ d ih =>
   intro i s k hi hk hs
   obtain ⟨k, rfl⟩ : ∃ q, k = q + 1 := ⟨k - 1, by omega⟩
   obtain ⟨a1, a2⟩ := ih (i + 1) (s ++ [(i : Int)]) k (by omega) (by omega) (by simp; omega)
   obtain ⟨b1, b2⟩ := ih (i + 1) s k (by omega) (by omega) (by omega)
   refine ⟨?_, fun e => ?_⟩
   ·simp only [impl_setsOf.l0]
    rw [full_impl m hm]
    simp only [Option.bind_some]
    simp only [if_pos (show (i : Int) ≤ ((2 ^ m - 1 : Nat) : Int) by omega), if_pos (show s.length < 17592186044416 by omega), hK k0 hk0 i (by omega), hK K (Nat.le_refl _) i (by omega), Gen.w64s i (by omega), Option.bind_some, a1, b1]
   ·rw [show k + 1 + e = (k + e) + 1 by omega]
    simp only [impl_setsOf.l0]
    rw [full_impl m hm]
    simp only [Option.bind_some]
    simp only [if_pos (show (i : Int) ≤ ((2 ^ m - 1 : Nat) : Int) by omega), if_pos (show s.length < 17592186044416 by omega), hK k0 hk0 i (by omega), Gen.w64s i (by omega), Option.bind_some, a2, b2]
 obtain ⟨K2, hK2⟩ := fixed K (Nat.le_refl _)
 refine ⟨max (max K K2) (2 ^ m + 1), fun k hk => ?_⟩
 show impl_setsOf.l0 (g k) k (m : Int) [] ((0 : Nat) : Int) = _
 rw [(count k (by omega) (2 ^ m) 0 [] k (by omega) (by omega) (by simp)).1]
 exact hK2 k (by omega)
end Go.Proofs.Ytbjnkcfkhonkhaa.Flat
end
section
namespace Go.Proofs.Ytbjnkcfkhonkhaa.Moeb
open Go.RowKit Go.Proofs.Ytbjnkcfkhonkhaa.Pr Go.Proofs.Ytbjnkcfkhonkhaa.Sets Go.Proofs.Ytbjnkcfkhonkhaa.Mat Go.Proofs.Ytbjnkcfkhonkhaa.Rank Go.Proofs.Ytbjnkcfkhonkhaa.Flat Go.Proofs.YtbjnkcfkhonkhaaW.PrintWords Go.Proofs.YtbjnkcfkhonkhaaW.PrintLast Go.Proofs.YtbjnkcfkhonkhaaW.PrintMore
set_option linter.unusedVariables false
def subs (t s : Nat) : Bool := decide (t &&& s = t)
theorem diff_zero (t s : Nat) : diff t s = 0 ↔ t &&& s = t := by
 constructor
 ·intro h
  apply Nat.eq_of_testBit_eq
  intro i
  have := diff_bit t s i
  rw [h, Nat.zero_testBit] at this
  rw [Nat.testBit_and]
  cases h1 : t.testBit i <;> cases h2 : s.testBit i <;> simp_all
 ·intro h
  apply Nat.eq_of_testBit_eq
  intro i
  rw [diff_bit, Nat.zero_testBit]
  have := congrArg (fun x => x.testBit i) h
  simp only [Nat.testBit_and] at this
  cases h1 : t.testBit i <;> cases h2 : s.testBit i <;> simp_all
theorem implSub (t s : Nat) (ht : t < 256) (hs : s < 256) : impl_IsSubset.f (t : Int) (s : Int) = some (subs t s) := by
 have ha : ∀ x : Nat, x < 256 → impl_isAny.f (x : Int) = some true := fun x hx => by
  unfold impl_isAny.f
  rw [if_pos (by omega), decide_eq_true (by omega)]
 unfold impl_IsSubset.f subs
 rw [ha t ht, ha s hs]
 simp only [Option.bind_some, if_true]
 rw [andNot_nat t s (by omega)]
 congr 1
 rw [Bool.eq_iff_iff, beq_iff_eq, decide_eq_true_eq, ← diff_zero]
 omega
end Go.Proofs.Ytbjnkcfkhonkhaa.Moeb
end
section
namespace Go.Proofs.Ytbjnkcfkhonkhaa.Mini
open Go.RowKit Go.Proofs.Ytbjnkcfkhonkhaa.Pr Go.Proofs.Ytbjnkcfkhonkhaa.Sets Go.Proofs.Ytbjnkcfkhonkhaa.Mat Go.Proofs.Ytbjnkcfkhonkhaa.Rank Go.Proofs.Ytbjnkcfkhonkhaa.Flat Go.Proofs.Ytbjnkcfkhonkhaa.Sort Go.Proofs.Ytbjnkcfkhonkhaa.Moeb Go.Proofs.Ytbjnkcfkhonkhaa.Indep Go.Proofs.YtbjnkcfkhonkhaaW.PrintWords Go.Proofs.YtbjnkcfkhonkhaaW.PrintLast Go.Proofs.YtbjnkcfkhonkhaaW.PrintMore
set_option linter.unusedVariables false
theorem implAny (l : List Nat) (hl : ∀ s ∈ l, s < 256) (hn : l.length ≤ 1048576) : Ev (fun k => impl_areSets.f k (ints l)) true := by
 refine Gen.ev_at (l.length + 1) (fun k hk => ?_)
 unfold impl_areSets.f
 have := Gen.all_loop (fun k i => impl_areSets.l0 k (ints l) ((ints l).length : Int) i) l.length (fun _ => true) 0 true (fun k i _ hi => by
  simp only [impl_areSets.l0]
  have hb := hl _ (getD_mem l 0 i hi)
  unfold impl_isAny.f
  rw [if_pos (by rw [ints_length]; omega), if_pos (by omega), if_pos (by rw [ints_length]; omega), ints_rd, if_pos (by omega), decide_eq_true (by omega), Gen.w64s i (by omega)]
  rfl) (fun k _ => by
  simp only [impl_areSets.l0]
  rw [if_neg (by rw [ints_length]; omega)]) l.length 0 k (by omega) (by omega)
 simpa [Gen.all_yes] using this
def kept (p : Nat → Nat → Bool) (l : List Nat) : List Int := sset (ints (l.filter fun s => !l.any fun t => !decide (t = s) && p t s))
theorem mem_ints {l : List Nat} {x : Int} : x ∈ ints l ↔ ∃ y ∈ l, x = (y : Int) := by
 unfold ints
 rw [List.mem_map]
 constructor
 ·rintro ⟨y, h, rfl⟩; exact ⟨y, h, rfl⟩
 ·rintro ⟨y, h, rfl⟩; exact ⟨y, h, rfl⟩
theorem sset_filter (l : List Nat) (p : Nat → Bool) : (sset (ints l)).filter (fun x => p x.toNat) = sset (ints (l.filter p)) := by
 refine same_of _ _ ((sset_sorted _).filter _) (sset_sorted _) fun x => ?_
 rw [List.mem_filter, mem_sset, mem_sset, mem_ints, mem_ints]
 constructor
 ·rintro ⟨⟨y, h1, rfl⟩, h2⟩
  exact ⟨y, List.mem_filter.2 ⟨h1, by simpa using h2⟩, rfl⟩
 ·rintro ⟨y, h1, rfl⟩
  obtain ⟨h2, h3⟩ := List.mem_filter.1 h1
  exact ⟨⟨y, h2, rfl⟩, by simpa using h3⟩
theorem sset_nat (l : List Nat) : ∃ q : List Nat, sset (ints l) = ints q ∧ (∀ s, s ∈ q ↔ s ∈ l) ∧ q.length ≤ l.length := by
 have h : ∀ x ∈ sset (ints l), ∃ y ∈ l, x = (y : Int) := fun x hx => mem_ints.1 ((mem_sset _ _).1 hx)
 refine ⟨(sset (ints l)).map Int.toNat, ?_, fun s => ?_, ?_⟩
 ·unfold ints
  rw [List.map_map]
  conv => lhs; rw [← List.map_id (sset _)]
  refine List.map_congr_left fun x hx => ?_
  obtain ⟨y, _, rfl⟩ := h x hx
  rfl
 ·rw [List.mem_map]
  constructor
  ·rintro ⟨x, hx, rfl⟩
   obtain ⟨y, hy, rfl⟩ := h x hx
   simpa using hy
  ·intro hs
   exact ⟨(s : Int), (mem_sset _ _).2 (mem_ints.2 ⟨s, hs, rfl⟩), by simp⟩
 ·rw [List.length_map]
  have := sset_length (ints l)
  rw [ints_length] at this
  exact this
theorem any_not {α : Type} (l : List α) (p : α → Bool) : (l.all fun x => !p x) = !l.any p := by
 induction l with
 | nil => rfl
 | cons a l ih => rw [List.all_cons, List.any_cons, ih]; cases p a <;> cases l.any p <;> rfl
theorem implKept (l : List Nat) (hn : l.length ≤ 1048576) (p : Nat → Nat → Bool) (C : Int → Int → Option Bool) (L : Nat → List Int → List Int → List Int → Int → Option (List Int))
  (hC : ∀ s ∈ l, ∀ t ∈ l, C (s : Int) (t : Int) = some (!decide (t = s) && p t s))
  (hL : ∀ k q x3 x13, L (k + 1) (ints l) q x3 x13 = if x13 < (q.length : Int) then (if 0 ≤ x13 then ((slices_ContainsFunc_int_int.f k (ints l) (fun t => C (rd q x13) t)).bind fun b => (if b = true then (L k (ints l) q x3 (wrap64 (x13 + 1))) else (if x3.length < 17592186044416 then (L k (ints l) q (x3 ++ [rd q x13]) (wrap64 (x13 + 1))) else (none)))) else (none)) else (some x3)) :
  Ev (fun k => L k (ints l) (sset (ints l)) [] 0) (kept p l) := by
 obtain ⟨q, hq, hmem, hlen⟩ := sset_nat l
 unfold kept
 rw [← sset_filter, hq]
 have key := Gen.ev_loop (fun k (s : List Int) i => L k (ints l) (ints q) s i) q.length (fun i s => if (!l.any fun t => !decide (t = q.getD i 0) && p t (q.getD i 0)) = true then s ++ [((q.getD i 0 : Nat) : Int)] else s) (fun i s => s.length ≤ i) ((ints q).filter fun x => !l.any fun t => !decide (t = x.toNat) && p t x.toNat) (fun i s hi hP => ⟨?_, fun h => ?_⟩) q.length 0 [] (by omega) (by simp) (fun _ => ?_)
 ·exact key
 ·show (if _ then _ else _ : List Int).length ≤ _
  split
  ·simp; omega
  ·omega
 ·have hqi : q.getD i 0 ∈ l := (hmem _).1 (getD_mem q 0 i hi)
  refine Ev.step (f := fun k => (slices_ContainsFunc_int_int.f k (ints l) (fun t => C ((q.getD i 0 : Nat) : Int) t)).bind fun b => (if b = true then (L k (ints l) (ints q) s ((i + 1 : Nat) : Int)) else (L k (ints l) (ints q) (s ++ [((q.getD i 0 : Nat) : Int)]) ((i + 1 : Nat) : Int)))) (fun k => ?_) ?_
  ·show L (k + 1) (ints l) (ints q) s (i : Int) = _
   rw [hL, if_pos (by rw [ints_length]; omega), if_pos (by omega), ints_rd, Gen.w64s i (by omega), if_pos (by omega)]
  ·refine Ev.bind (Gen.ev_at (l.length + 1) (fun k hk => Mat.containsFunc _ l (fun t => !decide (t = q.getD i 0) && p t (q.getD i 0)) hn (fun t ht => hC _ hqi t ht) k (by omega))) ?_
   cases hb : l.any fun t => !decide (t = q.getD i 0) && p t (q.getD i 0) with
   | true =>
    rw [hb] at h
    simpa using h
   | false =>
    rw [hb] at h
    simpa using h
 ·refine Ev.step (f := fun _ => some ((ints q).filter fun x => !l.any fun t => !decide (t = x.toNat) && p t x.toNat)) (fun k => ?_) (Ev.now _)
  show L (k + 1) (ints l) (ints q) _ _ = _
  rw [hL, if_neg (by rw [ints_length]; omega)]
  congr 1
  have e : ∀ (r : List Nat) (s : List Int), r.foldl (fun s i => if (!l.any fun t => !decide (t = i) && p t i) = true then s ++ [((i : Nat) : Int)] else s) s = s ++ (ints r).filter fun x => !l.any fun t => !decide (t = x.toNat) && p t x.toNat := by
   intro r
   induction r with
   | nil => intro s; simp [ints]
   | cons a r ih =>
    intro s
    rw [List.foldl_cons, ih]
    show _ = s ++ ((a : Int) :: ints r).filter _
    rw [List.filter_cons]
    simp only [Int.toNat_natCast]
    split
    ·simp
    ·rfl
  rw [foldl_index q (fun s i => if (!l.any fun t => !decide (t = i) && p t i) = true then s ++ [((i : Nat) : Int)] else s) [], e]
  simp
theorem implIndep (n : Int) (l : List Nat) (s : Nat) (hs : s < 256) (hl : ∀ b ∈ l, b < 256) (hn : l.length ≤ 1048576) : Ev (fun k => impl_independent.f k n (ints l) (s : Int)) (indep l s) := by
 refine Gen.ev_at (l.length + 1) (fun k hk => ?_)
 unfold impl_independent.f
 have := Gen.all_loop (fun k i => (impl_independent.l0 k (s : Int) (ints l) ((ints l).length : Int) i).map fun b => !b) l.length (fun i => !subs s (l.getD i 0)) 0 true (fun k i _ hi => by
  have hb := hl _ (getD_mem l 0 i hi)
  simp only [impl_independent.l0]
  rw [if_pos (by rw [ints_length]; omega), if_pos (by omega), if_pos (by rw [ints_length]; omega), ints_rd, implSub s _ hs hb, Gen.w64s i (by omega)]
  simp only [Option.bind_some]
  cases subs s (l.getD i 0) <;> rfl) (fun k _ => by
  simp only [impl_independent.l0]
  rw [if_neg (by rw [ints_length]; omega)]
  rfl) l.length 0 k (by omega) (by omega)
 rw [Bool.and_true, any_not, any_index l 0 (fun b => subs s b)] at this
 obtain ⟨b, hb1, hb2⟩ := Option.map_eq_some_iff.1 this
 have : b = l.any fun b => subs s b := by
  cases b <;> cases h : l.any fun b => subs s b <;> simp_all
 rw [show ((0 : Int)) = ((0 : Nat) : Int) from rfl, hb1, this]
 rfl
end Go.Proofs.Ytbjnkcfkhonkhaa.Mini
end
section
namespace Go.Proofs.Ytbjnkcfkhonkhaa.MinorP
open Go.RowKit Go.Proofs.Ytbjnkcfkhonkhaa.Pr Go.Proofs.Ytbjnkcfkhonkhaa.Sets Go.Proofs.Ytbjnkcfkhonkhaa.Mat Go.Proofs.Ytbjnkcfkhonkhaa.Rank Go.Proofs.Ytbjnkcfkhonkhaa.Flat Go.Proofs.Ytbjnkcfkhonkhaa.Size Go.Proofs.Ytbjnkcfkhonkhaa.Indep Go.Proofs.Ytbjnkcfkhonkhaa.Sort Go.Proofs.Ytbjnkcfkhonkhaa.Aug Go.Proofs.Ytbjnkcfkhonkhaa.Mini Go.Proofs.YtbjnkcfkhonkhaaW.PrintWords Go.Proofs.YtbjnkcfkhonkhaaW.PrintLast Go.Proofs.YtbjnkcfkhonkhaaW.PrintMore
set_option linter.unusedVariables false
theorem sset_ints {l q : List Nat} (hq : q.Pairwise (· < ·)) (h : ∀ s, s ∈ l ↔ s ∈ q) : sset (ints l) = ints q := by
 refine same_of _ _ (sset_sorted _) ?_ fun x => ?_
 ·unfold ints
  rw [List.pairwise_map]
  exact hq.imp fun h => by omega
 ·rw [mem_sset, mem_ints, mem_ints]
  constructor
  ·rintro ⟨y, hy, rfl⟩; exact ⟨y, (h y).1 hy, rfl⟩
  ·rintro ⟨y, hy, rfl⟩; exact ⟨y, (h y).2 hy, rfl⟩
theorem range_asc (n m : Nat) : (List.range' n m).Pairwise (· < ·) := List.pairwise_lt_range'
theorem isMat_of {m : Nat} (hm : m ≤ 8) {l : List Nat} (hl : ∀ s ∈ l, s < 2 ^ m) (hs : l.Pairwise (· < ·)) (hn : 0 < l.length) (hf : fails l = false) : isMat (m : Int) (ints l) = true := by
 unfold isMat
 rw [toNat_ints, hf, ints_length, decide_eq_true hn, Bool.and_true, Bool.not_false, Bool.and_true]
 unfold fam
 rw [decide_eq_true (show (0 : Int) ≤ (m : Int) ∧ (m : Int) ≤ 8 by omega), Bool.and_true, List.all_eq_true]
 intro i hi
 have hi' := List.mem_range'_1.1 hi
 rw [ints_length] at hi'
 rw [ints_getD, ints_getD, isSet_of hm (hl _ (getD_mem l 0 i (by omega))), Bool.true_and]
 by_cases h0 : i = 0
 ·rw [decide_eq_true h0]; rfl
 ·have := List.pairwise_iff_getElem.1 hs (i - 1) i (by omega) (by omega) (by omega)
  have e1 : l.getD (i - 1) 0 = l[i - 1] := by simp [List.getD, show i - 1 < l.length by omega]
  have e2 : l.getD i 0 = l[i] := by simp [List.getD, show i < l.length by omega]
  have h3 : decide (((l[i - 1] : Nat) : Int) < ((l[i] : Nat) : Int)) = true := decide_eq_true (by omega)
  rw [e1, e2, h3, Bool.or_true]
theorem maxes_asc (m : Nat) (P : Nat → Bool) : (maxes m P).Pairwise (· < ·) := (range_asc _ _).filter _
theorem maxes_length (m : Nat) (hm : m ≤ 8) (P : Nat → Bool) : (maxes m P).length ≤ 256 := by
 unfold maxes
 refine Nat.le_trans (List.length_filter_le _ _) ?_
 rw [List.length_range']
 exact pow_le_256 hm
theorem maxes_isMat {m : Nat} (hm : m ≤ 8) {P : Nat → Bool} (h : Ind m P) : isMat (m : Int) (ints (maxes m P)) = true :=
 isMat_of hm (fun s hs => (mem_maxes.1 hs).1) (maxes_asc m P) (h.some hm) (h.exch hm)
end Go.Proofs.Ytbjnkcfkhonkhaa.MinorP
end
section
namespace Go.Proofs.Ytbjnkcfkhonkhaa.FromInd
open Go.RowKit Go.Proofs.Ytbjnkcfkhonkhaa.Pr Go.Proofs.Ytbjnkcfkhonkhaa.Sets Go.Proofs.Ytbjnkcfkhonkhaa.Mat Go.Proofs.Ytbjnkcfkhonkhaa.Rank Go.Proofs.Ytbjnkcfkhonkhaa.Flat Go.Proofs.Ytbjnkcfkhonkhaa.Size Go.Proofs.Ytbjnkcfkhonkhaa.Indep Go.Proofs.Ytbjnkcfkhonkhaa.Sort Go.Proofs.Ytbjnkcfkhonkhaa.Moeb Go.Proofs.Ytbjnkcfkhonkhaa.Aug Go.Proofs.Ytbjnkcfkhonkhaa.Mini Go.Proofs.Ytbjnkcfkhonkhaa.MinorP Go.Proofs.YtbjnkcfkhonkhaaW.PrintWords Go.Proofs.YtbjnkcfkhonkhaaW.PrintLast Go.Proofs.YtbjnkcfkhonkhaaW.PrintMore
set_option linter.unusedVariables false
def maxi (l : List Nat) : List Int := kept (fun t s => subs s t) l
theorem implMax (l : List Nat) (hl : ∀ s ∈ l, s < 256) (hn : l.length ≤ 1048576) : Ev (fun k => impl_MaximalSets.f k (ints l)) (maxi l) := by
 unfold impl_MaximalSets.f
 refine Ev.bind (implAny l hl hn) ?_
 simp only [if_true]
 have hs := implSort (ints l) (by rw [ints_length]; exact hn)
 rw [hs]
 simp only [Option.bind_some]
 refine implKept l hn (fun t s => subs s t) impl_MaximalSets_1.f impl_MaximalSets.l0 (fun s hs t ht => ?_) (fun k q x3 x13 => by rw [impl_MaximalSets.l0])
 unfold impl_MaximalSets_1.f
 by_cases e : t = s
 ·subst e
  rw [if_pos rfl]
  simp
 ·rw [if_neg (by omega), implSub s t (hl s hs) (hl t ht), decide_eq_false e]
  simp
theorem maxi_range (m : Nat) (P : Nat → Bool) : maxi ((List.range' 0 (2 ^ m)).filter P) = ints (maxes m P) := by
 unfold maxi kept
 refine sset_ints (maxes_asc m P) fun s => ?_
 rw [List.mem_filter, List.mem_filter, mem_maxes, Bool.not_eq_true', List.any_eq_false]
 constructor
 ·rintro ⟨⟨h1, h2⟩, h3⟩
  refine ⟨by have := List.mem_range'_1.1 h1; omega, h2, fun t ht hp hs => ?_⟩
  have := h3 t (List.mem_filter.2 ⟨List.mem_range'_1.2 (by omega), hp⟩)
  have e : subs s t = true := by unfold subs; rw [sub_and.2 hs]; exact decide_eq_true rfl
  simpa [e] using this
 ·rintro ⟨h1, h2, h3⟩
  refine ⟨⟨List.mem_range'_1.2 (by omega), h2⟩, fun t ht => ?_⟩
  obtain ⟨ht1, ht2⟩ := List.mem_filter.1 ht
  by_cases e : s &&& t = s
  ·have := h3 t (by have := List.mem_range'_1.1 ht1; omega) ht2 (sub_and.1 e)
   simp [this]
  ·have e2 : subs s t = false := by unfold subs; exact decide_eq_false e
   simp [e2]
theorem range_lt {m : Nat} (hm : m ≤ 8) (P : Nat → Bool) : ∀ s ∈ (List.range' 0 (2 ^ m)).filter P, s < 256 := fun s hs => by
 have := List.mem_range'_1.1 (List.mem_filter.1 hs).1
 have := pow_le_256 hm
 omega
theorem range_len {m : Nat} (hm : m ≤ 8) (P : Nat → Bool) : ((List.range' 0 (2 ^ m)).filter P).length ≤ 1048576 := by
 refine Nat.le_trans (List.length_filter_le _ _) ?_
 rw [List.length_range']
 exact Nat.le_trans (pow_le_256 hm) (by decide)
theorem implFrom {m : Nat} (hm : m ≤ 8) {P : Nat → Bool} (h : Ind m P) : Ev (fun k => impl_fromIndependent.f k (m : Int) (ints ((List.range' 0 (2 ^ m)).filter P))) ((m : Int), ints (maxes m P), true) := by
 unfold impl_fromIndependent.f
 refine Ev.bind (implMax _ (range_lt hm P) (range_len hm P)) ?_
 rw [maxi_range]
 have hM := implMat (m : Int) (ints (maxes m P)) (by rw [ints_length]; exact Nat.le_trans (maxes_length m hm P) (by decide))
 rw [maxes_isMat hm h] at hM
 refine Ev.bind hM ?_
 simp only [if_true]
 exact Ev.now _
theorem asc_len {l : List Nat} (hs : l.Pairwise (· < ·)) {n : Nat} (hl : ∀ s ∈ l, s < n) : l.length ≤ n := by
 have key : ∀ (l : List Nat) (a : Nat), l.Pairwise (· < ·) → (∀ s ∈ l, a ≤ s ∧ s < n) → a + l.length ≤ n ∨ l = [] := by
  intro l
  induction l with
  | nil => exact fun a _ _ => .inr rfl
  | cons x l ih =>
   intro a h1 h2
   obtain ⟨h3, h4⟩ := List.pairwise_cons.1 h1
   have hx := h2 x (by simp)
   rcases ih (x + 1) h4 (fun s hs => ⟨h3 s hs, (h2 s (by simp [hs])).2⟩) with h | h
   ·refine .inl ?_
    rw [List.length_cons]
    omega
   ·subst h
    refine .inl ?_
    simp only [List.length_cons, List.length_nil]
    omega
 rcases key l 0 hs (fun s h => ⟨Nat.zero_le _, hl s h⟩) with h | h
 ·omega
 ·subst h
  simp
theorem isMat_asc {m : Nat} {l : List Nat} (h : isMat (m : Int) (ints l) = true) : l.Pairwise (· < ·) := by
 unfold isMat at h
 rw [Bool.and_eq_true, Bool.and_eq_true] at h
 have hf := h.1.1
 unfold fam at hf
 rw [Bool.and_eq_true] at hf
 rw [List.pairwise_iff_getElem]
 have step : ∀ i, i + 1 < l.length → l.getD i 0 < l.getD (i + 1) 0 := fun i hi => by
  have := List.all_eq_true.1 hf.1 (i + 1) (List.mem_range'_1.2 (by rw [ints_length]; omega))
  rw [Bool.and_eq_true, ints_getD, ints_getD] at this
  have h2 := this.2
  rw [decide_eq_false (show ¬ i + 1 = 0 by omega), Bool.false_or, decide_eq_true_eq] at h2
  rw [show i + 1 - 1 = i by omega] at h2
  omega
 have key : ∀ d i, i + d + 1 < l.length → l.getD i 0 < l.getD (i + d + 1) 0 := by
  intro d
  induction d with
  | zero => exact fun i hi => step i hi
  | succ d ih => exact fun i hi => Nat.lt_trans (ih i (by omega)) (step (i + d + 1) (by omega))
 intro i j hi hj hij
 have := key (j - i - 1) i (by omega)
 rw [show i + (j - i - 1) + 1 = j by omega] at this
 have e1 : l.getD i 0 = l[i] := by simp [List.getD, hi]
 have e2 : l.getD j 0 = l[j] := by simp [List.getD, hj]
 rw [e1, e2] at this
 exact this
end Go.Proofs.Ytbjnkcfkhonkhaa.FromInd
end
section
namespace Go.Proofs.Ytbjnkcfkhonkhaa.Union
open Go.RowKit Go.Proofs.Ytbjnkcfkhonkhaa.Sets Go.Proofs.Ytbjnkcfkhonkhaa.Rank Go.Proofs.Ytbjnkcfkhonkhaa.Size Go.Proofs.Ytbjnkcfkhonkhaa.Indep Go.Proofs.Ytbjnkcfkhonkhaa.Aug
set_option linter.unusedVariables false
def both (m : Nat) (P Q : Nat → Bool) (s : Nat) : Bool := (List.range' 0 (2 ^ m)).any fun a => decide (a &&& s = a) && P a && Q (diff s a)
theorem both_iff {m : Nat} {P Q : Nat → Bool} {s : Nat} (hs : s < 2 ^ m) : both m P Q s = true ↔ ∃ a, Sub a s ∧ P a = true ∧ Q (diff s a) = true := by
 unfold both
 rw [List.any_eq_true]
 constructor
 ·rintro ⟨a, _, h⟩
  rw [Bool.and_eq_true, Bool.and_eq_true, decide_eq_true_eq] at h
  exact ⟨a, sub_and.1 h.1.1, h.1.2, h.2⟩
 ·rintro ⟨a, h1, h2, h3⟩
  refine ⟨a, List.mem_range'_1.2 ⟨by omega, by have := sub_lt h1 hs; omega⟩, ?_⟩
  rw [sub_and.2 h1, h2, h3]
  simp
theorem both_or {m : Nat} {P Q : Nat → Bool} (hQ : Ind m Q) {s : Nat} (hs : s < 2 ^ m) : both m P Q s = true ↔ ∃ a b, a < 2 ^ m ∧ b < 2 ^ m ∧ P a = true ∧ Q b = true ∧ a ||| b = s := by
 rw [both_iff hs]
 constructor
 ·rintro ⟨a, h1, h2, h3⟩
  refine ⟨a, diff s a, sub_lt h1 hs, diff_lt hs, h2, h3, ?_⟩
  apply Nat.eq_of_testBit_eq
  intro j
  rw [Nat.testBit_or, diff_bit]
  cases ha : a.testBit j with
  | true => rw [h1 j ha]; rfl
  | false => simp
 ·rintro ⟨a, b, h1, h2, h3, h4, rfl⟩
  refine ⟨a, sub_or_left _ _, h3, hQ.down _ b h2 (fun j hj => ?_) h4⟩
  rw [diff_bit, Nat.testBit_or, Bool.and_eq_true, Bool.or_eq_true] at hj
  rcases hj.1 with h | h
  ·rw [h] at hj
   exact absurd hj.2 (by decide)
  ·exact h
theorem both_aug {m : Nat} (hm : m ≤ 8) {P Q : Nat → Bool} (hP : Ind m P) (hQ : Ind m Q) {s t : Nat} (hs : s < 2 ^ m) (ht : t < 2 ^ m) (hlt : cnt s < cnt t) :
  ∀ n a c, Sub a s → P a = true → Q (diff s a) = true → Sub c t → P c = true → Q (diff t c) = true → 17 ≤ cnt (a &&& c) + cnt (diff s a &&& diff t c) + n →
   ∃ e, t.testBit e = true ∧ s.testBit e = false ∧ ∃ a, Sub a (s ||| 2 ^ e) ∧ P a = true ∧ Q (diff (s ||| 2 ^ e) a) = true := by
 have h256 := pow_le_256 hm
 intro n
 induction n with
 | zero =>
  intro a c _ _ _ _ _ _ h
  have := cnt_le (a &&& c)
  have := cnt_le (diff s a &&& diff t c)
  omega
 | succ n ih =>
  intro a c ha hPa hQa hc hPc hQc h
  have h1 := cnt_split s a
  have h2 := cnt_split t c
  rw [Nat.and_comm, sub_and.2 ha] at h1
  rw [Nat.and_comm, sub_and.2 hc] at h2
  by_cases hac : cnt a < cnt c
  ·obtain ⟨e, h3, h4, h5⟩ := hP.aug a c (sub_lt ha hs) (sub_lt hc ht) hPa hPc hac
   have he8 : e < 8 := bit_lt8 (by have := sub_lt hc ht; omega) h3
   cases hse : s.testBit e with
   | false =>
    refine ⟨e, hc e h3, hse, a ||| 2 ^ e, or_mono ha (Sub.refl _), h5, ?_⟩
    rw [show diff (s ||| 2 ^ e) (a ||| 2 ^ e) = diff s a from ?_]
    ·exact hQa
    ·apply Nat.eq_of_testBit_eq
     intro j
     rw [diff_bit, diff_bit, or_one, or_one]
     by_cases ej : e = j
     ·subst ej
      rw [hse, h4]
      simp
     ·simp [ej]
   | true =>
    refine ih (a ||| 2 ^ e) c (sub_or ha (bit_sub hse)) h5 (hQ.down _ (diff s a) (diff_lt hs) (fun j hj => ?_) hQa) hc hPc hQc ?_
    ·rw [diff_bit, or_one, Bool.and_eq_true] at hj
     rw [diff_bit, hj.1]
     have := hj.2
     cases haj : a.testBit j with
     | false => rfl
     | true => rw [haj] at this; exact absurd this (by simp)
    ·have e1 : (a ||| 2 ^ e) &&& c = (a &&& c) ||| 2 ^ e := by
      apply Nat.eq_of_testBit_eq
      intro j
      rw [Nat.testBit_and, or_one, or_one, Nat.testBit_and]
      by_cases ej : e = j
      ·subst ej
       rw [h3]
       simp
      ·simp [ej]
     have e2 : diff s (a ||| 2 ^ e) &&& diff t c = diff s a &&& diff t c := by
      apply Nat.eq_of_testBit_eq
      intro j
      rw [Nat.testBit_and, Nat.testBit_and, diff_bit, diff_bit, diff_bit, or_one]
      by_cases ej : e = j
      ·subst ej
       rw [h3]
       simp
      ·simp [ej]
     have e3 := cnt_or_bit (a := a &&& c) he8 (by rw [Nat.testBit_and, h4]; rfl)
     rw [e1, e2, e3]
     omega
  ·obtain ⟨e, h3, h4, h5⟩ := hQ.aug (diff s a) (diff t c) (diff_lt hs) (diff_lt ht) hQa hQc (by omega)
   rw [diff_bit, Bool.and_eq_true] at h3
   have hce : c.testBit e = false := by simpa using h3.2
   have he8 : e < 8 := bit_lt8 (by omega) h3.1
   cases hse : s.testBit e with
   | false =>
    have hae : a.testBit e = false := by
     cases hae : a.testBit e with
     | false => rfl
     | true => rw [ha e hae] at hse; exact Bool.noConfusion hse
    refine ⟨e, h3.1, hse, a, ha.trans (sub_or_left _ _), hPa, ?_⟩
    rw [show diff (s ||| 2 ^ e) a = diff s a ||| 2 ^ e from ?_]
    ·exact h5
    ·apply Nat.eq_of_testBit_eq
     intro j
     rw [diff_bit, or_one, or_one, diff_bit]
     by_cases ej : e = j
     ·subst ej
      rw [hae]
      simp
     ·simp [ej]
   | true =>
    have hae : a.testBit e = true := by
     rw [diff_bit, hse] at h4
     simpa using h4
    have e0 : diff s (diff a (2 ^ e)) = diff s a ||| 2 ^ e := by
     apply Nat.eq_of_testBit_eq
     intro j
     rw [diff_bit, less_one, or_one, diff_bit]
     by_cases ej : e = j
     ·subst ej
      rw [hse]
      simp
     ·simp [ej]
    refine ih (diff a (2 ^ e)) c ((sub_diff _ _).trans ha) (hP.down _ a (sub_lt ha hs) (sub_diff _ _) hPa) (by rw [e0]; exact h5) hc hPc hQc ?_
    have e1 : diff a (2 ^ e) &&& c = a &&& c := by
     apply Nat.eq_of_testBit_eq
     intro j
     rw [Nat.testBit_and, Nat.testBit_and, less_one]
     by_cases ej : e = j
     ·subst ej
      rw [hce]
      simp
     ·simp [ej]
    have e2 : (diff s a ||| 2 ^ e) &&& diff t c = (diff s a &&& diff t c) ||| 2 ^ e := by
     apply Nat.eq_of_testBit_eq
     intro j
     rw [Nat.testBit_and, or_one, or_one, Nat.testBit_and]
     by_cases ej : e = j
     ·subst ej
      rw [diff_bit, diff_bit, h3.1, hce]
      simp
     ·simp [ej]
    have e3 := cnt_or_bit (a := diff s a &&& diff t c) he8 (by rw [Nat.testBit_and, h4]; rfl)
    rw [e0, e1, e2, e3]
    omega
theorem both_ind {m : Nat} (hm : m ≤ 8) {P Q : Nat → Bool} (hP : Ind m P) (hQ : Ind m Q) : Ind m (both m P Q) := by
 refine ⟨(both_iff (Nat.pow_pos (by decide))).2 ⟨0, Sub.refl 0, hP.zero, ?_⟩, fun s t ht hst h => ?_, fun s t hs ht h1 h2 hlt => ?_⟩
 ·rw [show diff 0 0 = 0 by decide]
  exact hQ.zero
 ·obtain ⟨a, h1, h2, h3⟩ := (both_iff ht).1 h
  refine (both_iff (sub_lt hst ht)).2 ⟨a &&& s, sub_and_right _ _, hP.down _ a (sub_lt h1 ht) (sub_and_left _ _) h2, hQ.down _ (diff t a) (diff_lt ht) (fun j hj => ?_) h3⟩
  rw [diff_bit, Nat.testBit_and, Bool.and_eq_true] at hj
  rw [diff_bit, hst j hj.1]
  have := hj.2
  rw [hj.1, Bool.and_true] at this
  rw [this]
  rfl
 ·obtain ⟨a, h3, h4, h5⟩ := (both_iff hs).1 h1
  obtain ⟨c, h6, h7, h8⟩ := (both_iff ht).1 h2
  obtain ⟨e, h9, h10, x, h11, h12, h13⟩ := both_aug hm hP hQ hs ht hlt 17 a c h3 h4 h5 h6 h7 h8 (by omega)
  exact ⟨e, h9, h10, (both_iff (or_lt hs (pow_lt (bit_ltn ht h9)))).2 ⟨x, h11, h12, h13⟩⟩
end Go.Proofs.Ytbjnkcfkhonkhaa.Union
end
section
namespace Go.Proofs.Ytbjnkcfkhonkhaa.UnionP
open Go.RowKit Go.Proofs.Ytbjnkcfkhonkhaa.Pr Go.Proofs.Ytbjnkcfkhonkhaa.Sets Go.Proofs.Ytbjnkcfkhonkhaa.Mat Go.Proofs.Ytbjnkcfkhonkhaa.Rank Go.Proofs.Ytbjnkcfkhonkhaa.Flat Go.Proofs.Ytbjnkcfkhonkhaa.Size Go.Proofs.Ytbjnkcfkhonkhaa.Indep Go.Proofs.Ytbjnkcfkhonkhaa.Sort Go.Proofs.Ytbjnkcfkhonkhaa.Aug Go.Proofs.Ytbjnkcfkhonkhaa.Mini Go.Proofs.Ytbjnkcfkhonkhaa.MinorP Go.Proofs.Ytbjnkcfkhonkhaa.FromInd Go.Proofs.Ytbjnkcfkhonkhaa.Union Go.Proofs.YtbjnkcfkhonkhaaW.PrintWords Go.Proofs.YtbjnkcfkhonkhaaW.PrintLast Go.Proofs.YtbjnkcfkhonkhaaW.PrintMore
set_option linter.unusedVariables false
def inds (m : Nat) (l : List Nat) : List Nat := (List.range' 0 (2 ^ m)).filter fun s => indep l s
theorem implInds (m : Nat) (hm : m ≤ 8) (l : List Nat) (hl : ∀ b ∈ l, b < 2 ^ m) (hn : l.length ≤ 1048576) (hM : isMat (m : Int) (ints l) = true) : Ev (fun k => impl_IndependentSets.f k (m : Int) (ints l)) (ints (inds m l)) := by
 have h256 := pow_le_256 hm
 unfold impl_IndependentSets.f
 have h := implMat (m : Int) (ints l) (by rw [ints_length]; exact hn)
 rw [hM] at h
 refine Ev.bind h ?_
 simp only [if_true]
 refine implSetsOf m hm (fun k s => impl_IndependentSets_1.f k (m : Int) (ints l) s) (fun s => indep l s) (fun s hs => ?_) (fun k s => impl_IndependentSets_1.mono _ _ _ _)
 unfold impl_IndependentSets_1.f
 exact Ev.bind (implIndep (m : Int) l s (by omega) (fun b hb => Nat.lt_of_lt_of_le (hl b hb) h256) hn) (Ev.now _)
def tab (n : Nat) (p : Nat → Bool) : List Bool := (List.range n).map p
theorem tab_length (n : Nat) (p : Nat → Bool) : (tab n p).length = n := by simp [tab]
theorem tab_set (n : Nat) (p : Nat → Bool) (j : Nat) : (tab n p).set j true = tab n (fun s => p s || decide (s = j)) := by
 apply List.ext_getElem?
 intro i
 rw [List.getElem?_set, tab_length]
 by_cases hi : i < n
 ·by_cases e : j = i
  ·subst e
   rw [if_pos rfl, if_pos hi]
   simp [tab, hi]
  ·rw [if_neg e]
   simp [tab, hi, show ¬ i = j from fun h => e h.symm]
 ·rw [List.getElem?_eq_none (by rw [tab_length]; omega)]
  by_cases e : j = i
  ·rw [if_pos e, if_neg (by omega), List.getElem?_eq_none (by rw [tab_length]; omega)]
  ·rw [if_neg e, List.getElem?_eq_none (by rw [tab_length]; omega)]
theorem tab_rd (n : Nat) (p : Nat → Bool) (s : Nat) (h : s < n) : rdOf false (tab n p) (s : Int) = p s := by
 show (tab n p).getD s false = p s
 simp [tab, List.getD, h]
theorem foldl_tab (lb : List Nat) (a : Nat) (p : Nat → Bool) (x : Nat) : (lb.foldl (fun (s : Nat → Bool) b => fun y => s y || decide (y = a ||| b)) p) x = (p x || lb.any fun b => decide (x = a ||| b)) := by
 induction lb generalizing p with
 | nil => simp
 | cons b lb ih => rw [List.foldl_cons, ih, List.any_cons, Bool.or_assoc]
theorem foldl_tab2 (la lb : List Nat) (p : Nat → Bool) (x : Nat) : (la.foldl (fun (s : Nat → Bool) a => lb.foldl (fun (s : Nat → Bool) b => fun y => s y || decide (y = a ||| b)) s) p) x = (p x || la.any fun a => lb.any fun b => decide (x = a ||| b)) := by
 induction la generalizing p with
 | nil => simp
 | cons a la ih => rw [List.foldl_cons, ih, foldl_tab, List.any_cons, Bool.or_assoc]
theorem implUnions (m : Nat) (hm : m ≤ 8) (la lb : List Nat) (ha : ∀ a ∈ la, a < 2 ^ m) (hb : ∀ b ∈ lb, b < 2 ^ m) (hna : la.length ≤ 256) (hnb : lb.length ≤ 256) :
  Ev (fun k => impl_unions.f k (m : Int) (ints la) (ints lb)) (ints ((List.range' 0 (2 ^ m)).filter fun s => la.any fun a => lb.any fun b => decide (s = a ||| b))) := by
 have h256 := pow_le_256 hm
 unfold impl_unions.f
 simp only [if_pos (show (0 : Int) ≤ (m : Int) by omega), if_pos (show (m : Int) ≤ 8 by omega), shl_nat m (show m < 62 by omega), Int.toNat_natCast]
 have h0 : List.replicate (2 ^ m) false = tab (2 ^ m) (fun _ => false) := by
  apply List.ext_getElem?
  intro i
  by_cases hi : i < 2 ^ m
  ·simp [tab, hi]
  ·rw [List.getElem?_eq_none (by simp; omega), List.getElem?_eq_none (by rw [tab_length]; omega)]
 rw [h0]
 have key := Gen.ev_loop (fun k (p : Nat → Bool) i => impl_unions.l0 k (m : Int) (ints la) (ints lb) (tab (2 ^ m) p) i) la.length (fun i p => lb.foldl (fun (s : Nat → Bool) b => fun y => s y || decide (y = la.getD i 0 ||| b)) p) (fun _ _ => True) (ints ((List.range' 0 (2 ^ m)).filter fun s => la.any fun a => lb.any fun b => decide (s = a ||| b))) (fun i p hi _ => ⟨trivial, fun h => ?_⟩) la.length 0 (fun _ => false) (by omega) trivial (fun _ => ?_)
 ·exact key
 ·have hai := ha _ (getD_mem la 0 i hi)
  refine Ev.step (f := fun k => impl_unions.l1 k (m : Int) (ints la) (ints lb) (tab (2 ^ m) p) (i : Int) 0) (fun k => ?_) ?_
  ·rw [impl_unions.l0, if_pos (by rw [ints_length]; omega), if_pos (by omega)]
  ·have inner := Gen.ev_loop (fun k (q : Nat → Bool) j => impl_unions.l1 k (m : Int) (ints la) (ints lb) (tab (2 ^ m) q) (i : Int) j) lb.length (fun j q => fun y => q y || decide (y = la.getD i 0 ||| lb.getD j 0)) (fun _ _ => True) (ints ((List.range' 0 (2 ^ m)).filter fun s => la.any fun a => lb.any fun b => decide (s = a ||| b))) (fun j q hj _ => ⟨trivial, fun h => ?_⟩) lb.length 0 p (by omega) trivial (fun _ => ?_)
   ·exact inner
   ·have hbj := hb _ (getD_mem lb 0 j hj)
    have hor := or_lt hai hbj
    refine Ev.step (fun k => ?_) h
    rw [impl_unions.l1, if_pos (by rw [ints_length]; omega), if_pos (by omega), ints_rd, ints_rd, or_nat _ _ (by omega) (by omega), if_pos (by omega), if_pos (by rw [tab_length]; omega), Int.toNat_natCast, tab_set, Gen.w64s j (by omega)]
   ·rw [foldl_index lb (fun (q : Nat → Bool) b => fun y => q y || decide (y = la.getD i 0 ||| b)) p]
    refine Ev.step (fun k => ?_) h
    rw [impl_unions.l1, if_neg (by rw [ints_length]; omega), Gen.w64s i (by omega)]
 ·rw [foldl_index la (fun (p : Nat → Bool) a => lb.foldl (fun (s : Nat → Bool) b => fun y => s y || decide (y = a ||| b)) p) (fun _ => false)]
  generalize hq : la.foldl (fun (p : Nat → Bool) a => lb.foldl (fun (s : Nat → Bool) b => fun y => s y || decide (y = a ||| b)) p) (fun _ => false) = q
  have hqx : ∀ x, q x = la.any fun a => lb.any fun b => decide (x = a ||| b) := fun x => by
   rw [← hq, foldl_tab2, Bool.false_or]
  refine Ev.step (f := fun k => impl_setsOf.f k (m : Int) (fun s => impl_unions_1.f (tab (2 ^ m) q) s)) (fun k => ?_) (implSetsOf m hm (fun _ s => impl_unions_1.f (tab (2 ^ m) q) s) (fun s => la.any fun a => lb.any fun b => decide (s = a ||| b)) (fun s hs => Gen.ev_at 0 (fun k _ => ?_)) (fun k s => LeO.refl _))
  ·rw [impl_unions.l0, if_neg (by rw [ints_length]; omega)]
  ·unfold impl_unions_1.f
   rw [if_pos (by omega), if_pos (by rw [tab_length]; omega), tab_rd _ _ _ hs, hqx]
def uni (m : Nat) (l1 l2 : List Nat) : List Nat := maxes m (both m (indep l1) (indep l2))
def uniI (n : Int) (l1 : List Int) (n' : Int) (l2 : List Int) : Int × List Int × Bool := if (isMat n l1 && isMat n' l2 && decide (n = n')) = true then (n, ints (uni n.toNat (l1.map Int.toNat) (l2.map Int.toNat)), true) else (0, [], false)
theorem uniI_length (n : Int) (l1 : List Int) (n' : Int) (l2 : List Int) : (uniI n l1 n' l2).2.1.length ≤ 256 := by
 unfold uniI
 by_cases h : (isMat n l1 && isMat n' l2 && decide (n = n')) = true
 ·rw [if_pos h]
  rw [Bool.and_eq_true, Bool.and_eq_true] at h
  obtain ⟨m, _, rfl, hm, _⟩ := mat_nat h.1.1
  show (ints _).length ≤ 256
  rw [ints_length, Int.toNat_natCast]
  exact maxes_length m hm _
 ·rw [if_neg h]
  simp
theorem inds_lt {m : Nat} {l : List Nat} {s : Nat} (h : s ∈ inds m l) : s < 2 ^ m ∧ indep l s = true := by
 obtain ⟨h1, h2⟩ := List.mem_filter.1 h
 exact ⟨by have := List.mem_range'_1.1 h1; omega, h2⟩
theorem inds_len (m : Nat) (hm : m ≤ 8) (l : List Nat) : (inds m l).length ≤ 256 := by
 unfold inds
 refine Nat.le_trans (List.length_filter_le _ _) ?_
 rw [List.length_range']
 exact pow_le_256 hm
theorem implUni (n : Int) (l1 : List Int) (n' : Int) (l2 : List Int) (h1 : l1.length ≤ 1048576) (h2 : l2.length ≤ 1048576) : Ev (fun k => impl_UnionOf.f k n l1 n' l2) (uniI n l1 n' l2) := by
 unfold impl_UnionOf.f uniI
 have ht : Ev (fun k => impl_together.f k n l1 n' l2) (isMat n l1 && isMat n' l2 && decide (n = n')) := by
  unfold impl_together.f
  refine Ev.bind (implMat n l1 h1) ?_
  cases isMat n l1 with
  | false => simp only [Bool.false_eq_true, if_false, Bool.false_and]; exact Ev.now _
  | true =>
   simp only [if_true, Bool.true_and]
   refine Ev.bind (implMat n' l2 h2) ?_
   cases isMat n' l2 with
   | false => simp only [Bool.false_eq_true, if_false, Bool.false_and]; exact Ev.now _
   | true =>
    simp only [if_true, Bool.true_and]
    exact Ev.now _
 refine Ev.bind ht ?_
 cases hc : (isMat n l1 && isMat n' l2 && decide (n = n')) with
 | false => simp only [Bool.false_eq_true, if_false]; exact Ev.now _
 | true =>
  rw [Bool.and_eq_true, Bool.and_eq_true, decide_eq_true_eq] at hc
  obtain ⟨⟨hM1, hM2⟩, rfl⟩ := hc
  obtain ⟨m, q1, rfl, hm, rfl, hl1, p1, hf1⟩ := mat_nat hM1
  obtain ⟨m', q2, e', _, rfl, hl2, p2, hf2⟩ := mat_nat hM2
  obtain rfl : m = m' := by omega
  rw [ints_length] at h1 h2
  have i1 := ind_of_mat hm hl1 p1 hf1
  have i2 := ind_of_mat hm hl2 p2 hf2
  simp only [if_true, toNat_ints, Int.toNat_natCast]
  have hu := implUnions m hm (inds m q1) (inds m q2) (fun a ha => (inds_lt ha).1) (fun b hb => (inds_lt hb).1) (inds_len m hm q1) (inds_len m hm q2)
  have he : ((List.range' 0 (2 ^ m)).filter fun s => (inds m q1).any fun a => (inds m q2).any fun b => decide (s = a ||| b)) = (List.range' 0 (2 ^ m)).filter (both m (indep q1) (indep q2)) := by
   refine List.filter_congr fun s hs => ?_
   have hs' : s < 2 ^ m := by have := List.mem_range'_1.1 hs; omega
   rw [Bool.eq_iff_iff, both_or i2 hs', List.any_eq_true]
   constructor
   ·rintro ⟨a, ha, h⟩
    obtain ⟨b, hb, h⟩ := List.any_eq_true.1 h
    obtain ⟨a1, a2⟩ := inds_lt ha
    obtain ⟨b1, b2⟩ := inds_lt hb
    exact ⟨a, b, a1, b1, a2, b2, by simpa using (of_decide_eq_true h).symm⟩
   ·rintro ⟨a, b, a1, b1, a2, b2, rfl⟩
    exact ⟨a, List.mem_filter.2 ⟨List.mem_range'_1.2 (by omega), a2⟩, List.any_eq_true.2 ⟨b, List.mem_filter.2 ⟨List.mem_range'_1.2 (by omega), b2⟩, by simp⟩⟩
  rw [he] at hu
  exact Ev.bind (implInds m hm q1 hl1 h1 hM1) (Ev.bind (implInds m hm q2 hl2 h2 hM2) (Ev.bind hu (Ev.bind (implFrom hm (both_ind hm i1 i2)) (Ev.now _))))
def pairs (q1 q2 : List Nat) : List Nat := q1.flatMap fun a => q2.map fun b => a ||| b
theorem mem_pairs {q1 q2 : List Nat} {x : Nat} : x ∈ pairs q1 q2 ↔ ∃ a ∈ q1, ∃ b ∈ q2, x = a ||| b := by
 unfold pairs
 rw [List.mem_flatMap]
 constructor
 ·rintro ⟨a, ha, h⟩
  obtain ⟨b, hb, rfl⟩ := List.mem_map.1 h
  exact ⟨a, ha, b, hb, rfl⟩
 ·rintro ⟨a, ha, b, hb, rfl⟩
  exact ⟨a, ha, List.mem_map.2 ⟨b, hb, rfl⟩⟩
def most (q : List Nat) : Nat := q.foldl (fun o x => max o (cnt x)) 0
theorem most_ge (q : List Nat) : (∀ x ∈ q, cnt x ≤ most q) := by
 have mono : ∀ (l : List Nat) (o : Nat), o ≤ l.foldl (fun o x => max o (cnt x)) o := by
  intro l
  induction l with
  | nil => exact fun o => Nat.le_refl _
  | cons a l ih => exact fun o => Nat.le_trans (by omega) (ih (max o (cnt a)))
 have : ∀ (l : List Nat) (o : Nat), ∀ x ∈ l, cnt x ≤ l.foldl (fun o x => max o (cnt x)) o := by
  intro l
  induction l with
  | nil => exact fun o x h => by simp at h
  | cons a l ih =>
   intro o x h
   rw [List.foldl_cons]
   rcases List.mem_cons.1 h with rfl | h
   ·exact Nat.le_trans (by omega) (mono l _)
   ·exact ih _ x h
 exact this q 0
theorem most_le (q : List Nat) (r : Nat) (h : ∀ x ∈ q, cnt x ≤ r) : most q ≤ r := by
 have : ∀ (l : List Nat) (o : Nat), o ≤ r → (∀ x ∈ l, cnt x ≤ r) → l.foldl (fun o x => max o (cnt x)) o ≤ r := by
  intro l
  induction l with
  | nil => exact fun o ho _ => ho
  | cons a l ih =>
   intro o ho h
   rw [List.foldl_cons]
   have := h a (by simp)
   exact ih _ (by omega) fun b hb => h b (by simp [hb])
 exact this q 0 (by omega) h
theorem uni_iff {m : Nat} (hm : m ≤ 8) {q1 q2 : List Nat} (hl1 : ∀ b ∈ q1, b < 2 ^ m) (hl2 : ∀ b ∈ q2, b < 2 ^ m) (i1 : Ind m (indep q1)) (i2 : Ind m (indep q2)) (x : Nat) : x ∈ uni m q1 q2 ↔ x ∈ pairs q1 q2 ∧ cnt x = most (pairs q1 q2) := by
 have i3 := both_ind hm i1 i2
 have h256 := pow_le_256 hm
 have hin : ∀ y ∈ pairs q1 q2, y < 2 ^ m ∧ both m (indep q1) (indep q2) y = true := fun y hy => by
  obtain ⟨a, ha, b, hb, rfl⟩ := mem_pairs.1 hy
  have hlt := or_lt (hl1 a ha) (hl2 b hb)
  exact ⟨hlt, (both_or i2 hlt).2 ⟨a, b, hl1 a ha, hl2 b hb, indep_iff.2 ⟨a, ha, Sub.refl a⟩, indep_iff.2 ⟨b, hb, Sub.refl b⟩, rfl⟩⟩
 have hcov : ∀ t, t < 2 ^ m → both m (indep q1) (indep q2) t = true → ∃ y ∈ pairs q1 q2, Sub t y := fun t ht h => by
  obtain ⟨a, b, _, _, ha, hb, rfl⟩ := (both_or i2 ht).1 h
  obtain ⟨A, hA, hsa⟩ := indep_iff.1 ha
  obtain ⟨B, hB, hsb⟩ := indep_iff.1 hb
  exact ⟨A ||| B, mem_pairs.2 ⟨A, hA, B, hB, rfl⟩, or_mono hsa hsb⟩
 constructor
 ·intro hx
  obtain ⟨h1, h2, h3⟩ := mem_maxes.1 hx
  obtain ⟨y, hy, hs⟩ := hcov x h1 h2
  obtain ⟨y1, y2⟩ := hin y hy
  have e := h3 y y1 y2 hs
  subst e
  refine ⟨hy, Nat.le_antisymm (most_ge _ _ hy) (most_le _ _ fun z hz => ?_)⟩
  obtain ⟨z1, z2⟩ := hin z hz
  exact i3.max_ge hm hx z1 z2
 ·rintro ⟨h1, h2⟩
  obtain ⟨x1, x2⟩ := hin x h1
  refine i3.max_of hm x1 x2 fun t ht hp => ?_
  obtain ⟨y, hy, hs⟩ := hcov t ht hp
  rw [h2]
  exact Nat.le_trans (cnt_sub hs) (most_ge _ _ hy)
theorem specUni (n : Int) (l1 : List Int) (n' : Int) (l2 : List Int) (h1 : l1.length ≤ 1048576) (h2 : l2.length ≤ 1048576) : Ev (fun k => spec_UnionOf.f k n l1 n' l2) (uniI n l1 n' l2) := by
 unfold spec_UnionOf.f uniI
 have ht : Ev (fun k => spec_IsCommon.f k n l1 n' l2 0) (isMat n l1 && isMat n' l2 && decide (n = n')) := by
  unfold spec_IsCommon.f
  refine Ev.bind (specMat n l1 h1) ?_
  cases hM1 : isMat n l1 with
  | false => simp only [Bool.false_eq_true, if_false, Bool.false_and]; exact Ev.now _
  | true =>
   simp only [if_true, Bool.true_and]
   refine Ev.bind (specMat n' l2 h2) ?_
   cases hM2 : isMat n' l2 with
   | false => simp only [Bool.false_eq_true, if_false, Bool.false_and]; exact Ev.now _
   | true =>
    simp only [if_true, Bool.true_and]
    by_cases e : n = n'
    ·subst e
     rw [decide_eq_true rfl]
     simp only [if_true]
     obtain ⟨m, q1, rfl, hm, rfl, hl1, p1, hf1⟩ := mat_nat hM1
     obtain ⟨m', q2, e', _, rfl, hl2, p2, hf2⟩ := mat_nat hM2
     obtain rfl : m = m' := by omega
     rw [ints_length] at h1 h2
     have h256 := pow_le_256 hm
     have z := isSet_of hm (x := 0) (Nat.pow_pos (by decide))
     rw [show (0 : Int) = ((0 : Nat) : Int) from rfl, specIsSet, z]
     simp only [Option.bind_some, if_true]
     have fr : ∀ q : List Nat, 0 < q.length → (∀ b ∈ q, b < 2 ^ m) → q.length ≤ 1048576 → Ev (fun k => spec_l20Free.f k (m : Int) (ints q) ((0 : Nat) : Int)) true := fun q hp hl hn => by
      unfold spec_l20Free.f
      refine Ev.bind (specRank m q 0 (by decide) (fun b hb => Nat.lt_of_lt_of_le (hl b hb) h256) hn) (Ev.bind (specCountE 0 (by decide)) ?_)
      have := rank_is_cnt (l := q) (s := 0) (by decide) hp
      rw [indep_zero hp, decide_eq_true_eq] at this
      rw [this]
      simp only [beq_self_eq_true]
      exact Ev.now _
     refine Ev.bind (fr q1 p1 hl1 h1) ?_
     simp only [if_true]
     exact Ev.bind (fr q2 p2 hl2 h2) (Ev.now _)
    ·rw [decide_eq_false e]
     simp only [if_neg e]
     exact Ev.now _
 refine Ev.bind ht ?_
 cases hc : (isMat n l1 && isMat n' l2 && decide (n = n')) with
 | false => simp only [Bool.false_eq_true, if_false]; exact Ev.now _
 | true =>
  rw [Bool.and_eq_true, Bool.and_eq_true, decide_eq_true_eq] at hc
  obtain ⟨⟨hM1, hM2⟩, rfl⟩ := hc
  obtain ⟨m, q1, rfl, hm, rfl, hl1, p1, hf1⟩ := mat_nat hM1
  obtain ⟨m', q2, e', _, rfl, hl2, p2, hf2⟩ := mat_nat hM2
  obtain rfl : m = m' := by omega
  have i1 := ind_of_mat hm hl1 p1 hf1
  have i2 := ind_of_mat hm hl2 p2 hf2
  have h256 := pow_le_256 hm
  have n1 := asc_len (isMat_asc hM1) hl1
  have n2 := asc_len (isMat_asc hM2) hl2
  simp only [if_true, toNat_ints, Int.toNat_natCast]
  have hpl : ∀ y ∈ pairs q1 q2, y < 2 ^ m := fun y hy => by
   obtain ⟨a, ha, b, hb, rfl⟩ := mem_pairs.1 hy
   exact or_lt (hl1 a ha) (hl2 b hb)
  have hplen : ∀ q : List Nat, q.length ≤ q1.length → (q.flatMap fun a => q2.map fun b => a ||| b).length ≤ q.length * 256 := fun q _ => by
   induction q with
   | nil => simp
   | cons a q ih =>
    rw [List.flatMap_cons, List.length_append, List.length_map, List.length_cons, Nat.succ_mul]
    have := ih (by rename_i h; simp at h; omega)
    omega
  have hpn : (pairs q1 q2).length ≤ 65536 := Nat.le_trans (hplen q1 (Nat.le_refl _)) (by omega)
  have behind : Ev (fun k => spec_UnionOf.l2 k (ints (pairs q1 q2)) 0 0 (m : Int) (ints q1)) ((m : Int), ints (uni m q1 q2), true) := by
   have fm := foldl_index (pairs q1 q2) (fun o x => max o (cnt x)) 0
   refine Gen.ev_loop (fun k (o : Nat) i => spec_UnionOf.l2 k (ints (pairs q1 q2)) (o : Int) i (m : Int) (ints q1)) (pairs q1 q2).length (fun i o => max o (cnt ((pairs q1 q2).getD i 0))) (fun _ _ => True) _ (fun i o hi _ => ⟨trivial, fun h => ?_⟩) (pairs q1 q2).length 0 0 (by omega) trivial (fun _ => ?_)
   ·have hb := hpl _ (getD_mem _ 0 i hi)
    refine Ev.step (f := fun k => (spec_CountOf.f k (((pairs q1 q2).getD i 0 : Nat) : Int)).bind fun t => ((spec_l1Max.f (o : Int) t).bind fun u => (spec_UnionOf.l2 k (ints (pairs q1 q2)) u ((i + 1 : Nat) : Int) (m : Int) (ints q1)))) (fun k => ?_) ?_
    ·rw [spec_UnionOf.l2, if_pos (by rw [ints_length]; omega), if_pos (by omega), ints_rd, Gen.w64s i (by omega)]
    ·refine Ev.bind (specCountE _ (by omega)) ?_
     have hx : spec_l1Max.f (o : Int) (cnt ((pairs q1 q2).getD i 0) : Int) = some ((max o (cnt ((pairs q1 q2).getD i 0)) : Nat) : Int) := by
      unfold spec_l1Max.f
      split <;> · congr 1; omega
     rw [hx]
     exact h
   ·rw [fm]
    show Ev (fun k => spec_UnionOf.l2 k (ints (pairs q1 q2)) (most (pairs q1 q2) : Int) ((pairs q1 q2).length : Int) (m : Int) (ints q1)) _
    refine Ev.step (f := fun k => (spec_SortSets.f k (ints (pairs q1 q2))).bind fun t => (spec_UnionOf.l3 k (most (pairs q1 q2) : Int) t 0 (m : Int) ([] : List Int))) (fun k => ?_) ?_
    ·rw [spec_UnionOf.l2, if_neg (by rw [ints_length]; omega)]
    ·refine Ev.bind (specSort _ (by rw [ints_length]; omega)) ?_
     obtain ⟨p, hp, hmem, hpl2⟩ := sset_nat (pairs q1 q2)
     have hpa : p.Pairwise (· < ·) := by
      have := sset_sorted (ints (pairs q1 q2))
      rw [hp] at this
      unfold ints at this
      rw [List.pairwise_map] at this
      exact this.imp fun h => by omega
     rw [hp]
     have he : uni m q1 q2 = p.filter fun x => decide (cnt x = most (pairs q1 q2)) := by
      have : ints (uni m q1 q2) = ints (p.filter fun x => decide (cnt x = most (pairs q1 q2))) := by
       rw [← sset_ints (maxes_asc m _) (q := uni m q1 q2) (l := uni m q1 q2) (fun _ => Iff.rfl)]
       refine sset_ints (hpa.filter _) fun x => ?_
       rw [uni_iff hm hl1 hl2 i1 i2 x, List.mem_filter, hmem, decide_eq_true_eq]
      have := congrArg (fun l => l.map Int.toNat) this
      simpa [toNat_ints] using this
     rw [he]
     refine Gen.ev_loop (fun k (s : List Int) i => spec_UnionOf.l3 k (most (pairs q1 q2) : Int) (ints p) i (m : Int) s) p.length (fun i s => if (decide (cnt (p.getD i 0) = most (pairs q1 q2))) = true then s ++ [((p.getD i 0 : Nat) : Int)] else s) (fun i s => s.length ≤ i) _ (fun i s hi hP => ⟨?_, fun h => ?_⟩) p.length 0 [] (by omega) (by simp) (fun _ => ?_)
     ·show (if _ then _ else _ : List Int).length ≤ _
      split
      ·simp; omega
      ·omega
     ·have hb := hpl _ ((hmem _).1 (getD_mem p 0 i hi))
      refine Ev.step (f := fun k => (spec_CountOf.f k ((p.getD i 0 : Nat) : Int)).bind fun t => (if t = (most (pairs q1 q2) : Int) then (spec_UnionOf.l3 k (most (pairs q1 q2) : Int) (ints p) ((i + 1 : Nat) : Int) (m : Int) (s ++ [((p.getD i 0 : Nat) : Int)])) else (spec_UnionOf.l3 k (most (pairs q1 q2) : Int) (ints p) ((i + 1 : Nat) : Int) (m : Int) s))) (fun k => ?_) ?_
      ·rw [spec_UnionOf.l3, if_pos (by rw [ints_length]; omega), if_pos (by omega), ints_rd, Gen.w64s i (by omega)]
       simp only [if_pos (show s.length < 17592186044416 by omega)]
      ·refine Ev.bind (specCountE _ (by omega)) ?_
       by_cases e : cnt (p.getD i 0) = most (pairs q1 q2)
       ·rw [decide_eq_true e] at h
        simp only [e, if_true] at h ⊢
        exact h
       ·rw [decide_eq_false e] at h
        simp only [if_neg (show ¬ ((cnt (p.getD i 0) : Nat) : Int) = (most (pairs q1 q2) : Int) by omega)]
        simpa using h
     ·have fl : ∀ (q : List Nat) (o : List Int), q.foldl (fun (u : List Int) b => if (decide (cnt b = most (pairs q1 q2))) = true then u ++ [((b : Nat) : Int)] else u) o = o ++ ints (q.filter fun b => decide (cnt b = most (pairs q1 q2))) := by
       intro q
       induction q with
       | nil => intro o; simp [ints]
       | cons a q ih =>
        intro o
        rw [List.foldl_cons, ih, List.filter_cons]
        split <;> simp [ints]
      rw [foldl_index p (fun (u : List Int) b => if (decide (cnt b = most (pairs q1 q2))) = true then u ++ [((b : Nat) : Int)] else u) [], fl, List.nil_append]
      refine Ev.step (f := fun _ => some ((m : Int), ints (p.filter fun b => decide (cnt b = most (pairs q1 q2))), true)) (fun k => ?_) (Ev.now _)
      rw [spec_UnionOf.l3, if_neg (by rw [ints_length]; omega)]
  have outer := Gen.ev_loop (fun k (s : List Nat) i => spec_UnionOf.l0 k (ints s) i (m : Int) (ints q1) (m : Int) (ints q2)) q1.length (fun i s => s ++ q2.map fun b => q1.getD i 0 ||| b) (fun i s => s.length ≤ i * 256) ((m : Int), ints (uni m q1 q2), true) (fun i s hi hP => ⟨?_, fun h => ?_⟩) q1.length 0 [] (by omega) (by simp) (fun _ => ?_)
  ·exact outer
  ·rw [List.length_append, List.length_map]
   omega
  ·have ha := hl1 _ (getD_mem q1 0 i hi)
   refine Ev.step (f := fun k => spec_UnionOf.l1 k (ints s) (i : Int) 0 (m : Int) (ints q1) (m : Int) (ints q2)) (fun k => ?_) ?_
   ·rw [spec_UnionOf.l0, if_pos (by rw [ints_length]; omega)]
   ·have inner := Gen.ev_loop (fun k (u : List Nat) j => spec_UnionOf.l1 k (ints u) (i : Int) j (m : Int) (ints q1) (m : Int) (ints q2)) q2.length (fun j u => u ++ [q1.getD i 0 ||| q2.getD j 0]) (fun j u => u.length ≤ i * 256 + j) ((m : Int), ints (uni m q1 q2), true) (fun j u hj hU => ⟨Nat.le_trans (Nat.le_of_eq (by rw [List.length_append, List.length_singleton])) (Nat.succ_le_succ hU), fun h => Ev.step (fun k => ?_) h⟩) q2.length 0 s (Nat.zero_add _) (Nat.le_trans (show s.length ≤ i * 256 from hP) (Nat.le_add_right _ _)) (fun _ => ?_)
    ·exact inner
    ·have hb := hl2 _ (getD_mem q2 0 j hj)
     rw [spec_UnionOf.l1, if_pos (by rw [ints_length]; omega), if_pos (by omega), if_pos (by rw [ints_length]; omega), if_pos (by omega), if_pos (by rw [ints_length]; omega), ints_rd, ints_rd, or_nat _ _ (by omega) (by omega), Gen.w64s j (by omega)]
     congr 1
     simp [ints]
    ·have fl : ∀ (q : List Nat) (o : List Nat), q.foldl (fun (u : List Nat) b => u ++ [q1.getD i 0 ||| b]) o = o ++ q.map fun b => q1.getD i 0 ||| b := by
      intro q
      induction q with
      | nil => intro o; simp
      | cons a q ih => intro o; rw [List.foldl_cons, ih]; simp
     rw [foldl_index q2 (fun (u : List Nat) b => u ++ [q1.getD i 0 ||| b]) s, fl]
     refine Ev.step (fun k => ?_) h
     rw [spec_UnionOf.l1, if_neg (by rw [ints_length]; omega), Gen.w64s i (by omega)]
  ·have fl : ∀ (q : List Nat) (o : List Nat), q.foldl (fun (u : List Nat) a => u ++ q2.map fun b => a ||| b) o = o ++ q.flatMap fun a => q2.map fun b => a ||| b := by
    intro q
    induction q with
    | nil => intro o; simp
    | cons a q ih => intro o; rw [List.foldl_cons, ih]; simp
   rw [foldl_index q1 (fun (u : List Nat) a => u ++ q2.map fun b => a ||| b) [], fl, List.nil_append]
   refine Ev.step (fun k => ?_) behind
   rw [spec_UnionOf.l0, if_neg (by rw [ints_length]; omega)]
   rfl
end Go.Proofs.Ytbjnkcfkhonkhaa.UnionP
end
section
namespace Go.Proofs.Ytbjnkcfkhonkhaa.Pure
open Go.RowKit Go.Proofs.Ytbjnkcfkhonkhaa.Pr Go.Proofs.Ytbjnkcfkhonkhaa.Base Go.Proofs.Ytbjnkcfkhonkhaa.Sets Go.Proofs.Ytbjnkcfkhonkhaa.Mat Go.Proofs.Ytbjnkcfkhonkhaa.UnionP Go.Proofs.YtbjnkcfkhonkhaaW.PrintWords Go.Proofs.YtbjnkcfkhonkhaaW.PrintLast Go.Proofs.YtbjnkcfkhonkhaaW.PrintMore
set_option linter.unusedVariables false
theorem heldMat (n : Int) (a : Int) (m : Nat) (hn : m ≤ 1048576) (h0 : 0 ≤ a) (h1 : a ≤ 2 ^ 50) : Ev (fun k => laws_heldMatroid.f k n (marks a m) a) (a + (m : Int)) := by
 unfold laws_heldMatroid.f
 refine Ev.bind (heldIntS a m hn h0 h1) ?_
 simp only [if_neg (show ¬ (a + (m : Int) < 0) by omega)]
 exact Ev.now _
theorem FnExactUnionOf (n1 : Int) (l1 : List Int) (n2 : Int) (l2 : List Int) (_ : (Lit.int .i64 n1).wf = true) (hm : l1.length ≤ maxLen ∧ ∀ x ∈ l1, (Lit.int .i64 x).wf = true) (_ : (Lit.int .i64 n2).wf = true) (hm2 : l2.length ≤ maxLen ∧ ∀ x ∈ l2, (Lit.int .i64 x).wf = true) : ∃ k, laws_FnExactUnionOf.f k n1 l1 n2 l2 = some true := by
 obtain ⟨z, hz, h⟩ := szMatroid n1 l1 1048576 hm.1 (by decide) (by decide)
 refine Ev.rounds ?_
 unfold laws_FnExactUnionOf.f
 rw [hz]
 simp only [Option.bind_some]
 by_cases hneg : z < 0
 ·simp only [if_pos hneg]
  exact Ev.now _
 simp only [if_neg hneg]
 obtain ⟨hl1, hz0, hz1⟩ := h.resolve_left hneg
 obtain ⟨y, hy, h⟩ := szMatroid n2 l2 z hm2.1 hz1 hz0
 rw [hy]
 simp only [Option.bind_some]
 by_cases hneg2 : y < 0
 ·simp only [if_pos hneg2]
  exact Ev.now _
 simp only [if_neg hneg2]
 obtain ⟨hl2, hy0, hy1⟩ := h.resolve_left hneg2
 have hU := uniI_length n1 l1 n2 l2
 have T1 := toMatroid n1 l1 hl1
 have T2 := toMatroid n2 l2 hl2
 have E1 := eqMatroid n1 l1 hl1
 have E2 := eqMatroid n2 l2 hl2
 have M1 := markMatroid n1 l1 1 hl1 (by decide) (by decide)
 have M2 := markMatroid n2 l2 (1 + (l1.length : Int)) hl2 (by omega) (by omega)
 have iU := implUni n1 l1 n2 l2 hl1 hl2
 have sU := specUni n1 l1 n2 l2 hl1 hl2
 generalize uniI n1 l1 n2 l2 = u at hU iU sU
 obtain ⟨un, ul, ub⟩ := u
 have hU' : ul.length ≤ 1048576 := Nat.le_trans hU (by decide)
 have EU := eqMatroid un ul hU'
 have MU := markMatroid un ul 1 hU' (by decide) (by decide)
 have HU := heldMat un 1 ul.length hU' (by decide) (by decide)
 have j2 : Ev (fun k => laws_FnExactUnionOf.j2 k (1 + (ul.length : Int)) false un (marks 1 ul.length)) true := by
  refine Ev.step (f := fun k => (laws_heldMatroid.f k un (marks 1 ul.length) 1).bind fun t => (if t < 0 then (some false) else (if t = 1 + (ul.length : Int) then (some true) else (some false)))) (fun k => ?_) ?_
  ·simp only [laws_FnExactUnionOf.j2]
   rw [if_neg (by decide)]
  ·refine Ev.bind HU ?_
   simp only [if_neg (show ¬ ((1 : Int) + (ul.length : Int) < 0) by omega), if_true]
   exact Ev.now _
 have j1 : Ev (fun k => laws_FnExactUnionOf.j1 k ub false n1 l1 n2 l2 un ul un ul) true := by
  refine Ev.step (f := fun k => ((laws_markMatroid.f k un ul 1).bind fun b => ((laws_heldMatroid.f k un b.2 1).bind fun t => (if t < 0 then (some false) else (if t = b.1 then ((laws_toMatroid.f k n1 l1).bind fun c => ((laws_toMatroid.f k n2 l2).bind fun d => ((impl_UnionOf.f k c.1 c.2 d.1 d.2).bind fun e => ((laws_eqMatroid.f k e.1 e.2.1 un ul).bind fun t' => (if t' = true then (laws_FnExactUnionOf.j2 k b.1 (e.2.2 != ub) un b.2) else (laws_FnExactUnionOf.j2 k b.1 true un b.2)))))) else (some false)))))) (fun k => ?_) ?_
  ·simp only [laws_FnExactUnionOf.j1]
   rw [if_neg (by decide)]
  ·refine Ev.bind MU (Ev.bind HU ?_)
   simp only [if_neg (show ¬ ((1 : Int) + (ul.length : Int) < 0) by omega), if_true]
   refine Ev.bind T1 (Ev.bind T2 (Ev.bind iU (Ev.bind EU ?_)))
   simp only [if_true, bne_self_eq_false]
   exact j2
 have j0 : Ev (fun k => laws_FnExactUnionOf.j0 k ub ub false n1 l1 n2 l2 un ul n1 l1 n2 l2 un ul) true := by
  refine Ev.step (f := fun k => ((laws_toMatroid.f k n1 l1).bind fun a => ((laws_eqMatroid.f k n1 l1 a.1 a.2).bind fun t => (if t = true then ((laws_toMatroid.f k n2 l2).bind fun b => ((laws_eqMatroid.f k n2 l2 b.1 b.2).bind fun t' => (if t' = true then ((laws_markMatroid.f k n1 l1 1).bind fun c => ((laws_markMatroid.f k n2 l2 c.1).bind fun d => (if d.1 < 0 then (laws_FnExactUnionOf.j1 k ub true n1 l1 n2 l2 un ul un ul) else ((laws_eqMatroid.f k un ul un ul).bind fun e => (if e = true then (laws_FnExactUnionOf.j1 k ub (ub != ub) n1 l1 n2 l2 un ul un ul) else (laws_FnExactUnionOf.j1 k ub true n1 l1 n2 l2 un ul un ul)))))) else (some false)))) else (some false))))) (fun k => ?_) ?_
  ·simp only [laws_FnExactUnionOf.j0]
   rw [if_neg (by decide)]
  ·refine Ev.bind T1 (Ev.bind E1 ?_)
   simp only [if_true]
   refine Ev.bind T2 (Ev.bind E2 ?_)
   simp only [if_true]
   refine Ev.bind M1 (Ev.bind M2 ?_)
   simp only [if_neg (show ¬ ((1 : Int) + (l1.length : Int) + (l2.length : Int) < 0) by omega)]
   refine Ev.bind EU ?_
   simp only [if_true, bne_self_eq_false]
   exact j1
 refine Ev.bind T1 (Ev.bind T2 (Ev.bind sU (Ev.bind T1 (Ev.bind T2 (Ev.bind iU (Ev.bind EU ?_))))))
 simp only [if_true, bne_self_eq_false]
 exact j0
end Go.Proofs.Ytbjnkcfkhonkhaa.Pure
end
section
namespace Go.Proofs.Ytbjnkcfkhonkhaa.Open
open Go.ChangeShapes Go.WideShapes Go.RowKit Go.Proofs.YtbjnkcfkhonkhaaW.PrintWords Go.Deep
set_option linter.unusedVariables false
structure Opens {α : Type} (P : Program) (d : Kd α) (t : TypeId) (Wf : α → Prop) : Prop where
 go : ∀ (H : Type) (enc : TypeId × Value → H) (w : World) (base : Nat) (spare : Nat → Bool) (held : Bool) (fuel : Nat) (cs : List Value) (x : DataW H × List MemPlace),
  DataW.trod enc P w base spare held fuel t cs = some x → ∃ a, d.K w a cs ∧ Wf a
theorem Opens.int {P : Program} {t : TypeId} {k : IntKind} (ht : P.underlying t = some (.int k)) : Opens P (Kd.int k) t (fun n => (Lit.int k n).wf = true) := by
 refine ⟨fun H enc w base spare held fuel cs x h => ?_⟩
 obtain ⟨n, rfl, _, hw⟩ := DataW.trod_int ht h
 exact ⟨n, rfl, hw⟩
theorem Opens.bool {P : Program} {t : TypeId} (ht : P.underlying t = some .bool) : Opens P Kd.bool t (fun _ => True) := by
 refine ⟨fun H enc w base spare held fuel cs x h => ?_⟩
 obtain ⟨n, rfl, _⟩ := DataW.trod_bool ht h
 exact ⟨n, rfl, trivial⟩
theorem list_of {α : Type} {p : Nat → α → Prop} : ∀ {len : Nat}, (∀ i, i < len → ∃ y, p i y) → ∃ xs : List α, xs.length = len ∧ ∀ i y, xs[i]? = some y → p i y := by
 intro len
 induction len with
 | zero => exact fun _ => ⟨[], rfl, fun i y h => by simp at h⟩
 | succ len ih =>
  intro key
  obtain ⟨xs, hxl, hxs⟩ := ih (fun i hi => key i (by omega))
  obtain ⟨y, hy⟩ := key len (by omega)
  refine ⟨xs ++ [y], by simp [hxl], fun i z hz => ?_⟩
  by_cases hi : i < xs.length
  ·rw [List.getElem?_append_left hi] at hz
   exact hxs i z hz
  ·have hlt : i < (xs ++ [y]).length := (List.getElem?_eq_some_iff.1 hz).1
   have e : i = len := by simp [hxl] at hlt hi; omega
   subst e
   rw [List.getElem?_append_right (by omega), hxl] at hz
   simp at hz
   subst hz
   exact hy
theorem Opens.slice {α : Type} {P : Program} {t e : TypeId} {d : Kd α} {Wf : α → Prop} (ht : P.underlying t = some (.slice e)) (hs : P.cellsOf e = d.sz) (h : Opens P d e Wf) :
  Opens P (Kd.slice e d) t (fun xs => xs.length ≤ maxLen ∧ ∀ x ∈ xs, Wf x) := by
 refine ⟨fun H enc w base spare held fuel cs x hx => ?_⟩
 rcases open_slice ht hx with ⟨rfl, _⟩ | ⟨a, len, cap, m, n, D, Pl, rfl, hb, hl, hm, hmm, _, hel⟩
 ·exact ⟨[], ⟨none, 0, rfl, Nat.le_refl _, rfl, by simp, fun h => absurd h (by simp)⟩, by simp, by simp⟩
 ·have hlm : len ≤ m := by rw [hmm]; split <;> omega
  have key : ∀ i, i < len → ∃ y : α, (∃ cs', w.cells? base (a.add (i * P.cellsOf e)) (P.cellsOf e) = some cs' ∧ d.K w y cs') ∧ Wf y := fun i hi => by
   obtain ⟨cs', h1, h2⟩ := hel i (by omega)
   obtain ⟨y, h3, h4⟩ := h.go _ enc w base spare held n cs' _ h2
   exact ⟨y, ⟨cs', h1, h3⟩, h4⟩
  obtain ⟨xs, hxl, hxs⟩ := list_of key
  refine ⟨xs, ⟨some a, cap, by rw [hxl], by omega, rfl, by have := hm; unfold maxLen at this; omega, fun _ => ⟨a, rfl, fun j p hj => ?_⟩⟩, by omega, fun y hy => ?_⟩
  ·obtain ⟨⟨cs', h1, h2⟩, _⟩ := hxs j p hj
   obtain ⟨_, h3, h4⟩ := World.cells?_some h1
   refine ⟨cs', by rw [h3, hs], h2, fun i u hu => ?_⟩
   have hlt : i < cs'.length := (List.getElem?_eq_some_iff.1 hu).1
   have := h4 i (by omega)
   rw [hs, Go.Deep.add_add] at this
   rw [this, hu]
  ·obtain ⟨i, hi⟩ := List.getElem?_of_mem hy
   exact (hxs i y hi).2
structure OpensFs {α : Type} (P : Program) (fs : List Field) (off : Nat) (d : Kd α) (Wf : α → Prop) : Prop where
 go : ∀ (H : Type) (enc : TypeId × Value → H) (w : World) (base : Nat) (spare : Nat → Bool) (held : Bool) (n : Nat) (cs : List Value),
  cs.length = off + d.sz → (∀ f ∈ fs, ∃ x, DataW.trod enc P w base spare held n f.type ((cs.drop f.offset).take (P.cellsOf f.type)) = some x) → ∃ a, d.K w a (cs.drop off) ∧ Wf a
theorem OpensFs.one {α : Type} {P : Program} {f : Field} {off : Nat} {d : Kd α} {Wf : α → Prop} (ho : f.offset = off) (hs : P.cellsOf f.type = d.sz) (h : Opens P d f.type Wf) : OpensFs P [f] off d Wf := by
 refine ⟨fun H enc w base spare held n cs hl hf => ?_⟩
 obtain ⟨x, hx⟩ := hf f (by simp)
 rw [ho, hs, List.take_of_length_le (by rw [List.length_drop]; omega)] at hx
 exact h.go _ enc w base spare held n _ x hx
theorem OpensFs.cons {α β : Type} {P : Program} {f : Field} {fs : List Field} {off : Nat} {d : Kd α} {d' : Kd β} {Wf : α → Prop} {Wf' : β → Prop} (ho : f.offset = off) (hs : P.cellsOf f.type = d.sz) (h : Opens P d f.type Wf)
  (h' : OpensFs P fs (off + d.sz) d' Wf') : OpensFs P (f :: fs) off (Kd.pair d d') (fun x => Wf x.1 ∧ Wf' x.2) := by
 refine ⟨fun H enc w base spare held n cs hl hf => ?_⟩
 have hl' : cs.length = off + (d.sz + d'.sz) := hl
 obtain ⟨x, hx⟩ := hf f (by simp)
 rw [ho, hs] at hx
 obtain ⟨a, ha, wa⟩ := h.go _ enc w base spare held n _ x hx
 obtain ⟨b, hb, wb⟩ := h'.go _ enc w base spare held n cs (by omega) (fun g hg => hf g (by simp [hg]))
 refine ⟨(a, b), ⟨(cs.drop off).take d.sz, cs.drop (off + d.sz), ?_, ha, hb⟩, wa, wb⟩
 rw [← List.drop_drop, List.take_append_drop]
theorem Opens.struct {α : Type} {P : Program} {t : TypeId} {fs : Array Field} {d : Kd α} {Wf : α → Prop} (ht : P.underlying t = some (.struct fs)) (hs : P.cellsOf t = d.sz) (h : OpensFs P fs.toList 0 d Wf) : Opens P d t Wf := by
 refine ⟨fun H enc w base spare held fuel cs x hx => ?_⟩
 obtain ⟨xs, n, _, _, hl, hlen, hg⟩ := DataW.trod_struct ht hx
 obtain ⟨a, ha, wa⟩ := h.go _ enc w base spare held n cs (by omega) (fun f hf => by
  obtain ⟨i, hi⟩ := List.getElem?_of_mem hf
  have h1 := hg i f (by simpa using hi)
  have hlt : i < fs.size := by have := (List.getElem?_eq_some_iff.1 hi).1; simpa using this
  exact ⟨_, h1.trans (List.getElem?_eq_getElem (by omega))⟩)
 exact ⟨a, by simpa using ha, wa⟩
theorem Opens.argStruct {α : Type} {P : Program} {t : TypeId} {d : Kd α} {Wf : α → Prop} (h : Opens P d t Wf) {H : Type} {enc : TypeId × Value → H} {w : World} {base : Nat} {spare : Nat → Bool} {held : Bool} {v : Value} {x : DataW H} {ps : List MemPlace}
  (hv : ∃ cs, v = .agg cs ∧ cs.size = P.cellsOf t) (ht : DataW.Trod enc P w base spare held t v x ps) : ∃ cs a, v = .agg cs.toArray ∧ d.K w a cs ∧ Wf a := by
 obtain ⟨cs, rfl, _⟩ := hv
 obtain ⟨fuel, hf⟩ := ht
 obtain ⟨a, ha, wf⟩ := h.go _ enc w base spare held fuel _ _ hf
 exact ⟨cs.toList, a, by simp, ha, wf⟩
end Go.Proofs.Ytbjnkcfkhonkhaa.Open
end
section
namespace Go.Proofs.Ytbjnkcfkhonkhaa.fnExactUnionOf
open Go.ChangeShapes Go.WideShapes Go.ChangeAt Go.RowKit Go.Proofs.Ytbjnkcfkhonkhaa.Open Go.Proofs.YtbjnkcfkhonkhaaW.PrintWords
open Go.ChangeMaps (open_string shut_string)
set_option linter.unusedVariables false
theorem own : ownKnob Try.prog.godebug = none := by kernel_rfl
theorem laidOut : laidOutB Try.prog = true := by kernel_rfl
set_option maxRecDepth 100000 in
theorem lifted (os : Os) (started : os.Started) (H : Type) (enc : TypeId × Value → H) :
  ReturnsInHanded {} Try.checked os 9 .any (Rows.fnExactUnionOfSpec.pre6 enc Try.prog Try.f9 Rows.fnExactUnionOfRow.domain false) (Rows.fnExactUnionOfSpec.post enc Try.prog Try.f9 false true false false) := by
 refine returnsInHanded_of_change_sized (C := Try.checked) own started (by kernel_rfl) Try.func9
  (ChangeSpec.witness6 (enc := enc) (C := Try.checked) false ⟨#[], #[.agg #[.int .i64 0, .slice none 0 0], .agg #[.int .i64 0, .slice none 0 0]], []⟩ 8 (by kernel_rfl) (by kernel_rfl) (by kernel_rfl) (by kernel_rfl)) ?_
 intro W base args ds gs before hval0 hW hcnd hsz0 _
 have hval : ∀ (j : Nat) t v, Try.f9.params[j]? = some t → args[j]? = some v → Value.okWide Try.prog W .any base t v := hval0
 have hW' := hW
 obtain ⟨p, q, hA0, hV, rfl, hfz, hnd⟩ := hW
 have hA : DataW.TrodAll enc Try.prog W 0 (fun _ => true) true Try.f9.params.toList args.toList ds p := hA0
 rw [Try.params9] at hA hval
 obtain ⟨v0, vs0, d0, ds0, p0, q0, hargs, rfl, rfl, h0, r0⟩ := trodAll_cons hA
 obtain ⟨v1, vs1, d1, ds1, p1, q1, rfl, rfl, rfl, h1, r1⟩ := trodAll_cons r0
 obtain ⟨rfl, rfl, rfl⟩ := trodAll_nil r1
 obtain rfl : args = #[v0, v1] := by cases args; simp_all
 obtain ⟨rfl, rfl⟩ := trodVars_none hV
 have k0 := h0
 have lt0 : ∀ x ∈ p0, x.block < W.heap.size := by obtain ⟨m, hm⟩ := k0; exact DataW.trod_lt m _ _ _ hm
 obtain ⟨cs0, x0, rfl, K0, w0⟩ := Opens.argStruct (Opens.struct Try.underlying42 (by kernel_rfl) (OpensFs.cons rfl (by kernel_rfl) (Opens.int Try.underlying3) (OpensFs.one rfl (by kernel_rfl) (Opens.slice Try.underlying31 (by kernel_rfl) (Opens.int Try.underlying3))))) (okWide_struct Try.underlying42 (hval 0 42 v0 rfl rfl)) h0
 obtain ⟨_, _, rfl, rfl, ⟨A0_1, c0_1, rfl, hl0_1, hr0_1⟩⟩ := K0
 obtain ⟨w0_0, w0_1⟩ := w0
 have k1 := h1
 have lt1 : ∀ x ∈ p1, x.block < W.heap.size := by obtain ⟨m, hm⟩ := k1; exact DataW.trod_lt m _ _ _ hm
 obtain ⟨cs1, x1, rfl, K1, w1⟩ := Opens.argStruct (Opens.struct Try.underlying42 (by kernel_rfl) (OpensFs.cons rfl (by kernel_rfl) (Opens.int Try.underlying3) (OpensFs.one rfl (by kernel_rfl) (Opens.slice Try.underlying31 (by kernel_rfl) (Opens.int Try.underlying3))))) (okWide_struct Try.underlying42 (hval 1 42 v1 rfl rfl)) h1
 obtain ⟨_, _, rfl, rfl, ⟨A1_1, c1_1, rfl, hl1_1, hr1_1⟩⟩ := K1
 obtain ⟨w1_0, w1_1⟩ := w1
 clear hA0 hval0 hsz0
 obtain ⟨k, hk⟩ := Pure.FnExactUnionOf x0.1 x0.2 x1.1 x1.2 w0_0 w0_1 w1_0 w1_1
 refine (Pr.laws_FnExactUnionOf.calls k x0.1 _ _ x0.2 x1.1 _ _ x1.2 true W hr0_1 hl0_1 hr1_1 hl1_1 ⟨rfl⟩ hk).mono fun e W' ⟨he, bel⟩ => ?_
 subst he
 exact ⟨_, rfl, _, _, _, [], _, [], hW', trodAll_mk1 (shut_bool Try.underlying4 _), (trodAll_cons_mk (Below.trod laidOut (by kernel_rfl) (of_decide_eq_true (by kernel_rfl)) k0 bel lt0) (trodAll_cons_mk (Below.trod laidOut (by kernel_rfl) (of_decide_eq_true (by kernel_rfl)) k1 bel lt1) trodAll_mk0)), rfl, bel.frame _, fun h => by cases h⟩
theorem over : Rows.fnExactUnionOfRow.holds Try.pinned (OpenSpec.ofChange Rows.fnExactUnionOfSpec) :=
 OpenClaim.holds_of_wide 9 Try.f9 rfl rfl rfl rfl rfl rfl rfl ⟨rfl, rfl, rfl, rfl, rfl⟩ rfl rfl rfl rfl rfl (by kernel_rfl) Try.func9 (by kernel_rfl)
  (of_decide_eq_true (by kernel_rfl)) (by unfold Func.isWrapper; first | (rw [if_pos (by decide +kernel)]; kernel_rfl) | (rw [if_neg (by decide +kernel)]; exact ⟨rfl, rfl⟩))
  (fun os started H enc _ => lifted os started H enc)
theorem proved : Rows.FnExactUnionOfSaid := over
#print axioms proved
end Go.Proofs.Ytbjnkcfkhonkhaa.fnExactUnionOf
namespace Go.Proofs.Ytbjnkcfkhonkhaa
theorem fnExactUnionOf_holds : Rows.FnExactUnionOfSaid := fnExactUnionOf.proved
end Go.Proofs.Ytbjnkcfkhonkhaa
end
