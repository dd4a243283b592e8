/- The claim FnExactInternalActivity: every text that its row comes to, laid together by slim.py (the words of the kit's print, the printed walks, the pure law, the row). -/
import Derived.Below
import Derived.ChangeArms
import Derived.ChangeOld
import Derived.DataReads
import Derived.Deep.Slices
import Derived.OpenShut
import Derived.ProofKit
import Derived.ShutString
import Derived.SizedLaws
import Derived.Test.YtaepaekagenfnaaRows
import Derived.WalkKit
import Derived.Test.YtaepaekagenfnaaYFnExactInternalActivity3
section
namespace Go.Proofs.Ytaepaekagenfnaa.Base
open Go.RowKit Go.Proofs.Ytaepaekagenfnaa.Pr Go.Proofs.YtaepaekagenfnaaW.PrintWords Go.Proofs.YtaepaekagenfnaaW.PrintLast Go.Proofs.YtaepaekagenfnaaW.PrintMore
theorem szIntS (xs : List Int) (left : Int) (hm : xs.length ≤ maxLen) (h1 : left ≤ 1048576) (h0 : 0 ≤ left) : ∃ z, laws_szIntS.f xs left = some z ∧ (z < 0 ∨ (xs.length ≤ 1048576 ∧ 0 ≤ z ∧ z ≤ left)) := by
  unfold maxLen at hm
  unfold laws_szIntS.f
  rw [Gen.w64 (by omega) (by omega)]
  by_cases h : left - (xs.length : Int) < 0
  · exact ⟨-1, by rw [if_pos h], .inl (by omega)⟩
  · exact ⟨_, by rw [if_neg h], .inr ⟨by omega, by omega, by omega⟩⟩
theorem szMatroid (n : Int) (xs : List Int) (left : Int) (hm : xs.length ≤ maxLen) (h1 : left ≤ 1048576) (h0 : 0 ≤ left) : ∃ z, laws_szMatroid.f n xs left = some z ∧ (z < 0 ∨ (xs.length ≤ 1048576 ∧ 0 ≤ z ∧ z ≤ left)) := by
  obtain ⟨z, hz, h⟩ := szIntS xs left hm h1 h0
  unfold laws_szMatroid.f
  rw [hz]
  simp only [Option.bind_some]
  by_cases hn : z < 0
  · exact ⟨-1, by rw [if_pos hn], .inl (by omega)⟩
  · exact ⟨z, by rw [if_neg hn], h⟩
theorem toIntSE (xs : List Int) (hn : xs.length ≤ 1048576) : Ev (fun k => laws_toIntS.f k xs) xs := Gen.ev_at (xs.length + 1) (fun k hk => toIntS xs hn k (by omega))
theorem eqIntSE (xs : List Int) (hn : xs.length ≤ 1048576) : Ev (fun k => laws_eqIntS.f k xs xs) true := Gen.ev_at (xs.length + 1) (fun k hk => eqIntS xs hn k (by omega))
theorem toMatroid (n : Int) (xs : List Int) (hn : xs.length ≤ 1048576) : Ev (fun k => laws_toMatroid.f k n xs) (n, xs) := by
  unfold laws_toMatroid.f
  exact Ev.bind (toIntSE xs hn) (Ev.now _)
theorem eqMatroid (n : Int) (xs : List Int) (hn : xs.length ≤ 1048576) : Ev (fun k => laws_eqMatroid.f k n xs n xs) true := by
  unfold laws_eqMatroid.f
  simp only [if_true]
  exact Ev.bind (eqIntSE xs hn) (Ev.now _)
end Go.Proofs.Ytaepaekagenfnaa.Base
end
section
namespace Go.Proofs.Ytaepaekagenfnaa.Sets
open Go.RowKit Go.Proofs.YtaepaekagenfnaaW.PrintWords Go.Proofs.YtaepaekagenfnaaW.PrintMore
theorem ev_search {γ : Type} (L : Nat → Int → Option γ) (n : Nat) (p : Nat → Bool) (S : γ → Prop)
    (hyes : ∀ i, i < n → p i = true → ∃ r, S r ∧ Ev (fun k => L k (i : Int)) r)
    (hno : ∀ i, i < n → p i = false → ∀ r, Ev (fun k => L k ((i + 1 : Nat) : Int)) r → Ev (fun k => L k (i : Int)) r) :
    ∀ d i : Nat, i + d = n → ((List.range' i d).any p = true → ∃ r, S r ∧ Ev (fun k => L k (i : Int)) r) ∧ ((List.range' i d).any p = false → ∀ r, Ev (fun k => L k (n : Int)) r → Ev (fun k => L k (i : Int)) r) := by
  intro d
  induction d with
  | zero =>
    intro i hi
    obtain rfl : i = n := by omega
    exact ⟨fun h => by simp at h, fun _ r h => h⟩
  | succ d ih =>
    intro i hi
    obtain ⟨h1, h2⟩ := ih (i + 1) (by omega)
    rw [List.range'_succ, List.any_cons]
    cases hp : p i with
    | true => exact ⟨fun _ => hyes i (by omega) hp, fun h => by simp at h⟩
    | false =>
      refine ⟨fun h => ?_, fun h r hr => hno i (by omega) hp r (h2 (by simpa using h) r hr)⟩
      obtain ⟨r, hr, hE⟩ := h1 (by simpa using h)
      exact ⟨r, hr, hno i (by omega) hp r hE⟩
theorem wraps_i64 (n : Int) (h0 : 0 ≤ n) (h1 : n < 2 ^ 62) : IntKind.i64.wrap n = n := by
  rw [IntKind.wrap_i64]
  omega
theorem and_nat (a b : Nat) (ha : a < 2 ^ 62) (hb : b < 2 ^ 62) : Go.bits .and .i64 (a : Int) (b : Int) = ((a &&& b : Nat) : Int) := (bits_nat .i64 62 (by decide) wraps_i64 a b ha hb).1
theorem or_nat (a b : Nat) (ha : a < 2 ^ 62) (hb : b < 2 ^ 62) : Go.bits .or .i64 (a : Int) (b : Int) = ((a ||| b : Nat) : Int) := (bits_nat .i64 62 (by decide) wraps_i64 a b ha hb).2
def diff (a b : Nat) : Nat := a ^^^ (a &&& b)
theorem diff_bit (a b i : Nat) : (diff a b).testBit i = (a.testBit i && !b.testBit i) := by
  unfold diff
  rw [Nat.testBit_xor, Nat.testBit_and]
  cases a.testBit i <;> cases b.testBit i <;> rfl
theorem diff_lt {a b : Nat} {n : Nat} (ha : a < 2 ^ n) : diff a b < 2 ^ n := by
  apply Nat.lt_pow_two_of_testBit
  intro i hi
  rw [diff_bit, Nat.testBit_lt_two_pow (Nat.lt_of_lt_of_le ha (Nat.pow_le_pow_right (by decide) hi))]
  rfl
theorem andNot_nat (a b : Nat) (ha : a < 2 ^ 62) : Go.bits .andNot .i64 (a : Int) (b : Int) = ((diff a b : Nat) : Int) := by
  have h64 : (2 : Nat) ^ 62 ≤ 2 ^ 64 := by decide
  have key : (BitVec.ofNat 64 a &&& ~~~(BitVec.ofNat 64 b)).toNat = diff a b := by
    apply Nat.eq_of_testBit_eq
    intro i
    rw [diff_bit, BitVec.testBit_toNat, BitVec.getLsbD_and, BitVec.getLsbD_not, BitVec.getLsbD_ofNat, BitVec.getLsbD_ofNat]
    by_cases hi : i < 64
    · simp [hi]
    · have : a.testBit i = false := Nat.testBit_lt_two_pow (Nat.lt_of_lt_of_le ha (Nat.pow_le_pow_right (by decide) (by omega)))
      simp [hi, this]
  show IntKind.i64.wrap ((BitVec.ofInt 64 (a : Int) &&& ~~~(BitVec.ofInt 64 (b : Int))).toNat : Int) = _
  have e1 : BitVec.ofInt 64 (a : Int) = BitVec.ofNat 64 a := by simp
  have e2 : BitVec.ofInt 64 (b : Int) = BitVec.ofNat 64 b := by simp
  rw [e1, e2, key]
  have := diff_lt (b := b) ha
  exact wraps_i64 _ (by omega) (by exact_mod_cast this)
theorem shl_nat (e : Nat) (he : e < 62) : shl .i64 1 (e : Int) = ((2 ^ e : Nat) : Int) := by
  unfold shl
  have h1 : min ((e : Int)).toNat IntKind.i64.bits = e := by
    show min e 64 = e
    omega
  rw [h1, Int.one_mul]
  have h2 : (2 : Nat) ^ e < 2 ^ 62 := Nat.pow_lt_pow_right (by decide) he
  rw [wraps_i64 _ (by exact_mod_cast Nat.zero_le _) (by exact_mod_cast h2)]
  push_cast
  rfl
theorem shr_bit (a e : Nat) (he : e < 62) (ha : a < 2 ^ 62) : ((Go.bits .and .i64 (shr .i64 (a : Int) (e : Int)) 1) == 1) = a.testBit e := by
  unfold shr
  have h1 : min ((e : Int)).toNat IntKind.i64.bits = e := by
    show min e 64 = e
    omega
  rw [h1]
  have h2 : ((a : Int) / 2 ^ e) = ((a / 2 ^ e : Nat) : Int) := by push_cast; rfl
  have h3 : a / 2 ^ e < 2 ^ 62 := Nat.lt_of_le_of_lt (Nat.div_le_self _ _) ha
  rw [h2, show (1 : Int) = ((1 : Nat) : Int) from rfl, and_nat _ 1 h3 (by decide), Nat.testBit_eq_decide_div_mod_eq, Nat.and_one_is_mod]
  by_cases h : a / 2 ^ e % 2 = 1
  · simp [h]
  · have h4 : a / 2 ^ e % 2 = 0 := by omega
    simp [h4]
theorem bit_far {a n e : Nat} (ha : a < 2 ^ n) (he : n ≤ e) : a.testBit e = false := Nat.testBit_lt_two_pow (Nat.lt_of_lt_of_le ha (Nat.pow_le_pow_right (by decide) he))
theorem swap_eq : ∀ a, a < 256 → ∀ e, e < 8 → ∀ f, f < 8 → a.testBit e = true → a.testBit f = false → diff a (2 ^ e) ||| 2 ^ f = a - 2 ^ e + 2 ^ f := by decide +kernel
theorem bit_le : ∀ a, a < 256 → ∀ e, e < 8 → a.testBit e = true → 2 ^ e ≤ a := by decide +kernel
def elems (s : Nat) : List Nat := (List.range' 0 8).filter fun j => s.testBit j
def exch (l : List Nat) (a b e : Nat) : Bool := (List.range' 0 8).any fun f => b.testBit f && !a.testBit f && l.contains (a - 2 ^ e + 2 ^ f)
def fails (l : List Nat) : Bool := l.any fun a => l.any fun b => (List.range' 0 8).any fun e => a.testBit e && !b.testBit e && !exch l a b e
def ints (l : List Nat) : List Int := l.map fun j : Nat => (j : Int)
theorem ints_length (l : List Nat) : (ints l).length = l.length := by simp [ints]
theorem ints_getD (l : List Nat) (i : Nat) : (ints l).getD i 0 = ((l.getD i 0 : Nat) : Int) := by
  by_cases h : i < l.length
  · simp [ints, List.getD, h]
  · simp [ints, List.getD, h]
theorem ints_rd (l : List Nat) (i : Nat) : rd (ints l) (i : Int) = ((l.getD i 0 : Nat) : Int) := by rw [Gen.rd_nat, ints_getD]
theorem ints_contains (l : List Nat) (x : Nat) : (ints l).contains (x : Int) = l.contains x := by
  rw [Bool.eq_iff_iff]
  simp only [ints, List.contains_eq_mem, List.mem_map, decide_eq_true_eq]
  constructor
  · rintro ⟨a, h, e⟩
    obtain rfl : a = x := by omega
    exact h
  · exact fun h => ⟨x, h, rfl⟩
theorem any_index {α : Type} (l : List α) (d : α) (p : α → Bool) : ((List.range' 0 l.length).any fun i => p (l.getD i d)) = l.any p := by
  rw [Bool.eq_iff_iff]
  simp only [List.any_eq_true]
  constructor
  · rintro ⟨i, hi, hp⟩
    have hlt : i < l.length := by have := List.mem_range'_1.1 hi; omega
    refine ⟨l[i], List.getElem_mem hlt, ?_⟩
    simpa [List.getD, hlt] using hp
  · rintro ⟨x, hx, hp⟩
    obtain ⟨i, hi, rfl⟩ := List.getElem_of_mem hx
    exact ⟨i, List.mem_range'_1.2 (by omega), by simpa [List.getD, hi] using hp⟩
theorem any_more (p : Nat → Bool) (m d : Nat) (h : ∀ j, m ≤ j → p j = false) : (List.range' 0 (m + d)).any p = (List.range' 0 m).any p := by
  rw [← List.range'_append_1, List.any_append]
  have : (List.range' (0 + m) d).any p = false := by
    rw [List.any_eq_false]
    intro j hj
    have := List.mem_range'_1.1 hj
    rw [h j (by omega)]
    decide
  rw [this, Bool.or_false]
theorem range8 (m : Nat) (hm : m ≤ 8) (p : Nat → Bool) (h : ∀ j, m ≤ j → p j = false) : (List.range' 0 m).any p = (List.range' 0 8).any p := by
  have := any_more p m (8 - m) h
  rw [show m + (8 - m) = 8 by omega] at this
  exact this.symm
theorem elems_any (s : Nat) (q : Nat → Bool) : (elems s).any q = (List.range' 0 8).any fun j => s.testBit j && q j := by
  unfold elems
  rw [List.any_filter]
theorem elems_lt {s j : Nat} (h : j ∈ elems s) : j < 8 ∧ s.testBit j = true := by
  unfold elems at h
  obtain ⟨h1, h2⟩ := List.mem_filter.1 h
  have := List.mem_range'_1.1 h1
  exact ⟨by omega, h2⟩
theorem elems_length (s : Nat) : (elems s).length ≤ 8 := by
  unfold elems
  exact Nat.le_trans (List.length_filter_le _ _) (by simp)
theorem pow_le_256 {m : Nat} (hm : m ≤ 8) : (2 : Nat) ^ m ≤ 256 := Nat.pow_le_pow_right (n := 2) (by decide) hm
theorem swap_le : ∀ a, a < 256 → ∀ e, e < 8 → ∀ f, f < 8 → a.testBit e = true → a.testBit f = false → a - 2 ^ e + 2 ^ f < 256 := by decide +kernel
theorem getD_mem {α : Type} (l : List α) (d : α) (i : Nat) (h : i < l.length) : l.getD i d ∈ l := by
  have : l.getD i d = l[i] := by simp [List.getD, h]
  rw [this]
  exact List.getElem_mem h
end Go.Proofs.Ytaepaekagenfnaa.Sets
end
section
namespace Go.Proofs.Ytaepaekagenfnaa.Sort
open Go.RowKit Go.Proofs.Ytaepaekagenfnaa.Pr Go.Proofs.Ytaepaekagenfnaa.Sets Go.Proofs.YtaepaekagenfnaaW.PrintWords Go.Proofs.YtaepaekagenfnaaW.PrintLast Go.Proofs.YtaepaekagenfnaaW.PrintMore
set_option linter.unusedVariables false
def ins (x : Int) : List Int → List Int
  | [] => [x]
  | a :: l => if a < x then a :: ins x l else if a = x then a :: l else x :: a :: l
def sset (l : List Int) : List Int := l.foldl (fun out x => ins x out) []
theorem mem_ins (x y : Int) (l : List Int) : y ∈ ins x l ↔ y = x ∨ y ∈ l := by
  induction l with
  | nil => simp [ins]
  | cons a l ih =>
    unfold ins
    split
    · simp only [List.mem_cons, ih]
      constructor
      · rintro (h | h | h) <;> simp [h]
      · rintro (h | h | h) <;> simp [h]
    · split
      · rename_i h
        subst h
        simp
      · simp
theorem ins_sorted (x : Int) (l : List Int) (h : l.Pairwise (· < ·)) : (ins x l).Pairwise (· < ·) := by
  induction l with
  | nil => simp [ins]
  | cons a l ih =>
    obtain ⟨h1, h2⟩ := List.pairwise_cons.1 h
    unfold ins
    split
    · rename_i hlt
      refine List.pairwise_cons.2 ⟨fun y hy => ?_, ih h2⟩
      rcases (mem_ins x y l).1 hy with rfl | hy
      · exact hlt
      · exact h1 y hy
    · split
      · exact h
      · rename_i ha hb
        refine List.pairwise_cons.2 ⟨fun y hy => ?_, h⟩
        rcases List.mem_cons.1 hy with rfl | hy
        · omega
        · have := h1 y hy
          omega
theorem ins_length (x : Int) (l : List Int) : (ins x l).length ≤ l.length + 1 := by
  induction l with
  | nil => simp [ins]
  | cons a l ih =>
    unfold ins
    split
    · simp only [List.length_cons]; omega
    · split <;> simp
theorem foldl_ins (l out : List Int) (ho : out.Pairwise (· < ·)) : (l.foldl (fun out x => ins x out) out).Pairwise (· < ·) ∧ (∀ y, y ∈ l.foldl (fun out x => ins x out) out ↔ y ∈ out ∨ y ∈ l) ∧ (l.foldl (fun out x => ins x out) out).length ≤ out.length + l.length := by
  induction l generalizing out with
  | nil => exact ⟨ho, fun y => by simp, by simp⟩
  | cons a l ih =>
    rw [List.foldl_cons]
    obtain ⟨h1, h2, h3⟩ := ih (ins a out) (ins_sorted a out ho)
    refine ⟨h1, fun y => ?_, ?_⟩
    · rw [h2 y, mem_ins, List.mem_cons]
      constructor
      · rintro ((h | h) | h) <;> simp [h]
      · rintro (h | h | h) <;> simp [h]
    · have := ins_length a out
      simp only [List.length_cons]
      omega
theorem sset_sorted (l : List Int) : (sset l).Pairwise (· < ·) := (foldl_ins l [] List.Pairwise.nil).1
theorem mem_sset (l : List Int) (y : Int) : y ∈ sset l ↔ y ∈ l := by
  have := (foldl_ins l [] List.Pairwise.nil).2.1 y
  simpa [sset] using this
theorem sset_length (l : List Int) : (sset l).length ≤ l.length := by
  have := (foldl_ins l [] List.Pairwise.nil).2.2
  simpa [sset] using this
theorem same_of (a b : List Int) (ha : a.Pairwise (· < ·)) (hb : b.Pairwise (· < ·)) (h : ∀ x, x ∈ a ↔ x ∈ b) : a = b := by
  induction a generalizing b with
  | nil =>
    cases b with
    | nil => rfl
    | cons y b => exact absurd ((h y).2 (by simp)) (by simp)
  | cons x a ih =>
    cases b with
    | nil => exact absurd ((h x).1 (by simp)) (by simp)
    | cons y b =>
      obtain ⟨a1, a2⟩ := List.pairwise_cons.1 ha
      obtain ⟨b1, b2⟩ := List.pairwise_cons.1 hb
      have hxy : x = y := by
        rcases List.mem_cons.1 ((h x).1 (by simp)) with e | e
        · exact e
        · rcases List.mem_cons.1 ((h y).2 (by simp)) with e' | e'
          · exact e'.symm
          · have := b1 x e
            have := a1 y e'
            omega
      subst hxy
      congr 1
      refine ih b a2 b2 fun z => ⟨fun hz => ?_, fun hz => ?_⟩
      · rcases List.mem_cons.1 ((h z).1 (by simp [hz])) with rfl | e
        · exact absurd (a1 z hz) (by omega)
        · exact e
      · rcases List.mem_cons.1 ((h z).2 (by simp [hz])) with rfl | e
        · exact absurd (b1 z hz) (by omega)
        · exact e
theorem compact_upto (d : Array Int) (hd : ∀ i j, i ≤ j → j < d.size → d[i]! ≤ d[j]!) : ∀ m, m ≤ d.size → (Lib.compactUpTo d m).Pairwise (· < ·) ∧ (∀ y, y ∈ Lib.compactUpTo d m ↔ ∃ j, j < m ∧ d[j]! = y) := by
  intro m
  induction m with
  | zero => exact fun _ => ⟨by simp [Lib.compactUpTo], fun y => by simp [Lib.compactUpTo]⟩
  | succ m ih =>
    intro hm
    obtain ⟨h1, h2⟩ := ih (by omega)
    rw [Lib.compactUpTo_succ]
    by_cases hk : Lib.keeps d m = true
    · rw [if_pos hk]
      refine ⟨?_, fun y => ?_⟩
      · rw [List.pairwise_append]
        refine ⟨h1, by simp, fun x hx y hy => ?_⟩
        obtain rfl : y = d[m]! := by simpa using hy
        obtain ⟨j, hj, rfl⟩ := (h2 x).1 hx
        have hne : d[m]! ≠ d[m - 1]! := by
          unfold Lib.keeps at hk
          rw [decide_eq_true_eq] at hk
          rcases hk with rfl | hk
          · omega
          · exact hk
        have e1 := hd j (m - 1) (by omega) (by omega)
        have e2 := hd (m - 1) m (by omega) (by omega)
        omega
      · rw [List.mem_append, h2 y]
        constructor
        · rintro (⟨j, hj, rfl⟩ | h)
          · exact ⟨j, by omega, rfl⟩
          · have e : y = d[m]! := by simpa using h
            exact ⟨m, by omega, e.symm⟩
        · rintro ⟨j, hj, rfl⟩
          by_cases e : j = m
          · subst e
            exact .inr (by simp)
          · exact .inl ⟨j, by omega, rfl⟩
    · rw [if_neg hk, List.append_nil]
      refine ⟨h1, fun y => ?_⟩
      rw [h2 y]
      constructor
      · rintro ⟨j, hj, rfl⟩
        exact ⟨j, by omega, rfl⟩
      · rintro ⟨j, hj, rfl⟩
        by_cases e : j = m
        · subst e
          have hk' : ¬ (j = 0 ∨ d[j]! ≠ d[j - 1]!) := by
            unfold Lib.keeps at hk
            rw [decide_eq_true_eq] at hk
            exact hk
          have hj0 : j ≠ 0 := fun h => hk' (.inl h)
          have he : d[j]! = d[j - 1]! := Decidable.byContradiction fun h => hk' (.inr h)
          exact ⟨j - 1, by omega, he.symm⟩
        · exact ⟨j, by omega, rfl⟩
theorem compact_sset (l : List Int) : Lib.compact (SortR.sorted l) = sset l := by
  have hs : (SortR.sorted l).Pairwise (fun x y => decide (x ≤ y) = true) := List.pairwise_mergeSort (le := fun x y => decide (x ≤ y)) (fun a b c h1 h2 => by simp only [decide_eq_true_eq] at *; omega) (fun a b => by simp only [Bool.or_eq_true, decide_eq_true_eq]; omega) l
  have hmem : ∀ y, y ∈ SortR.sorted l ↔ y ∈ l := fun y => (List.mergeSort_perm l _).mem_iff
  generalize SortR.sorted l = q at *
  have hd : ∀ i j, i ≤ j → j < q.toArray.size → q.toArray[i]! ≤ q.toArray[j]! := fun i j hij hj => by
    have hj' : j < q.length := by simpa using hj
    rcases Nat.lt_or_eq_of_le hij with h | rfl
    · have := (List.pairwise_iff_getElem.1 hs) i j (by omega) hj' h
      simp only [decide_eq_true_eq] at this
      simpa [getElem!_pos, show i < q.length by omega, hj'] using this
    · exact Int.le_refl _
  obtain ⟨h1, h2⟩ := compact_upto q.toArray hd q.length (by simp)
  refine same_of _ _ h1 (sset_sorted l) fun x => ?_
  rw [mem_sset, ← hmem]
  refine (h2 x).trans ⟨?_, fun h => ?_⟩
  · rintro ⟨j, hj, rfl⟩
    have : q.toArray[j]! = q[j] := by simp [getElem!_pos, hj]
    rw [this]
    exact List.getElem_mem hj
  · obtain ⟨j, hj, rfl⟩ := List.getElem_of_mem h
    exact ⟨j, hj, by simp [getElem!_pos, hj]⟩
theorem implSort (l : List Int) (hn : l.length ≤ 1048576) : impl_SortSets.f l = some (sset l) := by
  unfold impl_SortSets.f
  rw [if_pos (by omega), compact_sset]
theorem drop_cons (l : List Int) (i : Nat) (h : i < l.length) : l.drop i = l.getD i 0 :: l.drop (i + 1) := by
  rw [List.drop_eq_getElem_cons h]
  simp [List.getD, h]
theorem ins_at (x : Int) (out : List Int) : ∀ i, i ≤ out.length → (∀ j, j < i → out.getD j 0 < x) → ins x out = out.take i ++ ins x (out.drop i) := by
  intro i
  induction i with
  | zero => intro _ _; simp
  | succ i ih =>
    intro hi h
    rw [ih (by omega) fun j hj => h j (by omega), drop_cons out i (by omega)]
    have := h i (by omega)
    rw [ins, if_pos this, List.take_succ_eq_append_getElem (by omega), List.append_assoc]
    simp [List.getD, show i < out.length by omega]
theorem specSort (l : List Int) (hn : l.length ≤ 1048576) : Ev (fun k => spec_SortSets.f k l) (sset l) := by
  unfold spec_SortSets.f sset
  have e : l.foldl (fun out x => ins x out) [] = (List.range' 0 l.length).foldl (fun out i => ins (l.getD i 0) out) [] := by
    have e2 : l = (List.range' 0 l.length).map fun i => l.getD i 0 := by rw [← List.range_eq_range', Gen.map_getD']
    conv => lhs; rw [e2]
    rw [List.foldl_map]
  rw [e]
  refine Gen.ev_loop (fun k (out : List Int) i => spec_SortSets.l0 k l out i) l.length (fun i out => ins (l.getD i 0) out) (fun i out => out.length ≤ i) _ (fun i out hi hP => ⟨?_, fun h => ?_⟩) l.length 0 [] (by omega) (by simp) (fun _ => Gen.ev_at 1 (fun k hk => ?_))
  · have := ins_length (l.getD i 0) out
    show (ins _ _).length ≤ _
    omega
  · refine Ev.step (f := fun k => spec_SortSets.l1 k l out (i : Int) 0) (fun k => ?_) ?_
    · simp only [spec_SortSets.l0]
      rw [if_pos (by omega)]
    · have key : ∀ d a : Nat, a + d = out.length → (∀ j, j < a → out.getD j 0 < l.getD i 0) → Ev (fun k => spec_SortSets.l1 k l out (i : Int) (a : Int)) ((List.range' 0 l.length).foldl (fun out i => ins (l.getD i 0) out) []) := by
        intro d
        induction d with
        | zero =>
          intro a ha hlt
          obtain rfl : a = out.length := by omega
          have hins : ins (l.getD i 0) out = out.take out.length ++ [l.getD i 0] ++ out.drop out.length := by
            rw [ins_at _ _ out.length (Nat.le_refl _) hlt, List.drop_length, ins]
            simp
          rw [hins] at h
          refine Ev.step (fun k => ?_) h
          simp only [spec_SortSets.l1]
          rw [if_neg (by omega)]
          simp only [Option.bind_some, Int.toNat_natCast, Gen.rd_nat, List.nil_append, List.length_nil, Nat.zero_add]
          rw [if_pos (by omega), if_pos (by omega), if_pos (by simp), if_pos (by omega), if_pos (by omega), if_pos (by rw [List.length_take]; omega), if_pos (by simp; omega), Gen.w64s i (by omega)]
        | succ d ih =>
          intro a ha hlt
          have hlen : a < out.length := by omega
          by_cases h1 : out.getD a 0 < l.getD i 0
          · refine Ev.step (fun k => ?_) (ih (a + 1) (by omega) fun j hj => ?_)
            · simp only [spec_SortSets.l1]
              rw [if_pos (by omega), if_pos (by omega), if_pos (by omega), if_pos (by omega), Gen.rd_nat, Gen.rd_nat, if_pos h1, Gen.w64s a (by omega)]
            · by_cases e : j = a
              · subst e; exact h1
              · exact hlt j (by omega)
          · have hat := ins_at (l.getD i 0) out a (by omega) hlt
            rw [drop_cons out a hlen, ins, if_neg h1] at hat
            by_cases h2 : out.getD a 0 = l.getD i 0
            · have hins : ins (l.getD i 0) out = out := by
                rw [hat, if_pos h2, ← drop_cons out a hlen, List.take_append_drop]
              rw [hins] at h
              refine Ev.step (fun k => ?_) h
              simp only [spec_SortSets.l1]
              rw [if_pos (by omega), if_pos (by omega), if_pos (by omega), if_pos (by omega), Gen.rd_nat, Gen.rd_nat, if_neg h1, if_pos h2, Gen.w64s i (by omega)]
            · have hins : ins (l.getD i 0) out = out.take a ++ [l.getD i 0] ++ out.drop a := by
                rw [hat, if_neg h2, ← drop_cons out a hlen, List.append_assoc]
                rfl
              rw [hins] at h
              refine Ev.step (fun k => ?_) h
              simp only [spec_SortSets.l1]
              rw [if_pos (by omega), if_pos (by omega), if_pos (by omega), if_pos (by omega), Gen.rd_nat, Gen.rd_nat, if_neg h1, if_neg h2]
              simp only [Option.bind_some, Int.toNat_natCast, List.nil_append, List.length_nil, Nat.zero_add]
              rw [if_pos (by omega), if_pos (by simp; omega), if_pos (by rw [List.length_take]; omega), if_pos (by simp; omega), Gen.w64s i (by omega)]
      exact key out.length 0 (by omega) (fun j hj => by omega)
  · obtain ⟨q, rfl⟩ : ∃ q, k = q + 1 := ⟨k - 1, by omega⟩
    simp only [spec_SortSets.l0]
    rw [if_neg (by omega)]
end Go.Proofs.Ytaepaekagenfnaa.Sort
end
section
namespace Go.Proofs.Ytaepaekagenfnaa.Mat
open Go.RowKit Go.Proofs.Ytaepaekagenfnaa.Pr Go.Proofs.Ytaepaekagenfnaa.Sets Go.Proofs.YtaepaekagenfnaaW.PrintWords Go.Proofs.YtaepaekagenfnaaW.PrintLast Go.Proofs.YtaepaekagenfnaaW.PrintMore
set_option linter.unusedVariables false
def isSet (n s : Int) : Bool := decide (0 ≤ n ∧ n ≤ 8 ∧ 0 ≤ s ∧ s < 2 ^ n.toNat)
theorem implIsSet (n s : Int) : impl_IsSet.f n s = some (isSet n s) := by
  unfold impl_IsSet.f impl_isSize.f isSet
  by_cases h0 : n ≥ 0
  · rw [if_pos h0]
    simp only [Option.bind_some]
    by_cases h1 : n ≤ 8
    · rw [if_pos (decide_eq_true h1)]
      obtain ⟨m, rfl⟩ : ∃ m : Nat, n = m := ⟨n.toNat, by omega⟩
      by_cases h2 : s ≥ 0
      · rw [if_pos h2, if_pos h0, shl_nat m (by omega)]
        congr 1
        rw [decide_eq_decide]
        simp only [Int.toNat_natCast]
        push_cast
        omega
      · rw [if_neg h2, decide_eq_false (by omega)]
    · rw [if_neg (by rw [decide_eq_true_eq]; exact h1), decide_eq_false (by omega)]
  · rw [if_neg h0]
    simp only [Option.bind_some]
    rw [if_neg (by decide), decide_eq_false (by omega)]
theorem specIsSet (n s : Int) : spec_IsSet.f n s = some (isSet n s) := by
  unfold spec_IsSet.f spec_l1In.f isSet
  by_cases h0 : n ≥ 0
  · rw [if_pos h0]
    simp only [Option.bind_some]
    by_cases h1 : n ≤ 8
    · rw [if_pos (decide_eq_true h1)]
      obtain ⟨m, rfl⟩ : ∃ m : Nat, n = m := ⟨n.toNat, by omega⟩
      have hu : IntKind.u64.wrap (m : Int) = m := by
        have : m = 0 ∨ m = 1 ∨ m = 2 ∨ m = 3 ∨ m = 4 ∨ m = 5 ∨ m = 6 ∨ m = 7 ∨ m = 8 := by omega
        rcases this with rfl | rfl | rfl | rfl | rfl | rfl | rfl | rfl | rfl <;> decide +kernel
      have hp := pow_le_256 (m := m) (by omega)
      have hp1 : 1 ≤ 2 ^ m := Nat.one_le_two_pow
      rw [hu, if_pos h0, shl_nat m (by omega), Gen.w64 (by omega) (by omega)]
      by_cases h2 : s ≥ 0
      · rw [if_pos h2]
        simp only [Option.bind_some]
        congr 1
        rw [decide_eq_decide]
        simp only [Int.toNat_natCast]
        have : ((2 : Int) ^ m) = ((2 ^ m : Nat) : Int) := by push_cast; rfl
        rw [this]
        omega
      · rw [if_neg h2]
        simp only [Option.bind_some]
        rw [decide_eq_false (by omega)]
    · rw [if_neg (by rw [decide_eq_true_eq]; exact h1), decide_eq_false (by omega)]
  · rw [if_neg h0]
    simp only [Option.bind_some]
    rw [if_neg (by decide), decide_eq_false (by omega)]
def fam (n : Int) (l : List Int) : Bool := ((List.range' 0 l.length).all fun i => isSet n (l.getD i 0) && (decide (i = 0) || decide (l.getD (i - 1) 0 < l.getD i 0))) && decide (0 ≤ n ∧ n ≤ 8)
theorem implFamily (n : Int) (l : List Int) (hn : l.length ≤ 1048576) (k : Nat) (hk : l.length < k) : impl_IsFamily.f k n l = some (fam n l) := by
  unfold impl_IsFamily.f fam
  refine Gen.all_loop (fun k i => impl_IsFamily.l0 k n l l (l.length : Int) i) l.length (fun i => isSet n (l.getD i 0) && (decide (i = 0) || decide (l.getD (i - 1) 0 < l.getD i 0))) 0 (decide (0 ≤ n ∧ n ≤ 8)) (fun k i _ hi => ?_) (fun k _ => ?_) l.length 0 k (by omega) (by omega)
  · simp only [impl_IsFamily.l0]
    rw [if_pos (by omega), if_pos (by omega), if_pos (by omega), implIsSet, Gen.rd_nat]
    simp only [Option.bind_some]
    cases isSet n (l.getD i 0) with
    | false => rfl
    | true =>
      rw [if_pos rfl, Gen.w64s i (by omega)]
      by_cases h0 : i = 0
      · subst h0
        rw [if_neg (by decide), if_pos (by rfl)]
      · rw [if_pos (by omega), Gen.w64 (by omega) (by omega), show (i : Int) - 1 = ((i - 1 : Nat) : Int) by omega, if_pos (by omega), if_pos (by omega), Gen.rd_nat]
        by_cases h1 : l.getD i 0 ≤ l.getD (i - 1) 0
        · rw [if_pos h1, decide_eq_false h0, decide_eq_false (by omega)]
          rfl
        · rw [if_neg h1, decide_eq_false h0, decide_eq_true (by omega)]
          rfl
  · simp only [impl_IsFamily.l0]
    rw [if_neg (by omega)]
    unfold impl_isSize.f
    by_cases h0 : n ≥ 0
    · rw [if_pos h0]
      simp only [Option.bind_some]
      congr 1
      rw [decide_eq_decide]
      omega
    · rw [if_neg h0, decide_eq_false (by omega)]
      rfl
theorem specFamily (n : Int) (l : List Int) (hn : l.length ≤ 1048576) (k : Nat) (hk : l.length < k) : spec_IsFamily.f k n l = some (fam n l) := by
  unfold spec_IsFamily.f fam
  refine Gen.all_loop (fun k i => spec_IsFamily.l0 k n l i) l.length (fun i => isSet n (l.getD i 0) && (decide (i = 0) || decide (l.getD (i - 1) 0 < l.getD i 0))) 0 (decide (0 ≤ n ∧ n ≤ 8)) (fun k i _ hi => ?_) (fun k _ => ?_) l.length 0 k (by omega) (by omega)
  · simp only [spec_IsFamily.l0]
    rw [if_pos (by omega), if_pos (by omega), specIsSet, Gen.rd_nat]
    simp only [Option.bind_some]
    cases isSet n (l.getD i 0) with
    | false => rfl
    | true =>
      rw [if_pos rfl, Gen.w64s i (by omega)]
      by_cases h0 : i = 0
      · subst h0
        rw [if_neg (by decide), if_pos (by rfl)]
      · rw [if_pos (by omega), Gen.w64 (by omega) (by omega), show (i : Int) - 1 = ((i - 1 : Nat) : Int) by omega, if_pos (by omega), if_pos (by omega), Gen.rd_nat]
        by_cases h1 : l.getD (i - 1) 0 ≥ l.getD i 0
        · rw [if_pos h1, decide_eq_false h0, decide_eq_false (by omega)]
          rfl
        · rw [if_neg h1, decide_eq_false h0, decide_eq_true (by omega)]
          rfl
  · simp only [spec_IsFamily.l0]
    rw [if_neg (by omega)]
    unfold spec_l1In.f
    by_cases h0 : n ≥ 0
    · rw [if_pos h0]
      simp only [Option.bind_some]
      congr 1
      rw [decide_eq_decide]
      omega
    · rw [if_neg h0, decide_eq_false (by omega)]
      rfl
theorem fam_nat {n : Int} {l : List Int} (h : fam n l = true) : ∃ (m : Nat) (lN : List Nat), n = m ∧ m ≤ 8 ∧ l = ints lN ∧ ∀ s ∈ lN, s < 2 ^ m := by
  unfold fam at h
  rw [Bool.and_eq_true, decide_eq_true_eq] at h
  obtain ⟨hl, h0, h8⟩ := h
  have key : ∀ s ∈ l, 0 ≤ s ∧ s < 2 ^ n.toNat := fun s hs => by
    obtain ⟨i, hi, rfl⟩ := List.getElem_of_mem hs
    have := List.all_eq_true.1 hl i (List.mem_range'_1.2 (by omega))
    rw [Bool.and_eq_true] at this
    have h1 := this.1
    unfold isSet at h1
    rw [decide_eq_true_eq] at h1
    have e : l.getD i 0 = l[i] := by simp [List.getD, hi]
    rw [e] at h1
    exact ⟨h1.2.2.1, h1.2.2.2⟩
  refine ⟨n.toNat, l.map Int.toNat, by omega, by omega, ?_, fun s hs => ?_⟩
  · unfold ints
    rw [List.map_map]
    conv => lhs; rw [← List.map_id l]
    refine List.map_congr_left fun s hs => ?_
    have := (key s hs).1
    show s = ((s.toNat : Nat) : Int)
    omega
  · obtain ⟨x, hx, rfl⟩ := List.mem_map.1 hs
    obtain ⟨h1, h2⟩ := key x hx
    have e : ((2 : Int) ^ n.toNat) = ((2 ^ n.toNat : Nat) : Int) := by push_cast; rfl
    rw [e] at h2
    omega
theorem index (l : List Nat) (x : Nat) (hn : l.length ≤ 1048576) : ∀ (d i k : Nat), i + d = l.length → d < k → ∃ r, slices_Index_int_int.l0 k (ints l) (x : Int) ((ints l).length : Int) (i : Int) = some r ∧ decide (r ≥ 0) = (l.drop i).contains x := by
  intro d
  induction d with
  | zero =>
    intro i k hi hk
    obtain ⟨k, rfl⟩ : ∃ m, k = m + 1 := ⟨k - 1, by omega⟩
    refine ⟨-1, ?_, ?_⟩
    · simp only [slices_Index_int_int.l0]
      rw [if_neg (by rw [ints_length]; omega)]
    · rw [List.drop_of_length_le (by omega)]
      rfl
  | succ d ih =>
    intro i k hi hk
    obtain ⟨k, rfl⟩ : ∃ m, k = m + 1 := ⟨k - 1, by omega⟩
    have hlt : i < l.length := by omega
    simp only [slices_Index_int_int.l0]
    rw [if_pos (by rw [ints_length]; omega), if_pos (by omega), if_pos (by rw [ints_length]; omega), ints_rd, Gen.w64s i (by omega)]
    have hd : l.drop i = l.getD i 0 :: l.drop (i + 1) := by
      rw [List.drop_eq_getElem_cons hlt]
      simp [List.getD, hlt]
    rw [hd]
    by_cases h : x = l.getD i 0
    · refine ⟨i, by rw [if_pos (by omega)], ?_⟩
      rw [← h, List.contains_cons, beq_self_eq_true, Bool.true_or, decide_eq_true (by omega)]
    · obtain ⟨r, h1, h2⟩ := ih (i + 1) k (by omega) (by omega)
      refine ⟨r, by rw [if_neg (by omega)]; exact h1, ?_⟩
      rw [h2, List.contains_cons, beq_eq_false_iff_ne.2 h, Bool.false_or]
theorem implHas (l : List Nat) (x : Nat) (hn : l.length ≤ 1048576) (k : Nat) (hk : l.length < k) : impl_HasSet.f k (ints l) (x : Int) = some (l.contains x) := by
  unfold impl_HasSet.f slices_Contains_int_int.f slices_Index_int_int.f
  obtain ⟨r, h1, h2⟩ := index l x hn l.length 0 k (by omega) hk
  rw [show (0 : Int) = ((0 : Nat) : Int) from rfl, h1]
  simp only [Option.bind_some]
  rw [show ((0 : Nat) : Int) = (0 : Int) from rfl, h2, List.drop_zero]
theorem specHas (l : List Nat) (x : Nat) (hn : l.length ≤ 1048576) (k : Nat) (hk : l.length < k) : spec_HasSet.f k (ints l) (x : Int) = some (l.contains x) := by
  unfold spec_HasSet.f
  have key : ∀ (d i k : Nat), i + d = l.length → d < k → spec_HasSet.l0 k (ints l) (x : Int) (i : Int) = some ((l.drop i).contains x) := by
    intro d
    induction d with
    | zero =>
      intro i k hi hk
      obtain ⟨k, rfl⟩ : ∃ m, k = m + 1 := ⟨k - 1, by omega⟩
      simp only [spec_HasSet.l0]
      rw [if_neg (by rw [ints_length]; omega), List.drop_of_length_le (by omega)]
      rfl
    | succ d ih =>
      intro i k hi hk
      obtain ⟨k, rfl⟩ : ∃ m, k = m + 1 := ⟨k - 1, by omega⟩
      have hlt : i < l.length := by omega
      simp only [spec_HasSet.l0]
      rw [if_pos (by rw [ints_length]; omega), if_pos (by omega), ints_rd, Gen.w64s i (by omega)]
      have hd : l.drop i = l.getD i 0 :: l.drop (i + 1) := by
        rw [List.drop_eq_getElem_cons hlt]
        simp [List.getD, hlt]
      rw [hd, List.contains_cons]
      by_cases h : l.getD i 0 = x
      · rw [if_pos (by omega), ← h, beq_self_eq_true, Bool.true_or]
      · rw [if_neg (by omega), ih (i + 1) k (by omega) (by omega), beq_eq_false_iff_ne.2 (Ne.symm h), Bool.false_or]
  have := key l.length 0 k (by omega) hk
  rw [List.drop_zero] at this
  exact this
theorem implElem (s : Nat) (j : Nat) (hs : s < 256) (hj : j < 8) : impl_HasElement.f (s : Int) (j : Int) = some (s.testBit j) := by
  unfold impl_HasElement.f impl_isAny.f
  rw [if_pos (by omega)]
  simp only [Option.bind_some]
  rw [if_pos (decide_eq_true (by omega)), if_pos (by omega), if_pos (by omega), if_pos (by omega), shr_bit s j (by omega) (by omega)]
theorem foldl_elems (s : Nat) : ((List.range' 0 8).foldl (fun (acc : List Int) (j : Nat) => if s.testBit j = true then acc ++ [(j : Int)] else acc) []) = ints (elems s) := by
  rw [Gen.foldl_append (fun j => s.testBit j)]
  rfl
theorem implElements (s : Nat) (hs : s < 256) : Ev (fun k => impl_ElementsOf.f k (s : Int)) (ints (elems s)) := by
  unfold impl_ElementsOf.f
  refine Gen.ev_loop (fun k s3 i => impl_ElementsOf.l0 k (s : Int) s3 i) 8 (fun j s3 => if s.testBit j = true then s3 ++ [(j : Int)] else s3) (fun i s3 => s3.length ≤ i) _ (fun i s3 hi hP => ⟨?_, fun h => Ev.step (fun k => ?_) h⟩) 8 0 [] rfl (by simp) (fun _ => Gen.ev_at 1 (fun k hk => ?_))
  · by_cases hh : s.testBit i = true
    · rw [if_pos hh]; simp; omega
    · rw [if_neg hh]; omega
  · simp only [impl_ElementsOf.l0]
    rw [if_pos (by omega), implElem s i hs hi]
    simp only [Option.bind_some]
    rw [Gen.w64s i (by omega)]
    by_cases hh : s.testBit i = true
    · rw [if_pos hh, if_pos (by omega), if_pos hh]
    · rw [if_neg hh, if_neg hh]
  · obtain ⟨m, rfl⟩ : ∃ m, k = m + 1 := ⟨k - 1, by omega⟩
    simp only [impl_ElementsOf.l0]
    rw [if_neg (by omega), foldl_elems]
end Go.Proofs.Ytaepaekagenfnaa.Mat
end
section
namespace Go.Proofs.Ytaepaekagenfnaa.Mat
open Go.RowKit Go.Proofs.Ytaepaekagenfnaa.Pr Go.Proofs.Ytaepaekagenfnaa.Sets Go.Proofs.YtaepaekagenfnaaW.PrintWords Go.Proofs.YtaepaekagenfnaaW.PrintLast Go.Proofs.YtaepaekagenfnaaW.PrintMore
set_option linter.unusedVariables false
theorem indexFunc (g : Int → Option Bool) (fs : List Nat) (v : Nat → Bool) (hn : fs.length ≤ 1048576) (hg : ∀ f ∈ fs, g (f : Int) = some (v f)) :
    ∀ (d i k : Nat), i + d = fs.length → d < k → ∃ r, slices_IndexFunc_int_int.l0 g k (ints fs) (i : Int) = some r ∧ decide (r ≥ 0) = (fs.drop i).any v := by
  intro d
  induction d with
  | zero =>
    intro i k hi hk
    obtain ⟨k, rfl⟩ : ∃ m, k = m + 1 := ⟨k - 1, by omega⟩
    refine ⟨-1, ?_, ?_⟩
    · simp only [slices_IndexFunc_int_int.l0]
      rw [if_neg (by rw [ints_length]; omega)]
    · rw [List.drop_of_length_le (by omega)]
      rfl
  | succ d ih =>
    intro i k hi hk
    obtain ⟨k, rfl⟩ : ∃ m, k = m + 1 := ⟨k - 1, by omega⟩
    have hlt : i < fs.length := by omega
    simp only [slices_IndexFunc_int_int.l0]
    rw [if_pos (by rw [ints_length]; omega), if_pos (by omega), ints_rd, hg _ (getD_mem fs 0 i hlt), Gen.w64s i (by omega)]
    simp only [Option.bind_some]
    have hd : fs.drop i = fs.getD i 0 :: fs.drop (i + 1) := by
      rw [List.drop_eq_getElem_cons hlt]
      simp [List.getD, hlt]
    rw [hd, List.any_cons]
    cases hv : v (fs.getD i 0) with
    | true => exact ⟨i, by rw [if_pos rfl], by rw [decide_eq_true (by omega), Bool.true_or]⟩
    | false =>
      obtain ⟨r, h1, h2⟩ := ih (i + 1) k (by omega) (by omega)
      exact ⟨r, by rw [if_neg (by decide)]; exact h1, by rw [h2, Bool.false_or]⟩
theorem containsFunc (g : Int → Option Bool) (fs : List Nat) (v : Nat → Bool) (hn : fs.length ≤ 1048576) (hg : ∀ f ∈ fs, g (f : Int) = some (v f)) (k : Nat) (hk : fs.length < k) :
    slices_ContainsFunc_int_int.f k (ints fs) g = some (fs.any v) := by
  unfold slices_ContainsFunc_int_int.f slices_IndexFunc_int_int.f
  obtain ⟨r, h1, h2⟩ := indexFunc g fs v hn hg fs.length 0 k (by omega) hk
  rw [show (0 : Int) = ((0 : Nat) : Int) from rfl, h1]
  simp only [Option.bind_some]
  rw [show ((0 : Nat) : Int) = (0 : Int) from rfl, h2, List.drop_zero]
theorem swapImpl (l : List Nat) (a e f : Nat) (hn : l.length ≤ 1048576) (ha : a < 256) (he : e < 8) (hf : f < 8) (hae : a.testBit e = true) (haf : a.testBit f = false) (k : Nat) (hk : l.length < k) :
    impl_FirstFailure_1.f k (ints l) (a : Int) (e : Int) (f : Int) = some (l.contains (a - 2 ^ e + 2 ^ f)) := by
  unfold impl_FirstFailure_1.f
  have h1 : (2 : Nat) ^ e < 2 ^ 62 := Nat.pow_lt_pow_right (by decide) (by omega)
  have h2 : (2 : Nat) ^ f < 2 ^ 62 := Nat.pow_lt_pow_right (by decide) (by omega)
  have h3 : diff a (2 ^ e) < 2 ^ 8 := diff_lt (n := 8) (by omega)
  rw [if_pos (by omega), if_pos (by omega), shl_nat e (by omega), shl_nat f (by omega), andNot_nat a _ (by omega), or_nat _ _ (by omega) h2, swap_eq a ha e he f hf hae haf]
  exact implHas l _ hn k hk
theorem exch_elems (l : List Nat) (a b e : Nat) : exch l a b e = (elems (diff b a)).any fun f => l.contains (a - 2 ^ e + 2 ^ f) := by
  rw [elems_any]
  unfold exch
  congr 1
  funext f
  rw [diff_bit]
theorem fails_elems (l : List Nat) : fails l = l.any fun a => l.any fun b => (elems (diff a b)).any fun e => !exch l a b e := by
  unfold fails
  congr 1
  funext a
  congr 1
  funext b
  rw [elems_any]
  congr 1
  funext e
  rw [diff_bit]
theorem implFirst (m : Nat) (hm : m ≤ 8) (l : List Nat) (hl : ∀ s ∈ l, s < 2 ^ m) (hn : l.length ≤ 1048576) (hf : fam (m : Int) (ints l) = true) :
    ∃ x y z, Ev (fun k => impl_FirstFailure.f k (m : Int) (ints l)) (x, y, z, fails l) := by
  have h256 := pow_le_256 hm
  have hlt : ∀ i, i < l.length → l.getD i 0 < 256 := fun i hi => Nat.lt_of_lt_of_le (hl _ (getD_mem l 0 i hi)) h256
  have inner : ∀ x y : Nat, x < l.length → y < l.length → ∀ d i : Nat, i + d = (elems (diff (l.getD x 0) (l.getD y 0))).length → _ := fun x y hx hy =>
    ev_search (fun k z => impl_FirstFailure.l2 k (m : Int) (ints l) (x : Int) ((l.getD x 0 : Nat) : Int) (y : Int) ((l.getD y 0 : Nat) : Int) (ints (elems (diff (l.getD x 0) (l.getD y 0)))) z) (elems (diff (l.getD x 0) (l.getD y 0))).length
      (fun z => !exch l (l.getD x 0) (l.getD y 0) ((elems (diff (l.getD x 0) (l.getD y 0))).getD z 0)) (fun r => r.2.2.2 = true)
      (by
        intro z hz hp
        have ha := hlt x hx
        have hb := hlt y hy
        obtain ⟨he, hbit⟩ := elems_lt (getD_mem _ 0 z hz)
        rw [diff_bit, Bool.and_eq_true] at hbit
        have hl8 := elems_length (diff (l.getD x 0) (l.getD y 0))
        have hd : diff (l.getD y 0) (l.getD x 0) < 2 ^ 8 := diff_lt (n := 8) (by omega)
        refine ⟨(((l.getD x 0 : Nat) : Int), ((l.getD y 0 : Nat) : Int), (((elems (diff (l.getD x 0) (l.getD y 0))).getD z 0 : Nat) : Int), true), rfl, ?_⟩
        refine Ev.step (f := fun k => (impl_ElementsOf.f k (Go.bits .andNot .i64 ((l.getD y 0 : Nat) : Int) ((l.getD x 0 : Nat) : Int))).bind fun fs => ((slices_ContainsFunc_int_int.f k fs (fun f => impl_FirstFailure_1.f k (ints l) ((l.getD x 0 : Nat) : Int) (((elems (diff (l.getD x 0) (l.getD y 0))).getD z 0 : Nat) : Int) f)).bind fun t => (if t = true then (impl_FirstFailure.l2 k (m : Int) (ints l) (x : Int) ((l.getD x 0 : Nat) : Int) (y : Int) ((l.getD y 0 : Nat) : Int) (ints (elems (diff (l.getD x 0) (l.getD y 0)))) ((z + 1 : Nat) : Int)) else (some (((l.getD x 0 : Nat) : Int), ((l.getD y 0 : Nat) : Int), (((elems (diff (l.getD x 0) (l.getD y 0))).getD z 0 : Nat) : Int), true))))) (fun k => ?_) ?_
        · simp only [impl_FirstFailure.l2]
          rw [if_pos (by rw [ints_length]; omega), if_pos (by omega), ints_rd, Gen.w64s z (by omega)]
        · rw [andNot_nat _ _ (by omega)]
          refine Ev.bind (implElements _ (by omega)) ?_
          refine Ev.bind (a := exch l (l.getD x 0) (l.getD y 0) ((elems (diff (l.getD x 0) (l.getD y 0))).getD z 0)) (Gen.ev_at (1048577 + 8) (fun k hk => ?_)) ?_
          · rw [exch_elems]
            refine containsFunc _ _ _ (by have := elems_length (diff (l.getD y 0) (l.getD x 0)); omega) (fun f hf => ?_) k (by have := elems_length (diff (l.getD y 0) (l.getD x 0)); omega)
            obtain ⟨hf8, hfb⟩ := elems_lt hf
            rw [diff_bit, Bool.and_eq_true] at hfb
            exact swapImpl l _ _ _ hn ha he hf8 hbit.1 (by simpa using hfb.2) k (by omega)
          · have hp' : exch l (l.getD x 0) (l.getD y 0) ((elems (diff (l.getD x 0) (l.getD y 0))).getD z 0) = false := by simpa using hp
            rw [hp']
            exact Ev.now _)
      (by
        intro z hz hp r hr
        have ha := hlt x hx
        have hb := hlt y hy
        obtain ⟨he, hbit⟩ := elems_lt (getD_mem _ 0 z hz)
        rw [diff_bit, Bool.and_eq_true] at hbit
        have hl8 := elems_length (diff (l.getD x 0) (l.getD y 0))
        have hd : diff (l.getD y 0) (l.getD x 0) < 2 ^ 8 := diff_lt (n := 8) (by omega)
        refine Ev.step (f := fun k => (impl_ElementsOf.f k (Go.bits .andNot .i64 ((l.getD y 0 : Nat) : Int) ((l.getD x 0 : Nat) : Int))).bind fun fs => ((slices_ContainsFunc_int_int.f k fs (fun f => impl_FirstFailure_1.f k (ints l) ((l.getD x 0 : Nat) : Int) (((elems (diff (l.getD x 0) (l.getD y 0))).getD z 0 : Nat) : Int) f)).bind fun t => (if t = true then (impl_FirstFailure.l2 k (m : Int) (ints l) (x : Int) ((l.getD x 0 : Nat) : Int) (y : Int) ((l.getD y 0 : Nat) : Int) (ints (elems (diff (l.getD x 0) (l.getD y 0)))) ((z + 1 : Nat) : Int)) else (some (((l.getD x 0 : Nat) : Int), ((l.getD y 0 : Nat) : Int), (((elems (diff (l.getD x 0) (l.getD y 0))).getD z 0 : Nat) : Int), true))))) (fun k => ?_) ?_
        · simp only [impl_FirstFailure.l2]
          rw [if_pos (by rw [ints_length]; omega), if_pos (by omega), ints_rd, Gen.w64s z (by omega)]
        · rw [andNot_nat _ _ (by omega)]
          refine Ev.bind (implElements _ (by omega)) ?_
          refine Ev.bind (a := exch l (l.getD x 0) (l.getD y 0) ((elems (diff (l.getD x 0) (l.getD y 0))).getD z 0)) (Gen.ev_at (1048577 + 8) (fun k hk => ?_)) ?_
          · rw [exch_elems]
            refine containsFunc _ _ _ (by have := elems_length (diff (l.getD y 0) (l.getD x 0)); omega) (fun f hf => ?_) k (by have := elems_length (diff (l.getD y 0) (l.getD x 0)); omega)
            obtain ⟨hf8, hfb⟩ := elems_lt hf
            rw [diff_bit, Bool.and_eq_true] at hfb
            exact swapImpl l _ _ _ hn ha he hf8 hbit.1 (by simpa using hfb.2) k (by omega)
          · have hp' : exch l (l.getD x 0) (l.getD y 0) ((elems (diff (l.getD x 0) (l.getD y 0))).getD z 0) = true := by simpa using hp
            rw [hp']
            simp only [if_true]
            exact hr)
  have innerAny : ∀ x y : Nat, ((List.range' 0 (elems (diff (l.getD x 0) (l.getD y 0))).length).any fun z => !exch l (l.getD x 0) (l.getD y 0) ((elems (diff (l.getD x 0) (l.getD y 0))).getD z 0)) = (elems (diff (l.getD x 0) (l.getD y 0))).any fun e => !exch l (l.getD x 0) (l.getD y 0) e := fun x y => any_index (elems (diff (l.getD x 0) (l.getD y 0))) 0 (fun e => !exch l (l.getD x 0) (l.getD y 0) e)
  have middle : ∀ x : Nat, x < l.length → ∀ d i : Nat, i + d = l.length → _ := fun x hx =>
    ev_search (fun k y => impl_FirstFailure.l1 k (m : Int) (ints l) (x : Int) ((l.getD x 0 : Nat) : Int) y) l.length
      (fun y => (elems (diff (l.getD x 0) (l.getD y 0))).any fun e => !exch l (l.getD x 0) (l.getD y 0) e) (fun r => r.2.2.2 = true)
      (by
        intro y hy hp
        have ha := hlt x hx
        obtain ⟨h1, _⟩ := inner x y hx hy (elems (diff (l.getD x 0) (l.getD y 0))).length 0 (by omega)
        rw [innerAny] at h1
        obtain ⟨r, hr, hE⟩ := h1 hp
        refine ⟨r, hr, Ev.step (f := fun k => (impl_ElementsOf.f k (Go.bits .andNot .i64 ((l.getD x 0 : Nat) : Int) ((l.getD y 0 : Nat) : Int))).bind fun es => (impl_FirstFailure.l2 k (m : Int) (ints l) (x : Int) ((l.getD x 0 : Nat) : Int) (y : Int) ((l.getD y 0 : Nat) : Int) es 0)) (fun k => ?_) ?_⟩
        · simp only [impl_FirstFailure.l1]
          rw [if_pos (by rw [ints_length]; omega), if_pos (by omega), ints_rd]
        · rw [andNot_nat _ _ (by omega)]
          have hd : diff (l.getD x 0) (l.getD y 0) < 2 ^ 8 := diff_lt (n := 8) (by omega)
          exact Ev.bind (implElements _ (by omega)) hE)
      (by
        intro y hy hp r hr
        have ha := hlt x hx
        obtain ⟨_, h2⟩ := inner x y hx hy (elems (diff (l.getD x 0) (l.getD y 0))).length 0 (by omega)
        rw [innerAny] at h2
        refine Ev.step (f := fun k => (impl_ElementsOf.f k (Go.bits .andNot .i64 ((l.getD x 0 : Nat) : Int) ((l.getD y 0 : Nat) : Int))).bind fun es => (impl_FirstFailure.l2 k (m : Int) (ints l) (x : Int) ((l.getD x 0 : Nat) : Int) (y : Int) ((l.getD y 0 : Nat) : Int) es 0)) (fun k => ?_) ?_
        · simp only [impl_FirstFailure.l1]
          rw [if_pos (by rw [ints_length]; omega), if_pos (by omega), ints_rd]
        · rw [andNot_nat _ _ (by omega)]
          have hd : diff (l.getD x 0) (l.getD y 0) < 2 ^ 8 := diff_lt (n := 8) (by omega)
          refine Ev.bind (implElements _ (by omega)) (h2 hp r (Ev.step (fun k => ?_) hr))
          simp only [impl_FirstFailure.l2]
          rw [if_neg (by rw [ints_length]; omega), Gen.w64s y (by omega)])
  have middleAny : ∀ x : Nat, ((List.range' 0 l.length).any fun y => (elems (diff (l.getD x 0) (l.getD y 0))).any fun e => !exch l (l.getD x 0) (l.getD y 0) e) = l.any fun b => (elems (diff (l.getD x 0) b)).any fun e => !exch l (l.getD x 0) b e := fun x => any_index l 0 (fun b => (elems (diff (l.getD x 0) b)).any fun e => !exch l (l.getD x 0) b e)
  obtain ⟨o1, o2⟩ := ev_search (fun k x => impl_FirstFailure.l0 k (m : Int) (ints l) x) l.length
      (fun x => l.any fun b => (elems (diff (l.getD x 0) b)).any fun e => !exch l (l.getD x 0) b e) (fun r => r.2.2.2 = true)
      (by
        intro x hx hp
        obtain ⟨h1, _⟩ := middle x hx l.length 0 (by omega)
        rw [middleAny] at h1
        obtain ⟨r, hr, hE⟩ := h1 hp
        refine ⟨r, hr, Ev.step (fun k => ?_) hE⟩
        simp only [impl_FirstFailure.l0]
        rw [if_pos (by rw [ints_length]; omega), if_pos (by omega), ints_rd]
        rfl)
      (by
        intro x hx hp r hr
        obtain ⟨_, h2⟩ := middle x hx l.length 0 (by omega)
        rw [middleAny] at h2
        have h3 := h2 hp r (Ev.step (fun k => by
          simp only [impl_FirstFailure.l1]
          rw [if_neg (by rw [ints_length]; omega), Gen.w64s x (by omega)]) hr)
        refine Ev.step (fun k => ?_) h3
        simp only [impl_FirstFailure.l0]
        rw [if_pos (by rw [ints_length]; omega), if_pos (by omega), ints_rd]
        rfl) l.length 0 (by omega)
  have outerAny : ((List.range' 0 l.length).any fun x => l.any fun b => (elems (diff (l.getD x 0) b)).any fun e => !exch l (l.getD x 0) b e) = fails l := by
    rw [fails_elems]
    exact any_index l 0 (fun a => l.any fun b => (elems (diff a b)).any fun e => !exch l a b e)
  rw [outerAny] at o1 o2
  have start : ∀ r, Ev (fun k => impl_FirstFailure.l0 k (m : Int) (ints l) 0) r → Ev (fun k => impl_FirstFailure.f k (m : Int) (ints l)) r := fun r hr => by
    unfold impl_FirstFailure.f
    refine Ev.bind (Gen.ev_at (l.length + 1) (fun k hk => implFamily (m : Int) (ints l) (by rw [ints_length]; exact hn) k (by rw [ints_length]; omega))) ?_
    rw [hf]
    simp only [if_true]
    exact hr
  cases hfl : fails l with
  | true =>
    obtain ⟨⟨x, y, z, b⟩, hb, hE⟩ := o1 hfl
    simp only at hb
    subst hb
    exact ⟨x, y, z, start _ hE⟩
  | false =>
    refine ⟨0, 0, 0, start _ (o2 hfl _ (Gen.ev_at 1 (fun k hk => ?_)))⟩
    obtain ⟨q, rfl⟩ : ∃ q, k = q + 1 := ⟨k - 1, by omega⟩
    simp only [impl_FirstFailure.l0]
    rw [if_neg (by rw [ints_length]; omega)]
end Go.Proofs.Ytaepaekagenfnaa.Mat
end
section
namespace Go.Proofs.Ytaepaekagenfnaa.Mat
open Go.RowKit Go.Proofs.Ytaepaekagenfnaa.Pr Go.Proofs.Ytaepaekagenfnaa.Sets Go.Proofs.YtaepaekagenfnaaW.PrintWords Go.Proofs.YtaepaekagenfnaaW.PrintLast Go.Proofs.YtaepaekagenfnaaW.PrintMore
set_option linter.unusedVariables false
theorem u64_small (e : Nat) (he : e < 62) : IntKind.u64.wrap (e : Int) = e := by
  unfold IntKind.wrap
  simp only [IntKind.bits, IntKind.signed, Bool.false_and, Bool.false_eq_true, if_false]
  omega
theorem l2Has (s e : Nat) (hs : s < 256) (he : e < 8) : spec_l2Has.f (s : Int) (e : Int) = some (s.testBit e) := by
  unfold spec_l2Has.f
  rw [u64_small e (by omega), if_pos (by omega), shr_bit s e (by omega) (by omega)]
theorem specExchange (m : Nat) (hm : m ≤ 8) (l : List Nat) (hn : l.length ≤ 1048576) (a b e : Nat) (ha : a < 256) (hb : b < 2 ^ m) (he : e < 8) (hae : a.testBit e = true) : Ev (fun k => spec_l4Exchange.f k (m : Int) (ints l) (a : Int) (b : Int) (e : Int)) (exch l a b e) := by
  have h256 := pow_le_256 hm
  unfold spec_l4Exchange.f
  have hle := bit_le a ha e he hae
  have key : ∀ f : Nat, f < m → a.testBit f = false → wrap64 ((wrap64 ((a : Int) - ((2 ^ e : Nat) : Int))) + ((2 ^ f : Nat) : Int)) = ((a - 2 ^ e + 2 ^ f : Nat) : Int) := fun f hf haf => by
    have h1 := swap_le a ha e he f (by omega) hae haf
    have h2 : 2 ^ f ≤ 256 := pow_le_256 (by omega)
    clear hae
    generalize (2 : Nat) ^ e = P at *
    generalize (2 : Nat) ^ f = Q at *
    rw [Gen.w64 (i := (a : Int) - (P : Int)) (by omega) (by omega), Gen.w64 (by omega) (by omega)]
    omega
  obtain ⟨o1, o2⟩ := ev_search (fun k f => spec_l4Exchange.l0 k (a : Int) (b : Int) (e : Int) f (m : Int) (ints l)) m (fun f => b.testBit f && !a.testBit f && l.contains (a - 2 ^ e + 2 ^ f)) (fun r => r = true)
    (by
      intro f hf hp
      rw [Bool.and_eq_true, Bool.and_eq_true] at hp
      obtain ⟨⟨h1, h2⟩, h3⟩ := hp
      have h2' : a.testBit f = false := by simpa using h2
      refine ⟨true, rfl, Gen.ev_at (l.length + 2) (fun k hk => ?_)⟩
      obtain ⟨q, rfl⟩ : ∃ q, k = q + 1 := ⟨k - 1, by omega⟩
      simp only [spec_l4Exchange.l0]
      rw [if_pos (by omega), l2Has b f (by omega) (by omega), h1]
      simp only [Option.bind_some, if_true]
      rw [l2Has a f ha (by omega), h2']
      simp only [Option.bind_some, Bool.false_eq_true, if_false]
      rw [u64_small e (by omega), u64_small f (by omega), if_pos (by omega), if_pos (by omega), shl_nat e (by omega), shl_nat f (by omega), key f hf h2', specHas l _ hn q (by omega), h3]
      rfl)
    (by
      intro f hf hp r hr
      by_cases h1 : b.testBit f = true
      · by_cases h2 : a.testBit f = true
        · refine Ev.step (fun k => ?_) hr
          simp only [spec_l4Exchange.l0]
          rw [if_pos (by omega), l2Has b f (by omega) (by omega), h1]
          simp only [Option.bind_some, if_true]
          rw [l2Has a f ha (by omega), h2]
          simp only [Option.bind_some, if_true]
          rw [Gen.w64s f (by omega)]
        · have h2' : a.testBit f = false := by simpa using h2
          have h3 : l.contains (a - 2 ^ e + 2 ^ f) = false := by
            rw [h1, h2'] at hp
            simpa using hp
          refine Ev.step (f := fun k => (spec_HasSet.f k (ints l) ((a - 2 ^ e + 2 ^ f : Nat) : Int)).bind fun t => (if t = true then (some true) else (spec_l4Exchange.l0 k (a : Int) (b : Int) (e : Int) ((f + 1 : Nat) : Int) (m : Int) (ints l)))) (fun k => ?_) ?_
          · simp only [spec_l4Exchange.l0]
            rw [if_pos (by omega), l2Has b f (by omega) (by omega), h1]
            simp only [Option.bind_some, if_true]
            rw [l2Has a f ha (by omega), h2']
            simp only [Option.bind_some, Bool.false_eq_true, if_false]
            rw [u64_small e (by omega), u64_small f (by omega), if_pos (by omega), if_pos (by omega), shl_nat e (by omega), shl_nat f (by omega), key f hf h2', Gen.w64s f (by omega)]
          · refine Ev.bind (Gen.ev_at (l.length + 1) (fun k hk => specHas l _ hn k (by omega))) ?_
            rw [h3]
            exact hr
      · have h1' : b.testBit f = false := by simpa using h1
        refine Ev.step (fun k => ?_) hr
        simp only [spec_l4Exchange.l0]
        rw [if_pos (by omega), l2Has b f (by omega) (by omega), h1']
        simp only [Option.bind_some, Bool.false_eq_true, if_false]
        rw [Gen.w64s f (by omega)]) m 0 (by omega)
  have e8 : ((List.range' 0 m).any fun f => b.testBit f && !a.testBit f && l.contains (a - 2 ^ e + 2 ^ f)) = exch l a b e := range8 m hm _ (fun j hj => by rw [bit_far hb hj]; rfl)
  rw [e8] at o1 o2
  cases hx : exch l a b e with
  | true =>
    obtain ⟨r, rfl, hE⟩ := o1 hx
    exact hE
  | false =>
    refine o2 hx _ (Gen.ev_at 1 (fun k hk => ?_))
    obtain ⟨q, rfl⟩ : ∃ q, k = q + 1 := ⟨k - 1, by omega⟩
    simp only [spec_l4Exchange.l0]
    rw [if_neg (by omega)]
theorem specFirst (m : Nat) (hm : m ≤ 8) (l : List Nat) (hl : ∀ s ∈ l, s < 2 ^ m) (hn : l.length ≤ 1048576) (hf : fam (m : Int) (ints l) = true) :
    ∃ x y z, Ev (fun k => spec_FirstFailure.f k (m : Int) (ints l)) (x, y, z, fails l) := by
  have h256 := pow_le_256 hm
  have hlt : ∀ i, i < l.length → l.getD i 0 < 256 := fun i hi => Nat.lt_of_lt_of_le (hl _ (getD_mem l 0 i hi)) h256
  have hltm : ∀ i, i < l.length → l.getD i 0 < 2 ^ m := fun i hi => hl _ (getD_mem l 0 i hi)
  have round : ∀ x y z : Nat, x < l.length → y < l.length → z < m → ∀ r, (((l.getD x 0).testBit z && !(l.getD y 0).testBit z && !exch l (l.getD x 0) (l.getD y 0) z) = true → r.2.2.2 = true → r = (((l.getD x 0 : Nat) : Int), ((l.getD y 0 : Nat) : Int), (z : Int), true) → Ev (fun k => spec_FirstFailure.l2 k (x : Int) (y : Int) (z : Int) (m : Int) (ints l)) r) ∧
      (((l.getD x 0).testBit z && !(l.getD y 0).testBit z && !exch l (l.getD x 0) (l.getD y 0) z) = false → Ev (fun k => spec_FirstFailure.l2 k (x : Int) (y : Int) ((z + 1 : Nat) : Int) (m : Int) (ints l)) r → Ev (fun k => spec_FirstFailure.l2 k (x : Int) (y : Int) (z : Int) (m : Int) (ints l)) r) := by
    intro x y z hx hy hz r
    have ha := hlt x hx
    have hb := hlt y hy
    have unf : ∀ k, spec_FirstFailure.l2 (k + 1) (x : Int) (y : Int) (z : Int) (m : Int) (ints l) = (if (l.getD x 0).testBit z = true then (if (l.getD y 0).testBit z = true then spec_FirstFailure.l2 k (x : Int) (y : Int) ((z + 1 : Nat) : Int) (m : Int) (ints l) else ((spec_l4Exchange.f k (m : Int) (ints l) ((l.getD x 0 : Nat) : Int) ((l.getD y 0 : Nat) : Int) (z : Int)).bind fun t => (if t = true then spec_FirstFailure.l2 k (x : Int) (y : Int) ((z + 1 : Nat) : Int) (m : Int) (ints l) else some (((l.getD x 0 : Nat) : Int), ((l.getD y 0 : Nat) : Int), (z : Int), true)))) else spec_FirstFailure.l2 k (x : Int) (y : Int) ((z + 1 : Nat) : Int) (m : Int) (ints l)) := fun k => by
      simp only [spec_FirstFailure.l2]
      rw [if_pos (by omega), if_pos (by omega), if_pos (by rw [ints_length]; omega), if_pos (by omega), if_pos (by rw [ints_length]; omega), ints_rd, ints_rd, l2Has _ z ha (by omega)]
      simp only [Option.bind_some]
      rw [l2Has _ z hb (by omega)]
      simp only [Option.bind_some]
      rw [Gen.w64s z (by omega)]
    cases h1 : (l.getD x 0).testBit z with
    | false =>
      refine ⟨fun h => by simp at h, fun _ hr => Ev.step (fun k => ?_) hr⟩
      rw [unf, h1, if_neg (by decide)]
    | true =>
      cases h2 : (l.getD y 0).testBit z with
      | true =>
        refine ⟨fun h => by simp at h, fun _ hr => Ev.step (fun k => ?_) hr⟩
        rw [unf, h1, h2, if_pos rfl, if_pos rfl]
      | false =>
        have hE := specExchange m hm l hn (l.getD x 0) (l.getD y 0) z ha (hltm y hy) (by omega) h1
        cases h3 : exch l (l.getD x 0) (l.getD y 0) z with
        | true =>
          rw [h3] at hE
          refine ⟨fun h => by simp at h, fun _ hr => Ev.step (fun k => ?_) (Ev.bind hE (f := fun k t => (if t = true then spec_FirstFailure.l2 k (x : Int) (y : Int) ((z + 1 : Nat) : Int) (m : Int) (ints l) else some (((l.getD x 0 : Nat) : Int), ((l.getD y 0 : Nat) : Int), (z : Int), true))) (by simp only [if_true]; exact hr))⟩
          rw [unf, h1, h2, if_pos rfl, if_neg (by decide)]
        | false =>
          rw [h3] at hE
          refine ⟨fun _ _ e => ?_, fun h => by simp at h⟩
          subst e
          refine Ev.step (fun k => ?_) (Ev.bind hE (f := fun k t => (if t = true then spec_FirstFailure.l2 k (x : Int) (y : Int) ((z + 1 : Nat) : Int) (m : Int) (ints l) else some (((l.getD x 0 : Nat) : Int), ((l.getD y 0 : Nat) : Int), (z : Int), true))) (by simp only [Bool.false_eq_true, if_false]; exact Ev.now _))
          rw [unf, h1, h2, if_pos rfl, if_neg (by decide)]
  have inner : ∀ x y : Nat, x < l.length → y < l.length → ∀ d i : Nat, i + d = m → _ := fun x y hx hy =>
    ev_search (fun k z => spec_FirstFailure.l2 k (x : Int) (y : Int) z (m : Int) (ints l)) m
      (fun z => (l.getD x 0).testBit z && !(l.getD y 0).testBit z && !exch l (l.getD x 0) (l.getD y 0) z) (fun r => r.2.2.2 = true)
      (fun z hz hp => ⟨_, rfl, (round x y z hx hy hz (((l.getD x 0 : Nat) : Int), ((l.getD y 0 : Nat) : Int), (z : Int), true)).1 hp rfl rfl⟩)
      (fun z hz hp r hr => (round x y z hx hy hz r).2 hp hr)
  have innerAny : ∀ x y : Nat, x < l.length → ((List.range' 0 m).any fun z => (l.getD x 0).testBit z && !(l.getD y 0).testBit z && !exch l (l.getD x 0) (l.getD y 0) z) = (List.range' 0 8).any fun e => (l.getD x 0).testBit e && !(l.getD y 0).testBit e && !exch l (l.getD x 0) (l.getD y 0) e := fun x y hx => range8 m hm _ (fun j hj => by rw [bit_far (hltm x hx) hj]; rfl)
  have middle : ∀ x : Nat, x < l.length → ∀ d i : Nat, i + d = l.length → _ := fun x hx =>
    ev_search (fun k y => spec_FirstFailure.l1 k (x : Int) y (m : Int) (ints l)) l.length
      (fun y => (List.range' 0 8).any fun e => (l.getD x 0).testBit e && !(l.getD y 0).testBit e && !exch l (l.getD x 0) (l.getD y 0) e) (fun r => r.2.2.2 = true)
      (by
        intro y hy hp
        obtain ⟨h1, _⟩ := inner x y hx hy m 0 (by omega)
        rw [innerAny x y hx] at h1
        obtain ⟨r, hr, hE⟩ := h1 hp
        refine ⟨r, hr, Ev.step (fun k => ?_) hE⟩
        simp only [spec_FirstFailure.l1]
        rw [if_pos (by rw [ints_length]; omega)]
        rfl)
      (by
        intro y hy hp r hr
        obtain ⟨_, h2⟩ := inner x y hx hy m 0 (by omega)
        rw [innerAny x y hx] at h2
        refine Ev.step (fun k => ?_) (h2 hp r (Ev.step (fun k => by
          simp only [spec_FirstFailure.l2]
          rw [if_neg (by omega), Gen.w64s y (by omega)]) hr))
        simp only [spec_FirstFailure.l1]
        rw [if_pos (by rw [ints_length]; omega)]
        rfl)
  have middleAny : ∀ x : Nat, ((List.range' 0 l.length).any fun y => (List.range' 0 8).any fun e => (l.getD x 0).testBit e && !(l.getD y 0).testBit e && !exch l (l.getD x 0) (l.getD y 0) e) = l.any fun b => (List.range' 0 8).any fun e => (l.getD x 0).testBit e && !b.testBit e && !exch l (l.getD x 0) b e := fun x => any_index l 0 (fun b => (List.range' 0 8).any fun e => (l.getD x 0).testBit e && !b.testBit e && !exch l (l.getD x 0) b e)
  obtain ⟨o1, o2⟩ := ev_search (fun k x => spec_FirstFailure.l0 k x (m : Int) (ints l)) l.length
      (fun x => l.any fun b => (List.range' 0 8).any fun e => (l.getD x 0).testBit e && !b.testBit e && !exch l (l.getD x 0) b e) (fun r => r.2.2.2 = true)
      (by
        intro x hx hp
        obtain ⟨h1, _⟩ := middle x hx l.length 0 (by omega)
        rw [middleAny] at h1
        obtain ⟨r, hr, hE⟩ := h1 hp
        refine ⟨r, hr, Ev.step (fun k => ?_) hE⟩
        simp only [spec_FirstFailure.l0]
        rw [if_pos (by rw [ints_length]; omega)]
        rfl)
      (by
        intro x hx hp r hr
        obtain ⟨_, h2⟩ := middle x hx l.length 0 (by omega)
        rw [middleAny] at h2
        refine Ev.step (fun k => ?_) (h2 hp r (Ev.step (fun k => by
          simp only [spec_FirstFailure.l1]
          rw [if_neg (by rw [ints_length]; omega), Gen.w64s x (by omega)]) hr))
        simp only [spec_FirstFailure.l0]
        rw [if_pos (by rw [ints_length]; omega)]
        rfl) l.length 0 (by omega)
  have outerAny : ((List.range' 0 l.length).any fun x => l.any fun b => (List.range' 0 8).any fun e => (l.getD x 0).testBit e && !b.testBit e && !exch l (l.getD x 0) b e) = fails l := by
    unfold fails
    exact any_index l 0 (fun a => l.any fun b => (List.range' 0 8).any fun e => a.testBit e && !b.testBit e && !exch l a b e)
  rw [outerAny] at o1 o2
  have start : ∀ r, Ev (fun k => spec_FirstFailure.l0 k 0 (m : Int) (ints l)) r → Ev (fun k => spec_FirstFailure.f k (m : Int) (ints l)) r := fun r hr => by
    unfold spec_FirstFailure.f
    refine Ev.bind (Gen.ev_at (l.length + 1) (fun k hk => specFamily (m : Int) (ints l) (by rw [ints_length]; exact hn) k (by rw [ints_length]; omega))) ?_
    rw [hf]
    simp only [if_true]
    exact hr
  cases hfl : fails l with
  | true =>
    obtain ⟨⟨x, y, z, b⟩, hb, hE⟩ := o1 hfl
    simp only at hb
    subst hb
    exact ⟨x, y, z, start _ hE⟩
  | false =>
    refine ⟨0, 0, 0, start _ (o2 hfl _ (Gen.ev_at 1 (fun k hk => ?_)))⟩
    obtain ⟨q, rfl⟩ : ∃ q, k = q + 1 := ⟨k - 1, by omega⟩
    simp only [spec_FirstFailure.l0]
    rw [if_neg (by rw [ints_length]; omega)]
def isMat (n : Int) (l : List Int) : Bool := fam n l && decide (0 < l.length) && !fails (l.map Int.toNat)
theorem toNat_ints (l : List Nat) : (ints l).map Int.toNat = l := by
  unfold ints
  rw [List.map_map]
  conv => rhs; rw [← List.map_id l]
  exact List.map_congr_left fun x _ => by simp
theorem implMat (n : Int) (l : List Int) (hn : l.length ≤ 1048576) : Ev (fun k => impl_IsMatroid.f k n l) (isMat n l) := by
  unfold impl_IsMatroid.f isMat
  have hF : Ev (fun k => impl_IsFamily.f k n l) (fam n l) := Gen.ev_at (l.length + 1) (fun k hk => implFamily n l hn k (by omega))
  cases hf : fam n l with
  | false =>
    rw [hf] at hF
    refine Ev.bind (a := (0, 0, 0, false)) ?_ (Ev.bind hF (by simp only [Bool.false_eq_true, if_false]; exact Ev.now _))
    unfold impl_FirstFailure.f
    exact Ev.bind hF (by simp only [Bool.false_eq_true, if_false]; exact Ev.now _)
  | true =>
    rw [hf] at hF
    obtain ⟨m, lN, rfl, hm, rfl, hl⟩ := fam_nat hf
    rw [toNat_ints]
    rw [ints_length] at hn
    obtain ⟨x, y, z, hE⟩ := implFirst m hm lN hl hn hf
    refine Ev.bind hE (Ev.bind hF ?_)
    simp only [if_true, ints_length]
    by_cases h0 : 0 < lN.length
    · simp only [if_pos (show (lN.length : Int) > 0 by omega), decide_eq_true h0, Bool.true_and]
      exact Ev.now _
    · simp only [if_neg (show ¬ (lN.length : Int) > 0 by omega), decide_eq_false h0, Bool.true_and, Bool.false_and]
      exact Ev.now _
theorem specMat (n : Int) (l : List Int) (hn : l.length ≤ 1048576) : Ev (fun k => spec_IsMatroid.f k n l) (isMat n l) := by
  unfold spec_IsMatroid.f isMat
  have hF : Ev (fun k => spec_IsFamily.f k n l) (fam n l) := Gen.ev_at (l.length + 1) (fun k hk => specFamily n l hn k (by omega))
  cases hf : fam n l with
  | false =>
    rw [hf] at hF
    refine Ev.bind (a := (0, 0, 0, false)) ?_ (Ev.bind hF (by simp only [Bool.false_eq_true, if_false]; exact Ev.now _))
    unfold spec_FirstFailure.f
    exact Ev.bind hF (by simp only [Bool.false_eq_true, if_false]; exact Ev.now _)
  | true =>
    rw [hf] at hF
    obtain ⟨m, lN, rfl, hm, rfl, hl⟩ := fam_nat hf
    rw [toNat_ints]
    rw [ints_length] at hn
    obtain ⟨x, y, z, hE⟩ := specFirst m hm lN hl hn hf
    refine Ev.bind hE (Ev.bind hF ?_)
    simp only [if_true, ints_length]
    by_cases h0 : 0 < lN.length
    · simp only [if_pos (show (lN.length : Int) > 0 by omega), decide_eq_true h0, Bool.true_and]
      exact Ev.now _
    · simp only [if_neg (show ¬ (lN.length : Int) > 0 by omega), decide_eq_false h0, Bool.true_and, Bool.false_and]
      exact Ev.now _
end Go.Proofs.Ytaepaekagenfnaa.Mat
end
section
namespace Go.Proofs.Ytaepaekagenfnaa.Rank
open Go.RowKit Go.Proofs.Ytaepaekagenfnaa.Pr Go.Proofs.Ytaepaekagenfnaa.Sets Go.Proofs.Ytaepaekagenfnaa.Mat Go.Proofs.YtaepaekagenfnaaW.PrintWords Go.Proofs.YtaepaekagenfnaaW.PrintLast Go.Proofs.YtaepaekagenfnaaW.PrintMore
set_option linter.unusedVariables false
theorem foldl_index {σ : Type} (l : List Nat) (f : σ → Nat → σ) (s : σ) : (List.range' 0 l.length).foldl (fun s i => f s (l.getD i 0)) s = l.foldl f s := by
  have e : l = (List.range' 0 l.length).map fun i => l.getD i 0 := by
    rw [← List.range_eq_range', Gen.map_getD']
  conv => rhs; rw [e]
  rw [List.foldl_map]
theorem or_lt {a b n : Nat} (ha : a < 2 ^ n) (hb : b < 2 ^ n) : a ||| b < 2 ^ n := Nat.or_lt_two_pow ha hb
theorem pow_lt {e m : Nat} (h : e < m) : 2 ^ e < 2 ^ m := Nat.pow_lt_pow_right (by decide) h
theorem u64_nat (m : Nat) (h : m < 2 ^ 62) : IntKind.u64.wrap (m : Int) = m := by
  rw [IntKind.wrap_u64]
  omega
end Go.Proofs.Ytaepaekagenfnaa.Rank
end
section
namespace Go.Proofs.Ytaepaekagenfnaa.Flat
open Go.RowKit Go.Proofs.Ytaepaekagenfnaa.Pr Go.Proofs.Ytaepaekagenfnaa.Sets Go.Proofs.Ytaepaekagenfnaa.Mat Go.Proofs.Ytaepaekagenfnaa.Rank Go.Proofs.YtaepaekagenfnaaW.PrintWords Go.Proofs.YtaepaekagenfnaaW.PrintLast Go.Proofs.YtaepaekagenfnaaW.PrintMore
set_option linter.unusedVariables false
theorem any_search {γ : Type} (l : List Int) (x : Int) (L : Nat → Int → Option γ) (yes no : γ) (hn : l.length ≤ 1048576)
    (hstep : ∀ k i, i < l.length → L (k + 1) (i : Int) = if l.getD i 0 = x then some yes else L k ((i + 1 : Nat) : Int))
    (hend : ∀ k, L (k + 1) (l.length : Int) = some no) : Ev (fun k => L k 0) (if l.contains x = true then yes else no) := by
  have key : ∀ d i : Nat, i + d = l.length → Ev (fun k => L k (i : Int)) (if (l.drop i).contains x = true then yes else no) := by
    intro d
    induction d with
    | zero =>
      intro i hi
      obtain rfl : i = l.length := by omega
      rw [List.drop_length]
      refine Gen.ev_at 1 (fun k hk => ?_)
      obtain ⟨q, rfl⟩ : ∃ q, k = q + 1 := ⟨k - 1, by omega⟩
      rw [hend]
      rfl
    | succ d ih =>
      intro i hi
      have hlt : i < l.length := by omega
      have hd : l.drop i = l.getD i 0 :: l.drop (i + 1) := by
        rw [List.drop_eq_getElem_cons hlt]
        simp [List.getD, hlt]
      rw [hd, List.contains_cons]
      by_cases e : l.getD i 0 = x
      · refine Gen.ev_at 1 (fun k hk => ?_)
        obtain ⟨q, rfl⟩ : ∃ q, k = q + 1 := ⟨k - 1, by omega⟩
        rw [hstep q i hlt, if_pos e, e]
        simp
      · have e' : (x == l.getD i 0) = false := by
          rw [beq_eq_false_iff_ne]
          exact fun h => e h.symm
        rw [e', Bool.false_or]
        exact Ev.step (fun k => by rw [hstep k i hlt, if_neg e]) (ih (i + 1) (by omega))
  have := key l.length 0 (by omega)
  rw [List.drop_zero] at this
  exact this
theorem specHasI (l : List Int) (x : Int) (hn : l.length ≤ 1048576) : Ev (fun k => spec_HasSet.f k l x) (l.contains x) := by
  unfold spec_HasSet.f
  have := any_search l x (fun k i => spec_HasSet.l0 k l x i) true false hn (fun k i hi => by
    simp only [spec_HasSet.l0]
    rw [if_pos (by omega), if_pos (by omega), Gen.rd_nat, Gen.w64s i (by omega)]) (fun k => by
    simp only [spec_HasSet.l0]
    rw [if_neg (by omega)])
  cases h : l.contains x <;> rw [h] at this <;> exact this
theorem implHasI (l : List Int) (x : Int) (hn : l.length ≤ 1048576) : Ev (fun k => impl_HasSet.f k l x) (l.contains x) := by
  unfold impl_HasSet.f slices_Contains_int_int.f slices_Index_int_int.f
  have key : ∀ d i : Nat, i + d = l.length → ∃ r, Ev (fun k => slices_Index_int_int.l0 k l x (l.length : Int) (i : Int)) r ∧ decide (r ≥ 0) = (l.drop i).contains x := by
    intro d
    induction d with
    | zero =>
      intro i hi
      obtain rfl : i = l.length := by omega
      refine ⟨-1, Gen.ev_at 1 (fun k hk => ?_), by rw [List.drop_length]; rfl⟩
      obtain ⟨q, rfl⟩ : ∃ q, k = q + 1 := ⟨k - 1, by omega⟩
      simp only [slices_Index_int_int.l0]
      rw [if_neg (by omega)]
    | succ d ih =>
      intro i hi
      have hlt : i < l.length := by omega
      have hd : l.drop i = l.getD i 0 :: l.drop (i + 1) := by
        rw [List.drop_eq_getElem_cons hlt]
        simp [List.getD, hlt]
      rw [hd, List.contains_cons]
      by_cases e : x = l.getD i 0
      · refine ⟨(i : Int), Gen.ev_at 1 (fun k hk => ?_), ?_⟩
        · obtain ⟨q, rfl⟩ : ∃ q, k = q + 1 := ⟨k - 1, by omega⟩
          simp only [slices_Index_int_int.l0]
          rw [if_pos (by omega), if_pos (by omega), if_pos (by omega), Gen.rd_nat, if_pos e]
        · rw [beq_iff_eq.2 e, Bool.true_or, decide_eq_true (by omega)]
      · obtain ⟨r, h1, h2⟩ := ih (i + 1) (by omega)
        refine ⟨r, Ev.step (fun k => ?_) h1, ?_⟩
        · simp only [slices_Index_int_int.l0]
          rw [if_pos (by omega), if_pos (by omega), if_pos (by omega), Gen.rd_nat, if_neg e, Gen.w64s i (by omega)]
        · rw [h2, beq_eq_false_iff_ne.2 e, Bool.false_or]
  obtain ⟨r, h1, h2⟩ := key l.length 0 (by omega)
  rw [List.drop_zero] at h2
  refine Ev.bind (a := decide (r ≥ 0)) (Ev.bind h1 (Ev.now _)) ?_
  rw [h2]
  exact Ev.now _
theorem mat_nat {n : Int} {l : List Int} (h : isMat n l = true) : ∃ (m : Nat) (lN : List Nat), n = m ∧ m ≤ 8 ∧ l = ints lN ∧ (∀ s ∈ lN, s < 2 ^ m) ∧ 0 < lN.length ∧ fails lN = false := by
  unfold isMat at h
  rw [Bool.and_eq_true, Bool.and_eq_true, decide_eq_true_eq] at h
  obtain ⟨⟨h1, h2⟩, h3⟩ := h
  obtain ⟨m, lN, rfl, hm, rfl, hl⟩ := fam_nat h1
  rw [toNat_ints] at h3
  rw [ints_length] at h2
  exact ⟨m, lN, rfl, hm, rfl, hl, h2, by simpa using h3⟩
theorem isSet_of {m : Nat} {x : Nat} (hm : m ≤ 8) (h : x < 2 ^ m) : isSet (m : Int) (x : Int) = true := by
  unfold isSet
  rw [decide_eq_true_eq, Int.toNat_natCast]
  refine ⟨by omega, by omega, by omega, ?_⟩
  exact_mod_cast h
theorem full_impl (m : Nat) (hm : m ≤ 8) : impl_FullSet.f (m : Int) = some ((2 ^ m - 1 : Nat) : Int) := by
  have : ∀ m : Nat, m < 9 → impl_FullSet.f (m : Int) = some ((2 ^ m - 1 : Nat) : Int) := by decide +kernel
  exact this m (by omega)
theorem full_spec (m : Nat) (hm : m ≤ 8) : spec_FullSet.f (m : Int) = some ((2 ^ m - 1 : Nat) : Int) := by
  have : ∀ m : Nat, m < 9 → spec_FullSet.f (m : Int) = some ((2 ^ m - 1 : Nat) : Int) := by decide +kernel
  exact this m (by omega)
theorem foldl_filter (p : Nat → Bool) (q : List Nat) : (q.foldl (fun (s : List Int) j => if p j = true then s ++ [(j : Int)] else s) []) = ints (q.filter p) := by
  rw [Gen.foldl_append, List.nil_append]
  rfl
end Go.Proofs.Ytaepaekagenfnaa.Flat
end
section
namespace Go.Proofs.Ytaepaekagenfnaa.Act
open Go.RowKit Go.Proofs.Ytaepaekagenfnaa.Pr Go.Proofs.Ytaepaekagenfnaa.Sets Go.Proofs.Ytaepaekagenfnaa.Mat Go.Proofs.Ytaepaekagenfnaa.Rank Go.Proofs.Ytaepaekagenfnaa.Flat Go.Proofs.YtaepaekagenfnaaW.PrintWords Go.Proofs.YtaepaekagenfnaaW.PrintLast Go.Proofs.YtaepaekagenfnaaW.PrintMore
set_option linter.unusedVariables false
theorem list_loop {σ γ : Type} (L : Nat → σ → Int → Option γ) (q : List Nat) (f : σ → Nat → σ) (P : Nat → σ → Prop) (r : γ) (s : σ)
    (hround : ∀ i s, i < q.length → P i s → P (i + 1) (f s (q.getD i 0)) ∧ (Ev (fun k => L k (f s (q.getD i 0)) ((i + 1 : Nat) : Int)) r → Ev (fun k => L k s (i : Int)) r))
    (hs : P 0 s) (hend : P q.length (q.foldl f s) → Ev (fun k => L k (q.foldl f s) (q.length : Int)) r) : Ev (fun k => L k s 0) r := by
  have := Gen.ev_loop L q.length (fun i s => f s (q.getD i 0)) P r (fun i s hi hp => hround i s hi hp) q.length 0 s (by omega) hs
  rw [foldl_index q f s] at this
  exact this hend
theorem elems_getD {s i : Nat} (h : i < (elems s).length) : (elems s).getD i 0 < 8 ∧ s.testBit ((elems s).getD i 0) = true := elems_lt (getD_mem _ 0 i h)
def circ (l : List Nat) (b e : Nat) : Nat := (elems b).foldl (fun c f => if l.contains (b - 2 ^ f + 2 ^ e) = true then c ||| 2 ^ f else c) (2 ^ e)
theorem implCirc (n : Int) (l : List Nat) (b e : Nat) (hb : b < 256) (he : e < 8) (hbe : b.testBit e = false) (hn : l.length ≤ 1048576) : Ev (fun k => impl_circuit.f k n (ints l) (b : Int) (e : Int)) (circ l b e : Int) ∧ circ l b e < 256 ∧ (circ l b e).testBit e = true := by
  have hp : 2 ^ e < 2 ^ 8 := pow_lt he
  have hinv : circ l b e < 256 ∧ (circ l b e).testBit e = true := by
    unfold circ
    have : ∀ (q : List Nat) (c : Nat), (∀ f ∈ q, f < 8) → c < 2 ^ 8 → c.testBit e = true → (q.foldl (fun c f => if l.contains (b - 2 ^ f + 2 ^ e) = true then c ||| 2 ^ f else c) c) < 2 ^ 8 ∧ (q.foldl (fun c f => if l.contains (b - 2 ^ f + 2 ^ e) = true then c ||| 2 ^ f else c) c).testBit e = true := by
      intro q
      induction q with
      | nil => exact fun c _ h1 h2 => ⟨h1, h2⟩
      | cons a q ih =>
        intro c hq h1 h2
        rw [List.foldl_cons]
        have ha := hq a (by simp)
        refine ih _ (fun f hf => hq f (by simp [hf])) ?_ ?_
        · split
          · exact or_lt h1 (pow_lt ha)
          · exact h1
        · split
          · rw [Nat.testBit_or, h2]; rfl
          · exact h2
    exact this (elems b) (2 ^ e) (fun f hf => (elems_lt hf).1) hp (by rw [Nat.testBit_two_pow]; simp)
  refine ⟨?_, hinv⟩
  unfold impl_circuit.f
  simp only [if_pos (show (0 : Int) ≤ (e : Int) by omega)]
  refine Ev.bind (implElements b hb) ?_
  rw [shl_nat e (by omega)]
  refine list_loop (fun k (c : Nat) i => impl_circuit.l0 k (b : Int) (e : Int) (c : Int) (ints (elems b)) ((ints (elems b)).length : Int) i n (ints l)) (elems b) (fun c f => if l.contains (b - 2 ^ f + 2 ^ e) = true then c ||| 2 ^ f else c) (fun _ c => c < 256) (circ l b e : Int) (2 ^ e) (fun i c hi hc => ?_) hp (fun _ => Gen.ev_at 1 (fun k hk => ?_))
  · obtain ⟨h8, hbit⟩ := elems_getD hi
    have hrd := ints_rd (elems b) i
    generalize hf : (elems b).getD i 0 = f at *
    have hpf : 2 ^ f < 2 ^ 8 := pow_lt h8
    refine ⟨?_, fun h => ?_⟩
    · show (if _ then _ else _) < _
      split
      · exact or_lt (n := 8) hc hpf
      · exact hc
    · refine Ev.step (f := fun k => (impl_HasSet.f k (ints l) ((b - 2 ^ f + 2 ^ e : Nat) : Int)).bind fun t => (if t = true then (impl_circuit.l0 k (b : Int) (e : Int) ((c ||| 2 ^ f : Nat) : Int) (ints (elems b)) ((ints (elems b)).length : Int) ((i + 1 : Nat) : Int) n (ints l)) else (impl_circuit.l0 k (b : Int) (e : Int) (c : Int) (ints (elems b)) ((ints (elems b)).length : Int) ((i + 1 : Nat) : Int) n (ints l)))) (fun k => ?_) ?_
      · simp only [impl_circuit.l0]
        rw [if_pos (by rw [ints_length]; omega), if_pos (by omega), if_pos (by rw [ints_length]; omega), hrd, if_pos (by omega), if_pos (by omega), shl_nat f (by omega), shl_nat e (by omega), andNot_nat b _ (by omega), or_nat _ _ (by have := diff_lt (b := 2 ^ f) (n := 8) hb; omega) (by omega), swap_eq b hb f h8 e he hbit hbe, or_nat c _ (by omega) (by omega), Gen.w64s i (by have := elems_length b; omega)]
      · refine Ev.bind (Gen.ev_at (l.length + 1) (fun k hk => implHas l _ hn k (by omega))) ?_
        by_cases hx : l.contains (b - 2 ^ f + 2 ^ e) = true
        · rw [if_pos hx] at h
          simp only [hx, if_true]
          exact h
        · rw [if_neg hx] at h
          simp only [if_neg hx]
          exact h
  · obtain ⟨q, rfl⟩ : ∃ q, k = q + 1 := ⟨k - 1, by omega⟩
    simp only [impl_circuit.l0]
    rw [if_neg (by rw [ints_length]; omega)]
    rfl
theorem foldl_cond {σ : Type} (p : Nat → Bool) (f : σ → Nat → σ) (q : List Nat) (s : σ) : (q.filter p).foldl f s = q.foldl (fun s j => if p j = true then f s j else s) s := by
  rw [List.foldl_filter]
theorem foldl_congr {σ : Type} (f g : σ → Nat → σ) (q : List Nat) (s : σ) (h : ∀ e ∈ q, ∀ s, f s e = g s e) : q.foldl f s = q.foldl g s := by
  induction q generalizing s with
  | nil => rfl
  | cons a q ih =>
    rw [List.foldl_cons, List.foldl_cons, h a (by simp)]
    exact ih _ fun e he => h e (by simp [he])
theorem add_or : ∀ c, c < 256 → ∀ f, f < 8 → c.testBit f = false → c + 2 ^ f = c ||| 2 ^ f := by decide +kernel
theorem specCirc (m : Nat) (hm : m ≤ 8) (l : List Nat) (b e : Nat) (hb : b < 2 ^ m) (he : e < m) (hbe : b.testBit e = false) (hn : l.length ≤ 1048576) (hM : isMat (m : Int) (ints l) = true) (hmem : l.contains b = true) : Ev (fun k => spec_CircuitOf.f k (m : Int) (ints l) (b : Int) (e : Int)) (circ l b e : Int) := by
  have h256 := pow_le_256 hm
  have hp : 2 ^ e < 2 ^ 8 := pow_lt (by omega)
  have hMe := specMat (m : Int) (ints l) (by rw [ints_length]; exact hn)
  rw [hM] at hMe
  unfold spec_CircuitOf.f
  refine Ev.bind hMe ?_
  simp only [if_true]
  refine Ev.bind (specHasI (ints l) (b : Int) (by rw [ints_length]; exact hn)) ?_
  rw [ints_contains, hmem]
  have hin : spec_l1In.f (e : Int) 0 (wrap64 ((m : Int) - 1)) = some true := by
    unfold spec_l1In.f
    rw [Gen.w64 (by omega) (by omega), if_pos (by omega), decide_eq_true (by omega)]
  simp only [if_true, hin, Option.bind_some, l2Has b e (by omega) (by omega), hbe]
  refine Ev.step (f := fun k => spec_CircuitOf.l0 k (b : Int) (e : Int) ((2 ^ e : Nat) : Int) 0 (m : Int) (ints l)) (fun k => ?_) ?_ |> fun h => h
  · simp only [spec_CircuitOf.j0]
    rw [if_neg (by decide), u64_nat e (by omega), if_pos (by omega), shl_nat e (by omega)]
  · have efold : circ l b e = (List.range' 0 m).foldl (fun c f => if b.testBit f = true then (if l.contains (b - 2 ^ f + 2 ^ e) = true then c ||| 2 ^ f else c) else c) (2 ^ e) := by
      unfold circ elems
      rw [foldl_cond, show (8 : Nat) = m + (8 - m) by omega, Gen.foldl_more _ m (8 - m) _ (fun j hj s => by rw [bit_far hb hj]; simp)]
    refine Gen.ev_loop (fun k (c : Nat) i => spec_CircuitOf.l0 k (b : Int) (e : Int) (c : Int) i (m : Int) (ints l)) m (fun f c => if b.testBit f = true then (if l.contains (b - 2 ^ f + 2 ^ e) = true then c ||| 2 ^ f else c) else c) (fun i c => c < 256 ∧ ∀ j, i ≤ j → j ≠ e → c.testBit j = false) (circ l b e : Int) (fun f c hf hc => ⟨?_, fun h => ?_⟩) m 0 (2 ^ e) (by omega) ⟨hp, fun j _ hj => by rw [Nat.testBit_two_pow]; exact decide_eq_false (fun h => hj h.symm)⟩ (fun _ => Gen.ev_at 1 (fun k hk => ?_))
    · have hpf : 2 ^ f < 2 ^ 8 := pow_lt (by omega)
      have hstay : c < 256 ∧ ∀ j, f + 1 ≤ j → j ≠ e → c.testBit j = false := ⟨hc.1, fun j hj => hc.2 j (by omega)⟩
      split
      · split
        · refine ⟨or_lt (n := 8) hc.1 hpf, fun j hj hje => ?_⟩
          rw [Nat.testBit_or, hc.2 j (by omega) hje, Nat.testBit_two_pow, decide_eq_false (by omega)]
          rfl
        · exact hstay
      · exact hstay
    · have hpf : 2 ^ f < 2 ^ 8 := pow_lt (by omega)
      cases hbf : b.testBit f with
      | false =>
        rw [hbf] at h
        simp only [Bool.false_eq_true, if_false] at h
        refine Ev.step (fun k => ?_) h
        simp only [spec_CircuitOf.l0]
        rw [if_pos (by omega), l2Has b f (by omega) (by omega), hbf, Gen.w64s f (by omega)]
        rfl
      | true =>
        rw [hbf] at h
        simp only [if_true] at h
        have hfe : f ≠ e := fun h => by rw [h, hbe] at hbf; exact Bool.noConfusion hbf
        have hle := bit_le b (by omega) f (by omega) hbf
        have hw : wrap64 ((wrap64 ((b : Int) - ((2 ^ f : Nat) : Int))) + ((2 ^ e : Nat) : Int)) = ((b - 2 ^ f + 2 ^ e : Nat) : Int) := by
          clear hbf h
          generalize (2 : Nat) ^ f = P at *
          generalize (2 : Nat) ^ e = Q at *
          rw [Gen.w64 (i := (b : Int) - (P : Int)) (by omega) (by omega), Gen.w64 (by omega) (by omega)]
          omega
        have hadd : wrap64 ((c : Int) + ((2 ^ f : Nat) : Int)) = ((c ||| 2 ^ f : Nat) : Int) := by
          rw [← add_or c hc.1 f (by omega) (hc.2 f (by omega) hfe)]
          have hc1 := hc.1
          generalize (2 : Nat) ^ f = P at hpf ⊢
          rw [Gen.w64 (by omega) (by omega)]
          omega
        refine Ev.step (f := fun k => (spec_HasSet.f k (ints l) ((b - 2 ^ f + 2 ^ e : Nat) : Int)).bind fun t => (if t = true then (spec_CircuitOf.l0 k (b : Int) (e : Int) ((c ||| 2 ^ f : Nat) : Int) ((f + 1 : Nat) : Int) (m : Int) (ints l)) else (spec_CircuitOf.l0 k (b : Int) (e : Int) (c : Int) ((f + 1 : Nat) : Int) (m : Int) (ints l)))) (fun k => ?_) ?_
        · simp only [spec_CircuitOf.l0]
          rw [if_pos (by omega), l2Has b f (by omega) (by omega), hbf]
          simp only [Option.bind_some, if_true]
          rw [u64_nat f (by omega), u64_nat e (by omega), if_pos (by omega), if_pos (by omega), shl_nat f (by omega), shl_nat e (by omega), hw, hadd, Gen.w64s f (by omega)]
        · refine Ev.bind (Gen.ev_at (l.length + 1) (fun k hk => specHas l _ hn k (by omega))) ?_
          by_cases hx : l.contains (b - 2 ^ f + 2 ^ e) = true
          · rw [if_pos hx] at h
            simp only [hx, if_true]
            exact h
          · rw [if_neg hx] at h
            simp only [if_neg hx]
            exact h
    · obtain ⟨q, rfl⟩ : ∃ q, k = q + 1 := ⟨k - 1, by omega⟩
      simp only [spec_CircuitOf.l0]
      rw [if_neg (by omega), efold]
theorem specCircNone (n : Int) (l : List Int) (a e : Int) (hn : l.length ≤ 1048576) (h : (isMat n l && l.contains a) = false) : Ev (fun k => spec_CircuitOf.f k n l a e) 0 := by
  have hend : ∀ n l, Ev (fun k => spec_CircuitOf.j0 k a e true n l) 0 := fun n l => Gen.ev_at 1 (fun k hk => by
    obtain ⟨q, rfl⟩ : ∃ q, k = q + 1 := ⟨k - 1, by omega⟩
    simp only [spec_CircuitOf.j0]
    rw [if_pos trivial])
  unfold spec_CircuitOf.f
  refine Ev.bind (specMat n l hn) ?_
  cases hM : isMat n l with
  | false => simp only [Bool.false_eq_true, if_false]; exact hend _ _
  | true =>
    rw [hM, Bool.true_and] at h
    simp only [if_true]
    refine Ev.bind (specHasI l a hn) ?_
    rw [h]
    simp only [Bool.false_eq_true, if_false]
    exact hend _ _
theorem specCircIn (m : Nat) (hm : m ≤ 8) (l : List Nat) (b e : Nat) (hb : b < 2 ^ m) (he : e < m) (hbe : b.testBit e = true) (hn : l.length ≤ 1048576) (hM : isMat (m : Int) (ints l) = true) (hmem : l.contains b = true) : Ev (fun k => spec_CircuitOf.f k (m : Int) (ints l) (b : Int) (e : Int)) 0 := by
  have h256 := pow_le_256 hm
  have hMe := specMat (m : Int) (ints l) (by rw [ints_length]; exact hn)
  rw [hM] at hMe
  unfold spec_CircuitOf.f
  refine Ev.bind hMe ?_
  simp only [if_true]
  refine Ev.bind (specHasI (ints l) (b : Int) (by rw [ints_length]; exact hn)) ?_
  rw [ints_contains, hmem]
  have hin : spec_l1In.f (e : Int) 0 (wrap64 ((m : Int) - 1)) = some true := by
    unfold spec_l1In.f
    rw [Gen.w64 (by omega) (by omega), if_pos (by omega), decide_eq_true (by omega)]
  simp only [if_true, hin, Option.bind_some, l2Has b e (by omega) (by omega), hbe]
  exact Gen.ev_at 1 (fun k hk => by
    obtain ⟨q, rfl⟩ : ∃ q, k = q + 1 := ⟨k - 1, by omega⟩
    simp only [spec_CircuitOf.j0]
    rw [if_pos trivial])
def least (c : Nat) : Nat := (elems c).headD 0
theorem specLeast : ∀ c : Nat, c < 256 → c ≠ 0 → spec_l24Least.f (c : Int) = some ((2 ^ least c : Nat) : Int) := by decide +kernel
theorem elems_pos : ∀ c : Nat, c < 256 → c ≠ 0 → 0 < (elems c).length := by decide +kernel
theorem implLeast (c : Nat) (h : c < 256) (h0 : c ≠ 0) : Ev (fun k => impl_leastElement.f k (c : Int)) (least c : Int) := by
  unfold impl_leastElement.f
  refine Ev.bind (implElements c h) ?_
  have := elems_pos c h h0
  simp only [if_pos (show (0 : Int) < ((ints (elems c)).length : Int) by rw [ints_length]; omega)]
  have e : rd (ints (elems c)) 0 = ((least c : Nat) : Int) := by
    have := ints_rd (elems c) 0
    rw [show ((0 : Nat) : Int) = (0 : Int) from rfl] at this
    rw [this]
    unfold least
    cases elems c <;> rfl
  rw [e]
  exact Ev.now _
def actv (m : Nat) (l : List Nat) (b : Nat) : Nat := (List.range' 0 m).foldl (fun o e => if b.testBit e = true then o else if least (circ l b e) = e then o ||| 2 ^ e else o) 0
def actvI (n : Int) (l : List Int) (a : Int) : Int := if (isMat n l && l.contains a) = true then (actv n.toNat (l.map Int.toNat) a.toNat : Int) else 0
theorem base_nat {n : Int} {l : List Int} {a : Int} (h : (isMat n l && l.contains a) = true) : ∃ (m : Nat) (lN : List Nat) (b : Nat), n = m ∧ m ≤ 8 ∧ l = ints lN ∧ (∀ s ∈ lN, s < 2 ^ m) ∧ a = b ∧ b < 2 ^ m ∧ lN.contains b = true := by
  rw [Bool.and_eq_true] at h
  obtain ⟨h1, h2⟩ := h
  obtain ⟨m, lN, rfl, hm, rfl, hl, _, _⟩ := mat_nat h1
  have h3 := h2
  simp only [ints, List.contains_eq_mem, List.mem_map, decide_eq_true_eq] at h3
  obtain ⟨b, hb, rfl⟩ := h3
  exact ⟨m, lN, b, rfl, hm, rfl, hl, rfl, hl b hb, by simpa using hb⟩
theorem specActv (n : Int) (l : List Int) (a : Int) (hn : l.length ≤ 1048576) : Ev (fun k => spec_ExternalActivity.f k n l a) (actvI n l a) := by
  unfold spec_ExternalActivity.f
  cases h : (isMat n l && l.contains a) with
  | false =>
    unfold actvI
    rw [h]
    simp only [Bool.false_eq_true, if_false]
    have hend : ∀ x5 x6, Ev (fun k => spec_ExternalActivity.j1 k a x5 x6 false n l) x5 := fun x5 x6 => Gen.ev_at 1 (fun k hk => by
      obtain ⟨q, rfl⟩ : ∃ q, k = q + 1 := ⟨k - 1, by omega⟩
      simp only [spec_ExternalActivity.j1]
      rw [if_neg (by decide)])
    by_cases hin : 0 ≤ n ∧ n ≤ 8
    · have hIn : spec_l1In.f n 0 8 = some true := by
        unfold spec_l1In.f
        rw [if_pos (by omega), decide_eq_true (by omega)]
      have loop : ∀ d : Nat, ∀ x6 : Int, 0 ≤ x6 → x6 + d = n → Ev (fun k => spec_ExternalActivity.l0 k a 0 x6 n l) 0 := by
        intro d
        induction d with
        | zero =>
          intro x6 h0 h1
          refine Ev.step (fun k => ?_) (hend 0 x6)
          simp only [spec_ExternalActivity.l0]
          rw [if_neg (by omega)]
        | succ d ih =>
          intro x6 h0 h1
          refine Ev.step (f := fun k => spec_ExternalActivity.j1 k a 0 x6 true n l) (fun k => ?_) ?_
          · simp only [spec_ExternalActivity.l0]
            rw [if_pos (by omega), hIn]
            rfl
          · refine Ev.step (f := fun k => (spec_CircuitOf.f k n l a x6).bind fun t139 => (if t139 = 0 then (spec_ExternalActivity.l0 k a 0 (wrap64 (x6 + 1)) n l) else ((spec_l24Least.f t139).bind fun t140 => (if 0 ≤ (IntKind.u64.wrap (x6)) then (if t140 = (shl .i64 1 (IntKind.u64.wrap (x6))) then (spec_ExternalActivity.l0 k a (Go.bits .or .i64 0 (shl .i64 1 (IntKind.u64.wrap (x6)))) (wrap64 (x6 + 1)) n l) else (spec_ExternalActivity.l0 k a 0 (wrap64 (x6 + 1)) n l)) else (none))))) (fun k => ?_) ?_
            · simp only [spec_ExternalActivity.j1]
              rw [if_pos trivial]
            · refine Ev.bind (specCircNone n l a x6 hn h) ?_
              simp only [if_true]
              rw [Gen.w64 (by omega) (by omega)]
              exact ih (x6 + 1) (by omega) (by omega)
      exact loop n.toNat 0 (by omega) (by omega)
    · have hIn : spec_l1In.f n 0 8 = some false := by
        unfold spec_l1In.f
        by_cases h0 : n ≥ 0
        · rw [if_pos h0, decide_eq_false (by omega)]
        · rw [if_neg h0]
      refine Ev.step (f := fun k => spec_ExternalActivity.j1 k a 0 0 false n l) (fun k => ?_) (hend 0 0)
      simp only [spec_ExternalActivity.l0]
      rw [hIn]
      simp only [Option.bind_some]
      by_cases h0 : (0 : Int) < n
      · rw [if_pos h0]
      · rw [if_neg h0]
  | true =>
    have hM : isMat n l = true := by rw [Bool.and_eq_true] at h; exact h.1
    unfold actvI
    rw [if_pos h]
    obtain ⟨m, lN, b, rfl, hm, rfl, hl, rfl, hb, hmem⟩ := base_nat h
    have h256 := pow_le_256 hm
    rw [ints_length] at hn
    simp only [toNat_ints, Int.toNat_natCast]
    have hIn : spec_l1In.f (m : Int) 0 8 = some true := by
      unfold spec_l1In.f
      rw [if_pos (by omega), decide_eq_true (by omega)]
    refine Gen.ev_loop (fun k (o : Nat) i => spec_ExternalActivity.l0 k (b : Int) (o : Int) i (m : Int) (ints lN)) m (fun e o => if b.testBit e = true then o else if least (circ lN b e) = e then o ||| 2 ^ e else o) (fun _ o => o < 2 ^ m) (actv m lN b : Int) (fun e o he ho => ⟨?_, fun h => ?_⟩) m 0 0 (by omega) (by exact Nat.pow_pos (by decide)) (fun _ => ?_)
    · show (if _ then _ else if _ then _ else _) < _
      split
      · exact ho
      · split
        · exact or_lt ho (pow_lt he)
        · exact ho
    · have hp := pow_lt he
      refine Ev.step (f := fun k => spec_ExternalActivity.j1 k (b : Int) (o : Int) (e : Int) true (m : Int) (ints lN)) (fun k => ?_) ?_
      · simp only [spec_ExternalActivity.l0]
        rw [if_pos (by omega), hIn]
        rfl
      · refine Ev.step (f := fun k => (spec_CircuitOf.f k (m : Int) (ints lN) (b : Int) (e : Int)).bind fun t139 => (if t139 = 0 then (spec_ExternalActivity.l0 k (b : Int) (o : Int) ((e + 1 : Nat) : Int) (m : Int) (ints lN)) else ((spec_l24Least.f t139).bind fun t140 => (if t140 = ((2 ^ e : Nat) : Int) then (spec_ExternalActivity.l0 k (b : Int) ((o ||| 2 ^ e : Nat) : Int) ((e + 1 : Nat) : Int) (m : Int) (ints lN)) else (spec_ExternalActivity.l0 k (b : Int) (o : Int) ((e + 1 : Nat) : Int) (m : Int) (ints lN)))))) (fun k => ?_) ?_
        · simp only [spec_ExternalActivity.j1]
          rw [if_pos trivial, u64_nat e (by omega), shl_nat e (by omega), or_nat o _ (by omega) (by omega), Gen.w64s e (by omega)]
          simp only [if_pos (show (0 : Int) ≤ (e : Int) by omega)]
        · cases hbe : b.testBit e with
          | true =>
            rw [hbe] at h
            simp only [if_true] at h
            refine Ev.bind (specCircIn m hm lN b e hb he hbe hn hM hmem) ?_
            simp only [if_true]
            exact h
          | false =>
            rw [hbe] at h
            simp only [Bool.false_eq_true, if_false] at h
            obtain ⟨_, hc1, hc2⟩ := implCirc (m : Int) lN b e (by omega) (by omega) hbe hn
            have hc0 : circ lN b e ≠ 0 := fun hz => by rw [hz, Nat.zero_testBit] at hc2; exact Bool.noConfusion hc2
            refine Ev.bind (specCirc m hm lN b e hb he hbe hn hM hmem) ?_
            simp only [if_neg (show ¬ ((circ lN b e : Nat) : Int) = 0 by omega), specLeast _ hc1 hc0, Option.bind_some]
            by_cases hx : least (circ lN b e) = e
            · rw [if_pos hx] at h
              rw [hx]
              simp only [if_true]
              exact h
            · rw [if_neg hx] at h
              have hne : ¬ ((2 ^ least (circ lN b e) : Nat) : Int) = ((2 ^ e : Nat) : Int) := fun hh => hx ((Nat.pow_right_inj (by decide)).1 (by exact_mod_cast hh : (2 : Nat) ^ least (circ lN b e) = 2 ^ e))
              simp only [if_neg hne]
              exact h
    · refine Ev.step (f := fun k => spec_ExternalActivity.j1 k (b : Int) ((actv m lN b : Nat) : Int) (m : Int) false (m : Int) (ints lN)) (fun k => ?_) (Gen.ev_at 1 (fun k hk => ?_))
      · simp only [spec_ExternalActivity.l0]
        rw [if_neg (by omega)]
        rfl
      · obtain ⟨q, rfl⟩ : ∃ q, k = q + 1 := ⟨k - 1, by omega⟩
        simp only [spec_ExternalActivity.j1]
        rw [if_neg (by decide)]
theorem implActv (n : Int) (l : List Int) (a : Int) (hn : l.length ≤ 1048576) : Ev (fun k => impl_ExternalActivity.f k n l a) (actvI n l a) := by
  unfold impl_ExternalActivity.f
  refine Ev.bind (implMat n l hn) ?_
  have hend : Ev (fun k => impl_ExternalActivity.j0 k a true n l) 0 := Gen.ev_at 1 (fun k hk => by
    obtain ⟨q, rfl⟩ : ∃ q, k = q + 1 := ⟨k - 1, by omega⟩
    simp only [impl_ExternalActivity.j0]
    rw [if_pos trivial])
  cases hM : isMat n l with
  | false =>
    unfold actvI
    simp only [hM, Bool.false_and, Bool.false_eq_true, if_false]
    exact hend
  | true =>
    simp only [if_true]
    refine Ev.bind (implHasI l a hn) ?_
    cases hmem0 : l.contains a with
    | false =>
      unfold actvI
      simp only [hM, hmem0, Bool.and_false, Bool.false_eq_true, if_false, Bool.not_false]
      exact hend
    | true =>
      have h : (isMat n l && l.contains a) = true := by rw [hM, hmem0]; rfl
      unfold actvI
      rw [if_pos h]
      obtain ⟨m, lN, b, rfl, hm, rfl, hl, rfl, hb, hmem⟩ := base_nat h
      have h256 := pow_le_256 hm
      rw [ints_length] at hn
      simp only [toNat_ints, Int.toNat_natCast, Bool.not_true]
      have hfull : 2 ^ m - 1 < 2 ^ m := by have : 0 < 2 ^ m := Nat.pow_pos (by decide); omega
      have hd := diff_lt (b := b) hfull
      refine Ev.step (f := fun k => (impl_ElementsOf.f k ((diff (2 ^ m - 1) b : Nat) : Int)).bind fun t190 => (impl_ExternalActivity.l0 k (b : Int) 0 t190 (t190.length : Int) 0 (m : Int) (ints lN))) (fun k => ?_) ?_
      · simp only [impl_ExternalActivity.j0]
        rw [if_neg (by decide), full_impl m hm]
        simp only [Option.bind_some]
        rw [andNot_nat _ b (by omega)]
      · refine Ev.bind (implElements _ (by omega)) ?_
        have efold : actv m lN b = (elems (diff (2 ^ m - 1) b)).foldl (fun o e => if least (circ lN b e) = e then o ||| 2 ^ e else o) 0 := by
          unfold elems
          rw [foldl_cond, show (8 : Nat) = m + (8 - m) by omega, Gen.foldl_more _ m (8 - m) _ (fun j hj s => by rw [bit_far hd hj]; simp)]
          unfold actv
          refine foldl_congr _ _ _ _ fun e he o => ?_
          have := List.mem_range'_1.1 he
          rw [diff_bit, Nat.testBit_two_pow_sub_one, decide_eq_true (by omega), Bool.true_and]
          cases b.testBit e <;> rfl
        rw [efold]
        refine list_loop (fun k (o : Nat) i => impl_ExternalActivity.l0 k (b : Int) (o : Int) (ints (elems (diff (2 ^ m - 1) b))) ((ints (elems (diff (2 ^ m - 1) b))).length : Int) i (m : Int) (ints lN)) (elems (diff (2 ^ m - 1) b)) (fun o e => if least (circ lN b e) = e then o ||| 2 ^ e else o) (fun _ o => o < 256) _ 0 (fun i o hi ho => ?_) (by decide) (fun _ => Gen.ev_at 1 (fun k hk => ?_))
        · obtain ⟨h8, hbit⟩ := elems_getD hi
          have hrd := ints_rd (elems (diff (2 ^ m - 1) b)) i
          have hlen := elems_length (diff (2 ^ m - 1) b)
          generalize hf : (elems (diff (2 ^ m - 1) b)).getD i 0 = e at *
          have hp : 2 ^ e < 2 ^ 8 := pow_lt h8
          have hbe : b.testBit e = false := by
            rw [diff_bit, Bool.and_eq_true] at hbit
            simpa using hbit.2
          refine ⟨?_, fun h => ?_⟩
          · show (if _ then _ else _) < _
            split
            · exact or_lt (n := 8) ho hp
            · exact ho
          · obtain ⟨hc, hc1, hc2⟩ := implCirc (m : Int) lN b e (by omega) h8 hbe hn
            have hc0 : circ lN b e ≠ 0 := fun hz => by rw [hz, Nat.zero_testBit] at hc2; exact Bool.noConfusion hc2
            refine Ev.step (f := fun k => (impl_circuit.f k (m : Int) (ints lN) (b : Int) (e : Int)).bind fun t194 => ((impl_leastElement.f k t194).bind fun t195 => (if t195 = (e : Int) then (impl_ExternalActivity.l0 k (b : Int) ((o ||| 2 ^ e : Nat) : Int) (ints (elems (diff (2 ^ m - 1) b))) ((ints (elems (diff (2 ^ m - 1) b))).length : Int) ((i + 1 : Nat) : Int) (m : Int) (ints lN)) else (impl_ExternalActivity.l0 k (b : Int) (o : Int) (ints (elems (diff (2 ^ m - 1) b))) ((ints (elems (diff (2 ^ m - 1) b))).length : Int) ((i + 1 : Nat) : Int) (m : Int) (ints lN))))) (fun k => ?_) ?_
            · simp only [impl_ExternalActivity.l0]
              rw [if_pos (by rw [ints_length]; omega), if_pos (by omega), if_pos (by rw [ints_length]; omega), hrd, shl_nat e (by omega), or_nat o _ (by omega) (by omega), Gen.w64s i (by omega)]
              simp only [if_pos (show (0 : Int) ≤ (e : Int) by omega)]
            · refine Ev.bind hc (Ev.bind (implLeast _ hc1 hc0) ?_)
              by_cases hx : least (circ lN b e) = e
              · rw [if_pos hx] at h
                rw [hx]
                simp only [if_true]
                exact h
              · rw [if_neg hx] at h
                simp only [if_neg (show ¬ ((least (circ lN b e) : Nat) : Int) = (e : Int) by omega)]
                exact h
        · obtain ⟨q, rfl⟩ : ∃ q, k = q + 1 := ⟨k - 1, by omega⟩
          simp only [impl_ExternalActivity.l0]
          rw [if_neg (by rw [ints_length]; omega)]
end Go.Proofs.Ytaepaekagenfnaa.Act
end
section
namespace Go.Proofs.Ytaepaekagenfnaa.Dual
open Go.RowKit Go.Proofs.Ytaepaekagenfnaa.Pr Go.Proofs.Ytaepaekagenfnaa.Sets Go.Proofs.Ytaepaekagenfnaa.Mat Go.Proofs.Ytaepaekagenfnaa.Rank Go.Proofs.Ytaepaekagenfnaa.Flat Go.Proofs.Ytaepaekagenfnaa.Act Go.Proofs.Ytaepaekagenfnaa.Sort Go.Proofs.YtaepaekagenfnaaW.PrintWords Go.Proofs.YtaepaekagenfnaaW.PrintLast Go.Proofs.YtaepaekagenfnaaW.PrintMore
set_option linter.unusedVariables false
set_option maxRecDepth 100000 in
theorem full_diffB : ∀ m, m < 9 → ∀ b, b < 256 → b < 2 ^ m → 2 ^ m - 1 - b = diff (2 ^ m - 1) b := by decide +kernel
theorem full_diff {m b : Nat} (hm : m ≤ 8) (hb : b < 2 ^ m) : 2 ^ m - 1 - b = diff (2 ^ m - 1) b := full_diffB m (by omega) b (Nat.lt_of_lt_of_le hb (pow_le_256 hm)) hb
def comp (m : Nat) (l : List Nat) : List Int := sset (ints (l.map fun b => diff (2 ^ m - 1) b))
theorem comp_length (m : Nat) (l : List Nat) : (comp m l).length ≤ l.length := by
  have := sset_length (ints (l.map fun b => diff (2 ^ m - 1) b))
  rw [ints_length, List.length_map] at this
  exact this
theorem foldl_map_append (l : List Nat) (g : Nat → Nat) : ints (l.map g) = (List.range' 0 l.length).foldl (fun (s : List Int) i => s ++ [((g (l.getD i 0) : Nat) : Int)]) [] := by
  have : ∀ (q : List Nat) (f : Nat → Int) (o : List Int), q.foldl (fun (s : List Int) i => s ++ [f i]) o = o ++ q.map f := by
    intro q f
    induction q with
    | nil => intro o; simp
    | cons a q ih => intro o; rw [List.foldl_cons, ih]; simp
  rw [this, List.nil_append]
  unfold ints
  rw [List.map_map, ← List.range_eq_range']
  exact (Gen.map_getD l 0 (fun x => ((g x : Nat) : Int))).symm
theorem implAre (m : Nat) (hm : m ≤ 8) (l : List Nat) (hl : ∀ s ∈ l, s < 2 ^ m) (hn : l.length ≤ 1048576) (k : Nat) (hk : l.length < k) : impl_areSetsOf.f k (m : Int) (ints l) = some true := by
  unfold impl_areSetsOf.f
  have := Gen.all_loop (fun k i => impl_areSetsOf.l0 k (m : Int) (ints l) ((ints l).length : Int) i) l.length (fun _ => true) 0 true (fun k i _ hi => by
    simp only [impl_areSetsOf.l0]
    rw [if_pos (by rw [ints_length]; omega), if_pos (by omega), if_pos (by rw [ints_length]; omega), ints_rd, implIsSet, isSet_of hm (hl _ (getD_mem l 0 i hi)), Gen.w64s i (by omega)]
    rfl) (fun k _ => by
    simp only [impl_areSetsOf.l0]
    rw [if_neg (by rw [ints_length]; omega)]
    unfold impl_isSize.f
    rw [if_pos (by omega), decide_eq_true (by omega)]
    rfl) l.length 0 k (by omega) (by omega)
  simpa [Gen.all_yes] using this
theorem specAre (m : Nat) (hm : m ≤ 8) (l : List Nat) (hl : ∀ s ∈ l, s < 2 ^ m) (hn : l.length ≤ 1048576) (k : Nat) (hk : l.length < k) : spec_l3Sets.f k (m : Int) (ints l) = some true := by
  unfold spec_l3Sets.f
  have := Gen.all_loop (fun k i => spec_l3Sets.l0 k (m : Int) (ints l) i) l.length (fun _ => true) 0 true (fun k i _ hi => by
    simp only [spec_l3Sets.l0]
    rw [if_pos (by rw [ints_length]; omega), if_pos (by omega), ints_rd, specIsSet, isSet_of hm (hl _ (getD_mem l 0 i hi)), Gen.w64s i (by omega)]
    rfl) (fun k _ => by
    simp only [spec_l3Sets.l0]
    rw [if_neg (by rw [ints_length]; omega)]) l.length 0 k (by omega) (by omega)
  simpa [Gen.all_yes] using this
theorem implComp (m : Nat) (hm : m ≤ 8) (l : List Nat) (hl : ∀ s ∈ l, s < 2 ^ m) (hn : l.length ≤ 1048576) : Ev (fun k => impl_ComplementSets.f k (m : Int) (ints l)) (comp m l) := by
  have h256 := pow_le_256 hm
  unfold impl_ComplementSets.f
  refine Ev.bind (Gen.ev_at (l.length + 1) (fun k hk => implAre m hm l hl hn k (by omega))) ?_
  simp only [if_true]
  refine Gen.ev_loop (fun k (s : List Int) i => impl_ComplementSets.l0 k (m : Int) s (ints l) ((ints l).length : Int) i) l.length (fun i s => s ++ [((diff (2 ^ m - 1) (l.getD i 0) : Nat) : Int)]) (fun i s => s.length ≤ i) (comp m l) (fun i s hi hP => ⟨?_, fun h => Ev.step (fun k => ?_) h⟩) l.length 0 [] (by omega) (by simp) (fun _ => ?_)
  · simp; omega
  · simp only [impl_ComplementSets.l0]
    rw [if_pos (by rw [ints_length]; omega), if_pos (by omega), if_pos (by rw [ints_length]; omega), full_impl m hm, ints_rd, Gen.w64s i (by omega)]
    simp only [Option.bind_some]
    rw [if_pos (by omega), andNot_nat (2 ^ m - 1) _ (by omega)]
  · refine Ev.step (f := fun k => some (comp m l)) (fun k => ?_) (Ev.now _)
    simp only [impl_ComplementSets.l0]
    rw [if_neg (by rw [ints_length]; omega), ← foldl_map_append l (fun b => diff (2 ^ m - 1) b), implSort _ (by rw [ints_length, List.length_map]; exact hn)]
    rfl
theorem specComp (m : Nat) (hm : m ≤ 8) (l : List Nat) (hl : ∀ s ∈ l, s < 2 ^ m) (hn : l.length ≤ 1048576) : Ev (fun k => spec_ComplementSets.f k (m : Int) (ints l)) (comp m l) := by
  have h256 := pow_le_256 hm
  have i1 : spec_l1In.f (m : Int) 0 8 = some true := by
    unfold spec_l1In.f
    rw [if_pos (by omega), decide_eq_true (by omega)]
  unfold spec_ComplementSets.f
  simp only [Option.bind_some, i1, if_true]
  refine Ev.bind (Gen.ev_at (l.length + 1) (fun k hk => specAre m hm l hl hn k (by omega))) ?_
  simp only [Bool.not_true]
  refine Ev.step (f := fun k => spec_ComplementSets.l0 k (m : Int) (ints l) [] 0) (fun k => ?_) ?_
  · simp only [spec_ComplementSets.j0]
    rw [if_neg (by decide)]
  · refine Gen.ev_loop (fun k (s : List Int) i => spec_ComplementSets.l0 k (m : Int) (ints l) s i) l.length (fun i s => s ++ [((diff (2 ^ m - 1) (l.getD i 0) : Nat) : Int)]) (fun i s => s.length ≤ i) (comp m l) (fun i s hi hP => ⟨?_, fun h => Ev.step (fun k => ?_) h⟩) l.length 0 [] (by omega) (by simp) (fun _ => ?_)
    · simp; omega
    · have hb := hl _ (getD_mem l 0 i hi)
      simp only [spec_ComplementSets.l0]
      rw [if_pos (by rw [ints_length]; omega), full_spec m hm, ints_rd, Gen.w64s i (by omega)]
      simp only [Option.bind_some]
      rw [if_pos (by omega), if_pos (by omega), Gen.w64 (by omega) (by omega), ← full_diff hm hb, show (((2 ^ m - 1 : Nat) : Int) - ((l.getD i 0 : Nat) : Int)) = ((2 ^ m - 1 - l.getD i 0 : Nat) : Int) by omega]
    · refine Ev.step (f := fun k => (spec_SortSets.f k (ints (l.map fun b => diff (2 ^ m - 1) b))).bind fun t => some t) (fun k => ?_) (Ev.bind (specSort _ (by rw [ints_length, List.length_map]; exact hn)) (Ev.now _))
      simp only [spec_ComplementSets.l0]
      rw [if_neg (by rw [ints_length]; omega), ← foldl_map_append l (fun b => diff (2 ^ m - 1) b)]
def dualI (n : Int) (l : List Int) : Int × List Int := if isMat n l = true then (n, comp n.toNat (l.map Int.toNat)) else (0, [])
theorem dualI_length (n : Int) (l : List Int) : (dualI n l).2.length ≤ l.length := by
  unfold dualI
  split
  · have := comp_length n.toNat (l.map Int.toNat)
    rw [List.length_map] at this
    exact this
  · simp
theorem implDual (n : Int) (l : List Int) (hn : l.length ≤ 1048576) : Ev (fun k => impl_DualOf.f k n l) (dualI n l) := by
  unfold impl_DualOf.f dualI
  refine Ev.bind (implMat n l hn) ?_
  cases h : isMat n l with
  | false => simp only [Bool.false_eq_true, if_false]; exact Ev.now _
  | true =>
    obtain ⟨m, lN, rfl, hm, rfl, hl, _, _⟩ := mat_nat h
    rw [ints_length] at hn
    simp only [if_true, toNat_ints, Int.toNat_natCast]
    exact Ev.bind (implComp m hm lN hl hn) (Ev.now _)
theorem specDual (n : Int) (l : List Int) (hn : l.length ≤ 1048576) : Ev (fun k => spec_DualOf.f k n l) (dualI n l) := by
  unfold spec_DualOf.f dualI
  refine Ev.bind (specMat n l hn) ?_
  cases h : isMat n l with
  | false => simp only [Bool.false_eq_true, if_false]; exact Ev.now _
  | true =>
    obtain ⟨m, lN, rfl, hm, rfl, hl, _, _⟩ := mat_nat h
    rw [ints_length] at hn
    simp only [if_true, toNat_ints, Int.toNat_natCast]
    exact Ev.bind (specComp m hm lN hl hn) (Ev.now _)
def inActv (n : Int) (l : List Int) (a : Int) : Int := if (isMat n l && l.contains a) = true then actvI (dualI n l).1 (dualI n l).2 ((diff (2 ^ n.toNat - 1) a.toNat : Nat) : Int) else 0
theorem implIn (n : Int) (l : List Int) (a : Int) (hn : l.length ≤ 1048576) : Ev (fun k => impl_InternalActivity.f k n l a) (inActv n l a) := by
  unfold impl_InternalActivity.f
  have hend : Ev (fun k => impl_InternalActivity.j0 k a true n l) 0 := Gen.ev_at 1 (fun k hk => by
    obtain ⟨q, rfl⟩ : ∃ q, k = q + 1 := ⟨k - 1, by omega⟩
    simp only [impl_InternalActivity.j0]
    rw [if_pos trivial])
  refine Ev.bind (implMat n l hn) ?_
  cases hM : isMat n l with
  | false =>
    unfold inActv
    simp only [hM, Bool.false_and, Bool.false_eq_true, if_false]
    exact hend
  | true =>
    simp only [if_true]
    refine Ev.bind (implHasI l a hn) ?_
    cases hmem0 : l.contains a with
    | false =>
      unfold inActv
      simp only [hM, hmem0, Bool.and_false, Bool.false_eq_true, if_false, Bool.not_false]
      exact hend
    | true =>
      have h : (isMat n l && l.contains a) = true := by rw [hM, hmem0]; rfl
      have hd := dualI_length n l
      unfold inActv
      rw [if_pos h]
      simp only [Bool.not_true]
      refine Ev.step (f := fun k => (impl_DualOf.f k n l).bind fun bt1279 => ((impl_FullSet.f n).bind fun t1283 => ((impl_ExternalActivity.f k bt1279.1 bt1279.2 (Go.bits .andNot .i64 t1283 a)).bind fun t1284 => (some t1284)))) (fun k => ?_) ?_
      · simp only [impl_InternalActivity.j0]
        rw [if_neg (by decide)]
      · refine Ev.bind (implDual n l hn) ?_
        generalize dualI n l = D at *
        obtain ⟨m, lN, b, rfl, hm, rfl, hl, rfl, hb, hmem⟩ := base_nat h
        have h256 := pow_le_256 hm
        rw [full_impl m hm]
        simp only [Option.bind_some]
        rw [andNot_nat _ b (by omega)]
        simp only [Int.toNat_natCast]
        exact Ev.bind (implActv D.1 D.2 _ (by omega)) (Ev.now _)
theorem specIn (n : Int) (l : List Int) (a : Int) (hn : l.length ≤ 1048576) : Ev (fun k => spec_InternalActivity.f k n l a) (inActv n l a) := by
  unfold spec_InternalActivity.f
  have hend : Ev (fun k => spec_InternalActivity.j0 k a true n l) 0 := Gen.ev_at 1 (fun k hk => by
    obtain ⟨q, rfl⟩ : ∃ q, k = q + 1 := ⟨k - 1, by omega⟩
    simp only [spec_InternalActivity.j0]
    rw [if_pos trivial])
  refine Ev.bind (specMat n l hn) ?_
  cases hM : isMat n l with
  | false =>
    unfold inActv
    simp only [hM, Bool.false_and, Bool.false_eq_true, if_false]
    exact hend
  | true =>
    simp only [if_true]
    refine Ev.bind (specHasI l a hn) ?_
    cases hmem0 : l.contains a with
    | false =>
      unfold inActv
      simp only [hM, hmem0, Bool.and_false, Bool.false_eq_true, if_false, Bool.not_false]
      exact hend
    | true =>
      have h : (isMat n l && l.contains a) = true := by rw [hM, hmem0]; rfl
      have hd := dualI_length n l
      unfold inActv
      rw [if_pos h]
      simp only [Bool.not_true]
      refine Ev.step (f := fun k => (spec_DualOf.f k n l).bind fun bt1279 => ((spec_FullSet.f n).bind fun t1283 => ((spec_ExternalActivity.f k bt1279.1 bt1279.2 (wrap64 (t1283 - a))).bind fun t1284 => (some t1284)))) (fun k => ?_) ?_
      · simp only [spec_InternalActivity.j0]
        rw [if_neg (by decide)]
      · refine Ev.bind (specDual n l hn) ?_
        generalize dualI n l = D at *
        obtain ⟨m, lN, b, rfl, hm, rfl, hl, rfl, hb, hmem⟩ := base_nat h
        have h256 := pow_le_256 hm
        rw [full_spec m hm]
        simp only [Option.bind_some, Int.toNat_natCast]
        rw [Gen.w64 (by omega) (by omega), ← full_diff hm hb, show (((2 ^ m - 1 : Nat) : Int) - (b : Int)) = ((2 ^ m - 1 - b : Nat) : Int) by omega]
        exact Ev.bind (specActv D.1 D.2 _ (by omega)) (Ev.now _)
end Go.Proofs.Ytaepaekagenfnaa.Dual
end
section
namespace Go.Proofs.Ytaepaekagenfnaa.Pure
open Go.RowKit Go.Proofs.Ytaepaekagenfnaa.Pr Go.Proofs.Ytaepaekagenfnaa.Base Go.Proofs.Ytaepaekagenfnaa.Sets Go.Proofs.Ytaepaekagenfnaa.Mat Go.Proofs.Ytaepaekagenfnaa.Rank Go.Proofs.Ytaepaekagenfnaa.Flat Go.Proofs.Ytaepaekagenfnaa.Act Go.Proofs.Ytaepaekagenfnaa.Dual Go.Proofs.YtaepaekagenfnaaW.PrintWords Go.Proofs.YtaepaekagenfnaaW.PrintLast Go.Proofs.YtaepaekagenfnaaW.PrintMore
set_option linter.unusedVariables false
theorem FnExactInternalActivity (n : Int) (xs : List Int) (s : Int) (_ : (Lit.int .i64 n).wf = true) (hm : xs.length ≤ maxLen ∧ ∀ x ∈ xs, (Lit.int .i64 x).wf = true) (_ : (Lit.int .i64 s).wf = true) : ∃ k, laws_FnExactInternalActivity.f k n xs s = some true := by
  obtain ⟨z, hz, h⟩ := szMatroid n xs 1048576 hm.1 (by decide) (by decide)
  refine Ev.rounds ?_
  unfold laws_FnExactInternalActivity.f
  rw [hz]
  simp only [Option.bind_some]
  by_cases hneg : z < 0
  · simp only [if_pos hneg]
    exact Ev.now _
  · simp only [if_neg hneg]
    have hl : xs.length ≤ 1048576 := by rcases h with h | h <;> omega
    refine Ev.bind (toMatroid n xs hl) (Ev.bind (specIn n xs s hl) (Ev.bind (toMatroid n xs hl) (Ev.bind (implIn n xs s hl) ?_)))
    simp only [if_true]
    refine Ev.bind (toMatroid n xs hl) (Ev.bind (eqMatroid n xs hl) ?_)
    simp only [if_true]
    exact Ev.now _
end Go.Proofs.Ytaepaekagenfnaa.Pure
end
section
namespace Go.Proofs.Ytaepaekagenfnaa.Open
open Go.ChangeShapes Go.WideShapes Go.RowKit Go.Proofs.YtaepaekagenfnaaW.PrintWords Go.Deep
set_option linter.unusedVariables false
structure Opens {α : Type} (P : Program) (d : Kd α) (t : TypeId) (Wf : α → Prop) : Prop where
  go : ∀ (H : Type) (enc : TypeId × Value → H) (w : World) (base : Nat) (spare : Nat → Bool) (held : Bool) (fuel : Nat) (cs : List Value) (x : DataW H × List MemPlace),
    DataW.trod enc P w base spare held fuel t cs = some x → ∃ a, d.K w a cs ∧ Wf a
theorem Opens.int {P : Program} {t : TypeId} {k : IntKind} (ht : P.underlying t = some (.int k)) : Opens P (Kd.int k) t (fun n => (Lit.int k n).wf = true) := by
  refine ⟨fun H enc w base spare held fuel cs x h => ?_⟩
  obtain ⟨n, rfl, _, hw⟩ := DataW.trod_int ht h
  exact ⟨n, rfl, hw⟩
theorem Opens.bool {P : Program} {t : TypeId} (ht : P.underlying t = some .bool) : Opens P Kd.bool t (fun _ => True) := by
  refine ⟨fun H enc w base spare held fuel cs x h => ?_⟩
  obtain ⟨n, rfl, _⟩ := DataW.trod_bool ht h
  exact ⟨n, rfl, trivial⟩
theorem list_of {α : Type} {p : Nat → α → Prop} : ∀ {len : Nat}, (∀ i, i < len → ∃ y, p i y) → ∃ xs : List α, xs.length = len ∧ ∀ i y, xs[i]? = some y → p i y := by
  intro len
  induction len with
  | zero => exact fun _ => ⟨[], rfl, fun i y h => by simp at h⟩
  | succ len ih =>
    intro key
    obtain ⟨xs, hxl, hxs⟩ := ih (fun i hi => key i (by omega))
    obtain ⟨y, hy⟩ := key len (by omega)
    refine ⟨xs ++ [y], by simp [hxl], fun i z hz => ?_⟩
    by_cases hi : i < xs.length
    · rw [List.getElem?_append_left hi] at hz
      exact hxs i z hz
    · have hlt : i < (xs ++ [y]).length := (List.getElem?_eq_some_iff.1 hz).1
      have e : i = len := by simp [hxl] at hlt hi; omega
      subst e
      rw [List.getElem?_append_right (by omega), hxl] at hz
      simp at hz
      subst hz
      exact hy
theorem Opens.slice {α : Type} {P : Program} {t e : TypeId} {d : Kd α} {Wf : α → Prop} (ht : P.underlying t = some (.slice e)) (hs : P.cellsOf e = d.sz) (h : Opens P d e Wf) :
    Opens P (Kd.slice e d) t (fun xs => xs.length ≤ maxLen ∧ ∀ x ∈ xs, Wf x) := by
  refine ⟨fun H enc w base spare held fuel cs x hx => ?_⟩
  rcases open_slice ht hx with ⟨rfl, _⟩ | ⟨a, len, cap, m, n, D, Pl, rfl, hb, hl, hm, hmm, _, hel⟩
  · exact ⟨[], ⟨none, 0, rfl, Nat.le_refl _, rfl, by simp, fun h => absurd h (by simp)⟩, by simp, by simp⟩
  · have hlm : len ≤ m := by rw [hmm]; split <;> omega
    have key : ∀ i, i < len → ∃ y : α, (∃ cs', w.cells? base (a.add (i * P.cellsOf e)) (P.cellsOf e) = some cs' ∧ d.K w y cs') ∧ Wf y := fun i hi => by
      obtain ⟨cs', h1, h2⟩ := hel i (by omega)
      obtain ⟨y, h3, h4⟩ := h.go _ enc w base spare held n cs' _ h2
      exact ⟨y, ⟨cs', h1, h3⟩, h4⟩
    obtain ⟨xs, hxl, hxs⟩ := list_of key
    refine ⟨xs, ⟨some a, cap, by rw [hxl], by omega, rfl, by have := hm; unfold maxLen at this; omega, fun _ => ⟨a, rfl, fun j p hj => ?_⟩⟩, by omega, fun y hy => ?_⟩
    · obtain ⟨⟨cs', h1, h2⟩, _⟩ := hxs j p hj
      obtain ⟨_, h3, h4⟩ := World.cells?_some h1
      refine ⟨cs', by rw [h3, hs], h2, fun i u hu => ?_⟩
      have hlt : i < cs'.length := (List.getElem?_eq_some_iff.1 hu).1
      have := h4 i (by omega)
      rw [hs, Go.Deep.add_add] at this
      rw [this, hu]
    · obtain ⟨i, hi⟩ := List.getElem?_of_mem hy
      exact (hxs i y hi).2
structure OpensFs {α : Type} (P : Program) (fs : List Field) (off : Nat) (d : Kd α) (Wf : α → Prop) : Prop where
  go : ∀ (H : Type) (enc : TypeId × Value → H) (w : World) (base : Nat) (spare : Nat → Bool) (held : Bool) (n : Nat) (cs : List Value),
    cs.length = off + d.sz → (∀ f ∈ fs, ∃ x, DataW.trod enc P w base spare held n f.type ((cs.drop f.offset).take (P.cellsOf f.type)) = some x) → ∃ a, d.K w a (cs.drop off) ∧ Wf a
theorem OpensFs.one {α : Type} {P : Program} {f : Field} {off : Nat} {d : Kd α} {Wf : α → Prop} (ho : f.offset = off) (hs : P.cellsOf f.type = d.sz) (h : Opens P d f.type Wf) : OpensFs P [f] off d Wf := by
  refine ⟨fun H enc w base spare held n cs hl hf => ?_⟩
  obtain ⟨x, hx⟩ := hf f (by simp)
  rw [ho, hs, List.take_of_length_le (by rw [List.length_drop]; omega)] at hx
  exact h.go _ enc w base spare held n _ x hx
theorem OpensFs.cons {α β : Type} {P : Program} {f : Field} {fs : List Field} {off : Nat} {d : Kd α} {d' : Kd β} {Wf : α → Prop} {Wf' : β → Prop} (ho : f.offset = off) (hs : P.cellsOf f.type = d.sz) (h : Opens P d f.type Wf)
    (h' : OpensFs P fs (off + d.sz) d' Wf') : OpensFs P (f :: fs) off (Kd.pair d d') (fun x => Wf x.1 ∧ Wf' x.2) := by
  refine ⟨fun H enc w base spare held n cs hl hf => ?_⟩
  have hl' : cs.length = off + (d.sz + d'.sz) := hl
  obtain ⟨x, hx⟩ := hf f (by simp)
  rw [ho, hs] at hx
  obtain ⟨a, ha, wa⟩ := h.go _ enc w base spare held n _ x hx
  obtain ⟨b, hb, wb⟩ := h'.go _ enc w base spare held n cs (by omega) (fun g hg => hf g (by simp [hg]))
  refine ⟨(a, b), ⟨(cs.drop off).take d.sz, cs.drop (off + d.sz), ?_, ha, hb⟩, wa, wb⟩
  rw [← List.drop_drop, List.take_append_drop]
theorem Opens.struct {α : Type} {P : Program} {t : TypeId} {fs : Array Field} {d : Kd α} {Wf : α → Prop} (ht : P.underlying t = some (.struct fs)) (hs : P.cellsOf t = d.sz) (h : OpensFs P fs.toList 0 d Wf) : Opens P d t Wf := by
  refine ⟨fun H enc w base spare held fuel cs x hx => ?_⟩
  obtain ⟨xs, n, _, _, hl, hlen, hg⟩ := DataW.trod_struct ht hx
  obtain ⟨a, ha, wa⟩ := h.go _ enc w base spare held n cs (by omega) (fun f hf => by
    obtain ⟨i, hi⟩ := List.getElem?_of_mem hf
    have h1 := hg i f (by simpa using hi)
    have hlt : i < fs.size := by have := (List.getElem?_eq_some_iff.1 hi).1; simpa using this
    exact ⟨_, h1.trans (List.getElem?_eq_getElem (by omega))⟩)
  exact ⟨a, by simpa using ha, wa⟩
theorem Opens.argStruct {α : Type} {P : Program} {t : TypeId} {d : Kd α} {Wf : α → Prop} (h : Opens P d t Wf) {H : Type} {enc : TypeId × Value → H} {w : World} {base : Nat} {spare : Nat → Bool} {held : Bool} {v : Value} {x : DataW H} {ps : List MemPlace}
    (hv : ∃ cs, v = .agg cs ∧ cs.size = P.cellsOf t) (ht : DataW.Trod enc P w base spare held t v x ps) : ∃ cs a, v = .agg cs.toArray ∧ d.K w a cs ∧ Wf a := by
  obtain ⟨cs, rfl, _⟩ := hv
  obtain ⟨fuel, hf⟩ := ht
  obtain ⟨a, ha, wf⟩ := h.go _ enc w base spare held fuel _ _ hf
  exact ⟨cs.toList, a, by simp, ha, wf⟩
end Go.Proofs.Ytaepaekagenfnaa.Open
end
section
namespace Go.Proofs.Ytaepaekagenfnaa.fnExactInternalActivity
open Go.ChangeShapes Go.WideShapes Go.ChangeAt Go.RowKit Go.Proofs.Ytaepaekagenfnaa.Open Go.Proofs.YtaepaekagenfnaaW.PrintWords
open Go.ChangeMaps (open_string shut_string)
set_option linter.unusedVariables false
theorem own : ownKnob Try.prog.godebug = none := by kernel_rfl
theorem laidOut : laidOutB Try.prog = true := by kernel_rfl
set_option maxRecDepth 100000 in
theorem lifted (os : Os) (started : os.Started) (H : Type) (enc : TypeId × Value → H) :
    ReturnsInHanded {} Try.checked os 14 .any (Rows.fnExactInternalActivitySpec.pre6 enc Try.prog Try.f14 Rows.fnExactInternalActivityRow.domain false) (Rows.fnExactInternalActivitySpec.post enc Try.prog Try.f14 false true false false) := by
  refine returnsInHanded_of_change_sized (C := Try.checked) own started (by kernel_rfl) Try.func14
    (ChangeSpec.witness6 (enc := enc) (C := Try.checked) false ⟨#[], #[.agg #[.int .i64 0, .slice none 0 0], .int .i64 0], []⟩ 8 (by kernel_rfl) (by kernel_rfl) (by kernel_rfl) (by kernel_rfl)) ?_
  intro W base args ds gs before hval0 hW hcnd hsz0 _
  have hval : ∀ (j : Nat) t v, Try.f14.params[j]? = some t → args[j]? = some v → Value.okWide Try.prog W .any base t v := hval0
  have hW' := hW
  obtain ⟨p, q, hA0, hV, rfl, hfz, hnd⟩ := hW
  have hA : DataW.TrodAll enc Try.prog W 0 (fun _ => true) true Try.f14.params.toList args.toList ds p := hA0
  rw [Try.params14] at hA hval
  obtain ⟨v0, vs0, d0, ds0, p0, q0, hargs, rfl, rfl, h0, r0⟩ := trodAll_cons hA
  obtain ⟨v1, vs1, d1, ds1, p1, q1, rfl, rfl, rfl, h1, r1⟩ := trodAll_cons r0
  obtain ⟨rfl, rfl, rfl⟩ := trodAll_nil r1
  obtain rfl : args = #[v0, v1] := by cases args; simp_all
  obtain ⟨rfl, rfl⟩ := trodVars_none hV
  have k0 := h0
  have lt0 : ∀ x ∈ p0, x.block < W.heap.size := by obtain ⟨m, hm⟩ := k0; exact DataW.trod_lt m _ _ _ hm
  obtain ⟨cs0, x0, rfl, K0, w0⟩ := Opens.argStruct (Opens.struct Try.underlying24 (by kernel_rfl) (OpensFs.cons rfl (by kernel_rfl) (Opens.int Try.underlying3) (OpensFs.one rfl (by kernel_rfl) (Opens.slice Try.underlying22 (by kernel_rfl) (Opens.int Try.underlying3))))) (okWide_struct Try.underlying24 (hval 0 24 v0 rfl rfl)) h0
  obtain ⟨_, _, rfl, rfl, ⟨A0_1, c0_1, rfl, hl0_1, hr0_1⟩⟩ := K0
  obtain ⟨w0_0, w0_1⟩ := w0
  obtain ⟨a1, rfl, rfl, rfl, w1⟩ := open_int Try.underlying3 (hval 1 3 v1 rfl rfl) h1
  clear hA0 hval0 hsz0
  obtain ⟨k, hk⟩ := Pure.FnExactInternalActivity x0.1 x0.2 a1 w0_0 w0_1 w1
  refine (Pr.laws_FnExactInternalActivity.calls k x0.1 _ _ x0.2 a1 true W hr0_1 hl0_1 ⟨rfl⟩ hk).mono fun e W' ⟨he, bel⟩ => ?_
  subst he
  exact ⟨_, rfl, _, _, _, [], _, [], hW', trodAll_mk1 (shut_bool Try.underlying4 _), (trodAll_cons_mk (Below.trod laidOut (by kernel_rfl) (of_decide_eq_true (by kernel_rfl)) k0 bel lt0) (trodAll_cons_mk (shut_int Try.underlying3 w1) trodAll_mk0)), rfl, bel.frame _, fun h => by cases h⟩
theorem over : Rows.fnExactInternalActivityRow.holds Try.pinned (OpenSpec.ofChange Rows.fnExactInternalActivitySpec) :=
  OpenClaim.holds_of_wide 14 Try.f14 rfl rfl rfl rfl rfl rfl rfl ⟨rfl, rfl, rfl, rfl, rfl⟩ rfl rfl rfl rfl rfl (by kernel_rfl) Try.func14 (by kernel_rfl)
    (of_decide_eq_true (by kernel_rfl)) (by unfold Func.isWrapper; first | (rw [if_pos (by decide +kernel)]; kernel_rfl) | (rw [if_neg (by decide +kernel)]; exact ⟨rfl, rfl⟩))
    (fun os started H enc _ => lifted os started H enc)
theorem proved : Rows.FnExactInternalActivitySaid := over
#print axioms proved
end Go.Proofs.Ytaepaekagenfnaa.fnExactInternalActivity
namespace Go.Proofs.Ytaepaekagenfnaa
theorem fnExactInternalActivity_holds : Rows.FnExactInternalActivitySaid := fnExactInternalActivity.proved
end Go.Proofs.Ytaepaekagenfnaa
end
