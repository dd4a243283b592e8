/- The claim FnExactTutteCounts: every text that its row comes to, laid together by slim.py (the words of the kit's print, the printed walks, the pure law, the row). -/
import Derived.Below
import Derived.ChangeArms
import Derived.ChangeOld
import Derived.DataReads
import Derived.Deep.Slices
import Derived.OpenShut
import Derived.ProofKit
import Derived.ShutString
import Derived.SizedLaws
import Derived.Test.YtbjnkcfkhonkhaaRows
import Derived.WalkKit
import Derived.Test.YtbjnkcfkhonkhaaYFnExactTutteCounts2
section
namespace Go.Proofs.Ytbjnkcfkhonkhaa.Mat
open Go.RowKit Go.Proofs.Ytbjnkcfkhonkhaa.Pr Go.Proofs.Ytbjnkcfkhonkhaa.Sets Go.Proofs.YtbjnkcfkhonkhaaW.PrintWords Go.Proofs.YtbjnkcfkhonkhaaW.PrintLast Go.Proofs.YtbjnkcfkhonkhaaW.PrintMore
set_option linter.unusedVariables false
theorem indexFunc (g : Int → Option Bool) (fs : List Nat) (v : Nat → Bool) (hn : fs.length ≤ 1048576) (hg : ∀ f ∈ fs, g (f : Int) = some (v f)) :
  ∀ (d i k : Nat), i + d = fs.length → d < k → ∃ r, slices_IndexFunc_int_int.l0 g k (ints fs) (i : Int) = some r ∧ decide (r ≥ 0) = (fs.drop i).any v := by
 intro d
 induction d with
 | zero =>
  intro i k hi hk
  obtain ⟨k, rfl⟩ : ∃ m, k = m + 1 := ⟨k - 1, by omega⟩
  refine ⟨-1, ?_, ?_⟩
  ·simp only [slices_IndexFunc_int_int.l0]
   rw [if_neg (by rw [ints_length]; omega)]
  ·rw [List.drop_of_length_le (by omega)]
   rfl
 | succ d ih =>
  intro i k hi hk
  obtain ⟨k, rfl⟩ : ∃ m, k = m + 1 := ⟨k - 1, by omega⟩
  have hlt : i < fs.length := by omega
  simp only [slices_IndexFunc_int_int.l0]
  rw [if_pos (by rw [ints_length]; omega), if_pos (by omega), ints_rd, hg _ (getD_mem fs 0 i hlt), Gen.w64s i (by omega)]
  simp only [Option.bind_some]
  have hd : fs.drop i = fs.getD i 0 :: fs.drop (i + 1) := by
   rw [List.drop_eq_getElem_cons hlt]
   simp [List.getD, hlt]
  rw [hd, List.any_cons]
  cases hv : v (fs.getD i 0) with
  | true => exact ⟨i, by rw [if_pos rfl], by rw [decide_eq_true (by omega), Bool.true_or]⟩
  | false =>
   obtain ⟨r, h1, h2⟩ := ih (i + 1) k (by omega) (by omega)
   exact ⟨r, by rw [if_neg (by decide)]; exact h1, by rw [h2, Bool.false_or]⟩
theorem containsFunc (g : Int → Option Bool) (fs : List Nat) (v : Nat → Bool) (hn : fs.length ≤ 1048576) (hg : ∀ f ∈ fs, g (f : Int) = some (v f)) (k : Nat) (hk : fs.length < k) :
  slices_ContainsFunc_int_int.f k (ints fs) g = some (fs.any v) := by
 unfold slices_ContainsFunc_int_int.f slices_IndexFunc_int_int.f
 obtain ⟨r, h1, h2⟩ := indexFunc g fs v hn hg fs.length 0 k (by omega) hk
 rw [show (0 : Int) = ((0 : Nat) : Int) from rfl, h1]
 simp only [Option.bind_some]
 rw [show ((0 : Nat) : Int) = (0 : Int) from rfl, h2, List.drop_zero]
theorem swapImpl (l : List Nat) (a e f : Nat) (hn : l.length ≤ 1048576) (ha : a < 256) (he : e < 8) (hf : f < 8) (hae : a.testBit e = true) (haf : a.testBit f = false) (k : Nat) (hk : l.length < k) :
  impl_FirstFailure_1.f k (ints l) (a : Int) (e : Int) (f : Int) = some (l.contains (a - 2 ^ e + 2 ^ f)) := by
 unfold impl_FirstFailure_1.f
 have h1 : (2 : Nat) ^ e < 2 ^ 62 := Nat.pow_lt_pow_right (by decide) (by omega)
 have h2 : (2 : Nat) ^ f < 2 ^ 62 := Nat.pow_lt_pow_right (by decide) (by omega)
 have h3 : diff a (2 ^ e) < 2 ^ 8 := diff_lt (n := 8) (by omega)
 rw [if_pos (by omega), if_pos (by omega), shl_nat e (by omega), shl_nat f (by omega), andNot_nat a _ (by omega), or_nat _ _ (by omega) h2, swap_eq a ha e he f hf hae haf]
 exact implHas l _ hn k hk
theorem exch_elems (l : List Nat) (a b e : Nat) : exch l a b e = (elems (diff b a)).any fun f => l.contains (a - 2 ^ e + 2 ^ f) := by
 rw [elems_any]
 unfold exch
 congr 1
 funext f
 rw [diff_bit]
theorem fails_elems (l : List Nat) : fails l = l.any fun a => l.any fun b => (elems (diff a b)).any fun e => !exch l a b e := by
 unfold fails
 congr 1
 funext a
 congr 1
 funext b
 rw [elems_any]
 congr 1
 funext e
 rw [diff_bit]
theorem implFirst (m : Nat) (hm : m ≤ 8) (l : List Nat) (hl : ∀ s ∈ l, s < 2 ^ m) (hn : l.length ≤ 1048576) (hf : fam (m : Int) (ints l) = true) :
  ∃ x y z, Ev (fun k => impl_FirstFailure.f k (m : Int) (ints l)) (x, y, z, fails l) := by
 have h256 := pow_le_256 hm
 have hlt : ∀ i, i < l.length → l.getD i 0 < 256 := fun i hi => Nat.lt_of_lt_of_le (hl _ (getD_mem l 0 i hi)) h256
 have inner : ∀ x y : Nat, x < l.length → y < l.length → ∀ d i : Nat, i + d = (elems (diff (l.getD x 0) (l.getD y 0))).length → _ := fun x y hx hy =>
  ev_search (fun k z => impl_FirstFailure.l2 k (m : Int) (ints l) (x : Int) ((l.getD x 0 : Nat) : Int) (y : Int) ((l.getD y 0 : Nat) : Int) (ints (elems (diff (l.getD x 0) (l.getD y 0)))) z) (elems (diff (l.getD x 0) (l.getD y 0))).length
   (fun z => !exch l (l.getD x 0) (l.getD y 0) ((elems (diff (l.getD x 0) (l.getD y 0))).getD z 0)) (fun r => r.2.2.2 = true)
   (by
    intro z hz hp
    have ha := hlt x hx
    have hb := hlt y hy
    obtain ⟨he, hbit⟩ := elems_lt (getD_mem _ 0 z hz)
    rw [diff_bit, Bool.and_eq_true] at hbit
    have hl8 := elems_length (diff (l.getD x 0) (l.getD y 0))
    have hd : diff (l.getD y 0) (l.getD x 0) < 2 ^ 8 := diff_lt (n := 8) (by omega)
    refine ⟨(((l.getD x 0 : Nat) : Int), ((l.getD y 0 : Nat) : Int), (((elems (diff (l.getD x 0) (l.getD y 0))).getD z 0 : Nat) : Int), true), rfl, ?_⟩
    refine Ev.step (f := fun k => (impl_ElementsOf.f k (Go.bits .andNot .i64 ((l.getD y 0 : Nat) : Int) ((l.getD x 0 : Nat) : Int))).bind fun fs => ((slices_ContainsFunc_int_int.f k fs (fun f => impl_FirstFailure_1.f k (ints l) ((l.getD x 0 : Nat) : Int) (((elems (diff (l.getD x 0) (l.getD y 0))).getD z 0 : Nat) : Int) f)).bind fun t => (if t = true then (impl_FirstFailure.l2 k (m : Int) (ints l) (x : Int) ((l.getD x 0 : Nat) : Int) (y : Int) ((l.getD y 0 : Nat) : Int) (ints (elems (diff (l.getD x 0) (l.getD y 0)))) ((z + 1 : Nat) : Int)) else (some (((l.getD x 0 : Nat) : Int), ((l.getD y 0 : Nat) : Int), (((elems (diff (l.getD x 0) (l.getD y 0))).getD z 0 : Nat) : Int), true))))) (fun k => ?_) ?_
    ·simp only [impl_FirstFailure.l2]
     rw [if_pos (by rw [ints_length]; omega), if_pos (by omega), ints_rd, Gen.w64s z (by omega)]
    ·rw [andNot_nat _ _ (by omega)]
     refine Ev.bind (implElements _ (by omega)) ?_
     refine Ev.bind (a := exch l (l.getD x 0) (l.getD y 0) ((elems (diff (l.getD x 0) (l.getD y 0))).getD z 0)) (Gen.ev_at (1048577 + 8) (fun k hk => ?_)) ?_
     ·rw [exch_elems]
      refine containsFunc _ _ _ (by have := elems_length (diff (l.getD y 0) (l.getD x 0)); omega) (fun f hf => ?_) k (by have := elems_length (diff (l.getD y 0) (l.getD x 0)); omega)
      obtain ⟨hf8, hfb⟩ := elems_lt hf
      rw [diff_bit, Bool.and_eq_true] at hfb
      exact swapImpl l _ _ _ hn ha he hf8 hbit.1 (by simpa using hfb.2) k (by omega)
     ·have hp' : exch l (l.getD x 0) (l.getD y 0) ((elems (diff (l.getD x 0) (l.getD y 0))).getD z 0) = false := by simpa using hp
      rw [hp']
      exact Ev.now _)
   (by
    intro z hz hp r hr
    have ha := hlt x hx
    have hb := hlt y hy
    obtain ⟨he, hbit⟩ := elems_lt (getD_mem _ 0 z hz)
    rw [diff_bit, Bool.and_eq_true] at hbit
    have hl8 := elems_length (diff (l.getD x 0) (l.getD y 0))
    have hd : diff (l.getD y 0) (l.getD x 0) < 2 ^ 8 := diff_lt (n := 8) (by omega)
    refine Ev.step (f := fun k => (impl_ElementsOf.f k (Go.bits .andNot .i64 ((l.getD y 0 : Nat) : Int) ((l.getD x 0 : Nat) : Int))).bind fun fs => ((slices_ContainsFunc_int_int.f k fs (fun f => impl_FirstFailure_1.f k (ints l) ((l.getD x 0 : Nat) : Int) (((elems (diff (l.getD x 0) (l.getD y 0))).getD z 0 : Nat) : Int) f)).bind fun t => (if t = true then (impl_FirstFailure.l2 k (m : Int) (ints l) (x : Int) ((l.getD x 0 : Nat) : Int) (y : Int) ((l.getD y 0 : Nat) : Int) (ints (elems (diff (l.getD x 0) (l.getD y 0)))) ((z + 1 : Nat) : Int)) else (some (((l.getD x 0 : Nat) : Int), ((l.getD y 0 : Nat) : Int), (((elems (diff (l.getD x 0) (l.getD y 0))).getD z 0 : Nat) : Int), true))))) (fun k => ?_) ?_
    ·simp only [impl_FirstFailure.l2]
     rw [if_pos (by rw [ints_length]; omega), if_pos (by omega), ints_rd, Gen.w64s z (by omega)]
    ·rw [andNot_nat _ _ (by omega)]
     refine Ev.bind (implElements _ (by omega)) ?_
     refine Ev.bind (a := exch l (l.getD x 0) (l.getD y 0) ((elems (diff (l.getD x 0) (l.getD y 0))).getD z 0)) (Gen.ev_at (1048577 + 8) (fun k hk => ?_)) ?_
     ·rw [exch_elems]
      refine containsFunc _ _ _ (by have := elems_length (diff (l.getD y 0) (l.getD x 0)); omega) (fun f hf => ?_) k (by have := elems_length (diff (l.getD y 0) (l.getD x 0)); omega)
      obtain ⟨hf8, hfb⟩ := elems_lt hf
      rw [diff_bit, Bool.and_eq_true] at hfb
      exact swapImpl l _ _ _ hn ha he hf8 hbit.1 (by simpa using hfb.2) k (by omega)
     ·have hp' : exch l (l.getD x 0) (l.getD y 0) ((elems (diff (l.getD x 0) (l.getD y 0))).getD z 0) = true := by simpa using hp
      rw [hp']
      simp only [if_true]
      exact hr)
 have innerAny : ∀ x y : Nat, ((List.range' 0 (elems (diff (l.getD x 0) (l.getD y 0))).length).any fun z => !exch l (l.getD x 0) (l.getD y 0) ((elems (diff (l.getD x 0) (l.getD y 0))).getD z 0)) = (elems (diff (l.getD x 0) (l.getD y 0))).any fun e => !exch l (l.getD x 0) (l.getD y 0) e := fun x y => any_index (elems (diff (l.getD x 0) (l.getD y 0))) 0 (fun e => !exch l (l.getD x 0) (l.getD y 0) e)
 have middle : ∀ x : Nat, x < l.length → ∀ d i : Nat, i + d = l.length → _ := fun x hx =>
  ev_search (fun k y => impl_FirstFailure.l1 k (m : Int) (ints l) (x : Int) ((l.getD x 0 : Nat) : Int) y) l.length
   (fun y => (elems (diff (l.getD x 0) (l.getD y 0))).any fun e => !exch l (l.getD x 0) (l.getD y 0) e) (fun r => r.2.2.2 = true)
   (by
    intro y hy hp
    have ha := hlt x hx
    obtain ⟨h1, _⟩ := inner x y hx hy (elems (diff (l.getD x 0) (l.getD y 0))).length 0 (by omega)
    rw [innerAny] at h1
    obtain ⟨r, hr, hE⟩ := h1 hp
    refine ⟨r, hr, Ev.step (f := fun k => (impl_ElementsOf.f k (Go.bits .andNot .i64 ((l.getD x 0 : Nat) : Int) ((l.getD y 0 : Nat) : Int))).bind fun es => (impl_FirstFailure.l2 k (m : Int) (ints l) (x : Int) ((l.getD x 0 : Nat) : Int) (y : Int) ((l.getD y 0 : Nat) : Int) es 0)) (fun k => ?_) ?_⟩
    ·simp only [impl_FirstFailure.l1]
     rw [if_pos (by rw [ints_length]; omega), if_pos (by omega), ints_rd]
    ·rw [andNot_nat _ _ (by omega)]
     have hd : diff (l.getD x 0) (l.getD y 0) < 2 ^ 8 := diff_lt (n := 8) (by omega)
     exact Ev.bind (implElements _ (by omega)) hE)
   (by
    intro y hy hp r hr
    have ha := hlt x hx
    obtain ⟨_, h2⟩ := inner x y hx hy (elems (diff (l.getD x 0) (l.getD y 0))).length 0 (by omega)
    rw [innerAny] at h2
    refine Ev.step (f := fun k => (impl_ElementsOf.f k (Go.bits .andNot .i64 ((l.getD x 0 : Nat) : Int) ((l.getD y 0 : Nat) : Int))).bind fun es => (impl_FirstFailure.l2 k (m : Int) (ints l) (x : Int) ((l.getD x 0 : Nat) : Int) (y : Int) ((l.getD y 0 : Nat) : Int) es 0)) (fun k => ?_) ?_
    ·simp only [impl_FirstFailure.l1]
     rw [if_pos (by rw [ints_length]; omega), if_pos (by omega), ints_rd]
    ·rw [andNot_nat _ _ (by omega)]
     have hd : diff (l.getD x 0) (l.getD y 0) < 2 ^ 8 := diff_lt (n := 8) (by omega)
     refine Ev.bind (implElements _ (by omega)) (h2 hp r (Ev.step (fun k => ?_) hr))
     simp only [impl_FirstFailure.l2]
     rw [if_neg (by rw [ints_length]; omega), Gen.w64s y (by omega)])
 have middleAny : ∀ x : Nat, ((List.range' 0 l.length).any fun y => (elems (diff (l.getD x 0) (l.getD y 0))).any fun e => !exch l (l.getD x 0) (l.getD y 0) e) = l.any fun b => (elems (diff (l.getD x 0) b)).any fun e => !exch l (l.getD x 0) b e := fun x => any_index l 0 (fun b => (elems (diff (l.getD x 0) b)).any fun e => !exch l (l.getD x 0) b e)
 obtain ⟨o1, o2⟩ := ev_search (fun k x => impl_FirstFailure.l0 k (m : Int) (ints l) x) l.length
   (fun x => l.any fun b => (elems (diff (l.getD x 0) b)).any fun e => !exch l (l.getD x 0) b e) (fun r => r.2.2.2 = true)
   (by
    intro x hx hp
    obtain ⟨h1, _⟩ := middle x hx l.length 0 (by omega)
    rw [middleAny] at h1
    obtain ⟨r, hr, hE⟩ := h1 hp
    refine ⟨r, hr, Ev.step (fun k => ?_) hE⟩
    simp only [impl_FirstFailure.l0]
    rw [if_pos (by rw [ints_length]; omega), if_pos (by omega), ints_rd]
    rfl)
   (by
    intro x hx hp r hr
    obtain ⟨_, h2⟩ := middle x hx l.length 0 (by omega)
    rw [middleAny] at h2
    have h3 := h2 hp r (Ev.step (fun k => by
     simp only [impl_FirstFailure.l1]
     rw [if_neg (by rw [ints_length]; omega), Gen.w64s x (by omega)]) hr)
    refine Ev.step (fun k => ?_) h3
    simp only [impl_FirstFailure.l0]
    rw [if_pos (by rw [ints_length]; omega), if_pos (by omega), ints_rd]
    rfl) l.length 0 (by omega)
 have outerAny : ((List.range' 0 l.length).any fun x => l.any fun b => (elems (diff (l.getD x 0) b)).any fun e => !exch l (l.getD x 0) b e) = fails l := by
  rw [fails_elems]
  exact any_index l 0 (fun a => l.any fun b => (elems (diff a b)).any fun e => !exch l a b e)
 rw [outerAny] at o1 o2
 have start : ∀ r, Ev (fun k => impl_FirstFailure.l0 k (m : Int) (ints l) 0) r → Ev (fun k => impl_FirstFailure.f k (m : Int) (ints l)) r := fun r hr => by
  unfold impl_FirstFailure.f
  refine Ev.bind (Gen.ev_at (l.length + 1) (fun k hk => implFamily (m : Int) (ints l) (by rw [ints_length]; exact hn) k (by rw [ints_length]; omega))) ?_
  rw [hf]
  simp only [if_true]
  exact hr
 cases hfl : fails l with
 | true =>
  obtain ⟨⟨x, y, z, b⟩, hb, hE⟩ := o1 hfl
  simp only at hb
  subst hb
  exact ⟨x, y, z, start _ hE⟩
 | false =>
  refine ⟨0, 0, 0, start _ (o2 hfl _ (Gen.ev_at 1 (fun k hk => ?_)))⟩
  obtain ⟨q, rfl⟩ : ∃ q, k = q + 1 := ⟨k - 1, by omega⟩
  simp only [impl_FirstFailure.l0]
  rw [if_neg (by rw [ints_length]; omega)]
end Go.Proofs.Ytbjnkcfkhonkhaa.Mat
end
section
namespace Go.Proofs.Ytbjnkcfkhonkhaa.Mat
open Go.RowKit Go.Proofs.Ytbjnkcfkhonkhaa.Pr Go.Proofs.Ytbjnkcfkhonkhaa.Sets Go.Proofs.YtbjnkcfkhonkhaaW.PrintWords Go.Proofs.YtbjnkcfkhonkhaaW.PrintLast Go.Proofs.YtbjnkcfkhonkhaaW.PrintMore
set_option linter.unusedVariables false
theorem u64_small (e : Nat) (he : e < 62) : IntKind.u64.wrap (e : Int) = e := by
 unfold IntKind.wrap
 simp only [IntKind.bits, IntKind.signed, Bool.false_and, Bool.false_eq_true, if_false]
 omega
theorem l2Has (s e : Nat) (hs : s < 256) (he : e < 8) : spec_l2Has.f (s : Int) (e : Int) = some (s.testBit e) := by
 unfold spec_l2Has.f
 rw [u64_small e (by omega), if_pos (by omega), shr_bit s e (by omega) (by omega)]
theorem specExchange (m : Nat) (hm : m ≤ 8) (l : List Nat) (hn : l.length ≤ 1048576) (a b e : Nat) (ha : a < 256) (hb : b < 2 ^ m) (he : e < 8) (hae : a.testBit e = true) : Ev (fun k => spec_l4Exchange.f k (m : Int) (ints l) (a : Int) (b : Int) (e : Int)) (exch l a b e) := by
 have h256 := pow_le_256 hm
 unfold spec_l4Exchange.f
 have hle := bit_le a ha e he hae
 have key : ∀ f : Nat, f < m → a.testBit f = false → wrap64 ((wrap64 ((a : Int) - ((2 ^ e : Nat) : Int))) + ((2 ^ f : Nat) : Int)) = ((a - 2 ^ e + 2 ^ f : Nat) : Int) := fun f hf haf => by
  have h1 := swap_le a ha e he f (by omega) hae haf
  have h2 : 2 ^ f ≤ 256 := pow_le_256 (by omega)
  clear hae
  generalize (2 : Nat) ^ e = P at *
  generalize (2 : Nat) ^ f = Q at *
  rw [Gen.w64 (i := (a : Int) - (P : Int)) (by omega) (by omega), Gen.w64 (by omega) (by omega)]
  omega
 obtain ⟨o1, o2⟩ := ev_search (fun k f => spec_l4Exchange.l0 k (a : Int) (b : Int) (e : Int) f (m : Int) (ints l)) m (fun f => b.testBit f && !a.testBit f && l.contains (a - 2 ^ e + 2 ^ f)) (fun r => r = true)
  (by
   intro f hf hp
   rw [Bool.and_eq_true, Bool.and_eq_true] at hp
   obtain ⟨⟨h1, h2⟩, h3⟩ := hp
   have h2' : a.testBit f = false := by simpa using h2
   refine ⟨true, rfl, Gen.ev_at (l.length + 2) (fun k hk => ?_)⟩
   obtain ⟨q, rfl⟩ : ∃ q, k = q + 1 := ⟨k - 1, by omega⟩
   simp only [spec_l4Exchange.l0]
   rw [if_pos (by omega), l2Has b f (by omega) (by omega), h1]
   simp only [Option.bind_some, if_true]
   rw [l2Has a f ha (by omega), h2']
   simp only [Option.bind_some, Bool.false_eq_true, if_false]
   rw [u64_small e (by omega), u64_small f (by omega), if_pos (by omega), if_pos (by omega), shl_nat e (by omega), shl_nat f (by omega), key f hf h2', specHas l _ hn q (by omega), h3]
   rfl)
  (by
   intro f hf hp r hr
   by_cases h1 : b.testBit f = true
   ·by_cases h2 : a.testBit f = true
    ·refine Ev.step (fun k => ?_) hr
     simp only [spec_l4Exchange.l0]
     rw [if_pos (by omega), l2Has b f (by omega) (by omega), h1]
     simp only [Option.bind_some, if_true]
     rw [l2Has a f ha (by omega), h2]
     simp only [Option.bind_some, if_true]
     rw [Gen.w64s f (by omega)]
    ·have h2' : a.testBit f = false := by simpa using h2
     have h3 : l.contains (a - 2 ^ e + 2 ^ f) = false := by
      rw [h1, h2'] at hp
      simpa using hp
     refine Ev.step (f := fun k => (spec_HasSet.f k (ints l) ((a - 2 ^ e + 2 ^ f : Nat) : Int)).bind fun t => (if t = true then (some true) else (spec_l4Exchange.l0 k (a : Int) (b : Int) (e : Int) ((f + 1 : Nat) : Int) (m : Int) (ints l)))) (fun k => ?_) ?_
     ·simp only [spec_l4Exchange.l0]
      rw [if_pos (by omega), l2Has b f (by omega) (by omega), h1]
      simp only [Option.bind_some, if_true]
      rw [l2Has a f ha (by omega), h2']
      simp only [Option.bind_some, Bool.false_eq_true, if_false]
      rw [u64_small e (by omega), u64_small f (by omega), if_pos (by omega), if_pos (by omega), shl_nat e (by omega), shl_nat f (by omega), key f hf h2', Gen.w64s f (by omega)]
     ·refine Ev.bind (Gen.ev_at (l.length + 1) (fun k hk => specHas l _ hn k (by omega))) ?_
      rw [h3]
      exact hr
   ·have h1' : b.testBit f = false := by simpa using h1
    refine Ev.step (fun k => ?_) hr
    simp only [spec_l4Exchange.l0]
    rw [if_pos (by omega), l2Has b f (by omega) (by omega), h1']
    simp only [Option.bind_some, Bool.false_eq_true, if_false]
    rw [Gen.w64s f (by omega)]) m 0 (by omega)
 have e8 : ((List.range' 0 m).any fun f => b.testBit f && !a.testBit f && l.contains (a - 2 ^ e + 2 ^ f)) = exch l a b e := range8 m hm _ (fun j hj => by rw [bit_far hb hj]; rfl)
 rw [e8] at o1 o2
 cases hx : exch l a b e with
 | true =>
  obtain ⟨r, rfl, hE⟩ := o1 hx
  exact hE
 | false =>
  refine o2 hx _ (Gen.ev_at 1 (fun k hk => ?_))
  obtain ⟨q, rfl⟩ : ∃ q, k = q + 1 := ⟨k - 1, by omega⟩
  simp only [spec_l4Exchange.l0]
  rw [if_neg (by omega)]
theorem specFirst (m : Nat) (hm : m ≤ 8) (l : List Nat) (hl : ∀ s ∈ l, s < 2 ^ m) (hn : l.length ≤ 1048576) (hf : fam (m : Int) (ints l) = true) :
  ∃ x y z, Ev (fun k => spec_FirstFailure.f k (m : Int) (ints l)) (x, y, z, fails l) := by
 have h256 := pow_le_256 hm
 have hlt : ∀ i, i < l.length → l.getD i 0 < 256 := fun i hi => Nat.lt_of_lt_of_le (hl _ (getD_mem l 0 i hi)) h256
 have hltm : ∀ i, i < l.length → l.getD i 0 < 2 ^ m := fun i hi => hl _ (getD_mem l 0 i hi)
 have round : ∀ x y z : Nat, x < l.length → y < l.length → z < m → ∀ r, (((l.getD x 0).testBit z && !(l.getD y 0).testBit z && !exch l (l.getD x 0) (l.getD y 0) z) = true → r.2.2.2 = true → r = (((l.getD x 0 : Nat) : Int), ((l.getD y 0 : Nat) : Int), (z : Int), true) → Ev (fun k => spec_FirstFailure.l2 k (x : Int) (y : Int) (z : Int) (m : Int) (ints l)) r) ∧
   (((l.getD x 0).testBit z && !(l.getD y 0).testBit z && !exch l (l.getD x 0) (l.getD y 0) z) = false → Ev (fun k => spec_FirstFailure.l2 k (x : Int) (y : Int) ((z + 1 : Nat) : Int) (m : Int) (ints l)) r → Ev (fun k => spec_FirstFailure.l2 k (x : Int) (y : Int) (z : Int) (m : Int) (ints l)) r) := by
  intro x y z hx hy hz r
  have ha := hlt x hx
  have hb := hlt y hy
  have unf : ∀ k, spec_FirstFailure.l2 (k + 1) (x : Int) (y : Int) (z : Int) (m : Int) (ints l) = (if (l.getD x 0).testBit z = true then (if (l.getD y 0).testBit z = true then spec_FirstFailure.l2 k (x : Int) (y : Int) ((z + 1 : Nat) : Int) (m : Int) (ints l) else ((spec_l4Exchange.f k (m : Int) (ints l) ((l.getD x 0 : Nat) : Int) ((l.getD y 0 : Nat) : Int) (z : Int)).bind fun t => (if t = true then spec_FirstFailure.l2 k (x : Int) (y : Int) ((z + 1 : Nat) : Int) (m : Int) (ints l) else some (((l.getD x 0 : Nat) : Int), ((l.getD y 0 : Nat) : Int), (z : Int), true)))) else spec_FirstFailure.l2 k (x : Int) (y : Int) ((z + 1 : Nat) : Int) (m : Int) (ints l)) := fun k => by
   simp only [spec_FirstFailure.l2]
   rw [if_pos (by omega), if_pos (by omega), if_pos (by rw [ints_length]; omega), if_pos (by omega), if_pos (by rw [ints_length]; omega), ints_rd, ints_rd, l2Has _ z ha (by omega)]
   simp only [Option.bind_some]
   rw [l2Has _ z hb (by omega)]
   simp only [Option.bind_some]
   rw [Gen.w64s z (by omega)]
  cases h1 : (l.getD x 0).testBit z with
  | false =>
   refine ⟨fun h => by simp at h, fun _ hr => Ev.step (fun k => ?_) hr⟩
   rw [unf, h1, if_neg (by decide)]
  | true =>
   cases h2 : (l.getD y 0).testBit z with
   | true =>
    refine ⟨fun h => by simp at h, fun _ hr => Ev.step (fun k => ?_) hr⟩
    rw [unf, h1, h2, if_pos rfl, if_pos rfl]
   | false =>
    have hE := specExchange m hm l hn (l.getD x 0) (l.getD y 0) z ha (hltm y hy) (by omega) h1
    cases h3 : exch l (l.getD x 0) (l.getD y 0) z with
    | true =>
     rw [h3] at hE
     refine ⟨fun h => by simp at h, fun _ hr => Ev.step (fun k => ?_) (Ev.bind hE (f := fun k t => (if t = true then spec_FirstFailure.l2 k (x : Int) (y : Int) ((z + 1 : Nat) : Int) (m : Int) (ints l) else some (((l.getD x 0 : Nat) : Int), ((l.getD y 0 : Nat) : Int), (z : Int), true))) (by simp only [if_true]; exact hr))⟩
     rw [unf, h1, h2, if_pos rfl, if_neg (by decide)]
    | false =>
     rw [h3] at hE
     refine ⟨fun _ _ e => ?_, fun h => by simp at h⟩
     subst e
     refine Ev.step (fun k => ?_) (Ev.bind hE (f := fun k t => (if t = true then spec_FirstFailure.l2 k (x : Int) (y : Int) ((z + 1 : Nat) : Int) (m : Int) (ints l) else some (((l.getD x 0 : Nat) : Int), ((l.getD y 0 : Nat) : Int), (z : Int), true))) (by simp only [Bool.false_eq_true, if_false]; exact Ev.now _))
     rw [unf, h1, h2, if_pos rfl, if_neg (by decide)]
 have inner : ∀ x y : Nat, x < l.length → y < l.length → ∀ d i : Nat, i + d = m → _ := fun x y hx hy =>
  ev_search (fun k z => spec_FirstFailure.l2 k (x : Int) (y : Int) z (m : Int) (ints l)) m
   (fun z => (l.getD x 0).testBit z && !(l.getD y 0).testBit z && !exch l (l.getD x 0) (l.getD y 0) z) (fun r => r.2.2.2 = true)
   (fun z hz hp => ⟨_, rfl, (round x y z hx hy hz (((l.getD x 0 : Nat) : Int), ((l.getD y 0 : Nat) : Int), (z : Int), true)).1 hp rfl rfl⟩)
   (fun z hz hp r hr => (round x y z hx hy hz r).2 hp hr)
 have innerAny : ∀ x y : Nat, x < l.length → ((List.range' 0 m).any fun z => (l.getD x 0).testBit z && !(l.getD y 0).testBit z && !exch l (l.getD x 0) (l.getD y 0) z) = (List.range' 0 8).any fun e => (l.getD x 0).testBit e && !(l.getD y 0).testBit e && !exch l (l.getD x 0) (l.getD y 0) e := fun x y hx => range8 m hm _ (fun j hj => by rw [bit_far (hltm x hx) hj]; rfl)
 have middle : ∀ x : Nat, x < l.length → ∀ d i : Nat, i + d = l.length → _ := fun x hx =>
  ev_search (fun k y => spec_FirstFailure.l1 k (x : Int) y (m : Int) (ints l)) l.length
   (fun y => (List.range' 0 8).any fun e => (l.getD x 0).testBit e && !(l.getD y 0).testBit e && !exch l (l.getD x 0) (l.getD y 0) e) (fun r => r.2.2.2 = true)
   (by
    intro y hy hp
    obtain ⟨h1, _⟩ := inner x y hx hy m 0 (by omega)
    rw [innerAny x y hx] at h1
    obtain ⟨r, hr, hE⟩ := h1 hp
    refine ⟨r, hr, Ev.step (fun k => ?_) hE⟩
    simp only [spec_FirstFailure.l1]
    rw [if_pos (by rw [ints_length]; omega)]
    rfl)
   (by
    intro y hy hp r hr
    obtain ⟨_, h2⟩ := inner x y hx hy m 0 (by omega)
    rw [innerAny x y hx] at h2
    refine Ev.step (fun k => ?_) (h2 hp r (Ev.step (fun k => by
     simp only [spec_FirstFailure.l2]
     rw [if_neg (by omega), Gen.w64s y (by omega)]) hr))
    simp only [spec_FirstFailure.l1]
    rw [if_pos (by rw [ints_length]; omega)]
    rfl)
 have middleAny : ∀ x : Nat, ((List.range' 0 l.length).any fun y => (List.range' 0 8).any fun e => (l.getD x 0).testBit e && !(l.getD y 0).testBit e && !exch l (l.getD x 0) (l.getD y 0) e) = l.any fun b => (List.range' 0 8).any fun e => (l.getD x 0).testBit e && !b.testBit e && !exch l (l.getD x 0) b e := fun x => any_index l 0 (fun b => (List.range' 0 8).any fun e => (l.getD x 0).testBit e && !b.testBit e && !exch l (l.getD x 0) b e)
 obtain ⟨o1, o2⟩ := ev_search (fun k x => spec_FirstFailure.l0 k x (m : Int) (ints l)) l.length
   (fun x => l.any fun b => (List.range' 0 8).any fun e => (l.getD x 0).testBit e && !b.testBit e && !exch l (l.getD x 0) b e) (fun r => r.2.2.2 = true)
   (by
    intro x hx hp
    obtain ⟨h1, _⟩ := middle x hx l.length 0 (by omega)
    rw [middleAny] at h1
    obtain ⟨r, hr, hE⟩ := h1 hp
    refine ⟨r, hr, Ev.step (fun k => ?_) hE⟩
    simp only [spec_FirstFailure.l0]
    rw [if_pos (by rw [ints_length]; omega)]
    rfl)
   (by
    intro x hx hp r hr
    obtain ⟨_, h2⟩ := middle x hx l.length 0 (by omega)
    rw [middleAny] at h2
    refine Ev.step (fun k => ?_) (h2 hp r (Ev.step (fun k => by
     simp only [spec_FirstFailure.l1]
     rw [if_neg (by rw [ints_length]; omega), Gen.w64s x (by omega)]) hr))
    simp only [spec_FirstFailure.l0]
    rw [if_pos (by rw [ints_length]; omega)]
    rfl) l.length 0 (by omega)
 have outerAny : ((List.range' 0 l.length).any fun x => l.any fun b => (List.range' 0 8).any fun e => (l.getD x 0).testBit e && !b.testBit e && !exch l (l.getD x 0) b e) = fails l := by
  unfold fails
  exact any_index l 0 (fun a => l.any fun b => (List.range' 0 8).any fun e => a.testBit e && !b.testBit e && !exch l a b e)
 rw [outerAny] at o1 o2
 have start : ∀ r, Ev (fun k => spec_FirstFailure.l0 k 0 (m : Int) (ints l)) r → Ev (fun k => spec_FirstFailure.f k (m : Int) (ints l)) r := fun r hr => by
  unfold spec_FirstFailure.f
  refine Ev.bind (Gen.ev_at (l.length + 1) (fun k hk => specFamily (m : Int) (ints l) (by rw [ints_length]; exact hn) k (by rw [ints_length]; omega))) ?_
  rw [hf]
  simp only [if_true]
  exact hr
 cases hfl : fails l with
 | true =>
  obtain ⟨⟨x, y, z, b⟩, hb, hE⟩ := o1 hfl
  simp only at hb
  subst hb
  exact ⟨x, y, z, start _ hE⟩
 | false =>
  refine ⟨0, 0, 0, start _ (o2 hfl _ (Gen.ev_at 1 (fun k hk => ?_)))⟩
  obtain ⟨q, rfl⟩ : ∃ q, k = q + 1 := ⟨k - 1, by omega⟩
  simp only [spec_FirstFailure.l0]
  rw [if_neg (by rw [ints_length]; omega)]
def isMat (n : Int) (l : List Int) : Bool := fam n l && decide (0 < l.length) && !fails (l.map Int.toNat)
theorem toNat_ints (l : List Nat) : (ints l).map Int.toNat = l := by
 unfold ints
 rw [List.map_map]
 conv => rhs; rw [← List.map_id l]
 exact List.map_congr_left fun x _ => by simp
theorem implMat (n : Int) (l : List Int) (hn : l.length ≤ 1048576) : Ev (fun k => impl_IsMatroid.f k n l) (isMat n l) := by
 unfold impl_IsMatroid.f isMat
 have hF : Ev (fun k => impl_IsFamily.f k n l) (fam n l) := Gen.ev_at (l.length + 1) (fun k hk => implFamily n l hn k (by omega))
 cases hf : fam n l with
 | false =>
  rw [hf] at hF
  refine Ev.bind (a := (0, 0, 0, false)) ?_ (Ev.bind hF (by simp only [Bool.false_eq_true, if_false]; exact Ev.now _))
  unfold impl_FirstFailure.f
  exact Ev.bind hF (by simp only [Bool.false_eq_true, if_false]; exact Ev.now _)
 | true =>
  rw [hf] at hF
  obtain ⟨m, lN, rfl, hm, rfl, hl⟩ := fam_nat hf
  rw [toNat_ints]
  rw [ints_length] at hn
  obtain ⟨x, y, z, hE⟩ := implFirst m hm lN hl hn hf
  refine Ev.bind hE (Ev.bind hF ?_)
  simp only [if_true, ints_length]
  by_cases h0 : 0 < lN.length
  ·simp only [if_pos (show (lN.length : Int) > 0 by omega), decide_eq_true h0, Bool.true_and]
   exact Ev.now _
  ·simp only [if_neg (show ¬ (lN.length : Int) > 0 by omega), decide_eq_false h0, Bool.true_and, Bool.false_and]
   exact Ev.now _
theorem specMat (n : Int) (l : List Int) (hn : l.length ≤ 1048576) : Ev (fun k => spec_IsMatroid.f k n l) (isMat n l) := by
 unfold spec_IsMatroid.f isMat
 have hF : Ev (fun k => spec_IsFamily.f k n l) (fam n l) := Gen.ev_at (l.length + 1) (fun k hk => specFamily n l hn k (by omega))
 cases hf : fam n l with
 | false =>
  rw [hf] at hF
  refine Ev.bind (a := (0, 0, 0, false)) ?_ (Ev.bind hF (by simp only [Bool.false_eq_true, if_false]; exact Ev.now _))
  unfold spec_FirstFailure.f
  exact Ev.bind hF (by simp only [Bool.false_eq_true, if_false]; exact Ev.now _)
 | true =>
  rw [hf] at hF
  obtain ⟨m, lN, rfl, hm, rfl, hl⟩ := fam_nat hf
  rw [toNat_ints]
  rw [ints_length] at hn
  obtain ⟨x, y, z, hE⟩ := specFirst m hm lN hl hn hf
  refine Ev.bind hE (Ev.bind hF ?_)
  simp only [if_true, ints_length]
  by_cases h0 : 0 < lN.length
  ·simp only [if_pos (show (lN.length : Int) > 0 by omega), decide_eq_true h0, Bool.true_and]
   exact Ev.now _
  ·simp only [if_neg (show ¬ (lN.length : Int) > 0 by omega), decide_eq_false h0, Bool.true_and, Bool.false_and]
   exact Ev.now _
end Go.Proofs.Ytbjnkcfkhonkhaa.Mat
end
section
namespace Go.Proofs.Ytbjnkcfkhonkhaa.Rank
open Go.RowKit Go.Proofs.Ytbjnkcfkhonkhaa.Pr Go.Proofs.Ytbjnkcfkhonkhaa.Sets Go.Proofs.Ytbjnkcfkhonkhaa.Mat Go.Proofs.YtbjnkcfkhonkhaaW.PrintWords Go.Proofs.YtbjnkcfkhonkhaaW.PrintLast Go.Proofs.YtbjnkcfkhonkhaaW.PrintMore
set_option linter.unusedVariables false
def cnt (s : Nat) : Nat := (elems s).length
theorem cnt_le (s : Nat) : cnt s ≤ 8 := elems_length s
set_option maxRecDepth 100000 in
theorem implCountB : ∀ s : Nat, s < 256 → impl_CountOf.f (s : Int) = some (cnt s : Int) := by decide +kernel
theorem implCount (s : Nat) (h : s < 256) : impl_CountOf.f (s : Int) = some (cnt s : Int) := implCountB s h
set_option maxRecDepth 100000 in
theorem specCountB : ∀ s : Nat, s < 256 → spec_CountOf.f 10 (s : Int) = some (cnt s : Int) := by decide +kernel
theorem specCount (s : Nat) (h : s < 256) (k : Nat) (hk : 10 ≤ k) : spec_CountOf.f k (s : Int) = some (cnt s : Int) := by
 induction k with
 | zero => omega
 | succ k ih =>
  by_cases e : 10 ≤ k
  ·exact spec_CountOf.mono _ _ _ (ih e)
  ·obtain rfl : k = 9 := by omega
   exact specCountB s h
theorem specCountE (s : Nat) (h : s < 256) : Ev (fun k => spec_CountOf.f k (s : Int)) (cnt s : Int) := Gen.ev_at 10 (fun k hk => specCount s h k hk)
def rank (l : List Nat) (s : Nat) : Nat := l.foldl (fun m b => max m (cnt (s &&& b))) 0
theorem foldl_index {σ : Type} (l : List Nat) (f : σ → Nat → σ) (s : σ) : (List.range' 0 l.length).foldl (fun s i => f s (l.getD i 0)) s = l.foldl f s := by
 have e : l = (List.range' 0 l.length).map fun i => l.getD i 0 := by
  rw [← List.range_eq_range', Gen.map_getD']
 conv => rhs; rw [e]
 rw [List.foldl_map]
theorem and_lt {a b n : Nat} (ha : a < 2 ^ n) : a &&& b < 2 ^ n := Nat.lt_of_le_of_lt Nat.and_le_left ha
theorem implRank (m : Nat) (l : List Nat) (s : Nat) (hs : s < 256) (hl : ∀ b ∈ l, b < 256) (hn : l.length ≤ 1048576) : Ev (fun k => impl_rankIn.f k (m : Int) (ints l) (s : Int)) (rank l s : Int) := by
 unfold impl_rankIn.f
 have e : rank l s = (List.range' 0 l.length).foldl (fun o i => max o (cnt (s &&& l.getD i 0))) 0 := (foldl_index l (fun o b => max o (cnt (s &&& b))) 0).symm
 rw [e]
 have key := Gen.ev_loop (fun k (o : Nat) i => impl_rankIn.l0 k (s : Int) (o : Int) (ints l) ((ints l).length : Int) i) l.length (fun i o => max o (cnt (s &&& l.getD i 0))) (fun _ _ => True) (((List.range' 0 l.length).foldl (fun o i => max o (cnt (s &&& l.getD i 0))) 0 : Nat) : Int) (fun i o hi _ => ⟨trivial, fun h => Ev.step (fun k => ?_) h⟩) l.length 0 0 (by omega) trivial (fun _ => Gen.ev_at 1 (fun k hk => ?_))
 ·exact key
 ·simp only [impl_rankIn.l0]
  have hb := hl _ (getD_mem l 0 i hi)
  rw [if_pos (by rw [ints_length]; omega), if_pos (by omega), if_pos (by rw [ints_length]; omega), ints_rd, and_nat s _ (by omega) (by omega), implCount _ (and_lt (n := 8) hs)]
  simp only [Option.bind_some]
  rw [Gen.w64s i (by omega)]
  congr 1
  unfold mx
  split <;> omega
 ·obtain ⟨q, rfl⟩ : ∃ q, k = q + 1 := ⟨k - 1, by omega⟩
  simp only [impl_rankIn.l0]
  rw [if_neg (by rw [ints_length]; omega)]
theorem specRank (m : Nat) (l : List Nat) (s : Nat) (hs : s < 256) (hl : ∀ b ∈ l, b < 256) (hn : l.length ≤ 1048576) : Ev (fun k => spec_l5Rank.f k (m : Int) (ints l) (s : Int)) (rank l s : Int) := by
 unfold spec_l5Rank.f
 have e : rank l s = (List.range' 0 l.length).foldl (fun o i => max o (cnt (s &&& l.getD i 0))) 0 := (foldl_index l (fun o b => max o (cnt (s &&& b))) 0).symm
 rw [e]
 have key := Gen.ev_loop (fun k (o : Nat) i => spec_l5Rank.l0 k (s : Int) (o : Int) i (m : Int) (ints l)) l.length (fun i o => max o (cnt (s &&& l.getD i 0))) (fun _ _ => True) (((List.range' 0 l.length).foldl (fun o i => max o (cnt (s &&& l.getD i 0))) 0 : Nat) : Int) (fun i o hi _ => ⟨trivial, fun h => ?_⟩) l.length 0 0 (by omega) trivial (fun _ => Gen.ev_at 1 (fun k hk => ?_))
 ·exact key
 ·have hb := hl _ (getD_mem l 0 i hi)
  refine Ev.step (f := fun k => (spec_CountOf.f k (Go.bits .and .i64 (rd (ints l) (i : Int)) (s : Int))).bind fun t278 => ((spec_l1Max.f (o : Int) t278).bind fun t279 => (spec_l5Rank.l0 k (s : Int) t279 (wrap64 ((i : Int) + 1)) (m : Int) (ints l)))) (fun k => ?_) ?_
  ·simp only [spec_l5Rank.l0]
   rw [if_pos (by rw [ints_length]; omega), if_pos (by omega)]
  ·rw [ints_rd, and_nat _ s (by omega) (by omega), Nat.and_comm, Gen.w64s i (by omega)]
   refine Ev.bind (specCountE _ (and_lt (n := 8) hs)) ?_
   have hx : spec_l1Max.f (o : Int) (cnt (s &&& l.getD i 0) : Int) = some ((max o (cnt (s &&& l.getD i 0)) : Nat) : Int) := by
    unfold spec_l1Max.f
    split <;> · congr 1; omega
   rw [hx]
   exact h
 ·obtain ⟨q, rfl⟩ : ∃ q, k = q + 1 := ⟨k - 1, by omega⟩
  simp only [spec_l5Rank.l0]
  rw [if_neg (by rw [ints_length]; omega)]
theorem or_lt {a b n : Nat} (ha : a < 2 ^ n) (hb : b < 2 ^ n) : a ||| b < 2 ^ n := Nat.or_lt_two_pow ha hb
end Go.Proofs.Ytbjnkcfkhonkhaa.Rank
end
section
namespace Go.Proofs.Ytbjnkcfkhonkhaa.Flat
open Go.RowKit Go.Proofs.Ytbjnkcfkhonkhaa.Pr Go.Proofs.Ytbjnkcfkhonkhaa.Sets Go.Proofs.Ytbjnkcfkhonkhaa.Mat Go.Proofs.Ytbjnkcfkhonkhaa.Rank Go.Proofs.YtbjnkcfkhonkhaaW.PrintWords Go.Proofs.YtbjnkcfkhonkhaaW.PrintLast Go.Proofs.YtbjnkcfkhonkhaaW.PrintMore
set_option linter.unusedVariables false
theorem mat_nat {n : Int} {l : List Int} (h : isMat n l = true) : ∃ (m : Nat) (lN : List Nat), n = m ∧ m ≤ 8 ∧ l = ints lN ∧ (∀ s ∈ lN, s < 2 ^ m) ∧ 0 < lN.length ∧ fails lN = false := by
 unfold isMat at h
 rw [Bool.and_eq_true, Bool.and_eq_true, decide_eq_true_eq] at h
 obtain ⟨⟨h1, h2⟩, h3⟩ := h
 obtain ⟨m, lN, rfl, hm, rfl, hl⟩ := fam_nat h1
 rw [toNat_ints] at h3
 rw [ints_length] at h2
 exact ⟨m, lN, rfl, hm, rfl, hl, h2, by simpa using h3⟩
theorem full_impl (m : Nat) (hm : m ≤ 8) : impl_FullSet.f (m : Int) = some ((2 ^ m - 1 : Nat) : Int) := by
 have : ∀ m : Nat, m < 9 → impl_FullSet.f (m : Int) = some ((2 ^ m - 1 : Nat) : Int) := by decide +kernel
 exact this m (by omega)
theorem full_spec (m : Nat) (hm : m ≤ 8) : spec_FullSet.f (m : Int) = some ((2 ^ m - 1 : Nat) : Int) := by
 have : ∀ m : Nat, m < 9 → spec_FullSet.f (m : Int) = some ((2 ^ m - 1 : Nat) : Int) := by decide +kernel
 exact this m (by omega)
end Go.Proofs.Ytbjnkcfkhonkhaa.Flat
end
section
namespace Go.Proofs.Ytbjnkcfkhonkhaa.Dual
open Go.RowKit Go.Proofs.Ytbjnkcfkhonkhaa.Pr Go.Proofs.Ytbjnkcfkhonkhaa.Sets Go.Proofs.Ytbjnkcfkhonkhaa.Mat Go.Proofs.Ytbjnkcfkhonkhaa.Rank Go.Proofs.Ytbjnkcfkhonkhaa.Flat Go.Proofs.YtbjnkcfkhonkhaaW.PrintWords Go.Proofs.YtbjnkcfkhonkhaaW.PrintLast Go.Proofs.YtbjnkcfkhonkhaaW.PrintMore
set_option linter.unusedVariables false
set_option maxRecDepth 100000 in
theorem full_diffB : ∀ m, m < 9 → ∀ b, b < 256 → b < 2 ^ m → 2 ^ m - 1 - b = diff (2 ^ m - 1) b := by decide +kernel
theorem full_diff {m b : Nat} (hm : m ≤ 8) (hb : b < 2 ^ m) : 2 ^ m - 1 - b = diff (2 ^ m - 1) b := full_diffB m (by omega) b (Nat.lt_of_lt_of_le hb (pow_le_256 hm)) hb
end Go.Proofs.Ytbjnkcfkhonkhaa.Dual
end
section
namespace Go.Proofs.Ytbjnkcfkhonkhaa.Size
open Go.RowKit Go.Proofs.Ytbjnkcfkhonkhaa.Sets Go.Proofs.Ytbjnkcfkhonkhaa.Rank
set_option linter.unusedVariables false
theorem cnt_count (s : Nat) : cnt s = (List.range' 0 8).countP fun j => s.testBit j := by
 unfold cnt elems
 rw [List.countP_eq_length_filter]
theorem cnt_mono {a b : Nat} (h : ∀ j, j < 8 → a.testBit j = true → b.testBit j = true) : cnt a ≤ cnt b := by
 rw [cnt_count, cnt_count]
 refine List.countP_mono_left fun j hj => h j ?_
 have := List.mem_range'_1.1 hj
 omega
theorem cnt_and_le (s b : Nat) : cnt (s &&& b) ≤ cnt b := cnt_mono fun j _ h => by
 rw [Nat.testBit_and, Bool.and_eq_true] at h
 exact h.2
theorem cnt_swap : ∀ a, a < 256 → ∀ e, e < 8 → ∀ f, f < 8 → a.testBit e = true → a.testBit f = false → cnt (diff a (2 ^ e) ||| 2 ^ f) = cnt a := by decide +kernel
theorem cnt_less : ∀ a, a < 256 → ∀ e, e < 8 → a.testBit e = true → cnt (diff a (2 ^ e)) < cnt a := by decide +kernel
theorem cnt_some : ∀ a, a < 256 → 0 < cnt a → ∃ e, e < 8 ∧ a.testBit e = true := by decide +kernel
theorem cnt_zero_bit : ∀ a, a < 256 → cnt a = 0 → a = 0 := by decide +kernel
theorem exch_some {l : List Nat} {a b e : Nat} (hf : fails l = false) (ha : a ∈ l) (hb : b ∈ l) (he : e < 8) (h1 : a.testBit e = true) (h2 : b.testBit e = false) : ∃ f, f < 8 ∧ b.testBit f = true ∧ a.testBit f = false ∧ (a - 2 ^ e + 2 ^ f) ∈ l := by
 have hx : exch l a b e = true := by
  cases h : exch l a b e with
  | true => rfl
  | false =>
   have : fails l = true := by
    unfold fails
    rw [List.any_eq_true]
    refine ⟨a, ha, List.any_eq_true.2 ⟨b, hb, List.any_eq_true.2 ⟨e, List.mem_range'_1.2 (by omega), ?_⟩⟩⟩
    rw [h1, h2, h]
    rfl
   rw [hf] at this
   exact Bool.noConfusion this
 unfold exch at hx
 obtain ⟨f, hf1, hf2⟩ := List.any_eq_true.1 hx
 have := List.mem_range'_1.1 hf1
 rw [Bool.and_eq_true, Bool.and_eq_true] at hf2
 exact ⟨f, by omega, hf2.1.1, by simpa using hf2.1.2, by simpa using hf2.2⟩
theorem bases_le (l : List Nat) (hl : ∀ s ∈ l, s < 256) (hf : fails l = false) : ∀ n a b : Nat, a ∈ l → b ∈ l → cnt (diff a b) ≤ n → cnt a ≤ cnt b := by
 intro n
 induction n with
 | zero =>
  intro a b ha hb h
  have h256 := hl a ha
  have hz : diff a b = 0 := cnt_zero_bit _ (diff_lt (n := 8) h256) (by omega)
  refine cnt_mono fun j hj hbit => ?_
  have := diff_bit a b j
  rw [hz, Nat.zero_testBit, hbit] at this
  simpa using this.symm
 | succ n ih =>
  intro a b ha hb h
  have h256 := hl a ha
  by_cases hle : cnt (diff a b) ≤ n
  ·exact ih a b ha hb hle
  ·obtain ⟨e, he, hbit⟩ := cnt_some _ (diff_lt (n := 8) h256) (show 0 < cnt (diff a b) by omega)
   have hbit' := hbit
   rw [diff_bit, Bool.and_eq_true] at hbit'
   obtain ⟨h1, h2⟩ := hbit'
   have h2' : b.testBit e = false := by simpa using h2
   obtain ⟨f, hf8, hbf, haf, hmem⟩ := exch_some hf ha hb he h1 h2'
   rw [← swap_eq a h256 e he f hf8 h1 haf] at hmem
   have hd : diff (diff a (2 ^ e) ||| 2 ^ f) b = diff (diff a b) (2 ^ e) := by
    apply Nat.eq_of_testBit_eq
    intro j
    rw [diff_bit, Nat.testBit_or, diff_bit, diff_bit, diff_bit, Nat.testBit_two_pow, Nat.testBit_two_pow]
    by_cases ej : f = j
    ·subst ej
     rw [hbf, haf]
     simp
    ·rw [decide_eq_false ej, Bool.or_false]
     cases a.testBit j <;> cases b.testBit j <;> cases decide (e = j) <;> rfl
   have hlt := cnt_less _ (diff_lt (n := 8) h256) e he hbit
   rw [← hd] at hlt
   have := ih _ b hmem hb (by omega)
   rw [cnt_swap a h256 e he f hf8 h1 haf] at this
   exact this
theorem bases_same {l : List Nat} (hl : ∀ s ∈ l, s < 256) (hf : fails l = false) {a b : Nat} (ha : a ∈ l) (hb : b ∈ l) : cnt a = cnt b :=
 Nat.le_antisymm (bases_le l hl hf _ a b ha hb (Nat.le_refl _)) (bases_le l hl hf _ b a hb ha (Nat.le_refl _))
theorem rank_le_of (l : List Nat) (s r : Nat) (h : ∀ b ∈ l, cnt (s &&& b) ≤ r) : rank l s ≤ r := by
 have : ∀ (l : List Nat) (o : Nat), o ≤ r → (∀ b ∈ l, cnt (s &&& b) ≤ r) → l.foldl (fun m b => max m (cnt (s &&& b))) o ≤ r := by
  intro l
  induction l with
  | nil => exact fun o ho _ => ho
  | cons a l ih =>
   intro o ho h
   rw [List.foldl_cons]
   have := h a (by simp)
   exact ih _ (by omega) fun b hb => h b (by simp [hb])
 exact this l 0 (by omega) h
theorem rank_ge (l : List Nat) (s b : Nat) (hb : b ∈ l) : cnt (s &&& b) ≤ rank l s := by
 have mono : ∀ (l : List Nat) (o : Nat), o ≤ l.foldl (fun m b => max m (cnt (s &&& b))) o := by
  intro l
  induction l with
  | nil => exact fun o => Nat.le_refl _
  | cons a l ih =>
   intro o
   rw [List.foldl_cons]
   exact Nat.le_trans (by omega) (ih _)
 have : ∀ (l : List Nat) (o : Nat), b ∈ l → cnt (s &&& b) ≤ l.foldl (fun m b => max m (cnt (s &&& b))) o := by
  intro l
  induction l with
  | nil => exact fun o h => by simp at h
  | cons a l ih =>
   intro o h
   rw [List.foldl_cons]
   rcases List.mem_cons.1 h with rfl | h
   ·exact Nat.le_trans (by omega) (mono l _)
   ·exact ih _ h
 exact this l 0 hb
def top (l : List Nat) : Nat := cnt (l.getD 0 0)
theorem rank_le {l : List Nat} (hl : ∀ s ∈ l, s < 256) (hf : fails l = false) (hn : 0 < l.length) (s : Nat) : rank l s ≤ top l :=
 rank_le_of l s _ fun b hb => Nat.le_trans (cnt_and_le s b) (Nat.le_of_eq (bases_same hl hf hb (getD_mem l 0 0 hn)))
end Go.Proofs.Ytbjnkcfkhonkhaa.Size
end
section
namespace Go.Proofs.Ytbjnkcfkhonkhaa.Whit
open Go.RowKit Go.Proofs.Ytbjnkcfkhonkhaa.Pr Go.Proofs.Ytbjnkcfkhonkhaa.Sets Go.Proofs.Ytbjnkcfkhonkhaa.Mat Go.Proofs.Ytbjnkcfkhonkhaa.Rank Go.Proofs.Ytbjnkcfkhonkhaa.Flat Go.Proofs.Ytbjnkcfkhonkhaa.Size Go.Proofs.YtbjnkcfkhonkhaaW.PrintWords Go.Proofs.YtbjnkcfkhonkhaaW.PrintLast Go.Proofs.YtbjnkcfkhonkhaaW.PrintMore
set_option linter.unusedVariables false
theorem mem_256 {m : Nat} {l : List Nat} (hm : m ≤ 8) (hl : ∀ s ∈ l, s < 2 ^ m) : ∀ b ∈ l, b < 256 := fun b hb => Nat.lt_of_lt_of_le (hl b hb) (pow_le_256 hm)
theorem implRankOf (n : Int) (l : List Int) (hn : l.length ≤ 1048576) : Ev (fun k => impl_RankOfMatroid.f k n l) (if isMat n l = true then (top (l.map Int.toNat) : Int) else -1) := by
 unfold impl_RankOfMatroid.f
 refine Ev.bind (implMat n l hn) ?_
 cases h : isMat n l with
 | false => simp only [Bool.false_eq_true, if_false]; exact Ev.now _
 | true =>
  obtain ⟨m, lN, rfl, hm, rfl, hl, h0, _⟩ := mat_nat h
  simp only [if_true, toNat_ints, ints_length, if_pos (show (0 : Int) < (lN.length : Int) by omega)]
  have hr : rd (ints lN) 0 = ((lN.getD 0 0 : Nat) : Int) := ints_rd lN 0
  rw [hr, implCount _ (mem_256 hm hl _ (getD_mem lN 0 0 h0))]
  exact Ev.now _
theorem specRankOf (n : Int) (l : List Int) (hn : l.length ≤ 1048576) : Ev (fun k => spec_RankOfMatroid.f k n l) (if isMat n l = true then (top (l.map Int.toNat) : Int) else -1) := by
 unfold spec_RankOfMatroid.f
 refine Ev.bind (specMat n l hn) ?_
 cases h : isMat n l with
 | false => simp only [Bool.false_eq_true, if_false]; exact Ev.now _
 | true =>
  obtain ⟨m, lN, rfl, hm, rfl, hl, h0, _⟩ := mat_nat h
  simp only [if_true, toNat_ints, ints_length, if_pos (show (0 : Int) < (lN.length : Int) by omega)]
  have hr : rd (ints lN) 0 = ((lN.getD 0 0 : Nat) : Int) := ints_rd lN 0
  rw [hr]
  exact Ev.bind (specCountE _ (mem_256 hm hl _ (getD_mem lN 0 0 h0))) (Ev.now _)
theorem top_le (l : List Nat) : top l ≤ 8 := cnt_le _
end Go.Proofs.Ytbjnkcfkhonkhaa.Whit
end
section
namespace Go.Proofs.Ytbjnkcfkhonkhaa.ActTab
open Go.RowKit Go.Proofs.Ytbjnkcfkhonkhaa.Pr Go.Proofs.Ytbjnkcfkhonkhaa.Base Go.Proofs.Ytbjnkcfkhonkhaa.Sets Go.Proofs.Ytbjnkcfkhonkhaa.Mat Go.Proofs.Ytbjnkcfkhonkhaa.Rank Go.Proofs.Ytbjnkcfkhonkhaa.Flat Go.Proofs.Ytbjnkcfkhonkhaa.Size Go.Proofs.Ytbjnkcfkhonkhaa.Dual Go.Proofs.Ytbjnkcfkhonkhaa.Whit Go.Proofs.YtbjnkcfkhonkhaaW.PrintWords Go.Proofs.YtbjnkcfkhonkhaaW.PrintLast Go.Proofs.YtbjnkcfkhonkhaaW.PrintMore
set_option linter.unusedVariables false
def Rect (r c : Nat) (t : List (List Int)) : Prop := t.length = r ∧ ∀ x ∈ t, x.length = c
theorem Rect.at_ {r c : Nat} {t : List (List Int)} (h : Rect r c t) {i : Nat} (hi : i < r) : (t.getD i []).length = c := by
 have hi' : i < t.length := by rw [h.1]; exact hi
 have := h.2 (t[i]) (List.getElem_mem hi')
 simpa [List.getD, hi'] using this
theorem Rect.set {r c : Nat} {t : List (List Int)} (h : Rect r c t) (i : Nat) {x : List Int} (hx : x.length = c) : Rect r c (t.set i x) := by
 refine ⟨by simpa using h.1, fun y hy => ?_⟩
 rcases List.mem_or_eq_of_mem_set hy with hy | rfl
 ·exact h.2 y hy
 ·exact hx
theorem rect_rep (r c : Nat) : Rect r c (List.replicate r (List.replicate c 0)) := ⟨by simp, fun x hx => by rw [(List.mem_replicate.1 hx).2]; simp⟩
theorem pushes (n : Nat) {γ : Type} (L : Nat → List (List Int) → Int → Option γ) (r : γ) (v : List Int)
  (hstep : ∀ k ys (i : Nat), i < n → ys.length = i → L (k + 1) ys (i : Int) = L k (ys ++ [v]) ((i + 1 : Nat) : Int)) (hend : Ev (fun k => L k (List.replicate n v) (n : Int)) r) : Ev (fun k => L k [] 0) r := by
 have key : ∀ (d i : Nat), i + d = n → Ev (fun k => L k (List.replicate i v) (i : Int)) r := by
  intro d
  induction d with
  | zero =>
   intro i e
   obtain rfl : i = n := by omega
   exact hend
  | succ d ih =>
   intro i e
   refine Ev.step (fun k => hstep k _ i (by omega) (by simp)) ?_
   have := ih (i + 1) (by omega)
   rwa [List.replicate_succ'] at this
 exact key n 0 (by omega)
theorem newTable (r c : Nat) (hr : r ≤ 64) (hc : c ≤ 64) : Ev (fun k => impl_newTable.f k (r : Int) (c : Int)) (List.replicate r (List.replicate c 0)) := by
 unfold impl_newTable.f
 refine pushes r (fun k ys n => impl_newTable.l0 k (r : Int) (c : Int) ys n) _ (List.replicate c 0) (fun k ys n hn hy => ?_) (Gen.ev_at 1 (fun k hk => ?_))
 ·simp only [impl_newTable.l0]
  rw [if_pos (by omega), if_pos (by omega), if_pos (by omega), if_pos (by omega), Gen.w64s n (by omega), Int.toNat_natCast]
 ·obtain ⟨q, rfl⟩ : ∃ q, k = q + 1 := ⟨k - 1, by omega⟩
  simp only [impl_newTable.l0]
  rw [if_neg (by omega)]
theorem cnt_compB : ∀ m, m < 9 → ∀ b, b < 256 → b < 2 ^ m → cnt (diff (2 ^ m - 1) b) + cnt b = m := by decide +kernel
theorem cnt_comp {m b : Nat} (hm : m ≤ 8) (hb : b < 2 ^ m) : cnt (diff (2 ^ m - 1) b) + cnt b = m := cnt_compB m (by omega) b (Nat.lt_of_lt_of_le hb (pow_le_256 hm)) hb
theorem diff_lt {m b : Nat} (hm : m ≤ 8) (hb : b < 2 ^ m) : diff (2 ^ m - 1) b < 2 ^ m := by
 rw [← full_diff hm hb]
 have := Nat.two_pow_pos m
 omega
theorem top_le {m : Nat} (hm : m ≤ 8) {l : List Nat} (hl : ∀ s ∈ l, s < 2 ^ m) (h0 : 0 < l.length) : top l ≤ m := by
 have := cnt_comp hm (hl _ (getD_mem l 0 0 h0))
 unfold top
 omega
end Go.Proofs.Ytbjnkcfkhonkhaa.ActTab
end
section
namespace Go.Proofs.Ytbjnkcfkhonkhaa.Tutte
open Go.RowKit Go.Proofs.Ytbjnkcfkhonkhaa.Pr Go.Proofs.Ytbjnkcfkhonkhaa.Base Go.Proofs.Ytbjnkcfkhonkhaa.Sets Go.Proofs.Ytbjnkcfkhonkhaa.Mat Go.Proofs.Ytbjnkcfkhonkhaa.Rank Go.Proofs.Ytbjnkcfkhonkhaa.Flat Go.Proofs.Ytbjnkcfkhonkhaa.Size Go.Proofs.Ytbjnkcfkhonkhaa.Whit Go.Proofs.Ytbjnkcfkhonkhaa.ActTab Go.Proofs.YtbjnkcfkhonkhaaW.PrintWords Go.Proofs.YtbjnkcfkhonkhaaW.PrintLast Go.Proofs.YtbjnkcfkhonkhaaW.PrintMore
set_option linter.unusedVariables false
def powL : List (List Int) := [[1], [-1, 1], [1, -2, 1], [-1, 3, -3, 1], [1, -4, 6, -4, 1], [-1, 5, -10, 10, -5, 1], [1, -6, 15, -20, 15, -6, 1], [-1, 7, -21, 35, -35, 21, -7, 1], [1, -8, 28, -56, 70, -56, 28, -8, 1]]
def chL : List (List Int) := [[1], [1, 1], [1, 2, 1], [1, 3, 3, 1], [1, 4, 6, 4, 1], [1, 5, 10, 10, 5, 1], [1, 6, 15, 20, 15, 6, 1], [1, 7, 21, 35, 35, 21, 7, 1], [1, 8, 28, 56, 70, 56, 28, 8, 1]]
def pw (a : Nat) : List Int := powL.getD a []
def ch (a : Nat) : List Int := chL.getD a []
def sg (n : Nat) : Int := if n % 2 = 0 then 1 else -1
theorem pw_len : ∀ a, a < 9 → (pw a).length = a + 1 := by decide +kernel
theorem ch_len : ∀ a, a < 9 → (ch a).length = a + 1 := by decide +kernel
theorem ev_mono {γ : Type} {f : Nat → Option γ} (hm : ∀ k, LeO (f k) (f (k + 1))) {r : γ} (K : Nat) (h : f K = some r) : Ev f r := by
 refine Gen.ev_at K (fun k hk => ?_)
 obtain ⟨d, rfl⟩ : ∃ d, k = K + d := ⟨k - K, by omega⟩
 clear hk
 induction d with
 | zero => exact h
 | succ d ih => exact hm _ _ ih
theorem lessB : ∀ a, a < 9 → impl_lessOne.f 90 ((a : Nat) : Int) = some (pw a) := by decide +kernel
theorem chooseB : ∀ a, a < 9 → spec_l23Choose.f 90 ((a : Nat) : Int) = some (ch a) := by decide +kernel
theorem signB : ∀ a, a < 9 → spec_l23Sign.f ((a : Nat) : Int) = some (sg a) := by decide +kernel
theorem less (a : Nat) (h : a < 9) : Ev (fun k => impl_lessOne.f k (a : Int)) (pw a) := ev_mono (fun k => impl_lessOne.mono _ k) 90 (lessB a h)
theorem choose (a : Nat) (h : a < 9) : Ev (fun k => spec_l23Choose.f k (a : Int)) (ch a) := ev_mono (fun k => spec_l23Choose.mono _ k) 90 (chooseB a h)
theorem coef : ∀ a, a < 9 → ∀ b, b < 9 → ∀ i, i < a + 1 → ∀ j, j < b + 1 → wrap64 ((wrap64 ((wrap64 ((wrap64 (1 * (rd (ch a) ((i : Nat) : Int)))) * (rd (ch b) ((j : Nat) : Int)))) * sg (a - i))) * sg (b - j)) = wrap64 (rd (pw a) ((i : Nat) : Int) * rd (pw b) ((j : Nat) : Int)) := by decide +kernel
def upd (t : List (List Int)) (i j : Nat) (v : Int) : List (List Int) := t.set i ((t.getD i []).set j (wrap64 (rd (t.getD i []) (j : Int) + v)))
theorem upd_rect {r c : Nat} {t : List (List Int)} (h : Rect r c t) {i : Nat} (hi : i < r) (j : Nat) (v : Int) : Rect r c (upd t i j v) := h.set i (by rw [List.length_set]; exact h.at_ hi)
def rowS (a b i : Nat) (t : List (List Int)) : List (List Int) := (List.range' 0 (b + 1)).foldl (fun t j => upd t i j (wrap64 (rd (pw a) (i : Int) * rd (pw b) (j : Int)))) t
def addS (a b : Nat) (t : List (List Int)) : List (List Int) := (List.range' 0 (a + 1)).foldl (fun t i => rowS a b i t) t
theorem rowS_rect {r c : Nat} {t : List (List Int)} (h : Rect r c t) (a b : Nat) {i : Nat} (hi : i < r) : Rect r c (rowS a b i t) := by
 have key : ∀ (q : List Nat) (t : List (List Int)), Rect r c t → Rect r c (q.foldl (fun t j => upd t i j (wrap64 (rd (pw a) (i : Int) * rd (pw b) (j : Int)))) t) := by
  intro q
  induction q with
  | nil => exact fun t h => h
  | cons j q ih => exact fun t h => ih _ (upd_rect h hi j _)
 exact key _ t h
theorem addS_rect {r c : Nat} {t : List (List Int)} (h : Rect r c t) (a b : Nat) (ha : a < r) : Rect r c (addS a b t) := by
 have key : ∀ (q : List Nat) (t : List (List Int)), (∀ i ∈ q, i < r) → Rect r c t → Rect r c (q.foldl (fun t i => rowS a b i t) t) := by
  intro q
  induction q with
  | nil => exact fun t _ h => h
  | cons j q ih => exact fun t hq h => ih _ (fun i hi => hq i (by simp [hi])) (rowS_rect h a b (hq j (by simp)))
 exact key _ t (fun i hi => by have := List.mem_range'_1.1 hi; omega) h
theorem specAdd (r c : Nat) (hr : r ≤ 9) (hc : c ≤ 9) (t : List (List Int)) (ht : Rect r c t) (a b : Nat) (ha : a < r) (hb : b < c) : Ev (fun k => spec_l23Add.f k t (a : Int) (b : Int) 1) (addS a b t) := by
 have la := ch_len a (by omega)
 have lb := ch_len b (by omega)
 unfold spec_l23Add.f
 refine Ev.bind (choose a (by omega)) (Ev.bind (choose b (by omega)) ?_)
 refine Gen.ev_loop (fun k t i => spec_l23Add.l0 k (a : Int) (b : Int) 1 t (ch a) (ch b) i) (a + 1) (fun i t => rowS a b i t) (fun _ t => Rect r c t) _ (fun i t hi hR => ⟨rowS_rect hR a b (by omega), fun h => ?_⟩) (a + 1) 0 t (Nat.zero_add _) ht (fun _ => Gen.ev_at 1 (fun k hk => ?_))
 ·refine Ev.step (f := fun k => spec_l23Add.l1 k (a : Int) (b : Int) 1 t (ch a) (ch b) (i : Int) 0) (fun k => ?_) ?_
  ·simp only [spec_l23Add.l0]
   rw [if_pos (by omega)]
  refine Gen.ev_loop (fun k t j => spec_l23Add.l1 k (a : Int) (b : Int) 1 t (ch a) (ch b) (i : Int) j) (b + 1) (fun j t => upd t i j (wrap64 (rd (pw a) (i : Int) * rd (pw b) (j : Int)))) (fun _ t => Rect r c t) _ (fun j t hj hR => ⟨upd_rect hR (by omega) j _, fun h => Ev.step (fun k => ?_) h⟩) (b + 1) 0 t (Nat.zero_add _) hR (fun _ => Ev.step (fun k => ?_) h)
  ·have hrow := hR.at_ (show i < r by omega)
   simp only [spec_l23Add.l1]
   rw [if_pos (by omega), if_pos (by omega), if_pos (by rw [hR.1]; omega), if_pos (by omega), rdL, if_pos (by rw [hrow]; omega), if_pos (by omega), if_pos (by omega), Gen.w64 (i := (a : Int) - (i : Int)) (by omega) (by omega), Gen.w64 (i := (b : Int) - (j : Int)) (by omega) (by omega), show (a : Int) - (i : Int) = ((a - i : Nat) : Int) by omega, show (b : Int) - (j : Int) = ((b - j : Nat) : Int) by omega, signB (a - i) (by omega), Option.bind_some, signB (b - j) (by omega), Option.bind_some, coef a (by omega) b (by omega) i hi j hj, Gen.w64s j (by omega), Int.toNat_natCast, Int.toNat_natCast]
   rfl
  ·simp only [spec_l23Add.l1]
   rw [if_neg (by omega), Gen.w64s i (by omega)]
   rfl
 ·obtain ⟨q, rfl⟩ : ∃ q, k = q + 1 := ⟨k - 1, by omega⟩
  simp only [spec_l23Add.l0]
  rw [if_neg (by omega)]
  rfl
theorem cnt_incl (s b : Nat) : cnt (s &&& b) + cnt (s ||| b) = cnt s + cnt b := by
 rw [cnt_count, cnt_count, cnt_count, cnt_count]
 simp only [Nat.testBit_and, Nat.testBit_or]
 generalize List.range' 0 8 = q
 induction q with
 | nil => rfl
 | cons j q ih =>
  rw [List.countP_cons, List.countP_cons, List.countP_cons, List.countP_cons]
  cases s.testBit j <;> cases b.testBit j <;> simp <;> omega
theorem null_le {m : Nat} (hm : m ≤ 8) {l : List Nat} (hl : ∀ s ∈ l, s < 2 ^ m) (h0 : 0 < l.length) {s : Nat} (hs : s < 2 ^ m) : cnt s - rank l s ≤ m - top l := by
 have hb := getD_mem l 0 0 h0
 have h1 := rank_ge l s _ hb
 have h2 := cnt_incl s (l.getD 0 0)
 have h3 := cnt_comp hm (or_lt hs (hl _ hb))
 unfold top
 omega
theorem rank_le_cnt (l : List Nat) (s : Nat) : rank l s ≤ cnt s := rank_le_of l s _ fun b _ => by
 have := cnt_incl s b
 have h : cnt b ≤ cnt (s ||| b) := cnt_mono fun j _ h => by rw [Nat.testBit_or, h, Bool.or_true]
 omega
def tutN (m : Nat) (l : List Nat) : List (List Int) := (List.range' 0 (2 ^ m)).foldl (fun t s => addS (top l - rank l s) (cnt s - rank l s) t) (List.replicate (top l + 1) (List.replicate (m - top l + 1) 0))
def tutI (n : Int) (l : List Int) : List (List Int) := if isMat n l = true then tutN n.toNat (l.map Int.toNat) else []
theorem tut_rect (m : Nat) (l : List Nat) : Rect (top l + 1) (m - top l + 1) (tutN m l) := by
 have key : ∀ (q : List Nat) (t : List (List Int)), Rect (top l + 1) (m - top l + 1) t → Rect (top l + 1) (m - top l + 1) (q.foldl (fun t s => addS (top l - rank l s) (cnt s - rank l s) t) t) := by
  intro q
  induction q with
  | nil => exact fun t h => h
  | cons s q ih => exact fun t h => ih _ (addS_rect h _ _ (by omega))
 exact key _ _ (rect_rep _ _)
theorem specTut (n : Int) (l : List Int) (hn : l.length ≤ 1048576) : Ev (fun k => spec_TutteOf.f k n l) (tutI n l) := by
 unfold spec_TutteOf.f
 simp only [Option.bind_some]
 refine Ev.bind (specRankOf n l hn) ?_
 unfold tutI
 cases hM : isMat n l with
 | false =>
  simp only [Bool.false_eq_true, if_false, if_pos (show (-1 : Int) < 0 by decide)]
  exact Ev.now _
 | true =>
  obtain ⟨m, lN, rfl, hm, rfl, hl, h0, hf⟩ := mat_nat hM
  have ht := top_le hm hl h0
  have h256 := pow_le_256 hm
  rw [ints_length] at hn
  simp only [if_true, toNat_ints, Int.toNat_natCast, if_neg (show ¬ ((top lN : Int) < 0) by omega)]
  have ec : wrap64 (wrap64 ((m : Int) - (top lN : Int)) + 1) = ((m - top lN + 1 : Nat) : Int) := by
   rw [Gen.w64 (i := (m : Int) - (top lN : Int)) (by omega) (by omega), Gen.w64 (by omega) (by omega)]
   omega
  refine pushes (top lN + 1) (fun k ys n => spec_TutteOf.l0 k ys (top lN : Int) n (m : Int) (ints lN)) _ (List.replicate (m - top lN + 1) 0) (fun k ys n hn' hy => ?_) ?_
  ·simp only [spec_TutteOf.l0]
   rw [ec, if_pos (by omega), if_pos (by omega), if_pos (by omega), if_pos (by omega), Gen.w64s n (by omega), Int.toNat_natCast]
  refine Ev.step (f := fun k => spec_TutteOf.l1 k (List.replicate (top lN + 1) (List.replicate (m - top lN + 1) 0)) (top lN : Int) 0 (m : Int) (ints lN)) (fun k => by
   simp only [spec_TutteOf.l0]
   rw [if_neg (by omega)]) ?_
  refine Gen.ev_loop (fun k t s => spec_TutteOf.l1 k t (top lN : Int) s (m : Int) (ints lN)) (2 ^ m) (fun s t => addS (top lN - rank lN s) (cnt s - rank lN s) t) (fun _ t => Rect (top lN + 1) (m - top lN + 1) t) _ (fun s t hs hR => ⟨addS_rect hR _ _ (by omega), fun h => ?_⟩) (2 ^ m) 0 _ (Nat.zero_add _) (rect_rep _ _) (fun _ => Gen.ev_at 1 (fun k hk => ?_))
  ·have h1 := null_le hm hl h0 hs
   have h2 := rank_le_cnt lN s
   have h3 := rank_le (mem_256 hm hl) hf h0 s
   have h4 := cnt_le s
   refine Ev.step (f := fun k => (spec_l5Rank.f k (m : Int) (ints lN) (s : Int)).bind fun t1 => ((spec_CountOf.f k (s : Int)).bind fun t2 => ((spec_l23Add.f k t (wrap64 ((top lN : Int) - t1)) (wrap64 (t2 - t1)) 1).bind fun t3 => (spec_TutteOf.l1 k t3 (top lN : Int) ((s + 1 : Nat) : Int) (m : Int) (ints lN))))) (fun k => ?_) ?_
   ·simp only [spec_TutteOf.l1]
    rw [full_spec m hm, Option.bind_some, if_pos (by omega), Gen.w64s s (by omega)]
   ·refine Ev.bind (specRank m lN s (by omega) (mem_256 hm hl) hn) (Ev.bind (specCountE s (by omega)) ?_)
    rw [Gen.w64 (by omega) (by omega), Gen.w64 (by omega) (by omega), show (top lN : Int) - (rank lN s : Int) = ((top lN - rank lN s : Nat) : Int) by omega, show (cnt s : Int) - (rank lN s : Int) = ((cnt s - rank lN s : Nat) : Int) by omega]
    exact Ev.bind (specAdd (top lN + 1) (m - top lN + 1) (by omega) (by omega) t hR _ _ (by omega) (by omega)) h
  ·obtain ⟨q, rfl⟩ : ∃ q, k = q + 1 := ⟨k - 1, by omega⟩
   have hp := Nat.two_pow_pos m
   simp only [spec_TutteOf.l1]
   rw [full_spec m hm, Option.bind_some, if_neg (by omega)]
   rfl
theorem implTut (n : Int) (l : List Int) (hn : l.length ≤ 1048576) : Ev (fun k => impl_TutteOf.f k n l) (tutI n l) := by
 unfold impl_TutteOf.f
 refine Ev.bind (implRankOf n l hn) ?_
 unfold tutI
 cases hM : isMat n l with
 | false =>
  simp only [Bool.false_eq_true, if_false, if_pos (show (-1 : Int) < 0 by decide)]
  exact Ev.now _
 | true =>
  obtain ⟨m, lN, rfl, hm, rfl, hl, h0, hf⟩ := mat_nat hM
  have ht := top_le hm hl h0
  have h256 := pow_le_256 hm
  rw [ints_length] at hn
  simp only [if_true, toNat_ints, Int.toNat_natCast, if_neg (show ¬ ((top lN : Int) < 0) by omega)]
  rw [Gen.w64 (by omega) (by omega), Gen.w64 (i := (m : Int) - (top lN : Int)) (by omega) (by omega), Gen.w64 (by omega) (by omega), show (top lN : Int) + 1 = ((top lN + 1 : Nat) : Int) by omega, show (m : Int) - (top lN : Int) + 1 = ((m - top lN + 1 : Nat) : Int) by omega]
  refine Ev.bind (newTable (top lN + 1) (m - top lN + 1) (by omega) (by omega)) ?_
  refine Gen.ev_loop (fun k t s => impl_TutteOf.l0 k (top lN : Int) t s (m : Int) (ints lN)) (2 ^ m) (fun s t => addS (top lN - rank lN s) (cnt s - rank lN s) t) (fun _ t => Rect (top lN + 1) (m - top lN + 1) t) _ (fun s t hs hR => ⟨addS_rect hR _ _ (by omega), fun h => ?_⟩) (2 ^ m) 0 _ (Nat.zero_add _) (rect_rep _ _) (fun _ => Gen.ev_at 1 (fun k hk => ?_))
  ·have h1 := null_le hm hl h0 hs
   have h2 := rank_le_cnt lN s
   have h3 := rank_le (mem_256 hm hl) hf h0 s
   have h4 := cnt_le s
   refine Ev.step (f := fun k => (impl_rankIn.f k (m : Int) (ints lN) (s : Int)).bind fun t1 => ((impl_CountOf.f (s : Int)).bind fun t2 => ((impl_lessOne.f k (wrap64 (t2 - t1))).bind fun t3 => ((impl_lessOne.f k (wrap64 ((top lN : Int) - t1))).bind fun t4 => (impl_TutteOf.l1 k (top lN : Int) t (s : Int) t3 t4 (t4.length : Int) 0 (m : Int) (ints lN)))))) (fun k => ?_) ?_
   ·simp only [impl_TutteOf.l0]
    rw [full_impl m hm, Option.bind_some, if_pos (by omega)]
   ·refine Ev.bind (implRank m lN s (by omega) (mem_256 hm hl) hn) ?_
    rw [implCount s (by omega)]
    simp only [Option.bind_some]
    rw [Gen.w64 (by omega) (by omega), Gen.w64 (by omega) (by omega), show (top lN : Int) - (rank lN s : Int) = ((top lN - rank lN s : Nat) : Int) by omega, show (cnt s : Int) - (rank lN s : Int) = ((cnt s - rank lN s : Nat) : Int) by omega]
    refine Ev.bind (less _ (by omega)) (Ev.bind (less _ (by omega)) ?_)
    have ha : top lN - rank lN s < top lN + 1 := by omega
    have hb : cnt s - rank lN s < m - top lN + 1 := by omega
    generalize top lN - rank lN s = a at ha h ⊢
    generalize cnt s - rank lN s = b at hb h ⊢
    have la := pw_len a (by omega)
    have lb := pw_len b (by omega)
    rw [la]
    refine Gen.ev_loop (fun k t i => impl_TutteOf.l1 k (top lN : Int) t (s : Int) (pw b) (pw a) ((a + 1 : Nat) : Int) i (m : Int) (ints lN)) (a + 1) (fun i t => rowS a b i t) (fun _ t => Rect (top lN + 1) (m - top lN + 1) t) _ (fun i t hi hR => ⟨rowS_rect hR a b (by omega), fun h => ?_⟩) (a + 1) 0 t (Nat.zero_add _) hR (fun _ => Ev.step (fun k => ?_) h)
    ·refine Ev.step (f := fun k => impl_TutteOf.l2 k (top lN : Int) t (s : Int) (pw b) (i : Int) (rd (pw a) (i : Int)) (pw a) ((a + 1 : Nat) : Int) (i : Int) ((b + 1 : Nat) : Int) 0 (m : Int) (ints lN)) (fun k => ?_) ?_
     ·simp only [impl_TutteOf.l1]
      rw [if_pos (by omega), if_pos (by omega), if_pos (by omega), lb]
     refine Gen.ev_loop (fun k t j => impl_TutteOf.l2 k (top lN : Int) t (s : Int) (pw b) (i : Int) (rd (pw a) (i : Int)) (pw a) ((a + 1 : Nat) : Int) (i : Int) ((b + 1 : Nat) : Int) j (m : Int) (ints lN)) (b + 1) (fun j t => upd t i j (wrap64 (rd (pw a) (i : Int) * rd (pw b) (j : Int)))) (fun _ t => Rect (top lN + 1) (m - top lN + 1) t) _ (fun j t hj hR => ⟨upd_rect hR (by omega) j _, fun h => Ev.step (fun k => ?_) h⟩) (b + 1) 0 t (Nat.zero_add _) hR (fun _ => Ev.step (fun k => ?_) h)
     ·have hrow := hR.at_ (show i < top lN + 1 by omega)
      simp only [impl_TutteOf.l2]
      rw [if_pos (by omega), if_pos (by omega), if_pos (by omega), if_pos (by omega), if_pos (by rw [hR.1]; omega), rdL, if_pos (by rw [hrow]; omega), Gen.w64s j (by omega), Int.toNat_natCast, Int.toNat_natCast]
      rfl
     ·simp only [impl_TutteOf.l2]
      rw [if_neg (by omega), Gen.w64s i (by omega)]
      rfl
    ·simp only [impl_TutteOf.l1]
     rw [if_neg (by omega), Gen.w64s s (by omega)]
     rfl
  ·obtain ⟨q, rfl⟩ : ∃ q, k = q + 1 := ⟨k - 1, by omega⟩
   have hp := Nat.two_pow_pos m
   simp only [impl_TutteOf.l0]
   rw [full_impl m hm, Option.bind_some, if_neg (by omega)]
   rfl
end Go.Proofs.Ytbjnkcfkhonkhaa.Tutte
end
section
namespace Go.Proofs.Ytbjnkcfkhonkhaa.Eval
open Go.RowKit Go.Proofs.Ytbjnkcfkhonkhaa.Pr Go.Proofs.Ytbjnkcfkhonkhaa.Base Go.Proofs.YtbjnkcfkhonkhaaW.PrintWords Go.Proofs.YtbjnkcfkhonkhaaW.PrintLast Go.Proofs.YtbjnkcfkhonkhaaW.PrintMore
def cell (y : Int) (s : Int × Int) (c : Int) : Int × Int := (wrap64 (s.1 + wrap64 (c * s.2)), wrap64 (s.2 * y))
def row (x y : Int) (s : Int × Int) (r : List Int) : Int × Int := ((r.foldl (cell y) s).1, wrap64 (s.2 * x))
def val (xs : List (List Int)) (x y : Int) : Int := (xs.foldl (row x y) (0, 1)).1
theorem spec (xs : List (List Int)) (x y : Int) (h : Small xs) : Ev (fun k => spec_EvaluateTutte.f k xs x y) (val xs x y) := by
 have hn := h.1
 have inner : ∀ (i : Nat), i < xs.length → ∀ (r : Int) (p : Int) (d j : Nat) (s : Int × Int), j + d = (xs.getD i []).length →
   Ev (fun k => spec_EvaluateTutte.l0 k xs x y (((xs.getD i []).drop j).foldl (cell y) s).1 (wrap64 (p * x)) ((i + 1 : Nat) : Int)) r →
   Ev (fun k => spec_EvaluateTutte.l1 k xs x y s.1 p (i : Int) s.2 (j : Int)) r := by
  intro i hi r p d
  have hle := h.at_ i
  induction d with
  | zero =>
   intro j s hj hr
   refine Ev.step (fun k => ?_) hr
   simp only [spec_EvaluateTutte.l1]
   rw [if_pos (by omega), if_pos (by omega), rdL, if_neg (by omega), List.drop_of_length_le (by omega), Gen.w64s i (by omega)]
   rfl
  | succ d ih =>
   intro j s hj hr
   rw [drop_getD _ 0 j (by omega), List.foldl_cons] at hr
   refine Ev.step (fun k => ?_) (ih (j + 1) (cell y s ((xs.getD i []).getD j 0)) (by omega) hr)
   simp only [spec_EvaluateTutte.l1]
   rw [if_pos (by omega), if_pos (by omega), rdL, if_pos (by omega), if_pos (by omega), Gen.rd_nat, Gen.w64s j (by omega)]
   rfl
 have outer : ∀ (d i : Nat) (s : Int × Int), i + d = xs.length → Ev (fun k => spec_EvaluateTutte.l0 k xs x y s.1 s.2 (i : Int)) ((xs.drop i).foldl (row x y) s).1 := by
  intro d
  induction d with
  | zero =>
   intro i s hi
   refine Gen.ev_at 1 (fun k hk => ?_)
   obtain ⟨m, rfl⟩ : ∃ m, k = m + 1 := ⟨k - 1, by omega⟩
   simp only [spec_EvaluateTutte.l0]
   rw [if_neg (by omega), List.drop_of_length_le (by omega)]
   rfl
  | succ d ih =>
   intro i s hi
   have hlt : i < xs.length := by omega
   rw [drop_getD xs [] i hlt, List.foldl_cons]
   refine Ev.step (fun k => ?_) (inner i hlt _ s.2 (xs.getD i []).length 0 s (by omega) (by rw [List.drop_zero]; exact ih (i + 1) (row x y s (xs.getD i [])) (by omega)))
   simp only [spec_EvaluateTutte.l0]
   rw [if_pos (by omega)]
   rfl
 exact outer xs.length 0 (0, 1) (by omega)
theorem impl (xs : List (List Int)) (x y : Int) (h : Small xs) : Ev (fun k => impl_EvaluateTutte.f k xs x y) (val xs x y) := by
 have hn := h.1
 have inner : ∀ (i : Nat), i < xs.length → ∀ (r : Int) (p : Int) (d j : Nat) (s : Int × Int), j + d = (xs.getD i []).length →
   Ev (fun k => impl_EvaluateTutte.l0 k x y (((xs.getD i []).drop j).foldl (cell y) s).1 (wrap64 (p * x)) xs (xs.length : Int) ((i + 1 : Nat) : Int)) r →
   Ev (fun k => impl_EvaluateTutte.l1 k x y s.1 p s.2 xs (xs.length : Int) (i : Int) (xs.getD i []) ((xs.getD i []).length : Int) (j : Int)) r := by
  intro i hi r p d
  have hle := h.at_ i
  induction d with
  | zero =>
   intro j s hj hr
   refine Ev.step (fun k => ?_) hr
   simp only [impl_EvaluateTutte.l1]
   rw [if_neg (by omega), List.drop_of_length_le (by omega), Gen.w64s i (by omega)]
   rfl
  | succ d ih =>
   intro j s hj hr
   rw [drop_getD _ 0 j (by omega), List.foldl_cons] at hr
   refine Ev.step (fun k => ?_) (ih (j + 1) (cell y s ((xs.getD i []).getD j 0)) (by omega) hr)
   simp only [impl_EvaluateTutte.l1]
   rw [if_pos (by omega), if_pos (by omega), if_pos (by omega), Gen.rd_nat, Gen.w64s j (by omega)]
   rfl
 have outer : ∀ (d i : Nat) (s : Int × Int), i + d = xs.length → Ev (fun k => impl_EvaluateTutte.l0 k x y s.1 s.2 xs (xs.length : Int) (i : Int)) ((xs.drop i).foldl (row x y) s).1 := by
  intro d
  induction d with
  | zero =>
   intro i s hi
   refine Gen.ev_at 1 (fun k hk => ?_)
   obtain ⟨m, rfl⟩ : ∃ m, k = m + 1 := ⟨k - 1, by omega⟩
   simp only [impl_EvaluateTutte.l0]
   rw [if_neg (by omega), List.drop_of_length_le (by omega)]
   rfl
  | succ d ih =>
   intro i s hi
   have hlt : i < xs.length := by omega
   rw [drop_getD xs [] i hlt, List.foldl_cons]
   refine Ev.step (fun k => ?_) (inner i hlt _ s.2 (xs.getD i []).length 0 s (by omega) (by rw [List.drop_zero]; exact ih (i + 1) (row x y s (xs.getD i [])) (by omega)))
   simp only [impl_EvaluateTutte.l0]
   rw [if_pos (by omega), if_pos (by omega), if_pos (by omega), rdL]
   rfl
 exact outer xs.length 0 (0, 1) (by omega)
end Go.Proofs.Ytbjnkcfkhonkhaa.Eval
end
section
namespace Go.Proofs.Ytbjnkcfkhonkhaa.Pure
open Go.RowKit Go.Proofs.Ytbjnkcfkhonkhaa.Pr Go.Proofs.Ytbjnkcfkhonkhaa.Base Go.Proofs.Ytbjnkcfkhonkhaa.Sets Go.Proofs.Ytbjnkcfkhonkhaa.Mat Go.Proofs.Ytbjnkcfkhonkhaa.Flat Go.Proofs.Ytbjnkcfkhonkhaa.Size Go.Proofs.Ytbjnkcfkhonkhaa.ActTab Go.Proofs.Ytbjnkcfkhonkhaa.Tutte Go.Proofs.YtbjnkcfkhonkhaaW.PrintWords Go.Proofs.YtbjnkcfkhonkhaaW.PrintLast Go.Proofs.YtbjnkcfkhonkhaaW.PrintMore
set_option linter.unusedVariables false
theorem tutI_small (n : Int) (l : List Int) : Small (tutI n l) := by
 unfold tutI
 split
 ·next c =>
  obtain ⟨m, lN, rfl, hm, rfl, hl, h0, hf⟩ := mat_nat c
  rw [Int.toNat_natCast, toNat_ints]
  have := top_le hm hl h0
  have hR := tut_rect m lN
  exact ⟨by rw [hR.1]; omega, fun x hx => by rw [hR.2 x hx]; omega⟩
 ·exact ⟨by simp, by simp⟩
def countsI (n : Int) (l : List Int) : List Int := if isMat n l = true then [Eval.val (tutI n l) 1 1, Eval.val (tutI n l) 2 1, Eval.val (tutI n l) 1 2, Eval.val (tutI n l) 2 2] else []
theorem countsI_length (n : Int) (l : List Int) : (countsI n l).length ≤ 1048576 := by
 unfold countsI
 split <;> simp
theorem implCounts (n : Int) (l : List Int) (hn : l.length ≤ 1048576) : Ev (fun k => impl_TutteCounts.f k n l) (countsI n l) := by
 have hs := tutI_small n l
 unfold impl_TutteCounts.f countsI
 refine Ev.bind (implMat n l hn) ?_
 cases isMat n l with
 | false => simp only [Bool.false_eq_true, if_false]; exact Ev.now _
 | true =>
  simp only [if_true]
  refine Ev.bind (implTut n l hn) (Ev.bind (Eval.impl _ 1 1 hs) (Ev.bind (Eval.impl _ 2 1 hs) (Ev.bind (Eval.impl _ 1 2 hs) (Ev.bind (Eval.impl _ 2 2 hs) ?_))))
  exact Ev.now _
theorem specCounts (n : Int) (l : List Int) (hn : l.length ≤ 1048576) : Ev (fun k => spec_TutteCounts.f k n l) (countsI n l) := by
 have hs := tutI_small n l
 unfold spec_TutteCounts.f countsI
 refine Ev.bind (specMat n l hn) ?_
 cases isMat n l with
 | false => simp only [Bool.false_eq_true, if_false]; exact Ev.now _
 | true =>
  simp only [if_true]
  refine Ev.bind (specTut n l hn) (Ev.bind (Eval.spec _ 1 1 hs) (Ev.bind (Eval.spec _ 2 1 hs) (Ev.bind (Eval.spec _ 1 2 hs) (Ev.bind (Eval.spec _ 2 2 hs) ?_))))
  exact Ev.now _
theorem FnExactTutteCounts (n : Int) (xs : List Int) (_ : (Lit.int .i64 n).wf = true) (hm : xs.length ≤ maxLen ∧ ∀ x ∈ xs, (Lit.int .i64 x).wf = true) : ∃ k, laws_FnExactTutteCounts.f k n xs = some true := by
 obtain ⟨z, hz, h⟩ := szMatroid n xs 1048576 hm.1 (by decide) (by decide)
 refine Ev.rounds ?_
 unfold laws_FnExactTutteCounts.f
 rw [hz]
 simp only [Option.bind_some]
 by_cases hneg : z < 0
 ·simp only [if_pos hneg]
  exact Ev.now _
 simp only [if_neg hneg]
 obtain ⟨hl, hz0, hz1⟩ := h.resolve_left hneg
 have T1 := toMatroid n xs hl
 have iU := implCounts n xs hl
 have sU := specCounts n xs hl
 have hU := countsI_length n xs
 generalize countsI n xs = u at hU iU sU
 have EU := eqIntSE u hU
 have MU := markIntS u 1 hU (by decide) (by decide)
 have HU := heldIntS 1 u.length hU (by decide) (by decide)
 have j0 : Ev (fun k => laws_FnExactTutteCounts.j0 k u u false n xs) true := by
  refine Ev.step (f := fun k => ((laws_markIntS.f k u 1).bind fun b => ((laws_heldIntS.f k b.2 1).bind fun t => (if t < 0 then (some false) else (if t = b.1 then ((laws_toMatroid.f k n xs).bind fun c => ((impl_TutteCounts.f k c.1 c.2).bind fun e => ((laws_eqIntS.f k e u).bind fun t' => (if t' = true then ((laws_heldIntS.f k b.2 1).bind fun t'' => (if t'' < 0 then (some false) else (if t'' = b.1 then (some true) else (some false)))) else (some false))))) else (some false)))))) (fun k => ?_) ?_
  ·simp only [laws_FnExactTutteCounts.j0]
   rw [if_neg (by decide)]
  ·refine Ev.bind MU (Ev.bind HU ?_)
   simp only [if_neg (show ¬ ((1 : Int) + (u.length : Int) < 0) by omega), if_true]
   refine Ev.bind T1 (Ev.bind iU (Ev.bind EU ?_))
   simp only [if_true]
   refine Ev.bind HU ?_
   simp only [if_neg (show ¬ ((1 : Int) + (u.length : Int) < 0) by omega), if_true]
   exact Ev.now _
 refine Ev.bind T1 (Ev.bind sU (Ev.bind T1 (Ev.bind iU (Ev.bind EU ?_))))
 simp only [if_true]
 refine Ev.bind T1 (Ev.bind (eqMatroid n xs hl) ?_)
 simp only [if_true]
 refine Ev.bind (markMatroid n xs 1 hl (by decide) (by decide)) ?_
 simp only [if_neg (show ¬ ((1 : Int) + (xs.length : Int) < 0) by omega)]
 refine Ev.bind EU ?_
 simp only [Bool.not_true]
 exact j0
end Go.Proofs.Ytbjnkcfkhonkhaa.Pure
end
section
namespace Go.Proofs.Ytbjnkcfkhonkhaa.Open
open Go.ChangeShapes Go.WideShapes Go.RowKit Go.Proofs.YtbjnkcfkhonkhaaW.PrintWords Go.Deep
set_option linter.unusedVariables false
structure Opens {α : Type} (P : Program) (d : Kd α) (t : TypeId) (Wf : α → Prop) : Prop where
 go : ∀ (H : Type) (enc : TypeId × Value → H) (w : World) (base : Nat) (spare : Nat → Bool) (held : Bool) (fuel : Nat) (cs : List Value) (x : DataW H × List MemPlace),
  DataW.trod enc P w base spare held fuel t cs = some x → ∃ a, d.K w a cs ∧ Wf a
theorem Opens.int {P : Program} {t : TypeId} {k : IntKind} (ht : P.underlying t = some (.int k)) : Opens P (Kd.int k) t (fun n => (Lit.int k n).wf = true) := by
 refine ⟨fun H enc w base spare held fuel cs x h => ?_⟩
 obtain ⟨n, rfl, _, hw⟩ := DataW.trod_int ht h
 exact ⟨n, rfl, hw⟩
theorem Opens.bool {P : Program} {t : TypeId} (ht : P.underlying t = some .bool) : Opens P Kd.bool t (fun _ => True) := by
 refine ⟨fun H enc w base spare held fuel cs x h => ?_⟩
 obtain ⟨n, rfl, _⟩ := DataW.trod_bool ht h
 exact ⟨n, rfl, trivial⟩
theorem list_of {α : Type} {p : Nat → α → Prop} : ∀ {len : Nat}, (∀ i, i < len → ∃ y, p i y) → ∃ xs : List α, xs.length = len ∧ ∀ i y, xs[i]? = some y → p i y := by
 intro len
 induction len with
 | zero => exact fun _ => ⟨[], rfl, fun i y h => by simp at h⟩
 | succ len ih =>
  intro key
  obtain ⟨xs, hxl, hxs⟩ := ih (fun i hi => key i (by omega))
  obtain ⟨y, hy⟩ := key len (by omega)
  refine ⟨xs ++ [y], by simp [hxl], fun i z hz => ?_⟩
  by_cases hi : i < xs.length
  ·rw [List.getElem?_append_left hi] at hz
   exact hxs i z hz
  ·have hlt : i < (xs ++ [y]).length := (List.getElem?_eq_some_iff.1 hz).1
   have e : i = len := by simp [hxl] at hlt hi; omega
   subst e
   rw [List.getElem?_append_right (by omega), hxl] at hz
   simp at hz
   subst hz
   exact hy
theorem Opens.slice {α : Type} {P : Program} {t e : TypeId} {d : Kd α} {Wf : α → Prop} (ht : P.underlying t = some (.slice e)) (hs : P.cellsOf e = d.sz) (h : Opens P d e Wf) :
  Opens P (Kd.slice e d) t (fun xs => xs.length ≤ maxLen ∧ ∀ x ∈ xs, Wf x) := by
 refine ⟨fun H enc w base spare held fuel cs x hx => ?_⟩
 rcases open_slice ht hx with ⟨rfl, _⟩ | ⟨a, len, cap, m, n, D, Pl, rfl, hb, hl, hm, hmm, _, hel⟩
 ·exact ⟨[], ⟨none, 0, rfl, Nat.le_refl _, rfl, by simp, fun h => absurd h (by simp)⟩, by simp, by simp⟩
 ·have hlm : len ≤ m := by rw [hmm]; split <;> omega
  have key : ∀ i, i < len → ∃ y : α, (∃ cs', w.cells? base (a.add (i * P.cellsOf e)) (P.cellsOf e) = some cs' ∧ d.K w y cs') ∧ Wf y := fun i hi => by
   obtain ⟨cs', h1, h2⟩ := hel i (by omega)
   obtain ⟨y, h3, h4⟩ := h.go _ enc w base spare held n cs' _ h2
   exact ⟨y, ⟨cs', h1, h3⟩, h4⟩
  obtain ⟨xs, hxl, hxs⟩ := list_of key
  refine ⟨xs, ⟨some a, cap, by rw [hxl], by omega, rfl, by have := hm; unfold maxLen at this; omega, fun _ => ⟨a, rfl, fun j p hj => ?_⟩⟩, by omega, fun y hy => ?_⟩
  ·obtain ⟨⟨cs', h1, h2⟩, _⟩ := hxs j p hj
   obtain ⟨_, h3, h4⟩ := World.cells?_some h1
   refine ⟨cs', by rw [h3, hs], h2, fun i u hu => ?_⟩
   have hlt : i < cs'.length := (List.getElem?_eq_some_iff.1 hu).1
   have := h4 i (by omega)
   rw [hs, Go.Deep.add_add] at this
   rw [this, hu]
  ·obtain ⟨i, hi⟩ := List.getElem?_of_mem hy
   exact (hxs i y hi).2
structure OpensFs {α : Type} (P : Program) (fs : List Field) (off : Nat) (d : Kd α) (Wf : α → Prop) : Prop where
 go : ∀ (H : Type) (enc : TypeId × Value → H) (w : World) (base : Nat) (spare : Nat → Bool) (held : Bool) (n : Nat) (cs : List Value),
  cs.length = off + d.sz → (∀ f ∈ fs, ∃ x, DataW.trod enc P w base spare held n f.type ((cs.drop f.offset).take (P.cellsOf f.type)) = some x) → ∃ a, d.K w a (cs.drop off) ∧ Wf a
theorem OpensFs.one {α : Type} {P : Program} {f : Field} {off : Nat} {d : Kd α} {Wf : α → Prop} (ho : f.offset = off) (hs : P.cellsOf f.type = d.sz) (h : Opens P d f.type Wf) : OpensFs P [f] off d Wf := by
 refine ⟨fun H enc w base spare held n cs hl hf => ?_⟩
 obtain ⟨x, hx⟩ := hf f (by simp)
 rw [ho, hs, List.take_of_length_le (by rw [List.length_drop]; omega)] at hx
 exact h.go _ enc w base spare held n _ x hx
theorem OpensFs.cons {α β : Type} {P : Program} {f : Field} {fs : List Field} {off : Nat} {d : Kd α} {d' : Kd β} {Wf : α → Prop} {Wf' : β → Prop} (ho : f.offset = off) (hs : P.cellsOf f.type = d.sz) (h : Opens P d f.type Wf)
  (h' : OpensFs P fs (off + d.sz) d' Wf') : OpensFs P (f :: fs) off (Kd.pair d d') (fun x => Wf x.1 ∧ Wf' x.2) := by
 refine ⟨fun H enc w base spare held n cs hl hf => ?_⟩
 have hl' : cs.length = off + (d.sz + d'.sz) := hl
 obtain ⟨x, hx⟩ := hf f (by simp)
 rw [ho, hs] at hx
 obtain ⟨a, ha, wa⟩ := h.go _ enc w base spare held n _ x hx
 obtain ⟨b, hb, wb⟩ := h'.go _ enc w base spare held n cs (by omega) (fun g hg => hf g (by simp [hg]))
 refine ⟨(a, b), ⟨(cs.drop off).take d.sz, cs.drop (off + d.sz), ?_, ha, hb⟩, wa, wb⟩
 rw [← List.drop_drop, List.take_append_drop]
theorem Opens.struct {α : Type} {P : Program} {t : TypeId} {fs : Array Field} {d : Kd α} {Wf : α → Prop} (ht : P.underlying t = some (.struct fs)) (hs : P.cellsOf t = d.sz) (h : OpensFs P fs.toList 0 d Wf) : Opens P d t Wf := by
 refine ⟨fun H enc w base spare held fuel cs x hx => ?_⟩
 obtain ⟨xs, n, _, _, hl, hlen, hg⟩ := DataW.trod_struct ht hx
 obtain ⟨a, ha, wa⟩ := h.go _ enc w base spare held n cs (by omega) (fun f hf => by
  obtain ⟨i, hi⟩ := List.getElem?_of_mem hf
  have h1 := hg i f (by simpa using hi)
  have hlt : i < fs.size := by have := (List.getElem?_eq_some_iff.1 hi).1; simpa using this
  exact ⟨_, h1.trans (List.getElem?_eq_getElem (by omega))⟩)
 exact ⟨a, by simpa using ha, wa⟩
theorem Opens.argStruct {α : Type} {P : Program} {t : TypeId} {d : Kd α} {Wf : α → Prop} (h : Opens P d t Wf) {H : Type} {enc : TypeId × Value → H} {w : World} {base : Nat} {spare : Nat → Bool} {held : Bool} {v : Value} {x : DataW H} {ps : List MemPlace}
  (hv : ∃ cs, v = .agg cs ∧ cs.size = P.cellsOf t) (ht : DataW.Trod enc P w base spare held t v x ps) : ∃ cs a, v = .agg cs.toArray ∧ d.K w a cs ∧ Wf a := by
 obtain ⟨cs, rfl, _⟩ := hv
 obtain ⟨fuel, hf⟩ := ht
 obtain ⟨a, ha, wf⟩ := h.go _ enc w base spare held fuel _ _ hf
 exact ⟨cs.toList, a, by simp, ha, wf⟩
end Go.Proofs.Ytbjnkcfkhonkhaa.Open
end
section
namespace Go.Proofs.Ytbjnkcfkhonkhaa.fnExactTutteCounts
open Go.ChangeShapes Go.WideShapes Go.ChangeAt Go.RowKit Go.Proofs.Ytbjnkcfkhonkhaa.Open Go.Proofs.YtbjnkcfkhonkhaaW.PrintWords
open Go.ChangeMaps (open_string shut_string)
set_option linter.unusedVariables false
theorem own : ownKnob Try.prog.godebug = none := by kernel_rfl
theorem laidOut : laidOutB Try.prog = true := by kernel_rfl
set_option maxRecDepth 100000 in
theorem lifted (os : Os) (started : os.Started) (H : Type) (enc : TypeId × Value → H) :
  ReturnsInHanded {} Try.checked os 7 .any (Rows.fnExactTutteCountsSpec.pre6 enc Try.prog Try.f7 Rows.fnExactTutteCountsRow.domain false) (Rows.fnExactTutteCountsSpec.post enc Try.prog Try.f7 false true false false) := by
 refine returnsInHanded_of_change_sized (C := Try.checked) own started (by kernel_rfl) Try.func7
  (ChangeSpec.witness6 (enc := enc) (C := Try.checked) false ⟨#[], #[.agg #[.int .i64 0, .slice none 0 0]], []⟩ 8 (by kernel_rfl) (by kernel_rfl) (by kernel_rfl) (by kernel_rfl)) ?_
 intro W base args ds gs before hval0 hW hcnd hsz0 _
 have hval : ∀ (j : Nat) t v, Try.f7.params[j]? = some t → args[j]? = some v → Value.okWide Try.prog W .any base t v := hval0
 have hW' := hW
 obtain ⟨p, q, hA0, hV, rfl, hfz, hnd⟩ := hW
 have hA : DataW.TrodAll enc Try.prog W 0 (fun _ => true) true Try.f7.params.toList args.toList ds p := hA0
 rw [Try.params7] at hA hval
 obtain ⟨v0, vs0, d0, ds0, p0, q0, hargs, rfl, rfl, h0, r0⟩ := trodAll_cons hA
 obtain ⟨rfl, rfl, rfl⟩ := trodAll_nil r0
 obtain rfl : args = #[v0] := by cases args; simp_all
 obtain ⟨rfl, rfl⟩ := trodVars_none hV
 have k0 := h0
 have lt0 : ∀ x ∈ p0, x.block < W.heap.size := by obtain ⟨m, hm⟩ := k0; exact DataW.trod_lt m _ _ _ hm
 obtain ⟨cs0, x0, rfl, K0, w0⟩ := Opens.argStruct (Opens.struct Try.underlying42 (by kernel_rfl) (OpensFs.cons rfl (by kernel_rfl) (Opens.int Try.underlying3) (OpensFs.one rfl (by kernel_rfl) (Opens.slice Try.underlying31 (by kernel_rfl) (Opens.int Try.underlying3))))) (okWide_struct Try.underlying42 (hval 0 42 v0 rfl rfl)) h0
 obtain ⟨_, _, rfl, rfl, ⟨A0_1, c0_1, rfl, hl0_1, hr0_1⟩⟩ := K0
 obtain ⟨w0_0, w0_1⟩ := w0
 clear hA0 hval0 hsz0
 obtain ⟨k, hk⟩ := Pure.FnExactTutteCounts x0.1 x0.2 w0_0 w0_1
 refine (Pr.laws_FnExactTutteCounts.calls k x0.1 _ _ x0.2 true W hr0_1 hl0_1 ⟨rfl⟩ hk).mono fun e W' ⟨he, bel⟩ => ?_
 subst he
 exact ⟨_, rfl, _, _, _, [], _, [], hW', trodAll_mk1 (shut_bool Try.underlying4 _), (trodAll_cons_mk (Below.trod laidOut (by kernel_rfl) (of_decide_eq_true (by kernel_rfl)) k0 bel lt0) trodAll_mk0), rfl, bel.frame _, fun h => by cases h⟩
theorem over : Rows.fnExactTutteCountsRow.holds Try.pinned (OpenSpec.ofChange Rows.fnExactTutteCountsSpec) :=
 OpenClaim.holds_of_wide 7 Try.f7 rfl rfl rfl rfl rfl rfl rfl ⟨rfl, rfl, rfl, rfl, rfl⟩ rfl rfl rfl rfl rfl (by kernel_rfl) Try.func7 (by kernel_rfl)
  (of_decide_eq_true (by kernel_rfl)) (by unfold Func.isWrapper; first | (rw [if_pos (by decide +kernel)]; kernel_rfl) | (rw [if_neg (by decide +kernel)]; exact ⟨rfl, rfl⟩))
  (fun os started H enc _ => lifted os started H enc)
theorem proved : Rows.FnExactTutteCountsSaid := over
#print axioms proved
end Go.Proofs.Ytbjnkcfkhonkhaa.fnExactTutteCounts
namespace Go.Proofs.Ytbjnkcfkhonkhaa
theorem fnExactTutteCounts_holds : Rows.FnExactTutteCountsSaid := fnExactTutteCounts.proved
end Go.Proofs.Ytbjnkcfkhonkhaa
end
