/- The claim FnExactUnbrokenSets: every text that its row comes to, laid together by slim.py (the words of the kit's print, the printed walks, the pure law, the row). -/
import Derived.Below
import Derived.ChangeArms
import Derived.ChangeOld
import Derived.DataReads
import Derived.Deep.Slices
import Derived.OpenShut
import Derived.ProofKit
import Derived.ShutString
import Derived.SizedLaws
import Derived.Test.YtbjnkcfkhonkhaaRows
import Derived.WalkKit
import Derived.Test.YtbjnkcfkhonkhaaYFnExactUnbrokenSets3
section
namespace Go.Proofs.Ytbjnkcfkhonkhaa.Mat
open Go.RowKit Go.Proofs.Ytbjnkcfkhonkhaa.Pr Go.Proofs.Ytbjnkcfkhonkhaa.Sets Go.Proofs.YtbjnkcfkhonkhaaW.PrintWords Go.Proofs.YtbjnkcfkhonkhaaW.PrintLast Go.Proofs.YtbjnkcfkhonkhaaW.PrintMore
set_option linter.unusedVariables false
theorem u64_small (e : Nat) (he : e < 62) : IntKind.u64.wrap (e : Int) = e := by
  unfold IntKind.wrap
  simp only [IntKind.bits, IntKind.signed, Bool.false_and, Bool.false_eq_true, if_false]
  omega
theorem l2Has (s e : Nat) (hs : s < 256) (he : e < 8) : spec_l2Has.f (s : Int) (e : Int) = some (s.testBit e) := by
  unfold spec_l2Has.f
  rw [u64_small e (by omega), if_pos (by omega), shr_bit s e (by omega) (by omega)]
theorem specExchange (m : Nat) (hm : m ≤ 8) (l : List Nat) (hn : l.length ≤ 1048576) (a b e : Nat) (ha : a < 256) (hb : b < 2 ^ m) (he : e < 8) (hae : a.testBit e = true) : Ev (fun k => spec_l4Exchange.f k (m : Int) (ints l) (a : Int) (b : Int) (e : Int)) (exch l a b e) := by
  have h256 := pow_le_256 hm
  unfold spec_l4Exchange.f
  have hle := bit_le a ha e he hae
  have key : ∀ f : Nat, f < m → a.testBit f = false → wrap64 ((wrap64 ((a : Int) - ((2 ^ e : Nat) : Int))) + ((2 ^ f : Nat) : Int)) = ((a - 2 ^ e + 2 ^ f : Nat) : Int) := fun f hf haf => by
    have h1 := swap_le a ha e he f (by omega) hae haf
    have h2 : 2 ^ f ≤ 256 := pow_le_256 (by omega)
    clear hae
    generalize (2 : Nat) ^ e = P at *
    generalize (2 : Nat) ^ f = Q at *
    rw [Gen.w64 (i := (a : Int) - (P : Int)) (by omega) (by omega), Gen.w64 (by omega) (by omega)]
    omega
  obtain ⟨o1, o2⟩ := ev_search (fun k f => spec_l4Exchange.l0 k (a : Int) (b : Int) (e : Int) f (m : Int) (ints l)) m (fun f => b.testBit f && !a.testBit f && l.contains (a - 2 ^ e + 2 ^ f)) (fun r => r = true)
    (by
      intro f hf hp
      rw [Bool.and_eq_true, Bool.and_eq_true] at hp
      obtain ⟨⟨h1, h2⟩, h3⟩ := hp
      have h2' : a.testBit f = false := by simpa using h2
      refine ⟨true, rfl, Gen.ev_at (l.length + 2) (fun k hk => ?_)⟩
      obtain ⟨q, rfl⟩ : ∃ q, k = q + 1 := ⟨k - 1, by omega⟩
      simp only [spec_l4Exchange.l0]
      rw [if_pos (by omega), l2Has b f (by omega) (by omega), h1]
      simp only [Option.bind_some, if_true]
      rw [l2Has a f ha (by omega), h2']
      simp only [Option.bind_some, Bool.false_eq_true, if_false]
      rw [u64_small e (by omega), u64_small f (by omega), if_pos (by omega), if_pos (by omega), shl_nat e (by omega), shl_nat f (by omega), key f hf h2', specHas l _ hn q (by omega), h3]
      rfl)
    (by
      intro f hf hp r hr
      by_cases h1 : b.testBit f = true
      · by_cases h2 : a.testBit f = true
        · refine Ev.step (fun k => ?_) hr
          simp only [spec_l4Exchange.l0]
          rw [if_pos (by omega), l2Has b f (by omega) (by omega), h1]
          simp only [Option.bind_some, if_true]
          rw [l2Has a f ha (by omega), h2]
          simp only [Option.bind_some, if_true]
          rw [Gen.w64s f (by omega)]
        · have h2' : a.testBit f = false := by simpa using h2
          have h3 : l.contains (a - 2 ^ e + 2 ^ f) = false := by
            rw [h1, h2'] at hp
            simpa using hp
          refine Ev.step (f := fun k => (spec_HasSet.f k (ints l) ((a - 2 ^ e + 2 ^ f : Nat) : Int)).bind fun t => (if t = true then (some true) else (spec_l4Exchange.l0 k (a : Int) (b : Int) (e : Int) ((f + 1 : Nat) : Int) (m : Int) (ints l)))) (fun k => ?_) ?_
          · simp only [spec_l4Exchange.l0]
            rw [if_pos (by omega), l2Has b f (by omega) (by omega), h1]
            simp only [Option.bind_some, if_true]
            rw [l2Has a f ha (by omega), h2']
            simp only [Option.bind_some, Bool.false_eq_true, if_false]
            rw [u64_small e (by omega), u64_small f (by omega), if_pos (by omega), if_pos (by omega), shl_nat e (by omega), shl_nat f (by omega), key f hf h2', Gen.w64s f (by omega)]
          · refine Ev.bind (Gen.ev_at (l.length + 1) (fun k hk => specHas l _ hn k (by omega))) ?_
            rw [h3]
            exact hr
      · have h1' : b.testBit f = false := by simpa using h1
        refine Ev.step (fun k => ?_) hr
        simp only [spec_l4Exchange.l0]
        rw [if_pos (by omega), l2Has b f (by omega) (by omega), h1']
        simp only [Option.bind_some, Bool.false_eq_true, if_false]
        rw [Gen.w64s f (by omega)]) m 0 (by omega)
  have e8 : ((List.range' 0 m).any fun f => b.testBit f && !a.testBit f && l.contains (a - 2 ^ e + 2 ^ f)) = exch l a b e := range8 m hm _ (fun j hj => by rw [bit_far hb hj]; rfl)
  rw [e8] at o1 o2
  cases hx : exch l a b e with
  | true =>
    obtain ⟨r, rfl, hE⟩ := o1 hx
    exact hE
  | false =>
    refine o2 hx _ (Gen.ev_at 1 (fun k hk => ?_))
    obtain ⟨q, rfl⟩ : ∃ q, k = q + 1 := ⟨k - 1, by omega⟩
    simp only [spec_l4Exchange.l0]
    rw [if_neg (by omega)]
theorem specFirst (m : Nat) (hm : m ≤ 8) (l : List Nat) (hl : ∀ s ∈ l, s < 2 ^ m) (hn : l.length ≤ 1048576) (hf : fam (m : Int) (ints l) = true) :
    ∃ x y z, Ev (fun k => spec_FirstFailure.f k (m : Int) (ints l)) (x, y, z, fails l) := by
  have h256 := pow_le_256 hm
  have hlt : ∀ i, i < l.length → l.getD i 0 < 256 := fun i hi => Nat.lt_of_lt_of_le (hl _ (getD_mem l 0 i hi)) h256
  have hltm : ∀ i, i < l.length → l.getD i 0 < 2 ^ m := fun i hi => hl _ (getD_mem l 0 i hi)
  have round : ∀ x y z : Nat, x < l.length → y < l.length → z < m → ∀ r, (((l.getD x 0).testBit z && !(l.getD y 0).testBit z && !exch l (l.getD x 0) (l.getD y 0) z) = true → r.2.2.2 = true → r = (((l.getD x 0 : Nat) : Int), ((l.getD y 0 : Nat) : Int), (z : Int), true) → Ev (fun k => spec_FirstFailure.l2 k (x : Int) (y : Int) (z : Int) (m : Int) (ints l)) r) ∧
      (((l.getD x 0).testBit z && !(l.getD y 0).testBit z && !exch l (l.getD x 0) (l.getD y 0) z) = false → Ev (fun k => spec_FirstFailure.l2 k (x : Int) (y : Int) ((z + 1 : Nat) : Int) (m : Int) (ints l)) r → Ev (fun k => spec_FirstFailure.l2 k (x : Int) (y : Int) (z : Int) (m : Int) (ints l)) r) := by
    intro x y z hx hy hz r
    have ha := hlt x hx
    have hb := hlt y hy
    have unf : ∀ k, spec_FirstFailure.l2 (k + 1) (x : Int) (y : Int) (z : Int) (m : Int) (ints l) = (if (l.getD x 0).testBit z = true then (if (l.getD y 0).testBit z = true then spec_FirstFailure.l2 k (x : Int) (y : Int) ((z + 1 : Nat) : Int) (m : Int) (ints l) else ((spec_l4Exchange.f k (m : Int) (ints l) ((l.getD x 0 : Nat) : Int) ((l.getD y 0 : Nat) : Int) (z : Int)).bind fun t => (if t = true then spec_FirstFailure.l2 k (x : Int) (y : Int) ((z + 1 : Nat) : Int) (m : Int) (ints l) else some (((l.getD x 0 : Nat) : Int), ((l.getD y 0 : Nat) : Int), (z : Int), true)))) else spec_FirstFailure.l2 k (x : Int) (y : Int) ((z + 1 : Nat) : Int) (m : Int) (ints l)) := fun k => by
      simp only [spec_FirstFailure.l2]
      rw [if_pos (by omega), if_pos (by omega), if_pos (by rw [ints_length]; omega), if_pos (by omega), if_pos (by rw [ints_length]; omega), ints_rd, ints_rd, l2Has _ z ha (by omega)]
      simp only [Option.bind_some]
      rw [l2Has _ z hb (by omega)]
      simp only [Option.bind_some]
      rw [Gen.w64s z (by omega)]
    cases h1 : (l.getD x 0).testBit z with
    | false =>
      refine ⟨fun h => by simp at h, fun _ hr => Ev.step (fun k => ?_) hr⟩
      rw [unf, h1, if_neg (by decide)]
    | true =>
      cases h2 : (l.getD y 0).testBit z with
      | true =>
        refine ⟨fun h => by simp at h, fun _ hr => Ev.step (fun k => ?_) hr⟩
        rw [unf, h1, h2, if_pos rfl, if_pos rfl]
      | false =>
        have hE := specExchange m hm l hn (l.getD x 0) (l.getD y 0) z ha (hltm y hy) (by omega) h1
        cases h3 : exch l (l.getD x 0) (l.getD y 0) z with
        | true =>
          rw [h3] at hE
          refine ⟨fun h => by simp at h, fun _ hr => Ev.step (fun k => ?_) (Ev.bind hE (f := fun k t => (if t = true then spec_FirstFailure.l2 k (x : Int) (y : Int) ((z + 1 : Nat) : Int) (m : Int) (ints l) else some (((l.getD x 0 : Nat) : Int), ((l.getD y 0 : Nat) : Int), (z : Int), true))) (by simp only [if_true]; exact hr))⟩
          rw [unf, h1, h2, if_pos rfl, if_neg (by decide)]
        | false =>
          rw [h3] at hE
          refine ⟨fun _ _ e => ?_, fun h => by simp at h⟩
          subst e
          refine Ev.step (fun k => ?_) (Ev.bind hE (f := fun k t => (if t = true then spec_FirstFailure.l2 k (x : Int) (y : Int) ((z + 1 : Nat) : Int) (m : Int) (ints l) else some (((l.getD x 0 : Nat) : Int), ((l.getD y 0 : Nat) : Int), (z : Int), true))) (by simp only [Bool.false_eq_true, if_false]; exact Ev.now _))
          rw [unf, h1, h2, if_pos rfl, if_neg (by decide)]
  have inner : ∀ x y : Nat, x < l.length → y < l.length → ∀ d i : Nat, i + d = m → _ := fun x y hx hy =>
    ev_search (fun k z => spec_FirstFailure.l2 k (x : Int) (y : Int) z (m : Int) (ints l)) m
      (fun z => (l.getD x 0).testBit z && !(l.getD y 0).testBit z && !exch l (l.getD x 0) (l.getD y 0) z) (fun r => r.2.2.2 = true)
      (fun z hz hp => ⟨_, rfl, (round x y z hx hy hz (((l.getD x 0 : Nat) : Int), ((l.getD y 0 : Nat) : Int), (z : Int), true)).1 hp rfl rfl⟩)
      (fun z hz hp r hr => (round x y z hx hy hz r).2 hp hr)
  have innerAny : ∀ x y : Nat, x < l.length → ((List.range' 0 m).any fun z => (l.getD x 0).testBit z && !(l.getD y 0).testBit z && !exch l (l.getD x 0) (l.getD y 0) z) = (List.range' 0 8).any fun e => (l.getD x 0).testBit e && !(l.getD y 0).testBit e && !exch l (l.getD x 0) (l.getD y 0) e := fun x y hx => range8 m hm _ (fun j hj => by rw [bit_far (hltm x hx) hj]; rfl)
  have middle : ∀ x : Nat, x < l.length → ∀ d i : Nat, i + d = l.length → _ := fun x hx =>
    ev_search (fun k y => spec_FirstFailure.l1 k (x : Int) y (m : Int) (ints l)) l.length
      (fun y => (List.range' 0 8).any fun e => (l.getD x 0).testBit e && !(l.getD y 0).testBit e && !exch l (l.getD x 0) (l.getD y 0) e) (fun r => r.2.2.2 = true)
      (by
        intro y hy hp
        obtain ⟨h1, _⟩ := inner x y hx hy m 0 (by omega)
        rw [innerAny x y hx] at h1
        obtain ⟨r, hr, hE⟩ := h1 hp
        refine ⟨r, hr, Ev.step (fun k => ?_) hE⟩
        simp only [spec_FirstFailure.l1]
        rw [if_pos (by rw [ints_length]; omega)]
        rfl)
      (by
        intro y hy hp r hr
        obtain ⟨_, h2⟩ := inner x y hx hy m 0 (by omega)
        rw [innerAny x y hx] at h2
        refine Ev.step (fun k => ?_) (h2 hp r (Ev.step (fun k => by
          simp only [spec_FirstFailure.l2]
          rw [if_neg (by omega), Gen.w64s y (by omega)]) hr))
        simp only [spec_FirstFailure.l1]
        rw [if_pos (by rw [ints_length]; omega)]
        rfl)
  have middleAny : ∀ x : Nat, ((List.range' 0 l.length).any fun y => (List.range' 0 8).any fun e => (l.getD x 0).testBit e && !(l.getD y 0).testBit e && !exch l (l.getD x 0) (l.getD y 0) e) = l.any fun b => (List.range' 0 8).any fun e => (l.getD x 0).testBit e && !b.testBit e && !exch l (l.getD x 0) b e := fun x => any_index l 0 (fun b => (List.range' 0 8).any fun e => (l.getD x 0).testBit e && !b.testBit e && !exch l (l.getD x 0) b e)
  obtain ⟨o1, o2⟩ := ev_search (fun k x => spec_FirstFailure.l0 k x (m : Int) (ints l)) l.length
      (fun x => l.any fun b => (List.range' 0 8).any fun e => (l.getD x 0).testBit e && !b.testBit e && !exch l (l.getD x 0) b e) (fun r => r.2.2.2 = true)
      (by
        intro x hx hp
        obtain ⟨h1, _⟩ := middle x hx l.length 0 (by omega)
        rw [middleAny] at h1
        obtain ⟨r, hr, hE⟩ := h1 hp
        refine ⟨r, hr, Ev.step (fun k => ?_) hE⟩
        simp only [spec_FirstFailure.l0]
        rw [if_pos (by rw [ints_length]; omega)]
        rfl)
      (by
        intro x hx hp r hr
        obtain ⟨_, h2⟩ := middle x hx l.length 0 (by omega)
        rw [middleAny] at h2
        refine Ev.step (fun k => ?_) (h2 hp r (Ev.step (fun k => by
          simp only [spec_FirstFailure.l1]
          rw [if_neg (by rw [ints_length]; omega), Gen.w64s x (by omega)]) hr))
        simp only [spec_FirstFailure.l0]
        rw [if_pos (by rw [ints_length]; omega)]
        rfl) l.length 0 (by omega)
  have outerAny : ((List.range' 0 l.length).any fun x => l.any fun b => (List.range' 0 8).any fun e => (l.getD x 0).testBit e && !b.testBit e && !exch l (l.getD x 0) b e) = fails l := by
    unfold fails
    exact any_index l 0 (fun a => l.any fun b => (List.range' 0 8).any fun e => a.testBit e && !b.testBit e && !exch l a b e)
  rw [outerAny] at o1 o2
  have start : ∀ r, Ev (fun k => spec_FirstFailure.l0 k 0 (m : Int) (ints l)) r → Ev (fun k => spec_FirstFailure.f k (m : Int) (ints l)) r := fun r hr => by
    unfold spec_FirstFailure.f
    refine Ev.bind (Gen.ev_at (l.length + 1) (fun k hk => specFamily (m : Int) (ints l) (by rw [ints_length]; exact hn) k (by rw [ints_length]; omega))) ?_
    rw [hf]
    simp only [if_true]
    exact hr
  cases hfl : fails l with
  | true =>
    obtain ⟨⟨x, y, z, b⟩, hb, hE⟩ := o1 hfl
    simp only at hb
    subst hb
    exact ⟨x, y, z, start _ hE⟩
  | false =>
    refine ⟨0, 0, 0, start _ (o2 hfl _ (Gen.ev_at 1 (fun k hk => ?_)))⟩
    obtain ⟨q, rfl⟩ : ∃ q, k = q + 1 := ⟨k - 1, by omega⟩
    simp only [spec_FirstFailure.l0]
    rw [if_neg (by rw [ints_length]; omega)]
def isMat (n : Int) (l : List Int) : Bool := fam n l && decide (0 < l.length) && !fails (l.map Int.toNat)
theorem toNat_ints (l : List Nat) : (ints l).map Int.toNat = l := by
  unfold ints
  rw [List.map_map]
  conv => rhs; rw [← List.map_id l]
  exact List.map_congr_left fun x _ => by simp
theorem implMat (n : Int) (l : List Int) (hn : l.length ≤ 1048576) : Ev (fun k => impl_IsMatroid.f k n l) (isMat n l) := by
  unfold impl_IsMatroid.f isMat
  have hF : Ev (fun k => impl_IsFamily.f k n l) (fam n l) := Gen.ev_at (l.length + 1) (fun k hk => implFamily n l hn k (by omega))
  cases hf : fam n l with
  | false =>
    rw [hf] at hF
    refine Ev.bind (a := (0, 0, 0, false)) ?_ (Ev.bind hF (by simp only [Bool.false_eq_true, if_false]; exact Ev.now _))
    unfold impl_FirstFailure.f
    exact Ev.bind hF (by simp only [Bool.false_eq_true, if_false]; exact Ev.now _)
  | true =>
    rw [hf] at hF
    obtain ⟨m, lN, rfl, hm, rfl, hl⟩ := fam_nat hf
    rw [toNat_ints]
    rw [ints_length] at hn
    obtain ⟨x, y, z, hE⟩ := implFirst m hm lN hl hn hf
    refine Ev.bind hE (Ev.bind hF ?_)
    simp only [if_true, ints_length]
    by_cases h0 : 0 < lN.length
    · simp only [if_pos (show (lN.length : Int) > 0 by omega), decide_eq_true h0, Bool.true_and]
      exact Ev.now _
    · simp only [if_neg (show ¬ (lN.length : Int) > 0 by omega), decide_eq_false h0, Bool.true_and, Bool.false_and]
      exact Ev.now _
theorem specMat (n : Int) (l : List Int) (hn : l.length ≤ 1048576) : Ev (fun k => spec_IsMatroid.f k n l) (isMat n l) := by
  unfold spec_IsMatroid.f isMat
  have hF : Ev (fun k => spec_IsFamily.f k n l) (fam n l) := Gen.ev_at (l.length + 1) (fun k hk => specFamily n l hn k (by omega))
  cases hf : fam n l with
  | false =>
    rw [hf] at hF
    refine Ev.bind (a := (0, 0, 0, false)) ?_ (Ev.bind hF (by simp only [Bool.false_eq_true, if_false]; exact Ev.now _))
    unfold spec_FirstFailure.f
    exact Ev.bind hF (by simp only [Bool.false_eq_true, if_false]; exact Ev.now _)
  | true =>
    rw [hf] at hF
    obtain ⟨m, lN, rfl, hm, rfl, hl⟩ := fam_nat hf
    rw [toNat_ints]
    rw [ints_length] at hn
    obtain ⟨x, y, z, hE⟩ := specFirst m hm lN hl hn hf
    refine Ev.bind hE (Ev.bind hF ?_)
    simp only [if_true, ints_length]
    by_cases h0 : 0 < lN.length
    · simp only [if_pos (show (lN.length : Int) > 0 by omega), decide_eq_true h0, Bool.true_and]
      exact Ev.now _
    · simp only [if_neg (show ¬ (lN.length : Int) > 0 by omega), decide_eq_false h0, Bool.true_and, Bool.false_and]
      exact Ev.now _
end Go.Proofs.Ytbjnkcfkhonkhaa.Mat
end
section
namespace Go.Proofs.Ytbjnkcfkhonkhaa.Rank
open Go.RowKit Go.Proofs.Ytbjnkcfkhonkhaa.Pr Go.Proofs.Ytbjnkcfkhonkhaa.Sets Go.Proofs.Ytbjnkcfkhonkhaa.Mat Go.Proofs.YtbjnkcfkhonkhaaW.PrintWords Go.Proofs.YtbjnkcfkhonkhaaW.PrintLast Go.Proofs.YtbjnkcfkhonkhaaW.PrintMore
set_option linter.unusedVariables false
def cnt (s : Nat) : Nat := (elems s).length
set_option maxRecDepth 100000 in
theorem specCountB : ∀ s : Nat, s < 256 → spec_CountOf.f 10 (s : Int) = some (cnt s : Int) := by decide +kernel
theorem specCount (s : Nat) (h : s < 256) (k : Nat) (hk : 10 ≤ k) : spec_CountOf.f k (s : Int) = some (cnt s : Int) := by
  induction k with
  | zero => omega
  | succ k ih =>
    by_cases e : 10 ≤ k
    · exact spec_CountOf.mono _ _ _ (ih e)
    · obtain rfl : k = 9 := by omega
      exact specCountB s h
theorem specCountE (s : Nat) (h : s < 256) : Ev (fun k => spec_CountOf.f k (s : Int)) (cnt s : Int) := Gen.ev_at 10 (fun k hk => specCount s h k hk)
def rank (l : List Nat) (s : Nat) : Nat := l.foldl (fun m b => max m (cnt (s &&& b))) 0
theorem foldl_index {σ : Type} (l : List Nat) (f : σ → Nat → σ) (s : σ) : (List.range' 0 l.length).foldl (fun s i => f s (l.getD i 0)) s = l.foldl f s := by
  have e : l = (List.range' 0 l.length).map fun i => l.getD i 0 := by
    rw [← List.range_eq_range', Gen.map_getD']
  conv => rhs; rw [e]
  rw [List.foldl_map]
theorem and_lt {a b n : Nat} (ha : a < 2 ^ n) : a &&& b < 2 ^ n := Nat.lt_of_le_of_lt Nat.and_le_left ha
theorem specRank (m : Nat) (l : List Nat) (s : Nat) (hs : s < 256) (hl : ∀ b ∈ l, b < 256) (hn : l.length ≤ 1048576) : Ev (fun k => spec_l5Rank.f k (m : Int) (ints l) (s : Int)) (rank l s : Int) := by
  unfold spec_l5Rank.f
  have e : rank l s = (List.range' 0 l.length).foldl (fun o i => max o (cnt (s &&& l.getD i 0))) 0 := (foldl_index l (fun o b => max o (cnt (s &&& b))) 0).symm
  rw [e]
  have key := Gen.ev_loop (fun k (o : Nat) i => spec_l5Rank.l0 k (s : Int) (o : Int) i (m : Int) (ints l)) l.length (fun i o => max o (cnt (s &&& l.getD i 0))) (fun _ _ => True) (((List.range' 0 l.length).foldl (fun o i => max o (cnt (s &&& l.getD i 0))) 0 : Nat) : Int) (fun i o hi _ => ⟨trivial, fun h => ?_⟩) l.length 0 0 (by omega) trivial (fun _ => Gen.ev_at 1 (fun k hk => ?_))
  · exact key
  · have hb := hl _ (getD_mem l 0 i hi)
    refine Ev.step (f := fun k => (spec_CountOf.f k (Go.bits .and .i64 (rd (ints l) (i : Int)) (s : Int))).bind fun t278 => ((spec_l1Max.f (o : Int) t278).bind fun t279 => (spec_l5Rank.l0 k (s : Int) t279 (wrap64 ((i : Int) + 1)) (m : Int) (ints l)))) (fun k => ?_) ?_
    · simp only [spec_l5Rank.l0]
      rw [if_pos (by rw [ints_length]; omega), if_pos (by omega)]
    · rw [ints_rd, and_nat _ s (by omega) (by omega), Nat.and_comm, Gen.w64s i (by omega)]
      refine Ev.bind (specCountE _ (and_lt (n := 8) hs)) ?_
      have hx : spec_l1Max.f (o : Int) (cnt (s &&& l.getD i 0) : Int) = some ((max o (cnt (s &&& l.getD i 0)) : Nat) : Int) := by
        unfold spec_l1Max.f
        split <;> · congr 1; omega
      rw [hx]
      exact h
  · obtain ⟨q, rfl⟩ : ∃ q, k = q + 1 := ⟨k - 1, by omega⟩
    simp only [spec_l5Rank.l0]
    rw [if_neg (by rw [ints_length]; omega)]
end Go.Proofs.Ytbjnkcfkhonkhaa.Rank
end
section
namespace Go.Proofs.Ytbjnkcfkhonkhaa.Flat
open Go.RowKit Go.Proofs.Ytbjnkcfkhonkhaa.Pr Go.Proofs.Ytbjnkcfkhonkhaa.Sets Go.Proofs.Ytbjnkcfkhonkhaa.Mat Go.Proofs.Ytbjnkcfkhonkhaa.Rank Go.Proofs.YtbjnkcfkhonkhaaW.PrintWords Go.Proofs.YtbjnkcfkhonkhaaW.PrintLast Go.Proofs.YtbjnkcfkhonkhaaW.PrintMore
set_option linter.unusedVariables false
theorem mat_nat {n : Int} {l : List Int} (h : isMat n l = true) : ∃ (m : Nat) (lN : List Nat), n = m ∧ m ≤ 8 ∧ l = ints lN ∧ (∀ s ∈ lN, s < 2 ^ m) ∧ 0 < lN.length ∧ fails lN = false := by
  unfold isMat at h
  rw [Bool.and_eq_true, Bool.and_eq_true, decide_eq_true_eq] at h
  obtain ⟨⟨h1, h2⟩, h3⟩ := h
  obtain ⟨m, lN, rfl, hm, rfl, hl⟩ := fam_nat h1
  rw [toNat_ints] at h3
  rw [ints_length] at h2
  exact ⟨m, lN, rfl, hm, rfl, hl, h2, by simpa using h3⟩
theorem isSet_of {m : Nat} {x : Nat} (hm : m ≤ 8) (h : x < 2 ^ m) : isSet (m : Int) (x : Int) = true := by
  unfold isSet
  rw [decide_eq_true_eq, Int.toNat_natCast]
  refine ⟨by omega, by omega, by omega, ?_⟩
  exact_mod_cast h
theorem full_impl (m : Nat) (hm : m ≤ 8) : impl_FullSet.f (m : Int) = some ((2 ^ m - 1 : Nat) : Int) := by
  have : ∀ m : Nat, m < 9 → impl_FullSet.f (m : Int) = some ((2 ^ m - 1 : Nat) : Int) := by decide +kernel
  exact this m (by omega)
theorem full_spec (m : Nat) (hm : m ≤ 8) : spec_FullSet.f (m : Int) = some ((2 ^ m - 1 : Nat) : Int) := by
  have : ∀ m : Nat, m < 9 → spec_FullSet.f (m : Int) = some ((2 ^ m - 1 : Nat) : Int) := by decide +kernel
  exact this m (by omega)
theorem foldl_filter (p : Nat → Bool) (q : List Nat) : (q.foldl (fun (s : List Int) j => if p j = true then s ++ [(j : Int)] else s) []) = ints (q.filter p) := by
  rw [Gen.foldl_append, List.nil_append]
  rfl
theorem keep_loop (L : Nat → List Int → Int → Option (List Int)) (n : Nat) (p : Nat → Bool)
    (hround : ∀ i s, i < n → s.length ≤ i → ∀ r, Ev (fun k => L k (if p i = true then s ++ [(i : Int)] else s) ((i + 1 : Nat) : Int)) r → Ev (fun k => L k s (i : Int)) r)
    (hend : ∀ k s, L (k + 1) s (n : Int) = some s) : Ev (fun k => L k [] 0) (ints ((List.range' 0 n).filter p)) := by
  rw [← foldl_filter]
  refine Gen.ev_loop L n (fun i s => if p i = true then s ++ [(i : Int)] else s) (fun i s => s.length ≤ i) _ (fun i s hi hP => ⟨?_, hround i s hi hP _⟩) n 0 [] (by omega) (by simp) (fun _ => Gen.ev_at 1 (fun k hk => ?_))
  · show (if _ then _ else _ : List Int).length ≤ _
    split
    · simp; omega
    · omega
  · obtain ⟨q, rfl⟩ : ∃ q, k = q + 1 := ⟨k - 1, by omega⟩
    exact hend _ _
theorem implSetsOf (m : Nat) (hm : m ≤ 8) (g : Nat → Int → Option Bool) (p : Nat → Bool) (hg : ∀ s : Nat, s < 2 ^ m → Ev (fun k => g k (s : Int)) (p s)) (hmono : ∀ k s, LeO (g k s) (g (k + 1) s)) : Ev (fun k => impl_setsOf.f k (m : Int) (g k)) (ints ((List.range' 0 (2 ^ m)).filter p)) := by
  have h256 := pow_le_256 hm
  have hpos : 0 < 2 ^ m := Nat.pow_pos (by decide)
  have hup : ∀ s : Int, ∀ a d r, g a s = some r → g (a + d) s = some r := by
    intro s a d r h
    induction d with
    | zero => exact h
    | succ d ih => exact hmono _ _ _ ih
  have all : ∀ n : Nat, n ≤ 2 ^ m → ∃ K, ∀ k, K ≤ k → ∀ s : Nat, s < n → g k (s : Int) = some (p s) := by
    intro n
    induction n with
    | zero => exact fun _ => ⟨0, fun k _ s hs => by omega⟩
    | succ n ih =>
      intro hn
      obtain ⟨K, hK⟩ := ih (by omega)
      obtain ⟨K', hK'⟩ := hg n (by omega)
      refine ⟨max K K', fun k hk s hs => ?_⟩
      by_cases e : s = n
      · subst e
        exact hK' k (by omega)
      · exact hK k (by omega) s (by omega)
  obtain ⟨K, hK⟩ := all (2 ^ m) (Nat.le_refl _)
  have fixed : ∀ k0, K ≤ k0 → Ev (fun k => impl_setsOf.l0 (g k0) k (m : Int) [] 0) (ints ((List.range' 0 (2 ^ m)).filter p)) := fun k0 hk0 => by
    refine keep_loop (fun k s i => impl_setsOf.l0 (g k0) k (m : Int) s i) (2 ^ m) p (fun i s hi hs r h => Ev.step (fun k => ?_) h) (fun k s => ?_)
    · simp only [impl_setsOf.l0]
      rw [full_impl m hm]
      simp only [Option.bind_some]
      rw [if_pos (by omega), hK k0 hk0 i hi]
      simp only [Option.bind_some]
      rw [Gen.w64s i (by omega)]
      cases p i with
      | false => rfl
      | true => rw [if_pos rfl, if_pos (by omega), if_pos rfl]
    · simp only [impl_setsOf.l0]
      rw [full_impl m hm]
      simp only [Option.bind_some]
      rw [if_neg (by omega)]
  have count : ∀ k0, K ≤ k0 → ∀ (d i : Nat) (s : List Int) (k : Nat), i + d = 2 ^ m → d < k → s.length ≤ i → impl_setsOf.l0 (g k0) k (m : Int) s (i : Int) = impl_setsOf.l0 (g K) k (m : Int) s (i : Int) ∧ ∀ e, impl_setsOf.l0 (g k0) (k + e) (m : Int) s (i : Int) = impl_setsOf.l0 (g k0) k (m : Int) s (i : Int) := by
    intro k0 hk0 d
    induction d with
    | zero =>
      intro i s k hi hk hs
      obtain rfl : i = 2 ^ m := by omega
      obtain ⟨k, rfl⟩ : ∃ q, k = q + 1 := ⟨k - 1, by omega⟩
      refine ⟨?_, fun e => ?_⟩
      · simp only [impl_setsOf.l0]
        rw [full_impl m hm]
        simp only [Option.bind_some]
        rw [if_neg (by omega), if_neg (by omega)]
      · rw [show k + 1 + e = (k + e) + 1 by omega]
        simp only [impl_setsOf.l0]
        rw [full_impl m hm]
        simp only [Option.bind_some]
        rw [if_neg (by omega), if_neg (by omega)]
    | succ d ih =>
      intro i s k hi hk hs
      obtain ⟨k, rfl⟩ : ∃ q, k = q + 1 := ⟨k - 1, by omega⟩
      obtain ⟨a1, a2⟩ := ih (i + 1) (s ++ [(i : Int)]) k (by omega) (by omega) (by simp; omega)
      obtain ⟨b1, b2⟩ := ih (i + 1) s k (by omega) (by omega) (by omega)
      refine ⟨?_, fun e => ?_⟩
      · simp only [impl_setsOf.l0]
        rw [full_impl m hm]
        simp only [Option.bind_some]
        simp only [if_pos (show (i : Int) ≤ ((2 ^ m - 1 : Nat) : Int) by omega), if_pos (show s.length < 17592186044416 by omega), hK k0 hk0 i (by omega), hK K (Nat.le_refl _) i (by omega), Gen.w64s i (by omega), Option.bind_some, a1, b1]
      · rw [show k + 1 + e = (k + e) + 1 by omega]
        simp only [impl_setsOf.l0]
        rw [full_impl m hm]
        simp only [Option.bind_some]
        simp only [if_pos (show (i : Int) ≤ ((2 ^ m - 1 : Nat) : Int) by omega), if_pos (show s.length < 17592186044416 by omega), hK k0 hk0 i (by omega), Gen.w64s i (by omega), Option.bind_some, a2, b2]
  obtain ⟨K2, hK2⟩ := fixed K (Nat.le_refl _)
  refine ⟨max (max K K2) (2 ^ m + 1), fun k hk => ?_⟩
  show impl_setsOf.l0 (g k) k (m : Int) [] ((0 : Nat) : Int) = _
  rw [(count k (by omega) (2 ^ m) 0 [] k (by omega) (by omega) (by simp)).1]
  exact hK2 k (by omega)
end Go.Proofs.Ytbjnkcfkhonkhaa.Flat
end
section
namespace Go.Proofs.Ytbjnkcfkhonkhaa.Moeb
open Go.RowKit Go.Proofs.Ytbjnkcfkhonkhaa.Pr Go.Proofs.Ytbjnkcfkhonkhaa.Sets Go.Proofs.Ytbjnkcfkhonkhaa.Mat Go.Proofs.Ytbjnkcfkhonkhaa.Rank Go.Proofs.Ytbjnkcfkhonkhaa.Flat Go.Proofs.YtbjnkcfkhonkhaaW.PrintWords Go.Proofs.YtbjnkcfkhonkhaaW.PrintLast Go.Proofs.YtbjnkcfkhonkhaaW.PrintMore
set_option linter.unusedVariables false
def subs (t s : Nat) : Bool := decide (t &&& s = t)
theorem diff_zero (t s : Nat) : diff t s = 0 ↔ t &&& s = t := by
  constructor
  · intro h
    apply Nat.eq_of_testBit_eq
    intro i
    have := diff_bit t s i
    rw [h, Nat.zero_testBit] at this
    rw [Nat.testBit_and]
    cases h1 : t.testBit i <;> cases h2 : s.testBit i <;> simp_all
  · intro h
    apply Nat.eq_of_testBit_eq
    intro i
    rw [diff_bit, Nat.zero_testBit]
    have := congrArg (fun x => x.testBit i) h
    simp only [Nat.testBit_and] at this
    cases h1 : t.testBit i <;> cases h2 : s.testBit i <;> simp_all
theorem implSub (t s : Nat) (ht : t < 256) (hs : s < 256) : impl_IsSubset.f (t : Int) (s : Int) = some (subs t s) := by
  have ha : ∀ x : Nat, x < 256 → impl_isAny.f (x : Int) = some true := fun x hx => by
    unfold impl_isAny.f
    rw [if_pos (by omega), decide_eq_true (by omega)]
  unfold impl_IsSubset.f subs
  rw [ha t ht, ha s hs]
  simp only [Option.bind_some, if_true]
  rw [andNot_nat t s (by omega)]
  congr 1
  rw [Bool.eq_iff_iff, beq_iff_eq, decide_eq_true_eq, ← diff_zero]
  omega
end Go.Proofs.Ytbjnkcfkhonkhaa.Moeb
end
section
namespace Go.Proofs.Ytbjnkcfkhonkhaa.Size
open Go.RowKit Go.Proofs.Ytbjnkcfkhonkhaa.Sets Go.Proofs.Ytbjnkcfkhonkhaa.Rank
set_option linter.unusedVariables false
theorem cnt_count (s : Nat) : cnt s = (List.range' 0 8).countP fun j => s.testBit j := by
  unfold cnt elems
  rw [List.countP_eq_length_filter]
theorem cnt_mono {a b : Nat} (h : ∀ j, j < 8 → a.testBit j = true → b.testBit j = true) : cnt a ≤ cnt b := by
  rw [cnt_count, cnt_count]
  refine List.countP_mono_left fun j hj => h j ?_
  have := List.mem_range'_1.1 hj
  omega
theorem cnt_less : ∀ a, a < 256 → ∀ e, e < 8 → a.testBit e = true → cnt (diff a (2 ^ e)) < cnt a := by decide +kernel
theorem rank_le_of (l : List Nat) (s r : Nat) (h : ∀ b ∈ l, cnt (s &&& b) ≤ r) : rank l s ≤ r := by
  have : ∀ (l : List Nat) (o : Nat), o ≤ r → (∀ b ∈ l, cnt (s &&& b) ≤ r) → l.foldl (fun m b => max m (cnt (s &&& b))) o ≤ r := by
    intro l
    induction l with
    | nil => exact fun o ho _ => ho
    | cons a l ih =>
      intro o ho h
      rw [List.foldl_cons]
      have := h a (by simp)
      exact ih _ (by omega) fun b hb => h b (by simp [hb])
  exact this l 0 (by omega) h
theorem rank_ge (l : List Nat) (s b : Nat) (hb : b ∈ l) : cnt (s &&& b) ≤ rank l s := by
  have mono : ∀ (l : List Nat) (o : Nat), o ≤ l.foldl (fun m b => max m (cnt (s &&& b))) o := by
    intro l
    induction l with
    | nil => exact fun o => Nat.le_refl _
    | cons a l ih =>
      intro o
      rw [List.foldl_cons]
      exact Nat.le_trans (by omega) (ih _)
  have : ∀ (l : List Nat) (o : Nat), b ∈ l → cnt (s &&& b) ≤ l.foldl (fun m b => max m (cnt (s &&& b))) o := by
    intro l
    induction l with
    | nil => exact fun o h => by simp at h
    | cons a l ih =>
      intro o h
      rw [List.foldl_cons]
      rcases List.mem_cons.1 h with rfl | h
      · exact Nat.le_trans (by omega) (mono l _)
      · exact ih _ h
  exact this l 0 hb
end Go.Proofs.Ytbjnkcfkhonkhaa.Size
end
section
namespace Go.Proofs.Ytbjnkcfkhonkhaa.Indep
open Go.RowKit Go.Proofs.Ytbjnkcfkhonkhaa.Sets Go.Proofs.Ytbjnkcfkhonkhaa.Rank Go.Proofs.Ytbjnkcfkhonkhaa.Size
set_option linter.unusedVariables false
def indep (l : List Nat) (s : Nat) : Bool := l.any fun b => decide (s &&& b = s)
theorem and_less {s b : Nat} (hs : s < 256) (h : s &&& b ≠ s) : cnt (s &&& b) < cnt s := by
  have hex : ∃ j, s.testBit j = true ∧ b.testBit j = false := by
    refine Classical.byContradiction fun hn => h ?_
    apply Nat.eq_of_testBit_eq
    intro j
    rw [Nat.testBit_and]
    cases h1 : s.testBit j with
    | false => rfl
    | true =>
      cases h2 : b.testBit j with
      | true => rfl
      | false => exact absurd ⟨j, h1, h2⟩ hn
  obtain ⟨j, h1, h2⟩ := hex
  have hj : j < 8 := by
    refine Nat.lt_of_not_le fun hle => ?_
    rw [bit_far (n := 8) hs hle] at h1
    exact Bool.noConfusion h1
  refine Nat.lt_of_le_of_lt (cnt_mono fun i _ hi => ?_) (cnt_less s hs j hj h1)
  rw [Nat.testBit_and, Bool.and_eq_true] at hi
  rw [diff_bit, Nat.testBit_two_pow, hi.1, Bool.true_and]
  by_cases e : j = i
  · subst e
    rw [h2] at hi
    exact absurd hi.2 (by decide)
  · rw [decide_eq_false e]
    rfl
theorem rank_indep {l : List Nat} {s : Nat} (hs : s < 256) (hn : 0 < l.length) : decide (rank l s < cnt s) = !indep l s := by
  cases h : indep l s with
  | true =>
    unfold indep at h
    obtain ⟨b, hb, he⟩ := List.any_eq_true.1 h
    rw [decide_eq_true_eq] at he
    have := rank_ge l s b hb
    rw [he] at this
    rw [decide_eq_false (by omega)]
    rfl
  | false =>
    unfold indep at h
    rw [List.any_eq_false] at h
    have hlt : ∀ b ∈ l, cnt (s &&& b) < cnt s := fun b hb => and_less hs (by simpa using h b hb)
    have h0 := hlt _ (getD_mem l 0 0 hn)
    have := rank_le_of l s (cnt s - 1) fun b hb => by have := hlt b hb; omega
    rw [decide_eq_true (by omega)]
    rfl
theorem indep_zero {l : List Nat} (hn : 0 < l.length) : indep l 0 = true := by
  unfold indep
  rw [List.any_eq_true]
  exact ⟨_, getD_mem l 0 0 hn, by simp⟩
end Go.Proofs.Ytbjnkcfkhonkhaa.Indep
end
section
namespace Go.Proofs.Ytbjnkcfkhonkhaa.Mini
open Go.RowKit Go.Proofs.Ytbjnkcfkhonkhaa.Pr Go.Proofs.Ytbjnkcfkhonkhaa.Sets Go.Proofs.Ytbjnkcfkhonkhaa.Mat Go.Proofs.Ytbjnkcfkhonkhaa.Rank Go.Proofs.Ytbjnkcfkhonkhaa.Flat Go.Proofs.Ytbjnkcfkhonkhaa.Sort Go.Proofs.Ytbjnkcfkhonkhaa.Moeb Go.Proofs.Ytbjnkcfkhonkhaa.Indep Go.Proofs.YtbjnkcfkhonkhaaW.PrintWords Go.Proofs.YtbjnkcfkhonkhaaW.PrintLast Go.Proofs.YtbjnkcfkhonkhaaW.PrintMore
set_option linter.unusedVariables false
theorem implAny (l : List Nat) (hl : ∀ s ∈ l, s < 256) (hn : l.length ≤ 1048576) : Ev (fun k => impl_areSets.f k (ints l)) true := by
  refine Gen.ev_at (l.length + 1) (fun k hk => ?_)
  unfold impl_areSets.f
  have := Gen.all_loop (fun k i => impl_areSets.l0 k (ints l) ((ints l).length : Int) i) l.length (fun _ => true) 0 true (fun k i _ hi => by
    simp only [impl_areSets.l0]
    have hb := hl _ (getD_mem l 0 i hi)
    unfold impl_isAny.f
    rw [if_pos (by rw [ints_length]; omega), if_pos (by omega), if_pos (by rw [ints_length]; omega), ints_rd, if_pos (by omega), decide_eq_true (by omega), Gen.w64s i (by omega)]
    rfl) (fun k _ => by
    simp only [impl_areSets.l0]
    rw [if_neg (by rw [ints_length]; omega)]) l.length 0 k (by omega) (by omega)
  simpa [Gen.all_yes] using this
theorem specAny (l : List Nat) (hl : ∀ s ∈ l, s < 256) (hn : l.length ≤ 1048576) : Ev (fun k => spec_l3Sets.f k 8 (ints l)) true := by
  refine Gen.ev_at (l.length + 1) (fun k hk => ?_)
  unfold spec_l3Sets.f
  have := Gen.all_loop (fun k i => spec_l3Sets.l0 k 8 (ints l) i) l.length (fun _ => true) 0 true (fun k i _ hi => by
    simp only [spec_l3Sets.l0]
    have hb := hl _ (getD_mem l 0 i hi)
    have e := isSet_of (m := 8) (by omega) (x := l.getD i 0) (by omega)
    rw [if_pos (by rw [ints_length]; omega), if_pos (by omega), ints_rd, specIsSet, show (8 : Int) = ((8 : Nat) : Int) from rfl, e, Gen.w64s i (by omega)]
    rfl) (fun k _ => by
    simp only [spec_l3Sets.l0]
    rw [if_neg (by rw [ints_length]; omega)]) l.length 0 k (by omega) (by omega)
  simpa [Gen.all_yes] using this
def kept (p : Nat → Nat → Bool) (l : List Nat) : List Int := sset (ints (l.filter fun s => !l.any fun t => !decide (t = s) && p t s))
theorem mem_ints {l : List Nat} {x : Int} : x ∈ ints l ↔ ∃ y ∈ l, x = (y : Int) := by
  unfold ints
  rw [List.mem_map]
  constructor
  · rintro ⟨y, h, rfl⟩; exact ⟨y, h, rfl⟩
  · rintro ⟨y, h, rfl⟩; exact ⟨y, h, rfl⟩
theorem sset_filter (l : List Nat) (p : Nat → Bool) : (sset (ints l)).filter (fun x => p x.toNat) = sset (ints (l.filter p)) := by
  refine same_of _ _ ((sset_sorted _).filter _) (sset_sorted _) fun x => ?_
  rw [List.mem_filter, mem_sset, mem_sset, mem_ints, mem_ints]
  constructor
  · rintro ⟨⟨y, h1, rfl⟩, h2⟩
    exact ⟨y, List.mem_filter.2 ⟨h1, by simpa using h2⟩, rfl⟩
  · rintro ⟨y, h1, rfl⟩
    obtain ⟨h2, h3⟩ := List.mem_filter.1 h1
    exact ⟨⟨y, h2, rfl⟩, by simpa using h3⟩
theorem sset_nat (l : List Nat) : ∃ q : List Nat, sset (ints l) = ints q ∧ (∀ s, s ∈ q ↔ s ∈ l) ∧ q.length ≤ l.length := by
  have h : ∀ x ∈ sset (ints l), ∃ y ∈ l, x = (y : Int) := fun x hx => mem_ints.1 ((mem_sset _ _).1 hx)
  refine ⟨(sset (ints l)).map Int.toNat, ?_, fun s => ?_, ?_⟩
  · unfold ints
    rw [List.map_map]
    conv => lhs; rw [← List.map_id (sset _)]
    refine List.map_congr_left fun x hx => ?_
    obtain ⟨y, _, rfl⟩ := h x hx
    rfl
  · rw [List.mem_map]
    constructor
    · rintro ⟨x, hx, rfl⟩
      obtain ⟨y, hy, rfl⟩ := h x hx
      simpa using hy
    · intro hs
      exact ⟨(s : Int), (mem_sset _ _).2 (mem_ints.2 ⟨s, hs, rfl⟩), by simp⟩
  · rw [List.length_map]
    have := sset_length (ints l)
    rw [ints_length] at this
    exact this
theorem any_not {α : Type} (l : List α) (p : α → Bool) : (l.all fun x => !p x) = !l.any p := by
  induction l with
  | nil => rfl
  | cons a l ih => rw [List.all_cons, List.any_cons, ih]; cases p a <;> cases l.any p <;> rfl
theorem implKept (l : List Nat) (hn : l.length ≤ 1048576) (p : Nat → Nat → Bool) (C : Int → Int → Option Bool) (L : Nat → List Int → List Int → List Int → Int → Option (List Int))
    (hC : ∀ s ∈ l, ∀ t ∈ l, C (s : Int) (t : Int) = some (!decide (t = s) && p t s))
    (hL : ∀ k q x3 x13, L (k + 1) (ints l) q x3 x13 = if x13 < (q.length : Int) then (if 0 ≤ x13 then ((slices_ContainsFunc_int_int.f k (ints l) (fun t => C (rd q x13) t)).bind fun b => (if b = true then (L k (ints l) q x3 (wrap64 (x13 + 1))) else (if x3.length < 17592186044416 then (L k (ints l) q (x3 ++ [rd q x13]) (wrap64 (x13 + 1))) else (none)))) else (none)) else (some x3)) :
    Ev (fun k => L k (ints l) (sset (ints l)) [] 0) (kept p l) := by
  obtain ⟨q, hq, hmem, hlen⟩ := sset_nat l
  unfold kept
  rw [← sset_filter, hq]
  have key := Gen.ev_loop (fun k (s : List Int) i => L k (ints l) (ints q) s i) q.length (fun i s => if (!l.any fun t => !decide (t = q.getD i 0) && p t (q.getD i 0)) = true then s ++ [((q.getD i 0 : Nat) : Int)] else s) (fun i s => s.length ≤ i) ((ints q).filter fun x => !l.any fun t => !decide (t = x.toNat) && p t x.toNat) (fun i s hi hP => ⟨?_, fun h => ?_⟩) q.length 0 [] (by omega) (by simp) (fun _ => ?_)
  · exact key
  · show (if _ then _ else _ : List Int).length ≤ _
    split
    · simp; omega
    · omega
  · have hqi : q.getD i 0 ∈ l := (hmem _).1 (getD_mem q 0 i hi)
    refine Ev.step (f := fun k => (slices_ContainsFunc_int_int.f k (ints l) (fun t => C ((q.getD i 0 : Nat) : Int) t)).bind fun b => (if b = true then (L k (ints l) (ints q) s ((i + 1 : Nat) : Int)) else (L k (ints l) (ints q) (s ++ [((q.getD i 0 : Nat) : Int)]) ((i + 1 : Nat) : Int)))) (fun k => ?_) ?_
    · show L (k + 1) (ints l) (ints q) s (i : Int) = _
      rw [hL, if_pos (by rw [ints_length]; omega), if_pos (by omega), ints_rd, Gen.w64s i (by omega), if_pos (by omega)]
    · refine Ev.bind (Gen.ev_at (l.length + 1) (fun k hk => Mat.containsFunc _ l (fun t => !decide (t = q.getD i 0) && p t (q.getD i 0)) hn (fun t ht => hC _ hqi t ht) k (by omega))) ?_
      cases hb : l.any fun t => !decide (t = q.getD i 0) && p t (q.getD i 0) with
      | true =>
        rw [hb] at h
        simpa using h
      | false =>
        rw [hb] at h
        simpa using h
  · refine Ev.step (f := fun _ => some ((ints q).filter fun x => !l.any fun t => !decide (t = x.toNat) && p t x.toNat)) (fun k => ?_) (Ev.now _)
    show L (k + 1) (ints l) (ints q) _ _ = _
    rw [hL, if_neg (by rw [ints_length]; omega)]
    congr 1
    have e : ∀ (r : List Nat) (s : List Int), r.foldl (fun s i => if (!l.any fun t => !decide (t = i) && p t i) = true then s ++ [((i : Nat) : Int)] else s) s = s ++ (ints r).filter fun x => !l.any fun t => !decide (t = x.toNat) && p t x.toNat := by
      intro r
      induction r with
      | nil => intro s; simp [ints]
      | cons a r ih =>
        intro s
        rw [List.foldl_cons, ih]
        show _ = s ++ ((a : Int) :: ints r).filter _
        rw [List.filter_cons]
        simp only [Int.toNat_natCast]
        split
        · simp
        · rfl
    rw [foldl_index q (fun s i => if (!l.any fun t => !decide (t = i) && p t i) = true then s ++ [((i : Nat) : Int)] else s) [], e]
    simp
def mini (l : List Nat) : List Int := kept subs l
theorem implMini (l : List Nat) (hl : ∀ s ∈ l, s < 256) (hn : l.length ≤ 1048576) : Ev (fun k => impl_MinimalSets.f k (ints l)) (mini l) := by
  unfold impl_MinimalSets.f
  refine Ev.bind (implAny l hl hn) ?_
  simp only [if_true]
  have hs := implSort (ints l) (by rw [ints_length]; exact hn)
  rw [hs]
  simp only [Option.bind_some]
  refine implKept l hn subs impl_MinimalSets_1.f impl_MinimalSets.l0 (fun s hs t ht => ?_) (fun k q x3 x13 => by rw [impl_MinimalSets.l0])
  unfold impl_MinimalSets_1.f
  by_cases e : t = s
  · subst e
    rw [if_pos rfl]
    simp
  · rw [if_neg (by omega), implSub t s (hl t ht) (hl s hs), decide_eq_false e]
    simp
theorem specKeep (l : List Nat) (hl : ∀ s ∈ l, s < 256) (hn : l.length ≤ 1048576) (p : Nat → Nat → Bool) (L0 : Nat → List Int → List Int → Int → Option (List Int)) (L1 : Nat → List Int → List Int → Int → Bool → Int → Option (List Int))
    (h0 : ∀ k x3 (i : Nat), i < l.length → L0 (k + 1) (ints l) x3 (i : Int) = L1 k (ints l) x3 (i : Int) true 0)
    (hend : ∀ k x3, L0 (k + 1) (ints l) x3 (l.length : Int) = (spec_SortSets.f k x3).bind fun t => some t)
    (h1 : ∀ k x3 (i j : Nat) (b : Bool), i < l.length → j < l.length → L1 (k + 1) (ints l) x3 (i : Int) b (j : Int) = L1 k (ints l) x3 (i : Int) (b && !(!decide (l.getD j 0 = l.getD i 0) && p (l.getD j 0) (l.getD i 0))) ((j + 1 : Nat) : Int))
    (h2 : ∀ k x3 (i : Nat) (b : Bool), i < l.length → x3.length < 17592186044416 → L1 (k + 1) (ints l) x3 (i : Int) b (l.length : Int) = if b = true then L0 k (ints l) (x3 ++ [((l.getD i 0 : Nat) : Int)]) ((i + 1 : Nat) : Int) else L0 k (ints l) x3 ((i + 1 : Nat) : Int)) :
    Ev (fun k => L0 k (ints l) [] 0) (kept p l) := by
  have key := Gen.ev_loop (fun k (s : List Int) i => L0 k (ints l) s i) l.length (fun i s => if (!l.any fun t => !decide (t = l.getD i 0) && p t (l.getD i 0)) = true then s ++ [((l.getD i 0 : Nat) : Int)] else s) (fun i s => s.length ≤ i) (kept p l) (fun i s hi hP => ⟨?_, fun h => ?_⟩) l.length 0 [] (by omega) (by simp) (fun hP => ?_)
  · exact key
  · show (if _ then _ else _ : List Int).length ≤ _
    split
    · simp; omega
    · omega
  · refine Ev.step (f := fun k => L1 k (ints l) s (i : Int) true 0) (fun k => h0 k s i hi) ?_
    have inner := Gen.ev_loop (fun k (b : Bool) j => L1 k (ints l) s (i : Int) b j) l.length (fun j b => b && !(!decide (l.getD j 0 = l.getD i 0) && p (l.getD j 0) (l.getD i 0))) (fun _ _ => True) (kept p l) (fun j b hj _ => ⟨trivial, fun h => Ev.step (fun k => h1 k s i j b hi hj) h⟩) l.length 0 true (by omega) trivial (fun _ => ?_)
    · exact inner
    · have e : ∀ (r : List Nat) (b : Bool), r.foldl (fun b t => b && !(!decide (t = l.getD i 0) && p t (l.getD i 0))) b = (b && !r.any fun t => !decide (t = l.getD i 0) && p t (l.getD i 0)) := by
        intro r
        induction r with
        | nil => intro b; simp
        | cons a r ih =>
          intro b
          rw [List.foldl_cons, ih, List.any_cons, Bool.not_or, Bool.and_assoc]
      have e2 := foldl_index l (fun b t => b && !(!decide (t = l.getD i 0) && p t (l.getD i 0))) true
      rw [e, Bool.true_and] at e2
      rw [e2]
      refine Ev.step (fun k => h2 k s i _ hi (by omega)) ?_
      split
      · rename_i hb
        rw [if_pos hb] at h
        exact h
      · rename_i hb
        rw [if_neg hb] at h
        exact h
  · have e : ∀ (r : List Nat) (s : List Int), r.foldl (fun s i => if (!l.any fun t => !decide (t = i) && p t i) = true then s ++ [((i : Nat) : Int)] else s) s = s ++ ints (r.filter fun i => !l.any fun t => !decide (t = i) && p t i) := by
      intro r
      induction r with
      | nil => intro s; simp [ints]
      | cons a r ih =>
        intro s
        rw [List.foldl_cons, ih, List.filter_cons]
        split
        · simp [ints]
        · rfl
    have e2 := foldl_index l (fun s i => if (!l.any fun t => !decide (t = i) && p t i) = true then s ++ [((i : Nat) : Int)] else s) ([] : List Int)
    rw [e, List.nil_append] at e2
    rw [e2]
    refine Ev.step (f := fun k => (spec_SortSets.f k (ints (l.filter fun i => !l.any fun t => !decide (t = i) && p t i))).bind fun t => some t) (fun k => hend k _) ?_
    refine Ev.bind (specSort _ ?_) (Ev.now _)
    rw [ints_length]
    exact Nat.le_trans (List.length_filter_le _ _) hn
theorem specMini (l : List Nat) (hl : ∀ s ∈ l, s < 256) (hn : l.length ≤ 1048576) : Ev (fun k => spec_MinimalSets.f k (ints l)) (mini l) := by
  unfold spec_MinimalSets.f
  simp only [Option.bind_some]
  refine Ev.bind (specAny l hl hn) ?_
  simp only [if_true]
  refine specKeep l hl hn subs spec_MinimalSets.l0 spec_MinimalSets.l1 (fun k x3 i hi => ?_) (fun k x3 => ?_) (fun k x3 i j b hi hj => ?_) (fun k x3 i b hi hx => ?_)
  · rw [spec_MinimalSets.l0, if_pos (by rw [ints_length]; omega)]
  · rw [spec_MinimalSets.l0, if_neg (by rw [ints_length]; omega)]
  · rw [spec_MinimalSets.l1, if_pos (by rw [ints_length]; omega), Gen.w64s j (by omega)]
    cases b with
    | false => rw [if_neg (by decide), Bool.false_and]
    | true =>
      rw [if_pos rfl, if_pos (by omega), if_pos (by omega), if_pos (by rw [ints_length]; omega), ints_rd, ints_rd, Bool.true_and]
      have hi' := hl _ (getD_mem l 0 i hi)
      have hj' := hl _ (getD_mem l 0 j hj)
      by_cases e : l.getD j 0 = l.getD i 0
      · rw [if_pos (by omega), decide_eq_true e]
        rfl
      · rw [if_neg (by omega), decide_eq_false e, and_nat _ _ (by omega) (by omega), Bool.not_false, Bool.true_and]
        congr 1
        unfold subs
        by_cases e2 : l.getD j 0 &&& l.getD i 0 = l.getD j 0
        · rw [e2, decide_eq_true rfl]
          simp
        · rw [decide_eq_false e2]
          simp only [Bool.not_false, bne_iff_ne, ne_eq]
          omega
  · rw [spec_MinimalSets.l1, if_neg (by rw [ints_length]; omega)]
    cases b with
    | false => rw [if_neg (by decide), if_neg (by decide), Gen.w64s i (by omega)]
    | true => rw [if_pos rfl, if_pos rfl, if_pos (by omega), if_pos (by rw [ints_length]; omega), if_pos hx, ints_rd, Gen.w64s i (by omega)]
theorem mini_length (l : List Nat) : (mini l).length ≤ l.length := by
  unfold mini kept
  refine Nat.le_trans (sset_length _) ?_
  rw [ints_length]
  exact List.length_filter_le _ _
theorem implIndep (n : Int) (l : List Nat) (s : Nat) (hs : s < 256) (hl : ∀ b ∈ l, b < 256) (hn : l.length ≤ 1048576) : Ev (fun k => impl_independent.f k n (ints l) (s : Int)) (indep l s) := by
  refine Gen.ev_at (l.length + 1) (fun k hk => ?_)
  unfold impl_independent.f
  have := Gen.all_loop (fun k i => (impl_independent.l0 k (s : Int) (ints l) ((ints l).length : Int) i).map fun b => !b) l.length (fun i => !subs s (l.getD i 0)) 0 true (fun k i _ hi => by
    have hb := hl _ (getD_mem l 0 i hi)
    simp only [impl_independent.l0]
    rw [if_pos (by rw [ints_length]; omega), if_pos (by omega), if_pos (by rw [ints_length]; omega), ints_rd, implSub s _ hs hb, Gen.w64s i (by omega)]
    simp only [Option.bind_some]
    cases subs s (l.getD i 0) <;> rfl) (fun k _ => by
    simp only [impl_independent.l0]
    rw [if_neg (by rw [ints_length]; omega)]
    rfl) l.length 0 k (by omega) (by omega)
  rw [Bool.and_true, any_not, any_index l 0 (fun b => subs s b)] at this
  obtain ⟨b, hb1, hb2⟩ := Option.map_eq_some_iff.1 this
  have : b = l.any fun b => subs s b := by
    cases b <;> cases h : l.any fun b => subs s b <;> simp_all
  rw [show ((0 : Int)) = ((0 : Nat) : Int) from rfl, hb1, this]
  rfl
def dep (m : Nat) (l : List Nat) : List Nat := (List.range' 0 (2 ^ m)).filter fun s => !indep l s
def circs (m : Nat) (l : List Nat) : List Int := mini (dep m l)
theorem dep_lt {m : Nat} {l : List Nat} {s : Nat} (h : s ∈ dep m l) : s < 2 ^ m := by
  unfold dep at h
  have := List.mem_range'_1.1 (List.mem_filter.1 h).1
  omega
theorem dep_length (m : Nat) (hm : m ≤ 8) (l : List Nat) : (dep m l).length ≤ 256 := by
  have h256 := pow_le_256 hm
  unfold dep
  refine Nat.le_trans (List.length_filter_le _ _) ?_
  rw [List.length_range']
  exact h256
def circsI (n : Int) (l : List Int) : List Int := if isMat n l = true then circs n.toNat (l.map Int.toNat) else []
theorem implCircuits (n : Int) (l : List Int) (hn : l.length ≤ 1048576) : Ev (fun k => impl_Circuits.f k n l) (circsI n l) := by
  unfold impl_Circuits.f circsI
  refine Ev.bind (implMat n l hn) ?_
  cases hM : isMat n l with
  | false => simp only [Bool.false_eq_true, if_false]; exact Ev.now _
  | true =>
    simp only [if_true]
    obtain ⟨m, lN, rfl, hm, rfl, hl, h0, hf⟩ := mat_nat hM
    rw [ints_length] at hn
    rw [toNat_ints, Int.toNat_natCast]
    have h256 := pow_le_256 hm
    have hl8 : ∀ b ∈ lN, b < 256 := fun b hb => Nat.lt_of_lt_of_le (hl b hb) h256
    refine Ev.bind (implSetsOf m hm (fun k s => impl_Circuits_1.f k (m : Int) (ints lN) s) (fun s => !indep lN s) (fun s hs => ?_) (fun k s => impl_Circuits_1.mono _ _ _ _)) (implMini (dep m lN) (fun s hs => by have := dep_lt hs; omega) (by have := dep_length m hm lN; omega))
    unfold impl_Circuits_1.f
    exact Ev.bind (implIndep (m : Int) lN s (by omega) hl8 hn) (Ev.now _)
theorem specCircuits (n : Int) (l : List Int) (hn : l.length ≤ 1048576) : Ev (fun k => spec_Circuits.f k n l) (circsI n l) := by
  unfold spec_Circuits.f circsI
  refine Ev.bind (specMat n l hn) ?_
  cases hM : isMat n l with
  | false => simp only [Bool.false_eq_true, if_false]; exact Ev.now _
  | true =>
    simp only [if_true]
    obtain ⟨m, lN, rfl, hm, rfl, hl, h0, hf⟩ := mat_nat hM
    rw [ints_length] at hn
    rw [toNat_ints, Int.toNat_natCast]
    have h256 := pow_le_256 hm
    have hl8 : ∀ b ∈ lN, b < 256 := fun b hb => Nat.lt_of_lt_of_le (hl b hb) h256
    refine Ev.bind ?_ (Ev.now _)
    unfold spec_l6Circuits.f
    have key := Gen.ev_loop (fun k (s : List Int) i => spec_l6Circuits.l0 k s i (m : Int) (ints lN)) (2 ^ m) (fun i s => if (!indep lN i) = true then s ++ [(i : Int)] else s) (fun i s => s.length ≤ i) (circs m lN) (fun i s hi hP => ⟨?_, fun h => ?_⟩) (2 ^ m) 0 [] (by omega) (by simp) (fun _ => ?_)
    · exact key
    · show (if _ then _ else _ : List Int).length ≤ _
      split
      · simp; omega
      · omega
    · refine Ev.step (f := fun k => (spec_l5Rank.f k (m : Int) (ints lN) (i : Int)).bind fun t => ((spec_CountOf.f k (i : Int)).bind fun c => (if t < c then (spec_l6Circuits.l0 k (s ++ [(i : Int)]) ((i + 1 : Nat) : Int) (m : Int) (ints lN)) else (spec_l6Circuits.l0 k s ((i + 1 : Nat) : Int) (m : Int) (ints lN))))) (fun k => ?_) ?_
      · simp only [spec_l6Circuits.l0]
        rw [full_spec m hm]
        simp only [Option.bind_some]
        rw [if_pos (by have := Nat.one_le_two_pow (n := m); omega), Gen.w64s i (by omega), if_pos (show s.length < 17592186044416 by omega)]
      · refine Ev.bind (specRank m lN i (by omega) hl8 hn) (Ev.bind (specCountE i (by omega)) ?_)
        have hd := rank_indep (l := lN) (s := i) (by omega) h0
        cases hi' : indep lN i with
        | true =>
          rw [hi'] at h hd
          simp only [Bool.not_true, decide_eq_false_iff_not] at hd
          simp only [if_neg (show ¬ ((rank lN i : Nat) : Int) < (cnt i : Int) by omega)]
          simpa using h
        | false =>
          rw [hi'] at h hd
          simp only [Bool.not_false, decide_eq_true_eq] at hd
          simp only [if_pos (show ((rank lN i : Nat) : Int) < (cnt i : Int) by omega)]
          simpa using h
    · refine Ev.step (f := fun k => (spec_MinimalSets.f k (ints (dep m lN))).bind fun t => some t) (fun k => ?_) (Ev.bind (specMini (dep m lN) (fun s hs => by have := dep_lt hs; omega) (by have := dep_length m hm lN; omega)) (Ev.now _))
      simp only [spec_l6Circuits.l0]
      rw [full_spec m hm]
      simp only [Option.bind_some]
      rw [if_neg (by have := Nat.one_le_two_pow (n := m); omega), foldl_filter]
      rfl
theorem circs_mem {m : Nat} {l : List Nat} (hm : m ≤ 8) (hn : 0 < l.length) {x : Int} (h : x ∈ circs m l) : ∃ c : Nat, x = c ∧ c < 2 ^ m ∧ c ≠ 0 := by
  unfold circs mini kept at h
  rw [mem_sset, mem_ints] at h
  obtain ⟨y, hy, rfl⟩ := h
  have hd := (List.mem_filter.1 hy).1
  refine ⟨y, rfl, dep_lt hd, ?_⟩
  rintro rfl
  unfold dep at hd
  have := (List.mem_filter.1 hd).2
  rw [indep_zero hn] at this
  exact Bool.noConfusion this
theorem circs_length (m : Nat) (hm : m ≤ 8) (l : List Nat) : (circs m l).length ≤ 256 := Nat.le_trans (mini_length _) (dep_length m hm l)
end Go.Proofs.Ytbjnkcfkhonkhaa.Mini
end
section
namespace Go.Proofs.Ytbjnkcfkhonkhaa.Act
open Go.RowKit Go.Proofs.Ytbjnkcfkhonkhaa.Pr Go.Proofs.Ytbjnkcfkhonkhaa.Sets Go.Proofs.Ytbjnkcfkhonkhaa.Mat Go.Proofs.Ytbjnkcfkhonkhaa.Rank Go.Proofs.Ytbjnkcfkhonkhaa.Flat Go.Proofs.YtbjnkcfkhonkhaaW.PrintWords Go.Proofs.YtbjnkcfkhonkhaaW.PrintLast Go.Proofs.YtbjnkcfkhonkhaaW.PrintMore
set_option linter.unusedVariables false
def least (c : Nat) : Nat := (elems c).headD 0
theorem specLeast : ∀ c : Nat, c < 256 → c ≠ 0 → spec_l24Least.f (c : Int) = some ((2 ^ least c : Nat) : Int) := by decide +kernel
theorem elems_pos : ∀ c : Nat, c < 256 → c ≠ 0 → 0 < (elems c).length := by decide +kernel
theorem implLeast (c : Nat) (h : c < 256) (h0 : c ≠ 0) : Ev (fun k => impl_leastElement.f k (c : Int)) (least c : Int) := by
  unfold impl_leastElement.f
  refine Ev.bind (implElements c h) ?_
  have := elems_pos c h h0
  simp only [if_pos (show (0 : Int) < ((ints (elems c)).length : Int) by rw [ints_length]; omega)]
  have e : rd (ints (elems c)) 0 = ((least c : Nat) : Int) := by
    have := ints_rd (elems c) 0
    rw [show ((0 : Nat) : Int) = (0 : Int) from rfl] at this
    rw [this]
    unfold least
    cases elems c <;> rfl
  rw [e]
  exact Ev.now _
end Go.Proofs.Ytbjnkcfkhonkhaa.Act
end
section
namespace Go.Proofs.Ytbjnkcfkhonkhaa.Broken
open Go.RowKit Go.Proofs.Ytbjnkcfkhonkhaa.Pr Go.Proofs.Ytbjnkcfkhonkhaa.Sets Go.Proofs.Ytbjnkcfkhonkhaa.Mat Go.Proofs.Ytbjnkcfkhonkhaa.Rank Go.Proofs.Ytbjnkcfkhonkhaa.Flat Go.Proofs.Ytbjnkcfkhonkhaa.Sort Go.Proofs.Ytbjnkcfkhonkhaa.Moeb Go.Proofs.Ytbjnkcfkhonkhaa.Indep Go.Proofs.Ytbjnkcfkhonkhaa.Act Go.Proofs.Ytbjnkcfkhonkhaa.Mini Go.Proofs.YtbjnkcfkhonkhaaW.PrintWords Go.Proofs.YtbjnkcfkhonkhaaW.PrintLast Go.Proofs.YtbjnkcfkhonkhaaW.PrintMore
set_option linter.unusedVariables false
theorem least_less : ∀ c, c < 256 → c ≠ 0 → c - 2 ^ least c = diff c (2 ^ least c) ∧ least c < 8 ∧ 2 ^ least c ≤ c := by decide +kernel
def less (c : Nat) : Nat := diff c (2 ^ least c)
theorem less_lt {c n : Nat} (h : c < 2 ^ n) : less c < 2 ^ n := diff_lt h
def brok (m : Nat) (l : List Nat) : List Int := sset (ints (((circs m l).map Int.toNat).map less))
def brokI (n : Int) (l : List Int) : List Int := if isMat n l = true then brok n.toNat (l.map Int.toNat) else []
theorem circs_nat {m : Nat} {l : List Nat} (hm : m ≤ 8) (hn : 0 < l.length) : ∃ q : List Nat, circs m l = ints q ∧ (∀ c ∈ q, c < 2 ^ m ∧ c ≠ 0) ∧ q.length ≤ 256 ∧ (circs m l).map Int.toNat = q := by
  refine ⟨(circs m l).map Int.toNat, ?_, fun c hc => ?_, by rw [List.length_map]; exact circs_length m hm l, rfl⟩
  · unfold ints
    rw [List.map_map]
    conv => lhs; rw [← List.map_id (circs m l)]
    refine List.map_congr_left fun x hx => ?_
    obtain ⟨c, rfl, _⟩ := circs_mem hm hn hx
    rfl
  · obtain ⟨x, hx, rfl⟩ := List.mem_map.1 hc
    obtain ⟨c, rfl, h1, h2⟩ := circs_mem hm hn hx
    exact ⟨h1, h2⟩
theorem foldl_app (q : List Nat) (g : Nat → Nat) : ints (q.map g) = (List.range' 0 q.length).foldl (fun (s : List Int) i => s ++ [((g (q.getD i 0) : Nat) : Int)]) [] := by
  have : ∀ (q : List Nat) (f : Nat → Int) (o : List Int), q.foldl (fun (s : List Int) i => s ++ [f i]) o = o ++ q.map f := by
    intro q f
    induction q with
    | nil => intro o; simp
    | cons a q ih => intro o; rw [List.foldl_cons, ih]; simp
  rw [this, List.nil_append]
  unfold ints
  rw [List.map_map, ← List.range_eq_range']
  exact (Gen.map_getD q 0 (fun x => ((g x : Nat) : Int))).symm
theorem implBrok (n : Int) (l : List Int) (hn : l.length ≤ 1048576) : Ev (fun k => impl_BrokenCircuits.f k n l) (brokI n l) := by
  unfold impl_BrokenCircuits.f brokI
  refine Ev.bind (implMat n l hn) ?_
  have hc := implCircuits n l hn
  unfold circsI at hc
  cases hM : isMat n l with
  | false => simp only [Bool.false_eq_true, if_false]; exact Ev.now _
  | true =>
    rw [hM] at hc
    simp only [if_true] at hc ⊢
    refine Ev.bind hc ?_
    obtain ⟨m, lN, rfl, hm, rfl, hl, h0, hf⟩ := mat_nat hM
    rw [toNat_ints, Int.toNat_natCast]
    have h256 := pow_le_256 hm
    obtain ⟨q, hq, hqc, hlen, hqe⟩ := circs_nat (l := lN) hm h0
    unfold brok
    rw [hqe, hq]
    refine Gen.ev_loop (fun k (s : List Int) i => impl_BrokenCircuits.l0 k s (ints q) ((ints q).length : Int) i) q.length (fun i s => s ++ [((less (q.getD i 0) : Nat) : Int)]) (fun i s => s.length ≤ i) _ (fun i s hi hP => ⟨by simp; omega, fun h => ?_⟩) q.length 0 [] (by omega) (by simp) (fun _ => ?_)
    · obtain ⟨hc1, hc2⟩ := hqc _ (getD_mem q 0 i hi)
      obtain ⟨_, h8, _⟩ := least_less _ (by omega) hc2
      refine Ev.step (f := fun k => (impl_leastElement.f k ((q.getD i 0 : Nat) : Int)).bind fun t => ((impl_WithoutElement.f ((q.getD i 0 : Nat) : Int) t).bind fun u => (impl_BrokenCircuits.l0 k (s ++ [u]) (ints q) ((ints q).length : Int) ((i + 1 : Nat) : Int)))) (fun k => ?_) ?_
      · simp only [impl_BrokenCircuits.l0]
        rw [if_pos (by rw [ints_length]; omega), if_pos (by omega), if_pos (by rw [ints_length]; omega), ints_rd, Gen.w64s i (by omega)]
        simp only [if_pos (show s.length < 17592186044416 by omega)]
      · refine Ev.bind (implLeast _ (by omega) hc2) ?_
        have hw : impl_WithoutElement.f ((q.getD i 0 : Nat) : Int) (least (q.getD i 0) : Int) = some ((less (q.getD i 0) : Nat) : Int) := by
          unfold impl_WithoutElement.f impl_isAny.f
          rw [if_pos (by omega)]
          simp only [Option.bind_some]
          rw [if_pos (decide_eq_true (by omega)), if_neg (by omega), if_neg (by omega), if_pos (by omega), shl_nat _ (by omega), andNot_nat _ _ (by omega)]
          rfl
        rw [hw]
        exact h
    · refine Ev.step (f := fun k => some (sset (ints (q.map less)))) (fun k => ?_) (Ev.now _)
      simp only [impl_BrokenCircuits.l0]
      rw [if_neg (by rw [ints_length]; omega), ← foldl_app, implSort _ (by rw [ints_length, List.length_map]; omega)]
      rfl
theorem specBrok (n : Int) (l : List Int) (hn : l.length ≤ 1048576) : Ev (fun k => spec_BrokenCircuits.f k n l) (brokI n l) := by
  unfold spec_BrokenCircuits.f brokI
  have hc := specCircuits n l hn
  unfold circsI at hc
  refine Ev.bind hc ?_
  cases hM : isMat n l with
  | false =>
    simp only [Bool.false_eq_true, if_false]
    refine Ev.step (f := fun k => (spec_SortSets.f k []).bind fun t => some t) (fun k => ?_) (Ev.bind (specSort [] (by simp)) (Ev.now _))
    simp only [spec_BrokenCircuits.l0]
    rw [if_neg (by simp)]
  | true =>
    simp only [if_true]
    obtain ⟨m, lN, rfl, hm, rfl, hl, h0, hf⟩ := mat_nat hM
    rw [toNat_ints, Int.toNat_natCast]
    have h256 := pow_le_256 hm
    obtain ⟨q, hq, hqc, hlen, hqe⟩ := circs_nat (l := lN) hm h0
    unfold brok
    rw [hqe, hq]
    refine Gen.ev_loop (fun k (s : List Int) i => spec_BrokenCircuits.l0 k s (ints q) i) q.length (fun i s => s ++ [((less (q.getD i 0) : Nat) : Int)]) (fun i s => s.length ≤ i) _ (fun i s hi hP => ⟨by simp; omega, fun h => Ev.step (fun k => ?_) h⟩) q.length 0 [] (by omega) (by simp) (fun _ => ?_)
    · obtain ⟨hc1, hc2⟩ := hqc _ (getD_mem q 0 i hi)
      obtain ⟨h7, h8, h9⟩ := least_less _ (by omega) hc2
      have hsub : wrap64 (((q.getD i 0 : Nat) : Int) - ((2 ^ least (q.getD i 0) : Nat) : Int)) = ((less (q.getD i 0) : Nat) : Int) := by
        unfold less
        rw [← h7]
        generalize 2 ^ least (q.getD i 0) = P at *
        rw [Gen.w64 (by omega) (by omega)]
        omega
      simp only [spec_BrokenCircuits.l0]
      rw [if_pos (by rw [ints_length]; omega), if_pos (by omega), ints_rd, specLeast _ (by omega) hc2, Gen.w64s i (by omega)]
      simp only [Option.bind_some]
      rw [if_pos (by omega), hsub]
    · refine Ev.step (f := fun k => (spec_SortSets.f k (ints (q.map less))).bind fun t => some t) (fun k => ?_) (Ev.bind (specSort _ (by rw [ints_length, List.length_map]; omega)) (Ev.now _))
      simp only [spec_BrokenCircuits.l0]
      rw [if_neg (by rw [ints_length]; omega), ← foldl_app]
theorem brok_nat {m : Nat} {l : List Nat} (hm : m ≤ 8) (hn : 0 < l.length) : ∃ q : List Nat, brok m l = ints q ∧ (∀ c ∈ q, c < 2 ^ m) ∧ q.length ≤ 256 := by
  unfold brok
  obtain ⟨q, hq, hqc, hlen, hqe⟩ := circs_nat (l := l) hm hn
  rw [hqe]
  obtain ⟨p, hp, hmem, hpl⟩ := sset_nat (q.map less)
  refine ⟨p, hp, fun c hc => ?_, by rw [List.length_map] at hpl; omega⟩
  obtain ⟨d, hd, rfl⟩ := List.mem_map.1 ((hmem c).1 hc)
  exact less_lt (hqc d hd).1
def unbr (m : Nat) (l : List Nat) : List Nat := (List.range' 0 (2 ^ m)).filter fun s => !((brok m l).map Int.toNat).any fun c => subs c s
def unbrI (n : Int) (l : List Int) : List Int := if isMat n l = true then ints (unbr n.toNat (l.map Int.toNat)) else []
theorem unbrI_length (n : Int) (l : List Int) : (unbrI n l).length ≤ 256 := by
  unfold unbrI
  cases hM : isMat n l with
  | false => simp
  | true =>
    simp only [if_true]
    obtain ⟨m, lN, rfl, hm, rfl, hl, h0, hf⟩ := mat_nat hM
    rw [Int.toNat_natCast, ints_length]
    have h256 := pow_le_256 hm
    unfold unbr
    refine Nat.le_trans (List.length_filter_le _ _) ?_
    rw [List.length_range']
    exact h256
theorem implUnbr (n : Int) (l : List Int) (hn : l.length ≤ 1048576) : Ev (fun k => impl_UnbrokenSets.f k n l) (unbrI n l) := by
  unfold impl_UnbrokenSets.f unbrI
  refine Ev.bind (implMat n l hn) ?_
  have hb := implBrok n l hn
  unfold brokI at hb
  cases hM : isMat n l with
  | false => simp only [Bool.false_eq_true, if_false]; exact Ev.now _
  | true =>
    rw [hM] at hb
    simp only [if_true] at hb ⊢
    obtain ⟨m, lN, rfl, hm, rfl, hl, h0, hf⟩ := mat_nat hM
    rw [toNat_ints, Int.toNat_natCast] at hb
    rw [toNat_ints, Int.toNat_natCast]
    have h256 := pow_le_256 hm
    refine Ev.bind hb ?_
    obtain ⟨q, hq, hqc, hlen⟩ := brok_nat (l := lN) hm h0
    unfold unbr
    rw [hq, toNat_ints]
    refine implSetsOf m hm (fun k s => impl_UnbrokenSets_1.f k (ints q) s) (fun s => !q.any fun c => subs c s) (fun s hs => ?_) (fun k s => impl_UnbrokenSets_1.mono _ _ _)
    unfold impl_UnbrokenSets_1.f
    refine Ev.bind (Gen.ev_at (q.length + 1) (fun k hk => Mat.containsFunc _ q (fun c => subs c s) (by omega) (fun c hc => ?_) k (by omega))) (Ev.now _)
    unfold impl_UnbrokenSets_1_1.f
    exact implSub c s (by have := hqc c hc; omega) (by omega)
theorem specWithin (q : List Nat) (s : Nat) (hq : ∀ c ∈ q, c < 256) (hs : s < 256) (hn : q.length ≤ 1048576) : Ev (fun k => spec_l6Within.f k (ints q) (s : Int)) (q.any fun c => subs c s) := by
  refine Gen.ev_at (q.length + 1) (fun k hk => ?_)
  unfold spec_l6Within.f
  have := Gen.all_loop (fun k i => (spec_l6Within.l0 k (ints q) (s : Int) i).map fun b => !b) q.length (fun i => !subs (q.getD i 0) s) 0 true (fun k i _ hi => by
    have hb := hq _ (getD_mem q 0 i hi)
    simp only [spec_l6Within.l0]
    rw [if_pos (by rw [ints_length]; omega), if_pos (by omega), ints_rd, and_nat _ _ (by omega) (by omega), Gen.w64s i (by omega)]
    unfold subs
    by_cases e : q.getD i 0 &&& s = q.getD i 0
    · rw [if_pos (by omega), decide_eq_true e]; rfl
    · rw [if_neg (by omega), decide_eq_false e]; rfl) (fun k _ => by
    simp only [spec_l6Within.l0]
    rw [if_neg (by rw [ints_length]; omega)]
    rfl) q.length 0 k (by omega) (by omega)
  rw [Bool.and_true, any_not, any_index q 0 (fun c => subs c s)] at this
  obtain ⟨b, hb1, hb2⟩ := Option.map_eq_some_iff.1 this
  have : b = q.any fun c => subs c s := by
    cases b <;> cases h : q.any fun c => subs c s <;> simp_all
  rw [show ((0 : Int)) = ((0 : Nat) : Int) from rfl, hb1, this]
theorem specUnbr (n : Int) (l : List Int) (hn : l.length ≤ 1048576) : Ev (fun k => spec_UnbrokenSets.f k n l) (unbrI n l) := by
  unfold spec_UnbrokenSets.f unbrI
  simp only [Option.bind_some]
  refine Ev.bind (specMat n l hn) ?_
  have hb := specBrok n l hn
  unfold brokI at hb
  cases hM : isMat n l with
  | false => simp only [Bool.false_eq_true, if_false]; exact Ev.now _
  | true =>
    rw [hM] at hb
    simp only [if_true] at hb ⊢
    obtain ⟨m, lN, rfl, hm, rfl, hl, h0, hf⟩ := mat_nat hM
    rw [toNat_ints, Int.toNat_natCast] at hb
    rw [toNat_ints, Int.toNat_natCast]
    have h256 := pow_le_256 hm
    refine Ev.bind hb ?_
    obtain ⟨q, hq, hqc, hlen⟩ := brok_nat (l := lN) hm h0
    unfold unbr
    rw [hq, toNat_ints]
    refine Gen.ev_loop (fun k (s : List Int) i => spec_UnbrokenSets.l0 k s (ints q) i (m : Int) (ints lN)) (2 ^ m) (fun i s => if (!q.any fun c => subs c i) = true then s ++ [(i : Int)] else s) (fun i s => s.length ≤ i) _ (fun i s hi hP => ⟨?_, fun h => ?_⟩) (2 ^ m) 0 [] (by omega) (by simp) (fun _ => ?_)
    · show (if _ then _ else _ : List Int).length ≤ _
      split
      · simp; omega
      · omega
    · refine Ev.step (f := fun k => (spec_l6Within.f k (ints q) (i : Int)).bind fun t => (if t = true then (spec_UnbrokenSets.l0 k s (ints q) ((i + 1 : Nat) : Int) (m : Int) (ints lN)) else (spec_UnbrokenSets.l0 k (s ++ [(i : Int)]) (ints q) ((i + 1 : Nat) : Int) (m : Int) (ints lN)))) (fun k => ?_) ?_
      · simp only [spec_UnbrokenSets.l0]
        rw [full_spec m hm]
        simp only [Option.bind_some]
        rw [if_pos (by have := Nat.one_le_two_pow (n := m); omega), Gen.w64s i (by omega), if_pos (show s.length < 17592186044416 by omega)]
      · refine Ev.bind (specWithin q i (fun c hc => by have := hqc c hc; omega) (by omega) (by omega)) ?_
        cases hb' : q.any fun c => subs c i with
        | true =>
          rw [hb'] at h
          simpa using h
        | false =>
          rw [hb'] at h
          simpa using h
    · refine Ev.step (f := fun k => some (ints ((List.range' 0 (2 ^ m)).filter fun s => !q.any fun c => subs c s))) (fun k => ?_) (Ev.now _)
      simp only [spec_UnbrokenSets.l0]
      rw [full_spec m hm]
      simp only [Option.bind_some]
      rw [if_neg (by have := Nat.one_le_two_pow (n := m); omega), foldl_filter]
end Go.Proofs.Ytbjnkcfkhonkhaa.Broken
end
section
namespace Go.Proofs.Ytbjnkcfkhonkhaa.Pure
open Go.RowKit Go.Proofs.Ytbjnkcfkhonkhaa.Pr Go.Proofs.Ytbjnkcfkhonkhaa.Base Go.Proofs.Ytbjnkcfkhonkhaa.Sets Go.Proofs.Ytbjnkcfkhonkhaa.Mat Go.Proofs.Ytbjnkcfkhonkhaa.Rank Go.Proofs.Ytbjnkcfkhonkhaa.Broken Go.Proofs.YtbjnkcfkhonkhaaW.PrintWords Go.Proofs.YtbjnkcfkhonkhaaW.PrintLast Go.Proofs.YtbjnkcfkhonkhaaW.PrintMore
set_option linter.unusedVariables false
theorem FnExactUnbrokenSets (n : Int) (xs : List Int) (_ : (Lit.int .i64 n).wf = true) (hm : xs.length ≤ maxLen ∧ ∀ x ∈ xs, (Lit.int .i64 x).wf = true) : ∃ k, laws_FnExactUnbrokenSets.f k n xs = some true := by
  obtain ⟨z, hz, h⟩ := szMatroid n xs 1048576 hm.1 (by decide) (by decide)
  refine Ev.rounds ?_
  unfold laws_FnExactUnbrokenSets.f
  rw [hz]
  simp only [Option.bind_some]
  by_cases hneg : z < 0
  · simp only [if_pos hneg]
    exact Ev.now _
  · simp only [if_neg hneg]
    have hl : xs.length ≤ 1048576 := by rcases h with h | h <;> omega
    have hrl : (unbrI n xs).length ≤ 1048576 := Nat.le_trans (unbrI_length n xs) (by decide)
    refine Ev.bind (toMatroid n xs hl) (Ev.bind (specUnbr n xs hl) (Ev.bind (toMatroid n xs hl) (Ev.bind (implUnbr n xs hl) (Ev.bind (eqIntSE _ hrl) ?_))))
    simp only [if_true]
    refine Ev.bind (toMatroid n xs hl) (Ev.bind (eqMatroid n xs hl) ?_)
    simp only [if_true]
    refine Ev.bind (markMatroid n xs 1 hl (by decide) (by decide)) ?_
    simp only [if_neg (show ¬ ((1 : Int) + (xs.length : Int) < 0) by omega)]
    refine Ev.bind (eqIntSE _ hrl) ?_
    simp only [Bool.not_true]
    refine Ev.step (f := fun k => (laws_markIntS.f k (unbrI n xs) 1).bind fun bt1205 => ((laws_heldIntS.f k bt1205.2 1).bind fun t1207 => (if t1207 < 0 then (some false) else (if t1207 = bt1205.1 then ((laws_toMatroid.f k n xs).bind fun bt1208 => ((impl_UnbrokenSets.f k bt1208.1 bt1208.2).bind fun t1212 => ((laws_eqIntS.f k t1212 (unbrI n xs)).bind fun t1215 => (if t1215 = true then ((laws_heldIntS.f k bt1205.2 1).bind fun t1216 => (if t1216 < 0 then (some false) else (if t1216 = bt1205.1 then (some true) else (some false)))) else (some false))))) else (some false))))) (fun k => ?_) ?_
    · simp only [laws_FnExactUnbrokenSets.j0]
      rw [if_neg (by decide)]
    · refine Ev.bind (markIntS _ 1 hrl (by decide) (by decide)) ?_
      have hh := heldIntS 1 (unbrI n xs).length hrl (by decide) (by decide)
      refine Ev.bind hh ?_
      simp only [if_neg (show ¬ ((1 : Int) + ((unbrI n xs).length : Int) < 0) by omega), if_true]
      refine Ev.bind (toMatroid n xs hl) (Ev.bind (implUnbr n xs hl) (Ev.bind (eqIntSE _ hrl) ?_))
      simp only [if_true]
      refine Ev.bind hh ?_
      simp only [if_neg (show ¬ ((1 : Int) + ((unbrI n xs).length : Int) < 0) by omega), if_true]
      exact Ev.now _
end Go.Proofs.Ytbjnkcfkhonkhaa.Pure
end
section
namespace Go.Proofs.Ytbjnkcfkhonkhaa.Open
open Go.ChangeShapes Go.WideShapes Go.RowKit Go.Proofs.YtbjnkcfkhonkhaaW.PrintWords Go.Deep
set_option linter.unusedVariables false
structure Opens {α : Type} (P : Program) (d : Kd α) (t : TypeId) (Wf : α → Prop) : Prop where
  go : ∀ (H : Type) (enc : TypeId × Value → H) (w : World) (base : Nat) (spare : Nat → Bool) (held : Bool) (fuel : Nat) (cs : List Value) (x : DataW H × List MemPlace),
    DataW.trod enc P w base spare held fuel t cs = some x → ∃ a, d.K w a cs ∧ Wf a
theorem Opens.int {P : Program} {t : TypeId} {k : IntKind} (ht : P.underlying t = some (.int k)) : Opens P (Kd.int k) t (fun n => (Lit.int k n).wf = true) := by
  refine ⟨fun H enc w base spare held fuel cs x h => ?_⟩
  obtain ⟨n, rfl, _, hw⟩ := DataW.trod_int ht h
  exact ⟨n, rfl, hw⟩
theorem Opens.bool {P : Program} {t : TypeId} (ht : P.underlying t = some .bool) : Opens P Kd.bool t (fun _ => True) := by
  refine ⟨fun H enc w base spare held fuel cs x h => ?_⟩
  obtain ⟨n, rfl, _⟩ := DataW.trod_bool ht h
  exact ⟨n, rfl, trivial⟩
theorem list_of {α : Type} {p : Nat → α → Prop} : ∀ {len : Nat}, (∀ i, i < len → ∃ y, p i y) → ∃ xs : List α, xs.length = len ∧ ∀ i y, xs[i]? = some y → p i y := by
  intro len
  induction len with
  | zero => exact fun _ => ⟨[], rfl, fun i y h => by simp at h⟩
  | succ len ih =>
    intro key
    obtain ⟨xs, hxl, hxs⟩ := ih (fun i hi => key i (by omega))
    obtain ⟨y, hy⟩ := key len (by omega)
    refine ⟨xs ++ [y], by simp [hxl], fun i z hz => ?_⟩
    by_cases hi : i < xs.length
    · rw [List.getElem?_append_left hi] at hz
      exact hxs i z hz
    · have hlt : i < (xs ++ [y]).length := (List.getElem?_eq_some_iff.1 hz).1
      have e : i = len := by simp [hxl] at hlt hi; omega
      subst e
      rw [List.getElem?_append_right (by omega), hxl] at hz
      simp at hz
      subst hz
      exact hy
theorem Opens.slice {α : Type} {P : Program} {t e : TypeId} {d : Kd α} {Wf : α → Prop} (ht : P.underlying t = some (.slice e)) (hs : P.cellsOf e = d.sz) (h : Opens P d e Wf) :
    Opens P (Kd.slice e d) t (fun xs => xs.length ≤ maxLen ∧ ∀ x ∈ xs, Wf x) := by
  refine ⟨fun H enc w base spare held fuel cs x hx => ?_⟩
  rcases open_slice ht hx with ⟨rfl, _⟩ | ⟨a, len, cap, m, n, D, Pl, rfl, hb, hl, hm, hmm, _, hel⟩
  · exact ⟨[], ⟨none, 0, rfl, Nat.le_refl _, rfl, by simp, fun h => absurd h (by simp)⟩, by simp, by simp⟩
  · have hlm : len ≤ m := by rw [hmm]; split <;> omega
    have key : ∀ i, i < len → ∃ y : α, (∃ cs', w.cells? base (a.add (i * P.cellsOf e)) (P.cellsOf e) = some cs' ∧ d.K w y cs') ∧ Wf y := fun i hi => by
      obtain ⟨cs', h1, h2⟩ := hel i (by omega)
      obtain ⟨y, h3, h4⟩ := h.go _ enc w base spare held n cs' _ h2
      exact ⟨y, ⟨cs', h1, h3⟩, h4⟩
    obtain ⟨xs, hxl, hxs⟩ := list_of key
    refine ⟨xs, ⟨some a, cap, by rw [hxl], by omega, rfl, by have := hm; unfold maxLen at this; omega, fun _ => ⟨a, rfl, fun j p hj => ?_⟩⟩, by omega, fun y hy => ?_⟩
    · obtain ⟨⟨cs', h1, h2⟩, _⟩ := hxs j p hj
      obtain ⟨_, h3, h4⟩ := World.cells?_some h1
      refine ⟨cs', by rw [h3, hs], h2, fun i u hu => ?_⟩
      have hlt : i < cs'.length := (List.getElem?_eq_some_iff.1 hu).1
      have := h4 i (by omega)
      rw [hs, Go.Deep.add_add] at this
      rw [this, hu]
    · obtain ⟨i, hi⟩ := List.getElem?_of_mem hy
      exact (hxs i y hi).2
structure OpensFs {α : Type} (P : Program) (fs : List Field) (off : Nat) (d : Kd α) (Wf : α → Prop) : Prop where
  go : ∀ (H : Type) (enc : TypeId × Value → H) (w : World) (base : Nat) (spare : Nat → Bool) (held : Bool) (n : Nat) (cs : List Value),
    cs.length = off + d.sz → (∀ f ∈ fs, ∃ x, DataW.trod enc P w base spare held n f.type ((cs.drop f.offset).take (P.cellsOf f.type)) = some x) → ∃ a, d.K w a (cs.drop off) ∧ Wf a
theorem OpensFs.one {α : Type} {P : Program} {f : Field} {off : Nat} {d : Kd α} {Wf : α → Prop} (ho : f.offset = off) (hs : P.cellsOf f.type = d.sz) (h : Opens P d f.type Wf) : OpensFs P [f] off d Wf := by
  refine ⟨fun H enc w base spare held n cs hl hf => ?_⟩
  obtain ⟨x, hx⟩ := hf f (by simp)
  rw [ho, hs, List.take_of_length_le (by rw [List.length_drop]; omega)] at hx
  exact h.go _ enc w base spare held n _ x hx
theorem OpensFs.cons {α β : Type} {P : Program} {f : Field} {fs : List Field} {off : Nat} {d : Kd α} {d' : Kd β} {Wf : α → Prop} {Wf' : β → Prop} (ho : f.offset = off) (hs : P.cellsOf f.type = d.sz) (h : Opens P d f.type Wf)
    (h' : OpensFs P fs (off + d.sz) d' Wf') : OpensFs P (f :: fs) off (Kd.pair d d') (fun x => Wf x.1 ∧ Wf' x.2) := by
  refine ⟨fun H enc w base spare held n cs hl hf => ?_⟩
  have hl' : cs.length = off + (d.sz + d'.sz) := hl
  obtain ⟨x, hx⟩ := hf f (by simp)
  rw [ho, hs] at hx
  obtain ⟨a, ha, wa⟩ := h.go _ enc w base spare held n _ x hx
  obtain ⟨b, hb, wb⟩ := h'.go _ enc w base spare held n cs (by omega) (fun g hg => hf g (by simp [hg]))
  refine ⟨(a, b), ⟨(cs.drop off).take d.sz, cs.drop (off + d.sz), ?_, ha, hb⟩, wa, wb⟩
  rw [← List.drop_drop, List.take_append_drop]
theorem Opens.struct {α : Type} {P : Program} {t : TypeId} {fs : Array Field} {d : Kd α} {Wf : α → Prop} (ht : P.underlying t = some (.struct fs)) (hs : P.cellsOf t = d.sz) (h : OpensFs P fs.toList 0 d Wf) : Opens P d t Wf := by
  refine ⟨fun H enc w base spare held fuel cs x hx => ?_⟩
  obtain ⟨xs, n, _, _, hl, hlen, hg⟩ := DataW.trod_struct ht hx
  obtain ⟨a, ha, wa⟩ := h.go _ enc w base spare held n cs (by omega) (fun f hf => by
    obtain ⟨i, hi⟩ := List.getElem?_of_mem hf
    have h1 := hg i f (by simpa using hi)
    have hlt : i < fs.size := by have := (List.getElem?_eq_some_iff.1 hi).1; simpa using this
    exact ⟨_, h1.trans (List.getElem?_eq_getElem (by omega))⟩)
  exact ⟨a, by simpa using ha, wa⟩
theorem Opens.argStruct {α : Type} {P : Program} {t : TypeId} {d : Kd α} {Wf : α → Prop} (h : Opens P d t Wf) {H : Type} {enc : TypeId × Value → H} {w : World} {base : Nat} {spare : Nat → Bool} {held : Bool} {v : Value} {x : DataW H} {ps : List MemPlace}
    (hv : ∃ cs, v = .agg cs ∧ cs.size = P.cellsOf t) (ht : DataW.Trod enc P w base spare held t v x ps) : ∃ cs a, v = .agg cs.toArray ∧ d.K w a cs ∧ Wf a := by
  obtain ⟨cs, rfl, _⟩ := hv
  obtain ⟨fuel, hf⟩ := ht
  obtain ⟨a, ha, wf⟩ := h.go _ enc w base spare held fuel _ _ hf
  exact ⟨cs.toList, a, by simp, ha, wf⟩
end Go.Proofs.Ytbjnkcfkhonkhaa.Open
end
section
namespace Go.Proofs.Ytbjnkcfkhonkhaa.fnExactUnbrokenSets
open Go.ChangeShapes Go.WideShapes Go.ChangeAt Go.RowKit Go.Proofs.Ytbjnkcfkhonkhaa.Open Go.Proofs.YtbjnkcfkhonkhaaW.PrintWords
open Go.ChangeMaps (open_string shut_string)
set_option linter.unusedVariables false
theorem own : ownKnob Try.prog.godebug = none := by kernel_rfl
theorem laidOut : laidOutB Try.prog = true := by kernel_rfl
set_option maxRecDepth 100000 in
theorem lifted (os : Os) (started : os.Started) (H : Type) (enc : TypeId × Value → H) :
    ReturnsInHanded {} Try.checked os 11 .any (Rows.fnExactUnbrokenSetsSpec.pre6 enc Try.prog Try.f11 Rows.fnExactUnbrokenSetsRow.domain false) (Rows.fnExactUnbrokenSetsSpec.post enc Try.prog Try.f11 false true false false) := by
  refine returnsInHanded_of_change_sized (C := Try.checked) own started (by kernel_rfl) Try.func11
    (ChangeSpec.witness6 (enc := enc) (C := Try.checked) false ⟨#[], #[.agg #[.int .i64 0, .slice none 0 0]], []⟩ 8 (by kernel_rfl) (by kernel_rfl) (by kernel_rfl) (by kernel_rfl)) ?_
  intro W base args ds gs before hval0 hW hcnd hsz0 _
  have hval : ∀ (j : Nat) t v, Try.f11.params[j]? = some t → args[j]? = some v → Value.okWide Try.prog W .any base t v := hval0
  have hW' := hW
  obtain ⟨p, q, hA0, hV, rfl, hfz, hnd⟩ := hW
  have hA : DataW.TrodAll enc Try.prog W 0 (fun _ => true) true Try.f11.params.toList args.toList ds p := hA0
  rw [Try.params11] at hA hval
  obtain ⟨v0, vs0, d0, ds0, p0, q0, hargs, rfl, rfl, h0, r0⟩ := trodAll_cons hA
  obtain ⟨rfl, rfl, rfl⟩ := trodAll_nil r0
  obtain rfl : args = #[v0] := by cases args; simp_all
  obtain ⟨rfl, rfl⟩ := trodVars_none hV
  have k0 := h0
  have lt0 : ∀ x ∈ p0, x.block < W.heap.size := by obtain ⟨m, hm⟩ := k0; exact DataW.trod_lt m _ _ _ hm
  obtain ⟨cs0, x0, rfl, K0, w0⟩ := Opens.argStruct (Opens.struct Try.underlying42 (by kernel_rfl) (OpensFs.cons rfl (by kernel_rfl) (Opens.int Try.underlying3) (OpensFs.one rfl (by kernel_rfl) (Opens.slice Try.underlying31 (by kernel_rfl) (Opens.int Try.underlying3))))) (okWide_struct Try.underlying42 (hval 0 42 v0 rfl rfl)) h0
  obtain ⟨_, _, rfl, rfl, ⟨A0_1, c0_1, rfl, hl0_1, hr0_1⟩⟩ := K0
  obtain ⟨w0_0, w0_1⟩ := w0
  clear hA0 hval0 hsz0
  obtain ⟨k, hk⟩ := Pure.FnExactUnbrokenSets x0.1 x0.2 w0_0 w0_1
  refine (Pr.laws_FnExactUnbrokenSets.calls k x0.1 _ _ x0.2 true W hr0_1 hl0_1 ⟨rfl⟩ hk).mono fun e W' ⟨he, bel⟩ => ?_
  subst he
  exact ⟨_, rfl, _, _, _, [], _, [], hW', trodAll_mk1 (shut_bool Try.underlying4 _), (trodAll_cons_mk (Below.trod laidOut (by kernel_rfl) (of_decide_eq_true (by kernel_rfl)) k0 bel lt0) trodAll_mk0), rfl, bel.frame _, fun h => by cases h⟩
theorem over : Rows.fnExactUnbrokenSetsRow.holds Try.pinned (OpenSpec.ofChange Rows.fnExactUnbrokenSetsSpec) :=
  OpenClaim.holds_of_wide 11 Try.f11 rfl rfl rfl rfl rfl rfl rfl ⟨rfl, rfl, rfl, rfl, rfl⟩ rfl rfl rfl rfl rfl (by kernel_rfl) Try.func11 (by kernel_rfl)
    (of_decide_eq_true (by kernel_rfl)) (by unfold Func.isWrapper; first | (rw [if_pos (by decide +kernel)]; kernel_rfl) | (rw [if_neg (by decide +kernel)]; exact ⟨rfl, rfl⟩))
    (fun os started H enc _ => lifted os started H enc)
theorem proved : Rows.FnExactUnbrokenSetsSaid := over
#print axioms proved
end Go.Proofs.Ytbjnkcfkhonkhaa.fnExactUnbrokenSets
namespace Go.Proofs.Ytbjnkcfkhonkhaa
theorem fnExactUnbrokenSets_holds : Rows.FnExactUnbrokenSetsSaid := fnExactUnbrokenSets.proved
end Go.Proofs.Ytbjnkcfkhonkhaa
end
