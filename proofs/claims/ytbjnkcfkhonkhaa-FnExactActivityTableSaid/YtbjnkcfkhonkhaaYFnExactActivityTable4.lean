/- The claim FnExactActivityTable: every text that its row comes to, laid together by slim.py (the words of the kit's print, the printed walks, the pure law, the row). -/
import Derived.Below
import Derived.ChangeArms
import Derived.ChangeOld
import Derived.DataReads
import Derived.Deep.Slices
import Derived.OpenShut
import Derived.ProofKit
import Derived.ShutString
import Derived.SizedLaws
import Derived.Test.YtbjnkcfkhonkhaaRows
import Derived.WalkKit
import Derived.Test.YtbjnkcfkhonkhaaYFnExactActivityTable3
section
namespace Go.Proofs.Ytbjnkcfkhonkhaa.Flat
open Go.RowKit Go.Proofs.Ytbjnkcfkhonkhaa.Pr Go.Proofs.Ytbjnkcfkhonkhaa.Sets Go.Proofs.Ytbjnkcfkhonkhaa.Mat Go.Proofs.Ytbjnkcfkhonkhaa.Rank Go.Proofs.YtbjnkcfkhonkhaaW.PrintWords Go.Proofs.YtbjnkcfkhonkhaaW.PrintLast Go.Proofs.YtbjnkcfkhonkhaaW.PrintMore
set_option linter.unusedVariables false
theorem any_search {γ : Type} (l : List Int) (x : Int) (L : Nat → Int → Option γ) (yes no : γ) (hn : l.length ≤ 1048576)
  (hstep : ∀ k i, i < l.length → L (k + 1) (i : Int) = if l.getD i 0 = x then some yes else L k ((i + 1 : Nat) : Int))
  (hend : ∀ k, L (k + 1) (l.length : Int) = some no) : Ev (fun k => L k 0) (if l.contains x = true then yes else no) := by
 have key : ∀ d i : Nat, i + d = l.length → Ev (fun k => L k (i : Int)) (if (l.drop i).contains x = true then yes else no) := by
  intro d
  induction d with
  | zero =>
   intro i hi
   obtain rfl : i = l.length := by omega
   rw [List.drop_length]
   refine Gen.ev_at 1 (fun k hk => ?_)
   obtain ⟨q, rfl⟩ : ∃ q, k = q + 1 := ⟨k - 1, by omega⟩
   rw [hend]
   rfl
  | succ d ih =>
   intro i hi
   have hlt : i < l.length := by omega
   have hd : l.drop i = l.getD i 0 :: l.drop (i + 1) := by
    rw [List.drop_eq_getElem_cons hlt]
    simp [List.getD, hlt]
   rw [hd, List.contains_cons]
   by_cases e : l.getD i 0 = x
   ·refine Gen.ev_at 1 (fun k hk => ?_)
    obtain ⟨q, rfl⟩ : ∃ q, k = q + 1 := ⟨k - 1, by omega⟩
    rw [hstep q i hlt, if_pos e, e]
    simp
   ·have e' : (x == l.getD i 0) = false := by
     rw [beq_eq_false_iff_ne]
     exact fun h => e h.symm
    rw [e', Bool.false_or]
    exact Ev.step (fun k => by rw [hstep k i hlt, if_neg e]) (ih (i + 1) (by omega))
 have := key l.length 0 (by omega)
 rw [List.drop_zero] at this
 exact this
theorem specHasI (l : List Int) (x : Int) (hn : l.length ≤ 1048576) : Ev (fun k => spec_HasSet.f k l x) (l.contains x) := by
 unfold spec_HasSet.f
 have := any_search l x (fun k i => spec_HasSet.l0 k l x i) true false hn (fun k i hi => by
  simp only [spec_HasSet.l0]
  rw [if_pos (by omega), if_pos (by omega), Gen.rd_nat, Gen.w64s i (by omega)]) (fun k => by
  simp only [spec_HasSet.l0]
  rw [if_neg (by omega)])
 cases h : l.contains x <;> rw [h] at this <;> exact this
theorem implHasI (l : List Int) (x : Int) (hn : l.length ≤ 1048576) : Ev (fun k => impl_HasSet.f k l x) (l.contains x) := by
 unfold impl_HasSet.f slices_Contains_int_int.f slices_Index_int_int.f
 have key : ∀ d i : Nat, i + d = l.length → ∃ r, Ev (fun k => slices_Index_int_int.l0 k l x (l.length : Int) (i : Int)) r ∧ decide (r ≥ 0) = (l.drop i).contains x := by
  intro d
  induction d with
  | zero =>
   intro i hi
   obtain rfl : i = l.length := by omega
   refine ⟨-1, Gen.ev_at 1 (fun k hk => ?_), by rw [List.drop_length]; rfl⟩
   obtain ⟨q, rfl⟩ : ∃ q, k = q + 1 := ⟨k - 1, by omega⟩
   simp only [slices_Index_int_int.l0]
   rw [if_neg (by omega)]
  | succ d ih =>
   intro i hi
   have hlt : i < l.length := by omega
   have hd : l.drop i = l.getD i 0 :: l.drop (i + 1) := by
    rw [List.drop_eq_getElem_cons hlt]
    simp [List.getD, hlt]
   rw [hd, List.contains_cons]
   by_cases e : x = l.getD i 0
   ·refine ⟨(i : Int), Gen.ev_at 1 (fun k hk => ?_), ?_⟩
    ·obtain ⟨q, rfl⟩ : ∃ q, k = q + 1 := ⟨k - 1, by omega⟩
     simp only [slices_Index_int_int.l0]
     rw [if_pos (by omega), if_pos (by omega), if_pos (by omega), Gen.rd_nat, if_pos e]
    ·rw [beq_iff_eq.2 e, Bool.true_or, decide_eq_true (by omega)]
   ·obtain ⟨r, h1, h2⟩ := ih (i + 1) (by omega)
    refine ⟨r, Ev.step (fun k => ?_) h1, ?_⟩
    ·simp only [slices_Index_int_int.l0]
     rw [if_pos (by omega), if_pos (by omega), if_pos (by omega), Gen.rd_nat, if_neg e, Gen.w64s i (by omega)]
    ·rw [h2, beq_eq_false_iff_ne.2 e, Bool.false_or]
 obtain ⟨r, h1, h2⟩ := key l.length 0 (by omega)
 rw [List.drop_zero] at h2
 refine Ev.bind (a := decide (r ≥ 0)) (Ev.bind h1 (Ev.now _)) ?_
 rw [h2]
 exact Ev.now _
theorem mat_nat {n : Int} {l : List Int} (h : isMat n l = true) : ∃ (m : Nat) (lN : List Nat), n = m ∧ m ≤ 8 ∧ l = ints lN ∧ (∀ s ∈ lN, s < 2 ^ m) ∧ 0 < lN.length ∧ fails lN = false := by
 unfold isMat at h
 rw [Bool.and_eq_true, Bool.and_eq_true, decide_eq_true_eq] at h
 obtain ⟨⟨h1, h2⟩, h3⟩ := h
 obtain ⟨m, lN, rfl, hm, rfl, hl⟩ := fam_nat h1
 rw [toNat_ints] at h3
 rw [ints_length] at h2
 exact ⟨m, lN, rfl, hm, rfl, hl, h2, by simpa using h3⟩
theorem isSet_of {m : Nat} {x : Nat} (hm : m ≤ 8) (h : x < 2 ^ m) : isSet (m : Int) (x : Int) = true := by
 unfold isSet
 rw [decide_eq_true_eq, Int.toNat_natCast]
 refine ⟨by omega, by omega, by omega, ?_⟩
 exact_mod_cast h
theorem full_impl (m : Nat) (hm : m ≤ 8) : impl_FullSet.f (m : Int) = some ((2 ^ m - 1 : Nat) : Int) := by
 have : ∀ m : Nat, m < 9 → impl_FullSet.f (m : Int) = some ((2 ^ m - 1 : Nat) : Int) := by decide +kernel
 exact this m (by omega)
theorem full_spec (m : Nat) (hm : m ≤ 8) : spec_FullSet.f (m : Int) = some ((2 ^ m - 1 : Nat) : Int) := by
 have : ∀ m : Nat, m < 9 → spec_FullSet.f (m : Int) = some ((2 ^ m - 1 : Nat) : Int) := by decide +kernel
 exact this m (by omega)
theorem foldl_filter (p : Nat → Bool) (q : List Nat) : (q.foldl (fun (s : List Int) j => if p j = true then s ++ [(j : Int)] else s) []) = ints (q.filter p) := by
 rw [Gen.foldl_append, List.nil_append]
 rfl
end Go.Proofs.Ytbjnkcfkhonkhaa.Flat
end
section
namespace Go.Proofs.Ytbjnkcfkhonkhaa.Act
open Go.RowKit Go.Proofs.Ytbjnkcfkhonkhaa.Pr Go.Proofs.Ytbjnkcfkhonkhaa.Sets Go.Proofs.Ytbjnkcfkhonkhaa.Mat Go.Proofs.Ytbjnkcfkhonkhaa.Rank Go.Proofs.Ytbjnkcfkhonkhaa.Flat Go.Proofs.YtbjnkcfkhonkhaaW.PrintWords Go.Proofs.YtbjnkcfkhonkhaaW.PrintLast Go.Proofs.YtbjnkcfkhonkhaaW.PrintMore
set_option linter.unusedVariables false
theorem list_loop {σ γ : Type} (L : Nat → σ → Int → Option γ) (q : List Nat) (f : σ → Nat → σ) (P : Nat → σ → Prop) (r : γ) (s : σ)
  (hround : ∀ i s, i < q.length → P i s → P (i + 1) (f s (q.getD i 0)) ∧ (Ev (fun k => L k (f s (q.getD i 0)) ((i + 1 : Nat) : Int)) r → Ev (fun k => L k s (i : Int)) r))
  (hs : P 0 s) (hend : P q.length (q.foldl f s) → Ev (fun k => L k (q.foldl f s) (q.length : Int)) r) : Ev (fun k => L k s 0) r := by
 have := Gen.ev_loop L q.length (fun i s => f s (q.getD i 0)) P r (fun i s hi hp => hround i s hi hp) q.length 0 s (by omega) hs
 rw [foldl_index q f s] at this
 exact this hend
theorem elems_getD {s i : Nat} (h : i < (elems s).length) : (elems s).getD i 0 < 8 ∧ s.testBit ((elems s).getD i 0) = true := elems_lt (getD_mem _ 0 i h)
def circ (l : List Nat) (b e : Nat) : Nat := (elems b).foldl (fun c f => if l.contains (b - 2 ^ f + 2 ^ e) = true then c ||| 2 ^ f else c) (2 ^ e)
theorem implCirc (n : Int) (l : List Nat) (b e : Nat) (hb : b < 256) (he : e < 8) (hbe : b.testBit e = false) (hn : l.length ≤ 1048576) : Ev (fun k => impl_circuit.f k n (ints l) (b : Int) (e : Int)) (circ l b e : Int) ∧ circ l b e < 256 ∧ (circ l b e).testBit e = true := by
 have hp : 2 ^ e < 2 ^ 8 := pow_lt he
 have hinv : circ l b e < 256 ∧ (circ l b e).testBit e = true := by
  unfold circ
  have : ∀ (q : List Nat) (c : Nat), (∀ f ∈ q, f < 8) → c < 2 ^ 8 → c.testBit e = true → (q.foldl (fun c f => if l.contains (b - 2 ^ f + 2 ^ e) = true then c ||| 2 ^ f else c) c) < 2 ^ 8 ∧ (q.foldl (fun c f => if l.contains (b - 2 ^ f + 2 ^ e) = true then c ||| 2 ^ f else c) c).testBit e = true := by
   intro q
   induction q with
   | nil => exact fun c _ h1 h2 => ⟨h1, h2⟩
   | cons a q ih =>
    intro c hq h1 h2
    rw [List.foldl_cons]
    have ha := hq a (by simp)
    refine ih _ (fun f hf => hq f (by simp [hf])) ?_ ?_
    ·split
     ·exact or_lt h1 (pow_lt ha)
     ·exact h1
    ·split
     ·rw [Nat.testBit_or, h2]; rfl
     ·exact h2
  exact this (elems b) (2 ^ e) (fun f hf => (elems_lt hf).1) hp (by rw [Nat.testBit_two_pow]; simp)
 refine ⟨?_, hinv⟩
 unfold impl_circuit.f
 simp only [if_pos (show (0 : Int) ≤ (e : Int) by omega)]
 refine Ev.bind (implElements b hb) ?_
 rw [shl_nat e (by omega)]
 refine list_loop (fun k (c : Nat) i => impl_circuit.l0 k (b : Int) (e : Int) (c : Int) (ints (elems b)) ((ints (elems b)).length : Int) i n (ints l)) (elems b) (fun c f => if l.contains (b - 2 ^ f + 2 ^ e) = true then c ||| 2 ^ f else c) (fun _ c => c < 256) (circ l b e : Int) (2 ^ e) (fun i c hi hc => ?_) hp (fun _ => Gen.ev_at 1 (fun k hk => ?_))
 ·obtain ⟨h8, hbit⟩ := elems_getD hi
  have hrd := ints_rd (elems b) i
  generalize hf : (elems b).getD i 0 = f at *
  have hpf : 2 ^ f < 2 ^ 8 := pow_lt h8
  refine ⟨?_, fun h => ?_⟩
  ·show (if _ then _ else _) < _
   split
   ·exact or_lt (n := 8) hc hpf
   ·exact hc
  ·refine Ev.step (f := fun k => (impl_HasSet.f k (ints l) ((b - 2 ^ f + 2 ^ e : Nat) : Int)).bind fun t => (if t = true then (impl_circuit.l0 k (b : Int) (e : Int) ((c ||| 2 ^ f : Nat) : Int) (ints (elems b)) ((ints (elems b)).length : Int) ((i + 1 : Nat) : Int) n (ints l)) else (impl_circuit.l0 k (b : Int) (e : Int) (c : Int) (ints (elems b)) ((ints (elems b)).length : Int) ((i + 1 : Nat) : Int) n (ints l)))) (fun k => ?_) ?_
   ·simp only [impl_circuit.l0]
    rw [if_pos (by rw [ints_length]; omega), if_pos (by omega), if_pos (by rw [ints_length]; omega), hrd, if_pos (by omega), if_pos (by omega), shl_nat f (by omega), shl_nat e (by omega), andNot_nat b _ (by omega), or_nat _ _ (by have := diff_lt (b := 2 ^ f) (n := 8) hb; omega) (by omega), swap_eq b hb f h8 e he hbit hbe, or_nat c _ (by omega) (by omega), Gen.w64s i (by have := elems_length b; omega)]
   ·refine Ev.bind (Gen.ev_at (l.length + 1) (fun k hk => implHas l _ hn k (by omega))) ?_
    by_cases hx : l.contains (b - 2 ^ f + 2 ^ e) = true
    ·rw [if_pos hx] at h
     simp only [hx, if_true]
     exact h
    ·rw [if_neg hx] at h
     simp only [if_neg hx]
     exact h
 ·obtain ⟨q, rfl⟩ : ∃ q, k = q + 1 := ⟨k - 1, by omega⟩
  simp only [impl_circuit.l0]
  rw [if_neg (by rw [ints_length]; omega)]
  rfl
theorem foldl_cond {σ : Type} (p : Nat → Bool) (f : σ → Nat → σ) (q : List Nat) (s : σ) : (q.filter p).foldl f s = q.foldl (fun s j => if p j = true then f s j else s) s := by
 rw [List.foldl_filter]
theorem foldl_congr {σ : Type} (f g : σ → Nat → σ) (q : List Nat) (s : σ) (h : ∀ e ∈ q, ∀ s, f s e = g s e) : q.foldl f s = q.foldl g s := by
 induction q generalizing s with
 | nil => rfl
 | cons a q ih =>
  rw [List.foldl_cons, List.foldl_cons, h a (by simp)]
  exact ih _ fun e he => h e (by simp [he])
theorem add_or : ∀ c, c < 256 → ∀ f, f < 8 → c.testBit f = false → c + 2 ^ f = c ||| 2 ^ f := by decide +kernel
theorem specCirc (m : Nat) (hm : m ≤ 8) (l : List Nat) (b e : Nat) (hb : b < 2 ^ m) (he : e < m) (hbe : b.testBit e = false) (hn : l.length ≤ 1048576) (hM : isMat (m : Int) (ints l) = true) (hmem : l.contains b = true) : Ev (fun k => spec_CircuitOf.f k (m : Int) (ints l) (b : Int) (e : Int)) (circ l b e : Int) := by
 have h256 := pow_le_256 hm
 have hp : 2 ^ e < 2 ^ 8 := pow_lt (by omega)
 have hMe := specMat (m : Int) (ints l) (by rw [ints_length]; exact hn)
 rw [hM] at hMe
 unfold spec_CircuitOf.f
 refine Ev.bind hMe ?_
 simp only [if_true]
 refine Ev.bind (specHasI (ints l) (b : Int) (by rw [ints_length]; exact hn)) ?_
 rw [ints_contains, hmem]
 have hin : spec_l1In.f (e : Int) 0 (wrap64 ((m : Int) - 1)) = some true := by
  unfold spec_l1In.f
  rw [Gen.w64 (by omega) (by omega), if_pos (by omega), decide_eq_true (by omega)]
 simp only [if_true, hin, Option.bind_some, l2Has b e (by omega) (by omega), hbe]
 refine Ev.step (f := fun k => spec_CircuitOf.l0 k (b : Int) (e : Int) ((2 ^ e : Nat) : Int) 0 (m : Int) (ints l)) (fun k => ?_) ?_ |> fun h => h
 ·simp only [spec_CircuitOf.j0]
  rw [if_neg (by decide), u64_nat e (by omega), if_pos (by omega), shl_nat e (by omega)]
 ·have efold : circ l b e = (List.range' 0 m).foldl (fun c f => if b.testBit f = true then (if l.contains (b - 2 ^ f + 2 ^ e) = true then c ||| 2 ^ f else c) else c) (2 ^ e) := by
   unfold circ elems
   rw [foldl_cond, show (8 : Nat) = m + (8 - m) by omega, Gen.foldl_more _ m (8 - m) _ (fun j hj s => by rw [bit_far hb hj]; simp)]
  refine Gen.ev_loop (fun k (c : Nat) i => spec_CircuitOf.l0 k (b : Int) (e : Int) (c : Int) i (m : Int) (ints l)) m (fun f c => if b.testBit f = true then (if l.contains (b - 2 ^ f + 2 ^ e) = true then c ||| 2 ^ f else c) else c) (fun i c => c < 256 ∧ ∀ j, i ≤ j → j ≠ e → c.testBit j = false) (circ l b e : Int) (fun f c hf hc => ⟨?_, fun h => ?_⟩) m 0 (2 ^ e) (by omega) ⟨hp, fun j _ hj => by rw [Nat.testBit_two_pow]; exact decide_eq_false (fun h => hj h.symm)⟩ (fun _ => Gen.ev_at 1 (fun k hk => ?_))
  ·have hpf : 2 ^ f < 2 ^ 8 := pow_lt (by omega)
   have hstay : c < 256 ∧ ∀ j, f + 1 ≤ j → j ≠ e → c.testBit j = false := ⟨hc.1, fun j hj => hc.2 j (by omega)⟩
   split
   ·split
    ·refine ⟨or_lt (n := 8) hc.1 hpf, fun j hj hje => ?_⟩
     rw [Nat.testBit_or, hc.2 j (by omega) hje, Nat.testBit_two_pow, decide_eq_false (by omega)]
     rfl
    ·exact hstay
   ·exact hstay
  ·have hpf : 2 ^ f < 2 ^ 8 := pow_lt (by omega)
   cases hbf : b.testBit f with
   | false =>
    rw [hbf] at h
    simp only [Bool.false_eq_true, if_false] at h
    refine Ev.step (fun k => ?_) h
    simp only [spec_CircuitOf.l0]
    rw [if_pos (by omega), l2Has b f (by omega) (by omega), hbf, Gen.w64s f (by omega)]
    rfl
   | true =>
    rw [hbf] at h
    simp only [if_true] at h
    have hfe : f ≠ e := fun h => by rw [h, hbe] at hbf; exact Bool.noConfusion hbf
    have hle := bit_le b (by omega) f (by omega) hbf
    have hw : wrap64 ((wrap64 ((b : Int) - ((2 ^ f : Nat) : Int))) + ((2 ^ e : Nat) : Int)) = ((b - 2 ^ f + 2 ^ e : Nat) : Int) := by
     clear hbf h
     generalize (2 : Nat) ^ f = P at *
     generalize (2 : Nat) ^ e = Q at *
     rw [Gen.w64 (i := (b : Int) - (P : Int)) (by omega) (by omega), Gen.w64 (by omega) (by omega)]
     omega
    have hadd : wrap64 ((c : Int) + ((2 ^ f : Nat) : Int)) = ((c ||| 2 ^ f : Nat) : Int) := by
     rw [← add_or c hc.1 f (by omega) (hc.2 f (by omega) hfe)]
     have hc1 := hc.1
     generalize (2 : Nat) ^ f = P at hpf ⊢
     rw [Gen.w64 (by omega) (by omega)]
     omega
    refine Ev.step (f := fun k => (spec_HasSet.f k (ints l) ((b - 2 ^ f + 2 ^ e : Nat) : Int)).bind fun t => (if t = true then (spec_CircuitOf.l0 k (b : Int) (e : Int) ((c ||| 2 ^ f : Nat) : Int) ((f + 1 : Nat) : Int) (m : Int) (ints l)) else (spec_CircuitOf.l0 k (b : Int) (e : Int) (c : Int) ((f + 1 : Nat) : Int) (m : Int) (ints l)))) (fun k => ?_) ?_
    ·simp only [spec_CircuitOf.l0]
     rw [if_pos (by omega), l2Has b f (by omega) (by omega), hbf]
     simp only [Option.bind_some, if_true]
     rw [u64_nat f (by omega), u64_nat e (by omega), if_pos (by omega), if_pos (by omega), shl_nat f (by omega), shl_nat e (by omega), hw, hadd, Gen.w64s f (by omega)]
    ·refine Ev.bind (Gen.ev_at (l.length + 1) (fun k hk => specHas l _ hn k (by omega))) ?_
     by_cases hx : l.contains (b - 2 ^ f + 2 ^ e) = true
     ·rw [if_pos hx] at h
      simp only [hx, if_true]
      exact h
     ·rw [if_neg hx] at h
      simp only [if_neg hx]
      exact h
  ·obtain ⟨q, rfl⟩ : ∃ q, k = q + 1 := ⟨k - 1, by omega⟩
   simp only [spec_CircuitOf.l0]
   rw [if_neg (by omega), efold]
theorem specCircNone (n : Int) (l : List Int) (a e : Int) (hn : l.length ≤ 1048576) (h : (isMat n l && l.contains a) = false) : Ev (fun k => spec_CircuitOf.f k n l a e) 0 := by
 have hend : ∀ n l, Ev (fun k => spec_CircuitOf.j0 k a e true n l) 0 := fun n l => Gen.ev_at 1 (fun k hk => by
  obtain ⟨q, rfl⟩ : ∃ q, k = q + 1 := ⟨k - 1, by omega⟩
  simp only [spec_CircuitOf.j0]
  rw [if_pos trivial])
 unfold spec_CircuitOf.f
 refine Ev.bind (specMat n l hn) ?_
 cases hM : isMat n l with
 | false => simp only [Bool.false_eq_true, if_false]; exact hend _ _
 | true =>
  rw [hM, Bool.true_and] at h
  simp only [if_true]
  refine Ev.bind (specHasI l a hn) ?_
  rw [h]
  simp only [Bool.false_eq_true, if_false]
  exact hend _ _
theorem specCircIn (m : Nat) (hm : m ≤ 8) (l : List Nat) (b e : Nat) (hb : b < 2 ^ m) (he : e < m) (hbe : b.testBit e = true) (hn : l.length ≤ 1048576) (hM : isMat (m : Int) (ints l) = true) (hmem : l.contains b = true) : Ev (fun k => spec_CircuitOf.f k (m : Int) (ints l) (b : Int) (e : Int)) 0 := by
 have h256 := pow_le_256 hm
 have hMe := specMat (m : Int) (ints l) (by rw [ints_length]; exact hn)
 rw [hM] at hMe
 unfold spec_CircuitOf.f
 refine Ev.bind hMe ?_
 simp only [if_true]
 refine Ev.bind (specHasI (ints l) (b : Int) (by rw [ints_length]; exact hn)) ?_
 rw [ints_contains, hmem]
 have hin : spec_l1In.f (e : Int) 0 (wrap64 ((m : Int) - 1)) = some true := by
  unfold spec_l1In.f
  rw [Gen.w64 (by omega) (by omega), if_pos (by omega), decide_eq_true (by omega)]
 simp only [if_true, hin, Option.bind_some, l2Has b e (by omega) (by omega), hbe]
 exact Gen.ev_at 1 (fun k hk => by
  obtain ⟨q, rfl⟩ : ∃ q, k = q + 1 := ⟨k - 1, by omega⟩
  simp only [spec_CircuitOf.j0]
  rw [if_pos trivial])
def least (c : Nat) : Nat := (elems c).headD 0
theorem specLeast : ∀ c : Nat, c < 256 → c ≠ 0 → spec_l24Least.f (c : Int) = some ((2 ^ least c : Nat) : Int) := by decide +kernel
theorem elems_pos : ∀ c : Nat, c < 256 → c ≠ 0 → 0 < (elems c).length := by decide +kernel
theorem implLeast (c : Nat) (h : c < 256) (h0 : c ≠ 0) : Ev (fun k => impl_leastElement.f k (c : Int)) (least c : Int) := by
 unfold impl_leastElement.f
 refine Ev.bind (implElements c h) ?_
 have := elems_pos c h h0
 simp only [if_pos (show (0 : Int) < ((ints (elems c)).length : Int) by rw [ints_length]; omega)]
 have e : rd (ints (elems c)) 0 = ((least c : Nat) : Int) := by
  have := ints_rd (elems c) 0
  rw [show ((0 : Nat) : Int) = (0 : Int) from rfl] at this
  rw [this]
  unfold least
  cases elems c <;> rfl
 rw [e]
 exact Ev.now _
def actv (m : Nat) (l : List Nat) (b : Nat) : Nat := (List.range' 0 m).foldl (fun o e => if b.testBit e = true then o else if least (circ l b e) = e then o ||| 2 ^ e else o) 0
def actvI (n : Int) (l : List Int) (a : Int) : Int := if (isMat n l && l.contains a) = true then (actv n.toNat (l.map Int.toNat) a.toNat : Int) else 0
theorem base_nat {n : Int} {l : List Int} {a : Int} (h : (isMat n l && l.contains a) = true) : ∃ (m : Nat) (lN : List Nat) (b : Nat), n = m ∧ m ≤ 8 ∧ l = ints lN ∧ (∀ s ∈ lN, s < 2 ^ m) ∧ a = b ∧ b < 2 ^ m ∧ lN.contains b = true := by
 rw [Bool.and_eq_true] at h
 obtain ⟨h1, h2⟩ := h
 obtain ⟨m, lN, rfl, hm, rfl, hl, _, _⟩ := mat_nat h1
 have h3 := h2
 simp only [ints, List.contains_eq_mem, List.mem_map, decide_eq_true_eq] at h3
 obtain ⟨b, hb, rfl⟩ := h3
 exact ⟨m, lN, b, rfl, hm, rfl, hl, rfl, hl b hb, by simpa using hb⟩
theorem specActv (n : Int) (l : List Int) (a : Int) (hn : l.length ≤ 1048576) : Ev (fun k => spec_ExternalActivity.f k n l a) (actvI n l a) := by
 unfold spec_ExternalActivity.f
 cases h : (isMat n l && l.contains a) with
 | false =>
  unfold actvI
  rw [h]
  simp only [Bool.false_eq_true, if_false]
  have hend : ∀ x5 x6, Ev (fun k => spec_ExternalActivity.j1 k a x5 x6 false n l) x5 := fun x5 x6 => Gen.ev_at 1 (fun k hk => by
   obtain ⟨q, rfl⟩ : ∃ q, k = q + 1 := ⟨k - 1, by omega⟩
   simp only [spec_ExternalActivity.j1]
   rw [if_neg (by decide)])
  by_cases hin : 0 ≤ n ∧ n ≤ 8
  ·have hIn : spec_l1In.f n 0 8 = some true := by
    unfold spec_l1In.f
    rw [if_pos (by omega), decide_eq_true (by omega)]
   have loop : ∀ d : Nat, ∀ x6 : Int, 0 ≤ x6 → x6 + d = n → Ev (fun k => spec_ExternalActivity.l0 k a 0 x6 n l) 0 := by
    intro d
    induction d with
    | zero =>
     intro x6 h0 h1
     refine Ev.step (fun k => ?_) (hend 0 x6)
     simp only [spec_ExternalActivity.l0]
     rw [if_neg (by omega)]
    | succ d ih =>
     intro x6 h0 h1
     refine Ev.step (f := fun k => spec_ExternalActivity.j1 k a 0 x6 true n l) (fun k => ?_) ?_
     ·simp only [spec_ExternalActivity.l0]
      rw [if_pos (by omega), hIn]
      rfl
     ·refine Ev.step (f := fun k => (spec_CircuitOf.f k n l a x6).bind fun t139 => (if t139 = 0 then (spec_ExternalActivity.l0 k a 0 (wrap64 (x6 + 1)) n l) else ((spec_l24Least.f t139).bind fun t140 => (if 0 ≤ (IntKind.u64.wrap (x6)) then (if t140 = (shl .i64 1 (IntKind.u64.wrap (x6))) then (spec_ExternalActivity.l0 k a (Go.bits .or .i64 0 (shl .i64 1 (IntKind.u64.wrap (x6)))) (wrap64 (x6 + 1)) n l) else (spec_ExternalActivity.l0 k a 0 (wrap64 (x6 + 1)) n l)) else (none))))) (fun k => ?_) ?_
      ·simp only [spec_ExternalActivity.j1]
       rw [if_pos trivial]
      ·refine Ev.bind (specCircNone n l a x6 hn h) ?_
       simp only [if_true]
       rw [Gen.w64 (by omega) (by omega)]
       exact ih (x6 + 1) (by omega) (by omega)
   exact loop n.toNat 0 (by omega) (by omega)
  ·have hIn : spec_l1In.f n 0 8 = some false := by
    unfold spec_l1In.f
    by_cases h0 : n ≥ 0
    ·rw [if_pos h0, decide_eq_false (by omega)]
    ·rw [if_neg h0]
   refine Ev.step (f := fun k => spec_ExternalActivity.j1 k a 0 0 false n l) (fun k => ?_) (hend 0 0)
   simp only [spec_ExternalActivity.l0]
   rw [hIn]
   simp only [Option.bind_some]
   by_cases h0 : (0 : Int) < n
   ·rw [if_pos h0]
   ·rw [if_neg h0]
 | true =>
  have hM : isMat n l = true := by rw [Bool.and_eq_true] at h; exact h.1
  unfold actvI
  rw [if_pos h]
  obtain ⟨m, lN, b, rfl, hm, rfl, hl, rfl, hb, hmem⟩ := base_nat h
  have h256 := pow_le_256 hm
  rw [ints_length] at hn
  simp only [toNat_ints, Int.toNat_natCast]
  have hIn : spec_l1In.f (m : Int) 0 8 = some true := by
   unfold spec_l1In.f
   rw [if_pos (by omega), decide_eq_true (by omega)]
  refine Gen.ev_loop (fun k (o : Nat) i => spec_ExternalActivity.l0 k (b : Int) (o : Int) i (m : Int) (ints lN)) m (fun e o => if b.testBit e = true then o else if least (circ lN b e) = e then o ||| 2 ^ e else o) (fun _ o => o < 2 ^ m) (actv m lN b : Int) (fun e o he ho => ⟨?_, fun h => ?_⟩) m 0 0 (by omega) (by exact Nat.pow_pos (by decide)) (fun _ => ?_)
  ·show (if _ then _ else if _ then _ else _) < _
   split
   ·exact ho
   ·split
    ·exact or_lt ho (pow_lt he)
    ·exact ho
  ·have hp := pow_lt he
   refine Ev.step (f := fun k => spec_ExternalActivity.j1 k (b : Int) (o : Int) (e : Int) true (m : Int) (ints lN)) (fun k => ?_) ?_
   ·simp only [spec_ExternalActivity.l0]
    rw [if_pos (by omega), hIn]
    rfl
   ·refine Ev.step (f := fun k => (spec_CircuitOf.f k (m : Int) (ints lN) (b : Int) (e : Int)).bind fun t139 => (if t139 = 0 then (spec_ExternalActivity.l0 k (b : Int) (o : Int) ((e + 1 : Nat) : Int) (m : Int) (ints lN)) else ((spec_l24Least.f t139).bind fun t140 => (if t140 = ((2 ^ e : Nat) : Int) then (spec_ExternalActivity.l0 k (b : Int) ((o ||| 2 ^ e : Nat) : Int) ((e + 1 : Nat) : Int) (m : Int) (ints lN)) else (spec_ExternalActivity.l0 k (b : Int) (o : Int) ((e + 1 : Nat) : Int) (m : Int) (ints lN)))))) (fun k => ?_) ?_
    ·simp only [spec_ExternalActivity.j1]
     rw [if_pos trivial, u64_nat e (by omega), shl_nat e (by omega), or_nat o _ (by omega) (by omega), Gen.w64s e (by omega)]
     simp only [if_pos (show (0 : Int) ≤ (e : Int) by omega)]
    ·cases hbe : b.testBit e with
     | true =>
      rw [hbe] at h
      simp only [if_true] at h
      refine Ev.bind (specCircIn m hm lN b e hb he hbe hn hM hmem) ?_
      simp only [if_true]
      exact h
     | false =>
      rw [hbe] at h
      simp only [Bool.false_eq_true, if_false] at h
      obtain ⟨_, hc1, hc2⟩ := implCirc (m : Int) lN b e (by omega) (by omega) hbe hn
      have hc0 : circ lN b e ≠ 0 := fun hz => by rw [hz, Nat.zero_testBit] at hc2; exact Bool.noConfusion hc2
      refine Ev.bind (specCirc m hm lN b e hb he hbe hn hM hmem) ?_
      simp only [if_neg (show ¬ ((circ lN b e : Nat) : Int) = 0 by omega), specLeast _ hc1 hc0, Option.bind_some]
      by_cases hx : least (circ lN b e) = e
      ·rw [if_pos hx] at h
       rw [hx]
       simp only [if_true]
       exact h
      ·rw [if_neg hx] at h
       have hne : ¬ ((2 ^ least (circ lN b e) : Nat) : Int) = ((2 ^ e : Nat) : Int) := fun hh => hx ((Nat.pow_right_inj (by decide)).1 (by exact_mod_cast hh : (2 : Nat) ^ least (circ lN b e) = 2 ^ e))
       simp only [if_neg hne]
       exact h
  ·refine Ev.step (f := fun k => spec_ExternalActivity.j1 k (b : Int) ((actv m lN b : Nat) : Int) (m : Int) false (m : Int) (ints lN)) (fun k => ?_) (Gen.ev_at 1 (fun k hk => ?_))
   ·simp only [spec_ExternalActivity.l0]
    rw [if_neg (by omega)]
    rfl
   ·obtain ⟨q, rfl⟩ : ∃ q, k = q + 1 := ⟨k - 1, by omega⟩
    simp only [spec_ExternalActivity.j1]
    rw [if_neg (by decide)]
theorem implActv (n : Int) (l : List Int) (a : Int) (hn : l.length ≤ 1048576) : Ev (fun k => impl_ExternalActivity.f k n l a) (actvI n l a) := by
 unfold impl_ExternalActivity.f
 refine Ev.bind (implMat n l hn) ?_
 have hend : Ev (fun k => impl_ExternalActivity.j0 k a true n l) 0 := Gen.ev_at 1 (fun k hk => by
  obtain ⟨q, rfl⟩ : ∃ q, k = q + 1 := ⟨k - 1, by omega⟩
  simp only [impl_ExternalActivity.j0]
  rw [if_pos trivial])
 cases hM : isMat n l with
 | false =>
  unfold actvI
  simp only [hM, Bool.false_and, Bool.false_eq_true, if_false]
  exact hend
 | true =>
  simp only [if_true]
  refine Ev.bind (implHasI l a hn) ?_
  cases hmem0 : l.contains a with
  | false =>
   unfold actvI
   simp only [hM, hmem0, Bool.and_false, Bool.false_eq_true, if_false, Bool.not_false]
   exact hend
  | true =>
   have h : (isMat n l && l.contains a) = true := by rw [hM, hmem0]; rfl
   unfold actvI
   rw [if_pos h]
   obtain ⟨m, lN, b, rfl, hm, rfl, hl, rfl, hb, hmem⟩ := base_nat h
   have h256 := pow_le_256 hm
   rw [ints_length] at hn
   simp only [toNat_ints, Int.toNat_natCast, Bool.not_true]
   have hfull : 2 ^ m - 1 < 2 ^ m := by have : 0 < 2 ^ m := Nat.pow_pos (by decide); omega
   have hd := diff_lt (b := b) hfull
   refine Ev.step (f := fun k => (impl_ElementsOf.f k ((diff (2 ^ m - 1) b : Nat) : Int)).bind fun t190 => (impl_ExternalActivity.l0 k (b : Int) 0 t190 (t190.length : Int) 0 (m : Int) (ints lN))) (fun k => ?_) ?_
   ·simp only [impl_ExternalActivity.j0]
    rw [if_neg (by decide), full_impl m hm]
    simp only [Option.bind_some]
    rw [andNot_nat _ b (by omega)]
   ·refine Ev.bind (implElements _ (by omega)) ?_
    have efold : actv m lN b = (elems (diff (2 ^ m - 1) b)).foldl (fun o e => if least (circ lN b e) = e then o ||| 2 ^ e else o) 0 := by
     unfold elems
     rw [foldl_cond, show (8 : Nat) = m + (8 - m) by omega, Gen.foldl_more _ m (8 - m) _ (fun j hj s => by rw [bit_far hd hj]; simp)]
     unfold actv
     refine foldl_congr _ _ _ _ fun e he o => ?_
     have := List.mem_range'_1.1 he
     rw [diff_bit, Nat.testBit_two_pow_sub_one, decide_eq_true (by omega), Bool.true_and]
     cases b.testBit e <;> rfl
    rw [efold]
    refine list_loop (fun k (o : Nat) i => impl_ExternalActivity.l0 k (b : Int) (o : Int) (ints (elems (diff (2 ^ m - 1) b))) ((ints (elems (diff (2 ^ m - 1) b))).length : Int) i (m : Int) (ints lN)) (elems (diff (2 ^ m - 1) b)) (fun o e => if least (circ lN b e) = e then o ||| 2 ^ e else o) (fun _ o => o < 256) _ 0 (fun i o hi ho => ?_) (by decide) (fun _ => Gen.ev_at 1 (fun k hk => ?_))
    ·obtain ⟨h8, hbit⟩ := elems_getD hi
     have hrd := ints_rd (elems (diff (2 ^ m - 1) b)) i
     have hlen := elems_length (diff (2 ^ m - 1) b)
     generalize hf : (elems (diff (2 ^ m - 1) b)).getD i 0 = e at *
     have hp : 2 ^ e < 2 ^ 8 := pow_lt h8
     have hbe : b.testBit e = false := by
      rw [diff_bit, Bool.and_eq_true] at hbit
      simpa using hbit.2
     refine ⟨?_, fun h => ?_⟩
     ·show (if _ then _ else _) < _
      split
      ·exact or_lt (n := 8) ho hp
      ·exact ho
     ·obtain ⟨hc, hc1, hc2⟩ := implCirc (m : Int) lN b e (by omega) h8 hbe hn
      have hc0 : circ lN b e ≠ 0 := fun hz => by rw [hz, Nat.zero_testBit] at hc2; exact Bool.noConfusion hc2
      refine Ev.step (f := fun k => (impl_circuit.f k (m : Int) (ints lN) (b : Int) (e : Int)).bind fun t194 => ((impl_leastElement.f k t194).bind fun t195 => (if t195 = (e : Int) then (impl_ExternalActivity.l0 k (b : Int) ((o ||| 2 ^ e : Nat) : Int) (ints (elems (diff (2 ^ m - 1) b))) ((ints (elems (diff (2 ^ m - 1) b))).length : Int) ((i + 1 : Nat) : Int) (m : Int) (ints lN)) else (impl_ExternalActivity.l0 k (b : Int) (o : Int) (ints (elems (diff (2 ^ m - 1) b))) ((ints (elems (diff (2 ^ m - 1) b))).length : Int) ((i + 1 : Nat) : Int) (m : Int) (ints lN))))) (fun k => ?_) ?_
      ·simp only [impl_ExternalActivity.l0]
       rw [if_pos (by rw [ints_length]; omega), if_pos (by omega), if_pos (by rw [ints_length]; omega), hrd, shl_nat e (by omega), or_nat o _ (by omega) (by omega), Gen.w64s i (by omega)]
       simp only [if_pos (show (0 : Int) ≤ (e : Int) by omega)]
      ·refine Ev.bind hc (Ev.bind (implLeast _ hc1 hc0) ?_)
       by_cases hx : least (circ lN b e) = e
       ·rw [if_pos hx] at h
        rw [hx]
        simp only [if_true]
        exact h
       ·rw [if_neg hx] at h
        simp only [if_neg (show ¬ ((least (circ lN b e) : Nat) : Int) = (e : Int) by omega)]
        exact h
    ·obtain ⟨q, rfl⟩ : ∃ q, k = q + 1 := ⟨k - 1, by omega⟩
     simp only [impl_ExternalActivity.l0]
     rw [if_neg (by rw [ints_length]; omega)]
end Go.Proofs.Ytbjnkcfkhonkhaa.Act
end
section
namespace Go.Proofs.Ytbjnkcfkhonkhaa.Dual
open Go.RowKit Go.Proofs.Ytbjnkcfkhonkhaa.Pr Go.Proofs.Ytbjnkcfkhonkhaa.Sets Go.Proofs.Ytbjnkcfkhonkhaa.Mat Go.Proofs.Ytbjnkcfkhonkhaa.Rank Go.Proofs.Ytbjnkcfkhonkhaa.Flat Go.Proofs.Ytbjnkcfkhonkhaa.Act Go.Proofs.Ytbjnkcfkhonkhaa.Sort Go.Proofs.YtbjnkcfkhonkhaaW.PrintWords Go.Proofs.YtbjnkcfkhonkhaaW.PrintLast Go.Proofs.YtbjnkcfkhonkhaaW.PrintMore
set_option linter.unusedVariables false
set_option maxRecDepth 100000 in
theorem full_diffB : ∀ m, m < 9 → ∀ b, b < 256 → b < 2 ^ m → 2 ^ m - 1 - b = diff (2 ^ m - 1) b := by decide +kernel
theorem full_diff {m b : Nat} (hm : m ≤ 8) (hb : b < 2 ^ m) : 2 ^ m - 1 - b = diff (2 ^ m - 1) b := full_diffB m (by omega) b (Nat.lt_of_lt_of_le hb (pow_le_256 hm)) hb
def comp (m : Nat) (l : List Nat) : List Int := sset (ints (l.map fun b => diff (2 ^ m - 1) b))
theorem comp_length (m : Nat) (l : List Nat) : (comp m l).length ≤ l.length := by
 have := sset_length (ints (l.map fun b => diff (2 ^ m - 1) b))
 rw [ints_length, List.length_map] at this
 exact this
theorem foldl_map_append (l : List Nat) (g : Nat → Nat) : ints (l.map g) = (List.range' 0 l.length).foldl (fun (s : List Int) i => s ++ [((g (l.getD i 0) : Nat) : Int)]) [] := by
 have : ∀ (q : List Nat) (f : Nat → Int) (o : List Int), q.foldl (fun (s : List Int) i => s ++ [f i]) o = o ++ q.map f := by
  intro q f
  induction q with
  | nil => intro o; simp
  | cons a q ih => intro o; rw [List.foldl_cons, ih]; simp
 rw [this, List.nil_append]
 unfold ints
 rw [List.map_map, ← List.range_eq_range']
 exact (Gen.map_getD l 0 (fun x => ((g x : Nat) : Int))).symm
theorem implAre (m : Nat) (hm : m ≤ 8) (l : List Nat) (hl : ∀ s ∈ l, s < 2 ^ m) (hn : l.length ≤ 1048576) (k : Nat) (hk : l.length < k) : impl_areSetsOf.f k (m : Int) (ints l) = some true := by
 unfold impl_areSetsOf.f
 have := Gen.all_loop (fun k i => impl_areSetsOf.l0 k (m : Int) (ints l) ((ints l).length : Int) i) l.length (fun _ => true) 0 true (fun k i _ hi => by
  simp only [impl_areSetsOf.l0]
  rw [if_pos (by rw [ints_length]; omega), if_pos (by omega), if_pos (by rw [ints_length]; omega), ints_rd, implIsSet, isSet_of hm (hl _ (getD_mem l 0 i hi)), Gen.w64s i (by omega)]
  rfl) (fun k _ => by
  simp only [impl_areSetsOf.l0]
  rw [if_neg (by rw [ints_length]; omega)]
  unfold impl_isSize.f
  rw [if_pos (by omega), decide_eq_true (by omega)]
  rfl) l.length 0 k (by omega) (by omega)
 simpa [Gen.all_yes] using this
theorem specAre (m : Nat) (hm : m ≤ 8) (l : List Nat) (hl : ∀ s ∈ l, s < 2 ^ m) (hn : l.length ≤ 1048576) (k : Nat) (hk : l.length < k) : spec_l3Sets.f k (m : Int) (ints l) = some true := by
 unfold spec_l3Sets.f
 have := Gen.all_loop (fun k i => spec_l3Sets.l0 k (m : Int) (ints l) i) l.length (fun _ => true) 0 true (fun k i _ hi => by
  simp only [spec_l3Sets.l0]
  rw [if_pos (by rw [ints_length]; omega), if_pos (by omega), ints_rd, specIsSet, isSet_of hm (hl _ (getD_mem l 0 i hi)), Gen.w64s i (by omega)]
  rfl) (fun k _ => by
  simp only [spec_l3Sets.l0]
  rw [if_neg (by rw [ints_length]; omega)]) l.length 0 k (by omega) (by omega)
 simpa [Gen.all_yes] using this
theorem implComp (m : Nat) (hm : m ≤ 8) (l : List Nat) (hl : ∀ s ∈ l, s < 2 ^ m) (hn : l.length ≤ 1048576) : Ev (fun k => impl_ComplementSets.f k (m : Int) (ints l)) (comp m l) := by
 have h256 := pow_le_256 hm
 unfold impl_ComplementSets.f
 refine Ev.bind (Gen.ev_at (l.length + 1) (fun k hk => implAre m hm l hl hn k (by omega))) ?_
 simp only [if_true]
 refine Gen.ev_loop (fun k (s : List Int) i => impl_ComplementSets.l0 k (m : Int) s (ints l) ((ints l).length : Int) i) l.length (fun i s => s ++ [((diff (2 ^ m - 1) (l.getD i 0) : Nat) : Int)]) (fun i s => s.length ≤ i) (comp m l) (fun i s hi hP => ⟨?_, fun h => Ev.step (fun k => ?_) h⟩) l.length 0 [] (by omega) (by simp) (fun _ => ?_)
 ·simp; omega
 ·simp only [impl_ComplementSets.l0]
  rw [if_pos (by rw [ints_length]; omega), if_pos (by omega), if_pos (by rw [ints_length]; omega), full_impl m hm, ints_rd, Gen.w64s i (by omega)]
  simp only [Option.bind_some]
  rw [if_pos (by omega), andNot_nat (2 ^ m - 1) _ (by omega)]
 ·refine Ev.step (f := fun k => some (comp m l)) (fun k => ?_) (Ev.now _)
  simp only [impl_ComplementSets.l0]
  rw [if_neg (by rw [ints_length]; omega), ← foldl_map_append l (fun b => diff (2 ^ m - 1) b), implSort _ (by rw [ints_length, List.length_map]; exact hn)]
  rfl
theorem specComp (m : Nat) (hm : m ≤ 8) (l : List Nat) (hl : ∀ s ∈ l, s < 2 ^ m) (hn : l.length ≤ 1048576) : Ev (fun k => spec_ComplementSets.f k (m : Int) (ints l)) (comp m l) := by
 have h256 := pow_le_256 hm
 have i1 : spec_l1In.f (m : Int) 0 8 = some true := by
  unfold spec_l1In.f
  rw [if_pos (by omega), decide_eq_true (by omega)]
 unfold spec_ComplementSets.f
 simp only [Option.bind_some, i1, if_true]
 refine Ev.bind (Gen.ev_at (l.length + 1) (fun k hk => specAre m hm l hl hn k (by omega))) ?_
 simp only [Bool.not_true]
 refine Ev.step (f := fun k => spec_ComplementSets.l0 k (m : Int) (ints l) [] 0) (fun k => ?_) ?_
 ·simp only [spec_ComplementSets.j0]
  rw [if_neg (by decide)]
 ·refine Gen.ev_loop (fun k (s : List Int) i => spec_ComplementSets.l0 k (m : Int) (ints l) s i) l.length (fun i s => s ++ [((diff (2 ^ m - 1) (l.getD i 0) : Nat) : Int)]) (fun i s => s.length ≤ i) (comp m l) (fun i s hi hP => ⟨?_, fun h => Ev.step (fun k => ?_) h⟩) l.length 0 [] (by omega) (by simp) (fun _ => ?_)
  ·simp; omega
  ·have hb := hl _ (getD_mem l 0 i hi)
   simp only [spec_ComplementSets.l0]
   rw [if_pos (by rw [ints_length]; omega), full_spec m hm, ints_rd, Gen.w64s i (by omega)]
   simp only [Option.bind_some]
   rw [if_pos (by omega), if_pos (by omega), Gen.w64 (by omega) (by omega), ← full_diff hm hb, show (((2 ^ m - 1 : Nat) : Int) - ((l.getD i 0 : Nat) : Int)) = ((2 ^ m - 1 - l.getD i 0 : Nat) : Int) by omega]
  ·refine Ev.step (f := fun k => (spec_SortSets.f k (ints (l.map fun b => diff (2 ^ m - 1) b))).bind fun t => some t) (fun k => ?_) (Ev.bind (specSort _ (by rw [ints_length, List.length_map]; exact hn)) (Ev.now _))
   simp only [spec_ComplementSets.l0]
   rw [if_neg (by rw [ints_length]; omega), ← foldl_map_append l (fun b => diff (2 ^ m - 1) b)]
def dualI (n : Int) (l : List Int) : Int × List Int := if isMat n l = true then (n, comp n.toNat (l.map Int.toNat)) else (0, [])
theorem dualI_length (n : Int) (l : List Int) : (dualI n l).2.length ≤ l.length := by
 unfold dualI
 split
 ·have := comp_length n.toNat (l.map Int.toNat)
  rw [List.length_map] at this
  exact this
 ·simp
theorem implDual (n : Int) (l : List Int) (hn : l.length ≤ 1048576) : Ev (fun k => impl_DualOf.f k n l) (dualI n l) := by
 unfold impl_DualOf.f dualI
 refine Ev.bind (implMat n l hn) ?_
 cases h : isMat n l with
 | false => simp only [Bool.false_eq_true, if_false]; exact Ev.now _
 | true =>
  obtain ⟨m, lN, rfl, hm, rfl, hl, _, _⟩ := mat_nat h
  rw [ints_length] at hn
  simp only [if_true, toNat_ints, Int.toNat_natCast]
  exact Ev.bind (implComp m hm lN hl hn) (Ev.now _)
theorem specDual (n : Int) (l : List Int) (hn : l.length ≤ 1048576) : Ev (fun k => spec_DualOf.f k n l) (dualI n l) := by
 unfold spec_DualOf.f dualI
 refine Ev.bind (specMat n l hn) ?_
 cases h : isMat n l with
 | false => simp only [Bool.false_eq_true, if_false]; exact Ev.now _
 | true =>
  obtain ⟨m, lN, rfl, hm, rfl, hl, _, _⟩ := mat_nat h
  rw [ints_length] at hn
  simp only [if_true, toNat_ints, Int.toNat_natCast]
  exact Ev.bind (specComp m hm lN hl hn) (Ev.now _)
def inActv (n : Int) (l : List Int) (a : Int) : Int := if (isMat n l && l.contains a) = true then actvI (dualI n l).1 (dualI n l).2 ((diff (2 ^ n.toNat - 1) a.toNat : Nat) : Int) else 0
theorem implIn (n : Int) (l : List Int) (a : Int) (hn : l.length ≤ 1048576) : Ev (fun k => impl_InternalActivity.f k n l a) (inActv n l a) := by
 unfold impl_InternalActivity.f
 have hend : Ev (fun k => impl_InternalActivity.j0 k a true n l) 0 := Gen.ev_at 1 (fun k hk => by
  obtain ⟨q, rfl⟩ : ∃ q, k = q + 1 := ⟨k - 1, by omega⟩
  simp only [impl_InternalActivity.j0]
  rw [if_pos trivial])
 refine Ev.bind (implMat n l hn) ?_
 cases hM : isMat n l with
 | false =>
  unfold inActv
  simp only [hM, Bool.false_and, Bool.false_eq_true, if_false]
  exact hend
 | true =>
  simp only [if_true]
  refine Ev.bind (implHasI l a hn) ?_
  cases hmem0 : l.contains a with
  | false =>
   unfold inActv
   simp only [hM, hmem0, Bool.and_false, Bool.false_eq_true, if_false, Bool.not_false]
   exact hend
  | true =>
   have h : (isMat n l && l.contains a) = true := by rw [hM, hmem0]; rfl
   have hd := dualI_length n l
   unfold inActv
   rw [if_pos h]
   simp only [Bool.not_true]
   refine Ev.step (f := fun k => (impl_DualOf.f k n l).bind fun bt1279 => ((impl_FullSet.f n).bind fun t1283 => ((impl_ExternalActivity.f k bt1279.1 bt1279.2 (Go.bits .andNot .i64 t1283 a)).bind fun t1284 => (some t1284)))) (fun k => ?_) ?_
   ·simp only [impl_InternalActivity.j0]
    rw [if_neg (by decide)]
   ·refine Ev.bind (implDual n l hn) ?_
    generalize dualI n l = D at *
    obtain ⟨m, lN, b, rfl, hm, rfl, hl, rfl, hb, hmem⟩ := base_nat h
    have h256 := pow_le_256 hm
    rw [full_impl m hm]
    simp only [Option.bind_some]
    rw [andNot_nat _ b (by omega)]
    simp only [Int.toNat_natCast]
    exact Ev.bind (implActv D.1 D.2 _ (by omega)) (Ev.now _)
theorem specIn (n : Int) (l : List Int) (a : Int) (hn : l.length ≤ 1048576) : Ev (fun k => spec_InternalActivity.f k n l a) (inActv n l a) := by
 unfold spec_InternalActivity.f
 have hend : Ev (fun k => spec_InternalActivity.j0 k a true n l) 0 := Gen.ev_at 1 (fun k hk => by
  obtain ⟨q, rfl⟩ : ∃ q, k = q + 1 := ⟨k - 1, by omega⟩
  simp only [spec_InternalActivity.j0]
  rw [if_pos trivial])
 refine Ev.bind (specMat n l hn) ?_
 cases hM : isMat n l with
 | false =>
  unfold inActv
  simp only [hM, Bool.false_and, Bool.false_eq_true, if_false]
  exact hend
 | true =>
  simp only [if_true]
  refine Ev.bind (specHasI l a hn) ?_
  cases hmem0 : l.contains a with
  | false =>
   unfold inActv
   simp only [hM, hmem0, Bool.and_false, Bool.false_eq_true, if_false, Bool.not_false]
   exact hend
  | true =>
   have h : (isMat n l && l.contains a) = true := by rw [hM, hmem0]; rfl
   have hd := dualI_length n l
   unfold inActv
   rw [if_pos h]
   simp only [Bool.not_true]
   refine Ev.step (f := fun k => (spec_DualOf.f k n l).bind fun bt1279 => ((spec_FullSet.f n).bind fun t1283 => ((spec_ExternalActivity.f k bt1279.1 bt1279.2 (wrap64 (t1283 - a))).bind fun t1284 => (some t1284)))) (fun k => ?_) ?_
   ·simp only [spec_InternalActivity.j0]
    rw [if_neg (by decide)]
   ·refine Ev.bind (specDual n l hn) ?_
    generalize dualI n l = D at *
    obtain ⟨m, lN, b, rfl, hm, rfl, hl, rfl, hb, hmem⟩ := base_nat h
    have h256 := pow_le_256 hm
    rw [full_spec m hm]
    simp only [Option.bind_some, Int.toNat_natCast]
    rw [Gen.w64 (by omega) (by omega), ← full_diff hm hb, show (((2 ^ m - 1 : Nat) : Int) - (b : Int)) = ((2 ^ m - 1 - b : Nat) : Int) by omega]
    exact Ev.bind (specActv D.1 D.2 _ (by omega)) (Ev.now _)
end Go.Proofs.Ytbjnkcfkhonkhaa.Dual
end
section
namespace Go.Proofs.Ytbjnkcfkhonkhaa.Size
open Go.RowKit Go.Proofs.Ytbjnkcfkhonkhaa.Sets Go.Proofs.Ytbjnkcfkhonkhaa.Rank
set_option linter.unusedVariables false
theorem cnt_count (s : Nat) : cnt s = (List.range' 0 8).countP fun j => s.testBit j := by
 unfold cnt elems
 rw [List.countP_eq_length_filter]
theorem cnt_mono {a b : Nat} (h : ∀ j, j < 8 → a.testBit j = true → b.testBit j = true) : cnt a ≤ cnt b := by
 rw [cnt_count, cnt_count]
 refine List.countP_mono_left fun j hj => h j ?_
 have := List.mem_range'_1.1 hj
 omega
theorem cnt_swap : ∀ a, a < 256 → ∀ e, e < 8 → ∀ f, f < 8 → a.testBit e = true → a.testBit f = false → cnt (diff a (2 ^ e) ||| 2 ^ f) = cnt a := by decide +kernel
theorem cnt_less : ∀ a, a < 256 → ∀ e, e < 8 → a.testBit e = true → cnt (diff a (2 ^ e)) < cnt a := by decide +kernel
theorem cnt_some : ∀ a, a < 256 → 0 < cnt a → ∃ e, e < 8 ∧ a.testBit e = true := by decide +kernel
theorem cnt_zero_bit : ∀ a, a < 256 → cnt a = 0 → a = 0 := by decide +kernel
theorem exch_some {l : List Nat} {a b e : Nat} (hf : fails l = false) (ha : a ∈ l) (hb : b ∈ l) (he : e < 8) (h1 : a.testBit e = true) (h2 : b.testBit e = false) : ∃ f, f < 8 ∧ b.testBit f = true ∧ a.testBit f = false ∧ (a - 2 ^ e + 2 ^ f) ∈ l := by
 have hx : exch l a b e = true := by
  cases h : exch l a b e with
  | true => rfl
  | false =>
   have : fails l = true := by
    unfold fails
    rw [List.any_eq_true]
    refine ⟨a, ha, List.any_eq_true.2 ⟨b, hb, List.any_eq_true.2 ⟨e, List.mem_range'_1.2 (by omega), ?_⟩⟩⟩
    rw [h1, h2, h]
    rfl
   rw [hf] at this
   exact Bool.noConfusion this
 unfold exch at hx
 obtain ⟨f, hf1, hf2⟩ := List.any_eq_true.1 hx
 have := List.mem_range'_1.1 hf1
 rw [Bool.and_eq_true, Bool.and_eq_true] at hf2
 exact ⟨f, by omega, hf2.1.1, by simpa using hf2.1.2, by simpa using hf2.2⟩
theorem bases_le (l : List Nat) (hl : ∀ s ∈ l, s < 256) (hf : fails l = false) : ∀ n a b : Nat, a ∈ l → b ∈ l → cnt (diff a b) ≤ n → cnt a ≤ cnt b := by
 intro n
 induction n with
 | zero =>
  intro a b ha hb h
  have h256 := hl a ha
  have hz : diff a b = 0 := cnt_zero_bit _ (diff_lt (n := 8) h256) (by omega)
  refine cnt_mono fun j hj hbit => ?_
  have := diff_bit a b j
  rw [hz, Nat.zero_testBit, hbit] at this
  simpa using this.symm
 | succ n ih =>
  intro a b ha hb h
  have h256 := hl a ha
  by_cases hle : cnt (diff a b) ≤ n
  ·exact ih a b ha hb hle
  ·obtain ⟨e, he, hbit⟩ := cnt_some _ (diff_lt (n := 8) h256) (show 0 < cnt (diff a b) by omega)
   have hbit' := hbit
   rw [diff_bit, Bool.and_eq_true] at hbit'
   obtain ⟨h1, h2⟩ := hbit'
   have h2' : b.testBit e = false := by simpa using h2
   obtain ⟨f, hf8, hbf, haf, hmem⟩ := exch_some hf ha hb he h1 h2'
   rw [← swap_eq a h256 e he f hf8 h1 haf] at hmem
   have hd : diff (diff a (2 ^ e) ||| 2 ^ f) b = diff (diff a b) (2 ^ e) := by
    apply Nat.eq_of_testBit_eq
    intro j
    rw [diff_bit, Nat.testBit_or, diff_bit, diff_bit, diff_bit, Nat.testBit_two_pow, Nat.testBit_two_pow]
    by_cases ej : f = j
    ·subst ej
     rw [hbf, haf]
     simp
    ·rw [decide_eq_false ej, Bool.or_false]
     cases a.testBit j <;> cases b.testBit j <;> cases decide (e = j) <;> rfl
   have hlt := cnt_less _ (diff_lt (n := 8) h256) e he hbit
   rw [← hd] at hlt
   have := ih _ b hmem hb (by omega)
   rw [cnt_swap a h256 e he f hf8 h1 haf] at this
   exact this
theorem bases_same {l : List Nat} (hl : ∀ s ∈ l, s < 256) (hf : fails l = false) {a b : Nat} (ha : a ∈ l) (hb : b ∈ l) : cnt a = cnt b :=
 Nat.le_antisymm (bases_le l hl hf _ a b ha hb (Nat.le_refl _)) (bases_le l hl hf _ b a hb ha (Nat.le_refl _))
def top (l : List Nat) : Nat := cnt (l.getD 0 0)
end Go.Proofs.Ytbjnkcfkhonkhaa.Size
end
section
namespace Go.Proofs.Ytbjnkcfkhonkhaa.Whit
open Go.RowKit Go.Proofs.Ytbjnkcfkhonkhaa.Pr Go.Proofs.Ytbjnkcfkhonkhaa.Sets Go.Proofs.Ytbjnkcfkhonkhaa.Mat Go.Proofs.Ytbjnkcfkhonkhaa.Rank Go.Proofs.Ytbjnkcfkhonkhaa.Flat Go.Proofs.Ytbjnkcfkhonkhaa.Size Go.Proofs.YtbjnkcfkhonkhaaW.PrintWords Go.Proofs.YtbjnkcfkhonkhaaW.PrintLast Go.Proofs.YtbjnkcfkhonkhaaW.PrintMore
set_option linter.unusedVariables false
theorem mem_256 {m : Nat} {l : List Nat} (hm : m ≤ 8) (hl : ∀ s ∈ l, s < 2 ^ m) : ∀ b ∈ l, b < 256 := fun b hb => Nat.lt_of_lt_of_le (hl b hb) (pow_le_256 hm)
theorem implRankOf (n : Int) (l : List Int) (hn : l.length ≤ 1048576) : Ev (fun k => impl_RankOfMatroid.f k n l) (if isMat n l = true then (top (l.map Int.toNat) : Int) else -1) := by
 unfold impl_RankOfMatroid.f
 refine Ev.bind (implMat n l hn) ?_
 cases h : isMat n l with
 | false => simp only [Bool.false_eq_true, if_false]; exact Ev.now _
 | true =>
  obtain ⟨m, lN, rfl, hm, rfl, hl, h0, _⟩ := mat_nat h
  simp only [if_true, toNat_ints, ints_length, if_pos (show (0 : Int) < (lN.length : Int) by omega)]
  have hr : rd (ints lN) 0 = ((lN.getD 0 0 : Nat) : Int) := ints_rd lN 0
  rw [hr, implCount _ (mem_256 hm hl _ (getD_mem lN 0 0 h0))]
  exact Ev.now _
theorem specRankOf (n : Int) (l : List Int) (hn : l.length ≤ 1048576) : Ev (fun k => spec_RankOfMatroid.f k n l) (if isMat n l = true then (top (l.map Int.toNat) : Int) else -1) := by
 unfold spec_RankOfMatroid.f
 refine Ev.bind (specMat n l hn) ?_
 cases h : isMat n l with
 | false => simp only [Bool.false_eq_true, if_false]; exact Ev.now _
 | true =>
  obtain ⟨m, lN, rfl, hm, rfl, hl, h0, _⟩ := mat_nat h
  simp only [if_true, toNat_ints, ints_length, if_pos (show (0 : Int) < (lN.length : Int) by omega)]
  have hr : rd (ints lN) 0 = ((lN.getD 0 0 : Nat) : Int) := ints_rd lN 0
  rw [hr]
  exact Ev.bind (specCountE _ (mem_256 hm hl _ (getD_mem lN 0 0 h0))) (Ev.now _)
theorem top_le (l : List Nat) : top l ≤ 8 := cnt_le _
end Go.Proofs.Ytbjnkcfkhonkhaa.Whit
end
section
namespace Go.Proofs.Ytbjnkcfkhonkhaa.ActTab
open Go.RowKit Go.Proofs.Ytbjnkcfkhonkhaa.Pr Go.Proofs.Ytbjnkcfkhonkhaa.Base Go.Proofs.Ytbjnkcfkhonkhaa.Sets Go.Proofs.Ytbjnkcfkhonkhaa.Mat Go.Proofs.Ytbjnkcfkhonkhaa.Rank Go.Proofs.Ytbjnkcfkhonkhaa.Flat Go.Proofs.Ytbjnkcfkhonkhaa.Size Go.Proofs.Ytbjnkcfkhonkhaa.Act Go.Proofs.Ytbjnkcfkhonkhaa.Dual Go.Proofs.Ytbjnkcfkhonkhaa.Whit Go.Proofs.YtbjnkcfkhonkhaaW.PrintWords Go.Proofs.YtbjnkcfkhonkhaaW.PrintLast Go.Proofs.YtbjnkcfkhonkhaaW.PrintMore
set_option linter.unusedVariables false
def Rect (r c : Nat) (t : List (List Int)) : Prop := t.length = r ∧ ∀ x ∈ t, x.length = c
theorem Rect.at_ {r c : Nat} {t : List (List Int)} (h : Rect r c t) {i : Nat} (hi : i < r) : (t.getD i []).length = c := by
 have hi' : i < t.length := by rw [h.1]; exact hi
 have := h.2 (t[i]) (List.getElem_mem hi')
 simpa [List.getD, hi'] using this
theorem Rect.set {r c : Nat} {t : List (List Int)} (h : Rect r c t) (i : Nat) {x : List Int} (hx : x.length = c) : Rect r c (t.set i x) := by
 refine ⟨by simpa using h.1, fun y hy => ?_⟩
 rcases List.mem_or_eq_of_mem_set hy with hy | rfl
 ·exact h.2 y hy
 ·exact hx
theorem Rect.mid {r c : Nat} {t : List (List Int)} (h : Rect r c t) (hr : r ≤ 2097152) (hc : c ≤ 2097152) : Mid t := ⟨by rw [h.1]; exact hr, fun x hx => by rw [h.2 x hx]; exact hc⟩
theorem rect_rep (r c : Nat) : Rect r c (List.replicate r (List.replicate c 0)) := ⟨by simp, fun x hx => by rw [(List.mem_replicate.1 hx).2]; simp⟩
theorem pushes (n : Nat) {γ : Type} (L : Nat → List (List Int) → Int → Option γ) (r : γ) (v : List Int)
  (hstep : ∀ k ys (i : Nat), i < n → ys.length = i → L (k + 1) ys (i : Int) = L k (ys ++ [v]) ((i + 1 : Nat) : Int)) (hend : Ev (fun k => L k (List.replicate n v) (n : Int)) r) : Ev (fun k => L k [] 0) r := by
 have key : ∀ (d i : Nat), i + d = n → Ev (fun k => L k (List.replicate i v) (i : Int)) r := by
  intro d
  induction d with
  | zero =>
   intro i e
   obtain rfl : i = n := by omega
   exact hend
  | succ d ih =>
   intro i e
   refine Ev.step (fun k => hstep k _ i (by omega) (by simp)) ?_
   have := ih (i + 1) (by omega)
   rwa [List.replicate_succ'] at this
 exact key n 0 (by omega)
theorem newTable (r c : Nat) (hr : r ≤ 64) (hc : c ≤ 64) : Ev (fun k => impl_newTable.f k (r : Int) (c : Int)) (List.replicate r (List.replicate c 0)) := by
 unfold impl_newTable.f
 refine pushes r (fun k ys n => impl_newTable.l0 k (r : Int) (c : Int) ys n) _ (List.replicate c 0) (fun k ys n hn hy => ?_) (Gen.ev_at 1 (fun k hk => ?_))
 ·simp only [impl_newTable.l0]
  rw [if_pos (by omega), if_pos (by omega), if_pos (by omega), if_pos (by omega), Gen.w64s n (by omega), Int.toNat_natCast]
 ·obtain ⟨q, rfl⟩ : ∃ q, k = q + 1 := ⟨k - 1, by omega⟩
  simp only [impl_newTable.l0]
  rw [if_neg (by omega)]
def bump (t : List (List Int)) (i j : Nat) : List (List Int) := t.set i ((t.getD i []).set j (wrap64 (rd (t.getD i []) (j : Int) + 1)))
theorem bump_rect {r c : Nat} {t : List (List Int)} (h : Rect r c t) {i : Nat} (hi : i < r) (j : Nat) : Rect r c (bump t i j) := h.set i (by rw [List.length_set]; exact h.at_ hi)
theorem cnt_compB : ∀ m, m < 9 → ∀ b, b < 256 → b < 2 ^ m → cnt (diff (2 ^ m - 1) b) + cnt b = m := by decide +kernel
theorem cnt_comp {m b : Nat} (hm : m ≤ 8) (hb : b < 2 ^ m) : cnt (diff (2 ^ m - 1) b) + cnt b = m := cnt_compB m (by omega) b (Nat.lt_of_lt_of_le hb (pow_le_256 hm)) hb
theorem diff_lt {m b : Nat} (hm : m ≤ 8) (hb : b < 2 ^ m) : diff (2 ^ m - 1) b < 2 ^ m := by
 rw [← full_diff hm hb]
 have := Nat.two_pow_pos m
 omega
theorem diff_bitB : ∀ m, m < 9 → ∀ b, b < 256 → b < 2 ^ m → ∀ j, j < 8 → (decide (m ≤ j) || b.testBit j || (diff (2 ^ m - 1) b).testBit j) = true := by decide +kernel
theorem actv_sub (m : Nat) (l : List Nat) (b j : Nat) (h : (actv m l b).testBit j = true) : j < m ∧ b.testBit j = false := by
 have e : actv m l b = (List.range' 0 m).foldl (fun o e => if (!b.testBit e && decide (least (circ l b e) = e)) = true then o ||| 2 ^ e else o) 0 := by
  unfold actv
  refine foldl_congr _ _ _ _ fun e _ o => ?_
  cases b.testBit e with
  | true => simp
  | false => simp
 rw [e, foldl_or] at h
 simp only [Nat.zero_testBit, Bool.false_or, List.any_eq_true, Bool.and_eq_true, Bool.not_eq_true', decide_eq_true_eq, List.mem_range'_1] at h
 obtain ⟨x, hx, ⟨h1, _⟩, rfl⟩ := h
 exact ⟨by omega, h1⟩
theorem actv_lt (m : Nat) (l : List Nat) (b : Nat) : actv m l b < 2 ^ m := by
 apply Nat.lt_pow_two_of_testBit
 intro i hi
 cases h : (actv m l b).testBit i with
 | false => rfl
 | true => have := (actv_sub m l b i h).1; omega
theorem actv_cnt {m : Nat} (hm : m ≤ 8) (l : List Nat) {b : Nat} (hb : b < 2 ^ m) : cnt (actv m l b) ≤ m - cnt b := by
 have h1 := cnt_comp hm hb
 have h2 : cnt (actv m l b) ≤ cnt (diff (2 ^ m - 1) b) := cnt_mono fun j hj h => by
  obtain ⟨h3, h4⟩ := actv_sub m l b j h
  have := diff_bitB m (by omega) b (Nat.lt_of_lt_of_le hb (pow_le_256 hm)) hb j hj
  rw [h4, decide_eq_false (show ¬ m ≤ j by omega)] at this
  simpa using this
 omega
theorem ext_nat {m : Nat} (hm : m ≤ 8) {l : List Nat} (hl : ∀ s ∈ l, s < 2 ^ m) (hM : isMat (m : Int) (ints l) = true) {b : Nat} (hb : b ∈ l) : ∃ x : Nat, actvI (m : Int) (ints l) (b : Int) = x ∧ x < 256 ∧ cnt x ≤ m - cnt b := by
 have hc : (ints l).contains (b : Int) = true := by simp only [ints, List.contains_eq_mem, List.mem_map, decide_eq_true_eq]; exact ⟨b, hb, rfl⟩
 refine ⟨actv m l b, ?_, Nat.lt_of_lt_of_le (actv_lt m l b) (pow_le_256 hm), actv_cnt hm l (hl b hb)⟩
 unfold actvI
 rw [hM, hc]
 simp [toNat_ints]
theorem in_nat {m : Nat} (hm : m ≤ 8) {l : List Nat} (hl : ∀ s ∈ l, s < 2 ^ m) (hM : isMat (m : Int) (ints l) = true) {b : Nat} (hb : b ∈ l) : ∃ x : Nat, inActv (m : Int) (ints l) (b : Int) = x ∧ x < 256 ∧ cnt x ≤ cnt b := by
 have hc : (ints l).contains (b : Int) = true := by simp only [ints, List.contains_eq_mem, List.mem_map, decide_eq_true_eq]; exact ⟨b, hb, rfl⟩
 have hbl := hl b hb
 have hd := diff_lt hm hbl
 have zero : ∃ x : Nat, (0 : Int) = x ∧ x < 256 ∧ cnt x ≤ cnt b := ⟨0, rfl, by decide, by rw [show cnt 0 = 0 by decide]; exact Nat.zero_le _⟩
 unfold inActv dualI
 rw [hM, hc]
 simp only [Bool.and_self, if_true, Int.toNat_natCast, toNat_ints]
 unfold actvI
 split
 ·next c =>
  obtain ⟨m', lN, y, e1, _, e2, _, e3, _, _⟩ := base_nat c
  have hm' : m' = m := by omega
  have hy : y = diff (2 ^ m - 1) b := by omega
  rw [e2]
  simp only [Int.toNat_natCast, toNat_ints]
  refine ⟨_, rfl, Nat.lt_of_lt_of_le (actv_lt m lN _) (pow_le_256 hm), ?_⟩
  have h1 := actv_cnt hm lN hd
  have h2 := cnt_comp hm hbl
  omega
 ·exact zero
def tabOf (m : Nat) (l : List Nat) : List (List Int) := l.foldl (fun (t : List (List Int)) (b : Nat) => bump t (cnt (inActv (m : Int) (ints l) (b : Int)).toNat) (cnt (actvI (m : Int) (ints l) (b : Int)).toNat)) (List.replicate (top l + 1) (List.replicate (m - top l + 1) 0))
def tabI (n : Int) (l : List Int) : List (List Int) := if isMat n l = true then tabOf n.toNat (l.map Int.toNat) else []
theorem top_cnt {l : List Nat} (hl : ∀ s ∈ l, s < 256) (hf : fails l = false) (h0 : 0 < l.length) {b : Nat} (hb : b ∈ l) : cnt b = top l := bases_same hl hf hb (getD_mem l 0 0 h0)
theorem top_le {m : Nat} (hm : m ≤ 8) {l : List Nat} (hl : ∀ s ∈ l, s < 2 ^ m) (h0 : 0 < l.length) : top l ≤ m := by
 have := cnt_comp hm (hl _ (getD_mem l 0 0 h0))
 unfold top
 omega
theorem tab_rect {m : Nat} (hm : m ≤ 8) {l : List Nat} (hl : ∀ s ∈ l, s < 2 ^ m) (hM : isMat (m : Int) (ints l) = true) (hf : fails l = false) (h0 : 0 < l.length) : Rect (top l + 1) (m - top l + 1) (tabOf m l) := by
 have key : ∀ (q : List Nat), (∀ b ∈ q, b ∈ l) → ∀ t, Rect (top l + 1) (m - top l + 1) t → Rect (top l + 1) (m - top l + 1) (q.foldl (fun (t : List (List Int)) (b : Nat) => bump t (cnt (inActv (m : Int) (ints l) (b : Int)).toNat) (cnt (actvI (m : Int) (ints l) (b : Int)).toNat)) t) := by
  intro q
  induction q with
  | nil => exact fun _ t h => h
  | cons b q ih =>
   intro hq t h
   have hb := hq b (by simp)
   obtain ⟨x, e, _, hx⟩ := in_nat hm hl hM hb
   rw [List.foldl_cons]
   refine ih (fun c hc => hq c (by simp [hc])) _ (bump_rect h ?_ _)
   rw [e, Int.toNat_natCast, ← top_cnt (mem_256 hm hl) hf h0 hb]
   omega
 exact key l (fun _ h => h) _ (rect_rep _ _)
theorem tabI_mid (n : Int) (l : List Int) : Mid (tabI n l) := by
 unfold tabI
 split
 ·next c =>
  obtain ⟨m, lN, rfl, hm, rfl, hl, h0, hf⟩ := mat_nat c
  rw [Int.toNat_natCast, toNat_ints]
  have := top_le hm hl h0
  exact (tab_rect hm hl c hf h0).mid (by omega) (by omega)
 ·exact ⟨by simp, by simp⟩
theorem implTab (n : Int) (l : List Int) (hn : l.length ≤ 1048576) : Ev (fun k => impl_ActivityTable.f k n l) (tabI n l) := by
 unfold impl_ActivityTable.f
 refine Ev.bind (implRankOf n l hn) ?_
 unfold tabI
 cases hM : isMat n l with
 | false =>
  simp only [Bool.false_eq_true, if_false, if_pos (show (-1 : Int) < 0 by decide)]
  exact Ev.now _
 | true =>
  obtain ⟨m, lN, rfl, hm, rfl, hl, h0, hf⟩ := mat_nat hM
  have ht := top_le hm hl h0
  rw [ints_length] at hn
  simp only [if_true, toNat_ints, Int.toNat_natCast, if_neg (show ¬ ((top lN : Int) < 0) by omega)]
  rw [Gen.w64 (by omega) (by omega), Gen.w64 (i := (m : Int) - (top lN : Int)) (by omega) (by omega), Gen.w64 (by omega) (by omega), show (top lN : Int) + 1 = ((top lN + 1 : Nat) : Int) by omega, show (m : Int) - (top lN : Int) + 1 = ((m - top lN + 1 : Nat) : Int) by omega]
  refine Ev.bind (newTable (top lN + 1) (m - top lN + 1) (by omega) (by omega)) ?_
  refine list_loop (fun k t i => impl_ActivityTable.l0 k t (ints lN) ((ints lN).length : Int) i (m : Int) (ints lN)) lN (fun t b => bump t (cnt (inActv (m : Int) (ints lN) (b : Int)).toNat) (cnt (actvI (m : Int) (ints lN) (b : Int)).toNat)) (fun _ t => Rect (top lN + 1) (m - top lN + 1) t) _ _ (fun i t hi hR => ?_) (rect_rep _ _) (fun _ => Gen.ev_at 1 (fun k hk => ?_))
  ·have hb := getD_mem lN 0 i hi
   obtain ⟨x, ex, hx, cx⟩ := in_nat hm hl hM hb
   obtain ⟨y, ey, hy, cy⟩ := ext_nat hm hl hM hb
   have hc := top_cnt (mem_256 hm hl) hf h0 hb
   have hrow := hR.at_ (show cnt x < top lN + 1 by omega)
   refine ⟨bump_rect hR (by rw [ex, Int.toNat_natCast]; omega) _, fun h => ?_⟩
   refine Ev.step (f := fun k => (impl_InternalActivity.f k (m : Int) (ints lN) ((lN.getD i 0 : Nat) : Int)).bind fun t1 => ((impl_CountOf.f t1).bind fun t2 => (if 0 ≤ t2 then (if t2 < (t.length : Int) then ((impl_ExternalActivity.f k (m : Int) (ints lN) ((lN.getD i 0 : Nat) : Int)).bind fun t3 => ((impl_CountOf.f t3).bind fun t4 => (if 0 ≤ t4 then (if t4 < ((rd_L1 t t2).length : Int) then (impl_ActivityTable.l0 k (t.set (t2 : Int).toNat ((rd_L1 t t2).set (t4 : Int).toNat (wrap64 ((rd (rd_L1 t t2) t4) + 1)))) (ints lN) ((ints lN).length : Int) ((i + 1 : Nat) : Int) (m : Int) (ints lN)) else (none)) else (none)))) else (none)) else (none)))) (fun k => ?_) ?_
   ·simp only [impl_ActivityTable.l0]
    rw [if_pos (by rw [ints_length]; omega), if_pos (by omega), if_pos (by rw [ints_length]; omega), ints_rd, Gen.w64s i (by omega)]
   ·refine Ev.bind (implIn (m : Int) (ints lN) _ (by rw [ints_length]; exact hn)) ?_
    rw [ex, Int.toNat_natCast, ey, Int.toNat_natCast] at h
    rw [ex, implCount x hx]
    simp only [Option.bind_some, if_pos (show (0 : Int) ≤ (cnt x : Int) by omega), if_pos (show (cnt x : Int) < (t.length : Int) by rw [hR.1]; omega)]
    refine Ev.bind (implActv (m : Int) (ints lN) _ (by rw [ints_length]; exact hn)) ?_
    rw [ey, implCount y hy]
    simp only [Option.bind_some, if_pos (show (0 : Int) ≤ (cnt y : Int) by omega), rdL, hrow, if_pos (show (cnt y : Int) < ((m - top lN + 1 : Nat) : Int) by omega), Int.toNat_natCast]
    exact h
  ·obtain ⟨q, rfl⟩ : ∃ q, k = q + 1 := ⟨k - 1, by omega⟩
   simp only [impl_ActivityTable.l0]
   rw [if_neg (by rw [ints_length]; omega)]
   rfl
theorem specTab (n : Int) (l : List Int) (hn : l.length ≤ 1048576) : Ev (fun k => spec_ActivityTable.f k n l) (tabI n l) := by
 unfold spec_ActivityTable.f
 simp only [Option.bind_some]
 refine Ev.bind (specRankOf n l hn) ?_
 unfold tabI
 cases hM : isMat n l with
 | false =>
  simp only [Bool.false_eq_true, if_false, if_pos (show (-1 : Int) < 0 by decide)]
  exact Ev.now _
 | true =>
  obtain ⟨m, lN, rfl, hm, rfl, hl, h0, hf⟩ := mat_nat hM
  have ht := top_le hm hl h0
  rw [ints_length] at hn
  simp only [if_true, toNat_ints, Int.toNat_natCast, if_neg (show ¬ ((top lN : Int) < 0) by omega)]
  have ec : wrap64 (wrap64 ((m : Int) - (top lN : Int)) + 1) = ((m - top lN + 1 : Nat) : Int) := by
   rw [Gen.w64 (i := (m : Int) - (top lN : Int)) (by omega) (by omega), Gen.w64 (by omega) (by omega)]
   omega
  refine pushes (top lN + 1) (fun k ys n => spec_ActivityTable.l0 k ys (top lN : Int) n (m : Int) (ints lN)) _ (List.replicate (m - top lN + 1) 0) (fun k ys n hn' hy => ?_) ?_
  ·simp only [spec_ActivityTable.l0]
   rw [ec, if_pos (by omega), if_pos (by omega), if_pos (by omega), if_pos (by omega), Gen.w64s n (by omega), Int.toNat_natCast]
  refine Ev.step (f := fun k => spec_ActivityTable.l1 k (List.replicate (top lN + 1) (List.replicate (m - top lN + 1) 0)) 0 (m : Int) (ints lN)) (fun k => by
   simp only [spec_ActivityTable.l0]
   rw [if_neg (by omega)]) ?_
  refine list_loop (fun k t i => spec_ActivityTable.l1 k t i (m : Int) (ints lN)) lN (fun t b => bump t (cnt (inActv (m : Int) (ints lN) (b : Int)).toNat) (cnt (actvI (m : Int) (ints lN) (b : Int)).toNat)) (fun _ t => Rect (top lN + 1) (m - top lN + 1) t) _ _ (fun i t hi hR => ?_) (rect_rep _ _) (fun _ => Gen.ev_at 1 (fun k hk => ?_))
  ·have hb := getD_mem lN 0 i hi
   obtain ⟨x, ex, hx, cx⟩ := in_nat hm hl hM hb
   obtain ⟨y, ey, hy, cy⟩ := ext_nat hm hl hM hb
   have hc := top_cnt (mem_256 hm hl) hf h0 hb
   have hrow := hR.at_ (show cnt x < top lN + 1 by omega)
   refine ⟨bump_rect hR (by rw [ex, Int.toNat_natCast]; omega) _, fun h => ?_⟩
   refine Ev.step (f := fun k => (spec_InternalActivity.f k (m : Int) (ints lN) ((lN.getD i 0 : Nat) : Int)).bind fun t1 => ((spec_CountOf.f k t1).bind fun t2 => ((spec_ExternalActivity.f k (m : Int) (ints lN) ((lN.getD i 0 : Nat) : Int)).bind fun t3 => ((spec_CountOf.f k t3).bind fun t4 => (if 0 ≤ t2 then (if t2 < (t.length : Int) then (if 0 ≤ t4 then (if t4 < ((rd_L1 t t2).length : Int) then (spec_ActivityTable.l1 k (t.set (t2 : Int).toNat ((rd_L1 t t2).set (t4 : Int).toNat (wrap64 ((rd (rd_L1 t t2) t4) + 1)))) ((i + 1 : Nat) : Int) (m : Int) (ints lN)) else (none)) else (none)) else (none)) else (none)))))) (fun k => ?_) ?_
   ·simp only [spec_ActivityTable.l1]
    rw [if_pos (by rw [ints_length]; omega), if_pos (by omega), ints_rd, Gen.w64s i (by omega)]
   ·refine Ev.bind (specIn (m : Int) (ints lN) _ (by rw [ints_length]; exact hn)) ?_
    rw [ex, Int.toNat_natCast, ey, Int.toNat_natCast] at h
    rw [ex]
    refine Ev.bind (specCountE x hx) (Ev.bind (specActv (m : Int) (ints lN) _ (by rw [ints_length]; exact hn)) ?_)
    rw [ey]
    refine Ev.bind (specCountE y hy) ?_
    simp only [if_pos (show (0 : Int) ≤ (cnt x : Int) by omega), if_pos (show (cnt x : Int) < (t.length : Int) by rw [hR.1]; omega), if_pos (show (0 : Int) ≤ (cnt y : Int) by omega), rdL, hrow, if_pos (show (cnt y : Int) < ((m - top lN + 1 : Nat) : Int) by omega), Int.toNat_natCast]
    exact h
  ·obtain ⟨q, rfl⟩ : ∃ q, k = q + 1 := ⟨k - 1, by omega⟩
   simp only [spec_ActivityTable.l1]
   rw [if_neg (by rw [ints_length]; omega)]
   rfl
end Go.Proofs.Ytbjnkcfkhonkhaa.ActTab
end
section
namespace Go.Proofs.Ytbjnkcfkhonkhaa.Pure
open Go.RowKit Go.Proofs.Ytbjnkcfkhonkhaa.Pr Go.Proofs.Ytbjnkcfkhonkhaa.Base Go.Proofs.Ytbjnkcfkhonkhaa.Sets Go.Proofs.Ytbjnkcfkhonkhaa.Mat Go.Proofs.Ytbjnkcfkhonkhaa.ActTab Go.Proofs.YtbjnkcfkhonkhaaW.PrintWords Go.Proofs.YtbjnkcfkhonkhaaW.PrintLast Go.Proofs.YtbjnkcfkhonkhaaW.PrintMore
set_option linter.unusedVariables false
theorem FnExactActivityTable (n : Int) (xs : List Int) (_ : (Lit.int .i64 n).wf = true) (hm : xs.length ≤ maxLen ∧ ∀ x ∈ xs, (Lit.int .i64 x).wf = true) : ∃ k, laws_FnExactActivityTable.f k n xs = some true := by
 obtain ⟨z, hz, h⟩ := szMatroid n xs 1048576 hm.1 (by decide) (by decide)
 refine Ev.rounds ?_
 unfold laws_FnExactActivityTable.f
 rw [hz]
 simp only [Option.bind_some]
 by_cases hneg : z < 0
 ·simp only [if_pos hneg]
  exact Ev.now _
 simp only [if_neg hneg]
 obtain ⟨hl, hz0, hz1⟩ := h.resolve_left hneg
 have T1 := toMatroid n xs hl
 have iU := implTab n xs hl
 have sU := specTab n xs hl
 have hU := tabI_mid n xs
 generalize tabI n xs = u at hU iU sU
 have hT := hU.total
 have EU := eqIntSSB u hU
 have MU := markIntSSB u 1 hU (by decide) (by omega)
 have HU := heldIntSSB u 1 hU (by decide) (by omega)
 have j0 : Ev (fun k => laws_FnExactActivityTable.j0 k u u false n xs) true := by
  refine Ev.step (f := fun k => ((laws_markIntSS.f k u 1).bind fun b => ((laws_heldIntSS.f k b.2 1).bind fun t => (if t < 0 then (some false) else (if t = b.1 then ((laws_toMatroid.f k n xs).bind fun c => ((impl_ActivityTable.f k c.1 c.2).bind fun e => ((laws_eqIntSS.f k e u).bind fun t' => (if t' = true then ((laws_heldIntSS.f k b.2 1).bind fun t'' => (if t'' < 0 then (some false) else (if t'' = b.1 then (some true) else (some false)))) else (some false))))) else (some false)))))) (fun k => ?_) ?_
  ·simp only [laws_FnExactActivityTable.j0]
   rw [if_neg (by decide)]
  ·refine Ev.bind MU (Ev.bind HU ?_)
   simp only [if_neg (show ¬ ((1 : Int) + (total u : Int) < 0) by omega), if_true]
   refine Ev.bind T1 (Ev.bind iU (Ev.bind EU ?_))
   simp only [if_true]
   refine Ev.bind HU ?_
   simp only [if_neg (show ¬ ((1 : Int) + (total u : Int) < 0) by omega), if_true]
   exact Ev.now _
 refine Ev.bind T1 (Ev.bind sU (Ev.bind T1 (Ev.bind iU (Ev.bind EU ?_))))
 simp only [if_true]
 refine Ev.bind T1 (Ev.bind (eqMatroid n xs hl) ?_)
 simp only [if_true]
 refine Ev.bind (markMatroid n xs 1 hl (by decide) (by decide)) ?_
 simp only [if_neg (show ¬ ((1 : Int) + (xs.length : Int) < 0) by omega)]
 refine Ev.bind EU ?_
 simp only [Bool.not_true]
 exact j0
end Go.Proofs.Ytbjnkcfkhonkhaa.Pure
end
section
namespace Go.Proofs.Ytbjnkcfkhonkhaa.Open
open Go.ChangeShapes Go.WideShapes Go.RowKit Go.Proofs.YtbjnkcfkhonkhaaW.PrintWords Go.Deep
set_option linter.unusedVariables false
structure Opens {α : Type} (P : Program) (d : Kd α) (t : TypeId) (Wf : α → Prop) : Prop where
 go : ∀ (H : Type) (enc : TypeId × Value → H) (w : World) (base : Nat) (spare : Nat → Bool) (held : Bool) (fuel : Nat) (cs : List Value) (x : DataW H × List MemPlace),
  DataW.trod enc P w base spare held fuel t cs = some x → ∃ a, d.K w a cs ∧ Wf a
theorem Opens.int {P : Program} {t : TypeId} {k : IntKind} (ht : P.underlying t = some (.int k)) : Opens P (Kd.int k) t (fun n => (Lit.int k n).wf = true) := by
 refine ⟨fun H enc w base spare held fuel cs x h => ?_⟩
 obtain ⟨n, rfl, _, hw⟩ := DataW.trod_int ht h
 exact ⟨n, rfl, hw⟩
theorem Opens.bool {P : Program} {t : TypeId} (ht : P.underlying t = some .bool) : Opens P Kd.bool t (fun _ => True) := by
 refine ⟨fun H enc w base spare held fuel cs x h => ?_⟩
 obtain ⟨n, rfl, _⟩ := DataW.trod_bool ht h
 exact ⟨n, rfl, trivial⟩
theorem list_of {α : Type} {p : Nat → α → Prop} : ∀ {len : Nat}, (∀ i, i < len → ∃ y, p i y) → ∃ xs : List α, xs.length = len ∧ ∀ i y, xs[i]? = some y → p i y := by
 intro len
 induction len with
 | zero => exact fun _ => ⟨[], rfl, fun i y h => by simp at h⟩
 | succ len ih =>
  intro key
  obtain ⟨xs, hxl, hxs⟩ := ih (fun i hi => key i (by omega))
  obtain ⟨y, hy⟩ := key len (by omega)
  refine ⟨xs ++ [y], by simp [hxl], fun i z hz => ?_⟩
  by_cases hi : i < xs.length
  ·rw [List.getElem?_append_left hi] at hz
   exact hxs i z hz
  ·have hlt : i < (xs ++ [y]).length := (List.getElem?_eq_some_iff.1 hz).1
   have e : i = len := by simp [hxl] at hlt hi; omega
   subst e
   rw [List.getElem?_append_right (by omega), hxl] at hz
   simp at hz
   subst hz
   exact hy
theorem Opens.slice {α : Type} {P : Program} {t e : TypeId} {d : Kd α} {Wf : α → Prop} (ht : P.underlying t = some (.slice e)) (hs : P.cellsOf e = d.sz) (h : Opens P d e Wf) :
  Opens P (Kd.slice e d) t (fun xs => xs.length ≤ maxLen ∧ ∀ x ∈ xs, Wf x) := by
 refine ⟨fun H enc w base spare held fuel cs x hx => ?_⟩
 rcases open_slice ht hx with ⟨rfl, _⟩ | ⟨a, len, cap, m, n, D, Pl, rfl, hb, hl, hm, hmm, _, hel⟩
 ·exact ⟨[], ⟨none, 0, rfl, Nat.le_refl _, rfl, by simp, fun h => absurd h (by simp)⟩, by simp, by simp⟩
 ·have hlm : len ≤ m := by rw [hmm]; split <;> omega
  have key : ∀ i, i < len → ∃ y : α, (∃ cs', w.cells? base (a.add (i * P.cellsOf e)) (P.cellsOf e) = some cs' ∧ d.K w y cs') ∧ Wf y := fun i hi => by
   obtain ⟨cs', h1, h2⟩ := hel i (by omega)
   obtain ⟨y, h3, h4⟩ := h.go _ enc w base spare held n cs' _ h2
   exact ⟨y, ⟨cs', h1, h3⟩, h4⟩
  obtain ⟨xs, hxl, hxs⟩ := list_of key
  refine ⟨xs, ⟨some a, cap, by rw [hxl], by omega, rfl, by have := hm; unfold maxLen at this; omega, fun _ => ⟨a, rfl, fun j p hj => ?_⟩⟩, by omega, fun y hy => ?_⟩
  ·obtain ⟨⟨cs', h1, h2⟩, _⟩ := hxs j p hj
   obtain ⟨_, h3, h4⟩ := World.cells?_some h1
   refine ⟨cs', by rw [h3, hs], h2, fun i u hu => ?_⟩
   have hlt : i < cs'.length := (List.getElem?_eq_some_iff.1 hu).1
   have := h4 i (by omega)
   rw [hs, Go.Deep.add_add] at this
   rw [this, hu]
  ·obtain ⟨i, hi⟩ := List.getElem?_of_mem hy
   exact (hxs i y hi).2
structure OpensFs {α : Type} (P : Program) (fs : List Field) (off : Nat) (d : Kd α) (Wf : α → Prop) : Prop where
 go : ∀ (H : Type) (enc : TypeId × Value → H) (w : World) (base : Nat) (spare : Nat → Bool) (held : Bool) (n : Nat) (cs : List Value),
  cs.length = off + d.sz → (∀ f ∈ fs, ∃ x, DataW.trod enc P w base spare held n f.type ((cs.drop f.offset).take (P.cellsOf f.type)) = some x) → ∃ a, d.K w a (cs.drop off) ∧ Wf a
theorem OpensFs.one {α : Type} {P : Program} {f : Field} {off : Nat} {d : Kd α} {Wf : α → Prop} (ho : f.offset = off) (hs : P.cellsOf f.type = d.sz) (h : Opens P d f.type Wf) : OpensFs P [f] off d Wf := by
 refine ⟨fun H enc w base spare held n cs hl hf => ?_⟩
 obtain ⟨x, hx⟩ := hf f (by simp)
 rw [ho, hs, List.take_of_length_le (by rw [List.length_drop]; omega)] at hx
 exact h.go _ enc w base spare held n _ x hx
theorem OpensFs.cons {α β : Type} {P : Program} {f : Field} {fs : List Field} {off : Nat} {d : Kd α} {d' : Kd β} {Wf : α → Prop} {Wf' : β → Prop} (ho : f.offset = off) (hs : P.cellsOf f.type = d.sz) (h : Opens P d f.type Wf)
  (h' : OpensFs P fs (off + d.sz) d' Wf') : OpensFs P (f :: fs) off (Kd.pair d d') (fun x => Wf x.1 ∧ Wf' x.2) := by
 refine ⟨fun H enc w base spare held n cs hl hf => ?_⟩
 have hl' : cs.length = off + (d.sz + d'.sz) := hl
 obtain ⟨x, hx⟩ := hf f (by simp)
 rw [ho, hs] at hx
 obtain ⟨a, ha, wa⟩ := h.go _ enc w base spare held n _ x hx
 obtain ⟨b, hb, wb⟩ := h'.go _ enc w base spare held n cs (by omega) (fun g hg => hf g (by simp [hg]))
 refine ⟨(a, b), ⟨(cs.drop off).take d.sz, cs.drop (off + d.sz), ?_, ha, hb⟩, wa, wb⟩
 rw [← List.drop_drop, List.take_append_drop]
theorem Opens.struct {α : Type} {P : Program} {t : TypeId} {fs : Array Field} {d : Kd α} {Wf : α → Prop} (ht : P.underlying t = some (.struct fs)) (hs : P.cellsOf t = d.sz) (h : OpensFs P fs.toList 0 d Wf) : Opens P d t Wf := by
 refine ⟨fun H enc w base spare held fuel cs x hx => ?_⟩
 obtain ⟨xs, n, _, _, hl, hlen, hg⟩ := DataW.trod_struct ht hx
 obtain ⟨a, ha, wa⟩ := h.go _ enc w base spare held n cs (by omega) (fun f hf => by
  obtain ⟨i, hi⟩ := List.getElem?_of_mem hf
  have h1 := hg i f (by simpa using hi)
  have hlt : i < fs.size := by have := (List.getElem?_eq_some_iff.1 hi).1; simpa using this
  exact ⟨_, h1.trans (List.getElem?_eq_getElem (by omega))⟩)
 exact ⟨a, by simpa using ha, wa⟩
theorem Opens.argStruct {α : Type} {P : Program} {t : TypeId} {d : Kd α} {Wf : α → Prop} (h : Opens P d t Wf) {H : Type} {enc : TypeId × Value → H} {w : World} {base : Nat} {spare : Nat → Bool} {held : Bool} {v : Value} {x : DataW H} {ps : List MemPlace}
  (hv : ∃ cs, v = .agg cs ∧ cs.size = P.cellsOf t) (ht : DataW.Trod enc P w base spare held t v x ps) : ∃ cs a, v = .agg cs.toArray ∧ d.K w a cs ∧ Wf a := by
 obtain ⟨cs, rfl, _⟩ := hv
 obtain ⟨fuel, hf⟩ := ht
 obtain ⟨a, ha, wf⟩ := h.go _ enc w base spare held fuel _ _ hf
 exact ⟨cs.toList, a, by simp, ha, wf⟩
end Go.Proofs.Ytbjnkcfkhonkhaa.Open
end
section
namespace Go.Proofs.Ytbjnkcfkhonkhaa.fnExactActivityTable
open Go.ChangeShapes Go.WideShapes Go.ChangeAt Go.RowKit Go.Proofs.Ytbjnkcfkhonkhaa.Open Go.Proofs.YtbjnkcfkhonkhaaW.PrintWords
open Go.ChangeMaps (open_string shut_string)
set_option linter.unusedVariables false
theorem own : ownKnob Try.prog.godebug = none := by kernel_rfl
theorem laidOut : laidOutB Try.prog = true := by kernel_rfl
set_option maxRecDepth 100000 in
theorem lifted (os : Os) (started : os.Started) (H : Type) (enc : TypeId × Value → H) :
  ReturnsInHanded {} Try.checked os 12 .any (Rows.fnExactActivityTableSpec.pre6 enc Try.prog Try.f12 Rows.fnExactActivityTableRow.domain false) (Rows.fnExactActivityTableSpec.post enc Try.prog Try.f12 false true false false) := by
 refine returnsInHanded_of_change_sized (C := Try.checked) own started (by kernel_rfl) Try.func12
  (ChangeSpec.witness6 (enc := enc) (C := Try.checked) false ⟨#[], #[.agg #[.int .i64 0, .slice none 0 0]], []⟩ 8 (by kernel_rfl) (by kernel_rfl) (by kernel_rfl) (by kernel_rfl)) ?_
 intro W base args ds gs before hval0 hW hcnd hsz0 _
 have hval : ∀ (j : Nat) t v, Try.f12.params[j]? = some t → args[j]? = some v → Value.okWide Try.prog W .any base t v := hval0
 have hW' := hW
 obtain ⟨p, q, hA0, hV, rfl, hfz, hnd⟩ := hW
 have hA : DataW.TrodAll enc Try.prog W 0 (fun _ => true) true Try.f12.params.toList args.toList ds p := hA0
 rw [Try.params12] at hA hval
 obtain ⟨v0, vs0, d0, ds0, p0, q0, hargs, rfl, rfl, h0, r0⟩ := trodAll_cons hA
 obtain ⟨rfl, rfl, rfl⟩ := trodAll_nil r0
 obtain rfl : args = #[v0] := by cases args; simp_all
 obtain ⟨rfl, rfl⟩ := trodVars_none hV
 have k0 := h0
 have lt0 : ∀ x ∈ p0, x.block < W.heap.size := by obtain ⟨m, hm⟩ := k0; exact DataW.trod_lt m _ _ _ hm
 obtain ⟨cs0, x0, rfl, K0, w0⟩ := Opens.argStruct (Opens.struct Try.underlying42 (by kernel_rfl) (OpensFs.cons rfl (by kernel_rfl) (Opens.int Try.underlying3) (OpensFs.one rfl (by kernel_rfl) (Opens.slice Try.underlying31 (by kernel_rfl) (Opens.int Try.underlying3))))) (okWide_struct Try.underlying42 (hval 0 42 v0 rfl rfl)) h0
 obtain ⟨_, _, rfl, rfl, ⟨A0_1, c0_1, rfl, hl0_1, hr0_1⟩⟩ := K0
 obtain ⟨w0_0, w0_1⟩ := w0
 clear hA0 hval0 hsz0
 obtain ⟨k, hk⟩ := Pure.FnExactActivityTable x0.1 x0.2 w0_0 w0_1
 refine (Pr.laws_FnExactActivityTable.calls k x0.1 _ _ x0.2 true W hr0_1 hl0_1 ⟨rfl⟩ hk).mono fun e W' ⟨he, bel⟩ => ?_
 subst he
 exact ⟨_, rfl, _, _, _, [], _, [], hW', trodAll_mk1 (shut_bool Try.underlying4 _), (trodAll_cons_mk (Below.trod laidOut (by kernel_rfl) (of_decide_eq_true (by kernel_rfl)) k0 bel lt0) trodAll_mk0), rfl, bel.frame _, fun h => by cases h⟩
theorem over : Rows.fnExactActivityTableRow.holds Try.pinned (OpenSpec.ofChange Rows.fnExactActivityTableSpec) :=
 OpenClaim.holds_of_wide 12 Try.f12 rfl rfl rfl rfl rfl rfl rfl ⟨rfl, rfl, rfl, rfl, rfl⟩ rfl rfl rfl rfl rfl (by kernel_rfl) Try.func12 (by kernel_rfl)
  (of_decide_eq_true (by kernel_rfl)) (by unfold Func.isWrapper; first | (rw [if_pos (by decide +kernel)]; kernel_rfl) | (rw [if_neg (by decide +kernel)]; exact ⟨rfl, rfl⟩))
  (fun os started H enc _ => lifted os started H enc)
theorem proved : Rows.FnExactActivityTableSaid := over
#print axioms proved
end Go.Proofs.Ytbjnkcfkhonkhaa.fnExactActivityTable
namespace Go.Proofs.Ytbjnkcfkhonkhaa
theorem fnExactActivityTable_holds : Rows.FnExactActivityTableSaid := fnExactActivityTable.proved
end Go.Proofs.Ytbjnkcfkhonkhaa
end
