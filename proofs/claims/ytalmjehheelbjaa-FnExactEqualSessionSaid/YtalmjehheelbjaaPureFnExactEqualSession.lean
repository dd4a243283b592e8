/- EqualSession: two sessions are compared by the program as by the reference; the arguments stay. -/
import Derived.Test.YtalmjehheelbjaaPr0
import Derived.Test.YtalmjehheelbjaaPr15
import Derived.Test.YtalmjehheelbjaaPr16
import Derived.Test.YtalmjehheelbjaaPr17
import Derived.Test.YtalmjehheelbjaaPr18
import Derived.Test.YtalmjehheelbjaaBaseM
namespace Go.Proofs.Ytalmjehheelbjaa.Pure
open Go.RowKit Go.Proofs.Ytalmjehheelbjaa.Pr Go.Proofs.Ytalmjehheelbjaa.Base Go.Proofs.YtalmjehheelbjaaW.PrintWords Go.Proofs.YtalmjehheelbjaaW.PrintLast Go.Proofs.YtalmjehheelbjaaW.PrintMore

namespace EqualSession
def same (xs ys : List Int) : Bool := if xs.length = ys.length then (List.range' 0 xs.length).all (fun i => decide (xs.getD i 0 = ys.getD i 0)) && true else false
def eqM (m : Int) (xs : List Int) (n : Int) (ys : List Int) : Bool := if m = n then same xs ys else false
theorem szSession (m : Int) (xs : List Int) (n : Int) (ys : List Int) (left : Int) (hx : xs.length ≤ maxLen) (hy : ys.length ≤ maxLen) (h1 : left ≤ 1048576) (h0 : 0 ≤ left) :
    ∃ z, laws_szSession.f m xs n ys left = some z ∧ (z < 0 ∨ (xs.length ≤ 1048576 ∧ ys.length ≤ 1048576 ∧ 0 ≤ z ∧ z ≤ left)) := by
  unfold laws_szSession.f
  obtain ⟨z, hz, h⟩ := szMatroid m xs left hx h1 h0
  rw [hz]
  simp only [Option.bind_some]
  by_cases hn : z < 0
  · exact ⟨-1, by rw [if_pos hn], .inl (by omega)⟩
  · obtain ⟨h2, h3, h4⟩ := h.resolve_left hn
    obtain ⟨z', hz', h'⟩ := szMatroid n ys z hy (by omega) h3
    rw [if_neg hn, hz']
    simp only [Option.bind_some]
    by_cases hn' : z' < 0
    · exact ⟨-1, by rw [if_pos hn'], .inl (by omega)⟩
    · obtain ⟨h5, h6, h7⟩ := h'.resolve_left hn'
      exact ⟨z', by rw [if_neg hn'], .inr ⟨h2, h5, h6, by omega⟩⟩
theorem toSession (m : Int) (xs : List Int) (n : Int) (ys : List Int) (hx : xs.length ≤ 1048576) (hy : ys.length ≤ 1048576) : Ev (fun k => laws_toSession.f k m xs n ys) (m, xs, n, ys) := by
  unfold laws_toSession.f
  exact Ev.bind (toMatroid m xs hx) (Ev.bind (toMatroid n ys hy) (Ev.now _))
theorem eqSession (m : Int) (xs : List Int) (n : Int) (ys : List Int) (hx : xs.length ≤ 1048576) (hy : ys.length ≤ 1048576) : Ev (fun k => laws_eqSession.f k m xs n ys m xs n ys) true := by
  unfold laws_eqSession.f
  refine Ev.bind (eqMatroid m xs hx) ?_
  simp only [if_true]
  exact Ev.bind (eqMatroid n ys hy) (Ev.now _)
theorem specM (m : Int) (xs : List Int) (n : Int) (ys : List Int) (hx : xs.length ≤ 1048576) : Ev (fun k => spec_EqualMatroid.f k m xs n ys) (eqM m xs n ys) := by
  refine Gen.ev_at (xs.length + 3) (fun k hk => ?_)
  obtain ⟨k, rfl⟩ : ∃ q, k = q + 1 := ⟨k - 1, by omega⟩
  unfold spec_EqualMatroid.f eqM
  simp only [spec_EqualMatroid.j0]
  by_cases hmn : m = n
  · rw [if_pos hmn, if_pos hmn]
    unfold same
    by_cases hl : xs.length = ys.length
    · rw [if_neg (by simp [hl]), if_pos hl]
      exact Gen.all_loop (fun k i => spec_EqualMatroid.l0 k i m xs n ys) xs.length (fun i => decide (xs.getD i 0 = ys.getD i 0)) 0 true (fun k i _ hi => by
        simp only [spec_EqualMatroid.l0]
        rw [if_pos (by omega), if_pos (by omega), if_pos (by omega), Gen.w64s i (by omega), Gen.rd_nat, Gen.rd_nat]
        by_cases he : xs.getD i 0 = ys.getD i 0
        · rw [if_pos he, if_pos (decide_eq_true he)]
        · rw [if_neg he, if_neg (by rw [decide_eq_true_eq]; exact he)]) (fun k _ => by
        simp only [spec_EqualMatroid.l0]
        rw [if_neg (by omega)]) xs.length 0 k (by omega) (by omega)
    · rw [if_pos (by simp; omega), if_neg hl]
  · rw [if_neg hmn, if_neg hmn, if_pos trivial]
theorem implM (m : Int) (xs : List Int) (n : Int) (ys : List Int) (hx : xs.length ≤ 1048576) : Ev (fun k => impl_EqualMatroid.f k m xs n ys) (eqM m xs n ys) := by
  refine Gen.ev_at (xs.length + 3) (fun k hk => ?_)
  unfold impl_EqualMatroid.f eqM slices_Equal_int_int.f
  by_cases hmn : m = n
  · rw [if_pos hmn, if_pos hmn]
    unfold same
    by_cases hl : xs.length = ys.length
    · rw [if_pos (by omega), if_pos hl]
      have := Gen.all_loop (fun k i => slices_Equal_int_int.l0 k xs ys (xs.length : Int) i) xs.length (fun i => decide (xs.getD i 0 = ys.getD i 0)) 0 true (fun k i _ hi => by
        simp only [slices_Equal_int_int.l0]
        rw [if_pos (by omega), if_pos (by omega), if_pos (by omega), if_pos (by omega), Gen.w64s i (by omega), Gen.rd_nat, Gen.rd_nat]
        by_cases he : xs.getD i 0 = ys.getD i 0
        · rw [if_pos he, if_pos (decide_eq_true he)]
        · rw [if_neg he, if_neg (by rw [decide_eq_true_eq]; exact he)]) (fun k _ => by
        simp only [slices_Equal_int_int.l0]
        rw [if_neg (by omega)]) xs.length 0 k (by omega) (by omega)
      have this' : slices_Equal_int_int.l0 k xs ys (xs.length : Int) 0 = _ := this
      rw [this']
      rfl
    · rw [if_neg (by omega), if_neg hl]
      rfl
  · rw [if_neg hmn, if_neg hmn]
def eqS (m : Int) (xs : List Int) (n : Int) (ys : List Int) (m' : Int) (xs' : List Int) (n' : Int) (ys' : List Int) : Bool := if eqM m xs m' xs' = true then eqM n ys n' ys' else false
theorem specS (m : Int) (xs : List Int) (n : Int) (ys : List Int) (m' : Int) (xs' : List Int) (n' : Int) (ys' : List Int) (hx : xs.length ≤ 1048576) (hy : ys.length ≤ 1048576) : Ev (fun k => spec_EqualSession.f k m xs n ys m' xs' n' ys') (eqS m xs n ys m' xs' n' ys') := by
  unfold spec_EqualSession.f eqS
  refine Ev.bind (specM m xs m' xs' hx) ?_
  by_cases h : eqM m xs m' xs' = true
  · simp only [if_pos h]
    exact Ev.bind (specM n ys n' ys' hy) (Ev.now _)
  · simp only [if_neg h]
    exact Ev.now _
theorem implS (m : Int) (xs : List Int) (n : Int) (ys : List Int) (m' : Int) (xs' : List Int) (n' : Int) (ys' : List Int) (hx : xs.length ≤ 1048576) (hy : ys.length ≤ 1048576) : Ev (fun k => impl_EqualSession.f k m xs n ys m' xs' n' ys') (eqS m xs n ys m' xs' n' ys') := by
  unfold impl_EqualSession.f eqS
  refine Ev.bind (implM m xs m' xs' hx) ?_
  by_cases h : eqM m xs m' xs' = true
  · simp only [if_pos h]
    exact Ev.bind (implM n ys n' ys' hy) (Ev.now _)
  · simp only [if_neg h]
    exact Ev.now _
end EqualSession
open EqualSession in
theorem FnExactEqualSession (m : Int) (xs : List Int) (n : Int) (ys : List Int) (m' : Int) (xs' : List Int) (n' : Int) (ys' : List Int)
    (_ : (Lit.int .i64 m).wf = true) (hx : xs.length ≤ maxLen ∧ ∀ x ∈ xs, (Lit.int .i64 x).wf = true) (_ : (Lit.int .i64 n).wf = true) (hy : ys.length ≤ maxLen ∧ ∀ x ∈ ys, (Lit.int .i64 x).wf = true)
    (_ : (Lit.int .i64 m').wf = true) (hx' : xs'.length ≤ maxLen ∧ ∀ x ∈ xs', (Lit.int .i64 x).wf = true) (_ : (Lit.int .i64 n').wf = true) (hy' : ys'.length ≤ maxLen ∧ ∀ x ∈ ys', (Lit.int .i64 x).wf = true) :
    ∃ k, laws_FnExactEqualSession.f k m xs n ys m' xs' n' ys' = some true := by
  refine Ev.rounds ?_
  unfold laws_FnExactEqualSession.f
  obtain ⟨z, hz, h⟩ := szSession m xs n ys 1048576 hx.1 hy.1 (by omega) (by omega)
  rw [hz]
  simp only [Option.bind_some]
  by_cases hn : z < 0
  · simp only [if_pos hn]
    exact Ev.now _
  · obtain ⟨h1, h2, h3, h4⟩ := h.resolve_left hn
    obtain ⟨z', hz', h'⟩ := szSession m' xs' n' ys' z hx'.1 hy'.1 (by omega) h3
    simp only [if_neg hn, hz', Option.bind_some]
    by_cases hn' : z' < 0
    · simp only [if_pos hn']
      exact Ev.now _
    · obtain ⟨h1', h2', _, _⟩ := h'.resolve_left hn'
      simp only [if_neg hn']
      have t1 := toSession m xs n ys h1 h2
      have t2 := toSession m' xs' n' ys' h1' h2'
      refine Ev.bind t1 (Ev.bind t2 (Ev.bind (specS m xs n ys m' xs' n' ys' h1 h2) (Ev.bind t1 (Ev.bind t2 (Ev.bind (implS m xs n ys m' xs' n' ys' h1 h2) ?_)))))
      simp only [bne_self_eq_false, Bool.false_eq_true, if_false]
      refine Ev.bind t1 (Ev.bind (eqSession m xs n ys h1 h2) ?_)
      simp only [if_true]
      exact Ev.bind t2 (Ev.bind (eqSession m' xs' n' ys' h1' h2') (Ev.now _))
end Go.Proofs.Ytalmjehheelbjaa.Pure
