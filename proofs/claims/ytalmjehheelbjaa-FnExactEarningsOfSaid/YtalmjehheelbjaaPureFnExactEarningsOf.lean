/- EarningsOf: a sum over the elements of a set, by the program and by the reference; the argument stays. -/
import Derived.Test.YtalmjehheelbjaaPr0
import Derived.Test.YtalmjehheelbjaaPr5
import Derived.Test.YtalmjehheelbjaaPr9
import Derived.Test.YtalmjehheelbjaaPr10
import Derived.Test.YtalmjehheelbjaaPr11
import Derived.Test.YtalmjehheelbjaaBaseTasks
import Derived.Test.YtalmjehheelbjaaBaseSets
namespace Go.Proofs.Ytalmjehheelbjaa.Pure
open Go.RowKit Go.Proofs.Ytalmjehheelbjaa.Pr Go.Proofs.Ytalmjehheelbjaa.Base Go.Proofs.YtalmjehheelbjaaW.PrintWords Go.Proofs.YtalmjehheelbjaaW.PrintLast Go.Proofs.YtalmjehheelbjaaW.PrintMore

namespace EarningsOf
def one (xs : List TB) (a : Int) (s : Int) (j : Nat) : Int := if has a (j : Int) = true then (if j < xs.length then wrap64 (s + (xs.getD j z60).f1) else s) else s
def sum (xs : List TB) (a : Int) : Int := (List.range' 0 8).foldl (one xs a) 0
theorem spec (xs : List TB) (a : Int) (hn : xs.length ≤ 1048576) : Ev (fun k => spec_EarningsOf.f k xs a) (sum xs a) := by
  unfold spec_EarningsOf.f
  have e : sum xs a = (List.range' 0 xs.length).foldl (one xs a) 0 := by
    unfold sum
    rw [← Gen.foldl_more (one xs a) 8 xs.length 0 (fun j hj s => by unfold one; rw [has_far a j hj]; rfl), ← Gen.foldl_more (one xs a) xs.length 8 0 (fun j hj s => by unfold one; rw [if_neg (show ¬ j < xs.length by omega)]; simp), Nat.add_comm]
  refine Gen.ev_loop (fun k s i => spec_EarningsOf.l0 k xs a s i) xs.length (fun j s => one xs a s j) (fun _ _ => True) _ (fun i s hi _ => ⟨trivial, fun h => Ev.step (fun k => ?_) h⟩) xs.length 0 0 (by omega) trivial (fun _ => Gen.ev_at 1 (fun k hk => ?_))
  · simp only [spec_EarningsOf.l0]
    rw [if_pos (by omega), specHas]
    simp only [Option.bind_some]
    rw [Gen.w64s i (by omega)]
    unfold one
    by_cases hh : has a (i : Int) = true
    · rw [if_pos hh, if_pos (by omega), if_pos hh, if_pos hi]
      rfl
    · rw [if_neg hh, if_neg hh]
  · obtain ⟨m, rfl⟩ : ∃ m, k = m + 1 := ⟨k - 1, by omega⟩
    simp only [spec_EarningsOf.l0]
    rw [if_neg (by omega), e]
theorem impl (xs : List TB) (a : Int) : Ev (fun k => impl_EarningsOf.f k xs a) (sum xs a) := by
  unfold impl_EarningsOf.f
  refine Ev.bind (elementsOf a) ?_
  have hle : (els a).length ≤ 8 := by unfold els; exact Nat.le_trans (List.length_filter_le _ _) (by simp)
  have key : ∀ (d i : Nat) (s : Int), i + d = (els a).length → Ev (fun k => impl_EarningsOf.l0 k xs s ((els a).map fun j : Nat => (j : Int)) (((els a).map fun j : Nat => (j : Int)).length : Int) (i : Int)) (((els a).drop i).foldl (fun s j => if j < xs.length then wrap64 (s + (xs.getD j z60).f1) else s) s) := by
    intro d
    induction d with
    | zero =>
      intro i s hi
      refine Gen.ev_at 1 (fun k hk => ?_)
      obtain ⟨m, rfl⟩ : ∃ m, k = m + 1 := ⟨k - 1, by omega⟩
      simp only [impl_EarningsOf.l0]
      rw [if_neg (by simp; omega), List.drop_of_length_le (by omega)]
      rfl
    | succ d ih =>
      intro i s hi
      have hlt : i < (els a).length := by omega
      refine Ev.step (fun k => ?_) (f := fun k => impl_EarningsOf.l0 k xs (if (els a)[i] < xs.length then wrap64 (s + (xs.getD (els a)[i] z60).f1) else s) ((els a).map fun j : Nat => (j : Int)) (((els a).map fun j : Nat => (j : Int)).length : Int) ((i + 1 : Nat) : Int)) ?_
      · simp only [impl_EarningsOf.l0]
        have hr : rd ((els a).map fun j : Nat => (j : Int)) (i : Int) = (((els a)[i] : Nat) : Int) := by
          rw [Gen.rd_nat]
          simp [List.getD, hlt]
        rw [if_pos (by simp; omega), if_pos (by omega), if_pos (by simp; omega), hr, Gen.w64s i (by omega)]
        by_cases hj : (els a)[i] < xs.length
        · rw [if_pos (by omega), if_pos (by omega), if_pos hj]
          rfl
        · rw [if_neg (by omega), if_neg hj]
      · rw [List.drop_eq_getElem_cons hlt, List.foldl_cons]
        exact ih (i + 1) _ (by omega)
  have := key (els a).length 0 0 (by omega)
  have e : ((els a).drop 0).foldl (fun s j => if j < xs.length then wrap64 (s + (xs.getD j z60).f1) else s) 0 = sum xs a := by
    rw [List.drop_zero]
    unfold els sum
    rw [List.foldl_filter]
    rfl
  rw [e] at this
  exact this
end EarningsOf
open EarningsOf in
theorem FnExactEarningsOf (xs : List TA) (a : Int) (hm : xs.length ≤ maxLen) (_ : (Lit.int .i64 a).wf = true) : ∃ k, laws_FnExactEarningsOf.f k xs a = some true := by
  unfold maxLen at hm
  refine Ev.rounds ?_
  unfold laws_FnExactEarningsOf.f laws_szTaskS.f
  rw [Gen.w64 (by omega) (by omega)]
  by_cases hbig : 1048576 - (xs.length : Int) < 0
  · rw [if_pos hbig]
    exact Gen.ev_at 0 (fun k _ => rfl)
  · have hl : (xs.map mkTask).length ≤ 1048576 := by simp; omega
    have hto : Ev (fun k => laws_toTaskS.f k xs) (xs.map mkTask) := Gen.ev_at (xs.length + 1) (fun k hk => toTaskS xs (by omega) k (by omega))
    simp only [if_neg hbig, Option.bind_some]
    refine Ev.bind hto (Ev.bind (spec _ a hl) (Ev.bind hto (Ev.bind (impl _ a) ?_)))
    simp only [if_true]
    refine Ev.bind hto (Ev.bind (Gen.ev_at ((xs.map mkTask).length + 1) (fun k hk => eqTaskS _ hl k (by omega))) ?_)
    exact Gen.ev_at 0 (fun k _ => rfl)
end Go.Proofs.Ytalmjehheelbjaa.Pure
