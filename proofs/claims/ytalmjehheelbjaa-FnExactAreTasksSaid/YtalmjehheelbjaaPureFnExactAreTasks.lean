/- AreTasks: the program's loop and the reference's give one answer; the argument stays. -/
import Derived.Test.YtalmjehheelbjaaPr0
import Derived.Test.YtalmjehheelbjaaPr5
import Derived.Test.YtalmjehheelbjaaPr6
import Derived.Test.YtalmjehheelbjaaPr8
import Derived.Test.YtalmjehheelbjaaBaseTasks
namespace Go.Proofs.Ytalmjehheelbjaa.Pure
open Go.RowKit Go.Proofs.Ytalmjehheelbjaa.Pr Go.Proofs.Ytalmjehheelbjaa.Base Go.Proofs.YtalmjehheelbjaaW.PrintWords Go.Proofs.YtalmjehheelbjaaW.PrintLast Go.Proofs.YtalmjehheelbjaaW.PrintMore

namespace AreTasks
def good (x : S60) : Bool := decide (0 ≤ x.f0 ∧ x.f0 ≤ 6 ∧ 0 ≤ x.f1 ∧ x.f1 ≤ 1000)
def all (xs : List S60) : Bool := (List.range' 0 xs.length).all (fun i => good (xs.getD i z60)) && decide ((xs.length : Int) ≤ 8)
theorem spec (xs : List S60) (hn : xs.length ≤ 1048576) (k : Nat) (hk : xs.length < k) : spec_AreTasks.f k xs = some (all xs) := by
  unfold spec_AreTasks.f
  refine Gen.all_loop (fun k i => spec_AreTasks.l0 k xs i) xs.length (fun i => good (xs.getD i z60)) 0 (decide ((xs.length : Int) ≤ 8)) (fun k i _ hi => ?_) (fun k _ => ?_) xs.length 0 k (by omega) (by omega)
  · simp only [spec_AreTasks.l0, spec_l1In.f]
    rw [if_pos (by omega), if_pos (by omega), Gen.w64s i (by omega)]
    show ((if (xs.getD i _).f0 ≥ 0 then some (decide ((xs.getD i _).f0 ≤ 6)) else some false).bind _) = _
    unfold good
    by_cases h0 : (xs.getD i z60).f0 ≥ 0
    · rw [if_pos h0]
      simp only [Option.bind_some]
      by_cases h1 : (xs.getD i z60).f0 ≤ 6
      · rw [if_pos (by simpa using h1)]
        show ((if (xs.getD i _).f1 ≥ 0 then some (decide ((xs.getD i _).f1 ≤ 1000)) else some false).bind _) = _
        by_cases h2 : (xs.getD i z60).f1 ≥ 0
        · rw [if_pos h2]
          simp only [Option.bind_some]
          by_cases h3 : (xs.getD i z60).f1 ≤ 1000
          · rw [if_pos (by simpa using h3), if_pos (decide_eq_true (by omega))]
          · rw [if_neg (by simpa using h3), if_neg (by rw [decide_eq_true_eq]; omega)]
        · rw [if_neg h2]
          simp only [Option.bind_some]
          rw [if_neg (by simp), if_neg (by rw [decide_eq_true_eq]; omega)]
      · rw [if_neg (by simpa using h1), if_neg (by rw [decide_eq_true_eq]; omega)]
    · rw [if_neg h0]
      simp only [Option.bind_some]
      rw [if_neg (by simp), if_neg (by rw [decide_eq_true_eq]; omega)]
  · simp only [spec_AreTasks.l0]
    rw [if_neg (by omega)]
theorem impl (xs : List S60) (hn : xs.length ≤ 1048576) (k : Nat) (hk : xs.length < k) : impl_AreTasks.f k xs = some (all xs) := by
  unfold impl_AreTasks.f
  refine Gen.all_loop (fun k i => impl_AreTasks.l0 k xs xs (xs.length : Int) i) xs.length (fun i => good (xs.getD i z60)) 0 (decide ((xs.length : Int) ≤ 8)) (fun k i _ hi => ?_) (fun k _ => ?_) xs.length 0 k (by omega) (by omega)
  · simp only [impl_AreTasks.l0]
    rw [if_pos (by omega), if_pos (by omega), if_pos (by omega), Gen.w64s i (by omega)]
    unfold good
    show (if (xs.getD i _).f0 < 0 then _ else _) = _
    by_cases h0 : (xs.getD i z60).f0 < 0
    · rw [if_pos h0, if_neg (by rw [decide_eq_true_eq]; omega)]
    · rw [if_neg h0]
      show (if (xs.getD i _).f0 > 6 then _ else _) = _
      by_cases h1 : (xs.getD i z60).f0 > 6
      · rw [if_pos h1, if_neg (by rw [decide_eq_true_eq]; omega)]
      · rw [if_neg h1]
        show (if (xs.getD i _).f1 < 0 then _ else _) = _
        by_cases h2 : (xs.getD i z60).f1 < 0
        · rw [if_pos h2, if_neg (by rw [decide_eq_true_eq]; omega)]
        · rw [if_neg h2]
          show (if (xs.getD i _).f1 > 1000 then _ else _) = _
          by_cases h3 : (xs.getD i z60).f1 > 1000
          · rw [if_pos h3, if_neg (by rw [decide_eq_true_eq]; omega)]
          · rw [if_neg h3, if_pos (decide_eq_true (by omega))]
  · simp only [impl_AreTasks.l0]
    rw [if_neg (by omega)]
end AreTasks
open AreTasks in
theorem FnExactAreTasks (xs : List S62) (hm : xs.length ≤ maxLen) : ∃ k, laws_FnExactAreTasks.f k xs = some true := by
  refine ⟨xs.length + 1, ?_⟩
  unfold maxLen at hm
  unfold laws_FnExactAreTasks.f laws_szTaskS.f
  rw [Gen.w64 (by omega) (by omega)]
  by_cases hbig : 1048576 - (xs.length : Int) < 0
  · rw [if_pos hbig]
    rfl
  · rw [if_neg hbig]
    simp only [Option.bind_some]
    rw [if_neg hbig, toTaskS xs (by omega) _ (by omega)]
    simp only [Option.bind_some]
    rw [spec _ (by simp; omega) _ (by simp)]
    simp only [Option.bind_some]
    rw [impl _ (by simp; omega) _ (by simp)]
    simp only [Option.bind_some]
    rw [if_neg (by simp), eqTaskS _ (by simp; omega) _ (by simp)]
    rfl
end Go.Proofs.Ytalmjehheelbjaa.Pure
