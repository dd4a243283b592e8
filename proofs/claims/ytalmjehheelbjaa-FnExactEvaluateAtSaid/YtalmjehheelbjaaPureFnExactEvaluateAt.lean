/- The value of a polynomial: the program's and the reference's are one loop; the argument stays. -/
import Derived.Test.YtalmjehheelbjaaPFnExactEvaluateAtx1
import Derived.Test.YtalmjehheelbjaaGen
namespace Go.Proofs.Ytalmjehheelbjaa.Pure
open Go.RowKit Go.Proofs.Ytalmjehheelbjaa.PFnExactEvaluateAt Go.Proofs.YtalmjehheelbjaaW.PrintWords Go.Proofs.YtalmjehheelbjaaW.PrintLast

namespace EvaluateAt
theorem toIntS (xs : List Int) (hn : xs.length ≤ 1048576) (k : Nat) (hk : xs.length < k) : laws_toIntS.f k xs = some xs := by
  unfold laws_toIntS.f
  rw [if_pos (by omega), if_pos (by omega)]
  rw [Gen.fill_loop (fun k ys i => laws_toIntS.l0 k xs ys i) (fun i => xs.getD i 0) 0 xs.length (fun k i ys _ hi hy => by
    simp only [laws_toIntS.l0]
    rw [if_pos (by omega), if_pos (by omega), if_pos (by omega), Gen.w64s i (by omega), Gen.rd_nat]
    simp) _ (by simp) k (by omega), Gen.map_getD']
  obtain ⟨m, hm⟩ : ∃ m, k - xs.length = m + 1 := ⟨k - xs.length - 1, by omega⟩
  rw [hm]
  simp only [laws_toIntS.l0]
  rw [if_neg (by omega)]
theorem eqIntS (xs : List Int) (hn : xs.length ≤ 1048576) (k : Nat) (hk : xs.length < k) : laws_eqIntS.f k xs xs = some true := by
  unfold laws_eqIntS.f
  rw [if_pos rfl]
  have := Gen.all_loop (fun k i => laws_eqIntS.l0 k xs xs i) xs.length (fun _ => true) 0 true (fun k i _ hi => by
    simp only [laws_eqIntS.l0]
    rw [if_pos (by omega), if_pos (by omega), if_pos (by omega), if_pos (by trivial), Gen.w64s i (by omega), if_pos (by trivial)]) (fun k _ => by
    simp only [laws_eqIntS.l0]
    rw [if_neg (by omega)]) xs.length 0 k (by omega) (by omega)
  simpa [Gen.all_yes] using this
theorem ends (xs : List Int) (a : Int) (hn : xs.length ≤ 1048576) (d : Nat) : ∀ (k : Nat) (s i : Int), -1 ≤ i → i < xs.length → i < d → d < k → ∃ r, spec_EvaluateAt.l0 k xs a s i = some r := by
  induction d with
  | zero =>
    intro k s i h0 h1 h2 h3
    obtain ⟨k, rfl⟩ : ∃ m, k = m + 1 := ⟨k - 1, by omega⟩
    simp only [spec_EvaluateAt.l0]
    rw [if_neg (by omega)]
    exact ⟨_, rfl⟩
  | succ d ih =>
    intro k s i h0 h1 h2 h3
    obtain ⟨k, rfl⟩ : ∃ m, k = m + 1 := ⟨k - 1, by omega⟩
    simp only [spec_EvaluateAt.l0]
    by_cases hi : i ≥ 0
    · rw [if_pos hi, if_pos (by omega), if_pos (by omega), Gen.w64 (i := i - 1) (by omega) (by omega)]
      exact ih _ _ _ (by omega) (by omega) (by omega) (by omega)
    · rw [if_neg hi]
      exact ⟨_, rfl⟩
theorem same : ∀ k xs a s i, impl_EvaluateAt.l0 k xs a s i = spec_EvaluateAt.l0 k xs a s i := by
  intro k
  induction k with
  | zero => intros; rfl
  | succ k ih =>
    intro xs a s i
    simp only [impl_EvaluateAt.l0, spec_EvaluateAt.l0, ih]
end EvaluateAt
open EvaluateAt in
theorem FnExactEvaluateAt (xs : List Int) (a : Int) (_ : xs.length ≤ maxLen ∧ ∀ x ∈ xs, (Lit.int .i64 x).wf = true) (_ : (Lit.int .i64 a).wf = true) : ∃ k, laws_FnExactEvaluateAt.f k xs a = some true := by
  by_cases hbig : (xs.length : Int) > 1048576
  · refine ⟨0, ?_⟩
    unfold laws_FnExactEvaluateAt.f
    rw [if_pos hbig]
  · have hn : xs.length ≤ 1048576 := by omega
    obtain ⟨r, hr⟩ := ends xs a hn xs.length (xs.length + 1) 0 ((xs.length : Int) - 1) (by omega) (by omega) (by omega) (by omega)
    have hf : spec_EvaluateAt.f (xs.length + 1) xs a = some r := by
      unfold spec_EvaluateAt.f
      rw [Gen.w64 (by omega) (by omega)]
      exact hr
    have hg : impl_EvaluateAt.f (xs.length + 1) xs a = some r := by
      unfold impl_EvaluateAt.f
      rw [Gen.w64 (by omega) (by omega), same]
      exact hr
    refine ⟨xs.length + 1, ?_⟩
    unfold laws_FnExactEvaluateAt.f
    rw [if_neg hbig, toIntS xs hn _ (by omega)]
    simp only [Option.bind_some]
    rw [hf]
    simp only [Option.bind_some]
    rw [hg]
    simp only [Option.bind_some, if_true]
    rw [eqIntS xs hn _ (by omega)]
    rfl
end Go.Proofs.Ytalmjehheelbjaa.Pure
