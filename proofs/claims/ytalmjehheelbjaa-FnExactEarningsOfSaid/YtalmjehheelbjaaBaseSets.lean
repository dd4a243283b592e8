/- Sets as numbers: what has an element; the elements in their order. -/
import Derived.Test.YtalmjehheelbjaaPr0
import Derived.Test.YtalmjehheelbjaaPr5
import Derived.Test.YtalmjehheelbjaaPr9
import Derived.Test.YtalmjehheelbjaaGen
namespace Go.Proofs.Ytalmjehheelbjaa.Base
open Go.RowKit Go.Proofs.Ytalmjehheelbjaa.Pr Go.Proofs.YtalmjehheelbjaaW.PrintWords Go.Proofs.YtalmjehheelbjaaW.PrintLast Go.Proofs.YtalmjehheelbjaaW.PrintMore

def has (s e : Int) : Bool := decide (0 ≤ s ∧ s < 256 ∧ 0 ≤ e ∧ e < 8) && ((Go.bits .and .i64 (shr .i64 s e) 1) == 1)
theorem specHas (s e : Int) : spec_HasElement.f s e = some (has s e) := by
  unfold spec_HasElement.f spec_IsSet.f has
  have h8 : spec_l1In.f 8 0 8 = some true := by decide +kernel
  have hw : wrap64 ((shl .i64 1 (IntKind.u64.wrap 8)) - 1) = 255 := by decide +kernel
  have hu : (0 : Int) ≤ IntKind.u64.wrap 8 := by decide +kernel
  rw [h8]
  simp only [Option.bind_some, if_true]
  rw [if_pos hu, hw]
  unfold spec_l1In.f
  by_cases h0 : s ≥ 0
  · rw [if_pos h0]
    simp only [Option.bind_some]
    by_cases h1 : s ≤ 255
    · rw [if_pos (by simpa using h1)]
      by_cases h2 : e ≥ 0
      · rw [if_pos h2]
        simp only [Option.bind_some]
        by_cases h3 : e ≤ 7
        · rw [if_pos (by simpa using h3)]
          unfold spec_l2Has.f
          have he : IntKind.u64.wrap e = e := by
            have : e = 0 ∨ e = 1 ∨ e = 2 ∨ e = 3 ∨ e = 4 ∨ e = 5 ∨ e = 6 ∨ e = 7 := by omega
            rcases this with rfl | rfl | rfl | rfl | rfl | rfl | rfl | rfl <;> decide +kernel
          rw [he, if_pos h2]
          simp only [Option.bind_some]
          congr 1
          rw [decide_eq_true (by omega), Bool.true_and]
        · rw [if_neg (by simpa using h3), decide_eq_false (by omega)]
          rfl
      · rw [if_neg h2]
        simp only [Option.bind_some]
        rw [if_neg (by simp), decide_eq_false (by omega)]
        rfl
    · rw [if_neg (by simpa using h1), decide_eq_false (by omega)]
      rfl
  · rw [if_neg h0]
    simp only [Option.bind_some]
    rw [if_neg (by simp), decide_eq_false (by omega)]
    rfl
theorem implHas (s e : Int) : impl_HasElement.f s e = some (has s e) := by
  unfold impl_HasElement.f impl_isAny.f has
  by_cases h0 : s ≥ 0
  · rw [if_pos h0]
    simp only [Option.bind_some]
    by_cases h1 : s < 256
    · rw [if_pos (by simpa using h1)]
      by_cases h2 : e ≥ 0
      · rw [if_pos h2]
        by_cases h3 : e < 8
        · rw [if_pos h3, if_pos h2, decide_eq_true (by omega), Bool.true_and]
        · rw [if_neg h3, decide_eq_false (by omega)]
          rfl
      · rw [if_neg h2, decide_eq_false (by omega)]
        rfl
    · rw [if_neg (by simpa using h1), decide_eq_false (by omega)]
      rfl
  · rw [if_neg h0]
    simp only [Option.bind_some]
    rw [if_neg (by simp), decide_eq_false (by omega)]
    rfl
theorem has_far (s : Int) (j : Nat) (h : 8 ≤ j) : has s (j : Int) = false := by
  unfold has
  rw [decide_eq_false (by omega)]
  rfl
def els (s : Int) : List Nat := (List.range' 0 8).filter fun j => has s (j : Int)
theorem elementsOf (s : Int) : Ev (fun k => impl_ElementsOf.f k s) ((els s).map fun j : Nat => (j : Int)) := by
  unfold impl_ElementsOf.f
  refine Gen.ev_loop (fun k s3 i => impl_ElementsOf.l0 k s s3 i) 8 (fun j s3 => if has s (j : Int) = true then s3 ++ [(j : Int)] else s3) (fun i s3 => s3.length ≤ i) _ (fun i s3 hi hP => ⟨?_, fun h => Ev.step (fun k => ?_) h⟩) 8 0 [] rfl (by simp) (fun _ => Gen.ev_at 1 (fun k hk => ?_))
  · by_cases hh : has s (i : Int) = true
    · rw [if_pos hh]; simp; omega
    · rw [if_neg hh]; omega
  · simp only [impl_ElementsOf.l0]
    rw [if_pos (by omega), implHas]
    simp only [Option.bind_some]
    rw [Gen.w64s i (by omega)]
    by_cases hh : has s (i : Int) = true
    · rw [if_pos hh, if_pos (by omega), if_pos hh]
    · rw [if_neg hh, if_neg hh]
  · obtain ⟨m, rfl⟩ : ∃ m, k = m + 1 := ⟨k - 1, by omega⟩
    simp only [impl_ElementsOf.l0]
    rw [if_neg (by omega), Gen.foldl_append]
    rfl
end Go.Proofs.Ytalmjehheelbjaa.Base
