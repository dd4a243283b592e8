/- The six texts of the examples: the program's are the reference's. -/
import Derived.Test.YtalmjehheelbjaaPFnExactExampleTextx1
namespace Go.Proofs.Ytalmjehheelbjaa.Pure
open Go.RowKit Go.Proofs.Ytalmjehheelbjaa.PFnExactExampleText Go.Proofs.YtalmjehheelbjaaW.PrintWords Go.Proofs.YtalmjehheelbjaaW.PrintLast

theorem FnExactExampleText : laws_FnExactExampleText.Pure := by
  intro a ha
  unfold laws_FnExactExampleText.f
  by_cases h1 : a < 1
  · unfold spec_ExampleText.f impl_ExampleText.f
    rw [if_neg (by omega), if_neg (by omega), if_neg (by omega), if_neg (by omega), if_neg (by omega), if_neg (by omega), if_pos h1]
    simp only [Option.bind_some, if_true]
  · by_cases h2 : a > 6
    · unfold spec_ExampleText.f impl_ExampleText.f
      rw [if_neg (by omega), if_neg (by omega), if_neg (by omega), if_neg (by omega), if_neg (by omega), if_neg (by omega), if_neg h1, if_pos h2]
      simp only [Option.bind_some, if_true]
    · have : a = 1 ∨ a = 2 ∨ a = 3 ∨ a = 4 ∨ a = 5 ∨ a = 6 := by omega
      rcases this with rfl | rfl | rfl | rfl | rfl | rfl <;> decide +kernel
end Go.Proofs.Ytalmjehheelbjaa.Pure
