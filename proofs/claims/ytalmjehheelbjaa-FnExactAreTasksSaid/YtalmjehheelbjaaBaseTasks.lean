/- What the laws' own helpers do: copies and comparisons of slices of tasks. -/
import Derived.Test.YtalmjehheelbjaaPr0
import Derived.Test.YtalmjehheelbjaaPr5
import Derived.Test.YtalmjehheelbjaaPr6
import Derived.Test.YtalmjehheelbjaaPr7
import Derived.Test.YtalmjehheelbjaaGen
namespace Go.Proofs.Ytalmjehheelbjaa.Base
open Go.RowKit Go.Proofs.Ytalmjehheelbjaa.Pr Go.Proofs.YtalmjehheelbjaaW.PrintWords Go.Proofs.YtalmjehheelbjaaW.PrintLast Go.Proofs.YtalmjehheelbjaaW.PrintMore

abbrev TA := S62
abbrev TB := S60
def mkTask (x : TA) : TB := ⟨x.f0, x.f1⟩
theorem toTaskS (xs : List TA) (hn : xs.length ≤ 1048576) (k : Nat) (hk : xs.length < k) : laws_toTaskS.f k xs = some (xs.map mkTask) := by
  unfold laws_toTaskS.f
  rw [if_pos (by omega), if_pos (by omega)]
  rw [Gen.fill_loop (fun k ys i => laws_toTaskS.l0 k xs ys i) (fun i => mkTask (xs.getD i z62)) 0 xs.length (fun k i ys _ hi hy => by
    simp only [laws_toTaskS.l0, laws_toTask.f]
    rw [if_pos (by omega), if_pos (by omega)]
    simp only [Option.bind_some]
    rw [if_pos (by omega), Gen.w64s i (by omega)]
    rfl) _ (by simp) k (by omega), Gen.map_getD xs]
  obtain ⟨m, hm⟩ : ∃ m, k - xs.length = m + 1 := ⟨k - xs.length - 1, by omega⟩
  rw [hm]
  simp only [laws_toTaskS.l0]
  rw [if_neg (by omega)]
theorem eqTaskS (xs : List TB) (hn : xs.length ≤ 1048576) (k : Nat) (hk : xs.length < k) : laws_eqTaskS.f k xs xs = some true := by
  unfold laws_eqTaskS.f
  rw [if_pos rfl]
  have := Gen.all_loop (fun k i => laws_eqTaskS.l0 k xs xs i) xs.length (fun _ => true) 0 true (fun k i _ hi => by
    simp only [laws_eqTaskS.l0, laws_eqTask.f]
    rw [if_pos (by omega), if_pos (by omega), if_pos (by omega), if_pos (by trivial), if_pos (by trivial)]
    simp only [Option.bind_some]
    rw [if_pos (by trivial), Gen.w64s i (by omega), if_pos (by trivial)]) (fun k _ => by
    simp only [laws_eqTaskS.l0]
    rw [if_neg (by omega)]) xs.length 0 k (by omega) (by omega)
  simpa [Gen.all_yes] using this
end Go.Proofs.Ytalmjehheelbjaa.Base
