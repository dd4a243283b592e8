/- EvaluateTutte: the value of a table at two numbers, by the program and by the reference; the argument stays. -/
import Derived.Test.YtalmjehheelbjaaPr0
import Derived.Test.YtalmjehheelbjaaPr12
import Derived.Test.YtalmjehheelbjaaPr13
import Derived.Test.YtalmjehheelbjaaPr14
import Derived.Test.YtalmjehheelbjaaBaseSS
namespace Go.Proofs.Ytalmjehheelbjaa.Pure
open Go.RowKit Go.Proofs.Ytalmjehheelbjaa.Pr Go.Proofs.Ytalmjehheelbjaa.Base Go.Proofs.YtalmjehheelbjaaW.PrintWords Go.Proofs.YtalmjehheelbjaaW.PrintLast Go.Proofs.YtalmjehheelbjaaW.PrintMore

namespace EvaluateTutte
/-- The value. -/
def cell (y : Int) (s : Int × Int) (c : Int) : Int × Int := (wrap64 (s.1 + wrap64 (c * s.2)), wrap64 (s.2 * y))
def row (x y : Int) (s : Int × Int) (r : List Int) : Int × Int := ((r.foldl (cell y) s).1, wrap64 (s.2 * x))
def val (xs : List (List Int)) (x y : Int) : Int := (xs.foldl (row x y) (0, 1)).1
theorem spec (xs : List (List Int)) (x y : Int) (h : Small xs) : Ev (fun k => spec_EvaluateTutte.f k xs x y) (val xs x y) := by
  have hn := h.1
  have inner : ∀ (i : Nat), i < xs.length → ∀ (r : Int) (p : Int) (d j : Nat) (s : Int × Int), j + d = (xs.getD i []).length →
      Ev (fun k => spec_EvaluateTutte.l0 k xs x y (((xs.getD i []).drop j).foldl (cell y) s).1 (wrap64 (p * x)) ((i + 1 : Nat) : Int)) r →
      Ev (fun k => spec_EvaluateTutte.l1 k xs x y s.1 p (i : Int) s.2 (j : Int)) r := by
    intro i hi r p d
    have hle := h.at_ i
    induction d with
    | zero =>
      intro j s hj hr
      refine Ev.step (fun k => ?_) hr
      simp only [spec_EvaluateTutte.l1]
      rw [if_pos (by omega), if_pos (by omega), rdL, if_neg (by omega), List.drop_of_length_le (by omega), Gen.w64s i (by omega)]
      rfl
    | succ d ih =>
      intro j s hj hr
      rw [drop_getD _ 0 j (by omega), List.foldl_cons] at hr
      refine Ev.step (fun k => ?_) (ih (j + 1) (cell y s ((xs.getD i []).getD j 0)) (by omega) hr)
      simp only [spec_EvaluateTutte.l1]
      rw [if_pos (by omega), if_pos (by omega), rdL, if_pos (by omega), if_pos (by omega), Gen.rd_nat, Gen.w64s j (by omega)]
      rfl
  have outer : ∀ (d i : Nat) (s : Int × Int), i + d = xs.length → Ev (fun k => spec_EvaluateTutte.l0 k xs x y s.1 s.2 (i : Int)) ((xs.drop i).foldl (row x y) s).1 := by
    intro d
    induction d with
    | zero =>
      intro i s hi
      refine Gen.ev_at 1 (fun k hk => ?_)
      obtain ⟨m, rfl⟩ : ∃ m, k = m + 1 := ⟨k - 1, by omega⟩
      simp only [spec_EvaluateTutte.l0]
      rw [if_neg (by omega), List.drop_of_length_le (by omega)]
      rfl
    | succ d ih =>
      intro i s hi
      have hlt : i < xs.length := by omega
      rw [drop_getD xs [] i hlt, List.foldl_cons]
      refine Ev.step (fun k => ?_) (inner i hlt _ s.2 (xs.getD i []).length 0 s (by omega) (by rw [List.drop_zero]; exact ih (i + 1) (row x y s (xs.getD i [])) (by omega)))
      simp only [spec_EvaluateTutte.l0]
      rw [if_pos (by omega)]
      rfl
  exact outer xs.length 0 (0, 1) (by omega)
theorem impl (xs : List (List Int)) (x y : Int) (h : Small xs) : Ev (fun k => impl_EvaluateTutte.f k xs x y) (val xs x y) := by
  have hn := h.1
  have inner : ∀ (i : Nat), i < xs.length → ∀ (r : Int) (p : Int) (d j : Nat) (s : Int × Int), j + d = (xs.getD i []).length →
      Ev (fun k => impl_EvaluateTutte.l0 k x y (((xs.getD i []).drop j).foldl (cell y) s).1 (wrap64 (p * x)) xs (xs.length : Int) ((i + 1 : Nat) : Int)) r →
      Ev (fun k => impl_EvaluateTutte.l1 k x y s.1 p s.2 xs (xs.length : Int) (i : Int) (xs.getD i []) ((xs.getD i []).length : Int) (j : Int)) r := by
    intro i hi r p d
    have hle := h.at_ i
    induction d with
    | zero =>
      intro j s hj hr
      refine Ev.step (fun k => ?_) hr
      simp only [impl_EvaluateTutte.l1]
      rw [if_neg (by omega), List.drop_of_length_le (by omega), Gen.w64s i (by omega)]
      rfl
    | succ d ih =>
      intro j s hj hr
      rw [drop_getD _ 0 j (by omega), List.foldl_cons] at hr
      refine Ev.step (fun k => ?_) (ih (j + 1) (cell y s ((xs.getD i []).getD j 0)) (by omega) hr)
      simp only [impl_EvaluateTutte.l1]
      rw [if_pos (by omega), if_pos (by omega), if_pos (by omega), Gen.rd_nat, Gen.w64s j (by omega)]
      rfl
  have outer : ∀ (d i : Nat) (s : Int × Int), i + d = xs.length → Ev (fun k => impl_EvaluateTutte.l0 k x y s.1 s.2 xs (xs.length : Int) (i : Int)) ((xs.drop i).foldl (row x y) s).1 := by
    intro d
    induction d with
    | zero =>
      intro i s hi
      refine Gen.ev_at 1 (fun k hk => ?_)
      obtain ⟨m, rfl⟩ : ∃ m, k = m + 1 := ⟨k - 1, by omega⟩
      simp only [impl_EvaluateTutte.l0]
      rw [if_neg (by omega), List.drop_of_length_le (by omega)]
      rfl
    | succ d ih =>
      intro i s hi
      have hlt : i < xs.length := by omega
      rw [drop_getD xs [] i hlt, List.foldl_cons]
      refine Ev.step (fun k => ?_) (inner i hlt _ s.2 (xs.getD i []).length 0 s (by omega) (by rw [List.drop_zero]; exact ih (i + 1) (row x y s (xs.getD i [])) (by omega)))
      simp only [impl_EvaluateTutte.l0]
      rw [if_pos (by omega), if_pos (by omega), if_pos (by omega), rdL]
      rfl
  exact outer xs.length 0 (0, 1) (by omega)
end EvaluateTutte
open EvaluateTutte in
theorem FnExactEvaluateTutte (xs : List (List Int)) (x y : Int) (hm : xs.length ≤ maxLen ∧ ∀ r ∈ xs, r.length ≤ maxLen ∧ ∀ z ∈ r, (Lit.int .i64 z).wf = true) (_ : (Lit.int .i64 x).wf = true) (_ : (Lit.int .i64 y).wf = true) :
    ∃ k, laws_FnExactEvaluateTutte.f k xs x y = some true := by
  refine Ev.rounds ?_
  unfold laws_FnExactEvaluateTutte.f
  obtain ⟨z, hz, hzz⟩ := szIntSS xs hm.1 (fun r hr => (hm.2 r hr).1)
  refine Ev.bind hz ?_
  by_cases hb : z < 0
  · simp only [if_pos hb]
    exact Gen.ev_at 0 (fun k _ => rfl)
  · have h : Small xs := hzz.resolve_left hb
    simp only [if_neg hb]
    refine Ev.bind (toIntSS xs h) (Ev.bind (spec xs x y h) (Ev.bind (toIntSS xs h) (Ev.bind (impl xs x y h) ?_)))
    simp only [if_true]
    refine Ev.bind (toIntSS xs h) (Ev.bind (eqIntSS xs h) ?_)
    exact Gen.ev_at 0 (fun k _ => rfl)
end Go.Proofs.Ytalmjehheelbjaa.Pure
