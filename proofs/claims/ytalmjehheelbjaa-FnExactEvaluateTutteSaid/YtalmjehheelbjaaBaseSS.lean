/- What the laws' own helpers do: copies, comparisons and sizes of slices of slices of numbers. -/
import Derived.Test.YtalmjehheelbjaaPr0
import Derived.Test.YtalmjehheelbjaaPr12
import Derived.Test.YtalmjehheelbjaaPr13
import Derived.Test.YtalmjehheelbjaaBase
namespace Go.Proofs.Ytalmjehheelbjaa.Base
open Go.RowKit Go.Proofs.Ytalmjehheelbjaa.Pr Go.Proofs.YtalmjehheelbjaaW.PrintWords Go.Proofs.YtalmjehheelbjaaW.PrintLast Go.Proofs.YtalmjehheelbjaaW.PrintMore

-- laws_szIntS.f
theorem rdL (xs : List (List Int)) (i : Nat) : rd_L4 xs (i : Int) = xs.getD i [] := rfl
/-- What is small enough. -/
def Small (xs : List (List Int)) : Prop := xs.length ≤ 1048576 ∧ ∀ x ∈ xs, x.length ≤ 1048576
theorem Small.at_ {xs : List (List Int)} (h : Small xs) (i : Nat) : (xs.getD i []).length ≤ 1048576 := by
  by_cases hi : i < xs.length
  · have := h.2 (xs[i]) (List.getElem_mem hi)
    simpa [List.getD, hi] using this
  · simp [List.getD, hi]
/-- The size's look: either it says that there is too much, or all is small. -/
theorem szIntSS (xs : List (List Int)) (hm : xs.length ≤ maxLen) (hms : ∀ x ∈ xs, x.length ≤ maxLen) : ∃ z, Ev (fun k => laws_szIntSS.f k xs 1048576) z ∧ (z < 0 ∨ Small xs) := by
  unfold maxLen at hm hms
  unfold laws_szIntSS.f
  rw [Gen.w64 (by omega) (by omega)]
  by_cases hbig : 1048576 - (xs.length : Int) < 0
  · exact ⟨-1, by simp only [if_pos hbig]; exact Gen.ev_at 0 (fun k _ => rfl), .inl (by omega)⟩
  · simp only [if_neg hbig]
    have key : ∀ (d i : Nat) (left : Int), i + d = xs.length → 0 ≤ left → left ≤ 1048576 → (∀ j, j < i → (xs.getD j []).length ≤ 1048576) →
        ∃ z, Ev (fun k => laws_szIntSS.l0 k xs left (i : Int)) z ∧ (z < 0 ∨ Small xs) := by
      intro d
      induction d with
      | zero =>
        intro i left hi h0 h1 hall
        refine ⟨left, Gen.ev_at 1 (fun k hk => ?_), .inr ⟨by omega, fun x hx => ?_⟩⟩
        · obtain ⟨m, rfl⟩ : ∃ m, k = m + 1 := ⟨k - 1, by omega⟩
          simp only [laws_szIntSS.l0]
          rw [if_neg (by omega)]
        · obtain ⟨j, hj, rfl⟩ := List.getElem_of_mem hx
          have := hall j (by omega)
          simpa [List.getD, hj] using this
      | succ d ih =>
        intro i left hi h0 h1 hall
        have hlt : i < xs.length := by omega
        have hle : (xs.getD i []).length ≤ 9223372036854775807 := by
          have := hms (xs[i]) (List.getElem_mem hlt)
          simpa [List.getD, hlt] using this
        by_cases hb : left - ((xs.getD i []).length : Int) < 0
        · refine ⟨-1, Gen.ev_at 1 (fun k hk => ?_), .inl (by omega)⟩
          obtain ⟨m, rfl⟩ : ∃ m, k = m + 1 := ⟨k - 1, by omega⟩
          simp only [laws_szIntSS.l0, laws_szIntS.f]
          rw [if_pos (by omega), if_pos (by omega), rdL, Gen.w64 (by omega) (by omega), if_pos hb]
          rfl
        · obtain ⟨z, hz, hzz⟩ := ih (i + 1) (left - ((xs.getD i []).length : Int)) (by omega) (by omega) (by omega) (fun j hj => by
            by_cases e : j = i
            · subst e; omega
            · exact hall j (by omega))
          refine ⟨z, Ev.step (fun k => ?_) hz, hzz⟩
          simp only [laws_szIntSS.l0, laws_szIntS.f]
          rw [if_pos (by omega), if_pos (by omega), rdL, Gen.w64 (by omega) (by omega), if_neg hb]
          simp only [Option.bind_some]
          rw [if_neg hb, Gen.w64s i (by omega)]
    exact key xs.length 0 (1048576 - (xs.length : Int)) (by omega) (by omega) (by omega) (fun j hj => by omega)
theorem toIntSS (xs : List (List Int)) (h : Small xs) : Ev (fun k => laws_toIntSS.f k xs) xs := by
  have hn := h.1
  refine Gen.ev_at (1048577 + xs.length + 1) (fun k hk => ?_)
  unfold laws_toIntSS.f
  rw [if_pos (by omega), if_pos (by omega)]
  rw [Gen.fill_loop (fun k ys i => laws_toIntSS.l0 k xs ys i) (fun i => xs.getD i []) 1048577 xs.length (fun k i ys hK hi hy => by
    simp only [laws_toIntSS.l0]
    rw [if_pos (by omega), if_pos (by omega), rdL, toIntS _ (h.at_ i) k (by have := h.at_ i; omega)]
    simp only [Option.bind_some]
    rw [if_pos (by omega), Gen.w64s i (by omega)]
    rfl) _ (by simp) k (by omega), Gen.map_getD']
  obtain ⟨m, hm⟩ : ∃ m, k - xs.length = m + 1 := ⟨k - xs.length - 1, by omega⟩
  rw [hm]
  simp only [laws_toIntSS.l0]
  rw [if_neg (by omega)]
theorem eqIntSS (xs : List (List Int)) (h : Small xs) : Ev (fun k => laws_eqIntSS.f k xs xs) true := by
  have hn := h.1
  refine Gen.ev_at (1048577 + xs.length + 1) (fun k hk => ?_)
  unfold laws_eqIntSS.f
  rw [if_pos rfl]
  have := Gen.all_loop (fun k i => laws_eqIntSS.l0 k xs xs i) xs.length (fun _ => true) 1048577 true (fun k i hK hi => by
    simp only [laws_eqIntSS.l0]
    rw [if_pos (by omega), if_pos (by omega), if_pos (by omega), rdL, eqIntS _ (h.at_ i) k (by have := h.at_ i; omega)]
    simp only [Option.bind_some]
    rw [if_pos (by trivial), Gen.w64s i (by omega), if_pos (by trivial)]) (fun k _ => by
    simp only [laws_eqIntSS.l0]
    rw [if_neg (by omega)]) xs.length 0 k (by omega) (by omega)
  simpa [Gen.all_yes] using this
theorem drop_getD {α : Type} (xs : List α) (d : α) (i : Nat) (h : i < xs.length) : xs.drop i = xs.getD i d :: xs.drop (i + 1) := by
  rw [List.drop_eq_getElem_cons h]
  simp [List.getD, h]
end Go.Proofs.Ytalmjehheelbjaa.Base
