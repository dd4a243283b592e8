/- What can be read as data of a Go type is a value of the print's kind of that type: numbers, bools, strings, slices and structs in any nesting. -/
import Derived.Test.YtalmjehheelbjaaWWords
import Derived.Deep.Slices
import Derived.ChangeArms
import Derived.DataReads
namespace Go.Proofs.Ytalmjehheelbjaa.Open
open Go.ChangeShapes Go.WideShapes Go.RowKit Go.Proofs.YtalmjehheelbjaaW.PrintWords Go.Deep
set_option linter.unusedVariables false

structure Opens {α : Type} (P : Program) (d : Kd α) (t : TypeId) (Wf : α → Prop) : Prop where
  go : ∀ (H : Type) (enc : TypeId × Value → H) (w : World) (base : Nat) (spare : Nat → Bool) (held : Bool) (fuel : Nat) (cs : List Value) (x : DataW H × List MemPlace),
    DataW.trod enc P w base spare held fuel t cs = some x → ∃ a, d.K w a cs ∧ Wf a
theorem Opens.int {P : Program} {t : TypeId} {k : IntKind} (ht : P.underlying t = some (.int k)) : Opens P (Kd.int k) t (fun n => (Lit.int k n).wf = true) := by
  refine ⟨fun H enc w base spare held fuel cs x h => ?_⟩
  obtain ⟨n, rfl, _, hw⟩ := DataW.trod_int ht h
  exact ⟨n, rfl, hw⟩
theorem Opens.bool {P : Program} {t : TypeId} (ht : P.underlying t = some .bool) : Opens P Kd.bool t (fun _ => True) := by
  refine ⟨fun H enc w base spare held fuel cs x h => ?_⟩
  obtain ⟨n, rfl, _⟩ := DataW.trod_bool ht h
  exact ⟨n, rfl, trivial⟩
theorem Opens.string {P : Program} {t : TypeId} (ht : P.underlying t = some .string) : Opens P Kd.string t (fun s => s.size ≤ maxLen) := by
  refine ⟨fun H enc w base spare held fuel cs x h => ?_⟩
  obtain ⟨n, rfl, _, hw⟩ := DataW.trod_string ht h
  exact ⟨n, rfl, hw⟩
theorem list_of {α : Type} {p : Nat → α → Prop} : ∀ {len : Nat}, (∀ i, i < len → ∃ y, p i y) → ∃ xs : List α, xs.length = len ∧ ∀ i y, xs[i]? = some y → p i y := by
  intro len
  induction len with
  | zero => exact fun _ => ⟨[], rfl, fun i y h => by simp at h⟩
  | succ len ih =>
    intro key
    obtain ⟨xs, hxl, hxs⟩ := ih (fun i hi => key i (by omega))
    obtain ⟨y, hy⟩ := key len (by omega)
    refine ⟨xs ++ [y], by simp [hxl], fun i z hz => ?_⟩
    by_cases hi : i < xs.length
    · rw [List.getElem?_append_left hi] at hz
      exact hxs i z hz
    · have hlt : i < (xs ++ [y]).length := (List.getElem?_eq_some_iff.1 hz).1
      have e : i = len := by simp [hxl] at hlt hi; omega
      subst e
      rw [List.getElem?_append_right (by omega), hxl] at hz
      simp at hz
      subst hz
      exact hy
theorem Opens.slice {α : Type} {P : Program} {t e : TypeId} {d : Kd α} {Wf : α → Prop} (ht : P.underlying t = some (.slice e)) (hs : P.cellsOf e = d.sz) (h : Opens P d e Wf) :
    Opens P (Kd.slice e d) t (fun xs => xs.length ≤ maxLen ∧ ∀ x ∈ xs, Wf x) := by
  refine ⟨fun H enc w base spare held fuel cs x hx => ?_⟩
  rcases open_slice ht hx with ⟨rfl, _⟩ | ⟨a, len, cap, m, n, D, Pl, rfl, hb, hl, hm, hmm, _, hel⟩
  · exact ⟨[], ⟨none, 0, rfl, Nat.le_refl _, rfl, by simp, fun h => absurd h (by simp)⟩, by simp, by simp⟩
  · have hlm : len ≤ m := by rw [hmm]; split <;> omega
    have key : ∀ i, i < len → ∃ y : α, (∃ cs', w.cells? base (a.add (i * P.cellsOf e)) (P.cellsOf e) = some cs' ∧ d.K w y cs') ∧ Wf y := fun i hi => by
      obtain ⟨cs', h1, h2⟩ := hel i (by omega)
      obtain ⟨y, h3, h4⟩ := h.go _ enc w base spare held n cs' _ h2
      exact ⟨y, ⟨cs', h1, h3⟩, h4⟩
    obtain ⟨xs, hxl, hxs⟩ := list_of key
    refine ⟨xs, ⟨some a, cap, by rw [hxl], by omega, rfl, by have := hm; unfold maxLen at this; omega, fun _ => ⟨a, rfl, fun j p hj => ?_⟩⟩, by omega, fun y hy => ?_⟩
    · obtain ⟨⟨cs', h1, h2⟩, _⟩ := hxs j p hj
      obtain ⟨_, h3, h4⟩ := World.cells?_some h1
      refine ⟨cs', by rw [h3, hs], h2, fun i u hu => ?_⟩
      have hlt : i < cs'.length := (List.getElem?_eq_some_iff.1 hu).1
      have := h4 i (by omega)
      rw [hs, Go.Deep.add_add] at this
      rw [this, hu]
    · obtain ⟨i, hi⟩ := List.getElem?_of_mem hy
      exact (hxs i y hi).2
/-- Fields in line, from a place on. -/
structure OpensFs {α : Type} (P : Program) (fs : List Field) (off : Nat) (d : Kd α) (Wf : α → Prop) : Prop where
  go : ∀ (H : Type) (enc : TypeId × Value → H) (w : World) (base : Nat) (spare : Nat → Bool) (held : Bool) (n : Nat) (cs : List Value),
    cs.length = off + d.sz → (∀ f ∈ fs, ∃ x, DataW.trod enc P w base spare held n f.type ((cs.drop f.offset).take (P.cellsOf f.type)) = some x) → ∃ a, d.K w a (cs.drop off) ∧ Wf a
theorem OpensFs.one {α : Type} {P : Program} {f : Field} {off : Nat} {d : Kd α} {Wf : α → Prop} (ho : f.offset = off) (hs : P.cellsOf f.type = d.sz) (h : Opens P d f.type Wf) : OpensFs P [f] off d Wf := by
  refine ⟨fun H enc w base spare held n cs hl hf => ?_⟩
  obtain ⟨x, hx⟩ := hf f (by simp)
  rw [ho, hs, List.take_of_length_le (by rw [List.length_drop]; omega)] at hx
  exact h.go _ enc w base spare held n _ x hx
theorem OpensFs.cons {α β : Type} {P : Program} {f : Field} {fs : List Field} {off : Nat} {d : Kd α} {d' : Kd β} {Wf : α → Prop} {Wf' : β → Prop} (ho : f.offset = off) (hs : P.cellsOf f.type = d.sz) (h : Opens P d f.type Wf)
    (h' : OpensFs P fs (off + d.sz) d' Wf') : OpensFs P (f :: fs) off (Kd.pair d d') (fun x => Wf x.1 ∧ Wf' x.2) := by
  refine ⟨fun H enc w base spare held n cs hl hf => ?_⟩
  have hl' : cs.length = off + (d.sz + d'.sz) := hl
  obtain ⟨x, hx⟩ := hf f (by simp)
  rw [ho, hs] at hx
  obtain ⟨a, ha, wa⟩ := h.go _ enc w base spare held n _ x hx
  obtain ⟨b, hb, wb⟩ := h'.go _ enc w base spare held n cs (by omega) (fun g hg => hf g (by simp [hg]))
  refine ⟨(a, b), ⟨(cs.drop off).take d.sz, cs.drop (off + d.sz), ?_, ha, hb⟩, wa, wb⟩
  rw [← List.drop_drop, List.take_append_drop]
theorem Opens.struct {α : Type} {P : Program} {t : TypeId} {fs : Array Field} {d : Kd α} {Wf : α → Prop} (ht : P.underlying t = some (.struct fs)) (hs : P.cellsOf t = d.sz) (h : OpensFs P fs.toList 0 d Wf) : Opens P d t Wf := by
  refine ⟨fun H enc w base spare held fuel cs x hx => ?_⟩
  obtain ⟨xs, n, _, _, hl, hlen, hg⟩ := DataW.trod_struct ht hx
  obtain ⟨a, ha, wa⟩ := h.go _ enc w base spare held n cs (by omega) (fun f hf => by
    obtain ⟨i, hi⟩ := List.getElem?_of_mem hf
    have h1 := hg i f (by simpa using hi)
    have hlt : i < fs.size := by have := (List.getElem?_eq_some_iff.1 hi).1; simpa using this
    exact ⟨_, h1.trans (List.getElem?_eq_getElem (by omega))⟩)
  exact ⟨a, by simpa using ha, wa⟩
theorem Opens.iso {α β : Type} {P : Program} {t : TypeId} {d : Kd α} {Wf : α → Prop} (h : Opens P d t Wf) (f : β → α) (g : α → β) (hfg : ∀ a, f (g a) = a) : Opens P (Kd.iso d f) t (fun b => Wf (f b)) := by
  refine ⟨fun H enc w base spare held fuel cs x hx => ?_⟩
  obtain ⟨a, ha, wa⟩ := h.go _ enc w base spare held fuel cs x hx
  exact ⟨g a, by show d.K w (f (g a)) cs; rw [hfg]; exact ha, by show Wf (f (g a)); rw [hfg]; exact wa⟩
theorem Opens.wk {α : Type} {P : Program} {t : TypeId} {d : Kd α} {Wf Wf' : α → Prop} (h : Opens P d t Wf) (hw : ∀ a, Wf a → Wf' a) : Opens P d t Wf' := by
  refine ⟨fun H enc w base spare held fuel cs x hx => ?_⟩
  obtain ⟨a, ha, wa⟩ := h.go _ enc w base spare held fuel cs x hx
  exact ⟨a, ha, hw _ wa⟩
/-- An argument of one slice. -/
theorem Opens.argSlice {α : Type} {P : Program} {t e : TypeId} {d : Kd α} {Wf : List α → Prop} (h : Opens P (Kd.slice e d) t Wf) {H : Type} {enc : TypeId × Value → H} {w : World} {base : Nat} {spare : Nat → Bool} {held : Bool} {v : Value} {x : DataW H} {ps : List MemPlace}
    (hv : ∃ a len cap, v = .slice a len cap) (ht : DataW.Trod enc P w base spare held t v x ps) : ∃ A c xs, v = .slice A xs.length c ∧ xs.length ≤ c ∧ d.C w A xs.length xs ∧ Wf xs := by
  obtain ⟨a, len, cap, rfl⟩ := hv
  obtain ⟨fuel, hf⟩ := ht
  obtain ⟨xs, ⟨A, c, hc, hl, hr⟩, wf⟩ := h.go _ enc w base spare held fuel _ _ hf
  simp only [Value.cells, List.cons.injEq, and_true] at hc
  exact ⟨A, c, xs, hc, hl, hr, wf⟩
/-- An argument that is a struct. -/
theorem Opens.argStruct {α : Type} {P : Program} {t : TypeId} {d : Kd α} {Wf : α → Prop} (h : Opens P d t Wf) {H : Type} {enc : TypeId × Value → H} {w : World} {base : Nat} {spare : Nat → Bool} {held : Bool} {v : Value} {x : DataW H} {ps : List MemPlace}
    (hv : ∃ cs, v = .agg cs ∧ cs.size = P.cellsOf t) (ht : DataW.Trod enc P w base spare held t v x ps) : ∃ cs a, v = .agg cs.toArray ∧ d.K w a cs ∧ Wf a := by
  obtain ⟨cs, rfl, _⟩ := hv
  obtain ⟨fuel, hf⟩ := ht
  obtain ⟨a, ha, wf⟩ := h.go _ enc w base spare held fuel _ _ hf
  exact ⟨cs.toList, a, by simp, ha, wf⟩
end Go.Proofs.Ytalmjehheelbjaa.Open
