/- The claim FnExactFindMatrix: every text that its row comes to, laid together by slim.py (the words of the kit's print, the printed walks, the pure law, the row). -/
import Derived.StillTailTactics
import Derived.Test.YtmpodackojmojaaYFnExactFindMatrix2
section
namespace Go.Proofs.Ytmpodackojmojaa.RowsW
open Go.RowKit Go.Proofs.YtmpodackojmojaaW.PrintWords Go.Proofs.YtmpodackojmojaaW.PrintLast Go.Proofs.YtmpodackojmojaaW.PrintMore
open Go.Proofs.YtmpodackojmojaaW.PrintWords.Kd
theorem setCells_one (W : World) (g o : Nat) (u : Value) : W.setCells g o [u] = W.setCell ⟨g, o, none⟩ u := by
 simp [World.setCells, World.setCell]
theorem S_swap {α : Type} {d : Kd α} (hsz : d.sz = 1) {e : Nat} {W : World} {base : Nat} {ok : Nat → Prop} {g n cap : Nat} {xs : List α} (h : S d e W base ok (.slice (some ⟨g, 0, none⟩) n cap) xs) (z : α) (i j : Int) (hi0 : 0 ≤ i) (hi : i < n) (hj0 : 0 ≤ j) (hj : j < n) :
  ∃ vi vj : Value, W.cell? ⟨g, i.toNat, none⟩ = some vi ∧ W.cell? ⟨g, j.toNat, none⟩ = some vj ∧ W.frozen? ⟨g, i.toNat, none⟩ = false ∧ W.frozen? ⟨g, j.toNat, none⟩ = false ∧ vi.oneCell' = true ∧ vj.oneCell' = true ∧
   S d e ((W.setCell ⟨g, i.toNat, none⟩ vj).setCell ⟨g, j.toNat, none⟩ vi) base ok (.slice (some ⟨g, 0, none⟩) n cap) ((xs.set i.toNat (xs.getD j.toNat z)).set j.toNat (xs.getD i.toNat z)) ∧
   W.grownBy ((W.setCell ⟨g, i.toNat, none⟩ vj).setCell ⟨g, j.toNat, none⟩ vi) (some g) := by
 have hn := (S_reads' h).1
 obtain ⟨f, hR⟩ := h
 have hfi := (R_elem hR (z, 0) i hi0 hi).choose_spec
 have hfj := (R_elem hR (z, 0) j hj0 hj).choose_spec
 obtain ⟨h0, inner, ho, hr⟩ := hR
 have hgo : some g = (Value.slice (some ⟨g, 0, none⟩) n cap).ownBlock := by simp [Value.ownBlock]
 have hkg : ∀ k, some k ≠ (Value.slice (some ⟨g, 0, none⟩) n cap).ownBlock → k ≠ g := fun k hk he => hk (by rw [he]; exact hgo)
 have hlen : inner.length = xs.length * 1 := by have := hr.1; rw [List.length_zipIdx] at this; rw [this]; show xs.length * d.sz = _; rw [hsz]
 have hcell : ∀ m, m < xs.length → ∃ v, inner[m]? = some v ∧ (inner.drop (m * d.sz)).take d.sz = [v] ∧ v.oneCell' = true ∧ W.cell? ⟨g, m, none⟩ = some v := by
  intro m hm
  have hml : m < inner.length := by omega
  refine ⟨inner[m], List.getElem?_eq_getElem hml, ?_, ?_, ?_⟩
  ·rw [hsz, Nat.mul_one, List.drop_eq_getElem_cons hml]
   rfl
  ·have hM := hr.2 m (xs[m], m) (zip_at (List.getElem?_eq_getElem hm))
   have hone := (tag f d).K_one ((tag f d).K_of_M hM) inner[m]
   refine hone ?_
   show inner[m] ∈ (inner.drop (m * d.sz)).take d.sz
   rw [hsz, Nat.mul_one, List.drop_eq_getElem_cons hml]
   exact List.mem_cons_self
  ·have := ho.cells (g := g) hgo.symm m inner[m] (List.getElem?_eq_getElem hml)
   rwa [add_plain] at this
 have hil : i.toNat < xs.length := by omega
 have hjl : j.toNat < xs.length := by omega
 obtain ⟨vi, hvi, hdi, hoi, hci⟩ := hcell i.toNat hil
 obtain ⟨vj, hvj, hdj, hoj, hcj⟩ := hcell j.toNat hjl
 have hraw : (raw 1).R e W base (fun _ => True) (.slice (some ⟨g, 0, none⟩) n cap) ((List.range xs.length).map fun m => (inner.drop (m * d.sz)).take d.sz) := by
  refine ⟨fun _ _ => trivial, inner, ?_, ?_, fun m p hp => ?_⟩
  ·rw [List.length_map, List.length_range]
   rw [List.length_zipIdx] at ho
   have : (tag f d).sz = (raw 1).sz := hsz
   rw [← this]
   exact ho
  ·rw [List.length_map, List.length_range]
   exact hlen
  ·rw [List.getElem?_map] at hp
   obtain ⟨m', hm', rfl⟩ := Option.map_eq_some_iff.1 hp
   obtain ⟨hl, he⟩ := List.getElem?_eq_some_iff.1 hm'
   rw [List.getElem_range] at he
   subst he
   rw [List.length_range] at hl
   obtain ⟨v, hv, hd, hone, _⟩ := hcell m hl
   rw [hd]
   have e1 : (inner.drop (m * 1)).take 1 = [v] := by rw [← hd, hsz]
   exact ⟨e1, (congrArg List.length e1).trans rfl, fun u hu => by
    have : u ∈ (inner.drop (m * 1)).take 1 := hu
    rw [e1, List.mem_singleton] at this
    rw [this]
    exact hone⟩
 have s1 := R_seg hraw i hi0 hi (c := [vi]) (seg := [vj]) (j := 0) (x' := [vj]) (okp := fun _ => False) rfl (fun q u hu => by
  cases q with
  | zero =>
   simp only [List.getElem?_cons_zero, Option.some.injEq] at hu
   subst hu
   show W.cell? ⟨g, i.toNat * 1 + 0, none⟩ = _
   rw [Nat.mul_one, Nat.add_zero]
   exact hci
  | succ q => simp at hu) (show 0 + 1 ≤ 1 by decide) ⟨rfl, rfl, fun u hu => by simp at hu; subst hu; exact hoj⟩ (fun _ hk => hk.elim)
 have s1' : (raw 1).R e (W.setCell ⟨g, i.toNat, none⟩ vj) base (fun _ => True) (.slice (some ⟨g, 0, none⟩) n cap) (((List.range xs.length).map fun m => (inner.drop (m * d.sz)).take d.sz).set i.toNat [vj]) ∧ W.grownBy (W.setCell ⟨g, i.toNat, none⟩ vj) (some g) := by
  have := s1
  rw [show i.toNat * (raw 1).sz + 0 = i.toNat from Nat.mul_one _, setCells_one] at this
  exact this
 obtain ⟨hraw1, hg1⟩ := s1'
 obtain ⟨c2, hc2l, hc2M, hc2c, _⟩ := R_elem hraw1 [] j hj0 hj
 obtain ⟨a2, rfl⟩ := List.length_eq_one_iff.1 (show c2.length = 1 from hc2l)
 have s2 := R_seg hraw1 j hj0 hj (c := [a2]) (seg := [vi]) (j := 0) (x' := [vi]) (okp := fun _ => False) hc2l hc2c (show 0 + 1 ≤ 1 by decide) ⟨rfl, rfl, fun u hu => by simp at hu; subst hu; exact hoi⟩ (fun _ hk => hk.elim)
 rw [show j.toNat * (raw 1).sz + 0 = j.toNat from Nat.mul_one _, setCells_one] at s2
 obtain ⟨hraw2, hg2⟩ := s2
 have hg : W.grownBy ((W.setCell ⟨g, i.toNat, none⟩ vj).setCell ⟨g, j.toNat, none⟩ vi) (some g) := by
  obtain ⟨a1, a2, a3, a4, a5⟩ := hg1
  obtain ⟨b1, b2, b3, b4, b5⟩ := hg2
  exact ⟨b1.trans a1, b2.trans a2, b3.trans a3, Nat.le_trans a4 b4, fun k hk hne => (b5 k (Nat.lt_of_lt_of_le hk a4) hne).trans (a5 k hk hne)⟩
 have frz : ∀ (m : Int), 0 ≤ m → m < n → W.frozen? ⟨g, m.toNat, none⟩ = false := fun m hm0 hm => by
  have := (R_elem hraw [] m hm0 hm).choose_spec.2.2.2 0
  rwa [show m.toNat * (raw 1).sz + 0 = m.toNat from Nat.mul_one _] at this
 refine ⟨vi, vj, hci, hcj, frz i hi0 hi, frz j hj0 hj, hoi, hoj, ?_, hg⟩
 obtain ⟨_, inner', ho', hr'⟩ := hraw2
 have hl' : inner'.length = xs.length * 1 := by have := hr'.1; rw [List.length_set, List.length_set, List.length_map, List.length_range] at this; exact this
 rw [List.length_set, List.length_set, List.length_map, List.length_range] at ho'
 refine ⟨fun k => if f k = i.toNat then j.toNat else if f k = j.toNat then i.toNat else f k, h0, inner', ?_, ?_, fun m p hm => ?_⟩
 ·rw [List.length_zipIdx, List.length_set, List.length_set]
  have : (tag (fun k => if f k = i.toNat then j.toNat else if f k = j.toNat then i.toNat else f k) d).sz = (raw 1).sz := hsz
  rw [this]
  exact ho'
 ·rw [List.length_zipIdx, List.length_set, List.length_set]
  show inner'.length = xs.length * d.sz
  rw [hsz]
  exact hl'
 ·rw [List.getElem?_zipIdx, Nat.zero_add] at hm
  obtain ⟨q, hq, rfl⟩ := Option.map_eq_some_iff.1 hm
  have hml : m < xs.length := by
   have := (List.getElem?_eq_some_iff.1 hq).1
   rwa [List.length_set, List.length_set] at this
  have hmv : ∀ (a : Nat) (x : α) (v : Value) (b : Nat), xs[a]? = some x → inner[a]? = some v → (inner.drop (a * d.sz)).take d.sz = [v] → (∀ k, f k = a → (if f k = i.toNat then j.toNat else if f k = j.toNat then i.toNat else f k) = b) →
    d.M ((W.setCell ⟨g, i.toNat, none⟩ vj).setCell ⟨g, j.toNat, none⟩ vi) base (fun k => (ok k ∧ some k ≠ (Value.slice (some ⟨g, 0, none⟩) n cap).ownBlock) ∧ (if f k = i.toNat then j.toNat else if f k = j.toNat then i.toNat else f k) = b) x [v] := by
   intro a x v b hx _ hd hb
   have hold := hr.2 a (x, a) (zip_at hx)
   have hold' : d.M W base (fun k => (ok k ∧ some k ≠ (Value.slice (some ⟨g, 0, none⟩) n cap).ownBlock) ∧ f k = a) x [v] := by
    have h2 : (inner.drop (a * (tag f d).sz)).take (tag f d).sz = [v] := hd
    rw [h2] at hold
    exact hold
   exact d.M_mono (fun k hk => ⟨hk.1.1, hb k hk.1.2⟩) (d.M_move (w1 := (W.setCell ⟨g, i.toNat, none⟩ vj).setCell ⟨g, j.toNat, none⟩ vi) (fun k hk => hg.block k hk.2.2.1 (fun he => hkg k hk.1.1.2 (by injection he))) (d.M_bound hold'))
  have hcm : ∀ c, (((((List.range xs.length).map fun m => (inner.drop (m * d.sz)).take d.sz).set i.toNat [vj]).set j.toNat [vi])[m]? = some c) → (inner'.drop (m * d.sz)).take d.sz = c := fun c hc => by
   have := (hr'.2 m c hc).1
   rw [hsz]
   exact this
  show d.M _ base _ q ((inner'.drop (m * d.sz)).take d.sz)
  have xi : xs[i.toNat]? = some (xs.getD i.toNat z) := by simp [List.getD, hil]
  have xj : xs[j.toNat]? = some (xs.getD j.toNat z) := by simp [List.getD, hjl]
  by_cases hmj : m = j.toNat
  ·subst hmj
   rw [List.getElem?_set_self (by rw [List.length_set]; exact hml)] at hq
   obtain rfl := Option.some.inj hq
   rw [hcm [vi] (by rw [List.getElem?_set_self (by simpa using hml)])]
   exact hmv i.toNat _ vi _ xi hvi hdi (fun k hk => by rw [if_pos hk])
  ·rw [List.getElem?_set_ne (Ne.symm hmj)] at hq
   by_cases hmi : m = i.toNat
   ·subst hmi
    rw [List.getElem?_set_self hml] at hq
    obtain rfl := Option.some.inj hq
    rw [hcm [vj] (by rw [List.getElem?_set_ne (Ne.symm hmj), List.getElem?_set_self (by simpa using hml)])]
    exact hmv j.toNat _ vj _ xj hvj hdj (fun k hk => by rw [if_neg (by omega), if_pos hk])
   ·rw [List.getElem?_set_ne (Ne.symm hmi)] at hq
    obtain ⟨v, hv, hd, _, _⟩ := hcell m hml
    rw [hcm [v] (by rw [List.getElem?_set_ne (Ne.symm hmj), List.getElem?_set_ne (Ne.symm hmi), List.getElem?_map, List.getElem?_eq_getElem (by rw [List.length_range]; exact hml), List.getElem_range]; simp only [Option.map_some]; rw [hd])]
    exact hmv m q v _ hq hv hd (fun k hk => by rw [if_neg (by omega), if_neg (by omega), hk])
theorem S_put {et ei : Nat} {W : World} {base : Nat} {ok : Nat → Prop} {g n cap : Nat} {xs : List (List Int)} (h : S (Kd.slice et (Kd.int .i64)) ei W base ok (.slice (some ⟨g, 0, none⟩) n cap) xs) (i j : Int) (hi0 : 0 ≤ i) (hi : i < n) (hj0 : 0 ≤ j) (hj : j < ((xs.getD i.toNat []).length : Int)) (v : Int) :
  ∃ gi ci, W.cell? ⟨g, i.toNat, none⟩ = some (.slice (some ⟨gi, 0, none⟩) (xs.getD i.toNat []).length ci) ∧ W.cell? ⟨gi, j.toNat, none⟩ = some (.int .i64 (rd (xs.getD i.toNat []) j)) ∧ W.frozen? ⟨gi, j.toNat, none⟩ = false ∧
   S (Kd.slice et (Kd.int .i64)) ei (W.setCell ⟨gi, j.toNat, none⟩ (.int .i64 v)) base ok (.slice (some ⟨g, 0, none⟩) n cap) (xs.set i.toNat ((xs.getD i.toNat []).set j.toNat v)) ∧ W.grownBy (W.setCell ⟨gi, j.toNat, none⟩ (.int .i64 v)) (some gi) ∧ ok gi ∧ base ≤ gi ∧ ∃ cells, W.heap[gi]? = some (.cells cells et (0, 0)) := by
 obtain ⟨oki, c, hcl, hM, hcc, hoki, hback⟩ := S_borrow h [] i hi0 hi
 obtain ⟨u, rfl, hu⟩ := hM
 obtain ⟨gi, ci, rfl, hb, hlt, hty⟩ := R_form hu (by omega)
 have hcell := hcc 0 _ rfl
 rw [show i.toNat * (Kd.slice et (Kd.int .i64)).sz + 0 = i.toNat from Nat.mul_one _, add_plain] at hcell
 obtain ⟨hx, hf⟩ := R_celln 0 hu j hj0 (by exact hj)
 obtain ⟨hp, hg⟩ := R_putg hu j v
 have hown : oki gi := by
  obtain ⟨h0, _⟩ := hu
  exact h0 gi (by simp [Value.ownBlock])
 refine ⟨gi, ci, hcell, hx, hf, hback hg (fun k hk => by cases hk; exact hown) ⟨_, rfl, ?_⟩, hg, (hoki gi hown).1, hb, hty⟩
 have e : (xs.getD i.toNat []).length = ((xs.getD i.toNat []).set j.toNat v).length := by simp
 exact hp
def rd_L3 (xs : List (List Int)) (i : Int) : (List Int) := xs.getD i.toNat ([] : List Int)
theorem at_L3 {w : World} {A : Option Addr} {n : Nat} {xs : List (List Int)} (h : Kd.C (Kd.slice 3 (Kd.int .i64)) w A n xs) (i : Int) (h0 : 0 ≤ i) (h1 : i < n) : ∃ ad A0 c0, A = some ad ∧ w.cell? (ad.add i.toNat) = some (.slice A0 (rd_L3 xs i).length c0) ∧ (rd_L3 xs i).length ≤ c0 ∧ (Kd.int .i64).C w A0 (rd_L3 xs i).length (rd_L3 xs i) := by
 obtain ⟨ad, c, e, _, hK, hc0⟩ := Kd.C_get h ([] : List Int) i h0 h1
 have hc : ∀ j u, c[j]? = some u → w.cell? (ad.add (i.toNat * 1 + j)) = some u := hc0
 obtain ⟨A0, c0, rfl, l0, g0⟩ := hK
 exact ⟨ad, A0, c0, e, by have hq := hc 0 _ rfl; rwa [Nat.mul_one, Nat.add_zero] at hq, l0, g0⟩
structure Inv (w : World) (g1 g2 : Nat) (c1 c2 : Array Value) (v4 v6 : Value) (rows : List (List Int)) (ps : List Int) (W : World) : Prop where
 s : S (Kd.slice 3 (Kd.int .i64)) 24 W w.heap.size (fun k => some k ≠ v6.ownBlock) v4 rows
 r : R (Kd.int .i64) 3 W w.heap.size (fun _ => True) v6 ps
 x1 : W.heap[g1]? = some (.cells c1 49 (0, 0))
 x2 : W.heap[g2]? = some (.cells c2 49 (0, 0))
 lo : Below w.heap.size w W
section
variable {w W W1 : World} {g1 g2 : Nat} {c1 c2 : Array Value} {v4 v6 : Value} {rows : List (List Int)} {ps : List Int} {A : Option Addr} {n c g : Nat}
theorem Inv.below (h : Inv w g1 g2 c1 c2 v4 v6 rows ps W) (hb : Below W.heap.size W W1) : Inv w g1 g2 c1 c2 v4 v6 rows ps W1 :=
 ⟨S_below h.s hb, R_below h.r hb, blk_below h.x1 hb, blk_below h.x2 hb, below_step h.lo hb⟩
theorem Inv.drew (h : Inv w g1 g2 c1 c2 v4 v6 rows ps W) : Inv w g1 g2 c1 c2 v4 v6 rows ps W.drew := h.below (below_drew (Below.refl _ _))
theorem Inv.drewN (h : Inv w g1 g2 c1 c2 v4 v6 rows ps W) (m : Nat) : Inv w g1 g2 c1 c2 v4 v6 rows ps (W.drewN m) := h.below (pw_below_drewN (Below.refl _ _) m)
theorem Inv.len (h : Inv w g1 g2 c1 c2 (.slice A n c) v6 rows ps W) : rows.length = n := (S_reads' h.s).1.symm
theorem Inv.head (h : Inv w g1 g2 c1 c2 (.slice A n c) v6 rows ps W) {i : Int} (h0 : 0 ≤ i) (h1 : i < n) : ∃ g, A = some ⟨g, 0, none⟩ := by
 obtain ⟨g, cap, e, _⟩ := S_form h.s (by have := h.len; omega)
 injection e with e1
 exact ⟨g, e1⟩
theorem Inv.step {rows1 : List (List Int)} (h : Inv w g1 g2 c1 c2 v4 v6 rows ps W) (hs : S (Kd.slice 3 (Kd.int .i64)) 24 W1 w.heap.size (fun k => some k ≠ v6.ownBlock) v4 rows1) (hg : W.grownBy W1 (some g)) {t : Nat} {cells : Array Value} (hc : W.heap[g]? = some (.cells cells t (0, 0))) (ht : t ≠ 49) (hok : some g ≠ v6.ownBlock) (hb : w.heap.size ≤ g) : Inv w g1 g2 c1 c2 v4 v6 rows1 ps W1 :=
 ⟨hs, R_grown2 h.r rfl hg (fun k hk => by injection hk with hk; subst hk; exact hok), blk_grown h.x1 hg (fun e => blk_ne h.x1 hc ht.symm (by injection e)), blk_grown h.x2 hg (fun e => blk_ne h.x2 hc ht.symm (by injection e)), pw_below_grown h.lo (some g) (below_size h.lo) hg (fun k hk => by injection hk with hk; subst hk; exact hb)⟩
theorem Inv.put (h : Inv w g1 g2 c1 c2 (.slice (some ⟨g, 0, none⟩) n c) v6 rows ps W) (i j : Int) (hi0 : 0 ≤ i) (hi : i < n) (hj0 : 0 ≤ j) (hj : j < ((rd_L3 rows i).length : Int)) :
  ∃ gi ci, W.cell? ⟨g, i.toNat, none⟩ = some (.slice (some ⟨gi, 0, none⟩) (rd_L3 rows i).length ci) ∧ W.cell? ⟨gi, j.toNat, none⟩ = some (.int .i64 (rd (rd_L3 rows i) j)) ∧ W.frozen? ⟨gi, j.toNat, none⟩ = false ∧
   ∀ v : Int, Aside0 (Inv w g1 g2 c1 c2 (.slice (some ⟨g, 0, none⟩) n c) v6 (rows.set i.toNat ((rd_L3 rows i).set j.toNat v)) ps (W.setCell ⟨gi, j.toNat, none⟩ (.int .i64 v))) := by
 obtain ⟨gi, ci, e1, e2, e3, _⟩ := S_put h.s i j hi0 hi hj0 hj 0
 refine ⟨gi, ci, e1, e2, e3, fun v => ⟨?_⟩⟩
 obtain ⟨gi', ci', e1', _, _, hs, hg, hok, hb, cells, hc⟩ := S_put h.s i j hi0 hi hj0 hj v
 have e := e1.symm.trans e1'
 injection e with e
 injection e with e _ _
 injection e with e
 injection e with e
 subst e
 exact h.step hs hg hc (by decide) hok hb
theorem Inv.swap (h : Inv w g1 g2 c1 c2 (.slice (some ⟨g, 0, none⟩) n c) v6 rows ps W) (i j : Int) (hi0 : 0 ≤ i) (hi : i < n) (hj0 : 0 ≤ j) (hj : j < n) :
  ∃ (Ai : Option Addr) (ni ci : Nat) (Aj : Option Addr) (nj cj : Nat), W.cell? ⟨g, i.toNat, none⟩ = some (.slice Ai ni ci) ∧ W.cell? ⟨g, j.toNat, none⟩ = some (.slice Aj nj cj) ∧ W.frozen? ⟨g, i.toNat, none⟩ = false ∧ W.frozen? ⟨g, j.toNat, none⟩ = false ∧
   (∃ u, (W.setCell ⟨g, i.toNat, none⟩ (.slice Aj nj cj)).cell? ⟨g, j.toNat, none⟩ = some u) ∧ (W.setCell ⟨g, i.toNat, none⟩ (.slice Aj nj cj)).frozen? ⟨g, j.toNat, none⟩ = false ∧
   Aside0 (Inv w g1 g2 c1 c2 (.slice (some ⟨g, 0, none⟩) n c) v6 ((rows.set i.toNat (rd_L3 rows j)).set j.toNat (rd_L3 rows i)) ps ((W.setCell ⟨g, i.toNat, none⟩ (.slice Aj nj cj)).setCell ⟨g, j.toNat, none⟩ (.slice Ai ni ci))) := by
 obtain ⟨vi, vj, e1, e2, e3, e4, e5, e6, hs, hg⟩ := S_swap rfl h.s [] i j hi0 hi hj0 hj
 obtain ⟨g', cap, e, hb, _, cells, hc⟩ := S_form h.s (by have := h.len; omega)
 have hl := h.len
 obtain ⟨ad, Ai, ci, ea, hx, _⟩ := at_L3 (S_reads' h.s).2.2 i hi0 (by omega)
 obtain ⟨ad', Aj, cj, ea', hx', _⟩ := at_L3 (S_reads' h.s).2.2 j hj0 (by omega)
 injection ea with ea
 injection ea' with ea'
 subst ea
 subst ea'
 rw [add_plain] at hx hx'
 rw [e1] at hx
 rw [e2] at hx'
 injection hx with hx
 injection hx' with hx'
 subst hx
 subst hx'
 injection e with e _ _
 injection e with e
 injection e with e
 subst e
 have hj' := (blk_cell hc j.toNat).symm.trans e2
 obtain ⟨hjl, _⟩ := Array.getElem?_eq_some_iff.1 hj'
 have hc' := blk_set hc i.toNat (.slice Aj (rd_L3 rows j).length cj)
 refine ⟨_, _, _, _, _, _, e1, e2, e3, e4, ⟨(cells.setIfInBounds i.toNat (.slice Aj (rd_L3 rows j).length cj))[j.toNat]'(by simpa using hjl), (blk_cell hc' j.toNat).trans (Array.getElem?_eq_getElem _)⟩, blk_frozen hc' _, ⟨h.step hs hg hc (by decide) ?_ hb⟩⟩
 obtain ⟨f, hR⟩ := h.s
 exact hR.1 g (by simp [Value.ownBlock])
end
end Go.Proofs.Ytmpodackojmojaa.RowsW
end
section
namespace Go.Proofs.Ytmpodackojmojaa.Pr
open Go.RowKit Go.Proofs.YtmpodackojmojaaW.PrintWords Go.Proofs.YtmpodackojmojaaW.PrintLast Go.Proofs.YtmpodackojmojaaW.PrintMore
attribute [local go_sem] max2_int min2_int max_two min_two max_three min_three max_four min_four
set_option linter.unusedVariables false
set_option linter.unusedSimpArgs false
def impl_reduce.swap (xs : List (List Int)) (a b : Int) : Option (List (List Int)) := if 0 ≤ a ∧ a < (xs.length : Int) ∧ 0 ≤ b ∧ b < (xs.length : Int) then some ((xs.set a.toNat (RowsW.rd_L3 xs b)).set b.toNat (RowsW.rd_L3 xs a)) else none
theorem impl_reduce.info24 : (Try.prog.info? 24).map (fun i => (i.zero, i.size, i.bytes)) = some (some (.slice none 0 0), 1, 24) := by kernel_rfl
def impl_reduce.put (xs : List (List Int)) (a b v : Int) : Option (List (List Int)) := some (xs.set a.toNat ((RowsW.rd_L3 xs a).set b.toNat v))
def impl_reduce.T15 : Bool × List (List Nat × List Nat) := (true, [([], []), ([], []), ([], []), ([], []), ([], []), ([], []), ([4, 5], [4, 5]), ([6], [6]), ([], []), ([], []), ([8, 9], [8, 9]), ([10], [10]), ([0, 1, 0, 1, 4, 5, 6, 7, 11], [0, 1]), ([12, 7, 0, 1, 4, 5, 6, 7, 11], [7, 12]), ([2, 3, 0, 1, 2, 3, 4, 5, 6, 7, 8, 9, 10, 11, 12, 13], [2, 3]), ([14, 11, 13, 0, 1, 2, 3, 4, 5, 6, 7, 8, 9, 10, 11, 12, 13], [11, 14])])
def impl_reduce.B15 : List Nat := [0, 0, 0, 0, 0, 0, 48, 112, 0, 0, 768, 1792, 4083, 8179, 16383, 32767]
theorem impl_reduce.tab15 : rtab .any (opsOf Try.f160 15) = impl_reduce.T15 := by kernel_rfl
theorem impl_reduce.bits15 : waitsOk impl_reduce.T15.2 impl_reduce.B15 = true := by kernel_rfl
mutual
def impl_reduce.l0 : Nat → List (List Int) → Int → Int → Int → Int → List Int → Option (Int × Int × Int × List Int × List Int)
 | 0, _, _, _, _, _, _ => none
 | k + 1, x4, x5, x910000, x910001, x910002, x910003 => if x5 < x910001 then ((some (([] : List Int) : List Int)).bind fun y914 => (if 0 ≤ (wrap64 (x5 * x910002)) then (if (wrap64 (x5 * x910002)) ≤ (wrap64 ((wrap64 (x5 + 1)) * x910002)) then (if (wrap64 ((wrap64 (x5 + 1)) * x910002)) ≤ (x910003.length : Int) then (if y914.length + ((x910003.take ((wrap64 ((wrap64 (x5 + 1)) * x910002)) : Int).toNat).drop ((wrap64 (x5 * x910002)) : Int).toNat).length < 17592186044416 then (if x4.length < 5864062014805 then (impl_reduce.l0 k (x4 ++ [(y914 ++ ((x910003.take ((wrap64 ((wrap64 (x5 + 1)) * x910002)) : Int).toNat).drop ((wrap64 (x5 * x910002)) : Int).toNat))]) (wrap64 (x5 + 1)) x910000 x910001 x910002 x910003) else (none)) else (none)) else (none)) else (none)) else (none))) else (impl_reduce.l1 k x4 (([] : List Int)) 0 x910000 x910001 x910002 x910003)
def impl_reduce.l1 : Nat → List (List Int) → List Int → Int → Int → Int → Int → List Int → Option (Int × Int × Int × List Int × List Int)
 | 0, _, _, _, _, _, _, _ => none
 | k + 1, x4, x6, x7, x910000, x910001, x910002, x910003 => if x7 < x910002 then (impl_reduce.l2 k x4 x6 x7 (x6.length : Int) (x6.length : Int) x910000 x910001 x910002 x910003) else (if 0 ≤ (x6.length : Int) then (if (x6.length : Int) ≤ (x4.length : Int) then ((some (x4.take ((x6.length : Int) : Int).toNat : List (List Int))).bind fun y959 => (impl_reduce.l6 k x6 y959 (y959.length : Int) 0 x910000 (x6.length : Int) x910002 (([] : List Int)))) else (none)) else (none))
def impl_reduce.j3 : Nat → List (List Int) → List Int → Int → Int → Int → Int → Int → Int → List Int → Option (Int × Int × Int × List Int × List Int)
 | 0, _, _, _, _, _, _, _, _, _ => none
 | k + 1, x4, x6, x7, x8, x9, x910000, x910001, x910002, x910003 => if x9 ≥ (x4.length : Int) then (impl_reduce.l1 k x4 x6 (wrap64 (x7 + 1)) x910000 x910001 x910002 x910003) else ((impl_reduce.swap x4 x8 x9).bind fun t929 => (if 0 ≤ x8 then (if x8 < (t929.length : Int) then (if 0 ≤ x7 then (if x7 < ((RowsW.rd_L3 t929 x8).length : Int) then ((impl_InverseIn.f k x910000 (rd (RowsW.rd_L3 t929 x8) x7)).bind fun t934 => (impl_reduce.l3 k t929 x6 x7 x8 t934 ((RowsW.rd_L3 t929 x8).length : Int) 0 x910000 x910001 x910002 x910003)) else (none)) else (none)) else (none)) else (none)))
def impl_reduce.l3 : Nat → List (List Int) → List Int → Int → Int → Int → Int → Int → Int → Int → Int → List Int → Option (Int × Int × Int × List Int × List Int)
 | 0, _, _, _, _, _, _, _, _, _, _, _ => none
 | k + 1, x4, x6, x7, x8, x10, x100, x101, x910000, x910001, x910002, x910003 => if x101 < x100 then (if 0 ≤ x8 then (if x8 < (x4.length : Int) then (if 0 ≤ x101 then (if x101 < ((RowsW.rd_L3 x4 x8).length : Int) then (if x910000 = 0 then (none) else ((impl_reduce.put x4 x8 x101 (Int.tmod (wrap64 ((rd (RowsW.rd_L3 x4 x8) x101) * x10)) x910000)).bind fun t939 => (impl_reduce.l3 k t939 x6 x7 x8 x10 x100 (wrap64 (x101 + 1)) x910000 x910001 x910002 x910003))) else (none)) else (none)) else (none)) else (none)) else (impl_reduce.l4 k x4 x6 x7 x8 (x4.length : Int) 0 x910000 x910001 x910002 x910003)
def impl_reduce.l4 : Nat → List (List Int) → List Int → Int → Int → Int → Int → Int → Int → Int → List Int → Option (Int × Int × Int × List Int × List Int)
 | 0, _, _, _, _, _, _, _, _, _, _ => none
 | k + 1, x4, x6, x7, x8, x124, x125, x910000, x910001, x910002, x910003 => if x125 < x124 then (if 0 ≤ x125 then (if x125 < (x4.length : Int) then (if 0 ≤ x7 then (if x7 < ((RowsW.rd_L3 x4 x125).length : Int) then (impl_reduce.l5 k x4 x6 x7 x8 x125 (rd (RowsW.rd_L3 x4 x125) x7) 0 x124 x125 x910000 x910001 x910002 x910003) else (none)) else (none)) else (none)) else (none)) else (if x6.length < 17592186044416 then (impl_reduce.l1 k x4 (x6 ++ [x7]) (wrap64 (x7 + 1)) x910000 x910001 x910002 x910003) else (none))
def impl_reduce.l5 : Nat → List (List Int) → List Int → Int → Int → Int → Int → Int → Int → Int → Int → Int → Int → List Int → Option (Int × Int × Int × List Int × List Int)
 | 0, _, _, _, _, _, _, _, _, _, _, _, _, _ => none
 | k + 1, x4, x6, x7, x8, x12, x13, x14, x124, x125, x910000, x910001, x910002, x910003 => if x14 < x910002 then (if x12 = x8 then (impl_reduce.l4 k x4 x6 x7 x8 x124 (wrap64 (x125 + 1)) x910000 x910001 x910002 x910003) else (if 0 ≤ x12 then (if x12 < (x4.length : Int) then (if 0 ≤ x14 then (if x14 < ((RowsW.rd_L3 x4 x12).length : Int) then (if 0 ≤ x8 then (if x8 < (x4.length : Int) then (if x14 < ((RowsW.rd_L3 x4 x8).length : Int) then (if x910000 = 0 then (none) else ((impl_reduce.put x4 x12 x14 (Int.tmod (wrap64 ((rd (RowsW.rd_L3 x4 x12) x14) + (wrap64 ((wrap64 (x910000 - x13)) * (rd (RowsW.rd_L3 x4 x8) x14))))) x910000)).bind fun t952 => (impl_reduce.l5 k t952 x6 x7 x8 x12 x13 (wrap64 (x14 + 1)) x124 x125 x910000 x910001 x910002 x910003))) else (none)) else (none)) else (none)) else (none)) else (none)) else (none)) else (none))) else (impl_reduce.l4 k x4 x6 x7 x8 x124 (wrap64 (x125 + 1)) x910000 x910001 x910002 x910003)
def impl_reduce.l2 : Nat → List (List Int) → List Int → Int → Int → Int → Int → Int → Int → List Int → Option (Int × Int × Int × List Int × List Int)
 | 0, _, _, _, _, _, _, _, _, _ => none
 | k + 1, x4, x6, x7, x8, x9, x910000, x910001, x910002, x910003 => if x9 < (x4.length : Int) then (if 0 ≤ x9 then (if 0 ≤ x7 then (if x7 < ((RowsW.rd_L3 x4 x9).length : Int) then (if (rd (RowsW.rd_L3 x4 x9) x7) = 0 then (impl_reduce.l2 k x4 x6 x7 x8 (wrap64 (x9 + 1)) x910000 x910001 x910002 x910003) else (impl_reduce.j3 k x4 x6 x7 x8 x9 x910000 x910001 x910002 x910003)) else (none)) else (none)) else (none)) else (impl_reduce.j3 k x4 x6 x7 x8 x9 x910000 x910001 x910002 x910003)
def impl_reduce.l6 : Nat → List Int → List (List Int) → Int → Int → Int → Int → Int → List Int → Option (Int × Int × Int × List Int × List Int)
 | 0, _, _, _, _, _, _, _, _ => none
 | k + 1, x6, x191, x192, x193, x959000, x959001, x959002, x959003 => if x193 < x192 then (if 0 ≤ x193 then (if x193 < (x191.length : Int) then (if x959003.length + (RowsW.rd_L3 x191 x193).length < 17592186044416 then (impl_reduce.l6 k x6 x191 x192 (wrap64 (x193 + 1)) x959000 x959001 x959002 (x959003 ++ (RowsW.rd_L3 x191 x193))) else (none)) else (none)) else (none)) else (some (x959000, x959001, x959002, x959003, x6))
end
def impl_reduce.f (k : Nat) (a0_0 : Int) (a0_1 : Int) (a0_2 : Int) (l0_3 : List Int) : Option (Int × Int × Int × List Int × List Int) := impl_reduce.l0 k (([] : List (List Int))) 0 a0_0 a0_1 a0_2 l0_3
theorem impl_reduce.mono_l : ∀ k, (∀ y0 y1 y2 y3 y4 y5, LeO (impl_reduce.l0 k y0 y1 y2 y3 y4 y5) (impl_reduce.l0 (k + 1) y0 y1 y2 y3 y4 y5)) ∧ (∀ y0 y1 y2 y3 y4 y5 y6, LeO (impl_reduce.l1 k y0 y1 y2 y3 y4 y5 y6) (impl_reduce.l1 (k + 1) y0 y1 y2 y3 y4 y5 y6)) ∧ (∀ y0 y1 y2 y3 y4 y5 y6 y7 y8, LeO (impl_reduce.j3 k y0 y1 y2 y3 y4 y5 y6 y7 y8) (impl_reduce.j3 (k + 1) y0 y1 y2 y3 y4 y5 y6 y7 y8)) ∧ (∀ y0 y1 y2 y3 y4 y5 y6 y7 y8 y9 y10, LeO (impl_reduce.l3 k y0 y1 y2 y3 y4 y5 y6 y7 y8 y9 y10) (impl_reduce.l3 (k + 1) y0 y1 y2 y3 y4 y5 y6 y7 y8 y9 y10)) ∧ (∀ y0 y1 y2 y3 y4 y5 y6 y7 y8 y9, LeO (impl_reduce.l4 k y0 y1 y2 y3 y4 y5 y6 y7 y8 y9) (impl_reduce.l4 (k + 1) y0 y1 y2 y3 y4 y5 y6 y7 y8 y9)) ∧ (∀ y0 y1 y2 y3 y4 y5 y6 y7 y8 y9 y10 y11 y12, LeO (impl_reduce.l5 k y0 y1 y2 y3 y4 y5 y6 y7 y8 y9 y10 y11 y12) (impl_reduce.l5 (k + 1) y0 y1 y2 y3 y4 y5 y6 y7 y8 y9 y10 y11 y12)) ∧ (∀ y0 y1 y2 y3 y4 y5 y6 y7 y8, LeO (impl_reduce.l2 k y0 y1 y2 y3 y4 y5 y6 y7 y8) (impl_reduce.l2 (k + 1) y0 y1 y2 y3 y4 y5 y6 y7 y8)) ∧ (∀ y0 y1 y2 y3 y4 y5 y6 y7, LeO (impl_reduce.l6 k y0 y1 y2 y3 y4 y5 y6 y7) (impl_reduce.l6 (k + 1) y0 y1 y2 y3 y4 y5 y6 y7))
 | 0 => ⟨fun _ _ _ _ _ _ r h => by simp [impl_reduce.l0] at h, fun _ _ _ _ _ _ _ r h => by simp [impl_reduce.l1] at h, fun _ _ _ _ _ _ _ _ _ r h => by simp [impl_reduce.j3] at h, fun _ _ _ _ _ _ _ _ _ _ _ r h => by simp [impl_reduce.l3] at h, fun _ _ _ _ _ _ _ _ _ _ r h => by simp [impl_reduce.l4] at h, fun _ _ _ _ _ _ _ _ _ _ _ _ _ r h => by simp [impl_reduce.l5] at h, fun _ _ _ _ _ _ _ _ _ r h => by simp [impl_reduce.l2] at h, fun _ _ _ _ _ _ _ _ r h => by simp [impl_reduce.l6] at h⟩
 | k + 1 => by
  obtain ⟨ih0, ih1, ih2, ih3, ih4, ih5, ih6, ih7⟩ := impl_reduce.mono_l k
  refine ⟨?_, ?_, ?_, ?_, ?_, ?_, ?_, ?_⟩
  ·intro y0 y1 y2 y3 y4 y5
   unfold impl_reduce.l0
   repeat' first
   | (with_reducible exact ih0 _ _ _ _ _ _)
   | (with_reducible exact ih1 _ _ _ _ _ _ _)
   | (with_reducible exact ih2 _ _ _ _ _ _ _ _ _)
   | (with_reducible exact ih3 _ _ _ _ _ _ _ _ _ _ _)
   | (with_reducible exact ih4 _ _ _ _ _ _ _ _ _ _)
   | (with_reducible exact ih5 _ _ _ _ _ _ _ _ _ _ _ _ _)
   | (with_reducible exact ih6 _ _ _ _ _ _ _ _ _)
   | (with_reducible exact ih7 _ _ _ _ _ _ _ _)
   | (with_reducible exact impl_InverseIn.mono _ _ _)
   | (with_reducible exact LeO.refl _)
   | (with_reducible exact LeO.none _)
   | (with_reducible refine LeO.ite ?_ ?_)
   | (with_reducible refine LeO.bind ?_ (fun _ => ?_))
   | exact ih0 _ _ _ _ _ _
   | exact ih1 _ _ _ _ _ _ _
   | exact ih2 _ _ _ _ _ _ _ _ _
   | exact ih3 _ _ _ _ _ _ _ _ _ _ _
   | exact ih4 _ _ _ _ _ _ _ _ _ _
   | exact ih5 _ _ _ _ _ _ _ _ _ _ _ _ _
   | exact ih6 _ _ _ _ _ _ _ _ _
   | exact ih7 _ _ _ _ _ _ _ _
   | exact impl_InverseIn.mono _ _ _
   | exact LeO.none _
   | refine LeO.ite ?_ ?_
   | refine LeO.bind ?_ (fun _ => ?_)
  ·intro y0 y1 y2 y3 y4 y5 y6
   unfold impl_reduce.l1
   repeat' first
   | (with_reducible exact ih0 _ _ _ _ _ _)
   | (with_reducible exact ih1 _ _ _ _ _ _ _)
   | (with_reducible exact ih2 _ _ _ _ _ _ _ _ _)
   | (with_reducible exact ih3 _ _ _ _ _ _ _ _ _ _ _)
   | (with_reducible exact ih4 _ _ _ _ _ _ _ _ _ _)
   | (with_reducible exact ih5 _ _ _ _ _ _ _ _ _ _ _ _ _)
   | (with_reducible exact ih6 _ _ _ _ _ _ _ _ _)
   | (with_reducible exact ih7 _ _ _ _ _ _ _ _)
   | (with_reducible exact impl_InverseIn.mono _ _ _)
   | (with_reducible exact LeO.refl _)
   | (with_reducible exact LeO.none _)
   | (with_reducible refine LeO.ite ?_ ?_)
   | (with_reducible refine LeO.bind ?_ (fun _ => ?_))
   | exact ih0 _ _ _ _ _ _
   | exact ih1 _ _ _ _ _ _ _
   | exact ih2 _ _ _ _ _ _ _ _ _
   | exact ih3 _ _ _ _ _ _ _ _ _ _ _
   | exact ih4 _ _ _ _ _ _ _ _ _ _
   | exact ih5 _ _ _ _ _ _ _ _ _ _ _ _ _
   | exact ih6 _ _ _ _ _ _ _ _ _
   | exact ih7 _ _ _ _ _ _ _ _
   | exact impl_InverseIn.mono _ _ _
   | exact LeO.none _
   | refine LeO.ite ?_ ?_
   | refine LeO.bind ?_ (fun _ => ?_)
  ·intro y0 y1 y2 y3 y4 y5 y6 y7 y8
   unfold impl_reduce.j3
   repeat' first
   | (with_reducible exact ih0 _ _ _ _ _ _)
   | (with_reducible exact ih1 _ _ _ _ _ _ _)
   | (with_reducible exact ih2 _ _ _ _ _ _ _ _ _)
   | (with_reducible exact ih3 _ _ _ _ _ _ _ _ _ _ _)
   | (with_reducible exact ih4 _ _ _ _ _ _ _ _ _ _)
   | (with_reducible exact ih5 _ _ _ _ _ _ _ _ _ _ _ _ _)
   | (with_reducible exact ih6 _ _ _ _ _ _ _ _ _)
   | (with_reducible exact ih7 _ _ _ _ _ _ _ _)
   | (with_reducible exact impl_InverseIn.mono _ _ _)
   | (with_reducible exact LeO.refl _)
   | (with_reducible exact LeO.none _)
   | (with_reducible refine LeO.ite ?_ ?_)
   | (with_reducible refine LeO.bind ?_ (fun _ => ?_))
   | exact ih0 _ _ _ _ _ _
   | exact ih1 _ _ _ _ _ _ _
   | exact ih2 _ _ _ _ _ _ _ _ _
   | exact ih3 _ _ _ _ _ _ _ _ _ _ _
   | exact ih4 _ _ _ _ _ _ _ _ _ _
   | exact ih5 _ _ _ _ _ _ _ _ _ _ _ _ _
   | exact ih6 _ _ _ _ _ _ _ _ _
   | exact ih7 _ _ _ _ _ _ _ _
   | exact impl_InverseIn.mono _ _ _
   | exact LeO.none _
   | refine LeO.ite ?_ ?_
   | refine LeO.bind ?_ (fun _ => ?_)
  ·intro y0 y1 y2 y3 y4 y5 y6 y7 y8 y9 y10
   unfold impl_reduce.l3
   repeat' first
   | (with_reducible exact ih0 _ _ _ _ _ _)
   | (with_reducible exact ih1 _ _ _ _ _ _ _)
   | (with_reducible exact ih2 _ _ _ _ _ _ _ _ _)
   | (with_reducible exact ih3 _ _ _ _ _ _ _ _ _ _ _)
   | (with_reducible exact ih4 _ _ _ _ _ _ _ _ _ _)
   | (with_reducible exact ih5 _ _ _ _ _ _ _ _ _ _ _ _ _)
   | (with_reducible exact ih6 _ _ _ _ _ _ _ _ _)
   | (with_reducible exact ih7 _ _ _ _ _ _ _ _)
   | (with_reducible exact impl_InverseIn.mono _ _ _)
   | (with_reducible exact LeO.refl _)
   | (with_reducible exact LeO.none _)
   | (with_reducible refine LeO.ite ?_ ?_)
   | (with_reducible refine LeO.bind ?_ (fun _ => ?_))
   | exact ih0 _ _ _ _ _ _
   | exact ih1 _ _ _ _ _ _ _
   | exact ih2 _ _ _ _ _ _ _ _ _
   | exact ih3 _ _ _ _ _ _ _ _ _ _ _
   | exact ih4 _ _ _ _ _ _ _ _ _ _
   | exact ih5 _ _ _ _ _ _ _ _ _ _ _ _ _
   | exact ih6 _ _ _ _ _ _ _ _ _
   | exact ih7 _ _ _ _ _ _ _ _
   | exact impl_InverseIn.mono _ _ _
   | exact LeO.none _
   | refine LeO.ite ?_ ?_
   | refine LeO.bind ?_ (fun _ => ?_)
  ·intro y0 y1 y2 y3 y4 y5 y6 y7 y8 y9
   unfold impl_reduce.l4
   repeat' first
   | (with_reducible exact ih0 _ _ _ _ _ _)
   | (with_reducible exact ih1 _ _ _ _ _ _ _)
   | (with_reducible exact ih2 _ _ _ _ _ _ _ _ _)
   | (with_reducible exact ih3 _ _ _ _ _ _ _ _ _ _ _)
   | (with_reducible exact ih4 _ _ _ _ _ _ _ _ _ _)
   | (with_reducible exact ih5 _ _ _ _ _ _ _ _ _ _ _ _ _)
   | (with_reducible exact ih6 _ _ _ _ _ _ _ _ _)
   | (with_reducible exact ih7 _ _ _ _ _ _ _ _)
   | (with_reducible exact impl_InverseIn.mono _ _ _)
   | (with_reducible exact LeO.refl _)
   | (with_reducible exact LeO.none _)
   | (with_reducible refine LeO.ite ?_ ?_)
   | (with_reducible refine LeO.bind ?_ (fun _ => ?_))
   | exact ih0 _ _ _ _ _ _
   | exact ih1 _ _ _ _ _ _ _
   | exact ih2 _ _ _ _ _ _ _ _ _
   | exact ih3 _ _ _ _ _ _ _ _ _ _ _
   | exact ih4 _ _ _ _ _ _ _ _ _ _
   | exact ih5 _ _ _ _ _ _ _ _ _ _ _ _ _
   | exact ih6 _ _ _ _ _ _ _ _ _
   | exact ih7 _ _ _ _ _ _ _ _
   | exact impl_InverseIn.mono _ _ _
   | exact LeO.none _
   | refine LeO.ite ?_ ?_
   | refine LeO.bind ?_ (fun _ => ?_)
  ·intro y0 y1 y2 y3 y4 y5 y6 y7 y8 y9 y10 y11 y12
   unfold impl_reduce.l5
   repeat' first
   | (with_reducible exact ih0 _ _ _ _ _ _)
   | (with_reducible exact ih1 _ _ _ _ _ _ _)
   | (with_reducible exact ih2 _ _ _ _ _ _ _ _ _)
   | (with_reducible exact ih3 _ _ _ _ _ _ _ _ _ _ _)
   | (with_reducible exact ih4 _ _ _ _ _ _ _ _ _ _)
   | (with_reducible exact ih5 _ _ _ _ _ _ _ _ _ _ _ _ _)
   | (with_reducible exact ih6 _ _ _ _ _ _ _ _ _)
   | (with_reducible exact ih7 _ _ _ _ _ _ _ _)
   | (with_reducible exact impl_InverseIn.mono _ _ _)
   | (with_reducible exact LeO.refl _)
   | (with_reducible exact LeO.none _)
   | (with_reducible refine LeO.ite ?_ ?_)
   | (with_reducible refine LeO.bind ?_ (fun _ => ?_))
   | exact ih0 _ _ _ _ _ _
   | exact ih1 _ _ _ _ _ _ _
   | exact ih2 _ _ _ _ _ _ _ _ _
   | exact ih3 _ _ _ _ _ _ _ _ _ _ _
   | exact ih4 _ _ _ _ _ _ _ _ _ _
   | exact ih5 _ _ _ _ _ _ _ _ _ _ _ _ _
   | exact ih6 _ _ _ _ _ _ _ _ _
   | exact ih7 _ _ _ _ _ _ _ _
   | exact impl_InverseIn.mono _ _ _
   | exact LeO.none _
   | refine LeO.ite ?_ ?_
   | refine LeO.bind ?_ (fun _ => ?_)
  ·intro y0 y1 y2 y3 y4 y5 y6 y7 y8
   unfold impl_reduce.l2
   repeat' first
   | (with_reducible exact ih0 _ _ _ _ _ _)
   | (with_reducible exact ih1 _ _ _ _ _ _ _)
   | (with_reducible exact ih2 _ _ _ _ _ _ _ _ _)
   | (with_reducible exact ih3 _ _ _ _ _ _ _ _ _ _ _)
   | (with_reducible exact ih4 _ _ _ _ _ _ _ _ _ _)
   | (with_reducible exact ih5 _ _ _ _ _ _ _ _ _ _ _ _ _)
   | (with_reducible exact ih6 _ _ _ _ _ _ _ _ _)
   | (with_reducible exact ih7 _ _ _ _ _ _ _ _)
   | (with_reducible exact impl_InverseIn.mono _ _ _)
   | (with_reducible exact LeO.refl _)
   | (with_reducible exact LeO.none _)
   | (with_reducible refine LeO.ite ?_ ?_)
   | (with_reducible refine LeO.bind ?_ (fun _ => ?_))
   | exact ih0 _ _ _ _ _ _
   | exact ih1 _ _ _ _ _ _ _
   | exact ih2 _ _ _ _ _ _ _ _ _
   | exact ih3 _ _ _ _ _ _ _ _ _ _ _
   | exact ih4 _ _ _ _ _ _ _ _ _ _
   | exact ih5 _ _ _ _ _ _ _ _ _ _ _ _ _
   | exact ih6 _ _ _ _ _ _ _ _ _
   | exact ih7 _ _ _ _ _ _ _ _
   | exact impl_InverseIn.mono _ _ _
   | exact LeO.none _
   | refine LeO.ite ?_ ?_
   | refine LeO.bind ?_ (fun _ => ?_)
  ·intro y0 y1 y2 y3 y4 y5 y6 y7
   unfold impl_reduce.l6
   repeat' first
   | (with_reducible exact ih0 _ _ _ _ _ _)
   | (with_reducible exact ih1 _ _ _ _ _ _ _)
   | (with_reducible exact ih2 _ _ _ _ _ _ _ _ _)
   | (with_reducible exact ih3 _ _ _ _ _ _ _ _ _ _ _)
   | (with_reducible exact ih4 _ _ _ _ _ _ _ _ _ _)
   | (with_reducible exact ih5 _ _ _ _ _ _ _ _ _ _ _ _ _)
   | (with_reducible exact ih6 _ _ _ _ _ _ _ _ _)
   | (with_reducible exact ih7 _ _ _ _ _ _ _ _)
   | (with_reducible exact impl_InverseIn.mono _ _ _)
   | (with_reducible exact LeO.refl _)
   | (with_reducible exact LeO.none _)
   | (with_reducible refine LeO.ite ?_ ?_)
   | (with_reducible refine LeO.bind ?_ (fun _ => ?_))
   | exact ih0 _ _ _ _ _ _
   | exact ih1 _ _ _ _ _ _ _
   | exact ih2 _ _ _ _ _ _ _ _ _
   | exact ih3 _ _ _ _ _ _ _ _ _ _ _
   | exact ih4 _ _ _ _ _ _ _ _ _ _
   | exact ih5 _ _ _ _ _ _ _ _ _ _ _ _ _
   | exact ih6 _ _ _ _ _ _ _ _ _
   | exact ih7 _ _ _ _ _ _ _ _
   | exact impl_InverseIn.mono _ _ _
   | exact LeO.none _
   | refine LeO.ite ?_ ?_
   | refine LeO.bind ?_ (fun _ => ?_)
theorem impl_reduce.mono : ∀ a0 a1 a2 a3 k, LeO (impl_reduce.f k a0 a1 a2 a3) (impl_reduce.f (k + 1) a0 a1 a2 a3) := by
 intro a0 a1 a2 a3 k
 obtain ⟨ih0, ih1, ih2, ih3, ih4, ih5, ih6, ih7⟩ := impl_reduce.mono_l k
 unfold impl_reduce.f
 repeat' first
   | (with_reducible exact ih0 _ _ _ _ _ _)
   | (with_reducible exact ih1 _ _ _ _ _ _ _)
   | (with_reducible exact ih2 _ _ _ _ _ _ _ _ _)
   | (with_reducible exact ih3 _ _ _ _ _ _ _ _ _ _ _)
   | (with_reducible exact ih4 _ _ _ _ _ _ _ _ _ _)
   | (with_reducible exact ih5 _ _ _ _ _ _ _ _ _ _ _ _ _)
   | (with_reducible exact ih6 _ _ _ _ _ _ _ _ _)
   | (with_reducible exact ih7 _ _ _ _ _ _ _ _)
   | (with_reducible exact impl_InverseIn.mono _ _ _)
   | (with_reducible exact LeO.refl _)
   | (with_reducible exact LeO.none _)
   | (with_reducible refine LeO.ite ?_ ?_)
   | (with_reducible refine LeO.bind ?_ (fun _ => ?_))
   | exact ih0 _ _ _ _ _ _
   | exact ih1 _ _ _ _ _ _ _
   | exact ih2 _ _ _ _ _ _ _ _ _
   | exact ih3 _ _ _ _ _ _ _ _ _ _ _
   | exact ih4 _ _ _ _ _ _ _ _ _ _
   | exact ih5 _ _ _ _ _ _ _ _ _ _ _ _ _
   | exact ih6 _ _ _ _ _ _ _ _ _
   | exact ih7 _ _ _ _ _ _ _ _
   | exact impl_InverseIn.mono _ _ _
   | exact LeO.none _
   | refine LeO.ite ?_ ?_
   | refine LeO.bind ?_ (fun _ => ?_)
set_option maxHeartbeats 8000000 in
set_option maxRecDepth 100000 in
theorem impl_reduce.calls (k : Nat) (a0_0 : Int) (a0_1 : Int) (a0_2 : Int) (A0_3 : Option Addr) (c0_3 : Nat) (l0_3 : List Int) (r1 : Int) (r2 : Int) (r3 : Int) (r4 : List Int) (r5 : List Int) (w : World) (hr0_3 : Kd.C (Kd.int .i64) w A0_3 l0_3.length l0_3) (hc0_3 : l0_3.length ≤ c0_3) (h : impl_reduce.f k a0_0 a0_1 a0_2 l0_3 = some (r1, r2, r3, r4, r5)) :
  Calls Try.prog 160 #[.agg #[.int .i64 a0_0, .int .i64 a0_1, .int .i64 a0_2, .slice A0_3 l0_3.length c0_3]] w fun e w' => ∃ v3_ v4_ : Value, e = .returned (.tuple #[.agg #[.int .i64 r1, .int .i64 r2, .int .i64 r3, v3_], v4_]) ∧ Kd.R (Kd.int .i64) 3 w' w.heap.size (fun k_ => some k_ ≠ (v4_ : Value).ownBlock) v3_ r4 ∧ Kd.R (Kd.int .i64) 3 w' w.heap.size (fun k_ => some k_ ≠ (v3_ : Value).ownBlock) v4_ r5 ∧ Below w.heap.size w w' := by
 have hu49 := Try.underlying49
 have HR0_3 := Aside0.mk hr0_3
 have HC0_3 := Aside0.mk hc0_3
 clear hr0_3 hc0_3
 have HB := Aside0.mk (Below.refl w.heap.size w)
 unfold impl_reduce.f at h
 have H := h
 clear h
 obtain ⟨y911, hy911⟩ : ∃ y_ : List (List Int), y_ = (([] : List (List Int))) := ⟨_, rfl⟩
 replace H : (impl_reduce.l0 k y911 0 a0_0 a0_1 a0_2 l0_3) = some (r1, r2, r3, r4, r5) := by (try rw [hy911]); exact Hof.Z
 have Ny911 := Aside0.mk hy911
 clear hy911
 have H' := Aside0.mk H
 clear H
 go_enter Try.func160, Try.ntmps160
 go_wp2_with (first | ((with_reducible refine gate_dst (N := 1) rfl ?_); refine Hof.bx 1 #[.int .i64 a0_0, .int .i64 a0_1, .int .i64 a0_2, .slice A0_3 l0_3.length c0_3] 49 ?_; intro gb909 hg w2 hbox hb; have BK909 := Aside0.mk hbox; have GW909 := Hof.gw hg HB; have GE909 := Hof.gw hg HB; replace HB := Hof.lb HB hb; clear hb hbox hg) | ((with_reducible refine gate_dst (N := 2) rfl ?_); refine Hof.bx 2 #[.int .i64 0, .int .i64 0, .int .i64 0, .slice none 0 0] 49 ?_; intro gb910 hg w3 hbox hb; have BK910 := Aside0.mk hbox; have GW910 := Hof.gw hg HB; have GE910 := Hof.gw hg HB; replace HB := Hof.lb HB hb; have NB909_910 := Hof.nl hg BK909; have NB910_909 := Hof.ng hg BK909; replace BK909 := Hof.bb BK909 hb; clear hb hbox hg) | ((with_reducible refine gate_dst (N := 18) rfl ?_); refine Kd.S_lit (Kd.slice 3 (Kd.int .i64)) _ 24 ?hg (N := 18) ?hd (xs := ([] : List (List Int))) (inner := []) (ok := fun _ => True) (okp := fun _ => True) ?hr ?hp (fun _ hk => hk) trivial (Below.refl _ _) (Nat.le_refl _) (by simp) ?_; (case hd => rfl); (case hg => rfl); (case hr => first | (go_simp; done) | (go_simp; rfl)); (case hp => exact (Reps.none _ _)); intro v912 w4 ho5 hb hg_ hnew_; clear hg_ hnew_; (first | rw [← Ny911.out] at ho5 | (simp only [Int.reduceToNat] at ho5; rw [← Ny911.out] at ho5)); have HO913 := Aside0.mk (Kd.S_lower ho5 (below_size (Hof.Lw HB.out))); replace BK909 := Hof.bb BK909 hb; replace BK910 := Hof.bb BK910 hb; replace HB := Hof.lb HB hb; clear hb ho5))
 go_loopg [4, 5] k (fun kq v4 v5 w' => ∃ (x4_1 : List (List Int)) (x5_1 : Int), v5 = .int .i64 x5_1 ∧ Aside0 (impl_reduce.l0 kq x4_1 x5_1 a0_0 a0_1 a0_2 l0_3 = some (r1, r2, r3, r4, r5)) ∧ Aside0 (kq ≤ k) ∧ Aside0 (Kd.S (Kd.slice 3 (Kd.int .i64)) 24 w' w.heap.size (fun _ => True) v4 x4_1) ∧ Aside0 (w'.heap[gb909]? = some (.cells #[.int .i64 a0_0, .int .i64 a0_1, .int .i64 a0_2, (.slice A0_3 l0_3.length c0_3)] 49 (0, 0))) ∧ Aside0 (w'.heap[gb910]? = some (.cells #[.int .i64 0, .int .i64 0, .int .i64 0, (.slice none 0 0)] 49 (0, 0))) ∧ Aside0 (Below w.heap.size w w'))
 case atStart => exact ⟨(y911), (0), Hof.F, H', ⟨Nat.le_refl _⟩, ⟨Hof.Sw HO913.out⟩, ⟨Hof.Bw BK909.out⟩, ⟨Hof.Bw BK910.out⟩, ⟨Hof.Lw HB.out⟩⟩
 case round =>
  clear H'
  obtain ⟨x4_1, x5_1, rfl, HA, HK1, HO_4, BK909, BK910, HB⟩ := hrel
  cases gk with
  | zero => exact absurd HA.out (by simp [impl_reduce.l0])
  | succ k1 =>
   have H := HA.out
   clear HA
   simp only [impl_reduce.l0] at H
   by_cases c6 : x5_1 < a0_1
   ·rw [if_pos c6] at H
    have c6b0 := decide_eq_true c6
    clear c6
    obtain ⟨y914, hy914⟩ : ∃ y_ : List Int, y_ = (([] : List Int)) := ⟨_, rfl⟩
    replace H : (if 0 ≤ (wrap64 (x5_1 * a0_2)) then (if (wrap64 (x5_1 * a0_2)) ≤ (wrap64 ((wrap64 (x5_1 + 1)) * a0_2)) then (if (wrap64 ((wrap64 (x5_1 + 1)) * a0_2)) ≤ (l0_3.length : Int) then (if y914.length + ((l0_3.take ((wrap64 ((wrap64 (x5_1 + 1)) * a0_2)) : Int).toNat).drop ((wrap64 (x5_1 * a0_2)) : Int).toNat).length < 17592186044416 then (if x4_1.length < 5864062014805 then (impl_reduce.l0 k1 (x4_1 ++ [(y914 ++ ((l0_3.take ((wrap64 ((wrap64 (x5_1 + 1)) * a0_2)) : Int).toNat).drop ((wrap64 (x5_1 * a0_2)) : Int).toNat))]) (wrap64 (x5_1 + 1)) a0_0 a0_1 a0_2 l0_3) else (none)) else (none)) else (none)) else (none)) else (none)) = some (r1, r2, r3, r4, r5) := by (try rw [hy914]); exact Hof.Z
    have Ny914 := Aside0.mk hy914
    clear hy914
    obtain ⟨ji7, hji7⟩ : ∃ j_ : Int, (wrap64 (x5_1 * a0_2)) = j_ := ⟨_, rfl⟩
    replace H : (if 0 ≤ (ji7) then (if (ji7) ≤ (wrap64 ((wrap64 (x5_1 + 1)) * a0_2)) then (if (wrap64 ((wrap64 (x5_1 + 1)) * a0_2)) ≤ (l0_3.length : Int) then (if y914.length + ((l0_3.take ((wrap64 ((wrap64 (x5_1 + 1)) * a0_2)) : Int).toNat).drop ((ji7) : Int).toNat).length < 17592186044416 then (if x4_1.length < 5864062014805 then (impl_reduce.l0 k1 (x4_1 ++ [(y914 ++ ((l0_3.take ((wrap64 ((wrap64 (x5_1 + 1)) * a0_2)) : Int).toNat).drop ((ji7) : Int).toNat))]) (wrap64 (x5_1 + 1)) a0_0 a0_1 a0_2 l0_3) else (none)) else (none)) else (none)) else (none)) else (none)) = some (r1, r2, r3, r4, r5) := by first | (rw [hji7] at H; exact H) | (simp only [hji7] at H ⊢; exact H)
    have hji7w : (IntKind.i64.wrap (x5_1 * a0_2)) = ji7 := (i64_w _).trans hji7
    by_cases c8 : 0 ≤ (ji7)
    ·rw [if_pos c8] at H
     have c8b0 := eq_true c8
     have c8b1 : decide (0 ≤ (ji7)) = true := decide_eq_true c8
     clear c8
     by_cases c9 : (ji7) ≤ (wrap64 ((wrap64 (x5_1 + 1)) * a0_2))
     ·rw [if_pos c9] at H
      have c9b0 := eq_true c9
      have c9b1 : decide ((ji7) ≤ (wrap64 ((wrap64 (x5_1 + 1)) * a0_2))) = true := decide_eq_true c9
      by_cases c10 : (wrap64 ((wrap64 (x5_1 + 1)) * a0_2)) ≤ (l0_3.length : Int)
      ·rw [if_pos c10] at H
       have c10b0 := eq_true c10
       have c10b1 : decide ((wrap64 ((wrap64 (x5_1 + 1)) * a0_2)) ≤ (l0_3.length : Int)) = true := decide_eq_true c10
       by_cases c11 : y914.length + ((l0_3.take ((wrap64 ((wrap64 (x5_1 + 1)) * a0_2)) : Int).toNat).drop ((ji7) : Int).toNat).length < 17592186044416
       ·rw [if_pos c11] at H
        have LMc11 := Aside0.mk c11
        clear c11
        obtain ⟨y918, hy918⟩ : ∃ y_ : List Int, y_ = (y914 ++ ((l0_3.take ((wrap64 ((wrap64 (x5_1 + 1)) * a0_2)) : Int).toNat).drop ((ji7) : Int).toNat)) := ⟨_, rfl⟩
        replace H : (if x4_1.length < 5864062014805 then (impl_reduce.l0 k1 (x4_1 ++ [y918]) (wrap64 (x5_1 + 1)) a0_0 a0_1 a0_2 l0_3) else (none)) = some (r1, r2, r3, r4, r5) := by (try rw [hy918]); exact Hof.Z
        have Ny918 := Aside0.mk hy918
        clear hy918
        by_cases c12 : x4_1.length < 5864062014805
        ·rw [if_pos c12] at H
         have LMc12 := Aside0.mk c12
         clear c12
         obtain ⟨y921, hy921⟩ : ∃ y_ : List (List Int), y_ = (x4_1 ++ [y918]) := ⟨_, rfl⟩
         replace H : (impl_reduce.l0 k1 y921 (wrap64 (x5_1 + 1)) a0_0 a0_1 a0_2 l0_3) = some (r1, r2, r3, r4, r5) := by (try rw [hy921]); exact Hof.Z
         have Ny921 := Aside0.mk hy921
         clear hy921
         have H' := Aside0.mk H
         clear H
         have hnb13 := NB909_910.out
         have hnc13 := NB910_909.out
         obtain ⟨hcz14_0, hcz14_1, hcz14_2, hcz14_3, hfz14_0, hfz14_1, hfz14_2, hfz14_3⟩ := Hof.blk4 BK909.out
         go_wp2_with (first | (refine Hof.lt (Kd.int .i64) 3 26 ?_; intro v915 w15 ho16 hb hg_ hnew_; clear hg_ hnew_; (first | rw [← Ny914.out] at ho16 | (simp only [Int.reduceToNat] at ho16; rw [← Ny914.out] at ho16)); replace HO_4 := Aside0.mk (Kd.S_elder' (Hof.Sw HO_4.out) (Kd.R_base ho16) hb); have HO916 := Aside0.mk (Kd.R_lower ho16 (below_size (Hof.Lw HB.out))); replace BK909 := Hof.bb BK909 hb; replace BK910 := Hof.bb BK910 hb; replace HB := Hof.lb HB hb; clear hb ho16; obtain ⟨hcz17_0, hcz17_1, hcz17_2, hcz17_3, hfz17_0, hfz17_1, hfz17_2, hfz17_3⟩ := Hof.blk4 BK909.out; obtain ⟨i018, hi018, _, hsz18, _⟩ := info_parts info3; obtain ⟨A18, hcut18, hA18, hC18⟩ := print_mid_of (P := Try.prog) (Value.int .i64) 0 24 3 .i64 .i64 Try.underlying24 hi018 hsz18 A0_3 c0_3 l0_3 (ji7) (wrap64 ((wrap64 (x5_1 + 1)) * a0_2)) (Hof.D) (by first | omega | exact Hof.D) (Hof.D) HC0_3.out; have HR917 := Aside0.mk (Kd.C_of_reads (h1 := fun _ => rfl) (hA18 _ (Kd.reads_of_C HR0_3.out))); have HC917 := Aside0.mk hC18; clear hA18 hC18 hi018 hsz18) | ((with_reducible refine gate_builtin (b := .append) (xs := #[.tmp 26, .tmp 38]) rfl ?_); at_builtin; refine Kd.R_append_rows (Kd.int .i64) (w0 := w) w.heap.size rfl (.tmp 26) (.tmp 38) 24 3 (.int .i64 0) 8 rfl Try.underlying24 info3 rfl (by decide) (by omega) v915 y914 ((l0_3.take ((wrap64 ((wrap64 (x5_1 + 1)) * a0_2)) : Int).toNat).drop ((ji7) : Int).toNat) _ _ _ (fun _ => True) (fun _ => False) rfl rfl (by exact Hof.Rw HO916.out) (by first | (rw [← show ((l0_3.take ((wrap64 ((wrap64 (x5_1 + 1)) * a0_2)) : Int).toNat).drop ((ji7) : Int).toNat).length = ((wrap64 ((wrap64 (x5_1 + 1)) * a0_2)).toNat - (ji7).toNat) from (by rw [List.length_drop, List.length_take]; have h_ : ((wrap64 ((wrap64 (x5_1 + 1)) * a0_2)) : Int) ≤ (l0_3.length : Int) := Hof.D; omega)]; repeat (first | exact (Kd.C_below HR917.out HB.out) | (with_reducible refine Kd.C_alloc ?_ _) | (with_reducible refine Kd.C_drewN ?_ _) | (with_reducible refine Kd.C_drew ?_))) | (repeat (first | exact (Kd.C_below HR917.out HB.out) | (with_reducible refine Kd.C_alloc ?_ _) | (with_reducible refine Kd.C_drewN ?_ _) | (with_reducible refine Kd.C_drew ?_)))) (fun _ _ h => h) (fun _ h => h.elim) (by exact fun _ _ => trivial) (by exact Hof.Lw HB.out) (by exact below_size (Hof.Lw HB.out)) (by have := LMc11.out; have hlx_ := (show ((l0_3.take ((wrap64 ((wrap64 (x5_1 + 1)) * a0_2)) : Int).toNat).drop ((ji7) : Int).toNat).length = ((wrap64 ((wrap64 (x5_1 + 1)) * a0_2)).toNat - (ji7).toNat) from (by rw [List.length_drop, List.length_take]; have h_ : ((wrap64 ((wrap64 (x5_1 + 1)) * a0_2)) : Int) ≤ (l0_3.length : Int) := Hof.D; omega)); omega) ?_; intro v919 w19 ho hb hg hat; rw [← Ny918.out] at ho; have n0_ := Aside0.mk (Kd.S_after (ok := (fun _ => True)) (Hof.Sw HO_4.out) hg hat); have n1_ := Aside0.mk (blk_grown (g := gb909) (o := .cells #[.int .i64 a0_0, .int .i64 a0_1, .int .i64 a0_2, .slice A0_3 l0_3.length c0_3] 49 (0, 0)) (Hof.Bw BK909.out) hg (Kd.R_ne HO916.out BK909.out (by decide))); have n2_ := Aside0.mk (blk_grown (g := gb910) (o := .cells #[.int .i64 0, .int .i64 0, .int .i64 0, .slice none 0 0] 49 (0, 0)) (Hof.Bw BK910.out) hg (Kd.R_ne HO916.out BK910.out (by decide))); have n3_ := Aside0.mk hb; have n4_ := Aside0.mk ho; clear HO_4; clear BK909; clear BK910; clear HB; clear HO916; have HO_4 := n0_; have BK909 := n1_; have BK910 := n2_; have HB := n3_; have HO920 := n4_; clear n0_ n1_ n2_ n3_ n4_; clear ho hb hg hat; obtain ⟨Ao21, co21, eo21⟩ := Kd.R_slice HO920.out; subst eo21) | ((with_reducible refine gate_builtin (b := .append) (xs := #[.tmp 25, .tmp 40]) rfl ?_); at_builtin; refine Kd.S_append (Kd.slice 3 (Kd.int .i64)) (w0 := w) w.heap.size rfl (.tmp 25) (.tmp 40) 67 24 (.slice none 0 0) 24 rfl Try.underlying67 impl_reduce.info24 rfl (by decide) (by omega) u4 x4_1 y918 [.slice Ao21 y918.length co21] (fun _ => True) (fun k_ => some k_ = (.slice Ao21 y918.length co21 : Value).ownBlock) rfl rfl ?aP (fun k_ hk_ => ((Kd.R_mono (ok' := fun k_ => ((fun _ => True)) k_ ∧ some k_ ≠ (u4 : Value).ownBlock) (Kd.R_apart' (HO920.out) (Kd.S_typed HO_4.out) (by decide)) (fun k_ hk => ⟨trivial, hk.2⟩))).1 k_ hk_.symm) ?aF ?aO ?aB ?aS ?aL ?_; (case aP => exact Kd.M_row (Kd.R_mono (Kd.R_tight rfl (Kd.R_mono (ok' := fun k_ => ((fun _ => True)) k_ ∧ some k_ ≠ (u4 : Value).ownBlock) (Kd.R_apart' (HO920.out) (Kd.S_typed HO_4.out) (by decide)) (fun k_ hk => ⟨trivial, hk.2⟩))) (fun _ h_ => h_))); (case aB => exact (Hof.Lw HB.out)); (case aF => exact (fun _ _ => trivial)); (case aO => exact (Hof.Sw (Kd.S_mono HO_4.out (fun k_ hk => ⟨trivial, fun e_ => hk.2 e_⟩)))); (case aS => exact (below_size (Hof.Lw HB.out))); (case aL => have := LMc12.out; omega); intro v922 w20 ho hb hg hat; rw [← Ny921.out] at ho; have n0_ := Aside0.mk (blk_grown (g := gb909) (o := .cells #[.int .i64 a0_0, .int .i64 a0_1, .int .i64 a0_2, .slice A0_3 l0_3.length c0_3] 49 (0, 0)) (Hof.Bw BK909.out) hg (Kd.S_ne HO_4.out BK909.out (by decide))); have n1_ := Aside0.mk (blk_grown (g := gb910) (o := .cells #[.int .i64 0, .int .i64 0, .int .i64 0, .slice none 0 0] 49 (0, 0)) (Hof.Bw BK910.out) hg (Kd.S_ne HO_4.out BK910.out (by decide))); have n2_ := Aside0.mk hb; have n3_ := Aside0.mk ho; clear BK909; clear BK910; clear HB; clear HO_4; clear HO920; have BK909 := n0_; have BK910 := n1_; have HB := n2_; have HO923 := n3_; clear n0_ n1_ n2_ n3_; clear ho hb hg hat))
         go_roundg k1
         case measure => have := HK1.out; omega
         case rel => exact ⟨(y921), (wrap64 (x5_1 + 1)), Hof.F, H', ⟨by have := HK1.out; omega⟩, ⟨Hof.Sw HO923.out⟩, ⟨Hof.Bw BK909.out⟩, ⟨Hof.Bw BK910.out⟩, ⟨Hof.Lw HB.out⟩⟩
        ·rw [if_neg c12] at H
         exact absurd H (by simp)
       ·rw [if_neg c11] at H
        exact absurd H (by simp)
      ·rw [if_neg c10] at H
       exact absurd H (by simp)
     ·rw [if_neg c9] at H
      exact absurd H (by simp)
    ·rw [if_neg c8] at H
     exact absurd H (by simp)
   ·rw [if_neg c6] at H
    have c6b0 : decide (x5_1 < a0_1) = false := decide_eq_false c6
    clear c6
    obtain ⟨y924, hy924⟩ : ∃ y_ : List Int, y_ = (([] : List Int)) := ⟨_, rfl⟩
    replace H : (impl_reduce.l1 k1 x4_1 y924 0 a0_0 a0_1 a0_2 l0_3) = some (r1, r2, r3, r4, r5) := by (try rw [hy924]); exact Hof.Z
    have Ny924 := Aside0.mk hy924
    clear hy924
    have H' := Aside0.mk H
    clear H
    have hnb22 := NB909_910.out
    have hnc22 := NB910_909.out
    obtain ⟨hcz23_0, hcz23_1, hcz23_2, hcz23_3, hfz23_0, hfz23_1, hfz23_2, hfz23_3⟩ := Hof.blk4 BK909.out
    go_wp2_with (first | (refine Hof.lt (Kd.int .i64) 3 42 ?_; intro v925 w24 ho25 hb hg_ hnew_; clear hg_ hnew_; (first | rw [← Ny924.out] at ho25 | (simp only [Int.reduceToNat] at ho25; rw [← Ny924.out] at ho25)); replace HO_4 := Aside0.mk (Kd.S_elder' (Hof.Sw HO_4.out) (Kd.R_base ho25) hb); have HO926 := Aside0.mk (Kd.R_lower ho25 (below_size (Hof.Lw HB.out))); replace BK909 := Hof.bb BK909 hb; replace BK910 := Hof.bb BK910 hb; replace HB := Hof.lb HB hb; clear hb ho25))
    obtain ⟨A4, c4, e4⟩ := Kd.S_slice HO_4.out
    obtain ⟨n4, hn4⟩ : ∃ n_ : Nat, n_ = x4_1.length := ⟨_, rfl⟩
    rw [← hn4] at e4
    subst e4
    clear hn4
    have IV := Aside0.mk (RowsW.Inv.mk (g1 := gb909) (g2 := gb910) (c1 := #[.int .i64 a0_0, .int .i64 a0_1, .int .i64 a0_2, (.slice A0_3 l0_3.length c0_3)]) (c2 := #[.int .i64 0, .int .i64 0, .int .i64 0, (.slice none 0 0)]) (Kd.S_mono HO_4.out (fun _ hk => hk.2)) HO926.out BK909.out BK910.out HB.out)
    clear HO_4 HO926
    go_loopg [6, 7] k1 (fun kq v6 v7 w' => ∃ (x4_2 : List (List Int)) (x6_2 : List Int) (x7_2 : Int), v7 = .int .i64 x7_2 ∧ Aside0 (impl_reduce.l1 kq x4_2 x6_2 x7_2 a0_0 a0_1 a0_2 l0_3 = some (r1, r2, r3, r4, r5)) ∧ Aside0 (kq ≤ k1) ∧ Aside0 (RowsW.Inv w gb909 gb910 #[.int .i64 a0_0, .int .i64 a0_1, .int .i64 a0_2, (.slice A0_3 l0_3.length c0_3)] #[.int .i64 0, .int .i64 0, .int .i64 0, (.slice none 0 0)] (.slice A4 n4 c4) v6 x4_2 x6_2 w'))
    case atStart => exact ⟨x4_1, y924, 0, by rfl, H', ⟨Nat.le_refl _⟩, IV⟩
    case round =>
     clear H' IV
     obtain ⟨x4_2, x6_2, x7_2, rfl, HA, HK2, IV⟩ := hrel
     have hlen := IV.out.len
     cases gk with
     | zero => exact absurd HA.out (by simp [impl_reduce.l1])
     | succ k2 =>
      have H := HA.out
      clear HA
      simp only [impl_reduce.l1, hlen] at H
      clear hlen
      by_cases c26 : x7_2 < a0_2
      ·rw [if_pos c26] at H
       have c26b : decide (x7_2 < a0_2) = true := decide_eq_true c26
       clear c26
       have HC := Aside0.mk H
       clear H
       obtain ⟨x1_, x2_, x3_, x4_, y1_, y2_, y3_, y4_⟩ := Hof.blk4 IV.out.x1
       obtain ⟨A6, c6, e6⟩ := Kd.R_slice IV.out.r
       subst e6
       go_upto_block 4 with (fail)
       generalize ht8 : (x6_2.length : Int) = t8 at HC ⊢
       clear ht8
       go_cut [9] (fun v9 wc => ∃ (kq : Nat) (x9_3 : Int), v9 = .int .i64 x9_3 ∧ Aside0 (impl_reduce.j3 kq x4_2 x6_2 x7_2 t8 x9_3 a0_0 a0_1 a0_2 l0_3 = some (r1, r2, r3, r4, r5)) ∧ Aside0 (kq ≤ k2) ∧ Aside0 (RowsW.Inv w gb909 gb910 #[.int .i64 a0_0, .int .i64 a0_1, .int .i64 a0_2, (.slice A0_3 l0_3.length c0_3)] #[.int .i64 0, .int .i64 0, .int .i64 0, (.slice none 0 0)] (.slice A4 n4 c4) (.slice A6 x6_2.length c6) x4_2 x6_2 wc))
       case first =>
        have H' := HC
        clear HC x1_ x2_ x3_ x4_ y1_ y2_ y3_ y4_ c26b
        go_wp2
        go_loopg [9] k2 (fun kq v9 w' => ∃ (x9_3 : Int), v9 = .int .i64 x9_3 ∧ Aside0 (impl_reduce.l2 kq x4_2 x6_2 x7_2 t8 x9_3 a0_0 a0_1 a0_2 l0_3 = some (r1, r2, r3, r4, r5)) ∧ Aside0 (kq ≤ k2) ∧ Aside0 (RowsW.Inv w gb909 gb910 #[.int .i64 a0_0, .int .i64 a0_1, .int .i64 a0_2, (.slice A0_3 l0_3.length c0_3)] #[.int .i64 0, .int .i64 0, .int .i64 0, (.slice none 0 0)] (.slice A4 n4 c4) (.slice A6 x6_2.length c6) x4_2 x6_2 w'))
        case atStart => exact ⟨t8, by rfl, H', ⟨Nat.le_refl _⟩, IV⟩
        case round =>
         clear H' IV
         obtain ⟨x9_3, rfl, HA, HK3, IV⟩ := hrel
         have hlen := IV.out.len
         cases gk with
         | zero => exact absurd HA.out (by simp [impl_reduce.l2])
         | succ k3 =>
          have H := HA.out
          clear HA
          simp only [impl_reduce.l2, hlen] at H
          by_cases c31 : x9_3 < (n4 : Int)
          ·rw [if_pos c31] at H
           by_cases q2 : 0 ≤ x9_3
           ·rw [if_pos q2] at H
            by_cases q3 : 0 ≤ x7_2
            ·rw [if_pos q3] at H
             by_cases q4 : x7_2 < ((RowsW.rd_L3 x4_2 x9_3).length : Int)
             ·rw [if_pos q4] at H
              obtain ⟨g4, rfl⟩ := IV.out.head q2 c31
              obtain ⟨ga, da, exa, eya, eza, eva⟩ := IV.out.put x9_3 x7_2 q2 c31 q3 q4
              have hv := Aside0.mk (eva)
              clear eva
              by_cases c35 : (rd (RowsW.rd_L3 x4_2 x9_3) x7_2) = 0
              ·rw [if_pos c35] at H
               have c35b : ((rd (RowsW.rd_L3 x4_2 x9_3) x7_2) == 0) = true := beq_iff_eq.mpr c35
               have c35c : ((rd (RowsW.rd_L3 x4_2 x9_3) x7_2) != 0) = false := bne_eq_false_iff_eq.mpr c35
               clear c35
               have H' := Aside0.mk H
               clear H
               replace c31 := eq_true c31
               replace q2 := eq_true q2
               replace q3 := eq_true q3
               replace q4 := eq_true q4
               go_wp2
               go_roundg k3
               case measure => have := HK1.out; have := HK2.out; have := HK3.out; omega
               case rel => exact ⟨(wrap64 (x9_3 + 1)), Hof.F, H', ⟨by have := HK1.out; have := HK2.out; have := HK3.out; first | omega | exact Nat.le_refl _⟩, IV⟩
              ·rw [if_neg c35] at H
               have c35b : ((rd (RowsW.rd_L3 x4_2 x9_3) x7_2) == 0) = false := beq_eq_false_iff_ne.mpr c35
               have c35c : ((rd (RowsW.rd_L3 x4_2 x9_3) x7_2) != 0) = true := bne_iff_ne.mpr c35
               clear c35
               have H' := Aside0.mk H
               clear H
               replace c31 := eq_true c31
               replace q2 := eq_true q2
               replace q3 := eq_true q3
               replace q4 := eq_true q4
               go_wp2
               go_meet
               case rel => exact ⟨_, x9_3, by rfl, H', ⟨by have := HK1.out; have := HK2.out; have := HK3.out; first | omega | exact Nat.le_refl _⟩, IV⟩
             ·rw [if_neg q4] at H
              exact absurd H (by simp)
            ·rw [if_neg q3] at H
             exact absurd H (by simp)
           ·rw [if_neg q2] at H
            exact absurd H (by simp)
          ·rw [if_neg c31] at H
           have c31b : decide (x9_3 < (n4 : Int)) = false := decide_eq_false c31
           clear c31
           have H' := Aside0.mk H
           clear H
           go_wp2
           go_meet
           case rel => exact ⟨_, x9_3, by rfl, H', ⟨by have := HK1.out; have := HK2.out; have := HK3.out; first | omega | exact Nat.le_refl _⟩, IV⟩
       case rest =>
        clear HC x1_ x2_ x3_ x4_ y1_ y2_ y3_ y4_ c26b IV
        obtain ⟨kq, x9_3, rfl, HA, HJ, IV⟩ := hcut
        have hlen := IV.out.len
        cases kq with
        | zero => exact absurd HA.out (by simp [impl_reduce.j3])
        | succ kj =>
         have H := HA.out
         clear HA
         simp only [impl_reduce.j3, hlen] at H
         by_cases c39 : x9_3 ≥ (n4 : Int)
         ·rw [if_pos c39] at H
          have c39b : decide ((n4 : Int) ≤ x9_3) = true := decide_eq_true c39
          clear c39
          have H' := Aside0.mk H
          clear H
          go_wp2
          go_roundg kj
          case measure => have := HK1.out; have := HK2.out; have := HJ.out; omega
          case rel => exact ⟨x4_2, x6_2, (wrap64 (x7_2 + 1)), Hof.F, H', ⟨by have := HK1.out; have := HK2.out; have := HJ.out; first | omega | exact Nat.le_refl _⟩, IV⟩
         ·rw [if_neg c39] at H
          have c39b : decide ((n4 : Int) ≤ x9_3) = false := decide_eq_false c39
          clear c39
          replace H := Option.bind_eq_some_iff.mp H
          obtain ⟨t9, A41, H⟩ := H
          (try dsimp only at H)
          simp only [impl_reduce.swap, hlen] at A41
          clear hlen
          by_cases q5 : 0 ≤ t8 ∧ t8 < (n4 : Int) ∧ 0 ≤ x9_3 ∧ x9_3 < (n4 : Int)
          ·rw [if_pos q5] at A41
           simp only [Option.some.injEq] at A41
           obtain ⟨q6, q7, q8, q9⟩ := q5
           obtain ⟨g4, rfl⟩ := IV.out.head q6 q7
           have q6s := eq_true q6
           have q7s := eq_true q7
           have q8s := eq_true q8
           have q9s := eq_true q9
           obtain ⟨Ai, ni, ci, Aj, nj, cj, sx1, sx2, sx3, sx4, ⟨su, sx5⟩, sx6, IW⟩ := IV.out.drew.swap t8 x9_3 q6 q7 q8 q9
           rw [A41] at IW
           clear IV
           go_wp2
           refine start_ (n := 16) (S := fun w' => w'.cell? ⟨g4, (t8).toNat, none⟩ = some (.slice Ai ni ci) ∧ w'.cell? ⟨g4, (x9_3).toNat, none⟩ = some (.slice Aj nj cj)) (ds := [13, 15]) #[false, false, false, false, false, false, false, false, false, false, false, false, false, false, false, false] (by kernel_rfl) rfl rfl ⟨sx1, sx2⟩ (fun hHeld => ?_); refine with_tabW impl_reduce.tab15 impl_reduce.bits15 (fun HT_ HW_ => ?_)
           generalize wc.drew = w50 at IW sx1 sx2 sx3 sx4 sx5 sx6 hHeld ⊢
           refine Hof.pu 0 72 HT_ ?_
           refine Hof.pu 1 73 HT_ ?_
           refine Hof.pu 2 74 HT_ ?_
           refine Hof.pu 3 75 HT_ ?_
           refine Hof.pu 4 76 HT_ ?_
           refine Hof.pu 5 77 HT_ ?_
           refine Hof.pu 6 78 HT_ ?_
           refine Hof.pu 8 80 HT_ ?_
           refine Hof.pu 9 81 HT_ ?_
           refine Hof.pu 10 82 HT_ ?_
           refine Hof.tk 7 79 HT_ HW_ hHeld ?_
           refine Hof.tk 11 83 HT_ HW_ hHeld ?_
           refine Hof.pu 12 84 HT_ ?_
           refine last_ (i := 13) (N := none) #[true, true, true, true, true, true, true, true, true, true, true, true, true, true, false, false] rfl rfl (one_of HT_.out (by kernel_rfl)) (by decide) (fun K hK => ?_)
           refine skip_ (w1 := ?_) (by rfl) rfl ?_ ?_
           rotate_left
           ·go_simp
            rfl
           refine hK.out _ _ ?_
           clear hK K
           refine Hof.pu 14 85 HT_ ?_
           refine last_ (i := 15) (N := none) #[true, true, true, true, true, true, true, true, true, true, true, true, true, true, true, true] rfl rfl (one_of HT_.out (by kernel_rfl)) (by decide) (fun K hK => ?_)
           refine skip_ (w1 := ?_) (by rfl) rfl ?_ ?_
           rotate_left
           ·go_simp
            rfl
           refine hK.out _ _ ?_
           clear hK K
           refine done_ (done_of HT_.out (by kernel_rfl)) ?_
           clear sx5 sx6
           generalize ((w50.setCell ⟨g4, t8.toNat, none⟩ (.slice Aj nj cj)).setCell ⟨g4, x9_3.toNat, none⟩ (.slice Ai ni ci)) = w51 at IW ⊢
           clear hHeld sx1 sx2 sx3 sx4 q8s q9s c39b A41
           have hlen := IW.out.len
           simp only [hlen] at H
           clear hlen
           rw [if_pos q6, if_pos q7] at H
           by_cases q10 : 0 ≤ x7_2
           ·rw [if_pos q10] at H
            by_cases q11 : x7_2 < ((RowsW.rd_L3 t9 t8).length : Int)
            ·rw [if_pos q11] at H
             replace H := Option.bind_eq_some_iff.mp H
             obtain ⟨t934, A46, H⟩ := H
             (try dsimp only at H)
             replace A46 := Aside0.mk A46
             have H' := Aside0.mk H
             clear H
             obtain ⟨g5, d5, ex5, ey5, ez5, ev5⟩ := IW.out.put t8 x7_2 q6 q7 q10 q11
             clear ev5
             obtain ⟨x1_, x2_, x3_, x4_, y1_, y2_, y3_, y4_⟩ := Hof.blk4 IW.out.x1
             have q10s := eq_true q10
             have q11s := eq_true q11
             try go_wp2
             go_quiet (first | (go_at_call 166; (with_reducible refine (impl_InverseIn.calls kj a0_0 (rd (RowsW.rd_L3 t9 t8) x7_2) t934 _ A46.out).mono ?_); rintro e w' ⟨rfl, ⟨nd, rfl⟩⟩; (first | exact ⟨rfl, _, World.drewN_drewN _ _ _⟩ | exact ⟨rfl, _, Eq.trans (World.drewN_drewN _ _ _) (congrArg (World.drewN _) (Nat.add_assoc _ _ _))⟩)))
             clear ex5 ey5 ez5 x1_ x2_ x3_ x4_ y1_ y2_ y3_ y4_
             have IV := Aside0.mk (IW.out.drewN nq)
             clear IW
             generalize w51.drewN nq = w52 at IV ⊢
             obtain ⟨g5, d5, ex5, ey5, ez5, ev5⟩ := IV.out.put t8 x7_2 q6 q7 q10 q11
             clear ev5
             go_wp2
             clear ex5 ey5 ez5 A46
             go_loopg [101] kj (fun kq v101 w' => ∃ (x4_4 : List (List Int)) (x101_4 : Int), v101 = .int .i64 x101_4 ∧ Aside0 (impl_reduce.l3 kq x4_4 x6_2 x7_2 t8 t934 ((RowsW.rd_L3 t9 t8).length : Int) x101_4 a0_0 a0_1 a0_2 l0_3 = some (r1, r2, r3, r4, r5)) ∧ Aside0 (kq ≤ kj) ∧ Aside0 (RowsW.Inv w gb909 gb910 #[.int .i64 a0_0, .int .i64 a0_1, .int .i64 a0_2, (.slice A0_3 l0_3.length c0_3)] #[.int .i64 0, .int .i64 0, .int .i64 0, (.slice none 0 0)] (.slice (some ⟨g4, 0, none⟩) n4 c4) (.slice A6 x6_2.length c6) x4_4 x6_2 w'))
             case atStart => exact ⟨t9, 0, by rfl, H', ⟨Nat.le_refl _⟩, IV⟩
             case round =>
              clear H' IV
              obtain ⟨x4_4, x101_4, rfl, HA, HK4, IV⟩ := hrel
              have hlen := IV.out.len
              cases gk with
              | zero => exact absurd HA.out (by simp [impl_reduce.l3])
              | succ k4 =>
               have H := HA.out
               clear HA
               simp only [impl_reduce.l3, hlen] at H
               clear hlen
               by_cases c51 : x101_4 < ((RowsW.rd_L3 t9 t8).length : Int)
               ·rw [if_pos c51] at H
                have c51b : decide (x101_4 < ((RowsW.rd_L3 t9 t8).length : Int)) = true := decide_eq_true c51
                clear c51
                rw [if_pos q6, if_pos q7] at H
                by_cases q12 : 0 ≤ x101_4
                ·rw [if_pos q12] at H
                 by_cases q13 : x101_4 < ((RowsW.rd_L3 x4_4 t8).length : Int)
                 ·rw [if_pos q13] at H
                  by_cases c56 : a0_0 = 0
                  ·rw [if_pos c56] at H
                   exact absurd H (by simp)
                  ·rw [if_neg c56] at H
                   have c56b : (a0_0 == 0) = false := beq_eq_false_iff_ne.mpr c56
                   have c56c : (a0_0 != 0) = true := bne_iff_ne.mpr c56
                   replace H := Option.bind_eq_some_iff.mp H
                   obtain ⟨t939, A57, H⟩ := H
                   (try dsimp only at H)
                   simp only [impl_reduce.put, Option.some.injEq] at A57
                   have H' := Aside0.mk H
                   clear H
                   have q12s := eq_true q12
                   have q13s := eq_true q13
                   try go_wp2
                   obtain ⟨g5, d5, ex5, ey5, ez5, ev5⟩ := IV.out.drew.put t8 x101_4 q6 q7 q12 q13
                   have IW := ev5 (Int.tmod (wrap64 ((rd (RowsW.rd_L3 x4_4 t8) x101_4) * t934)) a0_0)
                   rw [A57] at IW
                   clear ev5
                   obtain ⟨x1_, x2_, x3_, x4_, y1_, y2_, y3_, y4_⟩ := Hof.blk4 IV.out.drew.x1
                   clear IV
                   refine wp_region_still_tail 18 (by kernel_rfl) (by kernel_rfl) ?_
                   simp only [List.take_succ_cons, List.take_zero, List.drop_succ_cons, List.drop_zero]
                   change wpStill _ _ (World.drew wr) (fun a' => wpList _ _ _ _ a' (World.drew wr)) _ _
                   generalize wr.drew = w53 at IW ex5 ey5 ez5 x1_ x2_ x3_ x4_ y1_ y2_ y3_ y4_ ⊢
                   repeat still_step
                   refine wpStill_nil ?_
                   go_wp2
                   go_roundg k4
                   case measure => have := HK1.out; have := HK2.out; have := HJ.out; have := HK4.out; omega
                   case rel => exact ⟨t939, (wrap64 (x101_4 + 1)), Hof.F, H', ⟨by have := HK1.out; have := HK2.out; have := HJ.out; have := HK4.out; first | omega | exact Nat.le_refl _⟩, IW⟩
                 ·rw [if_neg q13] at H
                  exact absurd H (by simp)
                ·rw [if_neg q12] at H
                 exact absurd H (by simp)
               ·rw [if_neg c51] at H
                have c51b : decide (x101_4 < ((RowsW.rd_L3 t9 t8).length : Int)) = false := decide_eq_false c51
                clear c51
                have H' := Aside0.mk H
                clear H
                go_wp2
                go_loopg [125] k4 (fun kq v125 w' => ∃ (x4_5 : List (List Int)) (x125_5 : Int), v125 = .int .i64 x125_5 ∧ Aside0 (impl_reduce.l4 kq x4_5 x6_2 x7_2 t8 (n4 : Int) x125_5 a0_0 a0_1 a0_2 l0_3 = some (r1, r2, r3, r4, r5)) ∧ Aside0 (kq ≤ k4) ∧ Aside0 (RowsW.Inv w gb909 gb910 #[.int .i64 a0_0, .int .i64 a0_1, .int .i64 a0_2, (.slice A0_3 l0_3.length c0_3)] #[.int .i64 0, .int .i64 0, .int .i64 0, (.slice none 0 0)] (.slice (some ⟨g4, 0, none⟩) n4 c4) (.slice A6 x6_2.length c6) x4_5 x6_2 w'))
                case atStart => exact ⟨x4_4, 0, by rfl, H', ⟨Nat.le_refl _⟩, IV⟩
                case round =>
                 clear H' IV
                 obtain ⟨x4_5, x125_5, rfl, HA, HK5, IV⟩ := hrel
                 have hlen := IV.out.len
                 cases gk with
                 | zero => exact absurd HA.out (by simp [impl_reduce.l4])
                 | succ k5 =>
                  have H := HA.out
                  clear HA
                  simp only [impl_reduce.l4, hlen] at H
                  clear hlen
                  by_cases c62 : x125_5 < (n4 : Int)
                  ·rw [if_pos c62] at H
                   have c62b : decide (x125_5 < (n4 : Int)) = true := decide_eq_true c62
                   by_cases q14 : 0 ≤ x125_5
                   ·rw [if_pos q14] at H
                    rw [if_pos c62, if_pos q10] at H
                    by_cases q15 : x7_2 < ((RowsW.rd_L3 x4_5 x125_5).length : Int)
                    ·rw [if_pos q15] at H
                     have H' := Aside0.mk H
                     clear H
                     obtain ⟨g5, d5, ex5, ey5, ez5, ev5⟩ := IV.out.put x125_5 x7_2 q14 c62 q10 q15
                     clear ev5
                     have c62s := eq_true c62
                     have q14s := eq_true q14
                     have q15s := eq_true q15
                     go_wp2
                     clear ex5 ey5 ez5
                     go_loopg [14] k5 (fun kq v14 w' => ∃ (x4_6 : List (List Int)) (x14_6 : Int), v14 = .int .i64 x14_6 ∧ Aside0 (impl_reduce.l5 kq x4_6 x6_2 x7_2 t8 x125_5 (rd (RowsW.rd_L3 x4_5 x125_5) x7_2) x14_6 (n4 : Int) x125_5 a0_0 a0_1 a0_2 l0_3 = some (r1, r2, r3, r4, r5)) ∧ Aside0 (kq ≤ k5) ∧ Aside0 (RowsW.Inv w gb909 gb910 #[.int .i64 a0_0, .int .i64 a0_1, .int .i64 a0_2, (.slice A0_3 l0_3.length c0_3)] #[.int .i64 0, .int .i64 0, .int .i64 0, (.slice none 0 0)] (.slice (some ⟨g4, 0, none⟩) n4 c4) (.slice A6 x6_2.length c6) x4_6 x6_2 w'))
                     case atStart => exact ⟨x4_5, 0, by rfl, H', ⟨Nat.le_refl _⟩, IV⟩
                     case round =>
                      clear H' IV
                      obtain ⟨x4_6, x14_6, rfl, HA, HK6, IV⟩ := hrel
                      have hlen := IV.out.len
                      cases gk with
                      | zero => exact absurd HA.out (by simp [impl_reduce.l5])
                      | succ k6 =>
                       have H := HA.out
                       clear HA
                       simp only [impl_reduce.l5, hlen] at H
                       clear hlen
                       by_cases c68 : x14_6 < a0_2
                       ·rw [if_pos c68] at H
                        have c68b : decide (x14_6 < a0_2) = true := decide_eq_true c68
                        clear c68
                        by_cases c69 : x125_5 = t8
                        ·rw [if_pos c69] at H
                         have c69b : (x125_5 == t8) = true := beq_iff_eq.mpr c69
                         have c69c : (x125_5 != t8) = false := bne_eq_false_iff_eq.mpr c69
                         clear c69
                         have H' := Aside0.mk H
                         clear H
                         obtain ⟨x1_, x2_, x3_, x4_, y1_, y2_, y3_, y4_⟩ := Hof.blk4 IV.out.x1
                         go_wp2
                         go_roundg k6
                         case measure => have := HK1.out; have := HK2.out; have := HJ.out; have := HK4.out; have := HK5.out; have := HK6.out; omega
                         case rel => exact ⟨x4_6, (wrap64 (x125_5 + 1)), Hof.F, H', ⟨by have := HK1.out; have := HK2.out; have := HJ.out; have := HK4.out; have := HK5.out; have := HK6.out; first | omega | exact Nat.le_refl _⟩, IV⟩
                        ·rw [if_neg c69] at H
                         have c69b : (x125_5 == t8) = false := beq_eq_false_iff_ne.mpr c69
                         have c69c : (x125_5 != t8) = true := bne_iff_ne.mpr c69
                         rw [if_pos q14, if_pos c62] at H
                         by_cases q16 : 0 ≤ x14_6
                         ·rw [if_pos q16] at H
                          by_cases q17 : x14_6 < ((RowsW.rd_L3 x4_6 x125_5).length : Int)
                          ·rw [if_pos q17] at H
                           rw [if_pos q6, if_pos q7] at H
                           by_cases q18 : x14_6 < ((RowsW.rd_L3 x4_6 t8).length : Int)
                           ·rw [if_pos q18] at H
                            by_cases c79 : a0_0 = 0
                            ·rw [if_pos c79] at H
                             exact absurd H (by simp)
                            ·rw [if_neg c79] at H
                             have c79b : (a0_0 == 0) = false := beq_eq_false_iff_ne.mpr c79
                             have c79c : (a0_0 != 0) = true := bne_iff_ne.mpr c79
                             replace H := Option.bind_eq_some_iff.mp H
                             obtain ⟨t952, A80, H⟩ := H
                             (try dsimp only at H)
                             simp only [impl_reduce.put, Option.some.injEq] at A80
                             have H' := Aside0.mk H
                             clear H
                             have q16s := eq_true q16
                             have q17s := eq_true q17
                             have q18s := eq_true q18
                             obtain ⟨x1_, x2_, x3_, x4_, y1_, y2_, y3_, y4_⟩ := Hof.blk4 IV.out.x1
                             try go_wp2
                             obtain ⟨g5, d5, ex5, ey5, ez5, ev5⟩ := IV.out.drew.put x125_5 x14_6 q14 c62 q16 q17
                             have IW := ev5 (Int.tmod (wrap64 ((rd (RowsW.rd_L3 x4_6 x125_5) x14_6) + (wrap64 ((wrap64 (a0_0 - (rd (RowsW.rd_L3 x4_5 x125_5) x7_2))) * (rd (RowsW.rd_L3 x4_6 t8) x14_6))))) a0_0)
                             rw [A80] at IW
                             clear ev5
                             obtain ⟨g6, d6, fx5, fy5, fz5, fv5⟩ := IV.out.drew.put t8 x14_6 q6 q7 q16 q18
                             clear fv5
                             obtain ⟨x1_, x2_, x3_, x4_, y1_, y2_, y3_, y4_⟩ := Hof.blk4 IV.out.drew.x1
                             clear IV
                             refine wp_region_still_tail 29 (by kernel_rfl) (by kernel_rfl) ?_
                             simp only [List.take_succ_cons, List.take_zero, List.drop_succ_cons, List.drop_zero]
                             change wpStill _ _ (World.drew wr) (fun a' => wpList _ _ _ _ a' (World.drew wr)) _ _
                             generalize wr.drew = w53 at IW ex5 ey5 ez5 fx5 fy5 fz5 x1_ x2_ x3_ x4_ y1_ y2_ y3_ y4_ ⊢
                             repeat still_step
                             refine wpStill_nil ?_
                             go_wp2
                             go_roundg k6
                             case measure => have := HK1.out; have := HK2.out; have := HJ.out; have := HK4.out; have := HK5.out; have := HK6.out; omega
                             case rel => exact ⟨t952, (wrap64 (x14_6 + 1)), Hof.F, H', ⟨by have := HK1.out; have := HK2.out; have := HJ.out; have := HK4.out; have := HK5.out; have := HK6.out; first | omega | exact Nat.le_refl _⟩, IW⟩
                           ·rw [if_neg q18] at H
                            exact absurd H (by simp)
                          ·rw [if_neg q17] at H
                           exact absurd H (by simp)
                         ·rw [if_neg q16] at H
                          exact absurd H (by simp)
                       ·rw [if_neg c68] at H
                        have c68b : decide (x14_6 < a0_2) = false := decide_eq_false c68
                        clear c68
                        have H' := Aside0.mk H
                        clear H
                        obtain ⟨x1_, x2_, x3_, x4_, y1_, y2_, y3_, y4_⟩ := Hof.blk4 IV.out.x1
                        go_wp2
                        go_roundg k6
                        case measure => have := HK1.out; have := HK2.out; have := HJ.out; have := HK4.out; have := HK5.out; have := HK6.out; omega
                        case rel => exact ⟨x4_6, (wrap64 (x125_5 + 1)), Hof.F, H', ⟨by have := HK1.out; have := HK2.out; have := HJ.out; have := HK4.out; have := HK5.out; have := HK6.out; first | omega | exact Nat.le_refl _⟩, IV⟩
                    ·rw [if_neg q15] at H
                     exact absurd H (by simp)
                   ·rw [if_neg q14] at H
                    exact absurd H (by simp)
                  ·rw [if_neg c62] at H
                   have c62b : decide (x125_5 < (n4 : Int)) = false := decide_eq_false c62
                   clear c62
                   by_cases c88 : x6_2.length < 17592186044416
                   ·rw [if_pos c88] at H
                    have LM := Aside0.mk c88
                    clear c88
                    obtain ⟨y942, hy942⟩ : ∃ y_ : List Int, y_ = (x6_2 ++ [x7_2]) := ⟨_, rfl⟩
                    rw [← hy942] at H
                    have Ny942 := Aside0.mk hy942
                    clear hy942
                    have H' := Aside0.mk H
                    clear H
                    go_wp2_with (first | ((with_reducible refine gate_builtin (b := .append) (xs := #[.tmp 176, .tmp 178]) rfl ?_); at_builtin; refine Kd.R_append (Kd.int .i64) (w0 := w) w.heap.size rfl (.tmp 176) (.tmp 178) 24 3 (.int .i64 0) 8 rfl Try.underlying24 info3 rfl (by decide) (by omega) (.slice A6 x6_2.length c6) x6_2 x7_2 [.int .i64 x7_2] (fun _ => True) (fun _ => False) rfl rfl (by exact rfl) (fun _ hk => hk.elim) (by exact fun _ _ => trivial) (by exact Hof.Rw IV.out.r) (by exact Hof.Lw IV.out.lo) (by exact below_size (Hof.Lw IV.out.lo)) (by have := LM.out; omega) ?_; intro v943 w89 ho hb hg hat; rw [← Ny942.out] at ho; have IW := Aside0.mk (RowsW.Inv.mk (Kd.S_mono (Kd.S_after (ok := (fun _ => True)) (Hof.Sw (Kd.S_mono IV.out.s (fun _ hk => ⟨trivial, hk⟩))) hg hat) (fun _ hk => hk.2)) ho (blk_grown (Hof.Bw IV.out.x1) hg (Kd.R_ne IV.out.r IV.out.x1 (by decide))) (blk_grown (Hof.Bw IV.out.x2) hg (Kd.R_ne IV.out.r IV.out.x2 (by decide))) hb); clear IV; clear ho hb hg hat))
                    go_roundg k5
                    case measure => have := HK1.out; have := HK2.out; have := HJ.out; have := HK4.out; have := HK5.out; omega
                    case rel => exact ⟨x4_5, y942, (wrap64 (x7_2 + 1)), Hof.F, H', ⟨by have := HK1.out; have := HK2.out; have := HJ.out; have := HK4.out; have := HK5.out; first | omega | exact Nat.le_refl _⟩, IW⟩
                   ·rw [if_neg c88] at H
                    exact absurd H (by simp)
            ·rw [if_neg q11] at H
             exact absurd H (by simp)
           ·rw [if_neg q10] at H
            exact absurd H (by simp)
          ·rw [if_neg q5] at A41
           exact absurd A41 (by simp)
      ·rw [if_neg c26] at H
       obtain rfl : n4 = x4_2.length := IV.out.len.symm
       have HO_4 := Aside0.mk IV.out.s
       have HO_6 := Aside0.mk IV.out.r
       have BK909 := Aside0.mk IV.out.x1
       have BK910 := Aside0.mk IV.out.x2
       have HB := Aside0.mk IV.out.lo
       clear IV
       have c26b0 : decide (x7_2 < a0_2) = false := decide_eq_false c26
       clear c26
       obtain ⟨y955, hy955⟩ : ∃ y_ : List Int, y_ = (([] : List Int)) := ⟨_, rfl⟩
       replace H : (if 0 ≤ (x6_2.length : Int) then (if (x6_2.length : Int) ≤ (x4_2.length : Int) then ((some (x4_2.take ((x6_2.length : Int) : Int).toNat : List (List Int))).bind fun y959 => (impl_reduce.l6 k2 x6_2 y959 (y959.length : Int) 0 a0_0 (x6_2.length : Int) a0_2 y955)) else (none)) else (none)) = some (r1, r2, r3, r4, r5) := by (try rw [hy955]); exact Hof.Z
       have Ny955 := Aside0.mk hy955
       clear hy955
       by_cases c90 : 0 ≤ (x6_2.length : Int)
       ·rw [if_pos c90] at H
        have c90b0 := eq_true c90
        have c90b1 : decide (0 ≤ (x6_2.length : Int)) = true := decide_eq_true c90
        clear c90
        by_cases c91 : (x6_2.length : Int) ≤ (x4_2.length : Int)
        ·rw [if_pos c91] at H
         have c91b0 := eq_true c91
         have c91b1 : decide ((x6_2.length : Int) ≤ (x4_2.length : Int)) = true := decide_eq_true c91
         clear c91
         obtain ⟨y959, hy959⟩ : ∃ y_ : List (List Int), y_ = (x4_2.take ((x6_2.length : Int) : Int).toNat) := ⟨_, rfl⟩
         replace H : (impl_reduce.l6 k2 x6_2 y959 (y959.length : Int) 0 a0_0 (x6_2.length : Int) a0_2 y955) = some (r1, r2, r3, r4, r5) := by (try rw [hy959]); exact Hof.Z
         have Ny959 := Aside0.mk hy959
         clear hy959
         have H' := Aside0.mk H
         clear H
         have hnb92 := NB909_910.out
         have hnc92 := NB910_909.out
         obtain ⟨hcz93_0, hcz93_1, hcz93_2, hcz93_3, hfz93_0, hfz93_1, hfz93_2, hfz93_3⟩ := Hof.blk4 BK909.out
         obtain ⟨Ao94, co94, eo94⟩ := Kd.R_slice HO_6.out
         subst eo94
         go_wp2_with (first | (refine Hof.lt (Kd.int .i64) 3 186 ?_; intro v956 w95 ho96 hb hg_ hnew_; clear hg_ hnew_; (first | rw [← Ny955.out] at ho96 | (simp only [Int.reduceToNat] at ho96; rw [← Ny955.out] at ho96)); replace HO_4 := Aside0.mk (Kd.S_elder' (Hof.Sw HO_4.out) (Kd.R_base ho96) hb); have HO957 := Aside0.mk (Kd.R_lower (Kd.R_new' ho96 (Kd.R_lt (Hof.Rw HO_6.out))) (below_size (Hof.Lw HB.out))); replace HO_6 := Aside0.mk (Kd.R_elder' (Hof.Rw HO_6.out) (Kd.R_base ho96) hb); replace BK909 := Hof.bb BK909 hb; replace BK910 := Hof.bb BK910 hb; replace HB := Hof.lb HB hb; clear hb ho96; obtain ⟨Ao97, co97, eo97⟩ := Kd.R_slice HO957.out; subst eo97) | ((with_reducible refine gate_dst (N := 15) rfl ?_); refine Hof.bx 15 #[.int .i64 0, .int .i64 0, .int .i64 0, .slice none 0 0] 49 ?_; intro gb958 hg w98 hbox hb; have n0_ := Aside0.mk (Kd.S_below (Hof.Sw HO_4.out) hb); have n1_ := Hof.rb HO_6 hb; have n2_ := Hof.rb HO957 hb; have n3_ := Hof.bb BK909 hb; have n4_ := Hof.bb BK910 hb; have n5_ := Hof.lb HB hb; have n6_ := Aside0.mk hbox; have n7_ := Hof.gw hg HB; have n8_ := Hof.gw hg HB; have n9_ := Hof.nl hg BK909; have n10_ := Hof.ng hg BK909; have n11_ := Hof.nl hg BK910; have n12_ := Hof.ng hg BK910; clear HO_4; clear HO_6; clear HO957; clear BK909; clear BK910; clear HB; have HO_4 := n0_; have HO_6 := n1_; have HO957 := n2_; have BK909 := n3_; have BK910 := n4_; have HB := n5_; have BK958 := n6_; have GW958 := n7_; have GE958 := n8_; have NB909_958 := n9_; have NB958_909 := n10_; have NB910_958 := n11_; have NB958_910 := n12_; clear n0_ n1_ n2_ n3_ n4_ n5_ n6_ n7_ n8_ n9_ n10_ n11_ n12_; clear hb hbox hg; have hnb99 := NB958_909.out; have hnc99 := NB909_958.out; have hnb100 := NB958_910.out; have hnc100 := NB910_958.out; obtain ⟨hcz101_0, hcz101_1, hcz101_2, hcz101_3, hfz101_0, hfz101_1, hfz101_2, hfz101_3⟩ := Hof.blk4 BK958.out) | ((with_reducible refine gate_store (t := 49) (p := 15) rfl ?_); refine store_event (t := 49) (p := 15) (v := ?vo_w102) (w1 := ((((w98.setCell ⟨gb958, 0, none⟩ (.int .i64 a0_0)).setCell ⟨gb958, 1, none⟩ (.int .i64 (x6_2.length : Int))).setCell ⟨gb958, 2, none⟩ (.int .i64 a0_2)).setCell ⟨gb958, 3, none⟩ (.slice Ao97 y955.length co97))) ?hg ?ho ?hn ?hr ?_; (case ho => rfl); (case hg => rfl); (case hn => rfl); (case hr => first | (go_simp; done) | (go_simp; rfl)); intro w102 hw; have n0_ : Aside0 (Kd.S (Kd.slice 3 (Kd.int .i64)) 24 w102 w.heap.size (fun k_ => some k_ ≠ (.slice Ao94 x6_2.length co94 : Value).ownBlock ∧ some k_ ≠ (.slice Ao97 y955.length co97 : Value).ownBlock) (.slice A4 x4_2.length c4) x4_2) := ⟨(by rw [hw]; exact (Hof.Sw (Kd.S_mono (Kd.S_far (p := ⟨gb958, 3, none⟩) (Kd.S_far (p := ⟨gb958, 2, none⟩) (Kd.S_far (p := ⟨gb958, 1, none⟩) (Kd.S_far (p := ⟨gb958, 0, none⟩) (Kd.S_types HO_4.out BK958.out (by decide)) (fun _ hk => hk.2) (.int .i64 a0_0)) (fun _ hk => hk.2) (.int .i64 (x6_2.length : Int))) (fun _ hk => hk.2) (.int .i64 a0_2)) (fun _ hk => hk.2) (.slice Ao97 y955.length co97)) (fun _ hk => (by first | exact ⟨hk.1.1, hk.1.2⟩ | (simp_all; done))))))⟩; have n1_ : Aside0 (Kd.R (Kd.int .i64) 3 w102 w.heap.size (fun k_ => some k_ ≠ (.slice Ao97 y955.length co97 : Value).ownBlock) (.slice Ao94 x6_2.length co94) x6_2) := ⟨(by rw [hw]; exact (Hof.Rw (Kd.R_mono (Kd.R_far (p := ⟨gb958, 3, none⟩) (Kd.R_far (p := ⟨gb958, 2, none⟩) (Kd.R_far (p := ⟨gb958, 1, none⟩) (Kd.R_far (p := ⟨gb958, 0, none⟩) (Kd.R_types HO_6.out BK958.out (by decide)) (fun _ hk => hk.2) (.int .i64 a0_0)) (fun _ hk => hk.2) (.int .i64 (x6_2.length : Int))) (fun _ hk => hk.2) (.int .i64 a0_2)) (fun _ hk => hk.2) (.slice Ao97 y955.length co97)) (fun _ hk => hk.1.2))))⟩; have n2_ : Aside0 (Kd.R (Kd.int .i64) 3 w102 w.heap.size (fun k_ => some k_ ≠ (.slice Ao94 x6_2.length co94 : Value).ownBlock) (.slice Ao97 y955.length co97) y955) := ⟨(by rw [hw]; exact (Hof.Rw (Kd.R_mono (Kd.R_far (p := ⟨gb958, 3, none⟩) (Kd.R_far (p := ⟨gb958, 2, none⟩) (Kd.R_far (p := ⟨gb958, 1, none⟩) (Kd.R_far (p := ⟨gb958, 0, none⟩) (Kd.R_types HO957.out BK958.out (by decide)) (fun _ hk => hk.2) (.int .i64 a0_0)) (fun _ hk => hk.2) (.int .i64 (x6_2.length : Int))) (fun _ hk => hk.2) (.int .i64 a0_2)) (fun _ hk => hk.2) (.slice Ao97 y955.length co97)) (fun _ hk => hk.1.2))))⟩; have n3_ : Aside0 (w102.heap[gb909]? = some (.cells #[.int .i64 a0_0, .int .i64 a0_1, .int .i64 a0_2, .slice A0_3 l0_3.length c0_3] 49 (0, 0))) := ⟨(by rw [hw]; exact Hof.B)⟩; have n4_ : Aside0 (w102.heap[gb910]? = some (.cells #[.int .i64 0, .int .i64 0, .int .i64 0, .slice none 0 0] 49 (0, 0))) := ⟨(by rw [hw]; exact Hof.B)⟩; have n5_ : Aside0 (w102.heap[gb958]? = some (.cells #[.int .i64 a0_0, .int .i64 (x6_2.length : Int), .int .i64 a0_2, .slice Ao97 y955.length co97] 49 (0, 0))) := ⟨(by rw [hw]; exact Hof.B)⟩; have n6_ : Aside0 (Below w.heap.size w w102) := ⟨by rw [hw]; exact Hof.L⟩; clear hw; clear HO_4; clear HO_6; clear HO957; clear BK909; clear BK910; clear BK958; clear HB; have HO_4 := n0_; have HO_6 := n1_; have HO957 := n2_; have BK909 := n3_; have BK910 := n4_; have BK958 := n5_; have HB := n6_; clear n0_ n1_ n2_ n3_ n4_ n5_ n6_; obtain ⟨Ao104, co104, eo104⟩ := Kd.S_slice HO_4.out; have f4_ : Ao104 = A4 := (by cases eo104; rfl); have f5_ : co104 = c4 := (by cases eo104; rfl); clear eo104; subst f4_; subst f5_; have q103 : ((x6_2.length : Int) : Int) ≤ ((x4_2.length : Int) : Int) := Hof.D; obtain ⟨i0103, hi0103, _, hsz103, _⟩ := info_parts impl_reduce.info24; have hroom103 : x4_2.length ≤ co104 := (Kd.S_reads' HO_4.out).2.1; have hC103 : Kd.C (Kd.slice 3 (Kd.int .i64)) _ Ao104 x4_2.length x4_2 := (Kd.S_reads' HO_4.out).2.2; have hcut103 := cut_to (P := Try.prog) 67 24 .i64 Try.underlying67 hi0103 Ao104 x4_2.length co104 (x6_2.length : Int) (Hof.D) q103 hroom103; have hr103 := Kd.C_take (m := ((x6_2.length : Int) : Int).toNat) hC103 (by omega); have hy103 : y959.length = ((x6_2.length : Int) : Int).toNat := (by rw [Ny959.out, List.length_take]; omega); rw [← Ny959.out] at hr103; rw [← hy103] at hcut103; have HR962 := Aside0.mk hr103; have HC962 := Aside0.mk (show y959.length ≤ co104 from by omega); clear hr103 hC103 hroom103 hi0103 hsz103; have KY103 := Aside0.mk hy103; clear hy103; have KL103 := Aside0.mk (show ((x6_2.length : Int) : Int).toNat ≤ x4_2.length from by omega); replace q103 := eq_true q103))
         go_loopg [193] k2 (fun kq v193 w' => ∃ (x193_3 : Int) (x959003_3 : List Int) (u959003 : Value), v193 = .int .i64 x193_3 ∧ Aside0 (impl_reduce.l6 kq x6_2 y959 (y959.length : Int) x193_3 a0_0 (x6_2.length : Int) a0_2 x959003_3 = some (r1, r2, r3, r4, r5)) ∧ Aside0 (kq ≤ k2) ∧ Aside0 (Kd.S (Kd.slice 3 (Kd.int .i64)) 24 w' w.heap.size (fun k_ => some k_ ≠ (u959003 : Value).ownBlock) (.slice Ao104 x4_2.length co104) x4_2) ∧ Aside0 (Kd.R (Kd.int .i64) 3 w' w.heap.size (fun k_ => some k_ ≠ (u959003 : Value).ownBlock) (.slice Ao94 x6_2.length co94) x6_2) ∧ Aside0 (Kd.R (Kd.int .i64) 3 w' w.heap.size (fun k_ => some k_ ≠ ((.slice Ao94 x6_2.length co94) : Value).ownBlock) u959003 x959003_3) ∧ Aside0 (w'.heap[gb909]? = some (.cells #[.int .i64 a0_0, .int .i64 a0_1, .int .i64 a0_2, (.slice A0_3 l0_3.length c0_3)] 49 (0, 0))) ∧ Aside0 (w'.heap[gb910]? = some (.cells #[.int .i64 0, .int .i64 0, .int .i64 0, (.slice none 0 0)] 49 (0, 0))) ∧ Aside0 (w'.heap[gb958]? = some (.cells #[.int .i64 a0_0, .int .i64 (x6_2.length : Int), .int .i64 a0_2, u959003] 49 (0, 0))) ∧ Aside0 (Below w.heap.size w w'))
         case atStart => exact ⟨(0), (y955), (.slice Ao97 y955.length co97), Hof.F, H', ⟨Nat.le_refl _⟩, ⟨Hof.Sw (Kd.S_mono HO_4.out (fun _ hk => hk.2))⟩, ⟨Hof.Rw HO_6.out⟩, ⟨Hof.Rw HO957.out⟩, ⟨Hof.Bw BK909.out⟩, ⟨Hof.Bw BK910.out⟩, ⟨Hof.Bw BK958.out⟩, ⟨Hof.Lw HB.out⟩⟩
         case round =>
          clear H'
          obtain ⟨x193_3, x959003_3, u959003, rfl, HA, HK3, HO_4, HO_6, HO_959003, BK909, BK910, BK958, HB⟩ := hrel
          cases gk with
          | zero => exact absurd HA.out (by simp [impl_reduce.l6])
          | succ k3 =>
           have H := HA.out
           clear HA
           simp only [impl_reduce.l6] at H
           by_cases c105 : x193_3 < (y959.length : Int)
           ·rw [if_pos c105] at H
            have c105b0 := decide_eq_true c105
            clear c105
            by_cases c106 : 0 ≤ x193_3
            ·rw [if_pos c106] at H
             have c106b0 := decide_eq_true c106
             clear c106
             by_cases c107 : x193_3 < (y959.length : Int)
             ·rw [if_pos c107] at H
              have c107b0 := decide_eq_true c107
              clear c107
              by_cases c108 : x959003_3.length + (RowsW.rd_L3 y959 x193_3).length < 17592186044416
              ·rw [if_pos c108] at H
               have LMc108 := Aside0.mk c108
               clear c108
               obtain ⟨y964, hy964⟩ : ∃ y_ : List Int, y_ = (x959003_3 ++ (RowsW.rd_L3 y959 x193_3)) := ⟨_, rfl⟩
               replace H : (impl_reduce.l6 k3 x6_2 y959 (y959.length : Int) (wrap64 (x193_3 + 1)) a0_0 (x6_2.length : Int) a0_2 y964) = some (r1, r2, r3, r4, r5) := by (try rw [hy964]); exact Hof.Z
               have Ny964 := Aside0.mk hy964
               clear hy964
               have H' := Aside0.mk H
               clear H
               have p963 : 0 ≤ (x193_3 : Int) := Hof.D
               have q963 : x193_3 < (y959.length : Int) := Hof.D
               have hr_ := Kd.C_take (m := ((x6_2.length : Int) : Int).toNat) (Kd.S_reads' HO_4.out).2.2 KL103.out; rw [← Ny959.out] at hr_; clear HR962; have HR962 := Aside0.mk hr_; clear hr_
               obtain ⟨ad963, A963_0, c963_0, e963, hx963_0, hl963_0, hi963_0⟩ := RowsW.at_L3 HR962.out x193_3 p963 q963
               cases e963
               skip
               have HR963_0 := Aside0.mk hi963_0
               have HC963_0 := Aside0.mk hl963_0
               clear hi963_0 hl963_0
               replace p963 := eq_true p963
               replace q963 := eq_true q963
               have hnb109 := NB958_909.out
               have hnc109 := NB909_958.out
               have hnb110 := NB958_910.out
               have hnc110 := NB910_958.out
               obtain ⟨hcz111_0, hcz111_1, hcz111_2, hcz111_3, hfz111_0, hfz111_1, hfz111_2, hfz111_3⟩ := Hof.blk4 BK958.out
               go_wp2_with (first | ((with_reducible refine gate_builtin (b := .append) (xs := #[.tmp 198, .tmp 199]) rfl ?_); at_builtin; refine Kd.R_append_rows (Kd.int .i64) (w0 := w) w.heap.size rfl (.tmp 198) (.tmp 199) 24 3 (.int .i64 0) 8 rfl Try.underlying24 info3 rfl (by decide) (by omega) u959003 x959003_3 (RowsW.rd_L3 y959 x193_3) _ _ _ (fun k_ => some k_ ≠ (.slice Ao94 x6_2.length co94 : Value).ownBlock) (fun _ => False) rfl rfl (by exact Hof.Rw HO_959003.out) (by repeat (first | exact HR963_0.out | (with_reducible refine Kd.C_alloc ?_ _) | (with_reducible refine Kd.C_drewN ?_ _) | (with_reducible refine Kd.C_drew ?_))) (fun _ _ h => h) (fun _ h => h.elim) (by exact fun k_ hk => Kd.fresh' (Kd.R_lt (Hof.Rw HO_6.out)) k_ hk) (by exact Hof.Lw HB.out) (by exact below_size (Hof.Lw HB.out)) (by have := LMc108.out; omega) ?_; intro v965 w112 ho hb hg hat; rw [← Ny964.out] at ho; have n0_ := Aside0.mk (Kd.R_after (ok := (fun _ => True)) (Hof.Rw (Kd.R_mono HO_6.out (fun _ hk => ⟨trivial, hk⟩))) hg hat); have m4_ := Aside0.mk (Kd.S_after (ok := (fun _ => True)) (Hof.Sw (Kd.S_mono HO_4.out (fun _ hk => ⟨trivial, hk⟩))) hg hat); clear HO_4; have HO_4 := m4_; clear m4_; have n1_ := Aside0.mk (blk_grown (g := gb909) (o := .cells #[.int .i64 a0_0, .int .i64 a0_1, .int .i64 a0_2, .slice A0_3 l0_3.length c0_3] 49 (0, 0)) (Hof.Bw BK909.out) hg (Kd.R_ne HO_959003.out BK909.out (by decide))); have n2_ := Aside0.mk (blk_grown (g := gb910) (o := .cells #[.int .i64 0, .int .i64 0, .int .i64 0, .slice none 0 0] 49 (0, 0)) (Hof.Bw BK910.out) hg (Kd.R_ne HO_959003.out BK910.out (by decide))); have n3_ := Aside0.mk (blk_grown (g := gb958) (o := .cells #[.int .i64 a0_0, .int .i64 (x6_2.length : Int), .int .i64 a0_2, u959003] 49 (0, 0)) (Hof.Bw BK958.out) hg (Kd.R_ne HO_959003.out BK958.out (by decide))); have n4_ := Aside0.mk hb; have n5_ := Aside0.mk ho; clear HO_6; clear BK909; clear BK910; clear BK958; clear HB; clear HO_959003; have HO_6 := n0_; have BK909 := n1_; have BK910 := n2_; have BK958 := n3_; have HB := n4_; have HO966 := n5_; clear n0_ n1_ n2_ n3_ n4_ n5_; clear ho hb hg hat; obtain ⟨Ao113, co113, eo113⟩ := Kd.R_slice HO966.out; subst eo113; obtain ⟨hcz114_0, hcz114_1, hcz114_2, hcz114_3, hfz114_0, hfz114_1, hfz114_2, hfz114_3⟩ := Hof.blk4 BK958.out))
               go_roundg k3
               case measure => have := HK1.out; have := HK2.out; have := HK3.out; omega
               case rel => exact ⟨(wrap64 (x193_3 + 1)), (y964), (.slice Ao113 y964.length co113), Hof.F, H', ⟨by have := HK1.out; have := HK2.out; have := HK3.out; omega⟩, ⟨Hof.Sw (Kd.S_mono (Kd.S_far (p := ⟨gb958, 3, none⟩) (Kd.S_types HO_4.out BK958.out (by decide)) (fun _ hk => hk.2) (.slice Ao113 y964.length co113)) (fun _ hk => hk.1.2))⟩, ⟨Hof.Rw (Kd.R_mono (Kd.R_far (p := ⟨gb958, 3, none⟩) (Kd.R_types HO_6.out BK958.out (by decide)) (fun _ hk => hk.2) (.slice Ao113 y964.length co113)) (fun _ hk => hk.1.2))⟩, ⟨Hof.Rw (Kd.R_mono (Kd.R_far (p := ⟨gb958, 3, none⟩) (Kd.R_types HO966.out BK958.out (by decide)) (fun _ hk => hk.2) (.slice Ao113 y964.length co113)) (fun _ hk => hk.1))⟩, ⟨Hof.B⟩, ⟨Hof.B⟩, ⟨Hof.B⟩, ⟨Hof.L⟩⟩
              ·rw [if_neg c108] at H
               exact absurd H (by simp)
             ·rw [if_neg c107] at H
              exact absurd H (by simp)
            ·rw [if_neg c106] at H
             exact absurd H (by simp)
           ·rw [if_neg c105] at H
            have c105b0 : decide (x193_3 < (y959.length : Int)) = false := decide_eq_false c105
            clear c105
            simp only [Option.some.injEq, Prod.mk.injEq] at H
            obtain ⟨rfl, rfl, rfl, rfl, rfl⟩ := H
            have hnb115 := NB958_909.out
            have hnc115 := NB909_958.out
            have hnb116 := NB958_910.out
            have hnc116 := NB910_958.out
            obtain ⟨hcz117_0, hcz117_1, hcz117_2, hcz117_3, hfz117_0, hfz117_1, hfz117_2, hfz117_3⟩ := Hof.blk4 BK958.out
            have hnb118 := NB910_909.out
            have hnc118 := NB909_910.out
            obtain ⟨hcz119_0, hcz119_1, hcz119_2, hcz119_3, hfz119_0, hfz119_1, hfz119_2, hfz119_3⟩ := Hof.blk4 BK910.out
            obtain ⟨Ao120, co120, eo120⟩ := Kd.R_slice HO_959003.out
            subst eo120
            go_wp2
            refine bodyPost_ret (results_ct rfl _ _ gb910 49 #[.int .i64 a0_0, .int .i64 (x6_2.length : Int), .int .i64 a0_2, .slice Ao120 x959003_3.length co120] (0, 0) _ rfl Hof.B Try.underlying49 rfl (by kernel_rfl)) rfl ?_
            exact ⟨_, _, Hof.E, by (with_reducible repeat (first | apply Kd.R_alloc | apply Kd.R_drewN | apply Kd.R_drew)); exact Kd.R_mono (Kd.R_far (p := ⟨gb910, 3, none⟩) (Kd.R_far (p := ⟨gb910, 2, none⟩) (Kd.R_far (p := ⟨gb910, 1, none⟩) (Kd.R_far (p := ⟨gb910, 0, none⟩) (Kd.R_types HO_959003.out BK910.out (by decide)) (fun _ hk => hk.2) (.int .i64 a0_0)) (fun _ hk => hk.2) (.int .i64 (x6_2.length : Int))) (fun _ hk => hk.2) (.int .i64 a0_2)) (fun _ hk => hk.2) (.slice Ao120 x959003_3.length co120)) (fun _ hk => hk.1), by (with_reducible repeat (first | apply Kd.R_alloc | apply Kd.R_drewN | apply Kd.R_drew)); exact Kd.R_mono (Kd.R_far (p := ⟨gb910, 3, none⟩) (Kd.R_far (p := ⟨gb910, 2, none⟩) (Kd.R_far (p := ⟨gb910, 1, none⟩) (Kd.R_far (p := ⟨gb910, 0, none⟩) (Kd.R_types HO_6.out BK910.out (by decide)) (fun _ hk => hk.2) (.int .i64 a0_0)) (fun _ hk => hk.2) (.int .i64 (x6_2.length : Int))) (fun _ hk => hk.2) (.int .i64 a0_2)) (fun _ hk => hk.2) (.slice Ao120 x959003_3.length co120)) (fun _ hk => hk.1), Hof.L⟩
        ·rw [if_neg c91] at H
         exact absurd H (by simp)
       ·rw [if_neg c90] at H
        exact absurd H (by simp)
def impl_Matrix_at.f (a0_0 : Int) (a0_1 : Int) (a0_2 : Int) (l0_3 : List Int) (a1 : Int) (a2 : Int) : Option (Int) := if 0 ≤ (wrap64 ((wrap64 (a1 * a0_2)) + a2)) then (if (wrap64 ((wrap64 (a1 * a0_2)) + a2)) < (l0_3.length : Int) then (some (rd l0_3 (wrap64 ((wrap64 (a1 * a0_2)) + a2)))) else (none)) else (none)
set_option maxHeartbeats 8000000 in
set_option maxRecDepth 100000 in
theorem impl_Matrix_at.calls (a0_0 : Int) (a0_1 : Int) (a0_2 : Int) (A0_3 : Option Addr) (c0_3 : Nat) (l0_3 : List Int) (a1 : Int) (a2 : Int) (r : Int) (w : World) (hr0_3 : Kd.C (Kd.int .i64) w A0_3 l0_3.length l0_3) (hc0_3 : l0_3.length ≤ c0_3) (h : impl_Matrix_at.f a0_0 a0_1 a0_2 l0_3 a1 a2 = some r) :
  Calls Try.prog 167 #[.agg #[.int .i64 a0_0, .int .i64 a0_1, .int .i64 a0_2, .slice A0_3 l0_3.length c0_3], .int .i64 a1, .int .i64 a2] w fun e w' => e = .returned (.int .i64 r) ∧ Below w.heap.size w w' := by
 have hu49 := Try.underlying49
 have HR0_3 := Aside0.mk hr0_3
 have HC0_3 := Aside0.mk hc0_3
 clear hr0_3 hc0_3
 have HB := Aside0.mk (Below.refl w.heap.size w)
 unfold impl_Matrix_at.f at h
 have H := h
 clear h
 obtain ⟨ji4, hji4⟩ : ∃ j_ : Int, (wrap64 ((wrap64 (a1 * a0_2)) + a2)) = j_ := ⟨_, rfl⟩
 replace H : (if 0 ≤ (ji4) then (if (ji4) < (l0_3.length : Int) then (some (rd l0_3 (ji4))) else (none)) else (none)) = some r := by first | (rw [hji4] at H; exact H) | (simp only [hji4] at H ⊢; exact H)
 have hji4w : (IntKind.i64.wrap ((wrap64 (a1 * a0_2)) + a2)) = ji4 := (i64_w _).trans hji4
 by_cases c5 : 0 ≤ (ji4)
 ·rw [if_pos c5] at H
  have c5b0 := decide_eq_true c5
  clear c5
  by_cases c6 : (ji4) < (l0_3.length : Int)
  ·rw [if_pos c6] at H
   have c6b0 := decide_eq_true c6
   clear c6
   obtain rfl := Option.some.inj H
   go_enter Try.func167, Try.ntmps167
   go_wp2_with (first | (refine Hof.bx 3 #[.int .i64 a0_0, .int .i64 a0_1, .int .i64 a0_2, .slice A0_3 l0_3.length c0_3] 49 ?_; intro gb909 hg w7 hbox hb; have BK909 := Aside0.mk hbox; have GW909 := Hof.gw hg HB; have GE909 := Hof.gw hg HB; replace HB := Hof.lb HB hb; clear hb hbox hg; obtain ⟨hcz8_0, hcz8_1, hcz8_2, hcz8_3, hfz8_0, hfz8_1, hfz8_2, hfz8_3⟩ := Hof.blk4 BK909.out; have p910 : 0 ≤ ((ji4) : Int) := Hof.D; have q910 : (ji4) < (l0_3.length : Int) := Hof.D; obtain ⟨ad910, e910, hx910_0⟩ := Kd.at_int HR0_3.out (ji4) p910 q910; cases e910; replace hx910_0 := (HB.out.cell (World.block_lt_of_cell? w _ hx910_0)).trans hx910_0; replace p910 := eq_true p910; replace q910 := eq_true q910))
   go_ret
   exact ⟨by first | rfl | (simp [errW_none, errW_some] <;> rfl) | (simp only [← hji4]; first | rfl | (simp [errW_none, errW_some] <;> rfl)) | (simp [*, errW_none, errW_some] <;> rfl), Hof.L⟩
  ·rw [if_neg c6] at H
   exact absurd H (by simp)
 ·rw [if_neg c5] at H
  exact absurd H (by simp)
mutual
def impl_columnsOf.l0 : Nat → List Int → Int → Int → Int → Int → List Int → Int → Int → Int → List Int → Option (Int × Int × Int × List Int)
 | 0, _, _, _, _, _, _, _, _, _, _ => none
 | k + 1, x5, x7, x912000, x912001, x912002, x912003, x917000, x917001, x917002, x917003 => if x7 < x912001 then (impl_columnsOf.l1 k x5 x7 x5 (x5.length : Int) 0 x912000 x912001 x912002 x912003 x917000 x917001 x917002 x917003) else (some (x917000, x917001, x917002, x917003))
def impl_columnsOf.l1 : Nat → List Int → Int → List Int → Int → Int → Int → Int → Int → List Int → Int → Int → Int → List Int → Option (Int × Int × Int × List Int)
 | 0, _, _, _, _, _, _, _, _, _, _, _, _, _ => none
 | k + 1, x5, x7, x25, x26, x27, x912000, x912001, x912002, x912003, x917000, x917001, x917002, x917003 => if x27 < x26 then (if 0 ≤ x27 then (if x27 < (x25.length : Int) then ((impl_Matrix_at.f x912000 x912001 x912002 x912003 x7 (rd x25 x27)).bind fun t918 => (if x917003.length < 17592186044416 then (impl_columnsOf.l1 k x5 x7 x25 x26 (wrap64 (x27 + 1)) x912000 x912001 x912002 x912003 x917000 x917001 x917002 (x917003 ++ [t918])) else (none))) else (none)) else (none)) else (impl_columnsOf.l0 k x5 (wrap64 (x7 + 1)) x912000 x912001 x912002 x912003 x917000 x917001 x917002 x917003)
end
def impl_columnsOf.f (k : Nat) (a0_0 : Int) (a0_1 : Int) (a0_2 : Int) (l0_3 : List Int) (a1 : Int) : Option (Int × Int × Int × List Int) := (impl_ElementsOf.f k a1).bind fun t913 => (impl_columnsOf.l0 k t913 0 a0_0 a0_1 a0_2 l0_3 a0_0 a0_1 (t913.length : Int) ([] : List Int))
theorem impl_columnsOf.mono_l : ∀ k, (∀ y0 y1 y2 y3 y4 y5 y6 y7 y8 y9, LeO (impl_columnsOf.l0 k y0 y1 y2 y3 y4 y5 y6 y7 y8 y9) (impl_columnsOf.l0 (k + 1) y0 y1 y2 y3 y4 y5 y6 y7 y8 y9)) ∧ (∀ y0 y1 y2 y3 y4 y5 y6 y7 y8 y9 y10 y11 y12, LeO (impl_columnsOf.l1 k y0 y1 y2 y3 y4 y5 y6 y7 y8 y9 y10 y11 y12) (impl_columnsOf.l1 (k + 1) y0 y1 y2 y3 y4 y5 y6 y7 y8 y9 y10 y11 y12))
 | 0 => ⟨fun _ _ _ _ _ _ _ _ _ _ r h => by simp [impl_columnsOf.l0] at h, fun _ _ _ _ _ _ _ _ _ _ _ _ _ r h => by simp [impl_columnsOf.l1] at h⟩
 | k + 1 => by
  obtain ⟨ih0, ih1⟩ := impl_columnsOf.mono_l k
  refine ⟨?_, ?_⟩
  ·intro y0 y1 y2 y3 y4 y5 y6 y7 y8 y9
   unfold impl_columnsOf.l0
   repeat' first
   | (with_reducible exact ih0 _ _ _ _ _ _ _ _ _ _)
   | (with_reducible exact ih1 _ _ _ _ _ _ _ _ _ _ _ _ _)
   | (with_reducible exact impl_ElementsOf.mono _ _)
   | (with_reducible exact LeO.refl _)
   | (with_reducible exact LeO.none _)
   | (with_reducible refine LeO.ite ?_ ?_)
   | (with_reducible refine LeO.bind ?_ (fun _ => ?_))
   | exact ih0 _ _ _ _ _ _ _ _ _ _
   | exact ih1 _ _ _ _ _ _ _ _ _ _ _ _ _
   | exact impl_ElementsOf.mono _ _
   | exact LeO.none _
   | refine LeO.ite ?_ ?_
   | refine LeO.bind ?_ (fun _ => ?_)
  ·intro y0 y1 y2 y3 y4 y5 y6 y7 y8 y9 y10 y11 y12
   unfold impl_columnsOf.l1
   repeat' first
   | (with_reducible exact ih0 _ _ _ _ _ _ _ _ _ _)
   | (with_reducible exact ih1 _ _ _ _ _ _ _ _ _ _ _ _ _)
   | (with_reducible exact impl_ElementsOf.mono _ _)
   | (with_reducible exact LeO.refl _)
   | (with_reducible exact LeO.none _)
   | (with_reducible refine LeO.ite ?_ ?_)
   | (with_reducible refine LeO.bind ?_ (fun _ => ?_))
   | exact ih0 _ _ _ _ _ _ _ _ _ _
   | exact ih1 _ _ _ _ _ _ _ _ _ _ _ _ _
   | exact impl_ElementsOf.mono _ _
   | exact LeO.none _
   | refine LeO.ite ?_ ?_
   | refine LeO.bind ?_ (fun _ => ?_)
theorem impl_columnsOf.mono : ∀ a0 a1 a2 a3 a4 k, LeO (impl_columnsOf.f k a0 a1 a2 a3 a4) (impl_columnsOf.f (k + 1) a0 a1 a2 a3 a4) := by
 intro a0 a1 a2 a3 a4 k
 obtain ⟨ih0, ih1⟩ := impl_columnsOf.mono_l k
 unfold impl_columnsOf.f
 repeat' first
   | (with_reducible exact ih0 _ _ _ _ _ _ _ _ _ _)
   | (with_reducible exact ih1 _ _ _ _ _ _ _ _ _ _ _ _ _)
   | (with_reducible exact impl_ElementsOf.mono _ _)
   | (with_reducible exact LeO.refl _)
   | (with_reducible exact LeO.none _)
   | (with_reducible refine LeO.ite ?_ ?_)
   | (with_reducible refine LeO.bind ?_ (fun _ => ?_))
   | exact ih0 _ _ _ _ _ _ _ _ _ _
   | exact ih1 _ _ _ _ _ _ _ _ _ _ _ _ _
   | exact impl_ElementsOf.mono _ _
   | exact LeO.none _
   | refine LeO.ite ?_ ?_
   | refine LeO.bind ?_ (fun _ => ?_)
def impl_columnsOf.T9 : Bool × List (List Nat × List Nat) := (true, [([], []), ([0], [0]), ([], []), ([], []), ([], []), ([2, 3, 4], [2, 3, 4]), ([5], [5]), ([1, 6, 5], [1, 6]), ([0, 1, 2, 3, 4, 5, 6, 7], []), ([8, 7, 7, 0, 1, 2, 3, 4, 5, 6, 7], [7, 8])])
def impl_columnsOf.B9 : List Nat := [0, 1, 0, 0, 0, 28, 60, 127, 255, 511]
theorem impl_columnsOf.tab9 : rtab .any (opsOf Try.f161 9) = impl_columnsOf.T9 := by kernel_rfl
theorem impl_columnsOf.bits9 : waitsOk impl_columnsOf.T9.2 impl_columnsOf.B9 = true := by kernel_rfl
set_option maxHeartbeats 8000000 in
set_option maxRecDepth 100000 in
theorem impl_columnsOf.calls (k : Nat) (a0_0 : Int) (a0_1 : Int) (a0_2 : Int) (A0_3 : Option Addr) (c0_3 : Nat) (l0_3 : List Int) (a1 : Int) (r1 : Int) (r2 : Int) (r3 : Int) (r4 : List Int) (w : World) (hr0_3 : Kd.C (Kd.int .i64) w A0_3 l0_3.length l0_3) (hc0_3 : l0_3.length ≤ c0_3) (h : impl_columnsOf.f k a0_0 a0_1 a0_2 l0_3 a1 = some (r1, r2, r3, r4)) :
  Calls Try.prog 161 #[.agg #[.int .i64 a0_0, .int .i64 a0_1, .int .i64 a0_2, .slice A0_3 l0_3.length c0_3], .int .i64 a1] w fun e w' => ∃ v3_ : Value, e = .returned (.agg #[.int .i64 r1, .int .i64 r2, .int .i64 r3, v3_]) ∧ Kd.R (Kd.int .i64) 3 w' w.heap.size (fun _ => True) v3_ r4 ∧ Below w.heap.size w w' := by
 have hu49 := Try.underlying49
 have HR0_3 := Aside0.mk hr0_3
 have HC0_3 := Aside0.mk hc0_3
 clear hr0_3 hc0_3
 have HB := Aside0.mk (Below.refl w.heap.size w)
 unfold impl_columnsOf.f at h
 have H := h
 clear h
 obtain ⟨t913, A3, H⟩ := Hof.be H
 (try dsimp only at H)
 have H' := Aside0.mk H
 clear H
 go_enter Try.func161, Try.ntmps161
 go_wp2_with (first | (refine Hof.bx 2 #[.int .i64 a0_0, .int .i64 a0_1, .int .i64 a0_2, .slice A0_3 l0_3.length c0_3] 49 ?_; intro gb911 hg w4 hbox hb; have BK911 := Aside0.mk hbox; have GW911 := Hof.gw hg HB; have GE911 := Hof.gw hg HB; replace HB := Hof.lb HB hb; clear hb hbox hg) | (refine Hof.bx 4 #[.int .i64 0, .int .i64 0, .int .i64 0, .slice none 0 0] 49 ?_; intro gb912 hg w5 hbox hb; have BK912 := Aside0.mk hbox; have GW912 := Hof.gL (w := w) hg Hof.L; have GE912 := Hof.gL (w := w) hg Hof.L; replace HB := Aside0.mk (below_step Hof.L hb); have NB911_912 := Hof.nl hg BK911; have NB912_911 := Hof.ng hg BK911; replace BK911 := Hof.bb BK911 hb; clear hb hbox hg) | (refine Hof.gl (some 11) Try.func62 #[.int .i64 a1] ?_; (with_reducible refine (impl_ElementsOf.calls k a1 t913 _ A3.out).mono ?_); rintro e w6 ⟨v914, rfl, ho0, hb⟩; refine ⟨_, rfl, ?_⟩; have HO915 := Aside0.mk (Kd.R_lower ho0 (below_size Hof.L)); replace BK911 := Hof.bb BK911 hb; replace BK912 := Hof.bb BK912 hb; replace HB := Aside0.mk (below_step Hof.L hb); (try clear hb); (try clear hb2); (try clear hk); (try clear hi); (try clear ho0); have hnb7 := NB911_912.out; have hnc7 := NB912_911.out; obtain ⟨hcz8_0, hcz8_1, hcz8_2, hcz8_3, hfz8_0, hfz8_1, hfz8_2, hfz8_3⟩ := Hof.blk4 BK911.out; obtain ⟨Ao9, co9, eo9⟩ := Kd.R_slice HO915.out; subst eo9) | (refine Hof.bx 6 #[.int .i64 0, .int .i64 0, .int .i64 0, .slice none 0 0] 49 ?_; intro gb916 hg w10 hbox hb; have n0_ := Hof.rb HO915 hb; have n1_ := Hof.bb BK911 hb; have n2_ := Hof.bb BK912 hb; have n3_ := Aside0.mk (below_step Hof.L hb); have n4_ := Aside0.mk hbox; have n5_ := Hof.gL (w := w) hg Hof.L; have n6_ := Hof.gL (w := w) hg Hof.L; have n7_ := Hof.nl hg BK911; have n8_ := Hof.ng hg BK911; have n9_ := Hof.nl hg BK912; have n10_ := Hof.ng hg BK912; clear HO915; clear BK911; clear BK912; clear HB; have HO915 := n0_; have BK911 := n1_; have BK912 := n2_; have HB := n3_; have BK916 := n4_; have GW916 := n5_; have GE916 := n6_; have NB911_916 := n7_; have NB916_911 := n8_; have NB912_916 := n9_; have NB916_912 := n10_; clear n0_ n1_ n2_ n3_ n4_ n5_ n6_ n7_ n8_ n9_ n10_; clear hb hbox hg; have hnb11 := NB916_911.out; have hnc11 := NB911_916.out; have hnb12 := NB916_912.out; have hnc12 := NB912_916.out; obtain ⟨hcz13_0, hcz13_1, hcz13_2, hcz13_3, hfz13_0, hfz13_1, hfz13_2, hfz13_3⟩ := Hof.blk4 BK916.out))
 go_loopg [7] k (fun kq v7 w' => ∃ (x7_1 : Int) (x917003_1 : List Int) (u917003 : Value), v7 = .int .i64 x7_1 ∧ Aside0 (impl_columnsOf.l0 kq t913 x7_1 a0_0 a0_1 a0_2 l0_3 a0_0 a0_1 (t913.length : Int) x917003_1 = some (r1, r2, r3, r4)) ∧ Aside0 (kq ≤ k) ∧ Aside0 (Kd.R (Kd.int .i64) 3 w' w.heap.size (fun k_ => some k_ ≠ (u917003 : Value).ownBlock) (.slice Ao9 t913.length co9) t913) ∧ Aside0 (Kd.R (Kd.int .i64) 3 w' w.heap.size (fun k_ => some k_ ≠ ((.slice Ao9 t913.length co9) : Value).ownBlock) u917003 x917003_1) ∧ Aside0 (w'.heap[gb911]? = some (.cells #[.int .i64 a0_0, .int .i64 a0_1, .int .i64 a0_2, (.slice A0_3 l0_3.length c0_3)] 49 (0, 0))) ∧ Aside0 (w'.heap[gb912]? = some (.cells #[.int .i64 0, .int .i64 0, .int .i64 0, (.slice none 0 0)] 49 (0, 0))) ∧ Aside0 (w'.heap[gb916]? = some (.cells #[.int .i64 a0_0, .int .i64 a0_1, .int .i64 (t913.length : Int), u917003] 49 (0, 0))) ∧ Aside0 (Below w.heap.size w w'))
 case atStart => exact ⟨(0), (([] : List Int)), (.slice none 0 0), Hof.F, H', ⟨Nat.le_refl _⟩, ⟨Hof.Rw (Kd.R_mono (Kd.R_far (p := ⟨gb916, 3, none⟩) (Kd.R_far (p := ⟨gb916, 2, none⟩) (Kd.R_far (p := ⟨gb916, 1, none⟩) (Kd.R_far (p := ⟨gb916, 0, none⟩) (Kd.R_types HO915.out BK916.out (by decide)) (fun _ hk => hk.2) (.int .i64 a0_0)) (fun _ hk => hk.2) (.int .i64 a0_1)) (fun _ hk => hk.2) (.int .i64 (t913.length : Int))) (fun _ hk => hk.2) (.slice none 0 0)) (fun _ hk => (by simp [Value.ownBlock])))⟩, ⟨Hof.N⟩, ⟨Hof.B⟩, ⟨Hof.B⟩, ⟨Hof.B⟩, ⟨Hof.L⟩⟩
 case round =>
  clear H'
  obtain ⟨x7_1, x917003_1, u917003, rfl, HA, HK1, HO_5, HO_917003, BK911, BK912, BK916, HB⟩ := hrel
  cases gk with
  | zero => exact absurd HA.out (by simp [impl_columnsOf.l0])
  | succ k1 =>
   have H := HA.out
   clear HA
   simp only [impl_columnsOf.l0] at H
   by_cases c14 : x7_1 < a0_1
   ·rw [if_pos c14] at H
    have c14b0 := decide_eq_true c14
    clear c14
    have H' := Aside0.mk H
    clear H
    have hnb15 := NB911_912.out
    have hnc15 := NB912_911.out
    have hnb16 := NB911_916.out
    have hnc16 := NB916_911.out
    obtain ⟨hcz17_0, hcz17_1, hcz17_2, hcz17_3, hfz17_0, hfz17_1, hfz17_2, hfz17_3⟩ := Hof.blk4 BK911.out
    go_wp2
    go_loopg [27] k1 (fun kq v27 w' => ∃ (x27_2 : Int) (x917003_2 : List Int) (u917003 : Value), v27 = .int .i64 x27_2 ∧ Aside0 (impl_columnsOf.l1 kq t913 x7_1 t913 (t913.length : Int) x27_2 a0_0 a0_1 a0_2 l0_3 a0_0 a0_1 (t913.length : Int) x917003_2 = some (r1, r2, r3, r4)) ∧ Aside0 (kq ≤ k1) ∧ Aside0 (Kd.R (Kd.int .i64) 3 w' w.heap.size (fun k_ => some k_ ≠ (u917003 : Value).ownBlock) (.slice Ao9 t913.length co9) t913) ∧ Aside0 (Kd.R (Kd.int .i64) 3 w' w.heap.size (fun k_ => some k_ ≠ (u917003 : Value).ownBlock) (.slice Ao9 t913.length co9) t913) ∧ Aside0 (Kd.R (Kd.int .i64) 3 w' w.heap.size (fun k_ => some k_ ≠ ((.slice Ao9 t913.length co9) : Value).ownBlock ∧ some k_ ≠ ((.slice Ao9 t913.length co9) : Value).ownBlock) u917003 x917003_2) ∧ Aside0 (w'.heap[gb911]? = some (.cells #[.int .i64 a0_0, .int .i64 a0_1, .int .i64 a0_2, (.slice A0_3 l0_3.length c0_3)] 49 (0, 0))) ∧ Aside0 (w'.heap[gb912]? = some (.cells #[.int .i64 0, .int .i64 0, .int .i64 0, (.slice none 0 0)] 49 (0, 0))) ∧ Aside0 (w'.heap[gb916]? = some (.cells #[.int .i64 a0_0, .int .i64 a0_1, .int .i64 (t913.length : Int), u917003] 49 (0, 0))) ∧ Aside0 (Below w.heap.size w w'))
    case atStart => exact ⟨(0), (x917003_1), (u917003), Hof.F, H', ⟨Nat.le_refl _⟩, ⟨Hof.Rw HO_5.out⟩, ⟨Hof.Rw HO_5.out⟩, ⟨Hof.Rw (Kd.R_mono HO_917003.out (fun _ hk => (by first | exact ⟨hk, hk⟩ | (simp_all; done))))⟩, ⟨Hof.Bw BK911.out⟩, ⟨Hof.Bw BK912.out⟩, ⟨Hof.Bw BK916.out⟩, ⟨Hof.L⟩⟩
    case round =>
     clear H'
     obtain ⟨x27_2, x917003_2, u917003, rfl, HA, HK2, HO_5, HO_25, HO_917003, BK911, BK912, BK916, HB⟩ := hrel
     cases gk with
     | zero => exact absurd HA.out (by simp [impl_columnsOf.l1])
     | succ k2 =>
      have H := HA.out
      clear HA
      simp only [impl_columnsOf.l1] at H
      by_cases c18 : x27_2 < (t913.length : Int)
      ·rw [if_pos c18] at H
       have c18b0 := decide_eq_true c18
       clear c18
       by_cases c19 : 0 ≤ x27_2
       ·rw [if_pos c19] at H
        have c19b0 := decide_eq_true c19
        clear c19
        by_cases c20 : x27_2 < (t913.length : Int)
        ·rw [if_pos c20] at H
         have c20b0 := decide_eq_true c20
         clear c20
         obtain ⟨t918, A21, H⟩ := Hof.be H
         (try dsimp only at H)
         by_cases c22 : x917003_2.length < 17592186044416
         ·rw [if_pos c22] at H
          have LMc22 := Aside0.mk c22
          clear c22
          obtain ⟨y919, hy919⟩ : ∃ y_ : List Int, y_ = (x917003_2 ++ [t918]) := ⟨_, rfl⟩
          replace H : (impl_columnsOf.l1 k2 t913 x7_1 t913 (t913.length : Int) (wrap64 (x27_2 + 1)) a0_0 a0_1 a0_2 l0_3 a0_0 a0_1 (t913.length : Int) y919) = some (r1, r2, r3, r4) := by (try rw [hy919]); exact Hof.Z
          have Ny919 := Aside0.mk hy919
          clear hy919
          have H' := Aside0.mk H
          clear H
          have p917 : 0 ≤ (x27_2 : Int) := Hof.D
          have q917 : x27_2 < (t913.length : Int) := Hof.D
          obtain ⟨ad917, e917, hx917_0⟩ := Kd.at_int (Kd.R_reads' HO_25.out).2.2 x27_2 p917 q917
          cases e917
          replace p917 := eq_true p917
          replace q917 := eq_true q917
          try go_wp2
          have n0_ := Aside0.mk (Kd.R_drew HO_5.out)
          have n1_ := Aside0.mk (Kd.R_drew HO_25.out)
          have n2_ := Aside0.mk (Kd.R_drew HO_917003.out)
          have n3_ := Aside0.mk (blk_drew BK911.out)
          have n4_ := Aside0.mk (blk_drew BK912.out)
          have n5_ := Aside0.mk (blk_drew BK916.out)
          have n6_ := Aside0.mk (below_drew1 HB.out)
          clear HO_5
          clear HO_25
          clear HO_917003
          clear BK911
          clear BK912
          clear BK916
          clear HB
          have HO_5 := n0_
          have HO_25 := n1_
          have HO_917003 := n2_
          have BK911 := n3_
          have BK912 := n4_
          have BK916 := n5_
          have HB := n6_
          clear n0_ n1_ n2_ n3_ n4_ n5_ n6_
          refine start_ (n := 10) (S := fun w' => w'.cell? ⟨gb916, 0, none⟩ = some (.int .i64 a0_0) ∧ w'.cell? ⟨gb916, 1, none⟩ = some (.int .i64 a0_1) ∧ w'.cell? ⟨gb916, 2, none⟩ = some (.int .i64 (t913.length : Int)) ∧ w'.cell? ⟨gb916, 3, none⟩ = some (u917003) ∧ w'.cell? ⟨gb911, 0, none⟩ = some (.int .i64 a0_0) ∧ w'.cell? ⟨gb911, 1, none⟩ = some (.int .i64 a0_1) ∧ w'.cell? ⟨gb911, 2, none⟩ = some (.int .i64 a0_2) ∧ w'.cell? ⟨gb911, 3, none⟩ = some (.slice A0_3 l0_3.length c0_3)) (ds := [9]) #[false, false, false, false, false, false, false, false, false, false] (by kernel_rfl) rfl rfl ⟨(blk_cell BK916.out 0).trans rfl, (blk_cell BK916.out 1).trans rfl, (blk_cell BK916.out 2).trans rfl, (blk_cell BK916.out 3).trans rfl, (blk_cell BK911.out 0).trans rfl, (blk_cell BK911.out 1).trans rfl, (blk_cell BK911.out 2).trans rfl, (blk_cell BK911.out 3).trans rfl⟩ (fun hHeld => ?_); refine with_tabW impl_columnsOf.tab9 impl_columnsOf.bits9 (fun HT_ HW_ => ?_)
          generalize wr.drew = w23 at HO_5 HO_25 HO_917003 BK911 BK912 BK916 HB hHeld ⊢
          refine Hof.pu 0 31 HT_ ?_
          refine Hof.pu 3 34 HT_ ?_
          refine Hof.pu 4 35 HT_ ?_
          refine Hof.tk 1 32 HT_ HW_ hHeld ?_
          refine Hof.tk 2 33 HT_ HW_ hHeld ?_
          refine one_ (i := 5) (N := some 36) #[true, true, true, true, true, true, false, false, false, false] rfl rfl (one_of HT_.out (by kernel_rfl)) (by decide) (fun K hK => ?_)
          refine goes_ Try.func167 (by kernel_rfl) rfl #[.agg #[.int .i64 a0_0, .int .i64 a0_1, .int .i64 a0_2, .slice A0_3 l0_3.length c0_3], .int .i64 x7_1, .int .i64 (rd t913 x27_2)] (by rfl) rfl rfl (by (try simp only [List.map_toArray, List.map_cons, List.map_nil]); first | done | rfl) ?_
          with_reducible refine (impl_Matrix_at.calls a0_0 a0_1 a0_2 _ _ l0_3 x7_1 (rd t913 x27_2) t918 _ ?side1 ?side2 A21.out).mono ?_
          (case side1 => exact Hof.Cw (Kd.C_below HR0_3.out HB.out))
          (case side2 => exact HC0_3.out)
          rintro e w24 ⟨rfl, hb⟩
          refine ⟨_, rfl, ?_⟩
          have n0_ := Hof.rb HO_5 hb
          have n1_ := Hof.rb HO_25 hb
          have n2_ := Hof.rb HO_917003 hb
          have n3_ := Hof.bb BK911 hb
          have n4_ := Hof.bb BK912 hb
          have n5_ := Hof.bb BK916 hb
          have n6_ := Aside0.mk (below_step Hof.L hb)
          clear HO_5
          clear HO_25
          clear HO_917003
          clear BK911
          clear BK912
          clear BK916
          clear HB
          have HO_5 := n0_
          have HO_25 := n1_
          have HO_917003 := n2_
          have BK911 := n3_
          have BK912 := n4_
          have BK916 := n5_
          have HB := n6_
          clear n0_ n1_ n2_ n3_ n4_ n5_ n6_
          (try clear hb)
          (try clear hb2)
          (try clear hk)
          (try clear hi)
          refine hK.out _ _ ⟨(blk_cell BK916.out 0).trans rfl, (blk_cell BK916.out 1).trans rfl, (blk_cell BK916.out 2).trans rfl, (blk_cell BK916.out 3).trans rfl, (blk_cell BK911.out 0).trans rfl, (blk_cell BK911.out 1).trans rfl, (blk_cell BK911.out 2).trans rfl, (blk_cell BK911.out 3).trans rfl⟩ (fun hHeld => ?_)
          clear hK K
          refine norm_ (a' := ?_) ?_ ?_
          rotate_left
          ·show Act.put _ (some 36) _ = _
           simp only [Act.put, List.setIfInBounds_toArray, List.set_cons_zero, List.set_cons_succ, i64_w, i32_w]
           rfl
          refine one_ (i := 6) (N := some 37) #[true, true, true, true, true, true, true, false, false, false] rfl rfl (one_of HT_.out (by kernel_rfl)) (by decide) (fun K hK => ?_)
          refine value_ (w1 := ?_) (v := ?_) (by rfl) rfl ?_ ?_
          rotate_left 2
          ·go_simp
           constructor
           ·rfl
           ·rfl
          refine hK.out _ _ ⟨(blk_cell (blk_alloc BK916.out _) 0).trans rfl, (blk_cell (blk_alloc BK916.out _) 1).trans rfl, (blk_cell (blk_alloc BK916.out _) 2).trans rfl, (blk_cell (blk_alloc BK916.out _) 3).trans rfl, (blk_cell (blk_alloc BK911.out _) 0).trans rfl, (blk_cell (blk_alloc BK911.out _) 1).trans rfl, (blk_cell (blk_alloc BK911.out _) 2).trans rfl, (blk_cell (blk_alloc BK911.out _) 3).trans rfl⟩ (fun hHeld => ?_)
          clear hK K
          refine norm_ (a' := ?_) ?_ ?_
          rotate_left
          ·show Act.put _ (some 37) _ = _
           simp only [Act.put, List.setIfInBounds_toArray, List.set_cons_zero, List.set_cons_succ, i64_w, i32_w]
           rfl
          refine one_ (i := 7) (N := some 38) #[true, true, true, true, true, true, true, true, false, false] rfl rfl (one_of HT_.out (by kernel_rfl)) (by decide) (fun K hK => ?_)
          refine Kd.R_append_step (Kd.int .i64) (w0 := w) w.heap.size (by rfl) (.tmp 32) (.tmp 37) 24 3 (.int .i64 0) 8 rfl Try.underlying24 info3 rfl (by decide) (by omega) u917003 x917003_2 t918 [.int .i64 t918] (fun k_ => some k_ ≠ (.slice (some ad917) t913.length co9 : Value).ownBlock ∧ some k_ ≠ (.slice (some ad917) t913.length co9 : Value).ownBlock) (fun _ => False) rfl rfl ?aP (fun _ hk => hk.elim) ?aF ?aO ?aB ?aS ?aL ?_
          (case aP => exact rfl)
          (case aB => exact Hof.L)
          (case aF => exact (fun k_ hk => ⟨Kd.fresh' (Kd.R_lt (Hof.Rw HO_5.out)) k_ hk, Kd.fresh' (Kd.R_lt (Hof.Rw HO_25.out)) k_ hk⟩))
          (case aO => exact (Hof.Rw HO_917003.out))
          (case aS => exact (below_size Hof.L))
          (case aL => have := LMc22.out; omega)
          intro v920 w25 ho hb hg hat
          rw [← Ny919.out] at ho
          have n0_ := Aside0.mk (Kd.R_after (ok := (fun _ => True)) (Hof.Rw (Kd.R_mono HO_5.out (fun _ hk => ⟨trivial, hk⟩))) hg hat)
          have n1_ := Aside0.mk (Kd.R_after (ok := (fun _ => True)) (Hof.Rw (Kd.R_mono HO_25.out (fun _ hk => ⟨trivial, hk⟩))) hg hat)
          have n2_ := Aside0.mk (blk_grown (g := gb911) (o := .cells #[.int .i64 a0_0, .int .i64 a0_1, .int .i64 a0_2, .slice A0_3 l0_3.length c0_3] 49 (0, 0)) (Hof.Bw BK911.out) hg (Kd.R_ne HO_917003.out BK911.out (by decide)))
          have n3_ := Aside0.mk (blk_grown (g := gb912) (o := .cells #[.int .i64 0, .int .i64 0, .int .i64 0, .slice none 0 0] 49 (0, 0)) (Hof.Bw BK912.out) hg (Kd.R_ne HO_917003.out BK912.out (by decide)))
          have n4_ := Aside0.mk (blk_grown (g := gb916) (o := .cells #[.int .i64 a0_0, .int .i64 a0_1, .int .i64 (t913.length : Int), u917003] 49 (0, 0)) (Hof.Bw BK916.out) hg (Kd.R_ne HO_917003.out BK916.out (by decide)))
          have n5_ := Aside0.mk hb
          have n6_ := Aside0.mk ho
          clear HO_5
          clear HO_25
          clear BK911
          clear BK912
          clear BK916
          clear HB
          clear HO_917003
          have HO_5 := n0_
          have HO_25 := n1_
          have BK911 := n2_
          have BK912 := n3_
          have BK916 := n4_
          have HB := n5_
          have HO921 := n6_
          clear n0_ n1_ n2_ n3_ n4_ n5_ n6_
          clear ho hb hg hat
          obtain ⟨Ao26, co26, eo26⟩ := Kd.R_slice HO921.out
          (first | subst eo26 | (injection eo26 with f1_ f2_ f3_; have f4_ := f1_.symm; have f5_ := f3_.symm; clear f1_ f2_ f3_; subst f4_; subst f5_))
          refine hK.out _ _ ⟨(blk_cell BK916.out 0).trans rfl, (blk_cell BK916.out 1).trans rfl, (blk_cell BK916.out 2).trans rfl, (blk_cell BK916.out 3).trans rfl, (blk_cell BK911.out 0).trans rfl, (blk_cell BK911.out 1).trans rfl, (blk_cell BK911.out 2).trans rfl, (blk_cell BK911.out 3).trans rfl⟩ (fun hHeld => ?_)
          clear hK K
          refine norm_ (a' := ?_) ?_ ?_
          rotate_left
          ·show Act.put _ (some 38) _ = _
           simp only [Act.put, List.setIfInBounds_toArray, List.set_cons_zero, List.set_cons_succ, i64_w, i32_w]
           rfl
          refine Hof.pu 8 39 HT_ ?_
          refine last_ (i := 9) (N := none) #[true, true, true, true, true, true, true, true, true, true] rfl rfl (one_of HT_.out (by kernel_rfl)) (by decide) (fun K hK => ?_)
          have hs27 : w25.cell? ⟨gb916, 3, none⟩ = some (u917003) := (blk_cell BK916.out 3).trans rfl
          have hfs27 := blk_frozen BK916.out 3
          have hns27_0 := NB911_916.out
          have hns27_1 := NB912_916.out
          have hms27_0 := NB916_911.out
          have hms27_1 := NB916_912.out
          refine skip_ (w1 := ?_) (by rfl) rfl ?_ ?_
          rotate_left
          ·go_simp
           rfl
          refine hK.out _ _ ?_
          clear hK K
          refine done_ (done_of HT_.out (by kernel_rfl)) ?_
          try go_wp2
          go_roundg k2
          case measure => have := HK1.out; have := HK2.out; omega
          case rel => exact ⟨(wrap64 (x27_2 + 1)), (y919), (.slice Ao26 y919.length co26), Hof.F, H', ⟨by have := HK1.out; have := HK2.out; omega⟩, ⟨Hof.Rw (Kd.R_mono (Kd.R_far (p := ⟨gb916, 3, none⟩) (Kd.R_types HO_5.out BK916.out (by decide)) (fun _ hk => hk.2) (.slice Ao26 y919.length co26)) (fun _ hk => hk.1.2))⟩, ⟨Hof.Rw (Kd.R_mono (Kd.R_far (p := ⟨gb916, 3, none⟩) (Kd.R_types HO_25.out BK916.out (by decide)) (fun _ hk => hk.2) (.slice Ao26 y919.length co26)) (fun _ hk => hk.1.2))⟩, ⟨Hof.Rw (Kd.R_mono (Kd.R_far (p := ⟨gb916, 3, none⟩) (Kd.R_types HO921.out BK916.out (by decide)) (fun _ hk => hk.2) (.slice Ao26 y919.length co26)) (fun _ hk => (by first | exact ⟨hk.1.1, hk.1.2⟩ | (simp_all; done))))⟩, ⟨Hof.B⟩, ⟨Hof.B⟩, ⟨Hof.B⟩, ⟨Hof.L⟩⟩
         ·rw [if_neg c22] at H
          exact absurd H (by simp)
        ·rw [if_neg c20] at H
         exact absurd H (by simp)
       ·rw [if_neg c19] at H
        exact absurd H (by simp)
      ·rw [if_neg c18] at H
       have c18b0 : decide (x27_2 < (t913.length : Int)) = false := decide_eq_false c18
       clear c18
       have H' := Aside0.mk H
       clear H
       go_wp2
       go_roundg k2
       case measure => have := HK1.out; have := HK2.out; omega
       case rel => exact ⟨(wrap64 (x7_1 + 1)), (x917003_2), (u917003), Hof.F, H', ⟨by have := HK1.out; have := HK2.out; omega⟩, ⟨Hof.Rw HO_5.out⟩, ⟨Hof.Rw (Kd.R_mono HO_917003.out (fun _ hk => hk.1))⟩, ⟨Hof.Bw BK911.out⟩, ⟨Hof.Bw BK912.out⟩, ⟨Hof.Bw BK916.out⟩, ⟨Hof.L⟩⟩
   ·rw [if_neg c14] at H
    have c14b0 : decide (x7_1 < a0_1) = false := decide_eq_false c14
    clear c14
    simp only [Option.some.injEq, Prod.mk.injEq] at H
    obtain ⟨rfl, rfl, rfl, rfl⟩ := H
    have hnb28 := NB911_912.out
    have hnc28 := NB912_911.out
    have hnb29 := NB911_916.out
    have hnc29 := NB916_911.out
    obtain ⟨hcz30_0, hcz30_1, hcz30_2, hcz30_3, hfz30_0, hfz30_1, hfz30_2, hfz30_3⟩ := Hof.blk4 BK911.out
    have hnb31 := NB916_912.out
    have hnc31 := NB912_916.out
    obtain ⟨hcz32_0, hcz32_1, hcz32_2, hcz32_3, hfz32_0, hfz32_1, hfz32_2, hfz32_3⟩ := Hof.blk4 BK916.out
    obtain ⟨hcz33_0, hcz33_1, hcz33_2, hcz33_3, hfz33_0, hfz33_1, hfz33_2, hfz33_3⟩ := Hof.blk4 BK912.out
    obtain ⟨Ao34, co34, eo34⟩ := Kd.R_slice HO_917003.out
    subst eo34
    go_wp2
    refine bodyPost_ret (results_cell_row rfl _ _ gb912 49 #[.int .i64 a0_0, .int .i64 a0_1, .int .i64 (t913.length : Int), .slice Ao34 x917003_1.length co34] (0, 0) _ rfl Hof.B Try.underlying49 rfl (by kernel_rfl)) rfl ?_
    exact ⟨_, Hof.E, by (with_reducible repeat (first | apply Kd.R_alloc | apply Kd.R_drewN | apply Kd.R_drew)); exact Kd.R_mono (Kd.R_far (p := ⟨gb912, 3, none⟩) (Kd.R_far (p := ⟨gb912, 2, none⟩) (Kd.R_far (p := ⟨gb912, 1, none⟩) (Kd.R_far (p := ⟨gb912, 0, none⟩) (Kd.R_types HO_917003.out BK912.out (by decide)) (fun _ hk => hk.2) (.int .i64 a0_0)) (fun _ hk => hk.2) (.int .i64 a0_1)) (fun _ hk => hk.2) (.int .i64 (t913.length : Int))) (fun _ hk => hk.2) (.slice Ao34 x917003_1.length co34)) (fun _ hk => trivial), Hof.L⟩
def impl_MatrixRank.j0 : Nat → Int → Bool → Int → Int → Int → List Int → Option (Int)
 | 0, _, _, _, _, _, _ => none
 | k + 1, x1, x16, x923000, x923001, x923002, x923003 => if x16 = true then (some (-1)) else ((impl_columnsOf.f k x923000 x923001 x923002 x923003 x1).bind fun bt925 => ((impl_reduce.f k bt925.1 bt925.2.1 bt925.2.2.1 bt925.2.2.2).bind fun bt931 => (some (bt931.2.2.2.2.length : Int))))
def impl_MatrixRank.f (k : Nat) (a0_0 : Int) (a0_1 : Int) (a0_2 : Int) (l0_3 : List Int) (a1 : Int) : Option (Int) := (impl_IsMatrix.f k a0_0 a0_1 a0_2 l0_3).bind fun t923 => (if t923 = true then ((impl_IsSet.f a0_2 a1).bind fun t924 => (impl_MatrixRank.j0 k a1 (!t924) a0_0 a0_1 a0_2 l0_3)) else (impl_MatrixRank.j0 k a1 true a0_0 a0_1 a0_2 l0_3))
theorem impl_MatrixRank.mono_l : ∀ k, (∀ y0 y1 y2 y3 y4 y5, LeO (impl_MatrixRank.j0 k y0 y1 y2 y3 y4 y5) (impl_MatrixRank.j0 (k + 1) y0 y1 y2 y3 y4 y5))
 | 0 => fun _ _ _ _ _ _ r h => by simp [impl_MatrixRank.j0] at h
 | k + 1 => by
  have ih0 := impl_MatrixRank.mono_l k
  ·intro y0 y1 y2 y3 y4 y5
   unfold impl_MatrixRank.j0
   repeat' first
   | (with_reducible exact ih0 _ _ _ _ _ _)
   | (with_reducible exact impl_IsMatrix.mono _ _ _ _ _)
   | (with_reducible exact impl_columnsOf.mono _ _ _ _ _ _)
   | (with_reducible exact impl_reduce.mono _ _ _ _ _)
   | (with_reducible exact LeO.refl _)
   | (with_reducible exact LeO.none _)
   | (with_reducible refine LeO.ite ?_ ?_)
   | (with_reducible refine LeO.bind ?_ (fun _ => ?_))
   | exact ih0 _ _ _ _ _ _
   | exact impl_IsMatrix.mono _ _ _ _ _
   | exact impl_columnsOf.mono _ _ _ _ _ _
   | exact impl_reduce.mono _ _ _ _ _
   | exact LeO.none _
   | refine LeO.ite ?_ ?_
   | refine LeO.bind ?_ (fun _ => ?_)
theorem impl_MatrixRank.mono : ∀ a0 a1 a2 a3 a4 k, LeO (impl_MatrixRank.f k a0 a1 a2 a3 a4) (impl_MatrixRank.f (k + 1) a0 a1 a2 a3 a4) := by
 intro a0 a1 a2 a3 a4 k
 have ih0 := impl_MatrixRank.mono_l k
 unfold impl_MatrixRank.f
 repeat' first
   | (with_reducible exact ih0 _ _ _ _ _ _)
   | (with_reducible exact impl_IsMatrix.mono _ _ _ _ _)
   | (with_reducible exact impl_columnsOf.mono _ _ _ _ _ _)
   | (with_reducible exact impl_reduce.mono _ _ _ _ _)
   | (with_reducible exact LeO.refl _)
   | (with_reducible exact LeO.none _)
   | (with_reducible refine LeO.ite ?_ ?_)
   | (with_reducible refine LeO.bind ?_ (fun _ => ?_))
   | exact ih0 _ _ _ _ _ _
   | exact impl_IsMatrix.mono _ _ _ _ _
   | exact impl_columnsOf.mono _ _ _ _ _ _
   | exact impl_reduce.mono _ _ _ _ _
   | exact LeO.none _
   | refine LeO.ite ?_ ?_
   | refine LeO.bind ?_ (fun _ => ?_)
set_option maxHeartbeats 8000000 in
set_option maxRecDepth 100000 in
theorem impl_MatrixRank.calls (k : Nat) (a0_0 : Int) (a0_1 : Int) (a0_2 : Int) (A0_3 : Option Addr) (c0_3 : Nat) (l0_3 : List Int) (a1 : Int) (r : Int) (w : World) (hr0_3 : Kd.C (Kd.int .i64) w A0_3 l0_3.length l0_3) (hc0_3 : l0_3.length ≤ c0_3) (h : impl_MatrixRank.f k a0_0 a0_1 a0_2 l0_3 a1 = some r) :
  Calls Try.prog 150 #[.agg #[.int .i64 a0_0, .int .i64 a0_1, .int .i64 a0_2, .slice A0_3 l0_3.length c0_3], .int .i64 a1] w fun e w' => e = .returned (.int .i64 r) ∧ Below w.heap.size w w' := by
 have hu49 := Try.underlying49
 have HR0_3 := Aside0.mk hr0_3
 have HC0_3 := Aside0.mk hc0_3
 clear hr0_3 hc0_3
 have HB := Aside0.mk (Below.refl w.heap.size w)
 unfold impl_MatrixRank.f at h
 have H := h
 clear h
 have HC3 := Aside0.mk H
 clear H
 go_enter Try.func150, Try.ntmps150
 go_upto_region 1 with (first | ((with_reducible refine gate_dst (N := 2) rfl ?_); refine Hof.bx 2 #[.int .i64 a0_0, .int .i64 a0_1, .int .i64 a0_2, .slice A0_3 l0_3.length c0_3] 49 ?_; intro gb922 hg w4 hbox hb; have BK922 := Aside0.mk hbox; have GW922 := Hof.gw hg HB; have GE922 := Hof.gw hg HB; replace HB := Hof.lb HB hb; clear hb hbox hg))
 (try simp only [Act.put, List.setIfInBounds_toArray, List.set_cons_zero, List.set_cons_succ])
 go_cut [16] (fun v16 wc => ∃ (kq : Nat) (x16_2 : Bool), v16 = .bool x16_2 ∧ Aside0 (impl_MatrixRank.j0 kq a1 x16_2 a0_0 a0_1 a0_2 l0_3 = some r) ∧ Aside0 (kq ≤ k) ∧ Aside0 (wc.heap[gb922]? = some (.cells #[.int .i64 a0_0, .int .i64 a0_1, .int .i64 a0_2, (.slice A0_3 l0_3.length c0_3)] 49 (0, 0))) ∧ Aside0 (Below w.heap.size w wc))
 case first =>
  have H := HC3.out
  clear HC3
  obtain ⟨t923, A5, H⟩ := Hof.be H
  (try dsimp only at H)
  by_cases c6 : t923 = true
  ·subst c6
   replace H : ((impl_IsSet.f a0_2 a1).bind fun t924 => (impl_MatrixRank.j0 k a1 (!t924) a0_0 a0_1 a0_2 l0_3)) = some r := by rw [if_pos rfl] at H; exact H
   obtain ⟨t924, A7, H⟩ := Hof.be H
   (try dsimp only at H)
   have H' := Aside0.mk H
   clear H
   obtain ⟨hcz8_0, hcz8_1, hcz8_2, hcz8_3, hfz8_0, hfz8_1, hfz8_2, hfz8_3⟩ := Hof.blk4 BK922.out
   go_wp2_with (first | ((with_reducible refine gate_callee (f := 148) rfl ?_); refine Hof.gl (some 8) Try.func148 #[.agg #[.int .i64 a0_0, .int .i64 a0_1, .int .i64 a0_2, .slice A0_3 l0_3.length c0_3]] ?_; (with_reducible refine (impl_IsMatrix.calls k a0_0 a0_1 a0_2 _ _ l0_3 true _ ?side1 ?side2 A5.out).mono ?_); (case side1 => exact Hof.Cw (Kd.C_below HR0_3.out HB.out)); (case side2 => exact HC0_3.out); rintro e w9 ⟨rfl, hb⟩; refine ⟨_, rfl, ?_⟩; replace BK922 := Hof.bb BK922 hb; replace HB := Hof.lb HB hb; (try clear hb); (try clear hb2); (try clear hk); (try clear hi); obtain ⟨hcz10_0, hcz10_1, hcz10_2, hcz10_3, hfz10_0, hfz10_1, hfz10_2, hfz10_3⟩ := Hof.blk4 BK922.out) | (go_at_call 61; (with_reducible refine (impl_IsSet.calls a0_2 a1 t924 _ A7.out).mono ?_); rintro e w' ⟨rfl, ⟨nd, rfl⟩⟩))
   go_meet
   case rel => exact ⟨_, (!t924), Hof.F, H', ⟨by first | omega | exact Nat.le_refl _⟩, ⟨Hof.Bw BK922.out⟩, ⟨Hof.Lw HB.out⟩⟩
  ·replace c6 := Bool.eq_false_iff.mpr c6
   subst c6
   replace H : (impl_MatrixRank.j0 k a1 true a0_0 a0_1 a0_2 l0_3) = some r := by rw [if_neg (show ¬ (false = true) by decide)] at H; exact H
   have H' := Aside0.mk H
   clear H
   obtain ⟨hcz11_0, hcz11_1, hcz11_2, hcz11_3, hfz11_0, hfz11_1, hfz11_2, hfz11_3⟩ := Hof.blk4 BK922.out
   go_wp2_with (first | ((with_reducible refine gate_callee (f := 148) rfl ?_); refine Hof.gl (some 8) Try.func148 #[.agg #[.int .i64 a0_0, .int .i64 a0_1, .int .i64 a0_2, .slice A0_3 l0_3.length c0_3]] ?_; (with_reducible refine (impl_IsMatrix.calls k a0_0 a0_1 a0_2 _ _ l0_3 false _ ?side1 ?side2 A5.out).mono ?_); (case side1 => exact Hof.Cw (Kd.C_below HR0_3.out HB.out)); (case side2 => exact HC0_3.out); rintro e w12 ⟨rfl, hb⟩; refine ⟨_, rfl, ?_⟩; replace BK922 := Hof.bb BK922 hb; replace HB := Hof.lb HB hb; (try clear hb); (try clear hb2); (try clear hk); (try clear hi)))
   go_meet
   case rel => exact ⟨_, (true), Hof.F, H', ⟨by first | omega | exact Nat.le_refl _⟩, ⟨Hof.Bw BK922.out⟩, ⟨Hof.Lw HB.out⟩⟩
 case rest =>
  clear HC3
  obtain ⟨kq, x16_2, rfl, HA, HJ2, BK922, HB⟩ := hcut
  cases kq with
  | zero => exact absurd HA.out (by simp [impl_MatrixRank.j0])
  | succ kj2 =>
   have H := HA.out
   clear HA
   simp only [impl_MatrixRank.j0] at H
   by_cases c13 : x16_2 = true
   ·subst c13
    replace H : (some (-1)) = some r := by rw [if_pos rfl] at H; exact H
    obtain rfl := Option.some.inj H
    go_wp2
    go_ret
    exact ⟨Hof.E, Hof.L⟩
   ·replace c13 := Bool.eq_false_iff.mpr c13
    subst c13
    replace H : ((impl_columnsOf.f kj2 a0_0 a0_1 a0_2 l0_3 a1).bind fun bt925 => ((impl_reduce.f kj2 bt925.1 bt925.2.1 bt925.2.2.1 bt925.2.2.2).bind fun bt931 => (some (bt931.2.2.2.2.length : Int)))) = some r := by rw [if_neg (show ¬ (false = true) by decide)] at H; exact H
    obtain ⟨⟨t925, t926, t927, t928⟩, A14, H⟩ := Hof.be H
    (try dsimp only at H)
    obtain ⟨⟨t931, t932, t933, t934, t937⟩, A15, H⟩ := Hof.be H
    (try dsimp only at H)
    obtain rfl := Option.some.inj H
    obtain ⟨hcz16_0, hcz16_1, hcz16_2, hcz16_3, hfz16_0, hfz16_1, hfz16_2, hfz16_3⟩ := Hof.blk4 BK922.out
    go_wp2_with (first | ((with_reducible refine gate_callee (f := 161) rfl ?_); refine Hof.gl (some 20) Try.func161 #[.agg #[.int .i64 a0_0, .int .i64 a0_1, .int .i64 a0_2, .slice A0_3 l0_3.length c0_3], .int .i64 a1] ?_; (with_reducible refine (impl_columnsOf.calls kj2 a0_0 a0_1 a0_2 _ _ l0_3 a1 t925 t926 t927 t928 _ ?side1 ?side2 A14.out).mono ?_); (case side1 => exact Hof.Cw (Kd.C_below HR0_3.out HB.out)); (case side2 => exact HC0_3.out); rintro e w17 ⟨v929, rfl, ho0, hb⟩; refine ⟨_, rfl, ?_⟩; have HO930 := Aside0.mk (Kd.R_lower ho0 (below_size (Hof.Lw HB.out))); replace BK922 := Hof.bb BK922 hb; replace HB := Hof.lb HB hb; (try clear hb); (try clear hb2); (try clear hk); (try clear hi); (try clear ho0); obtain ⟨Ao18, co18, eo18⟩ := Kd.R_slice HO930.out; subst eo18) | ((with_reducible refine gate_callee (f := 160) rfl ?_); refine Hof.gl (some 21) Try.func160 #[.agg #[.int .i64 t925, .int .i64 t926, .int .i64 t927, .slice Ao18 t928.length co18]] ?_; (with_reducible refine (impl_reduce.calls kj2 t925 t926 t927 _ _ t928 t931 t932 t933 t934 t937 _ ?side1 ?side2 A15.out).mono ?_); (case side1 => exact Hof.Cw ((Kd.R_reads' HO930.out).2.2)); (case side2 => exact (Kd.R_reads' HO930.out).2.1); rintro e w19 ⟨v935, v938, rfl, ho0, ho1, hb⟩; refine ⟨_, rfl, ?_⟩; have HO936 := Aside0.mk (Kd.R_lower (Kd.R_new' ho0 (Kd.R_lt (Hof.Rw HO930.out))) (below_size (Hof.Lw HB.out))); have HO939 := Aside0.mk (Kd.R_lower (Kd.R_new' ho1 (Kd.R_lt (Hof.Rw HO930.out))) (below_size (Hof.Lw HB.out))); replace HO930 := Aside0.mk (Kd.R_mono (Kd.R_told (Kd.R_told (Kd.R_old (Hof.Rw HO930.out) hb) (Kd.R_base ho0)) (Kd.R_base ho1)) (fun _ h_ => h_.1)); replace BK922 := Hof.bb BK922 hb; replace HB := Hof.lb HB hb; (try clear hb); (try clear hb2); (try clear hk); (try clear hi); (try clear ho0); (try clear ho1)) | ((with_reducible refine gate_dst (N := 5) rfl ?_); refine Hof.bx 5 #[.int .i64 0, .int .i64 0, .int .i64 0, .slice none 0 0] 49 ?_; intro gb940 hg w20 hbox hb; replace HO930 := Hof.rb HO930 hb; replace HO936 := Hof.rb HO936 hb; replace HO939 := Hof.rb HO939 hb; have BK940 := Aside0.mk hbox; have GW940 := Hof.gw hg HB; have GE940 := Hof.gw hg HB; replace HB := Hof.lb HB hb; have NB922_940 := Hof.nl hg BK922; have NB940_922 := Hof.ng hg BK922; replace BK922 := Hof.bb BK922 hb; clear hb hbox hg; have hnb21 := NB940_922.out; have hnc21 := NB922_940.out; obtain ⟨hcz22_0, hcz22_1, hcz22_2, hcz22_3, hfz22_0, hfz22_1, hfz22_2, hfz22_3⟩ := Hof.blk4 BK940.out; obtain ⟨Ao23, co23, eo23⟩ := Kd.R_slice HO936.out; subst eo23; obtain ⟨Ao24, co24, eo24⟩ := Kd.R_slice HO939.out; subst eo24))
    go_ret
    exact ⟨Hof.E, Hof.L⟩
def impl_FromMatrix_1.f (k : Nat) (a0_0 a0_1 a0_2 : Int) (l0_3 : List Int) (s : Int) : Option Bool := (impl_MatrixRank.f k a0_0 a0_1 a0_2 l0_3 s).bind fun t => (impl_CountOf.f s).bind fun u => some (t == u)
theorem impl_FromMatrix_1.mono (a0_0 a0_1 a0_2 : Int) (l0_3 : List Int) (s : Int) (k : Nat) : LeO (impl_FromMatrix_1.f k a0_0 a0_1 a0_2 l0_3 s) (impl_FromMatrix_1.f (k + 1) a0_0 a0_1 a0_2 l0_3 s) := LeO.bind (impl_MatrixRank.mono _ _ _ _ _ _) fun _ => LeO.refl _
set_option maxHeartbeats 8000000 in
set_option maxRecDepth 100000 in
theorem impl_FromMatrix_1.calls (k : Nat) (a0_0 a0_1 a0_2 : Int) (A0_3 : Option Addr) (c0_3 : Nat) (l0_3 : List Int) (s : Int) (b : Bool) (gb : Nat) (w : World) (hbk : w.heap[gb]? = some (.cells #[.int .i64 a0_0, .int .i64 a0_1, .int .i64 a0_2, .slice A0_3 l0_3.length c0_3] 49 (0, 0))) (hr0 : Kd.C (Kd.int .i64) w A0_3 l0_3.length l0_3) (hc0 : l0_3.length ≤ c0_3) (h : impl_FromMatrix_1.f k a0_0 a0_1 a0_2 l0_3 s = some b) :
  Calls Try.prog 149 #[.int .i64 s, .pointer (some ⟨gb, 0, none⟩)] w fun e w' => e = .returned (.bool b) ∧ Below w.heap.size w w' := by
 have hu49 := Try.underlying49
 have HR := Aside0.mk hr0
 have HC := Aside0.mk hc0
 obtain ⟨hx0, hx1, hx2, hx3, hy0, hy1, hy2, hy3⟩ := Hof.blk4 hbk
 clear hr0 hc0 hbk
 unfold impl_FromMatrix_1.f at h
 obtain ⟨t, h1, h⟩ := Option.bind_eq_some_iff.mp h
 have A1 := Aside0.mk h1
 clear h1
 obtain ⟨u, h1, h⟩ := Option.bind_eq_some_iff.mp h
 have A2 := Aside0.mk h1
 clear h1
 obtain rfl := Option.some.inj h
 clear h
 go_enter Try.func149, Try.ntmps149
 go_wp2_with (first | (refine Hof.gl (some 6) Try.func150 #[.agg #[.int .i64 a0_0, .int .i64 a0_1, .int .i64 a0_2, .slice A0_3 l0_3.length c0_3], .int .i64 s] ?_; (with_reducible refine (impl_MatrixRank.calls k a0_0 a0_1 a0_2 _ _ l0_3 s t _ HR.out HC.out A1.out).mono ?_); rintro e w6 ⟨rfl, hb⟩; refine ⟨_, rfl, ?_⟩; have HB := Aside0.mk hb; clear hb hx0 hx1 hx2 hx3 hy0 hy1 hy2 hy3) | (refine Hof.gl (some 8) Try.func95 #[.int .i64 s] ?_; (with_reducible refine (impl_CountOf.calls s u _ A2.out).mono ?_); rintro e w7 ⟨rfl, ⟨nd, rfl⟩⟩; refine ⟨_, rfl, ?_⟩))
 go_ret
 exact ⟨by first | rfl | (simp; done), by first | exact pw_below_drewN HB.out _ | exact HB.out⟩
theorem impl_FromMatrix_1.fun1 (k : Nat) (a0_0 a0_1 a0_2 : Int) (A0_3 : Option Addr) (c0_3 : Nat) (l0_3 : List Int) (gb : Nat) (w : World) (hbk : w.heap[gb]? = some (.cells #[.int .i64 a0_0, .int .i64 a0_1, .int .i64 a0_2, .slice A0_3 l0_3.length c0_3] 49 (0, 0))) (hr : Kd.C (Kd.int .i64) w A0_3 l0_3.length l0_3) (hc : l0_3.length ≤ c0_3) :
  Hof.Fun1 Try.prog w (.func (.func 149) #[] #[.pointer (some ⟨gb, 0, none⟩)]) (fun s => impl_FromMatrix_1.f k a0_0 a0_1 a0_2 l0_3 s) :=
 ⟨⟨149, #[.pointer (some ⟨gb, 0, none⟩)], Try.f149, rfl, Try.func149, by kernel_rfl, rfl, fun s b w' hw hg => impl_FromMatrix_1.calls k a0_0 a0_1 a0_2 A0_3 c0_3 l0_3 s b gb w' (blk_below hbk hw) (Kd.C_below hr hw) hc hg⟩⟩
def impl_FromMatrix.f (k : Nat) (a0_0 : Int) (a0_1 : Int) (a0_2 : Int) (l0_3 : List Int) : Option (Int × List Int) := (impl_IsMatrix.f k a0_0 a0_1 a0_2 l0_3).bind fun t894 => (if t894 = true then ((impl_setsOf.f k a0_2 (fun s => impl_FromMatrix_1.f k a0_0 a0_1 a0_2 l0_3 s)).bind fun t895 => ((impl_fromIndependent.f k a0_2 t895).bind fun bt898 => (some (bt898.1, bt898.2.1)))) else (some (0, ([] : List Int))))
def impl_FromMatrix.T3 : Bool × List (List Nat × List Nat) := (true, [([], []), ([0], [0]), ([], []), ([2], [2]), ([], []), ([3, 4], [3, 4]), ([1, 5, 5], [1, 5]), ([6], [6]), ([7], [7]), ([7], [7]), ([], []), ([10, 8, 6, 0, 1, 2, 3, 4, 5, 6, 7, 8, 10], [8, 10]), ([9, 11, 0, 1, 2, 3, 4, 5, 6, 7, 8, 9, 10, 11], [9])])
def impl_FromMatrix.B3 : List Nat := [0, 1, 0, 4, 0, 28, 63, 127, 255, 255, 0, 1535, 4095]
theorem impl_FromMatrix.tab3 : rtab .any (opsOf Try.f124 3) = impl_FromMatrix.T3 := by kernel_rfl
theorem impl_FromMatrix.bits3 : waitsOk impl_FromMatrix.T3.2 impl_FromMatrix.B3 = true := by kernel_rfl
set_option maxHeartbeats 8000000 in
set_option maxRecDepth 100000 in
theorem impl_FromMatrix.calls (k : Nat) (a0_0 : Int) (a0_1 : Int) (a0_2 : Int) (A0_3 : Option Addr) (c0_3 : Nat) (l0_3 : List Int) (r1 : Int) (r2 : List Int) (w : World) (hr0_3 : Kd.C (Kd.int .i64) w A0_3 l0_3.length l0_3) (hc0_3 : l0_3.length ≤ c0_3) (h : impl_FromMatrix.f k a0_0 a0_1 a0_2 l0_3 = some (r1, r2)) :
  Calls Try.prog 124 #[.agg #[.int .i64 a0_0, .int .i64 a0_1, .int .i64 a0_2, .slice A0_3 l0_3.length c0_3]] w fun e w' => ∃ v1_ : Value, e = .returned (.agg #[.int .i64 r1, v1_]) ∧ Kd.R (Kd.int .i64) 3 w' w.heap.size (fun _ => True) v1_ r2 ∧ Below w.heap.size w w' := by
 have hu49 := Try.underlying49
 have hu35 := Try.underlying35
 have HR0_3 := Aside0.mk hr0_3
 have HC0_3 := Aside0.mk hc0_3
 clear hr0_3 hc0_3
 have HB := Aside0.mk (Below.refl w.heap.size w)
 unfold impl_FromMatrix.f at h
 have H := h
 clear h
 obtain ⟨t894, A2, H⟩ := Hof.be H
 (try dsimp only at H)
 by_cases c3 : t894 = true
 ·subst c3
  replace H : ((impl_setsOf.f k a0_2 (fun s => impl_FromMatrix_1.f k a0_0 a0_1 a0_2 l0_3 s)).bind fun t895 => ((impl_fromIndependent.f k a0_2 t895).bind fun bt898 => (some (bt898.1, bt898.2.1)))) = some (r1, r2) := by rw [if_pos rfl] at H; exact H
  obtain ⟨t895, A4, H⟩ := Hof.be H
  (try dsimp only at H)
  obtain ⟨⟨t898, t899, t902⟩, A5, H⟩ := Hof.be H
  (try dsimp only at H)
  simp only [Option.some.injEq, Prod.mk.injEq] at H
  obtain ⟨rfl, rfl⟩ := H
  go_enter Try.func124, Try.ntmps124
  try go_wp2_with (first | (refine Hof.bx 1 #[.int .i64 a0_0, .int .i64 a0_1, .int .i64 a0_2, .slice A0_3 l0_3.length c0_3] 49 ?_; intro gb892 hg w6 hbox hb; have BK892 := Aside0.mk hbox; have GW892 := Hof.gw hg HB; have GE892 := Hof.gw hg HB; replace HB := Hof.lb HB hb; clear hb hbox hg) | (refine Hof.bx 2 #[.int .i64 0, .slice none 0 0] 35 ?_; intro gb893 hg w7 hbox hb; have BK893 := Aside0.mk hbox; have GW893 := Hof.gw hg HB; have GE893 := Hof.gw hg HB; replace HB := Hof.lb HB hb; have NB892_893 := Hof.nl hg BK892; have NB893_892 := Hof.ng hg BK892; replace BK892 := Hof.bb BK892 hb; clear hb hbox hg; have hnb8 := NB892_893.out; have hnc8 := NB893_892.out; obtain ⟨hcz9_0, hcz9_1, hcz9_2, hcz9_3, hfz9_0, hfz9_1, hfz9_2, hfz9_3⟩ := Hof.blk4 BK892.out) | (refine Hof.gl (some 6) Try.func148 #[.agg #[.int .i64 a0_0, .int .i64 a0_1, .int .i64 a0_2, .slice A0_3 l0_3.length c0_3]] ?_; (with_reducible refine (impl_IsMatrix.calls k a0_0 a0_1 a0_2 _ _ l0_3 true _ ?side1 ?side2 A2.out).mono ?_); (case side1 => exact Hof.Cw (Kd.C_below HR0_3.out HB.out)); (case side2 => exact HC0_3.out); rintro e w10 ⟨rfl, hb⟩; refine ⟨_, rfl, ?_⟩; replace BK892 := Hof.bb BK892 hb; replace BK893 := Hof.bb BK893 hb; replace HB := Hof.lb HB hb; (try clear hb); (try clear hb2); (try clear hk); (try clear hi)))
  have n0_ := Aside0.mk (blk_drew BK892.out)
  have n1_ := Aside0.mk (blk_drew BK893.out)
  have n2_ := Aside0.mk (below_drew1 HB.out)
  clear BK892
  clear BK893
  clear HB
  have BK892 := n0_
  have BK893 := n1_
  have HB := n2_
  clear n0_ n1_ n2_
  refine start_ (n := 13) (S := fun w' => w'.cell? ⟨gb892, 0, none⟩ = some (.int .i64 a0_0) ∧ w'.cell? ⟨gb892, 1, none⟩ = some (.int .i64 a0_1) ∧ w'.cell? ⟨gb892, 2, none⟩ = some (.int .i64 a0_2) ∧ w'.cell? ⟨gb892, 3, none⟩ = some (.slice A0_3 l0_3.length c0_3)) (ds := []) #[false, false, false, false, false, false, false, false, false, false, false, false, false] (by kernel_rfl) rfl rfl ⟨(blk_cell BK892.out 0).trans rfl, (blk_cell BK892.out 1).trans rfl, (blk_cell BK892.out 2).trans rfl, (blk_cell BK892.out 3).trans rfl⟩ (fun hHeld => ?_); refine with_tabW impl_FromMatrix.tab3 impl_FromMatrix.bits3 (fun HT_ HW_ => ?_)
  generalize w10.drew = w11 at BK892 BK893 HB hHeld ⊢
  refine Hof.pu 0 10 HT_ ?_
  refine Hof.pu 2 12 HT_ ?_
  refine Hof.pu 4 14 HT_ ?_
  refine Hof.tk 1 11 HT_ HW_ hHeld ?_
  refine Hof.tk 3 13 HT_ HW_ hHeld ?_
  refine join_ (σ := Value × Value × Nat) 2 #[true, true, true, true, true, true, true, true, true, true, true, false, false] (fun s_ => [(15, s_.1), (16, .tuple #[.agg #[.int .i64 t898, s_.2.1], .bool t902]), (3, .pointer (some ⟨s_.2.2, 0, none⟩)), (9, .tuple #[.agg #[.int .i64 t898, s_.2.1], .bool t902]), (17, .agg #[.int .i64 t898, s_.2.1]), (18, .bool t902)]) (fun s_ w' => (w'.cell? ⟨gb892, 0, none⟩ = some (.int .i64 a0_0) ∧ w'.cell? ⟨gb892, 1, none⟩ = some (.int .i64 a0_1) ∧ w'.cell? ⟨gb892, 2, none⟩ = some (.int .i64 a0_2) ∧ w'.cell? ⟨gb892, 3, none⟩ = some (.slice A0_3 l0_3.length c0_3)) ∧ (Kd.R (Kd.int .i64) 3 w' w.heap.size (fun k_ => some k_ ≠ (s_.2.1 : Value).ownBlock) s_.1 t895) ∧ (Kd.R (Kd.int .i64) 3 w' w.heap.size (fun k_ => some k_ ≠ (s_.1 : Value).ownBlock) s_.2.1 t899) ∧ (w'.heap[gb892]? = some (.cells #[.int .i64 a0_0, .int .i64 a0_1, .int .i64 a0_2, .slice A0_3 l0_3.length c0_3] 49 (0, 0))) ∧ (w'.heap[gb893]? = some (.cells #[.int .i64 0, .slice none 0 0] 35 (0, 0))) ∧ (w'.heap[s_.2.2]? = some (.cells #[.int .i64 0, .slice none 0 0] 35 (0, 0))) ∧ (w.heap.size ≤ s_.2.2) ∧ (w.heap.size ≤ s_.2.2) ∧ (gb892 ≠ s_.2.2) ∧ (s_.2.2 ≠ gb892) ∧ (gb893 ≠ s_.2.2) ∧ (s_.2.2 ≠ gb893) ∧ (Below w.heap.size w w')) ?_ ?_
  rotate_left
  ·intro hCont
   refine two_ (i := 5) (j := 10) (Ni := some 15) (Nj := some 3) #[true, true, true, true, true, true, false, false, false, false, false, false, false] #[true, true, true, true, true, false, false, false, false, false, true, false, false] rfl rfl rfl rfl (two_of HT_.out (by kernel_rfl)) (by decide) (by decide) (fun K hK => ?_) (fun K hK => ?_)
   ·skip
    refine goes_ Try.func69 (by kernel_rfl) rfl #[.int .i64 a0_2, .func (.func 149) #[] #[.pointer (some ⟨gb892, 0, none⟩)]] (by rfl) rfl rfl (by (try simp only [List.map_toArray, List.map_cons, List.map_nil]); first | done | rfl) ?_
    with_reducible refine (impl_setsOf.calls k a0_2 (.func (.func 149) #[] #[.pointer (some ⟨gb892, 0, none⟩)]) (fun s => impl_FromMatrix_1.f k a0_0 a0_1 a0_2 l0_3 s) t895 _ (impl_FromMatrix_1.fun1 k a0_0 a0_1 a0_2 _ c0_3 l0_3 gb892 _ BK892.out (Kd.C_below HR0_3.out HB.out) HC0_3.out) A4.out).mono ?_
    rintro e w12 ⟨v896, rfl, ho0, hb⟩
    refine ⟨_, rfl, ?_⟩
    have n0_ := Aside0.mk (Kd.R_lower ho0 (below_size (Hof.Lw HB.out)))
    have n1_ := Hof.bb BK892 hb
    have n2_ := Hof.bb BK893 hb
    have n3_ := Hof.lb HB hb
    clear BK892
    clear BK893
    clear HB
    have HO897 := n0_
    have BK892 := n1_
    have BK893 := n2_
    have HB := n3_
    clear n0_ n1_ n2_ n3_
    (try clear hb)
    (try clear hb2)
    (try clear hk)
    (try clear hi)
    (try clear ho0)
    obtain ⟨Ao13, co13, eo13⟩ := Kd.R_slice HO897.out
    (first | subst eo13 | (injection eo13 with f1_ f2_ f3_; have f4_ := f1_.symm; have f5_ := f3_.symm; clear f1_ f2_ f3_; subst f4_; subst f5_))
    refine hK.out _ _ ⟨(blk_cell BK892.out 0).trans rfl, (blk_cell BK892.out 1).trans rfl, (blk_cell BK892.out 2).trans rfl, (blk_cell BK892.out 3).trans rfl⟩ (fun hHeld => ?_)
    clear hK K
    refine norm_ (a' := ?_) ?_ ?_
    rotate_left
    ·show Act.put _ (some 15) _ = _
     simp only [Act.put, List.setIfInBounds_toArray, List.set_cons_zero, List.set_cons_succ, i64_w, i32_w]
     rfl
    refine two_ (i := 6) (j := 10) (Ni := some 16) (Nj := some 3) #[true, true, true, true, true, true, true, false, false, false, false, false, false] #[true, true, true, true, true, true, false, false, false, false, true, false, false] rfl rfl rfl rfl (two_of HT_.out (by kernel_rfl)) (by decide) (by decide) (fun K hK => ?_) (fun K hK => ?_)
    ·skip
     refine goes_ Try.func68 (by kernel_rfl) rfl #[.int .i64 a0_2, .slice Ao13 t895.length co13] (by rfl) rfl rfl (by (try simp only [List.map_toArray, List.map_cons, List.map_nil]); first | done | rfl) ?_
     with_reducible refine (impl_fromIndependent.calls k a0_2 _ _ t895 t898 t899 t902 _ ?side1 ?side2 A5.out).mono ?_
     (case side1 => exact Hof.Cw ((Kd.R_reads' HO897.out).2.2))
     (case side2 => exact (Kd.R_reads' HO897.out).2.1)
     rintro e w14 ⟨v900, rfl, ho0, hb⟩
     refine ⟨_, rfl, ?_⟩
     have n0_ := Aside0.mk (Kd.R_elder' (Hof.Rw HO897.out) (Kd.R_base ho0) hb)
     have n1_ := Aside0.mk (Kd.R_lower (Kd.R_new' ho0 (Kd.R_lt (Hof.Rw HO897.out))) (below_size (Hof.Lw HB.out)))
     have n2_ := Hof.bb BK892 hb
     have n3_ := Hof.bb BK893 hb
     have n4_ := Hof.lb HB hb
     clear HO897
     clear BK892
     clear BK893
     clear HB
     have HO897 := n0_
     have HO901 := n1_
     have BK892 := n2_
     have BK893 := n3_
     have HB := n4_
     clear n0_ n1_ n2_ n3_ n4_
     (try clear hb)
     (try clear hb2)
     (try clear hk)
     (try clear hi)
     (try clear ho0)
     refine hK.out _ _ ⟨(blk_cell BK892.out 0).trans rfl, (blk_cell BK892.out 1).trans rfl, (blk_cell BK892.out 2).trans rfl, (blk_cell BK892.out 3).trans rfl⟩ (fun hHeld => ?_)
     clear hK K
     refine norm_ (a' := ?_) ?_ ?_
     rotate_left
     ·show Act.put _ (some 16) _ = _
      simp only [Act.put, List.setIfInBounds_toArray, List.set_cons_zero, List.set_cons_succ, i64_w, i32_w]
      rfl
     refine Hof.pu 7 9 HT_ ?_
     refine Hof.pu 8 17 HT_ ?_
     refine Hof.pu 9 18 HT_ ?_
     refine one_ (i := 10) (N := some 3) #[true, true, true, true, true, true, true, true, true, true, true, false, false] rfl rfl (one_of HT_.out (by kernel_rfl)) (by decide) (fun K hK => ?_)
     refine box_step ?hg (N := 3) ?hd (cs := #[.int .i64 0, .slice none 0 0]) (t := 35) ?hr ?_; (case hd => rfl); (case hg => rfl); (case hr => first | (go_simp; done) | (go_simp; rfl))
     intro gb903 hg w15 hbox hb
     have n0_ := Hof.rb HO897 hb
     have n1_ := Hof.rb HO901 hb
     have n2_ := Hof.bb BK892 hb
     have n3_ := Hof.bb BK893 hb
     have n4_ := Hof.lb HB hb
     have n5_ := Aside0.mk hbox
     have n6_ := Hof.gw hg HB
     have n7_ := Hof.gw hg HB
     have n8_ := Hof.nl hg BK892
     have n9_ := Hof.ng hg BK892
     have n10_ := Hof.nl hg BK893
     have n11_ := Hof.ng hg BK893
     clear HO897
     clear HO901
     clear BK892
     clear BK893
     clear HB
     have HO897 := n0_
     have HO901 := n1_
     have BK892 := n2_
     have BK893 := n3_
     have HB := n4_
     have BK903 := n5_
     have GW903 := n6_
     have GE903 := n7_
     have NB892_903 := n8_
     have NB903_892 := n9_
     have NB893_903 := n10_
     have NB903_893 := n11_
     clear n0_ n1_ n2_ n3_ n4_ n5_ n6_ n7_ n8_ n9_ n10_ n11_
     clear hb hbox hg
     refine hK.out _ _ ⟨(blk_cell BK892.out 0).trans rfl, (blk_cell BK892.out 1).trans rfl, (blk_cell BK892.out 2).trans rfl, (blk_cell BK892.out 3).trans rfl⟩ (fun hHeld => ?_)
     clear hK K
     refine norm_ (a' := ?_) ?_ ?_
     rotate_left
     ·show Act.put _ (some 3) _ = _
      simp only [Act.put, List.setIfInBounds_toArray, List.set_cons_zero, List.set_cons_succ, i64_w, i32_w]
      rfl
     exact norm_ (by simp only [putAll, Act.put, List.setIfInBounds_toArray, List.set_cons_zero, List.set_cons_succ]) (hCont (.slice Ao13 t895.length co13, v900, gb903) _ ⟨hHeld, (Hof.Rw (Kd.R_mono HO897.out (fun _ hk => hk.2))), (Hof.Rw (Kd.R_mono HO901.out (fun _ hk => hk.2))), (Hof.Bw BK892.out), (Hof.Bw BK893.out), (Hof.Bw BK903.out), GW903.out, GE903.out, NB892_903.out, NB903_892.out, NB893_903.out, NB903_893.out, (Hof.Lw HB.out)⟩)
    ·skip
     refine box_step ?hg (N := 3) ?hd (cs := #[.int .i64 0, .slice none 0 0]) (t := 35) ?hr ?_; (case hd => rfl); (case hg => rfl); (case hr => first | (go_simp; done) | (go_simp; rfl))
     intro gb903 hg w13 hbox hb
     have n0_ := Hof.rb HO897 hb
     have n1_ := Hof.bb BK892 hb
     have n2_ := Hof.bb BK893 hb
     have n3_ := Hof.lb HB hb
     have n4_ := Aside0.mk hbox
     have n5_ := Hof.gw hg HB
     have n6_ := Hof.gw hg HB
     have n7_ := Hof.nl hg BK892
     have n8_ := Hof.ng hg BK892
     have n9_ := Hof.nl hg BK893
     have n10_ := Hof.ng hg BK893
     clear HO897
     clear BK892
     clear BK893
     clear HB
     have HO897 := n0_
     have BK892 := n1_
     have BK893 := n2_
     have HB := n3_
     have BK903 := n4_
     have GW903 := n5_
     have GE903 := n6_
     have NB892_903 := n7_
     have NB903_892 := n8_
     have NB893_903 := n9_
     have NB903_893 := n10_
     clear n0_ n1_ n2_ n3_ n4_ n5_ n6_ n7_ n8_ n9_ n10_
     clear hb hbox hg
     obtain ⟨Ao14, co14, eo14⟩ := Kd.R_slice HO897.out
     (first | subst eo14 | (injection eo14 with f1_ f2_ f3_; have f4_ := f1_.symm; have f5_ := f3_.symm; clear f1_ f2_ f3_; subst f4_; subst f5_))
     refine hK.out _ _ ⟨(blk_cell BK892.out 0).trans rfl, (blk_cell BK892.out 1).trans rfl, (blk_cell BK892.out 2).trans rfl, (blk_cell BK892.out 3).trans rfl⟩ (fun hHeld => ?_)
     clear hK K
     refine norm_ (a' := ?_) ?_ ?_
     rotate_left
     ·show Act.put _ (some 3) _ = _
      simp only [Act.put, List.setIfInBounds_toArray, List.set_cons_zero, List.set_cons_succ, i64_w, i32_w]
      rfl
     refine one_ (i := 6) (N := some 16) #[true, true, true, true, true, true, true, false, false, false, true, false, false] rfl rfl (one_of HT_.out (by kernel_rfl)) (by decide) (fun K hK => ?_)
     refine goes_ Try.func68 (by kernel_rfl) rfl #[.int .i64 a0_2, .slice Ao14 t895.length co14] (by rfl) rfl rfl (by (try simp only [List.map_toArray, List.map_cons, List.map_nil]); first | done | rfl) ?_
     with_reducible refine (impl_fromIndependent.calls k a0_2 _ _ t895 t898 t899 t902 _ ?side1 ?side2 A5.out).mono ?_
     (case side1 => exact Hof.Cw ((Kd.R_reads' HO897.out).2.2))
     (case side2 => exact (Kd.R_reads' HO897.out).2.1)
     rintro e w15 ⟨v900, rfl, ho0, hb⟩
     refine ⟨_, rfl, ?_⟩
     have n0_ := Aside0.mk (Kd.R_elder' (Hof.Rw HO897.out) (Kd.R_base ho0) hb)
     have n1_ := Aside0.mk (Kd.R_lower (Kd.R_new' ho0 (Kd.R_lt (Hof.Rw HO897.out))) (below_size (Hof.Lw HB.out)))
     have n2_ := Hof.bb BK892 hb
     have n3_ := Hof.bb BK893 hb
     have n4_ := Hof.bb BK903 hb
     have n5_ := Hof.lb HB hb
     clear HO897
     clear BK892
     clear BK893
     clear BK903
     clear HB
     have HO897 := n0_
     have HO901 := n1_
     have BK892 := n2_
     have BK893 := n3_
     have BK903 := n4_
     have HB := n5_
     clear n0_ n1_ n2_ n3_ n4_ n5_
     (try clear hb)
     (try clear hb2)
     (try clear hk)
     (try clear hi)
     (try clear ho0)
     refine hK.out _ _ ⟨(blk_cell BK892.out 0).trans rfl, (blk_cell BK892.out 1).trans rfl, (blk_cell BK892.out 2).trans rfl, (blk_cell BK892.out 3).trans rfl⟩ (fun hHeld => ?_)
     clear hK K
     refine norm_ (a' := ?_) ?_ ?_
     rotate_left
     ·show Act.put _ (some 16) _ = _
      simp only [Act.put, List.setIfInBounds_toArray, List.set_cons_zero, List.set_cons_succ, i64_w, i32_w]
      rfl
     refine Hof.pu 7 9 HT_ ?_
     refine Hof.pu 8 17 HT_ ?_
     refine Hof.pu 9 18 HT_ ?_
     exact norm_ (by simp only [putAll, Act.put, List.setIfInBounds_toArray, List.set_cons_zero, List.set_cons_succ]) (hCont (.slice Ao14 t895.length co14, v900, gb903) _ ⟨hHeld, (Hof.Rw (Kd.R_mono HO897.out (fun _ hk => hk.2))), (Hof.Rw (Kd.R_mono HO901.out (fun _ hk => hk.2))), (Hof.Bw BK892.out), (Hof.Bw BK893.out), (Hof.Bw BK903.out), GW903.out, GE903.out, NB892_903.out, NB903_892.out, NB893_903.out, NB903_893.out, (Hof.Lw HB.out)⟩)
   ·skip
    refine box_step ?hg (N := 3) ?hd (cs := #[.int .i64 0, .slice none 0 0]) (t := 35) ?hr ?_; (case hd => rfl); (case hg => rfl); (case hr => first | (go_simp; done) | (go_simp; rfl))
    intro gb903 hg w12 hbox hb
    have n0_ := Hof.bb BK892 hb
    have n1_ := Hof.bb BK893 hb
    have n2_ := Hof.lb HB hb
    have n3_ := Aside0.mk hbox
    have n4_ := Hof.gw hg HB
    have n5_ := Hof.gw hg HB
    have n6_ := Hof.nl hg BK892
    have n7_ := Hof.ng hg BK892
    have n8_ := Hof.nl hg BK893
    have n9_ := Hof.ng hg BK893
    clear BK892
    clear BK893
    clear HB
    have BK892 := n0_
    have BK893 := n1_
    have HB := n2_
    have BK903 := n3_
    have GW903 := n4_
    have GE903 := n5_
    have NB892_903 := n6_
    have NB903_892 := n7_
    have NB893_903 := n8_
    have NB903_893 := n9_
    clear n0_ n1_ n2_ n3_ n4_ n5_ n6_ n7_ n8_ n9_
    clear hb hbox hg
    refine hK.out _ _ ⟨(blk_cell BK892.out 0).trans rfl, (blk_cell BK892.out 1).trans rfl, (blk_cell BK892.out 2).trans rfl, (blk_cell BK892.out 3).trans rfl⟩ (fun hHeld => ?_)
    clear hK K
    refine norm_ (a' := ?_) ?_ ?_
    rotate_left
    ·show Act.put _ (some 3) _ = _
     simp only [Act.put, List.setIfInBounds_toArray, List.set_cons_zero, List.set_cons_succ, i64_w, i32_w]
     rfl
    refine one_ (i := 5) (N := some 15) #[true, true, true, true, true, true, false, false, false, false, true, false, false] rfl rfl (one_of HT_.out (by kernel_rfl)) (by decide) (fun K hK => ?_)
    refine goes_ Try.func69 (by kernel_rfl) rfl #[.int .i64 a0_2, .func (.func 149) #[] #[.pointer (some ⟨gb892, 0, none⟩)]] (by rfl) rfl rfl (by (try simp only [List.map_toArray, List.map_cons, List.map_nil]); first | done | rfl) ?_
    with_reducible refine (impl_setsOf.calls k a0_2 (.func (.func 149) #[] #[.pointer (some ⟨gb892, 0, none⟩)]) (fun s => impl_FromMatrix_1.f k a0_0 a0_1 a0_2 l0_3 s) t895 _ (impl_FromMatrix_1.fun1 k a0_0 a0_1 a0_2 _ c0_3 l0_3 gb892 _ BK892.out (Kd.C_below HR0_3.out HB.out) HC0_3.out) A4.out).mono ?_
    rintro e w13 ⟨v896, rfl, ho0, hb⟩
    refine ⟨_, rfl, ?_⟩
    have n0_ := Aside0.mk (Kd.R_lower ho0 (below_size (Hof.Lw HB.out)))
    have n1_ := Hof.bb BK892 hb
    have n2_ := Hof.bb BK893 hb
    have n3_ := Hof.bb BK903 hb
    have n4_ := Hof.lb HB hb
    clear BK892
    clear BK893
    clear BK903
    clear HB
    have HO897 := n0_
    have BK892 := n1_
    have BK893 := n2_
    have BK903 := n3_
    have HB := n4_
    clear n0_ n1_ n2_ n3_ n4_
    (try clear hb)
    (try clear hb2)
    (try clear hk)
    (try clear hi)
    (try clear ho0)
    obtain ⟨Ao14, co14, eo14⟩ := Kd.R_slice HO897.out
    (first | subst eo14 | (injection eo14 with f1_ f2_ f3_; have f4_ := f1_.symm; have f5_ := f3_.symm; clear f1_ f2_ f3_; subst f4_; subst f5_))
    refine hK.out _ _ ⟨(blk_cell BK892.out 0).trans rfl, (blk_cell BK892.out 1).trans rfl, (blk_cell BK892.out 2).trans rfl, (blk_cell BK892.out 3).trans rfl⟩ (fun hHeld => ?_)
    clear hK K
    refine norm_ (a' := ?_) ?_ ?_
    rotate_left
    ·show Act.put _ (some 15) _ = _
     simp only [Act.put, List.setIfInBounds_toArray, List.set_cons_zero, List.set_cons_succ, i64_w, i32_w]
     rfl
    refine one_ (i := 6) (N := some 16) #[true, true, true, true, true, true, true, false, false, false, true, false, false] rfl rfl (one_of HT_.out (by kernel_rfl)) (by decide) (fun K hK => ?_)
    refine goes_ Try.func68 (by kernel_rfl) rfl #[.int .i64 a0_2, .slice Ao14 t895.length co14] (by rfl) rfl rfl (by (try simp only [List.map_toArray, List.map_cons, List.map_nil]); first | done | rfl) ?_
    with_reducible refine (impl_fromIndependent.calls k a0_2 _ _ t895 t898 t899 t902 _ ?side1 ?side2 A5.out).mono ?_
    (case side1 => exact Hof.Cw ((Kd.R_reads' HO897.out).2.2))
    (case side2 => exact (Kd.R_reads' HO897.out).2.1)
    rintro e w15 ⟨v900, rfl, ho0, hb⟩
    refine ⟨_, rfl, ?_⟩
    have n0_ := Aside0.mk (Kd.R_elder' (Hof.Rw HO897.out) (Kd.R_base ho0) hb)
    have n1_ := Aside0.mk (Kd.R_lower (Kd.R_new' ho0 (Kd.R_lt (Hof.Rw HO897.out))) (below_size (Hof.Lw HB.out)))
    have n2_ := Hof.bb BK892 hb
    have n3_ := Hof.bb BK893 hb
    have n4_ := Hof.bb BK903 hb
    have n5_ := Hof.lb HB hb
    clear HO897
    clear BK892
    clear BK893
    clear BK903
    clear HB
    have HO897 := n0_
    have HO901 := n1_
    have BK892 := n2_
    have BK893 := n3_
    have BK903 := n4_
    have HB := n5_
    clear n0_ n1_ n2_ n3_ n4_ n5_
    (try clear hb)
    (try clear hb2)
    (try clear hk)
    (try clear hi)
    (try clear ho0)
    refine hK.out _ _ ⟨(blk_cell BK892.out 0).trans rfl, (blk_cell BK892.out 1).trans rfl, (blk_cell BK892.out 2).trans rfl, (blk_cell BK892.out 3).trans rfl⟩ (fun hHeld => ?_)
    clear hK K
    refine norm_ (a' := ?_) ?_ ?_
    rotate_left
    ·show Act.put _ (some 16) _ = _
     simp only [Act.put, List.setIfInBounds_toArray, List.set_cons_zero, List.set_cons_succ, i64_w, i32_w]
     rfl
    refine Hof.pu 7 9 HT_ ?_
    refine Hof.pu 8 17 HT_ ?_
    refine Hof.pu 9 18 HT_ ?_
    exact norm_ (by simp only [putAll, Act.put, List.setIfInBounds_toArray, List.set_cons_zero, List.set_cons_succ]) (hCont (.slice Ao14 t895.length co14, v900, gb903) _ ⟨hHeld, (Hof.Rw (Kd.R_mono HO897.out (fun _ hk => hk.2))), (Hof.Rw (Kd.R_mono HO901.out (fun _ hk => hk.2))), (Hof.Bw BK892.out), (Hof.Bw BK893.out), (Hof.Bw BK903.out), GW903.out, GE903.out, NB892_903.out, NB903_892.out, NB893_903.out, NB903_893.out, (Hof.Lw HB.out)⟩)
  rintro ⟨v896, v900, gb903⟩ w16 ⟨hS_, h0_, h1_, h2_, h3_, h4_, h5_, h6_, h7_, h8_, h9_, h10_, h11_⟩
  have n0_ : Aside0 (Kd.R (Kd.int .i64) 3 w16 w.heap.size (fun k_ => some k_ ≠ (v900 : Value).ownBlock) v896 t895) := ⟨h0_⟩
  have n1_ : Aside0 (Kd.R (Kd.int .i64) 3 w16 w.heap.size (fun k_ => some k_ ≠ (v896 : Value).ownBlock) v900 t899) := ⟨h1_⟩
  have n2_ : Aside0 (w16.heap[gb892]? = some (.cells #[.int .i64 a0_0, .int .i64 a0_1, .int .i64 a0_2, .slice A0_3 l0_3.length c0_3] 49 (0, 0))) := ⟨h2_⟩
  have n3_ : Aside0 (w16.heap[gb893]? = some (.cells #[.int .i64 0, .slice none 0 0] 35 (0, 0))) := ⟨h3_⟩
  have n4_ : Aside0 (w16.heap[gb903]? = some (.cells #[.int .i64 0, .slice none 0 0] 35 (0, 0))) := ⟨h4_⟩
  have n5_ : Aside0 (w.heap.size ≤ gb903) := ⟨h5_⟩
  have n6_ : Aside0 (w.heap.size ≤ gb903) := ⟨h6_⟩
  have n7_ : Aside0 (gb892 ≠ gb903) := ⟨h7_⟩
  have n8_ : Aside0 (gb903 ≠ gb892) := ⟨h8_⟩
  have n9_ : Aside0 (gb893 ≠ gb903) := ⟨h9_⟩
  have n10_ : Aside0 (gb903 ≠ gb893) := ⟨h10_⟩
  have n11_ : Aside0 (Below w.heap.size w w16) := ⟨h11_⟩
  clear BK892
  clear BK893
  clear HB
  clear h0_ h1_ h2_ h3_ h4_ h5_ h6_ h7_ h8_ h9_ h10_ h11_
  have HO897 := n0_
  have HO901 := n1_
  have BK892 := n2_
  have BK893 := n3_
  have BK903 := n4_
  have GW903 := n5_
  have GE903 := n6_
  have NB892_903 := n7_
  have NB903_892 := n8_
  have NB893_903 := n9_
  have NB903_893 := n10_
  have HB := n11_
  clear n0_ n1_ n2_ n3_ n4_ n5_ n6_ n7_ n8_ n9_ n10_ n11_
  have hHeld : w16.cell? ⟨gb892, 0, none⟩ = some (.int .i64 a0_0) ∧ w16.cell? ⟨gb892, 1, none⟩ = some (.int .i64 a0_1) ∧ w16.cell? ⟨gb892, 2, none⟩ = some (.int .i64 a0_2) ∧ w16.cell? ⟨gb892, 3, none⟩ = some (.slice A0_3 l0_3.length c0_3) := hS_
  obtain ⟨Ao18, co18, eo18⟩ := Kd.R_slice HO901.out
  (first | subst eo18 | (injection eo18 with f1_ f2_ f3_; have f4_ := f1_.symm; have f5_ := f3_.symm; clear f1_ f2_ f3_; subst f4_; subst f5_))
  refine norm_ (a' := ?_) ?_ ?_
  rotate_left
  ·simp only [putAll, Act.put, List.setIfInBounds_toArray, List.set_cons_zero, List.set_cons_succ]
   rfl
  refine one_ (i := 11) (N := none) #[true, true, true, true, true, true, true, true, true, true, true, true, false] rfl rfl (one_of HT_.out (by kernel_rfl)) (by decide) (fun K hK => ?_)
  have hs17 : w16.cell? ⟨gb903, 0, none⟩ = some (.int .i64 0) := (blk_cell BK903.out 0).trans rfl
  have hfs17 := blk_frozen BK903.out 0
  have hns17_0 := NB892_903.out
  have hns17_1 := NB893_903.out
  have hms17_0 := NB903_892.out
  have hms17_1 := NB903_893.out
  have hs19 : w16.cell? ⟨gb903, 1, none⟩ = some (.slice none 0 0) := (blk_cell BK903.out 1).trans rfl
  have hfs19 := blk_frozen BK903.out 1
  have hns19_0 := NB892_903.out
  have hns19_1 := NB893_903.out
  have hms19_0 := NB903_892.out
  have hms19_1 := NB903_893.out
  refine skip_ (w1 := ?_) (by rfl) rfl ?_ ?_
  rotate_left
  ·go_simp
   rfl
  refine hK.out _ _ ⟨((cell_far (p := ⟨gb903, _, none⟩) NB892_903.out _).trans (((cell_far (p := ⟨gb903, _, none⟩) NB892_903.out _).trans (hHeld.1)))), ((cell_far (p := ⟨gb903, _, none⟩) NB892_903.out _).trans (((cell_far (p := ⟨gb903, _, none⟩) NB892_903.out _).trans (hHeld.2.1)))), ((cell_far (p := ⟨gb903, _, none⟩) NB892_903.out _).trans (((cell_far (p := ⟨gb903, _, none⟩) NB892_903.out _).trans (hHeld.2.2.1)))), ((cell_far (p := ⟨gb903, _, none⟩) NB892_903.out _).trans (((cell_far (p := ⟨gb903, _, none⟩) NB892_903.out _).trans (hHeld.2.2.2))))⟩ (fun hHeld => ?_)
  clear hK K
  refine Hof.pu 12 4 HT_ ?_
  refine done_ (done_of HT_.out (by kernel_rfl)) ?_
  have hnb20 := NB903_892.out
  have hnc20 := NB892_903.out
  have hnb21 := NB903_893.out
  have hnc21 := NB893_903.out
  obtain ⟨hcz22_0, hcz22_1, hfz22_0, hfz22_1⟩ := Hof.blk2 BK903.out
  obtain ⟨hcz23_0, hcz23_1, hfz23_0, hfz23_1⟩ := Hof.blk2 BK893.out
  try go_wp2
  refine bodyPost_ret (results_cell_row rfl _ _ gb893 35 #[.int .i64 t898, .slice Ao18 t899.length co18] (0, 0) _ rfl Hof.B Try.underlying35 rfl (by kernel_rfl)) rfl ?_
  exact ⟨_, Hof.E, by (with_reducible repeat (first | apply Kd.R_alloc | apply Kd.R_drewN | apply Kd.R_drew)); exact Kd.R_mono (Kd.R_far (p := ⟨gb893, 1, none⟩) (Kd.R_far (p := ⟨gb893, 0, none⟩) (Kd.R_far (p := ⟨gb903, 1, none⟩) (Kd.R_far (p := ⟨gb903, 0, none⟩) (Kd.R_types (Kd.R_types HO901.out BK903.out (by decide)) BK893.out (by decide)) (fun _ hk => hk.1.2) (.int .i64 t898)) (fun _ hk => hk.1.2) (.slice Ao18 t899.length co18)) (fun _ hk => hk.2) (.int .i64 t898)) (fun _ hk => hk.2) (.slice Ao18 t899.length co18)) (fun _ hk => trivial), Hof.L⟩
 ·replace c3 := Bool.eq_false_iff.mpr c3
  subst c3
  replace H : (some (0, ([] : List Int))) = some (r1, r2) := by rw [if_neg (show ¬ (false = true) by decide)] at H; exact H
  simp only [Option.some.injEq, Prod.mk.injEq] at H
  obtain ⟨rfl, rfl⟩ := H
  go_enter Try.func124, Try.ntmps124
  go_wp2_with (first | (refine Hof.bx 1 #[.int .i64 a0_0, .int .i64 a0_1, .int .i64 a0_2, .slice A0_3 l0_3.length c0_3] 49 ?_; intro gb892 hg w24 hbox hb; have BK892 := Aside0.mk hbox; have GW892 := Hof.gw hg HB; have GE892 := Hof.gw hg HB; replace HB := Hof.lb HB hb; clear hb hbox hg) | (refine Hof.bx 2 #[.int .i64 0, .slice none 0 0] 35 ?_; intro gb893 hg w25 hbox hb; have BK893 := Aside0.mk hbox; have GW893 := Hof.gw hg HB; have GE893 := Hof.gw hg HB; replace HB := Hof.lb HB hb; have NB892_893 := Hof.nl hg BK892; have NB893_892 := Hof.ng hg BK892; replace BK892 := Hof.bb BK892 hb; clear hb hbox hg; have hnb26 := NB892_893.out; have hnc26 := NB893_892.out; obtain ⟨hcz27_0, hcz27_1, hcz27_2, hcz27_3, hfz27_0, hfz27_1, hfz27_2, hfz27_3⟩ := Hof.blk4 BK892.out) | (refine Hof.gl (some 6) Try.func148 #[.agg #[.int .i64 a0_0, .int .i64 a0_1, .int .i64 a0_2, .slice A0_3 l0_3.length c0_3]] ?_; (with_reducible refine (impl_IsMatrix.calls k a0_0 a0_1 a0_2 _ _ l0_3 false _ ?side1 ?side2 A2.out).mono ?_); (case side1 => exact Hof.Cw (Kd.C_below HR0_3.out HB.out)); (case side2 => exact HC0_3.out); rintro e w28 ⟨rfl, hb⟩; refine ⟨_, rfl, ?_⟩; replace BK892 := Hof.bb BK892 hb; replace BK893 := Hof.bb BK893 hb; replace HB := Hof.lb HB hb; (try clear hb); (try clear hb2); (try clear hk); (try clear hi); obtain ⟨hcz29_0, hcz29_1, hfz29_0, hfz29_1⟩ := Hof.blk2 BK893.out))
  refine bodyPost_ret (results_cell_row rfl _ _ gb893 35 #[.int .i64 0, .slice none 0 0] (0, 0) _ rfl Hof.B Try.underlying35 rfl (by kernel_rfl)) rfl ?_
  exact ⟨_, Hof.E, Hof.N, Hof.L⟩
mutual
def impl_fillCells.l0 : Nat → List Int → Int → Int → List Int → Int → Int → Int → List Int → Option (Bool × List Int)
 | 0, _, _, _, _, _, _, _, _ => none
 | k + 1, x2, x7, x942000, x942001, x943000, x943001, x943002, x943003 => if x7 < x943000 then (if 0 < (x2.length : Int) then (if 0 ≤ (rd x2 0) then (if (rd x2 0) < (x943003.length : Int) then ((impl_fillCells.f k x942000 x942001 x943000 x943001 x943002 (x943003.set ((rd x2 0) : Int).toNat x7) (x2.drop 1)).bind fun bt950 => (if bt950.1 = true then (some (true, bt950.2)) else (impl_fillCells.l0 k x2 (wrap64 (x7 + 1)) x942000 x942001 x943000 x943001 x943002 bt950.2))) else (none)) else (none)) else (none)) else (some (false, x943003))
def impl_fillCells.f : Nat → Int → List Int → Int → Int → Int → List Int → List Int → Option (Bool × List Int)
 | 0, _, _, _, _, _, _, _ => none
 | k + 1, a0_0, l0_1, a1_0, a1_1, a1_2, l1_3, l2 => if (l2.length : Int) = 0 then ((impl_FromMatrix.f k a1_0 a1_1 a1_2 l1_3).bind fun bt943 => ((impl_EqualMatroid.f k bt943.1 bt943.2 a0_0 l0_1).bind fun t947 => (some (t947, l1_3)))) else (impl_fillCells.l0 k l2 1 a0_0 l0_1 a1_0 a1_1 a1_2 l1_3)
end
def impl_fillCells.T6 : Bool × List (List Nat × List Nat) := (true, [([], []), ([0], [0]), ([], []), ([2], [2]), ([3], [3]), ([], []), ([1, 4, 0, 1, 2, 3, 4, 5], [1, 4]), ([6, 5, 0, 1, 2, 3, 4, 5], [5, 6])])
def impl_fillCells.B6 : List Nat := [0, 1, 0, 4, 12, 0, 63, 127]
theorem impl_fillCells.tab6 : rtab .any (opsOf Try.f84 6) = impl_fillCells.T6 := by kernel_rfl
theorem impl_fillCells.bits6 : waitsOk impl_fillCells.T6.2 impl_fillCells.B6 = true := by kernel_rfl
set_option maxHeartbeats 8000000 in
set_option maxRecDepth 100000 in
theorem impl_fillCells.calls (k : Nat) : ∀ (a0_0 : Int) (A0_1 : Option Addr) (c0_1 : Nat) (l0_1 : List Int) (a1_0 : Int) (a1_1 : Int) (a1_2 : Int) (P1_3_ : Nat → Prop) (u9000_ : Value) (l1_3 : List Int) (A2 : Option Addr) (c2 : Nat) (l2 : List Int) (r1 : Bool) (r2 : List Int) (w0 w : World) (hB : Below w0.heap.size w0 w) (hr0_1 : ∀ W_, Kept w W_ (fun k_ => P1_3_ k_) → Kd.C (Kd.int .i64) W_ A0_1 l0_1.length l0_1) (hc0_1 : l0_1.length ≤ c0_1) (ho1_3 : Kd.R (Kd.int .i64) 3 w w0.heap.size P1_3_ u9000_ l1_3) (hr2 : ∀ W_, Kept w W_ (fun k_ => P1_3_ k_) → Kd.C (Kd.int .i64) W_ A2 l2.length l2) (hc2 : l2.length ≤ c2) (h : impl_fillCells.f k a0_0 l0_1 a1_0 a1_1 a1_2 l1_3 l2 = some (r1, r2)),
  Calls Try.prog 84 #[.agg #[.int .i64 a0_0, .slice A0_1 l0_1.length c0_1], .agg #[.int .i64 a1_0, .int .i64 a1_1, .int .i64 a1_2, u9000_], .slice A2 l2.length c2] w fun e w' => e = .returned (.bool r1) ∧ Kd.R (Kd.int .i64) 3 w' w0.heap.size (fun k_ => (P1_3_ k_ ∨ w.heap.size ≤ k_)) u9000_ r2 ∧ Below w0.heap.size w0 w' ∧ Kept w w' (fun k_ => P1_3_ k_) := by
 induction k using Nat.strongRecOn with
 | _ k ih =>
 intro a0_0 A0_1 c0_1 l0_1 a1_0 a1_1 a1_2 P1_3_ u9000_ l1_3 A2 c2 l2 r1 r2 w0 w hB hr0_1 hc0_1 ho1_3 hr2 hc2 h
 cases k with
 | zero => exact absurd h (by simp [impl_fillCells.f])
 | succ k =>
 simp only [impl_fillCells.f] at h
 have hu35 := Try.underlying35
 have hu49 := Try.underlying49
 have HR0_1 := Aside0.mk hr0_1
 have HC0_1 := Aside0.mk hc0_1
 clear hr0_1 hc0_1
 have HO1_3 := Aside0.mk (show Kd.R (Kd.int .i64) 3 w w0.heap.size (fun k_ => (P1_3_ k_ ∨ w.heap.size ≤ k_)) u9000_ l1_3 from Kd.R_mono ho1_3 (fun k_ hk => (.inl hk)))
 have HR2 := Aside0.mk hr2
 have HC2 := Aside0.mk hc2
 clear hr2 hc2
 have HK := Aside0.mk (Kept.refl w (fun k_ => P1_3_ k_))
 have HW0 := Aside0.mk hB.size
 have HB := Aside0.mk hB
 clear hB
 have H : (if (l2.length : Int) = 0 then ((impl_FromMatrix.f k a1_0 a1_1 a1_2 l1_3).bind fun bt943 => ((impl_EqualMatroid.f k bt943.1 bt943.2 a0_0 l0_1).bind fun t947 => (some (t947, l1_3)))) else (impl_fillCells.l0 k l2 1 a0_0 l0_1 a1_0 a1_1 a1_2 l1_3)) = some (r1, r2) := h
 clear h
 by_cases c4 : (l2.length : Int) = 0
 ·rw [if_pos c4] at H
  have c4b0 : ((l2.length : Int) == 0) = true := beq_iff_eq.mpr c4
  have c4b1 : ((l2.length : Int) != 0) = false := bne_eq_false_iff_eq.mpr c4
  clear c4
  obtain ⟨⟨t943, t944⟩, A5, H⟩ := Hof.be H
  (try dsimp only at H)
  obtain ⟨t947, A6, H⟩ := Hof.be H
  (try dsimp only at H)
  simp only [Option.some.injEq, Prod.mk.injEq] at H
  obtain ⟨rfl, rfl⟩ := H
  go_enter Try.func84, Try.ntmps84
  try go_wp2_with (first | (refine Hof.bx 3 #[.int .i64 a0_0, .slice A0_1 l0_1.length c0_1] 35 ?_; intro gb941 hg w7 hbox hb; replace HO1_3 := Hof.rb HO1_3 hb; have BK941 := Aside0.mk hbox; have GW941 := Aside0.mk ((by rw [hg]; exact (by first | exact HK.out.1 | exact (show Kept w _ (fun k_ => P1_3_ k_) from by repeat (first | (with_reducible first | exact HK.out | apply Kept.alloc | apply Kept.drewN | apply Kept.drew) | exact HK.out)).1) : w.heap.size ≤ gb941)); replace HK := Aside0.mk (Kept.below (S := (fun k_ => P1_3_ k_)) (by repeat (first | (with_reducible first | exact HK.out | apply Kept.alloc | apply Kept.drewN | apply Kept.drew) | exact HK.out)) hb); have GE941 := Hof.gw hg HB; replace HB := Hof.lb HB hb; clear hb hbox hg; obtain ⟨Ao8, co8, eo8⟩ := Kd.R_slice HO1_3.out; subst eo8) | (refine Hof.bx 4 #[.int .i64 a1_0, .int .i64 a1_1, .int .i64 a1_2, .slice Ao8 l1_3.length co8] 49 ?_; intro gb942 hg w9 hbox hb; replace HO1_3 := Hof.rb HO1_3 hb; have BK942 := Aside0.mk hbox; have GW942 := Aside0.mk ((by rw [hg]; exact (by first | exact HK.out.1 | exact (show Kept w _ (fun k_ => P1_3_ k_) from by repeat (first | (with_reducible first | exact HK.out | apply Kept.alloc | apply Kept.drewN | apply Kept.drew | refine Kept.setCell ?_ (.inr GW941.out) _) | exact HK.out)).1) : w.heap.size ≤ gb942)); replace HK := Aside0.mk (Kept.below (S := (fun k_ => P1_3_ k_)) (by repeat (first | (with_reducible first | exact HK.out | apply Kept.alloc | apply Kept.drewN | apply Kept.drew | refine Kept.setCell ?_ (.inr GW941.out) _) | exact HK.out)) hb); have GE942 := Hof.gw hg HB; replace HB := Hof.lb HB hb; have NB941_942 := Hof.nl hg BK941; have NB942_941 := Hof.ng hg BK941; replace BK941 := Hof.bb BK941 hb; clear hb hbox hg))
  have n0_ := Aside0.mk (Kd.R_drew HO1_3.out)
  have n1_ := Aside0.mk (blk_drew BK941.out)
  have n2_ := Aside0.mk (blk_drew BK942.out)
  have n3_ := Aside0.mk (Kept.drew HK.out)
  have n4_ := Aside0.mk (below_drew1 HB.out)
  clear HO1_3
  clear BK941
  clear BK942
  clear HK
  clear HB
  have HO1_3 := n0_
  have BK941 := n1_
  have BK942 := n2_
  have HK := n3_
  have HB := n4_
  clear n0_ n1_ n2_ n3_ n4_
  refine start_ (n := 5) (S := fun w' => w'.cell? ⟨gb942, 0, none⟩ = some (.int .i64 a1_0) ∧ w'.cell? ⟨gb942, 1, none⟩ = some (.int .i64 a1_1) ∧ w'.cell? ⟨gb942, 2, none⟩ = some (.int .i64 a1_2) ∧ w'.cell? ⟨gb942, 3, none⟩ = some (.slice Ao8 l1_3.length co8) ∧ w'.cell? ⟨gb941, 0, none⟩ = some (.int .i64 a0_0) ∧ w'.cell? ⟨gb941, 1, none⟩ = some (.slice A0_1 l0_1.length c0_1)) (ds := []) #[false, false, false, false, false] (by kernel_rfl) rfl rfl ⟨(blk_cell BK942.out 0).trans rfl, (blk_cell BK942.out 1).trans rfl, (blk_cell BK942.out 2).trans rfl, (blk_cell BK942.out 3).trans rfl, (blk_cell BK941.out 0).trans rfl, (blk_cell BK941.out 1).trans rfl⟩ (fun hHeld => ?_)
  generalize w9.drew = w10 at HO1_3 BK941 BK942 HK HB hHeld ⊢
  refine take_ (i := 0) (N := some 11) (v := ?_) (a' := ?_) #[true, false, false, false, false] rfl rfl (by kernel_rfl) (fun _ _ _ h => h) (Or.inl ⟨by rfl, ?_⟩) hHeld ?_ ?_
  rotate_left
  ·rintro w' ⟨s0, s1, s2, s3, s4, s5⟩
   go_simp
   with_reducible rfl
  rotate_left
  ·simp only [Act.put, List.setIfInBounds_toArray, List.set_cons_zero, List.set_cons_succ, i64_w, i32_w]
   rfl
  refine take_ (i := 2) (N := some 13) (v := ?_) (a' := ?_) #[true, false, true, false, false] rfl rfl (by kernel_rfl) (fun _ _ _ h => h) (Or.inl ⟨by rfl, ?_⟩) hHeld ?_ ?_
  rotate_left
  ·rintro w' ⟨s0, s1, s2, s3, s4, s5⟩
   go_simp
   with_reducible rfl
  rotate_left
  ·simp only [Act.put, List.setIfInBounds_toArray, List.set_cons_zero, List.set_cons_succ, i64_w, i32_w]
   rfl
  refine one_ (i := 1) (N := some 12) #[true, true, true, false, false] rfl rfl (by kernel_rfl) (by decide) (fun K hK => ?_)
  refine goes_ Try.func124 (by kernel_rfl) rfl #[.agg #[.int .i64 a1_0, .int .i64 a1_1, .int .i64 a1_2, .slice Ao8 l1_3.length co8]] (by rfl) rfl rfl (by (try simp only [List.map_toArray, List.map_cons, List.map_nil]); first | done | rfl) ?_
  with_reducible refine (impl_FromMatrix.calls k a1_0 a1_1 a1_2 _ _ l1_3 t943 t944 _ ?side1 ?side2 A5.out).mono ?_
  (case side1 => exact Hof.Cw ((Kd.R_reads' HO1_3.out).2.2))
  (case side2 => exact (Kd.R_reads' HO1_3.out).2.1)
  rintro e w11 ⟨v945, rfl, ho0, hb⟩
  refine ⟨_, rfl, ?_⟩
  have n0_ := Aside0.mk (Kd.R_elder' (Hof.Rw HO1_3.out) (Kd.R_base ho0) hb)
  have n1_ := Aside0.mk (Kd.R_lower (Kd.R_new' (Kd.R_newM (M := fun k_ => (P1_3_ k_ ∨ w.heap.size ≤ k_)) ho0 (by first | exact HK.out.1 | exact (show Kept w _ (fun k_ => P1_3_ k_) from by repeat (first | (with_reducible first | exact HK.out | apply Kept.alloc | apply Kept.drewN | apply Kept.drew | refine Kept.setCell ?_ (.inr GW941.out) _ | refine Kept.setCell ?_ (.inr GW942.out) _) | exact HK.out)).1) (fun k_ h_ => .inr h_)) (Kd.R_lt (Hof.Rw HO1_3.out))) (below_size (Hof.Lw HB.out)))
  have n2_ := Hof.bb BK941 hb
  have n3_ := Hof.bb BK942 hb
  have n4_ := Aside0.mk (Kept.below (S := (fun k_ => P1_3_ k_)) (by repeat (first | (with_reducible first | exact HK.out | apply Kept.alloc | apply Kept.drewN | apply Kept.drew | refine Kept.setCell ?_ (.inr GW941.out) _ | refine Kept.setCell ?_ (.inr GW942.out) _) | exact HK.out)) hb)
  have n5_ := Hof.lb HB hb
  clear HO1_3
  clear BK941
  clear BK942
  clear HK
  clear HB
  have HO1_3 := n0_
  have HO946 := n1_
  have BK941 := n2_
  have BK942 := n3_
  have HK := n4_
  have HB := n5_
  clear n0_ n1_ n2_ n3_ n4_ n5_
  (try clear hb)
  (try clear hb2)
  (try clear hk)
  (try clear hi)
  (try clear ho0)
  obtain ⟨Ao12, co12, eo12⟩ := Kd.R_slice HO946.out
  (first | subst eo12 | (injection eo12 with f1_ f2_ f3_; have f4_ := f1_.symm; have f5_ := f3_.symm; clear f1_ f2_ f3_; subst f4_; subst f5_))
  refine hK.out _ _ ⟨(blk_cell BK942.out 0).trans rfl, (blk_cell BK942.out 1).trans rfl, (blk_cell BK942.out 2).trans rfl, (blk_cell BK942.out 3).trans rfl, (blk_cell BK941.out 0).trans rfl, (blk_cell BK941.out 1).trans rfl⟩ (fun hHeld => ?_)
  clear hK K
  refine norm_ (a' := ?_) ?_ ?_
  rotate_left
  ·show Act.put _ (some 12) _ = _
   simp only [Act.put, List.setIfInBounds_toArray, List.set_cons_zero, List.set_cons_succ, i64_w, i32_w]
   rfl
  refine one_ (i := 3) (N := some 14) #[true, true, true, true, false] rfl rfl (by kernel_rfl) (by decide) (fun K hK => ?_)
  refine goes_ Try.func123 (by kernel_rfl) rfl #[.agg #[.int .i64 t943, .slice Ao12 t944.length co12], .agg #[.int .i64 a0_0, .slice A0_1 l0_1.length c0_1]] (by rfl) rfl rfl (by (try simp only [List.map_toArray, List.map_cons, List.map_nil]); first | done | rfl) ?_
  with_reducible refine (impl_EqualMatroid.calls k t943 _ _ t944 a0_0 _ _ l0_1 t947 _ ?side1 ?side2 ?side3 ?side4 A6.out).mono ?_
  (case side1 => exact Hof.Cw ((Kd.R_reads' HO946.out).2.2))
  (case side2 => exact (Kd.R_reads' HO946.out).2.1)
  (case side3 => exact Kd.C_kept_now HR0_1.out (by repeat (first | (with_reducible first | exact HK.out | apply Kept.alloc | apply Kept.drewN | apply Kept.drew | refine Kept.setCell ?_ (.inr GW941.out) _ | refine Kept.setCell ?_ (.inr GW942.out) _) | exact HK.out)))
  (case side4 => exact HC0_1.out)
  rintro e w13 ⟨rfl, hb⟩
  refine ⟨_, rfl, ?_⟩
  have n0_ := Hof.rb HO1_3 hb
  have n1_ := Hof.rb HO946 hb
  have n2_ := Hof.bb BK941 hb
  have n3_ := Hof.bb BK942 hb
  have n4_ := Aside0.mk (Kept.below (S := (fun k_ => P1_3_ k_)) (by repeat (first | (with_reducible first | exact HK.out | apply Kept.alloc | apply Kept.drewN | apply Kept.drew | refine Kept.setCell ?_ (.inr GW941.out) _ | refine Kept.setCell ?_ (.inr GW942.out) _) | exact HK.out)) hb)
  have n5_ := Hof.lb HB hb
  clear HO1_3
  clear HO946
  clear BK941
  clear BK942
  clear HK
  clear HB
  have HO1_3 := n0_
  have HO946 := n1_
  have BK941 := n2_
  have BK942 := n3_
  have HK := n4_
  have HB := n5_
  clear n0_ n1_ n2_ n3_ n4_ n5_
  (try clear hb)
  (try clear hb2)
  (try clear hk)
  (try clear hi)
  refine hK.out _ _ ⟨(blk_cell BK942.out 0).trans rfl, (blk_cell BK942.out 1).trans rfl, (blk_cell BK942.out 2).trans rfl, (blk_cell BK942.out 3).trans rfl, (blk_cell BK941.out 0).trans rfl, (blk_cell BK941.out 1).trans rfl⟩ (fun hHeld => ?_)
  clear hK K
  refine norm_ (a' := ?_) ?_ ?_
  rotate_left
  ·show Act.put _ (some 14) _ = _
   simp only [Act.put, List.setIfInBounds_toArray, List.set_cons_zero, List.set_cons_succ, i64_w, i32_w]
   rfl
  refine pure_ (i := 4) (N := some 6) (v := ?_) (a' := ?_) #[true, true, true, true, true] rfl rfl (by kernel_rfl) (fun _ _ _ h => h) (Or.inl ⟨by rfl, ?_⟩) ?_ ?_
  rotate_left
  ·intro w'
   go_simp
   with_reducible rfl
  rotate_left
  ·simp only [Act.put, List.setIfInBounds_toArray, List.set_cons_zero, List.set_cons_succ, i64_w, i32_w]
   rfl
  refine done_ (by kernel_rfl) ?_
  try go_wp2
  go_ret
  exact ⟨Hof.E, by (with_reducible repeat (first | apply Kd.R_alloc | apply Kd.R_drewN | apply Kd.R_drew)); exact Kd.R_mono HO1_3.out (fun _ hk => hk.1), Hof.L, by repeat (first | (with_reducible first | exact HK.out | apply Kept.alloc | apply Kept.drewN | apply Kept.drew | refine Kept.setCell ?_ (.inr GW941.out) _ | refine Kept.setCell ?_ (.inr GW942.out) _) | exact HK.out)⟩
 ·rw [if_neg c4] at H
  have c4b0 : ((l2.length : Int) == 0) = false := beq_eq_false_iff_ne.mpr c4
  have c4b1 : ((l2.length : Int) != 0) = true := bne_iff_ne.mpr c4
  have c4b2 : ¬ (l2 = []) := fun h_ => c4 (by rw [h_]; rfl)
  have H' := Aside0.mk H
  clear H
  go_enter Try.func84, Try.ntmps84
  go_wp2_with (first | (refine Hof.bx 3 #[.int .i64 a0_0, .slice A0_1 l0_1.length c0_1] 35 ?_; intro gb941 hg w14 hbox hb; replace HO1_3 := Hof.rb HO1_3 hb; have BK941 := Aside0.mk hbox; have GW941 := Aside0.mk ((by rw [hg]; exact (by first | exact HK.out.1 | exact (show Kept w _ (fun k_ => P1_3_ k_) from by repeat (first | (with_reducible first | exact HK.out | apply Kept.alloc | apply Kept.drewN | apply Kept.drew) | exact HK.out)).1) : w.heap.size ≤ gb941)); replace HK := Aside0.mk (Kept.below (S := (fun k_ => P1_3_ k_)) (by repeat (first | (with_reducible first | exact HK.out | apply Kept.alloc | apply Kept.drewN | apply Kept.drew) | exact HK.out)) hb); have GE941 := Hof.gw hg HB; replace HB := Hof.lb HB hb; clear hb hbox hg; obtain ⟨Ao15, co15, eo15⟩ := Kd.R_slice HO1_3.out; subst eo15) | (refine Hof.bx 4 #[.int .i64 a1_0, .int .i64 a1_1, .int .i64 a1_2, .slice Ao15 l1_3.length co15] 49 ?_; intro gb942 hg w16 hbox hb; replace HO1_3 := Hof.rb HO1_3 hb; have BK942 := Aside0.mk hbox; have GW942 := Aside0.mk ((by rw [hg]; exact (by first | exact HK.out.1 | exact (show Kept w _ (fun k_ => P1_3_ k_) from by repeat (first | (with_reducible first | exact HK.out | apply Kept.alloc | apply Kept.drewN | apply Kept.drew | refine Kept.setCell ?_ (.inr GW941.out) _) | exact HK.out)).1) : w.heap.size ≤ gb942)); replace HK := Aside0.mk (Kept.below (S := (fun k_ => P1_3_ k_)) (by repeat (first | (with_reducible first | exact HK.out | apply Kept.alloc | apply Kept.drewN | apply Kept.drew | refine Kept.setCell ?_ (.inr GW941.out) _) | exact HK.out)) hb); have GE942 := Hof.gw hg HB; replace HB := Hof.lb HB hb; have NB941_942 := Hof.nl hg BK941; have NB942_941 := Hof.ng hg BK941; replace BK941 := Hof.bb BK941 hb; clear hb hbox hg))
  go_loopg [7] k (fun kq v7 w' => ∃ (x7_1 : Int) (x943003_1 : List Int), v7 = .int .i64 x7_1 ∧ Aside0 (impl_fillCells.l0 kq l2 x7_1 a0_0 l0_1 a1_0 a1_1 a1_2 x943003_1 = some (r1, r2)) ∧ Aside0 (kq ≤ k) ∧ Aside0 (Kd.R (Kd.int .i64) 3 w' w0.heap.size (fun k_ => (P1_3_ k_ ∨ w.heap.size ≤ k_)) (.slice Ao15 l1_3.length co15) x943003_1) ∧ Aside0 (w'.heap[gb941]? = some (.cells #[.int .i64 a0_0, (.slice A0_1 l0_1.length c0_1)] 35 (0, 0))) ∧ Aside0 (w'.heap[gb942]? = some (.cells #[.int .i64 a1_0, .int .i64 a1_1, .int .i64 a1_2, (.slice Ao15 l1_3.length co15)] 49 (0, 0))) ∧ Aside0 (Kept w w' (fun k_ => P1_3_ k_)) ∧ Aside0 (Below w0.heap.size w0 w'))
  case atStart => exact ⟨(1), (l1_3), Hof.F, H', ⟨Nat.le_refl _⟩, ⟨Hof.Rw HO1_3.out⟩, ⟨Hof.Bw BK941.out⟩, ⟨Hof.Bw BK942.out⟩, ⟨by repeat (first | (with_reducible first | exact HK.out | apply Kept.alloc | apply Kept.drewN | apply Kept.drew | refine Kept.setCell ?_ (.inr GW941.out) _ | refine Kept.setCell ?_ (.inr GW942.out) _) | exact HK.out)⟩, ⟨Hof.Lw HB.out⟩⟩
  case round =>
   clear H'
   obtain ⟨x7_1, x943003_1, rfl, HA, HK1, HO_943003, BK941, BK942, HK, HB⟩ := hrel
   have hl943003_1 := (Kd.R_reads' HO_943003.out).1
   rw [hl943003_1] at HO_943003
   (try simp only [hl943003_1])
   (try simp only [hl943003_1] at BK941)
   (try simp only [hl943003_1] at BK942)
   cases gk with
   | zero => exact absurd HA.out (by simp [impl_fillCells.l0])
   | succ k1 =>
    have H := HA.out
    clear HA
    simp only [impl_fillCells.l0] at H
    by_cases c17 : x7_1 < a1_0
    ·rw [if_pos c17] at H
     have c17b0 := decide_eq_true c17
     clear c17
     by_cases c18 : 0 < (l2.length : Int)
     ·rw [if_pos c18] at H
      have c18b0 := decide_eq_true c18
      have c18b1 : decide (0 < l2.length) = true := decide_eq_true (by omega)
      clear c18
      by_cases c19 : 0 ≤ (rd l2 0)
      ·rw [if_pos c19] at H
       have c19b0 := decide_eq_true c19
       clear c19
       by_cases c20 : (rd l2 0) < (x943003_1.length : Int)
       ·rw [if_pos c20] at H
        have c20b0 := decide_eq_true c20
        clear c20
        obtain ⟨y949, hy949⟩ : ∃ y_ : List Int, y_ = (x943003_1.set ((rd l2 0) : Int).toNat x7_1) := ⟨_, rfl⟩
        replace H : ((impl_fillCells.f k1 a0_0 l0_1 a1_0 a1_1 a1_2 y949 (l2.drop 1)).bind fun bt950 => (if bt950.1 = true then (some (true, bt950.2)) else (impl_fillCells.l0 k1 l2 (wrap64 (x7_1 + 1)) a0_0 l0_1 a1_0 a1_1 a1_2 bt950.2))) = some (r1, r2) := by (try rw [hy949]); exact Hof.Z
        have Ny949 := Aside0.mk hy949
        clear hy949
        obtain ⟨⟨t950, t951⟩, A22, H⟩ := Hof.be H
        (try dsimp only at H)
        by_cases c23 : t950 = true
        ·subst c23
         replace H : (some (true, t951)) = some (r1, r2) := by rw [if_pos rfl] at H; exact H
         simp only [Option.some.injEq, Prod.mk.injEq] at H
         obtain ⟨rfl, rfl⟩ := H
         have hnb24 := NB942_941.out
         have hnc24 := NB941_942.out
         obtain ⟨hcz25_0, hcz25_1, hcz25_2, hcz25_3, hfz25_0, hfz25_1, hfz25_2, hfz25_3⟩ := Hof.blk4 BK942.out
         try go_wp2
         have n0_ := Aside0.mk (Kd.R_drew HO_943003.out)
         have n1_ := Aside0.mk (blk_drew BK941.out)
         have n2_ := Aside0.mk (blk_drew BK942.out)
         have n3_ := Aside0.mk (Kept.drew HK.out)
         have n4_ := Aside0.mk (below_drew1 HB.out)
         clear HO_943003
         clear BK941
         clear BK942
         clear HK
         clear HB
         have HO_943003 := n0_
         have BK941 := n1_
         have BK942 := n2_
         have HK := n3_
         have HB := n4_
         clear n0_ n1_ n2_ n3_ n4_
         have p948 : 0 ≤ (0 : Int) := (by omega)
         have q948 : 0 < (l2.length : Int) := Hof.D
         obtain ⟨ad948, e948, hx948_0⟩ := Kd.at_int (Kd.C_kept_now HR2.out HK.out) 0 p948 q948
         have hw948_0 := hx948_0
         (try rw [show ((0 : Int)).toNat = 0 from rfl] at hw948_0)
         (try rw [show 0 * 1 = 0 from rfl] at hw948_0)
         (try rw [Addr.add_zero'] at hw948_0)
         cases e948
         have qi948 : (0 < l2.length) = True := eq_true (by omega)
         (try rw [show ((0 : Int)).toNat = 0 from rfl] at hx948_0)
         (try rw [Addr.add_zero'] at hx948_0)
         replace p948 := eq_true p948
         replace q948 := eq_true q948
         have p21 : 0 ≤ ((rd l2 0) : Int) := Hof.D
         have q21 : ((rd l2 0) : Int) < ((x943003_1.length : Int) : Int) := Hof.D
         obtain ⟨go21, co21, eo21, gb21, gl21, cl21, HG21⟩ := Kd.R_form HO_943003.out (by omega)
         (first | cases eo21 | (injection eo21 with ea_ en_ ec_; (first | subst ea_ | (injection ea_ with ea_; subst ea_)); subst ec_; clear en_))
         have GB21 := Aside0.mk gb21
         have GG21 := Aside0.mk HG21
         clear gb21 gl21 HG21
         have HMgo21 := Aside0.mk (show (P1_3_ go21 ∨ w.heap.size ≤ go21) from (HO_943003.out.1 _ rfl))
         obtain ⟨hx21_0, hf21_0⟩ := Kd.R_celln 0 HO_943003.out ((rd l2 0) : Int) p21 q21
         replace p21 := eq_true p21
         replace q21 := eq_true q21
         have HP27 := Kd.R_putn HO_943003.out ((rd l2 0) : Int) x7_1
         rw [← Ny949.out] at HP27
         have HQ27 := Aside0.mk HP27
         clear HP27
         refine start_ (n := 8) (S := fun w' => w'.cell? ⟨gb942, 0, none⟩ = some (.int .i64 a1_0) ∧ w'.cell? ⟨gb942, 1, none⟩ = some (.int .i64 a1_1) ∧ w'.cell? ⟨gb942, 2, none⟩ = some (.int .i64 a1_2) ∧ w'.cell? ⟨gb942, 3, none⟩ = some (.slice (some ⟨go21, 0, none⟩) x943003_1.length co15) ∧ w'.cell? ad948 = some (.int .i64 (rd l2 0))) (ds := [7]) #[false, false, false, false, false, false, false, false] (by kernel_rfl) rfl rfl ⟨(blk_cell BK942.out 0).trans rfl, (blk_cell BK942.out 1).trans rfl, (blk_cell BK942.out 2).trans rfl, (blk_cell BK942.out 3).trans rfl, (by have h_ := Kd.foot_int (HR2.out _ (by repeat (first | exact HK.out | apply Kept.alloc | apply Kept.drewN | apply Kept.drew | refine Kept.setCell ?_ HMgo21.out _))) (0 : Int) (of_eq_true p948) (of_eq_true q948); rw [show ((0 : Int)).toNat = 0 from rfl, Addr.add_zero'] at h_; exact h_)⟩ (fun hHeld => ?_); refine with_tabW impl_fillCells.tab6 impl_fillCells.bits6 (fun HT_ HW_ => ?_)
         generalize wr.drew = w26 at HO_943003 BK941 BK942 HK HB GG21 HQ27 hf21_0 hx21_0 hx948_0 hHeld ⊢
         refine Hof.pu 0 21 HT_ ?_
         refine Hof.pu 2 23 HT_ ?_
         refine Hof.pu 3 24 HT_ ?_
         refine Hof.pu 5 26 HT_ ?_
         refine Hof.tk 1 22 HT_ HW_ hHeld ?_
         refine Hof.tk 4 25 HT_ HW_ hHeld ?_
         refine Hof.pu 6 27 HT_ ?_
         refine last_ (i := 7) (N := none) #[true, true, true, true, true, true, true, true] rfl rfl (one_of HT_.out (by kernel_rfl)) (by decide) (fun K hK => ?_)
         refine skip_ (w1 := ?_) (by rfl) rfl ?_ ?_
         rotate_left
         ·go_simp
          rfl
         refine hK.out _ _ ?_
         clear hK K
         refine done_ (done_of HT_.out (by kernel_rfl)) ?_
         try go_wp2
         have n0_ : Aside0 (Kd.R (Kd.int .i64) 3 (w26.setCell ⟨go21, ((rd l2 0) : Int).toNat, none⟩ (.int .i64 x7_1)) w0.heap.size (fun k_ => (P1_3_ k_ ∨ w.heap.size ≤ k_)) (.slice (some ⟨go21, 0, none⟩) x943003_1.length co15) y949) := ⟨Hof.Rw HQ27.out⟩
         have n1_ : Aside0 ((w26.setCell ⟨go21, ((rd l2 0) : Int).toNat, none⟩ (.int .i64 x7_1)).heap[gb941]? = some (.cells #[.int .i64 a0_0, .slice A0_1 l0_1.length c0_1] 35 (0, 0))) := ⟨by (with_reducible repeat (first | refine blk_drewN ?_ _ | refine blk_drew ?_ | refine blk_alloc ?_ _)); refine blk_far ?_ (by have h_ := Kd.R_ne HO_943003.out BK941.out (by decide); intro e_; exact h_ (by rw [e_]; rfl)) _; (with_reducible repeat (first | refine blk_drewN ?_ _ | refine blk_drew ?_ | refine blk_alloc ?_ _)); exact BK941.out⟩
         have n2_ : Aside0 ((w26.setCell ⟨go21, ((rd l2 0) : Int).toNat, none⟩ (.int .i64 x7_1)).heap[gb942]? = some (.cells #[.int .i64 a1_0, .int .i64 a1_1, .int .i64 a1_2, .slice (some ⟨go21, 0, none⟩) x943003_1.length co15] 49 (0, 0))) := ⟨by (with_reducible repeat (first | refine blk_drewN ?_ _ | refine blk_drew ?_ | refine blk_alloc ?_ _)); refine blk_far ?_ (by have h_ := Kd.R_ne HO_943003.out BK942.out (by decide); intro e_; exact h_ (by rw [e_]; rfl)) _; (with_reducible repeat (first | refine blk_drewN ?_ _ | refine blk_drew ?_ | refine blk_alloc ?_ _)); exact BK942.out⟩
         have n3_ : Aside0 (Kept w (w26.setCell ⟨go21, ((rd l2 0) : Int).toNat, none⟩ (.int .i64 x7_1)) (fun k_ => P1_3_ k_)) := ⟨by repeat (first | (with_reducible first | exact HK.out | apply Kept.alloc | apply Kept.drewN | apply Kept.drew | refine Kept.setCell ?_ HMgo21.out _ | refine Kept.setCell ?_ (.inr GW941.out) _ | refine Kept.setCell ?_ (.inr GW942.out) _) | exact HK.out)⟩
         have n4_ : Aside0 (Below w0.heap.size w0 (w26.setCell ⟨go21, ((rd l2 0) : Int).toNat, none⟩ (.int .i64 x7_1))) := ⟨by repeat (first | (with_reducible first | exact HB.out | apply below_alloc | apply pw_below_drewN | apply below_drew1 | refine below_set ?_ GB21.out | refine below_set ?_ GE941.out | refine below_set ?_ GE942.out) | exact HB.out)⟩
         (try clear HO_943003)
         (try clear BK941)
         (try clear BK942)
         (try clear HK)
         (try clear HB)
         generalize (w26.setCell ⟨go21, ((rd l2 0) : Int).toNat, none⟩ (.int .i64 x7_1)) = w28 at n0_ n1_ n2_ n3_ n4_ ⊢
         have HO_943003 := n0_
         have BK941 := n1_
         have BK942 := n2_
         have HK := n3_
         have HB := n4_
         clear n0_ n1_ n2_ n3_ n4_
         have n0_ := Aside0.mk (Kd.R_drew HO_943003.out)
         have n1_ := Aside0.mk (blk_drew BK941.out)
         have n2_ := Aside0.mk (blk_drew BK942.out)
         have n3_ := Aside0.mk (Kept.drew HK.out)
         have n4_ := Aside0.mk (below_drew1 HB.out)
         clear HO_943003
         clear BK941
         clear BK942
         clear HK
         clear HB
         have HO_943003 := n0_
         have BK941 := n1_
         have BK942 := n2_
         have HK := n3_
         have HB := n4_
         clear n0_ n1_ n2_ n3_ n4_
         obtain ⟨i031, hi031, _, hsz31, _⟩ := info_parts info3
         have q031 : (1 : Int) ≤ (l2.length : Int) := by have h_ := of_eq_true q948; omega
         have hcut31 := cut_from (P := Try.prog) 24 3 .i64 Try.underlying24 hi031 1 hsz31 (some ad948) l2.length c2 1 (by decide) q031
         obtain ⟨A31, hA31⟩ : ∃ A1, A1 = (if c2 = (1 : Int).toNat then (some ad948) else ((some ad948) : Option Addr).map (·.add ((1 : Int).toNat * 1))) := ⟨_, rfl⟩
         obtain ⟨c31, hc31⟩ : ∃ c1, c1 = c2 - (1 : Int).toNat := ⟨_, rfl⟩
         obtain ⟨y31, hy31⟩ : ∃ y_ : List Int, y_ = l2.drop 1 := ⟨_, rfl⟩
         have hl31 : y31.length = l2.length - (1 : Int).toNat := by rw [hy31, List.length_drop]; rfl
         rw [← hl31, ← hA31, ← hc31] at hcut31
         have HR31 := Aside0.mk (show ∀ W_, Kept w W_ (fun k_ => P1_3_ k_) → Kd.C (Kd.int .i64) W_ A31 y31.length y31 from fun W_ hk_ => by have h_ := Kd.C_drop (m := 1) (c := c2) (HR2.out W_ hk_) (by omega) HC2.out; rw [← hy31] at h_; rw [hA31]; exact h_)
         have HC31 := Aside0.mk (show y31.length ≤ c31 from by rw [hl31, hc31]; exact Nat.sub_le_sub_right HC2.out _)
         rw [← hy31] at A22
         clear hi031 hsz31 hA31 hc31 hl31 q031 hy31
         refine start_ (n := 5) (S := fun w' => w'.cell? ⟨gb941, 0, none⟩ = some (.int .i64 a0_0) ∧ w'.cell? ⟨gb941, 1, none⟩ = some (.slice A0_1 l0_1.length c0_1) ∧ w'.cell? ⟨gb942, 0, none⟩ = some (.int .i64 a1_0) ∧ w'.cell? ⟨gb942, 1, none⟩ = some (.int .i64 a1_1) ∧ w'.cell? ⟨gb942, 2, none⟩ = some (.int .i64 a1_2) ∧ w'.cell? ⟨gb942, 3, none⟩ = some (.slice (some ⟨go21, 0, none⟩) x943003_1.length co15)) (ds := []) #[false, false, false, false, false] (by kernel_rfl) rfl rfl ⟨(blk_cell BK941.out 0).trans rfl, (blk_cell BK941.out 1).trans rfl, (blk_cell BK942.out 0).trans rfl, (blk_cell BK942.out 1).trans rfl, (blk_cell BK942.out 2).trans rfl, (blk_cell BK942.out 3).trans rfl⟩ (fun hHeld => ?_)
         generalize w28.drew = w29 at HO_943003 BK941 BK942 HK HB HQ27 hHeld ⊢
         refine pure_ (i := 2) (N := some 30) (v := ?_) (a' := ?_) #[false, false, true, false, false] rfl rfl (by kernel_rfl) (fun _ _ _ h => h) (Or.inl ⟨by rfl, ?_⟩) ?_ ?_
         rotate_left
         ·intro w'
          go_simp
          with_reducible rfl
         rotate_left
         ·simp only [Act.put, List.setIfInBounds_toArray, List.set_cons_zero, List.set_cons_succ, i64_w, i32_w]
          rfl
         refine pure_ (i := 3) (N := some 31) (v := ?_) (a' := ?_) #[false, false, true, true, false] rfl rfl (by kernel_rfl) (fun _ _ _ h => h) (Or.inl ⟨by rfl, ?_⟩) ?_ ?_
         rotate_left
         ·intro w'
          go_simp
          with_reducible rfl
         rotate_left
         ·simp only [Act.put, List.setIfInBounds_toArray, List.set_cons_zero, List.set_cons_succ, i64_w, i32_w]
          rfl
         refine take_ (i := 0) (N := some 28) (v := ?_) (a' := ?_) #[true, false, true, true, false] rfl rfl (by kernel_rfl) (fun _ _ _ h => h) (Or.inl ⟨by rfl, ?_⟩) hHeld ?_ ?_
         rotate_left
         ·rintro w' ⟨s0, s1, s2, s3, s4, s5⟩
          go_simp
          with_reducible rfl
         rotate_left
         ·simp only [Act.put, List.setIfInBounds_toArray, List.set_cons_zero, List.set_cons_succ, i64_w, i32_w]
          rfl
         refine take_ (i := 1) (N := some 29) (v := ?_) (a' := ?_) #[true, true, true, true, false] rfl rfl (by kernel_rfl) (fun _ _ _ h => h) (Or.inl ⟨by rfl, ?_⟩) hHeld ?_ ?_
         rotate_left
         ·rintro w' ⟨s0, s1, s2, s3, s4, s5⟩
          go_simp
          with_reducible rfl
         rotate_left
         ·simp only [Act.put, List.setIfInBounds_toArray, List.set_cons_zero, List.set_cons_succ, i64_w, i32_w]
          rfl
         refine one_ (i := 4) (N := some 32) #[true, true, true, true, true] rfl rfl (by kernel_rfl) (by decide) (fun K hK => ?_)
         refine goes_ Try.func84 (by kernel_rfl) rfl #[.agg #[.int .i64 a0_0, .slice A0_1 l0_1.length c0_1], .agg #[.int .i64 a1_0, .int .i64 a1_1, .int .i64 a1_2, .slice (some ⟨go21, 0, none⟩) x943003_1.length co15], .slice A31 y31.length c31] (by rfl) rfl rfl (by (try simp only [List.map_toArray, List.map_cons, List.map_nil]); first | done | rfl) ?_
         with_reducible refine (ih k1 (by have := HK1.out; omega) a0_0 _ _ l0_1 a1_0 a1_1 a1_2 (fun k_ => some k_ = (.slice (some ⟨go21, 0, none⟩) x943003_1.length co15 : Value).ownBlock) (.slice (some ⟨go21, 0, none⟩) x943003_1.length co15) y949 _ _ y31 true t951 w0 _ ?side1 ?side2 ?side3 ?side4 ?side5 ?side6 A22.out).mono ?_
         (case side1 => repeat (first | (with_reducible first | exact HB.out | apply below_alloc | apply pw_below_drewN | apply below_drew1 | refine below_set ?_ GE941.out | refine below_set ?_ GE942.out) | exact HB.out))
         (case side2 => exact Kd.C_kept_call HR0_1.out (by repeat (first | (with_reducible first | exact HK.out | apply Kept.alloc | apply Kept.drewN | apply Kept.drew | refine Kept.setCell ?_ (.inr GW941.out) _ | refine Kept.setCell ?_ (.inr GW942.out) _) | exact HK.out)) (fun k_ hs_ => (fun e_ => (HO_943003.out.1 k_ e_.symm)) hs_))
         (case side3 => exact HC0_1.out)
         (case side4 => exact Kd.R_tight rfl HO_943003.out)
         (case side5 => exact Kd.C_kept_call HR31.out (by repeat (first | (with_reducible first | exact HK.out | apply Kept.alloc | apply Kept.drewN | apply Kept.drew | refine Kept.setCell ?_ (.inr GW941.out) _ | refine Kept.setCell ?_ (.inr GW942.out) _) | exact HK.out)) (fun k_ hs_ => (fun e_ => (HO_943003.out.1 k_ e_.symm)) hs_))
         (case side6 => exact HC31.out)
         rintro e w30 ⟨rfl, hy0, hb, hkp⟩
         refine ⟨_, rfl, ?_⟩
         have n0_ := Aside0.mk (Kd.R_reok rfl hy0 (fun k_ e_ => HO_943003.out.1 k_ e_))
         have n1_ := Aside0.mk (blk_kept (Hof.Bw BK941.out) hkp (fun hs_ => (fun e_ => (Kd.R_ne HO_943003.out BK941.out (by decide)) e_) hs_))
         have n2_ := Aside0.mk (blk_kept (Hof.Bw BK942.out) hkp (fun hs_ => (fun e_ => (Kd.R_ne HO_943003.out BK942.out (by decide)) e_) hs_))
         have n3_ := Aside0.mk (Kept.then_ (S := (fun k_ => P1_3_ k_)) (by repeat (first | (with_reducible first | exact HK.out | apply Kept.alloc | apply Kept.drewN | apply Kept.drew | refine Kept.setCell ?_ (.inr GW941.out) _ | refine Kept.setCell ?_ (.inr GW942.out) _) | exact HK.out)) hkp (fun k_ hs_ => (fun e_ => (HO_943003.out.1 k_ e_.symm)) hs_))
         have n4_ := Aside0.mk hb
         clear HO_943003
         clear BK941
         clear BK942
         clear HK
         clear HB
         have HO_943003 := n0_
         have BK941 := n1_
         have BK942 := n2_
         have HK := n3_
         have HB := n4_
         clear n0_ n1_ n2_ n3_ n4_
         (try clear hb)
         (try clear hkp)
         (try clear hy0)
         refine hK.out _ _ ⟨(blk_cell BK941.out 0).trans rfl, (blk_cell BK941.out 1).trans rfl, (blk_cell BK942.out 0).trans rfl, (blk_cell BK942.out 1).trans rfl, (blk_cell BK942.out 2).trans rfl, (blk_cell BK942.out 3).trans rfl⟩ (fun hHeld => ?_)
         clear hK K
         refine norm_ (a' := ?_) ?_ ?_
         rotate_left
         ·show Act.put _ (some 32) _ = _
          simp only [Act.put, List.setIfInBounds_toArray, List.set_cons_zero, List.set_cons_succ, i64_w, i32_w]
          rfl
         refine done_ (by kernel_rfl) ?_
         try go_wp2
         go_ret
         exact ⟨Hof.E, (by first | exact (Hof.Rw HO_943003.out) | (simp only [hl943003_1]; exact (Hof.Rw HO_943003.out))), Hof.L, by repeat (first | (with_reducible first | exact HK.out | apply Kept.alloc | apply Kept.drewN | apply Kept.drew | refine Kept.setCell ?_ (.inr GW941.out) _ | refine Kept.setCell ?_ (.inr GW942.out) _) | exact HK.out)⟩
        ·replace c23 := Bool.eq_false_iff.mpr c23
         subst c23
         replace H : (impl_fillCells.l0 k1 l2 (wrap64 (x7_1 + 1)) a0_0 l0_1 a1_0 a1_1 a1_2 t951) = some (r1, r2) := by rw [if_neg (show ¬ (false = true) by decide)] at H; exact H
         have H' := Aside0.mk H
         clear H
         have hnb31 := NB942_941.out
         have hnc31 := NB941_942.out
         obtain ⟨hcz32_0, hcz32_1, hcz32_2, hcz32_3, hfz32_0, hfz32_1, hfz32_2, hfz32_3⟩ := Hof.blk4 BK942.out
         try go_wp2
         have n0_ := Aside0.mk (Kd.R_drew HO_943003.out)
         have n1_ := Aside0.mk (blk_drew BK941.out)
         have n2_ := Aside0.mk (blk_drew BK942.out)
         have n3_ := Aside0.mk (Kept.drew HK.out)
         have n4_ := Aside0.mk (below_drew1 HB.out)
         clear HO_943003
         clear BK941
         clear BK942
         clear HK
         clear HB
         have HO_943003 := n0_
         have BK941 := n1_
         have BK942 := n2_
         have HK := n3_
         have HB := n4_
         clear n0_ n1_ n2_ n3_ n4_
         have p948 : 0 ≤ (0 : Int) := (by omega)
         have q948 : 0 < (l2.length : Int) := Hof.D
         obtain ⟨ad948, e948, hx948_0⟩ := Kd.at_int (Kd.C_kept_now HR2.out HK.out) 0 p948 q948
         have hw948_0 := hx948_0
         (try rw [show ((0 : Int)).toNat = 0 from rfl] at hw948_0)
         (try rw [show 0 * 1 = 0 from rfl] at hw948_0)
         (try rw [Addr.add_zero'] at hw948_0)
         cases e948
         have qi948 : (0 < l2.length) = True := eq_true (by omega)
         (try rw [show ((0 : Int)).toNat = 0 from rfl] at hx948_0)
         (try rw [Addr.add_zero'] at hx948_0)
         replace p948 := eq_true p948
         replace q948 := eq_true q948
         have p21 : 0 ≤ ((rd l2 0) : Int) := Hof.D
         have q21 : ((rd l2 0) : Int) < ((x943003_1.length : Int) : Int) := Hof.D
         obtain ⟨go21, co21, eo21, gb21, gl21, cl21, HG21⟩ := Kd.R_form HO_943003.out (by omega)
         (first | cases eo21 | (injection eo21 with ea_ en_ ec_; (first | subst ea_ | (injection ea_ with ea_; subst ea_)); subst ec_; clear en_))
         have GB21 := Aside0.mk gb21
         have GG21 := Aside0.mk HG21
         clear gb21 gl21 HG21
         have HMgo21 := Aside0.mk (show (P1_3_ go21 ∨ w.heap.size ≤ go21) from (HO_943003.out.1 _ rfl))
         obtain ⟨hx21_0, hf21_0⟩ := Kd.R_celln 0 HO_943003.out ((rd l2 0) : Int) p21 q21
         replace p21 := eq_true p21
         replace q21 := eq_true q21
         have HP34 := Kd.R_putn HO_943003.out ((rd l2 0) : Int) x7_1
         rw [← Ny949.out] at HP34
         have HQ34 := Aside0.mk HP34
         clear HP34
         refine start_ (n := 8) (S := fun w' => w'.cell? ⟨gb942, 0, none⟩ = some (.int .i64 a1_0) ∧ w'.cell? ⟨gb942, 1, none⟩ = some (.int .i64 a1_1) ∧ w'.cell? ⟨gb942, 2, none⟩ = some (.int .i64 a1_2) ∧ w'.cell? ⟨gb942, 3, none⟩ = some (.slice (some ⟨go21, 0, none⟩) x943003_1.length co15) ∧ w'.cell? ad948 = some (.int .i64 (rd l2 0))) (ds := [7]) #[false, false, false, false, false, false, false, false] (by kernel_rfl) rfl rfl ⟨(blk_cell BK942.out 0).trans rfl, (blk_cell BK942.out 1).trans rfl, (blk_cell BK942.out 2).trans rfl, (blk_cell BK942.out 3).trans rfl, (by have h_ := Kd.foot_int (HR2.out _ (by repeat (first | exact HK.out | apply Kept.alloc | apply Kept.drewN | apply Kept.drew | refine Kept.setCell ?_ HMgo21.out _))) (0 : Int) (of_eq_true p948) (of_eq_true q948); rw [show ((0 : Int)).toNat = 0 from rfl, Addr.add_zero'] at h_; exact h_)⟩ (fun hHeld => ?_); refine with_tabW impl_fillCells.tab6 impl_fillCells.bits6 (fun HT_ HW_ => ?_)
         generalize wr.drew = w33 at HO_943003 BK941 BK942 HK HB GG21 HQ34 hf21_0 hx21_0 hx948_0 hHeld ⊢
         refine Hof.pu 0 21 HT_ ?_
         refine Hof.pu 2 23 HT_ ?_
         refine Hof.pu 3 24 HT_ ?_
         refine Hof.pu 5 26 HT_ ?_
         refine Hof.tk 1 22 HT_ HW_ hHeld ?_
         refine Hof.tk 4 25 HT_ HW_ hHeld ?_
         refine Hof.pu 6 27 HT_ ?_
         refine last_ (i := 7) (N := none) #[true, true, true, true, true, true, true, true] rfl rfl (one_of HT_.out (by kernel_rfl)) (by decide) (fun K hK => ?_)
         refine skip_ (w1 := ?_) (by rfl) rfl ?_ ?_
         rotate_left
         ·go_simp
          rfl
         refine hK.out _ _ ?_
         clear hK K
         refine done_ (done_of HT_.out (by kernel_rfl)) ?_
         try go_wp2
         have n0_ : Aside0 (Kd.R (Kd.int .i64) 3 (w33.setCell ⟨go21, ((rd l2 0) : Int).toNat, none⟩ (.int .i64 x7_1)) w0.heap.size (fun k_ => (P1_3_ k_ ∨ w.heap.size ≤ k_)) (.slice (some ⟨go21, 0, none⟩) x943003_1.length co15) y949) := ⟨Hof.Rw HQ34.out⟩
         have n1_ : Aside0 ((w33.setCell ⟨go21, ((rd l2 0) : Int).toNat, none⟩ (.int .i64 x7_1)).heap[gb941]? = some (.cells #[.int .i64 a0_0, .slice A0_1 l0_1.length c0_1] 35 (0, 0))) := ⟨by (with_reducible repeat (first | refine blk_drewN ?_ _ | refine blk_drew ?_ | refine blk_alloc ?_ _)); refine blk_far ?_ (by have h_ := Kd.R_ne HO_943003.out BK941.out (by decide); intro e_; exact h_ (by rw [e_]; rfl)) _; (with_reducible repeat (first | refine blk_drewN ?_ _ | refine blk_drew ?_ | refine blk_alloc ?_ _)); exact BK941.out⟩
         have n2_ : Aside0 ((w33.setCell ⟨go21, ((rd l2 0) : Int).toNat, none⟩ (.int .i64 x7_1)).heap[gb942]? = some (.cells #[.int .i64 a1_0, .int .i64 a1_1, .int .i64 a1_2, .slice (some ⟨go21, 0, none⟩) x943003_1.length co15] 49 (0, 0))) := ⟨by (with_reducible repeat (first | refine blk_drewN ?_ _ | refine blk_drew ?_ | refine blk_alloc ?_ _)); refine blk_far ?_ (by have h_ := Kd.R_ne HO_943003.out BK942.out (by decide); intro e_; exact h_ (by rw [e_]; rfl)) _; (with_reducible repeat (first | refine blk_drewN ?_ _ | refine blk_drew ?_ | refine blk_alloc ?_ _)); exact BK942.out⟩
         have n3_ : Aside0 (Kept w (w33.setCell ⟨go21, ((rd l2 0) : Int).toNat, none⟩ (.int .i64 x7_1)) (fun k_ => P1_3_ k_)) := ⟨by repeat (first | (with_reducible first | exact HK.out | apply Kept.alloc | apply Kept.drewN | apply Kept.drew | refine Kept.setCell ?_ HMgo21.out _ | refine Kept.setCell ?_ (.inr GW941.out) _ | refine Kept.setCell ?_ (.inr GW942.out) _) | exact HK.out)⟩
         have n4_ : Aside0 (Below w0.heap.size w0 (w33.setCell ⟨go21, ((rd l2 0) : Int).toNat, none⟩ (.int .i64 x7_1))) := ⟨by repeat (first | (with_reducible first | exact HB.out | apply below_alloc | apply pw_below_drewN | apply below_drew1 | refine below_set ?_ GB21.out | refine below_set ?_ GE941.out | refine below_set ?_ GE942.out) | exact HB.out)⟩
         (try clear HO_943003)
         (try clear BK941)
         (try clear BK942)
         (try clear HK)
         (try clear HB)
         generalize (w33.setCell ⟨go21, ((rd l2 0) : Int).toNat, none⟩ (.int .i64 x7_1)) = w35 at n0_ n1_ n2_ n3_ n4_ ⊢
         have HO_943003 := n0_
         have BK941 := n1_
         have BK942 := n2_
         have HK := n3_
         have HB := n4_
         clear n0_ n1_ n2_ n3_ n4_
         have n0_ := Aside0.mk (Kd.R_drew HO_943003.out)
         have n1_ := Aside0.mk (blk_drew BK941.out)
         have n2_ := Aside0.mk (blk_drew BK942.out)
         have n3_ := Aside0.mk (Kept.drew HK.out)
         have n4_ := Aside0.mk (below_drew1 HB.out)
         clear HO_943003
         clear BK941
         clear BK942
         clear HK
         clear HB
         have HO_943003 := n0_
         have BK941 := n1_
         have BK942 := n2_
         have HK := n3_
         have HB := n4_
         clear n0_ n1_ n2_ n3_ n4_
         obtain ⟨i031, hi031, _, hsz31, _⟩ := info_parts info3
         have q031 : (1 : Int) ≤ (l2.length : Int) := by have h_ := of_eq_true q948; omega
         have hcut31 := cut_from (P := Try.prog) 24 3 .i64 Try.underlying24 hi031 1 hsz31 (some ad948) l2.length c2 1 (by decide) q031
         obtain ⟨A31, hA31⟩ : ∃ A1, A1 = (if c2 = (1 : Int).toNat then (some ad948) else ((some ad948) : Option Addr).map (·.add ((1 : Int).toNat * 1))) := ⟨_, rfl⟩
         obtain ⟨c31, hc31⟩ : ∃ c1, c1 = c2 - (1 : Int).toNat := ⟨_, rfl⟩
         obtain ⟨y31, hy31⟩ : ∃ y_ : List Int, y_ = l2.drop 1 := ⟨_, rfl⟩
         have hl31 : y31.length = l2.length - (1 : Int).toNat := by rw [hy31, List.length_drop]; rfl
         rw [← hl31, ← hA31, ← hc31] at hcut31
         have HR31 := Aside0.mk (show ∀ W_, Kept w W_ (fun k_ => P1_3_ k_) → Kd.C (Kd.int .i64) W_ A31 y31.length y31 from fun W_ hk_ => by have h_ := Kd.C_drop (m := 1) (c := c2) (HR2.out W_ hk_) (by omega) HC2.out; rw [← hy31] at h_; rw [hA31]; exact h_)
         have HC31 := Aside0.mk (show y31.length ≤ c31 from by rw [hl31, hc31]; exact Nat.sub_le_sub_right HC2.out _)
         rw [← hy31] at A22
         clear hi031 hsz31 hA31 hc31 hl31 q031 hy31
         refine start_ (n := 5) (S := fun w' => w'.cell? ⟨gb941, 0, none⟩ = some (.int .i64 a0_0) ∧ w'.cell? ⟨gb941, 1, none⟩ = some (.slice A0_1 l0_1.length c0_1) ∧ w'.cell? ⟨gb942, 0, none⟩ = some (.int .i64 a1_0) ∧ w'.cell? ⟨gb942, 1, none⟩ = some (.int .i64 a1_1) ∧ w'.cell? ⟨gb942, 2, none⟩ = some (.int .i64 a1_2) ∧ w'.cell? ⟨gb942, 3, none⟩ = some (.slice (some ⟨go21, 0, none⟩) x943003_1.length co15)) (ds := []) #[false, false, false, false, false] (by kernel_rfl) rfl rfl ⟨(blk_cell BK941.out 0).trans rfl, (blk_cell BK941.out 1).trans rfl, (blk_cell BK942.out 0).trans rfl, (blk_cell BK942.out 1).trans rfl, (blk_cell BK942.out 2).trans rfl, (blk_cell BK942.out 3).trans rfl⟩ (fun hHeld => ?_)
         generalize w35.drew = w36 at HO_943003 BK941 BK942 HK HB HQ34 hHeld ⊢
         refine pure_ (i := 2) (N := some 30) (v := ?_) (a' := ?_) #[false, false, true, false, false] rfl rfl (by kernel_rfl) (fun _ _ _ h => h) (Or.inl ⟨by rfl, ?_⟩) ?_ ?_
         rotate_left
         ·intro w'
          go_simp
          with_reducible rfl
         rotate_left
         ·simp only [Act.put, List.setIfInBounds_toArray, List.set_cons_zero, List.set_cons_succ, i64_w, i32_w]
          rfl
         refine pure_ (i := 3) (N := some 31) (v := ?_) (a' := ?_) #[false, false, true, true, false] rfl rfl (by kernel_rfl) (fun _ _ _ h => h) (Or.inl ⟨by rfl, ?_⟩) ?_ ?_
         rotate_left
         ·intro w'
          go_simp
          with_reducible rfl
         rotate_left
         ·simp only [Act.put, List.setIfInBounds_toArray, List.set_cons_zero, List.set_cons_succ, i64_w, i32_w]
          rfl
         refine take_ (i := 0) (N := some 28) (v := ?_) (a' := ?_) #[true, false, true, true, false] rfl rfl (by kernel_rfl) (fun _ _ _ h => h) (Or.inl ⟨by rfl, ?_⟩) hHeld ?_ ?_
         rotate_left
         ·rintro w' ⟨s0, s1, s2, s3, s4, s5⟩
          go_simp
          with_reducible rfl
         rotate_left
         ·simp only [Act.put, List.setIfInBounds_toArray, List.set_cons_zero, List.set_cons_succ, i64_w, i32_w]
          rfl
         refine take_ (i := 1) (N := some 29) (v := ?_) (a' := ?_) #[true, true, true, true, false] rfl rfl (by kernel_rfl) (fun _ _ _ h => h) (Or.inl ⟨by rfl, ?_⟩) hHeld ?_ ?_
         rotate_left
         ·rintro w' ⟨s0, s1, s2, s3, s4, s5⟩
          go_simp
          with_reducible rfl
         rotate_left
         ·simp only [Act.put, List.setIfInBounds_toArray, List.set_cons_zero, List.set_cons_succ, i64_w, i32_w]
          rfl
         refine one_ (i := 4) (N := some 32) #[true, true, true, true, true] rfl rfl (by kernel_rfl) (by decide) (fun K hK => ?_)
         refine goes_ Try.func84 (by kernel_rfl) rfl #[.agg #[.int .i64 a0_0, .slice A0_1 l0_1.length c0_1], .agg #[.int .i64 a1_0, .int .i64 a1_1, .int .i64 a1_2, .slice (some ⟨go21, 0, none⟩) x943003_1.length co15], .slice A31 y31.length c31] (by rfl) rfl rfl (by (try simp only [List.map_toArray, List.map_cons, List.map_nil]); first | done | rfl) ?_
         with_reducible refine (ih k1 (by have := HK1.out; omega) a0_0 _ _ l0_1 a1_0 a1_1 a1_2 (fun k_ => some k_ = (.slice (some ⟨go21, 0, none⟩) x943003_1.length co15 : Value).ownBlock) (.slice (some ⟨go21, 0, none⟩) x943003_1.length co15) y949 _ _ y31 false t951 w0 _ ?side1 ?side2 ?side3 ?side4 ?side5 ?side6 A22.out).mono ?_
         (case side1 => repeat (first | (with_reducible first | exact HB.out | apply below_alloc | apply pw_below_drewN | apply below_drew1 | refine below_set ?_ GE941.out | refine below_set ?_ GE942.out) | exact HB.out))
         (case side2 => exact Kd.C_kept_call HR0_1.out (by repeat (first | (with_reducible first | exact HK.out | apply Kept.alloc | apply Kept.drewN | apply Kept.drew | refine Kept.setCell ?_ (.inr GW941.out) _ | refine Kept.setCell ?_ (.inr GW942.out) _) | exact HK.out)) (fun k_ hs_ => (fun e_ => (HO_943003.out.1 k_ e_.symm)) hs_))
         (case side3 => exact HC0_1.out)
         (case side4 => exact Kd.R_tight rfl HO_943003.out)
         (case side5 => exact Kd.C_kept_call HR31.out (by repeat (first | (with_reducible first | exact HK.out | apply Kept.alloc | apply Kept.drewN | apply Kept.drew | refine Kept.setCell ?_ (.inr GW941.out) _ | refine Kept.setCell ?_ (.inr GW942.out) _) | exact HK.out)) (fun k_ hs_ => (fun e_ => (HO_943003.out.1 k_ e_.symm)) hs_))
         (case side6 => exact HC31.out)
         rintro e w37 ⟨rfl, hy0, hb, hkp⟩
         refine ⟨_, rfl, ?_⟩
         have n0_ := Aside0.mk (Kd.R_reok rfl hy0 (fun k_ e_ => HO_943003.out.1 k_ e_))
         have n1_ := Aside0.mk (blk_kept (Hof.Bw BK941.out) hkp (fun hs_ => (fun e_ => (Kd.R_ne HO_943003.out BK941.out (by decide)) e_) hs_))
         have n2_ := Aside0.mk (blk_kept (Hof.Bw BK942.out) hkp (fun hs_ => (fun e_ => (Kd.R_ne HO_943003.out BK942.out (by decide)) e_) hs_))
         have n3_ := Aside0.mk (Kept.then_ (S := (fun k_ => P1_3_ k_)) (by repeat (first | (with_reducible first | exact HK.out | apply Kept.alloc | apply Kept.drewN | apply Kept.drew | refine Kept.setCell ?_ (.inr GW941.out) _ | refine Kept.setCell ?_ (.inr GW942.out) _) | exact HK.out)) hkp (fun k_ hs_ => (fun e_ => (HO_943003.out.1 k_ e_.symm)) hs_))
         have n4_ := Aside0.mk hb
         clear HO_943003
         clear BK941
         clear BK942
         clear HK
         clear HB
         have HO_943003 := n0_
         have BK941 := n1_
         have BK942 := n2_
         have HK := n3_
         have HB := n4_
         clear n0_ n1_ n2_ n3_ n4_
         (try clear hb)
         (try clear hkp)
         (try clear hy0)
         refine hK.out _ _ ⟨(blk_cell BK941.out 0).trans rfl, (blk_cell BK941.out 1).trans rfl, (blk_cell BK942.out 0).trans rfl, (blk_cell BK942.out 1).trans rfl, (blk_cell BK942.out 2).trans rfl, (blk_cell BK942.out 3).trans rfl⟩ (fun hHeld => ?_)
         clear hK K
         refine norm_ (a' := ?_) ?_ ?_
         rotate_left
         ·show Act.put _ (some 32) _ = _
          simp only [Act.put, List.setIfInBounds_toArray, List.set_cons_zero, List.set_cons_succ, i64_w, i32_w]
          rfl
         refine done_ (by kernel_rfl) ?_
         try go_wp2
         (try simp only [← hl943003_1])
         go_roundg k1
         case measure => have := HK1.out; omega
         case rel => exact ⟨(wrap64 (x7_1 + 1)), (t951), Hof.F, H', ⟨by have := HK1.out; omega⟩, ⟨by (try simp only [hl943003_1]); (with_reducible repeat (first | apply Kd.R_alloc | apply Kd.R_drewN | apply Kd.R_drew)); exact HO_943003.out⟩, ⟨by (try simp only [hl943003_1]); (with_reducible repeat (first | refine blk_drewN ?_ _ | refine blk_drew ?_ | refine blk_alloc ?_ _)); exact BK941.out⟩, ⟨by (try simp only [hl943003_1]); (with_reducible repeat (first | refine blk_drewN ?_ _ | refine blk_drew ?_ | refine blk_alloc ?_ _)); exact BK942.out⟩, ⟨by repeat (first | (with_reducible first | exact HK.out | apply Kept.alloc | apply Kept.drewN | apply Kept.drew | refine Kept.setCell ?_ (.inr GW941.out) _ | refine Kept.setCell ?_ (.inr GW942.out) _) | exact HK.out)⟩, ⟨Hof.Lw HB.out⟩⟩
       ·rw [if_neg c20] at H
        exact absurd H (by simp)
      ·rw [if_neg c19] at H
       exact absurd H (by simp)
     ·rw [if_neg c18] at H
      exact absurd H (by simp)
    ·rw [if_neg c17] at H
     have c17b0 : decide (x7_1 < a1_0) = false := decide_eq_false c17
     clear c17
     simp only [Option.some.injEq, Prod.mk.injEq] at H
     obtain ⟨rfl, rfl⟩ := H
     have hnb38 := NB942_941.out
     have hnc38 := NB941_942.out
     obtain ⟨hcz39_0, hcz39_1, hcz39_2, hcz39_3, hfz39_0, hfz39_1, hfz39_2, hfz39_3⟩ := Hof.blk4 BK942.out
     go_wp2
     go_ret
     exact ⟨Hof.E, (by first | exact (Hof.Rw HO_943003.out) | (simp only [hl943003_1]; exact (Hof.Rw HO_943003.out))), Hof.L, by repeat (first | (with_reducible first | exact HK.out | apply Kept.alloc | apply Kept.drewN | apply Kept.drew | refine Kept.setCell ?_ (.inr GW941.out) _ | refine Kept.setCell ?_ (.inr GW942.out) _) | exact HK.out)⟩
end Go.Proofs.Ytmpodackojmojaa.Pr
end
