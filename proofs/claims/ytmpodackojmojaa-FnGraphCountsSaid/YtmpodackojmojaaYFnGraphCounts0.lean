/- The claim FnGraphCounts: every text that its row comes to, laid together by slim.py (the words of the kit's print, the printed walks, the pure law, the row). -/
import Derived.ArgAppend
import Derived.Below
import Derived.BigQuiet
import Derived.ChangeArms
import Derived.ChangeOld
import Derived.DataReads
import Derived.Deep.AppendLies
import Derived.Deep.CutBlock
import Derived.Deep.DeepCutAuto
import Derived.Deep.Draws
import Derived.Deep.LoopGhost
import Derived.Deep.OwnRows
import Derived.Deep.QuietTactic
import Derived.Deep.RegionHeld3
import Derived.Deep.Slices
import Derived.KernelRfl
import Derived.Laws.BitsLemmas
import Derived.Laws.BytesArg
import Derived.Laws.IdiomCopy
import Derived.Laws.MakeOwn
import Derived.Laws.OwnMore
import Derived.Laws.Rows
import Derived.Laws.Slices
import Derived.Laws.StructEq
import Derived.Lib.AppendStr
import Derived.Lib.ConvBytes
import Derived.Lib.OwnBridge
import Derived.Lib.RowBridge
import Derived.Maps.AppendAt
import Derived.OpenShut
import Derived.OrdersHeld
import Derived.OwnWalk
import Derived.ProofKit
import Derived.RowKit
import Derived.RowKit3
import Derived.Shelf.SlGeneric
import Derived.Shelf.SlLaysF
import Derived.Shelf.Slices.CompactI
import Derived.Shelf.Slices.In.SortNone
import Derived.Shelf.Sort.Plain
import Derived.ShutString
import Derived.SizedLaws
import Derived.Sort.Grow
import Derived.Sort.OwnSortedInts
import Derived.Tactics
import Derived.Test.YtmpodackojmojaaProg
import Derived.Test.YtmpodackojmojaaRows
import Derived.WalkKit
import Derived.WideLaws
section
set_option linter.unusedVariables false
set_option linter.unusedSimpArgs false
namespace Go.Proofs.ag.aT
open Go.RowKit
structure ae (p:Prop):Prop where mk :: (out:p)
structure bQ (w w':World):Prop where mk :: (out:∃ n,w' = w.drewN n)
theorem bQ.refl (w:World):bQ w w:=⟨⟨0,rfl⟩⟩
theorem bQ.step {w w':World} (h:bQ w w') (n:Nat):bQ w (w'.drewN n):=by
 obtain ⟨m,rfl⟩:=h
 exact ⟨⟨m+n,World.drewN_drewN ..⟩⟩
theorem bQ.grown {w w':World} (h:bQ w w'):Grown w w':=by
 obtain ⟨n,rfl⟩:=h
 induction n with
 | zero=>exact Grown.refl _
 | succ n ih=>rw [← World.drew_drewN];exact Grown.drew ih
theorem bQ.below {w w':World} (h:bQ w w'):Below w.heap.size w w':=by
 obtain ⟨n,rfl⟩:=h
 induction n with
 | zero=>exact Below.refl _ _
 | succ n ih=>rw [← World.drew_drewN];exact ih.drew
def rd (xs:List Int) (i:Int):Int:=xs.getD i.toNat 0
theorem cM {w W:World} (h:Below w.heap.size w W) (o:Obj):Below w.heap.size w (W.alloc o):=h.alloc h.size o
theorem hY {B:Nat} {w W:World} (h:Below B w W):Below B w W.drew:=⟨h.os,h.tape,h.output,h.size,h.block⟩
theorem cI {B:Nat} {w W:World} (h:Below B w W) (n:Nat):Below B w (W.drewN n):=⟨h.os,h.tape,h.output,h.size,h.block⟩
theorem js {B:Nat} {w w1 j:World} (h:Below B w w1) (hB:B≤w1.heap.size) (k:Below w1.heap.size w1 j):Below B w j :=
 h.trans ⟨k.os,k.tape,k.output,k.size,fun i hi=>k.block i (Nat.lt_of_lt_of_le hi hB)⟩
theorem gg {w w1:World} (h:Below w.heap.size w w1) (row:Option Nat):w.grownBy w1 row:=⟨h.os,h.tape,h.output,h.size,fun i hi _=>h.block i hi⟩
theorem e5 {w w1:World} (h:Below w.heap.size w w1) {a:Addr} {v:Value} (hc:w.cell? a = some v):w1.cell? a = some v:=(h.cell (World.block_lt_of_cell? w a hc)).trans hc
theorem add_plain (g j:Nat):(⟨g,0,none⟩:Addr).add j = ⟨g,j,none⟩:=by unfold Addr.add;split <;> simp_all
def dH (w:World) (k:IntKind) (A:Option Addr) (n:Nat) (xs:List Int):Prop :=
 xs.length = n∧n≤9223372036854775807∧(0 < n→∃ ad,A = some ad∧∀ j,j < n→w.cell? (ad.add j) = some (.int k (xs.getD j 0)))
theorem dH.at_ {w:World} {k:IntKind} {A:Option Addr} {n:Nat} {xs:List Int} (h:dH w k A n xs) (i:Int) (h0:0≤i) (h1:i < n):∃ ad,A = some ad∧w.cell? (ad.add i.toNat) = some (.int k (rd xs i)):=by
 obtain ⟨ad,e,hc⟩:=h.2.2 (by omega)
 exact ⟨ad,e,hc _ (by omega)⟩
theorem dH.below {w w1:World} {k:IntKind} {A:Option Addr} {n:Nat} {xs:List Int} (h:dH w k A n xs) (hb:Below w.heap.size w w1):dH w1 k A n xs :=
 ⟨h.1,h.2.1,fun hn=>by
  obtain ⟨ad,e,hc⟩:=h.2.2 hn
  exact ⟨ad,e,fun j hj=>e5 hb (hc j hj)⟩⟩
theorem qf (W:World) (base:Nat) (e:TypeId) (size:Nat):W.ownsRow base e size (.slice none 0 0) 0 []:=⟨by simp,.inl ⟨rfl,rfl⟩⟩
theorem fq {w:World} {base:Nat} {e:TypeId} {size n:Nat} {v:Value} {xs:List Value} (h:w.ownsRow base e size v n xs) (k:Nat) (hk:v.ownBlock = some k):base≤k:=by
 rcases h.2 with ⟨rfl,_⟩ | ⟨g,cap,cur,rfl,hb,_⟩
 ·simp [Value.ownBlock] at hk
 ·have:g = k:=by simpa [Value.ownBlock] using hk
  omega
theorem oI {w:World} {base:Nat} {e:TypeId} {size n:Nat} {v:Value} {xs:List Value} (h:w.ownsRow base e size v n xs) (k:Nat) (hk:v.ownBlock = some k):k < w.heap.size:=by
 rcases h.2 with ⟨rfl,_⟩ | ⟨g,cap,cur,rfl,hb,hh,_⟩
 ·simp [Value.ownBlock] at hk
 ·have:g = k:=by simpa [Value.ownBlock] using hk
  subst this
  exact (Array.getElem?_eq_some_iff.1 hh).1
theorem kE {w w1:World} {base:Nat} {e:TypeId} {size n:Nat} {v:Value} {xs:List Value} (h:w.ownsRow base e size v n xs) (hb:Below w.heap.size w w1):w1.ownsRow base e size v n xs :=
 h.kept (gg hb none) (by cases v.ownBlock <;> simp)
theorem dH.j1 {w:World} {k:IntKind} {A:Option Addr} {n:Nat} {xs:List Int} (h:dH w k A n xs) (i:Nat) (hi:i≤n):dH w k A i (xs.take i):=by
 refine ⟨by rw [List.length_take,h.1];omega,by have:=h.2.1;omega,fun hp=>?_⟩
 obtain ⟨ad,e,hc⟩:=h.2.2 (by omega)
 refine ⟨ad,e,fun j hj=>?_⟩
 rw [hc j (by omega)]
 simp [List.getD_eq_getElem?_getD,hj]
def fu {α:Type} (a b:Option α):Prop:=∀ r,a = some r→b = some r
theorem fu.refl {α:Type} (a:Option α):fu a a:=fun _ h=>h
theorem fu.none {α:Type} (b:Option α):fu Option.none b:=fun _ h=>by cases h
theorem fu.trans {α:Type} {a b c:Option α} (h:fu a b) (k:fu b c):fu a c:=fun r hr=>k r (h r hr)
theorem fu.ite {α:Type} {c:Prop} [Decidable c] {a a' b b':Option α} (h:fu a a') (k:fu b b'):fu (if c then a else b) (if c then a' else b'):=by
 split
 ·exact h
 ·exact k
theorem fu.bind {α β:Type} {a a':Option α} {f f':α→Option β} (h:fu a a') (k:∀ x,fu (f x) (f' x)):fu (a.bind f) (a'.bind f'):=by
 intro r hr
 obtain ⟨x,hx,hf⟩:=Option.bind_eq_some_iff.1 hr
 exact Option.bind_eq_some_iff.2 ⟨x,h x hx,k x r hf⟩
theorem fu.map {α β:Type} {a a':Option α} (f:α→β) (h:fu a a'):fu (a.map f) (a'.map f):=by
 intro r hr
 obtain ⟨x,hx,hf⟩:=Option.map_eq_some_iff.1 hr
 exact Option.map_eq_some_iff.2 ⟨x,h x hx,hf⟩
def cl {α:Type} (R:α→List Value→Prop) (size:Nat) (ps:List α) (cs:List Value):Prop :=
 cs.length = ps.length * size∧∀ j p,ps[j]? = some p→R p ((cs.drop (j * size)).take size)
theorem cl.none {α:Type} (R:α→List Value→Prop) (size:Nat):cl R size [] []:=⟨by simp,fun j p h=>by simp at h⟩
theorem cl.snoc {α:Type} {R:α→List Value→Prop} {size:Nat} {ps:List α} {cs c:List Value} {p:α} (h:cl R size ps cs) (hp:R p c) (hc:c.length = size):cl R size (ps ++ [p]) (cs ++ c):=by
 refine ⟨by rw [List.length_append,h.1,hc,List.length_append,List.length_singleton,Nat.add_mul,Nat.one_mul],fun j q hq=>?_⟩
 rcases Nat.lt_or_ge j ps.length with hj | hj
 ·rw [List.getElem?_append_left hj] at hq
  have h1:j * size+size≤cs.length:=by rw [h.1,← Nat.succ_mul];exact Nat.mul_le_mul_right _ hj
  have h2:=h.2 j q hq
  rw [List.drop_append_of_le_length (by omega),List.take_append_of_le_length (by rw [List.length_drop];omega)]
  exact h2
 ·have hj':j = ps.length:=by
   have:=(List.getElem?_eq_some_iff.1 hq).1
   rw [List.length_append,List.length_singleton] at this
   omega
  subst hj'
  have hq':p = q:=by simpa using hq
  subst hq'
  rw [← h.1,List.drop_left,← hc,List.take_length]
  exact hp
theorem cl.ia {α:Type} {R R':α→List Value→Prop} {size:Nat} {ps:List α} {cs:List Value} (h:cl R size ps cs) (hR:∀ p c,R p c→R' p c):cl R' size ps cs:=⟨h.1,fun j p hj=>hR _ _ (h.2 j p hj)⟩
def dw {α:Type} (R:α→List Value→Prop) (size:Nat) (w:World) (A:Option Addr) (n:Nat) (ps:List α):Prop :=
 ps.length = n∧n≤9223372036854775807∧(0 < n→∃ ad,A = some ad∧∀ j p,ps[j]? = some p→∃ c,c.length = size∧R p c∧∀ i u,c[i]? = some u→w.cell? (ad.add (j * size+i)) = some u)
theorem dw.tf {α:Type} {R:α→List Value→Prop} {size:Nat} {w:World} {A:Option Addr} {n:Nat} {ps:List α} (h:dw R size w A n ps) (d:α) (i:Int) (h0:0≤i) (h1:i < n) :
  ∃ ad c,A = some ad∧c.length = size∧R (ps.getD i.toNat d) c∧∀ j u,c[j]? = some u→w.cell? (ad.add (i.toNat * size+j)) = some u:=by
 obtain ⟨ad,e,hc⟩:=h.2.2 (by omega)
 have hl:i.toNat < ps.length:=by have:=h.1;omega
 obtain ⟨c,hs,hr,hcell⟩:=hc i.toNat _ (List.getElem?_eq_getElem hl)
 refine ⟨ad,c,e,hs,?_,hcell⟩
 rw [List.getD_eq_getElem?_getD,List.getElem?_eq_getElem hl]
 exact hr
theorem dw.ia {α:Type} {R R':α→List Value→Prop} {size:Nat} {w w1:World} {A:Option Addr} {n:Nat} {ps:List α} (h:dw R size w A n ps) (hb:Below w.heap.size w w1) (hR:∀ p c,R p c→R' p c):dw R' size w1 A n ps :=
 ⟨h.1,h.2.1,fun hn=>by
  obtain ⟨ad,e,hc⟩:=h.2.2 hn
  refine ⟨ad,e,fun j p hj=>?_⟩
  obtain ⟨c,hs,hr,hcell⟩:=hc j p hj
  exact ⟨c,hs,hR _ _ hr,fun i u hu=>e5 hb (hcell i u hu)⟩⟩
theorem k6 {α:Type} {R:α→List Value→Prop} {w:World} {base n size:Nat} {e:TypeId} {v:Value} {ps:List α} {cs:List Value} (h:w.ownsRow base e size v n cs) (hR:cl R size ps cs) (hn:ps.length = n) :
  ∃ A c,v = .slice A n c∧dw R size w A n ps:=by
 rcases Nat.eq_zero_or_pos n with h0 | h0
 ·rcases h.2 with ⟨rfl,rfl⟩ | ⟨g,cap,cur,rfl,_⟩
  ·exact ⟨none,0,rfl,hn,by omega,fun hp=>absurd hp (by omega)⟩
  ·exact ⟨_,cap,rfl,hn,by omega,fun hp=>absurd hp (by omega)⟩
 ·obtain ⟨g,cap,rfl,_,_⟩:=h.form h0
  have hm:n≤9223372036854775807:=by
   rcases h.2 with ⟨_,h1⟩ | ⟨g',cap',cur,he,_,_,h1,h2,_⟩
   ·omega
   ·simp only [maxLen] at h2
    omega
  refine ⟨_,cap,rfl,hn,hm,fun _=>⟨_,rfl,fun j p hj=>⟨(cs.drop (j * size)).take size,?_,hR.2 j p hj,fun i u hu=>?_⟩⟩⟩
  ·have hjl:=(List.getElem?_eq_some_iff.1 hj).1
   have h1:j * size+size≤cs.length:=by rw [hR.1,← Nat.succ_mul];exact Nat.mul_le_mul_right _ hjl
   rw [List.length_take,List.length_drop]
   omega
  ·refine h.cells (g:=g) rfl _ u ?_
   rw [List.getElem?_take] at hu
   split at hu
   ·rw [List.getElem?_drop] at hu
    exact hu
   ·cases hu
section
variable {P:Program} {ops:Array Oper} {rest:List Oper} {o:Oper} {a:Act} {Q:Exit→Act→World→Prop}
theorem eX {w0 W:World} (base:Nat) (hgd:o.guard = none) (s x:Operand) (t e:TypeId) (z:Value) (size bytes:Nat)
  (ho:o.op = .call { callee:=.builtin .append,args:=#[s,x],argTypes:=#[t,t] })
  (ht:P.underlying t = some (.slice e)) (hinfo:(P.info? e).map (fun i=>(i.zero,i.size,i.bytes)) = some (some z,size,bytes)) (hz:z.cells.size = size) (j:0 < size) (y:0 < bytes)
  (v:Value) (n:Nat) (xs ys:List Value) (hs:a.eval s = v) (hx:a.eval x = .slice (some ⟨W.heap.size,0,none⟩) 1 1) (hys:ys.length = size) (h1:∀ u∈ys,u.oneCell' = true)
  (HO:W.ownsRow base e size v n xs) (HB:Below base w0 W) (hbase:base≤W.heap.size) (hl:(n+1) * bytes≤140737488355328)
  (h:∀ v1 w1,w1.ownsRow base e size v1 (n+1) (xs ++ ys)→Below base w0 w1→W.grownBy w1 v.ownBlock→(v1.ownBlock = v.ownBlock∨∃ b,v1.ownBlock = some b∧W.heap.size≤b)→wpList P ops Q rest (a.put o.dst v1) w1) :
  wpList P ops Q (o :: rest) a (W.alloc (.cells ys.toArray e)):=by
 obtain ⟨i0,hi,hzz⟩:=Option.map_eq_some_iff.1 hinfo
 simp only [Prod.mk.injEq] at hzz
 obtain ⟨X,Y,a0⟩:=hzz
 have hlen:n+1≤140737488355328:=Nat.le_trans (Nat.le_mul_of_pos_right _ y) hl
 refine wpList_append_own_at (W.alloc (.cells ys.toArray e)) hgd s x t ho base e i0 z size bytes ht hi X Y a0 hz j v n xs hs (HO.alloc _) ⟨W.heap.size,0,none⟩ 1 1 ys hx (by rw [hys];simp)
  (by simpa using World.news_of_block (cs:=ys.toArray) (t:=e) (fr:=(0,0)) (heap_alloc_new W (.cells ys.toArray e))) h1 (by simp only [maxLen];omega) hl (by simp;omega) ?_
 intro v1 w1 hown hg _ hat
 refine h v1 w1 hown ((HB.alloc hbase _).grown hg (by simp;omega) (fq HO)) (World.grownBy.trans (World.grownBy_alloc W _ _) hg) ?_
 rcases hat with hat | hat
 ·exact .inl hat
 ·exact .inr ⟨_,hat,by simp⟩
end
theorem ic {w:World} {base:Nat} {e t:TypeId} {size n g:Nat} {v:Value} {xs:List Value} {cs:Array Value} (h:w.ownsRow base e size v n xs) (hg:w.heap[g]? = some (.cells cs t (0,0))) (hne:e≠t):some g≠v.ownBlock:=by
 rcases h.2 with ⟨rfl,_⟩ | ⟨g',cap,cur,rfl,_,hh,_⟩
 ·simp [Value.ownBlock]
 ·intro he
  have:g = g':=by simpa [Value.ownBlock] using he
  subst this
  rw [hg] at hh
  injection hh with hh
  injection hh with _ ht
  exact hne ht.symm
theorem lB {w:World} {base:Nat} {e:TypeId} {size n:Nat} {v:Value} {xs:List Value} (h:w.ownsRow base e size v n xs) {p:Addr} (hne:some p.block≠v.ownBlock) (u:Value):(w.setCell p u).ownsRow base e size v n xs:=by
 obtain ⟨h1,h2⟩:=h
 refine ⟨h1,?_⟩
 rcases h2 with h2 | ⟨g,cap,cur,rfl,hg,hh,r⟩
 ·exact .inl h2
 ·exact .inr ⟨g,cap,cur,rfl,hg,by rw [Below.heap_setCell _ _ _ _ (fun e=>hne (by rw [e];rfl))];exact hh,r⟩
theorem kF {w:World} {g:Nat} {t:TypeId} {cs:Array Value} (h:w.heap[g]? = some (.cells cs t (0,0))) (i:Nat) (u:Value):(w.setCell ⟨g,i,none⟩ u).heap[g]? = some (.cells (cs.setIfInBounds i u) t (0,0)):=by
 simp [World.setCell,Array.getElem?_modify,h]
theorem kG {w:World} {g:Nat} {t:TypeId} {cs:Array Value} (h:w.heap[g]? = some (.cells cs t (0,0))) {p:Addr} (hp:g≠p.block) (u:Value):(w.setCell p u).heap[g]? = some (.cells cs t (0,0)):=(Below.heap_setCell w p u g hp).trans h
theorem gh {w:World} {g:Nat} {o:Obj} (h:w.heap[g]? = some o):g < w.heap.size:=(Array.getElem?_eq_some_iff.1 h).1
theorem ah {w:World} {g:Nat} {t:TypeId} {cs:Array Value} (h:w.heap[g]? = some (.cells cs t (0,0))) (i:Nat):w.cell? ⟨g,i,none⟩ = cs[i]?:=cell_of_row w g i cs t (0,0) h
theorem aj {w:World} {g:Nat} {t:TypeId} {cs:Array Value} (h:w.heap[g]? = some (.cells cs t (0,0))) (i:Nat):w.frozen? ⟨g,i,none⟩ = false:=by simp [World.frozen?,h]
theorem cO {w w1:World} {g:Nat} {o:Obj} {row:Option Nat} (h:w.heap[g]? = some o) (hg:w.grownBy w1 row) (hne:some g≠row):w1.heap[g]? = some o:=(hg.block g (gh h) hne).trans h
def ay (w w':World) (g:Nat) (row:Option Nat):Prop:=w.heap.size≤w'.heap.size∧∀ i,i < w.heap.size→i≠g→some i≠row→w'.heap[i]? = w.heap[i]?
theorem ay.refl (w:World) (g:Nat) (row:Option Nat):ay w w g row:=⟨Nat.le_refl _,fun _ _ _ _=>rfl⟩
theorem ay.gi {w w1:World} {row:Option Nat} (h:w.grownBy w1 row) (g:Nat):ay w w1 g row:=⟨h.size,fun i hi _ hr=>h.block i hi hr⟩
theorem ay.dV {w w1:World} (h:Below w.heap.size w w1) (g:Nat) (row:Option Nat):ay w w1 g row:=⟨h.size,fun i hi _ _=>h.block i hi⟩
theorem ay.sq {w w1:World} {g:Nat} {row:Option Nat} (h:ay w w1 g row) (j:Nat) (u:Value):ay w (w1.setCell ⟨g,j,none⟩ u) g row :=
 ⟨by simpa [World.setCell] using h.1,fun i hi hg hr=>(Below.heap_setCell w1 ⟨g,j,none⟩ u i hg).trans (h.2 i hi hg hr)⟩
theorem ay.trans {w w1 y:World} {g:Nat} {row j:Option Nat} (h:ay w w1 g row) (k:ay w1 y g j) (hr:j = row∨∃ b,j = some b∧w.heap.size≤b):ay w y g row :=
 ⟨Nat.le_trans h.1 k.1,fun i hi hg hn=>by
  refine (k.2 i (Nat.lt_of_lt_of_le hi h.1) hg ?_).trans (h.2 i hi hg hn)
  rcases hr with rfl | ⟨b,rfl,hb⟩
  ·exact hn
  ·intro e
   injection e with e
   omega⟩
theorem ay.blk {w w1:World} {g g':Nat} {row:Option Nat} {o:Obj} (h:ay w w1 g row) (hb:w.heap[g']? = some o) (hg:g'≠g) (hr:some g'≠row):w1.heap[g']? = some o:=(h.2 g' (gh hb) hg hr).trans hb
theorem ay.own {w w1:World} {g:Nat} {row:Option Nat} {base:Nat} {e:TypeId} {size n:Nat} {v:Value} {xs:List Value} (h:ay w w1 g row) (ho:w.ownsRow base e size v n xs) (hg:v.ownBlock≠some g) (hr:v.ownBlock = none∨v.ownBlock≠row):w1.ownsRow base e size v n xs:=by
 obtain ⟨h1,h2⟩:=ho
 refine ⟨h1,?_⟩
 rcases h2 with h2 | ⟨b,cap,cur,rfl,hb,hh,r⟩
 ·exact .inl h2
 ·refine .inr ⟨b,cap,cur,rfl,hb,h.blk hh ?_ ?_,r⟩
  ·intro e
   exact hg (by rw [← e];rfl)
  ·rcases hr with hr | hr
   ·simp [Value.ownBlock] at hr
   ·exact hr
def Ev {α:Type} (g:Nat→Option α) (r:α):Prop:=∃ K,∀ k,K≤k→g k = some r
theorem Ev.now {α:Type} (r:α):Ev (fun _=>some r) r:=⟨0,fun _ _=>rfl⟩
theorem Ev.rounds {α:Type} {g:Nat→Option α} {r:α} (h:Ev g r):∃ k,g k = some r:=by
 obtain ⟨K,h⟩:=h
 exact ⟨K,h K (Nat.le_refl _)⟩
theorem Ev.bind {α β:Type} {g:Nat→Option α} {f:Nat→α→Option β} {a:α} {r:β} (h:Ev g a) (k:Ev (fun n=>f n a) r):Ev (fun n=>(g n).bind (f n)) r:=by
 obtain ⟨K,h⟩:=h
 obtain ⟨K',k⟩:=k
 refine ⟨max K K',fun n hn=>?_⟩
 have h1:=h n (by omega)
 have h2:=k n (by omega)
 simp only [h1,Option.bind_some]
 exact h2
theorem Ev.step {α:Type} {g f:Nat→Option α} {r:α} (h:∀ k,g (k+1) = f k) (k:Ev f r):Ev g r:=by
 obtain ⟨K,k⟩:=k
 refine ⟨K+1,fun n hn=>?_⟩
 obtain ⟨m,rfl⟩:∃ m,n = m+1:=⟨n - 1,by omega⟩
 rw [h]
 exact k m (by omega)
theorem Ev.congr {α:Type} {g f:Nat→Option α} {r:α} (h:∀ k,g k = f k) (k:Ev f r):Ev g r:=by
 obtain ⟨K,k⟩:=k
 exact ⟨K,fun n hn=>(h n).trans (k n hn)⟩
section
variable {P:Program} {ops:Array Oper} {o:Oper} {a:Act} {Q:Exit→Act→World→Prop} {K:Act→World→Prop}
theorem iz {w0 W:World} (base:Nat) (hw:Region.wanted o (yielded ops a.tmps) = true) (s x:Operand) (t e:TypeId) (z:Value) (size bytes:Nat)
  (ho:o.op = .call { callee:=.builtin .append,args:=#[s,x],argTypes:=#[t,t] })
  (ht:P.underlying t = some (.slice e)) (hinfo:(P.info? e).map (fun i=>(i.zero,i.size,i.bytes)) = some (some z,size,bytes)) (hz:z.cells.size = size) (j:0 < size) (y:0 < bytes)
  (v:Value) (n:Nat) (xs ys:List Value) (hs:a.eval s = v) (hx:a.eval x = .slice (some ⟨W.heap.size,0,none⟩) 1 1) (hys:ys.length = size) (h1:∀ u∈ys,u.oneCell' = true)
  (HO:W.ownsRow base e size v n xs) (HB:Below base w0 W) (hbase:base≤W.heap.size) (hl:(n+1) * bytes≤140737488355328)
  (h:∀ v1 w1,w1.ownsRow base e size v1 (n+1) (xs ++ ys)→Below base w0 w1→W.grownBy w1 v.ownBlock→(v1.ownBlock = v.ownBlock∨∃ b,v1.ownBlock = some b∧W.heap.size≤b)→K (a.put o.dst v1) w1) :
  if Region.wanted o (yielded ops a.tmps) = true then Oper.wp P o a (W.alloc (.cells ys.toArray e)) K Q else K (a.put o.dst undef) (W.alloc (.cells ys.toArray e)):=by
 obtain ⟨i0,hi,hzz⟩:=Option.map_eq_some_iff.1 hinfo
 simp only [Prod.mk.injEq] at hzz
 obtain ⟨X,Y,a0⟩:=hzz
 have hlen:n+1≤140737488355328:=Nat.le_trans (Nat.le_mul_of_pos_right _ y) hl
 rw [if_pos hw]
 obtain ⟨v1,w1,hr,hown,hg,_,hat⟩:=run_append_own_at (P:=P) (W.alloc (.cells ys.toArray e)) base t o.type e i0 z size bytes ht hi X Y a0 hz j v n xs (HO.alloc _) ⟨W.heap.size,0,none⟩ 1 1 ys (by rw [hys];simp)
  (by simpa using World.news_of_block (cs:=ys.toArray) (t:=e) (fr:=(0,0)) (heap_alloc_new W (.cells ys.toArray e))) h1 (by simp only [maxLen];omega) hl (by simp;omega)
 unfold Oper.wp execOp
 simp only [ho,resolve,invoke,builtin,Sem.run_bind,Sem.run_pure,Result.andThen_ok,List.map_toArray,List.map_cons,List.map_nil,hs,hx,hr]
 refine h v1 w1 hown ((HB.alloc hbase _).grown hg (by simp;omega) (fq HO)) (World.grownBy.trans (World.grownBy_alloc W _ _) hg) ?_
 rcases hat with hat | hat
 ·exact .inl hat
 ·exact .inr ⟨_,hat,by simp⟩
end
theorem mA {w:World} {base base':Nat} {e:TypeId} {size n:Nat} {v:Value} {xs:List Value} (h:w.ownsRow base e size v n xs) (hb:base'≤base):w.ownsRow base' e size v n xs:=by
 obtain ⟨h1,h2⟩:=h
 refine ⟨h1,?_⟩
 rcases h2 with h2 | ⟨g,cap,cur,rfl,hg,r⟩
 ·exact .inl h2
 ·exact .inr ⟨g,cap,cur,rfl,Nat.le_trans hb hg,r⟩
section
variable {α:Type} {enc:α→Value} {d:α}
def fy (enc:α→Value) (xs:List α):List Value:=xs.map enc
def qg (d:α) (xs:List α) (i:Int):α:=xs.getD i.toNat d
theorem j3 (xs:List α):(fy enc xs).length = xs.length:=by simp [fy]
theorem oJ (xs:List α) (j:Nat) (h:j < xs.length):(fy enc xs)[j]? = some (enc (xs.getD j d)):=by
 simp [fy,List.getElem?_eq_getElem h,List.getD_eq_getElem?_getD]
def dP (enc:α→Value) (d:α) (w:World) (A:Option Addr) (n:Nat) (xs:List α):Prop :=
 xs.length = n∧n≤9223372036854775807∧(0 < n→∃ ad,A = some ad∧∀ j,j < n→w.cell? (ad.add j) = some (enc (xs.getD j d)))
theorem dP.at_ {w:World} {A:Option Addr} {n:Nat} {xs:List α} (h:dP enc d w A n xs) (i:Int) (h0:0≤i) (h1:i < n):∃ ad,A = some ad∧w.cell? (ad.add i.toNat) = some (enc (qg d xs i)):=by
 obtain ⟨ad,e,hc⟩:=h.2.2 (by omega)
 exact ⟨ad,e,hc _ (by omega)⟩
theorem dP.below {w w1:World} {A:Option Addr} {n:Nat} {xs:List α} (h:dP enc d w A n xs) (hb:Below w.heap.size w w1):dP enc d w1 A n xs :=
 ⟨h.1,h.2.1,fun hn=>by
  obtain ⟨ad,e,hc⟩:=h.2.2 hn
  exact ⟨ad,e,fun j hj=>e5 hb (hc j hj)⟩⟩
theorem dP.j1 {w:World} {A:Option Addr} {n:Nat} {xs:List α} (h:dP enc d w A n xs) (i:Nat) (hi:i≤n):dP enc d w A i (xs.take i):=by
 refine ⟨by rw [List.length_take,h.1];omega,by have:=h.2.1;omega,fun hp=>?_⟩
 obtain ⟨ad,e,hc⟩:=h.2.2 (by omega)
 refine ⟨ad,e,fun j hj=>?_⟩
 rw [hc j (by omega)]
 simp [List.getD_eq_getElem?_getD,hj]
theorem o3 {W:World} {base g n cap:Nat} {e:TypeId} {xs:List α} (h:W.ownsRow base e 1 (.slice (some ⟨g,0,none⟩) n cap) n (fy enc xs)) (i:Int) (h0:0≤i) (h1:i < n) :
  W.cell? ⟨g,i.toNat,none⟩ = some (enc (qg d xs i))∧W.frozen? ⟨g,i.toNat,none⟩ = false:=by
 have hl:xs.length = n:=by have:=h.1;simp [fy] at this;exact this
 constructor
 ·have hc:=h.cells (g:=g) rfl i.toNat _ (oJ (d:=d) xs i.toNat (by omega))
  rwa [add_plain] at hc
 ·rcases h.2 with ⟨h',_⟩ | ⟨g',cap',cur,h',_,hh,_⟩
  ·cases h'
  ·have:g = g':=by injection h' with h';injection h' with h';injection h' with h'
   subst this
   simp [World.frozen?,hh]
theorem kH {W:World} {base g n cap:Nat} {e:TypeId} {xs:List α} (h:W.ownsRow base e 1 (.slice (some ⟨g,0,none⟩) n cap) n (fy enc xs)) (i:Int) (x:α) :
  (W.setCell ⟨g,i.toNat,none⟩ (enc x)).ownsRow base e 1 (.slice (some ⟨g,0,none⟩) n cap) n (fy enc (xs.set i.toNat x))∧W.grownBy (W.setCell ⟨g,i.toNat,none⟩ (enc x)) (some g):=by
 have hs:=h.stored i.toNat (enc x)
 have he:(fy enc xs).set i.toNat (enc x) = fy enc (xs.set i.toNat x):=by simp [fy,List.map_set]
 rwa [he] at hs
end
theorem bU {w:World} {g:Nat} {o:Obj} (h:w.heap[g]? = some o) (o':Obj):(w.alloc o').heap[g]? = some o:=(Below.heap_alloc w o' g (gh h)).trans h
theorem bC {w:World} {g:Nat} {o:Obj} (h:w.heap[g]? = some o):w.drew.heap[g]? = some o:=h
theorem cC {w:World} {g:Nat} {o:Obj} (h:w.heap[g]? = some o) (n:Nat):(w.drewN n).heap[g]? = some o:=h
theorem aU {w w1:World} {g:Nat} {o:Obj} (h:w.heap[g]? = some o) (hb:Below w.heap.size w w1):w1.heap[g]? = some o:=(hb.block g (gh h)).trans h
theorem qh (w:World) (o:Obj):(w.alloc o).heap[w.heap.size]? = some o:=heap_alloc_new w o
section
variable {P:Program}
theorem de {fn:Func} {p u:Tmp} {ty:TypeId} (h:fn.results = #[.cell p ty,.tmp u]) (tmps:Array Value) (w:World) (g:Nat) (t:TypeId) (cs:Array Value) (fr:Nat×Nat) (d:TypeDesc)
  (hp:tmps.getD p undef = .pointer (some ⟨g,0,none⟩)) (hg:w.heap[g]? = some (.cells cs t fr))
  (hu:P.underlying ty = some d) (hd:(match d with | .struct _ | .array _ _=>true | _=>false) = true) (hi:(P.info? ty).map (·.size) = some cs.size) :
  (results fn tmps).run P w = .ok (.tuple #[.agg cs,tmps.getD u undef]) w:=by
 have hp':tmps[p]?.getD undef = .pointer (some ⟨g,0,none⟩):=by simpa using hp
 simp [results,h,hp',asAddr,run_loadVar_row w g t ty cs fr d hg hu hd hi]
end
theorem rj {w:World} {base n m c size:Nat} {e:TypeId} {A:Option Addr} {xs:List Value} (h:w.ownsRow base e size (.slice A m c) n xs):m≤c:=by
 rcases h.2 with ⟨he,_⟩ | ⟨g,cap,cur,he,_,_,hnc,_⟩
 ·injection he with _ h2 h3
  omega
 ·injection he with _ h2 h3
  omega
def dm {α:Type} (R:α→List Value→Prop) (e:TypeId) (size:Nat) (w:World) (base:Nat) (v:Value) (ps:List α):Prop :=
 ∃ inner,w.ownsRow base e size v ps.length inner∧cl R size ps inner
section
variable {α:Type} {R R':α→List Value→Prop} {e:TypeId} {size:Nat} {w w1:World} {base:Nat} {v:Value} {ps:List α}
theorem dm.none_ (R:α→List Value→Prop) (e:TypeId) (size:Nat) (w:World) (base:Nat):dm R e size w base (.slice none 0 0) []:=⟨[],qf _ _ _ _,cl.none _ _⟩
theorem dm.ia (h:dm R e size w base v ps) (hR:∀ p c,R p c→R' p c):dm R' e size w base v ps:=by
 obtain ⟨inner,ho,hr⟩:=h
 exact ⟨inner,ho,hr.ia hR⟩
theorem dm.below (h:dm R e size w base v ps) (hb:Below w.heap.size w w1):dm R e size w1 base v ps:=by
 obtain ⟨inner,ho,hr⟩:=h
 exact ⟨inner,kE ho hb,hr⟩
theorem dm.sq (h:dm R e size w base v ps) {g:Nat} {t:TypeId} {cells:Array Value} (hb:w.heap[g]? = some (.cells cells t (0,0))) (ht:e≠t) (j:Nat) (u:Value):dm R e size (w.setCell ⟨g,j,none⟩ u) base v ps:=by
 obtain ⟨inner,ho,hr⟩:=h
 exact ⟨inner,lB ho (ic ho hb ht) u,hr⟩
theorem dm.reads (h:dm R e size w base v ps):∃ A c,v = .slice A ps.length c∧ps.length≤c∧dw R size w A ps.length ps:=by
 obtain ⟨inner,ho,hr⟩:=h
 obtain ⟨A,c,rfl,hrow⟩:=k6 ho hr rfl
 exact ⟨A,c,rfl,rj ho,hrow⟩
theorem dm.oK (h:dm R e size w base v ps) {g:Nat} {t:TypeId} {cells:Array Value} (hb:w.heap[g]? = some (.cells cells t (0,0))) (ht:e≠t):some g≠v.ownBlock:=by
 obtain ⟨inner,ho,hr⟩:=h
 exact ic ho hb ht
end
section
variable {P:Program} {ops:Array Oper} {rest:List Oper} {o:Oper} {a:Act} {Q:Exit→Act→World→Prop} {α:Type} {R:α→List Value→Prop}
theorem dm.append {w0 W:World} (base:Nat) (hgd:o.guard = none) (s x:Operand) (t e:TypeId) (z:Value) (size bytes:Nat)
  (ho:o.op = .call { callee:=.builtin .append,args:=#[s,x],argTypes:=#[t,t] })
  (ht:P.underlying t = some (.slice e)) (hinfo:(P.info? e).map (fun i=>(i.zero,i.size,i.bytes)) = some (some z,size,bytes)) (hz:z.cells.size = size) (X:0 < size) (Y:0 < bytes)
  (v:Value) (ps:List α) (p:α) (cs:List Value) (hs:a.eval s = v) (hx:a.eval x = .slice (some ⟨W.heap.size,0,none⟩) 1 1) (hp:R p cs) (hcs:cs.length = size) (h1:∀ u∈cs,u.oneCell' = true)
  (HO:dm R e size W base v ps) (HB:Below base w0 W) (hbase:base≤W.heap.size) (hl:(ps.length+1) * bytes≤140737488355328)
  (h:∀ v1 w1,dm R e size w1 base v1 (ps ++ [p])→Below base w0 w1→W.grownBy w1 v.ownBlock→(v1.ownBlock = v.ownBlock∨∃ b,v1.ownBlock = some b∧W.heap.size≤b)→wpList P ops Q rest (a.put o.dst v1) w1) :
  wpList P ops Q (o :: rest) a (W.alloc (.cells cs.toArray e)):=by
 obtain ⟨inner,hown,hr⟩:=HO
 refine eX base hgd s x t e z size bytes ho ht hinfo hz X Y v ps.length inner cs hs hx hcs h1 hown HB hbase hl ?_
 intro v1 w1 j a0 a1 y
 exact h v1 w1 ⟨inner ++ cs,by rw [List.length_append,List.length_singleton];exact j,hr.snoc hp hcs⟩ a0 a1 y
end
theorem dw.rq {α:Type} {R:α→List Value→Prop} {size:Nat} {w:World} {ad:Addr} {n:Nat} {ps:List α} (h:dw R size w (some ad) n ps) :
  ∃ inner,cl R size ps inner∧∀ j u,inner[j]? = some u→w.cell? (ad.add j) = some u:=by
 have key:∀ m,m≤ps.length→∃ inner,cl R size (ps.take m) inner∧∀ j u,inner[j]? = some u→w.cell? (ad.add j) = some u:=by
  intro m
  induction m with
  | zero=>exact fun _=>⟨[],cl.none _ _,fun j u hu=>by simp at hu⟩
  | succ m ih =>
   intro hm
   obtain ⟨inner,hr,hc⟩:=ih (by omega)
   obtain ⟨ad',he,hcell⟩:=h.2.2 (by have:=h.1;omega)
   injection he with he
   subst he
   obtain ⟨c,hcl,hp,hcc⟩:=hcell m _ (List.getElem?_eq_getElem (show m < ps.length by omega))
   refine ⟨inner ++ c,?_,fun j u hu=>?_⟩
   ·rw [List.take_succ_eq_append_getElem (show m < ps.length by omega)]
    exact hr.snoc hp hcl
   ·have hil:inner.length = m * size:=by rw [hr.1,List.length_take,Nat.min_eq_left (by omega)]
    rcases Nat.lt_or_ge j inner.length with hj | hj
    ·rw [List.getElem?_append_left hj] at hu
     exact hc j u hu
    ·rw [List.getElem?_append_right hj] at hu
     have:=hcc (j - inner.length) u hu
     rwa [hil,Nat.add_sub_cancel' (by omega)] at this
 obtain ⟨inner,hr,hc⟩:=key ps.length (Nat.le_refl _)
 rw [List.take_length] at hr
 exact ⟨inner,hr,hc⟩
structure Kd (α:Type) where
 sz:Nat
 E:List Nat
 K:World→α→List Value→Prop
 M:World→Nat→(Nat→Prop)→α→List Value→Prop
 K_len:∀ {w x cs},K w x cs→cs.length = sz
 K_one:∀ {w x cs},K w x cs→∀ u∈cs,u.oneCell' = true
 K_below:∀ {w w1:World} {x cs},Below w.heap.size w w1→K w x cs→K w1 x cs
 K_of_M:∀ {w base ok x cs},M w base ok x cs→K w x cs
 M_mono:∀ {w base ok ok' x cs},(∀ k,ok k→ok' k)→M w base ok x cs→M w base ok' x cs
 M_bound:∀ {w:World} {base ok x cs},M w base ok x cs→M w base (fun k=>ok k∧base≤k∧k < w.heap.size∧∃ q,q∈E∧∃ cells,w.heap[k]? = some (.cells cells q (0,0))) x cs
 M_move:∀ {w w1:World} {base ok x cs},(∀ k,ok k→w1.heap[k]? = w.heap[k]?)→M w base ok x cs→M w1 base ok x cs
 M_lower:∀ {w base base' ok x cs},base'≤base→M w base ok x cs→M w base' ok x cs
theorem oL {w w1:World} {base:Nat} {e:TypeId} {size n:Nat} {v:Value} {xs:List Value} (h:w.ownsRow base e size v n xs) (hm:∀ k,v.ownBlock = some k→w1.heap[k]? = w.heap[k]?):w1.ownsRow base e size v n xs:=by
 obtain ⟨h1,h2⟩:=h
 refine ⟨h1,?_⟩
 rcases h2 with h2 | ⟨g,cap,cur,rfl,hg,hh,r⟩
 ·exact .inl h2
 ·exact .inr ⟨g,cap,cur,rfl,hg,(hm g (by simp [Value.ownBlock])).trans hh,r⟩
theorem gE {w:World} {base:Nat} {e:TypeId} {size n:Nat} {v:Value} {xs:List Value} (h:w.ownsRow base e size v n xs) (k:Nat) (hk:v.ownBlock = some k):∃ cells,w.heap[k]? = some (.cells cells e (0,0)):=by
 rcases h.2 with ⟨rfl,_⟩ | ⟨g,cap,cur,rfl,hg,hh,r⟩
 ·simp [Value.ownBlock] at hk
 ·have:g = k:=by simpa [Value.ownBlock] using hk
  subst this
  exact ⟨cur,hh⟩
namespace Kd
def C {α:Type} (d:Kd α) (w:World) (A:Option Addr) (n:Nat) (xs:List α):Prop:=dw (d.K w) d.sz w A n xs
def R {α:Type} (d:Kd α) (e:Nat) (w:World) (base:Nat) (ok:Nat→Prop) (v:Value) (xs:List α):Prop :=
 (∀ k,v.ownBlock = some k→ok k)∧dm (d.M w base (fun k=>ok k∧some k≠v.ownBlock)) e d.sz w base v xs
section
variable {α:Type} {d:Kd α} {e:Nat} {w w1:World} {base:Nat} {ok ok':Nat→Prop} {v:Value} {xs:List α}
theorem aX {A:Option Addr} {n:Nat} (h:d.C w A n xs) (hb:Below w.heap.size w w1):d.C w1 A n xs:=dw.ia h hb (fun _ _ hp=>d.K_below hb hp)
theorem ki (d:Kd α) (e:Nat) (w:World) (base:Nat) (ok:Nat→Prop):d.R e w base ok (.slice none 0 0) []:=⟨fun k hk=>by simp [Value.ownBlock] at hk,dm.none_ _ _ _ _ _⟩
theorem aH (h:d.R e w base ok v xs) (hok:∀ k,ok k→ok' k):d.R e w base ok' v xs:=⟨fun k hk=>hok k (h.1 k hk),h.2.ia (fun _ _ hp=>d.M_mono (fun k hk=>⟨hok k hk.1,hk.2⟩) hp)⟩
theorem dZ (h:d.R e w base ok v xs):d.R e w base (fun k=>ok k∧base≤k∧k < w.heap.size∧∃ q,q∈e :: d.E∧∃ cells,w.heap[k]? = some (.cells cells q (0,0))) v xs:=by
 obtain ⟨h0,inner,ho,hr⟩:=h
 refine ⟨fun k hk=>?_,inner,ho,hr.ia (fun _ _ hp=>d.M_mono (fun k hk=>?_) (d.M_bound hp))⟩
 ·obtain ⟨cells,hc⟩:=gE ho k hk
  exact ⟨h0 k hk,fq ho k hk,oI ho k hk,e,List.mem_cons_self,cells,hc⟩
 ·obtain ⟨⟨h1,h2⟩,h3,h4,q,hq,hc⟩:=hk
  exact ⟨⟨h1,h3,h4,q,List.mem_cons_of_mem _ hq,hc⟩,h2⟩
theorem jt (h:d.R e w base ok v xs) (hm:∀ k,ok k→w1.heap[k]? = w.heap[k]?):d.R e w1 base ok v xs:=by
 obtain ⟨h0,inner,ho,hr⟩:=h
 exact ⟨h0,inner,oL ho (fun k hk=>hm k (h0 k hk)),hr.ia (fun _ _ hp=>d.M_move (fun k hk=>hm k hk.1) hp)⟩
theorem bD {base':Nat} (h:d.R e w base ok v xs) (hb:base'≤base):d.R e w base' ok v xs:=by
 obtain ⟨h0,inner,ho,hr⟩:=h
 exact ⟨h0,inner,mA ho hb,hr.ia (fun _ _ hp=>d.M_lower hb hp)⟩
theorem ju (h:d.R e w base ok v xs) (hm:∀ k,ok k→k < w.heap.size→w1.heap[k]? = w.heap[k]?):d.R e w1 base ok v xs :=
 aH (jt (dZ h) (fun k hk=>hm k hk.1 hk.2.2.1)) (fun _ hk=>hk.1)
theorem oM {x:α} {cs:List Value} (h:d.M w base ok x cs) (hm:∀ k,ok k→k < w.heap.size→w1.heap[k]? = w.heap[k]?):d.M w1 base ok x cs :=
 d.M_mono (fun _ hk=>hk.1) (d.M_move (fun k hk=>hm k hk.1 hk.2.2.1) (d.M_bound h))
theorem bK (h:d.R e w base ok v xs) (hb:Below w.heap.size w w1):d.R e w1 base ok v xs:=ju h (fun k _ hk=>hb.block k hk)
theorem qi {x:α} {cs:List Value} (h:d.M w base ok x cs) (hb:Below w.heap.size w w1):d.M w1 base ok x cs:=oM h (fun k _ hk=>hb.block k hk)
theorem nn (h:d.R e w base ok v xs) {row:Option Nat} (hg:w.grownBy w1 row) (hok:∀ k,ok k→some k≠row):d.R e w1 base ok v xs:=ju h (fun k ho hk=>hg.block k hk (hok k ho))
theorem aG (h:d.R e w base ok v xs) {p:Addr} (hok:∀ k,ok k→k≠p.block) (u:Value):d.R e (w.setCell p u) base ok v xs:=ju h (fun k ho _=>Below.heap_setCell w p u k (hok k ho))
theorem cT (h:d.R e w base ok v xs) {g:Nat} (hk:ay w w1 g none) (hok:∀ k,ok k→k≠g):d.R e w1 base ok v xs:=ju h (fun k ho hlt=>hk.2 k hlt (hok k ho) (by simp))
theorem b7 (h:d.R e w base ok v xs) {g t:Nat} {cells:Array Value} (hb:w.heap[g]? = some (.cells cells t (0,0))) (ht:∀ q,q∈e :: d.E→q≠t):d.R e w base (fun k=>ok k∧k≠g) v xs :=
 aH (dZ h) (fun k hk=>⟨hk.1,by
  obtain ⟨_,_,_,q,hq,cells',hc⟩:=hk
  rintro rfl
  rw [hc] at hb
  injection hb with hb
  injection hb with _ hb
  exact ht q hq hb⟩)
theorem kI (h:d.R e w base ok v xs):∃ A c,v = .slice A xs.length c∧xs.length≤c∧d.C w A xs.length xs:=by
 obtain ⟨A,c,he,hl,hr⟩:=dm.reads h.2
 exact ⟨A,c,he,hl,hr.ia (Below.refl _ _) (fun _ _ hp=>d.K_of_M hp)⟩
theorem bA (h:d.R e w base ok v xs):∃ A c,v = .slice A xs.length c:=by
 obtain ⟨A,c,he,_⟩:=kI h
 exact ⟨A,c,he⟩
theorem lC (h:d.R e w base ok v xs):∃ inner,w.ownsRow base e d.sz v xs.length inner:=by
 obtain ⟨_,inner,ho,_⟩:=h
 exact ⟨inner,ho⟩
theorem gj (h:d.R e w base ok v xs) {g t:Nat} {cells:Array Value} (hb:w.heap[g]? = some (.cells cells t (0,0))) (ht:e≠t):some g≠v.ownBlock:=dm.oK h.2 hb ht
end
def scalar {α:Type} (enc:α→Value) (h1:∀ x,(enc x).oneCell' = true):Kd α where
 sz:=1
 E:=[]
 K:=fun _ x cs=>cs = [enc x]
 M:=fun _ _ _ x cs=>cs = [enc x]
 K_len:=fun h=>by rw [h];rfl
 K_one:=fun h u hu=>by
  rw [h] at hu
  rw [List.mem_singleton.1 hu]
  exact h1 _
 K_below:=fun _ h=>h
 K_of_M:=fun h=>h
 M_mono:=fun _ h=>h
 M_bound:=fun h=>h
 M_move:=fun _ h=>h
 M_lower:=fun _ h=>h
def int (k:IntKind):Kd Int:=scalar (Value.int k) (fun _=>rfl)
def bool:Kd Bool:=scalar Value.bool (fun _=>rfl)
def slice {α:Type} (e:Nat) (d:Kd α):Kd (List α) where
 sz:=1
 E:=e :: d.E
 K:=fun w xs cs=>∃ A c,cs = [.slice A xs.length c]∧xs.length≤c∧d.C w A xs.length xs
 M:=fun w base ok xs cs=>∃ v,cs = [v]∧d.R e w base ok v xs
 K_len:=by
  rintro w x cs ⟨A,c,rfl,_⟩
  rfl
 K_one:=by
  rintro w x cs ⟨A,c,rfl,_⟩ u hu
  rw [List.mem_singleton.1 hu]
  rfl
 K_below:=by
  rintro w w1 x cs hb ⟨A,c,rfl,hl,hr⟩
  exact ⟨A,c,rfl,hl,aX hr hb⟩
 K_of_M:=by
  rintro w base ok x cs ⟨v,rfl,h⟩
  obtain ⟨A,c,rfl,hl,hr⟩:=kI h
  exact ⟨A,c,rfl,hl,hr⟩
 M_mono:=by
  rintro w base ok ok' x cs hok ⟨v,rfl,h⟩
  exact ⟨v,rfl,aH h hok⟩
 M_bound:=by
  rintro w base ok x cs ⟨v,rfl,h⟩
  exact ⟨v,rfl,dZ h⟩
 M_move:=by
  rintro w w1 base ok x cs hm ⟨v,rfl,h⟩
  exact ⟨v,rfl,jt h hm⟩
 M_lower:=by
  rintro w base base' ok x cs hb ⟨v,rfl,h⟩
  exact ⟨v,rfl,bD h hb⟩
def pair {α β:Type} (a:Kd α) (b:Kd β):Kd (α×β) where
 sz:=a.sz+b.sz
 E:=a.E ++ b.E
 K:=fun w x cs=>∃ j y,cs = j ++ y∧a.K w x.1 j∧b.K w x.2 y
 M:=fun w base ok x cs=>∃ j y,cs = j ++ y∧a.M w base ok x.1 j∧b.M w base ok x.2 y
 K_len:=by
  rintro w x cs ⟨j,y,rfl,h0,h1⟩
  rw [List.length_append,a.K_len h0,b.K_len h1]
 K_one:=by
  rintro w x cs ⟨j,y,rfl,h0,h1⟩ u hu
  rcases List.mem_append.1 hu with hu | hu
  ·exact a.K_one h0 u hu
  ·exact b.K_one h1 u hu
 K_below:=by
  rintro w w1 x cs hb ⟨j,y,rfl,h0,h1⟩
  exact ⟨j,y,rfl,a.K_below hb h0,b.K_below hb h1⟩
 K_of_M:=by
  rintro w base ok x cs ⟨j,y,rfl,h0,h1⟩
  exact ⟨j,y,rfl,a.K_of_M h0,b.K_of_M h1⟩
 M_mono:=by
  rintro w base ok ok' x cs hok ⟨j,y,rfl,h0,h1⟩
  exact ⟨j,y,rfl,a.M_mono hok h0,b.M_mono hok h1⟩
 M_bound:=by
  rintro w base ok x cs ⟨j,y,rfl,h0,h1⟩
  refine ⟨j,y,rfl,a.M_mono ?_ (a.M_bound h0),b.M_mono ?_ (b.M_bound h1)⟩
  ·rintro k ⟨h2,h3,h4,q,hq,hc⟩
   exact ⟨h2,h3,h4,q,List.mem_append_left _ hq,hc⟩
  ·rintro k ⟨h2,h3,h4,q,hq,hc⟩
   exact ⟨h2,h3,h4,q,List.mem_append_right _ hq,hc⟩
 M_move:=by
  rintro w w1 base ok x cs hm ⟨j,y,rfl,h0,h1⟩
  exact ⟨j,y,rfl,a.M_move hm h0,b.M_move hm h1⟩
 M_lower:=by
  rintro w base base' ok x cs hb ⟨j,y,rfl,h0,h1⟩
  exact ⟨j,y,rfl,a.M_lower hb h0,b.M_lower hb h1⟩
def bot {α:Type} (sz:Nat) (E:List Nat):Kd α where
 sz:=sz
 E:=E
 K:=fun _ _ _=>False
 M:=fun _ _ _ _ _=>False
 K_len:=fun h=>h.elim
 K_one:=fun h=>h.elim
 K_below:=fun _ h=>h
 K_of_M:=fun h=>h
 M_mono:=fun _ h=>h
 M_bound:=fun h=>h
 M_move:=fun _ h=>h
 M_lower:=fun _ h=>h
def upto {α:Type} (F:Kd α→Kd α) (sz:Nat) (E:List Nat):Nat→Kd α
 | 0=>bot sz E
 | n+1=>F (upto F sz E n)
theorem sr {α:Type} {d:Kd α} {w:World} {A:Option Addr} {n:Nat} {xs:List α} (h:d.C w A n xs) (z:α) (i:Int) (h0:0≤i) (h1:i < n) :
  ∃ ad c,A = some ad∧c.length = d.sz∧d.K w (xs.getD i.toNat z) c∧∀ j u,c[j]? = some u→w.cell? (ad.add (i.toNat * d.sz+j)) = some u:=dw.tf h z i h0 h1
theorem jv {α:Type} {d:Kd α} {e base:Nat} {ok okp:Nat→Prop} {W w1:World} {v v1:Value} {xs:List α} {p:α} {inner cs:List Value} (h0:∀ k,v.ownBlock = some k→ok k) (hr:cl (d.M W base (fun k=>ok k∧some k≠v.ownBlock)) d.sz xs inner) (hp:d.M W base okp p cs) (j:∀ k,okp k→ok k∧some k≠v.ownBlock) (hfresh:∀ k,W.heap.size≤k→ok k)
  (hown:w1.ownsRow base e d.sz v1 (xs.length+1) (inner ++ cs)) (hg:W.grownBy w1 v.ownBlock) (hat:v1.ownBlock = v.ownBlock∨∃ b,v1.ownBlock = some b∧W.heap.size≤b):d.R e w1 base ok v1 (xs ++ [p]):=by
 have hne:∀ k,some k≠v.ownBlock→k < W.heap.size→some k≠v1.ownBlock:=by
  intro k hk hlt
  rcases hat with hat | ⟨b,hb,hle⟩
  ·rw [hat];exact hk
  ·rw [hb]
   intro he
   injection he with he
   omega
 have step:∀ {q:α} {c:List Value} {o:Nat→Prop},d.M W base o q c→(∀ k,o k→ok k∧some k≠v.ownBlock)→d.M w1 base (fun k=>ok k∧some k≠v1.ownBlock) q c:=by
  intro q c o hq ho
  have h1:=d.M_move (w1:=w1) (fun k hk=>hg.block k hk.2.2.1 (ho k hk.1).2) (d.M_bound hq)
  exact d.M_mono (fun k hk=>⟨(ho k hk.1).1,hne k (ho k hk.1).2 hk.2.2.1⟩) h1
 refine ⟨fun k hk=>?_,inner ++ cs,by rw [List.length_append,List.length_singleton];exact hown,?_⟩
 ·rcases hat with hat | ⟨b,hb,hle⟩
  ·exact h0 k (hat ▸ hk)
  ·rw [hb] at hk
   injection hk with hk
   exact hfresh k (by omega)
 ·exact (hr.ia (fun _ _ hq=>step hq (fun _ hk=>hk))).snoc (step hp j) (d.K_len (d.K_of_M hp))
section
variable {P:Program} {ops:Array Oper} {rest:List Oper} {o:Oper} {a:Act} {Q:Exit→Act→World→Prop} {α:Type}
theorem en (d:Kd α) {w0 W:World} (base:Nat) (hgd:o.guard = none) (s x:Operand) (t e:TypeId) (z:Value) (bytes:Nat)
  (ho:o.op = .call { callee:=.builtin .append,args:=#[s,x],argTypes:=#[t,t] })
  (ht:P.underlying t = some (.slice e)) (hinfo:(P.info? e).map (fun i=>(i.zero,i.size,i.bytes)) = some (some z,d.sz,bytes)) (hz:z.cells.size = d.sz) (a0:0 < d.sz) (a1:0 < bytes)
  (v:Value) (xs:List α) (p:α) (cs:List Value) (ok okp:Nat→Prop) (hs:a.eval s = v) (hx:a.eval x = .slice (some ⟨W.heap.size,0,none⟩) 1 1) (hp:d.M W base okp p cs) (X:∀ k,okp k→ok k∧some k≠v.ownBlock) (hfresh:∀ k,W.heap.size≤k→ok k)
  (HO:d.R e W base ok v xs) (HB:Below base w0 W) (hbase:base≤W.heap.size) (hl:(xs.length+1) * bytes≤140737488355328)
  (h:∀ v1 w1,d.R e w1 base ok v1 (xs ++ [p])→Below base w0 w1→W.grownBy w1 v.ownBlock→(v1.ownBlock = v.ownBlock∨∃ b,v1.ownBlock = some b∧W.heap.size≤b)→wpList P ops Q rest (a.put o.dst v1) w1) :
  wpList P ops Q (o :: rest) a (W.alloc (.cells cs.toArray e)):=by
 obtain ⟨h0,inner,hown,hr⟩:=HO
 refine eX base hgd s x t e z d.sz bytes ho ht hinfo hz a0 a1 v xs.length inner cs hs hx (d.K_len (d.K_of_M hp)) (d.K_one (d.K_of_M hp)) hown HB hbase hl ?_
 intro v1 w1 y a2 Y j
 exact h v1 w1 (jv h0 hr hp X hfresh y Y j) a2 Y j
end
section
variable {P:Program} {ops:Array Oper} {o:Oper} {a:Act} {Q:Exit→Act→World→Prop} {Kc:Act→World→Prop} {α:Type}
theorem gU (d:Kd α) {w0 W:World} (base:Nat) (hw:Region.wanted o (yielded ops a.tmps) = true) (s x:Operand) (t e:TypeId) (z:Value) (bytes:Nat)
  (ho:o.op = .call { callee:=.builtin .append,args:=#[s,x],argTypes:=#[t,t] })
  (ht:P.underlying t = some (.slice e)) (hinfo:(P.info? e).map (fun i=>(i.zero,i.size,i.bytes)) = some (some z,d.sz,bytes)) (hz:z.cells.size = d.sz) (a0:0 < d.sz) (a1:0 < bytes)
  (v:Value) (xs:List α) (p:α) (cs:List Value) (ok okp:Nat→Prop) (hs:a.eval s = v) (hx:a.eval x = .slice (some ⟨W.heap.size,0,none⟩) 1 1) (hp:d.M W base okp p cs) (X:∀ k,okp k→ok k∧some k≠v.ownBlock) (hfresh:∀ k,W.heap.size≤k→ok k)
  (HO:d.R e W base ok v xs) (HB:Below base w0 W) (hbase:base≤W.heap.size) (hl:(xs.length+1) * bytes≤140737488355328)
  (h:∀ v1 w1,d.R e w1 base ok v1 (xs ++ [p])→Below base w0 w1→W.grownBy w1 v.ownBlock→(v1.ownBlock = v.ownBlock∨∃ b,v1.ownBlock = some b∧W.heap.size≤b)→Kc (a.put o.dst v1) w1) :
  if Region.wanted o (yielded ops a.tmps) = true then Oper.wp P o a (W.alloc (.cells cs.toArray e)) Kc Q else Kc (a.put o.dst undef) (W.alloc (.cells cs.toArray e)):=by
 obtain ⟨h0,inner,hown,hr⟩:=HO
 refine iz base hw s x t e z d.sz bytes ho ht hinfo hz a0 a1 v xs.length inner cs hs hx (d.K_len (d.K_of_M hp)) (d.K_one (d.K_of_M hp)) hown HB hbase hl ?_
 intro v1 w1 y a2 Y j
 exact h v1 w1 (jv h0 hr hp X hfresh y Y j) a2 Y j
end
theorem lD {α:Type} {enc:α→Value} (xs:List α):cl (fun (x:α) (cs:List Value)=>cs = [enc x]) 1 xs (fy enc xs):=by
 refine ⟨by simp [fy],fun j p hj=>?_⟩
 obtain ⟨hl,hp⟩:=List.getElem?_eq_some_iff.1 hj
 have hl':j < (fy enc xs).length:=by rw [j3];exact hl
 rw [Nat.mul_one,List.drop_eq_getElem_cons hl']
 simp [fy,hp]
theorem jw {α:Type} {enc:α→Value} {h1:∀ x,(enc x).oneCell' = true} {e:Nat} {w:World} {base:Nat} {ok:Nat→Prop} {v:Value} {xs:List α} (ho:w.ownsRow base e 1 v xs.length (fy enc xs)) (hok:∀ k,v.ownBlock = some k→ok k):(scalar enc h1).R e w base ok v xs:=⟨hok,fy enc xs,ho,lD xs⟩
theorem iA {α:Type} {enc:α→Value} {h1:∀ x,(enc x).oneCell' = true} {e:Nat} {w:World} {base:Nat} {ok:Nat→Prop} {v:Value} {xs:List α} (h:(scalar enc h1).R e w base ok v xs):w.ownsRow base e 1 v xs.length (fy enc xs):=by
 obtain ⟨_,inner,ho,hr⟩:=h
 have:inner = fy enc xs:=by
  apply List.ext_getElem?
  intro j
  rcases Nat.lt_or_ge j xs.length with hj | hj
  ·have h2:=hr.2 j _ (List.getElem?_eq_getElem hj)
   have hl:j < inner.length:=by have:=hr.1;simp [scalar] at this;omega
   have h3:(inner.drop (j * 1)).take 1 = [enc xs[j]]:=h2
   rw [Nat.mul_one,List.drop_eq_getElem_cons hl] at h3
   have h4:inner[j] = enc xs[j]:=by
    have h5:=congrArg List.head? h3
    rw [List.take_succ_cons] at h5
    exact Option.some.inj h5
   rw [List.getElem?_eq_getElem hl,h4]
   simp [fy,List.getElem?_eq_getElem hj]
  ·have h3:inner.length = xs.length:=by have:=hr.1;simp [scalar] at this;omega
   rw [List.getElem?_eq_none (by omega),List.getElem?_eq_none (by rw [j3];omega)]
 rw [← this]
 exact ho
theorem mB {α:Type} {enc:α→Value} {d:α} {h1:∀ x,(enc x).oneCell' = true} {w:World} {A:Option Addr} {n:Nat} {xs:List α} (h:(scalar enc h1).C w A n xs):dP enc d w A n xs:=by
 refine ⟨h.1,h.2.1,fun hn=>?_⟩
 obtain ⟨ad,e,hc⟩:=h.2.2 hn
 refine ⟨ad,e,fun j hj=>?_⟩
 have hl:j < xs.length:=by have:=h.1;omega
 obtain ⟨c,_,hK,hcell⟩:=hc j _ (List.getElem?_eq_getElem hl)
 have hK':c = [enc xs[j]]:=hK
 subst hK'
 have:=hcell 0 _ rfl
 simpa [scalar,List.getD_eq_getElem?_getD,List.getElem?_eq_getElem hl] using this
end Kd
namespace Kd
def Sub {α β:Type} (F:Kd α→Kd β) (E:List Nat):Prop:=∀ d:Kd α,(∀ q,q∈d.E→q∈E)→∀ q,q∈(F d).E→q∈E
end Kd
namespace Kd
theorem gF {α:Type} {d:Kd α} {e base:Nat} {ok:Nat→Prop} {W w1:World} {u v v1:Value} {xs:List α} (h:d.R e W base (fun k=>ok k∧some k≠v.ownBlock) u xs) (hg:W.grownBy w1 v.ownBlock) (hat:v1.ownBlock = v.ownBlock∨∃ b,v1.ownBlock = some b∧W.heap.size≤b):d.R e w1 base (fun k=>ok k∧some k≠v1.ownBlock) u xs:=by
 refine aH (jt (dZ h) (fun k hk=>hg.block k hk.2.2.1 hk.1.2)) (fun k hk=>⟨hk.1.1,?_⟩)
 rcases hat with hat | ⟨b,hb,hle⟩
 ·rw [hat];exact hk.1.2
 ·rw [hb]
  intro he
  injection he with he
  have:=hk.2.2.1
  omega
theorem qU {α:Type} {d:Kd α} {e base:Nat} {ok:Nat→Prop} {w:World} {v:Value} {xs:List α} (h:d.R e w base ok v xs):(slice e d).M w base ok xs [v]:=⟨v,rfl,h⟩
end Kd
namespace Kd
section
variable {α β:Type} {d:Kd α} {d':Kd β} {e e':Nat} {w w1 W:World} {base b b':Nat} {ok ok' okv oku:Nat→Prop} {v u:Value} {xs:List α} {ys:List β}
theorem bN (h:d.R e w base ok v xs) (o:Obj):d.R e (w.alloc o) base ok v xs:=bK h (cM (Below.refl _ _) o)
theorem bt (h:d.R e w base ok v xs):d.R e w.drew base ok v xs:=bK h (hY (Below.refl _ _))
theorem bO (h:d.R e w base ok v xs) (m:Nat):d.R e (w.drewN m) base ok v xs:=bK h (cI (Below.refl _ _) m)
theorem nq {A:Option Addr} {n:Nat} (h:d.C w A n xs) (o:Obj):d.C (w.alloc o) A n xs:=aX h (cM (Below.refl _ _) o)
theorem oN {A:Option Addr} {n:Nat} (h:d.C w A n xs):d.C w.drew A n xs:=aX h (hY (Below.refl _ _))
theorem nr {A:Option Addr} {n:Nat} (h:d.C w A n xs) (m:Nat):d.C (w.drewN m) A n xs:=aX h (cI (Below.refl _ _) m)
theorem su (d:Kd α) (w:World):d.C w none ([]:List α).length []:=⟨rfl,by simp,fun h=>absurd h (Nat.lt_irrefl 0)⟩
theorem aJ {A:Option Addr} {n c:Nat} (h:d.R e w base ok (.slice A n c) xs):n = xs.length∧n≤c∧d.C w A xs.length xs:=by
 obtain ⟨A',c',he,hl,hr⟩:=kI h
 injection he with h1 h2 h3
 subst h1
 exact ⟨h2,by omega,hr⟩
theorem dW (h:d.R e w base ok v xs):∀ k,v.ownBlock = some k→k < w.heap.size:=by
 obtain ⟨inner,ho⟩:=lC h
 exact oI ho
theorem cP (h:d.R e w base ok v xs):∀ k,v.ownBlock = some k→base≤k:=by
 obtain ⟨inner,ho⟩:=lC h
 exact fq ho
theorem ie (h:d.R e w base ok v xs) (hp:0 < xs.length):∃ g cap,v = .slice (some ⟨g,0,none⟩) xs.length cap∧base≤g∧g < w.heap.size∧∃ cells,w.heap[g]? = some (.cells cells e (0,0)):=by
 obtain ⟨inner,ho⟩:=lC h
 obtain ⟨g,cap,he,hb,hl⟩:=ho.form hp
 obtain ⟨cells,hc⟩:=gE ho g (by rw [he];simp [Value.ownBlock])
 exact ⟨g,cap,he,hb,hl,cells,hc⟩
end
section
variable {w W:World} {A:Option Addr} {n:Nat}
theorem cF {k:IntKind} {xs:List Int} (h:(Kd.int k).C w A n xs) (i:Int) (h0:0≤i) (h1:i < n):∃ ad,A = some ad∧w.cell? (ad.add i.toNat) = some (.int k (rd xs i)) :=
 dP.at_ (mB (enc:=Value.int k) (d:=(0:Int)) (h1:=fun _=>rfl) h) i h0 h1
variable {α:Type} {enc:α→Value} {h1:∀ x,(enc x).oneCell' = true} {e base g cap:Nat} {ok:Nat→Prop} {xs:List α}
theorem ru (d:α) (h:(scalar enc h1).R e W base ok (.slice (some ⟨g,0,none⟩) xs.length cap) xs) (i:Int) (h0:0≤i) (hi:i < xs.length):W.cell? ⟨g,i.toNat,none⟩ = some (enc (qg d xs i))∧W.frozen? ⟨g,i.toNat,none⟩ = false:=o3 (iA h) i h0 hi
theorem qV (h:(scalar enc h1).R e W base ok (.slice (some ⟨g,0,none⟩) xs.length cap) xs) (i:Int) (x:α):(scalar enc h1).R e (W.setCell ⟨g,i.toNat,none⟩ (enc x)) base ok (.slice (some ⟨g,0,none⟩) xs.length cap) (xs.set i.toNat x)∧W.grownBy (W.setCell ⟨g,i.toNat,none⟩ (enc x)) (some g):=by
 obtain ⟨ho,hg⟩:=kH (iA h) i x
 exact ⟨jw (by rw [List.length_set];exact ho) h.1,hg⟩
end
section
variable {P:Program} {ops:Array Oper} {rest:List Oper} {o:Oper} {a:Act} {Q:Exit→Act→World→Prop}
theorem kj {W w1:World} {v:Value} (hgd:o.guard = none) (hrun:(execOp a.eval o).run P W = .ok (.value v) w1) (h:wpList P ops Q rest (a.put o.dst v) w1):wpList P ops Q (o :: rest) a W:=by
 refine wpList_plain hgd fun K hK=>?_
 unfold Oper.wp
 rw [hrun]
 exact hK _ _ h
variable {α:Type}
theorem jx (d:Kd α) {w0 W:World} (base e:Nat) (hgd:o.guard = none) {N:Tmp} (_hd:o.dst = some N) {xs:List α} {inner:List Value} {ok okp:Nat→Prop}
  (hrun:(execOp a.eval o).run P W = .ok (.value (.slice (some ⟨W.heap.size,0,none⟩) xs.length xs.length)) (W.alloc (.cells inner.toArray e)))
  (hrep:cl (d.M W base okp) d.sz xs inner) (hok:∀ k,okp k→ok k) (hfresh:ok W.heap.size) (HB:Below base w0 W) (hbase:base≤W.heap.size) (hm:xs.length≤9223372036854775807)
  (h:∀ v1 w1,d.R e w1 base ok v1 xs→Below base w0 w1→W.grownBy w1 none→(∃ b,v1.ownBlock = some b∧W.heap.size≤b)→wpList P ops Q rest (a.put o.dst v1) w1):wpList P ops Q (o :: rest) a W:=by
 refine kj hgd hrun (h _ _ ⟨fun k hk=>?_,inner,?_,?_⟩ (HB.alloc hbase _) (World.grownBy_alloc W _ none) ⟨W.heap.size,by simp [Value.ownBlock],Nat.le_refl _⟩)
 ·have:W.heap.size = k:=by simpa [Value.ownBlock] using hk
  subst this
  exact hfresh
 ·have h2:=World.ownsRow_lit (base:=base) (e:=e) (size:=d.sz) W inner.toArray xs.length hbase (by simpa [maxLen] using hm) (by simpa using hrep.1)
  simpa using h2
 ·refine hrep.ia (fun p c hp=>d.M_mono (fun k hk=>⟨hok k hk.1,fun he=>?_⟩) (qi (d.M_bound hp) (cM (Below.refl _ _) _)))
  have h3:k = W.heap.size:=by simpa [Value.ownBlock] using he
  have:=hk.2.2.1
  omega
theorem o4 {α:Type} {R:α→List Value→Prop} {z:Value} {size:Nat} {z0:α} (hz:z.cells.size = size) (hs:0 < size) (h0:R z0 z.cells.toList) (m:Nat):cl R size (List.replicate m z0) (madeCells z.cells (m * size)).toList:=by
 refine ⟨by simp [size_madeCells],fun j p hj=>?_⟩
 obtain ⟨hjl,hp⟩:=List.getElem?_eq_some_iff.1 hj
 have hjm:j < m:=by simpa using hjl
 have hp':z0 = p:=by simpa using hp
 subst hp'
 have hle:j * size+size≤m * size:=by rw [← Nat.succ_mul];exact Nat.mul_le_mul_right _ hjm
 have:((madeCells z.cells (m * size)).toList.drop (j * size)).take size = z.cells.toList:=by
  apply List.ext_getElem
  ·simp [size_madeCells,hz]
   omega
  ·intro i h1 h2
   have hi:i < size:=by rw [Array.length_toList,hz] at h2;exact h2
   have hmod:(j * size+i) % size = i:=by
    rw [Nat.mul_comm,Nat.mul_add_mod]
    exact Nat.mod_eq_of_lt hi
   simp [madeCells,hz,hmod]
   rw [getElem!_pos z.cells i (by omega)]
 rw [this]
 exact h0
theorem kJ (d:Kd α) {w0 W:World} (base e:Nat) (hgd:o.guard = none) {N:Tmp} (hd:o.dst = some N) (t:TypeId) (x y:Operand) (ho:o.op = .makeSlice t x y) (n:Int) (hx:a.eval x = .int .i64 n) (hy:a.eval y = .int .i64 n)
  (ht:P.underlying t = some (.slice e)) (z:Value) (bytes:Nat) (hinfo:(P.info? e).map (fun i=>(i.zero,i.size,i.bytes)) = some (some z,d.sz,bytes)) (hz:z.cells.size = d.sz) (j:0 < d.sz) (X:0 < bytes)
  (z0:α) {ok okp:Nat→Prop} (hzero:d.M W base okp z0 z.cells.toList) (hok:∀ k,okp k→ok k) (hfresh:ok W.heap.size) (h0:0≤n) (hl:n.toNat * bytes≤281474976710656) (HB:Below base w0 W) (hbase:base≤W.heap.size)
  (h:∀ v1 w1,d.R e w1 base ok v1 (List.replicate n.toNat z0)→Below base w0 w1→W.grownBy w1 none→(∃ b,v1.ownBlock = some b∧W.heap.size≤b)→wpList P ops Q rest (a.put o.dst v1) w1):wpList P ops Q (o :: rest) a W:=by
 obtain ⟨m,rfl⟩:=Int.eq_ofNat_of_zero_le h0
 simp only [Int.toNat_natCast] at hl h
 obtain ⟨i0,hi,hzz⟩:=Option.map_eq_some_iff.1 hinfo
 simp only [Prod.mk.injEq] at hzz
 obtain ⟨Y,a0,a1⟩:=hzz
 have hm:m≤281474976710656:=Nat.le_trans (Nat.le_mul_of_pos_right _ X) hl
 have hr:=run_make (P:=P) W t e i0 z ht hi Y .i64 .i64 (m:Int) (m:Int) (by omega) (by omega)
  (by
   have h3:((i0.bytes * m:Nat):Int)≤281474976710656:=by rw [a1,Nat.mul_comm];omega
   rwa [Int.natCast_mul] at h3) (by omega)
 simp only [Int.toNat_natCast] at hr
 rw [a0] at hr
 refine jx d base e hgd hd (xs:=List.replicate m z0) (inner:=(madeCells z.cells (m * d.sz)).toList) (okp:=okp) (ok:=ok) ?_ (o4 hz j hzero m) hok hfresh HB hbase (by simp;omega) h
 simp [execOp,ho,hx,hy,hr]
end
end Kd
def sv (w:World) (base:Nat) (e:TypeId) (size:Nat) (v:Value) (n:Nat) (xs:List Value):Prop :=
  xs.length = n * size ∧
  ((n = 0∧∃ A,v = .slice A 0 0∧∀ a,A = some a→base≤a.block∧∃ cur,w.heap[a.block]? = some (.cells cur e (0,0))) ∨
   ∃ g off cap cur,v = .slice (some ⟨g,off * size,none⟩) n cap∧base≤g∧w.heap[g]? = some (.cells cur e (0,0))∧n≤cap∧off+cap≤maxLen∧cur.size = (off+cap) * size∧(cur.toList.drop (off * size)).take (n * size) = xs)
section
variable {w w1:World} {base n size:Nat} {e:TypeId} {v:Value} {xs:List Value}
theorem oO (h:w.ownsRow base e size v n xs):sv w base e size v n xs:=by
 obtain ⟨h1,h2⟩:=h
 refine ⟨h1,?_⟩
 rcases h2 with ⟨rfl,h0⟩ | ⟨g,cap,cur,rfl,hb,hh,hnc,hcm,hcs,ht⟩
 ·exact .inl ⟨h0,none,rfl,fun a ha=>by cases ha⟩
 ·exact .inr ⟨g,0,cap,cur,by rw [Nat.zero_mul],hb,hh,hnc,by rw [Nat.zero_add];exact hcm,by rw [Nat.zero_add];exact hcs,by rw [Nat.zero_mul,List.drop_zero];exact ht⟩
theorem kK (g o j:Nat):(⟨g,o,none⟩:Addr).add j = ⟨g,o+j,none⟩:=by unfold Addr.add;split <;> simp_all
end
namespace Kd
def Q {α:Type} (d:Kd α) (e:Nat) (w:World) (base:Nat) (ok:Nat→Prop) (v:Value) (xs:List α):Prop :=
 (∀ k,v.ownBlock = some k→ok k)∧∃ inner,sv w base e d.sz v xs.length inner∧cl (d.M w base (fun k=>ok k∧some k≠v.ownBlock)) d.sz xs inner
section
variable {α:Type} {d:Kd α} {e:Nat} {w w1 W:World} {base:Nat} {ok ok':Nat→Prop} {v:Value} {xs:List α}
theorem ry (h:d.R e w base ok v xs):d.Q e w base ok v xs:=by
 obtain ⟨h0,inner,ho,hr⟩:=h
 exact ⟨h0,inner,oO ho,hr⟩
theorem qW (d:Kd α) (e:Nat) (w:World) (base:Nat) (ok:Nat→Prop):d.Q e w base ok (.slice none 0 0) []:=ry (ki d e w base ok)
end
end Kd
namespace Kd
section
variable {α:Type} {d:Kd α} {e e':Nat} {w w1 W:World} {base:Nat} {ok:Nat→Prop} {u v:Value} {xs:List α}
theorem qj (h:d.R e w base ok v xs):∀ k,v.ownBlock = some k→∃ cells,w.heap[k]? = some (.cells cells e (0,0)):=by
 obtain ⟨inner,ho⟩:=lC h
 exact fun k hk=>gE ho k hk
theorem lE (h:d.R e W base ok u xs) (hty:∀ k,v.ownBlock = some k→∃ cells,W.heap[k]? = some (.cells cells e' (0,0))) (ht:∀ q,q∈e :: d.E→q≠e'):d.R e W base (fun k=>ok k∧some k≠v.ownBlock) u xs:=by
 refine aH (dZ h) (fun k hk=>⟨hk.1,fun he=>?_⟩)
 obtain ⟨_,_,_,q,hq,cells,hc⟩:=hk
 obtain ⟨cells',hc'⟩:=hty k he.symm
 rw [hc] at hc'
 injection hc' with hc'
 injection hc' with _ hc'
 exact ht q hq hc'
theorem dI (hu:d.R e W base ok u xs) (hbase:∀ k,v.ownBlock = some k→W.heap.size≤k) (hb:Below W.heap.size W w1):d.R e w1 base (fun k=>ok k∧some k≠v.ownBlock) u xs :=
 aH (jt (dZ hu) (fun k hk=>hb.block k hk.2.2.1)) (fun k hk=>⟨hk.1,fun he=>by have:=hbase k he.symm;have:=hk.2.2.1;omega⟩)
theorem cX (h:d.R e w1 W.heap.size ok v xs) (hlt:∀ k,u.ownBlock = some k→k < W.heap.size):d.R e w1 W.heap.size (fun k=>ok k∧some k≠u.ownBlock) v xs :=
 aH (dZ h) (fun k hk=>⟨hk.1,fun he=>by have:=hlt k he.symm;have:=hk.2.1;omega⟩)
theorem fresh' (hlt:∀ k,u.ownBlock = some k→k < W.heap.size):∀ k,W.heap.size≤k→some k≠u.ownBlock:=fun k hk he=>by have:=hlt k he.symm;omega
end
end Kd
theorem o5 {n c g:Nat} {A:Option Addr} (hne:some g≠(Value.slice A n c).ownBlock):∀ ad,A = some ad→0 < n→ad.block≠g:=by
 rintro ad rfl _ rfl
 exact hne (by simp [Value.ownBlock])
namespace Kd
section
variable {α:Type} {d:Kd α} {e base g n cap:Nat} {ok okp:Nat→Prop} {W:World} {xs:List α}
theorem rz (h:d.R e W base ok (.slice (some ⟨g,0,none⟩) n cap) xs) (z:α) (i:Int) (h0:0≤i) (h1:i < n) :
  ∃ c,c.length = d.sz∧d.M W base (fun k=>ok k∧k≠g) (xs.getD i.toNat z) c∧(∀ j u,c[j]? = some u→W.cell? ⟨g,i.toNat * d.sz+j,none⟩ = some u)∧∀ j,W.frozen? ⟨g,i.toNat * d.sz+j,none⟩ = false:=by
 obtain ⟨hn,hnc,hC⟩:=aJ h
 obtain ⟨_,inner,ho,hr⟩:=h
 have hil:i.toNat < xs.length:=by omega
 have hseg:i.toNat * d.sz+d.sz≤inner.length:=by rw [hr.1,← Nat.succ_mul];exact Nat.mul_le_mul_right _ hil
 have hM:=hr.2 i.toNat _ (List.getElem?_eq_getElem hil)
 refine ⟨(inner.drop (i.toNat * d.sz)).take d.sz,by rw [List.length_take,List.length_drop];omega,?_,fun j u hu=>?_,fun j=>?_⟩
 ·rw [List.getD_eq_getElem?_getD,List.getElem?_eq_getElem hil]
  exact d.M_mono (fun k hk=>⟨hk.1,fun he=>hk.2 (by rw [he];simp [Value.ownBlock])⟩) hM
 ·rw [List.getElem?_take] at hu
  split at hu
  ·rw [List.getElem?_drop] at hu
   have:=ho.cells (g:=g) (by simp [Value.ownBlock]) _ u hu
   rwa [add_plain] at this
  ·cases hu
 ·obtain ⟨cells,hc⟩:=gE ho g (by simp [Value.ownBlock])
  exact aj hc _
end
end Kd
namespace Kd
def fixed {α:Type} (d:Kd α) (w0:World):Kd α where
 sz:=d.sz
 E:=[]
 K:=fun _ x cs=>d.K w0 x cs
 M:=fun _ _ _ x cs=>d.K w0 x cs
 K_len:=d.K_len
 K_one:=d.K_one
 K_below:=fun _ h=>h
 K_of_M:=fun h=>h
 M_mono:=fun _ h=>h
 M_bound:=fun h=>h
 M_move:=fun _ h=>h
 M_lower:=fun _ h=>h
def tF {α:Type} (a b:Kd α) (h:b.sz = a.sz):Kd α where
 sz:=a.sz
 E:=a.E ++ b.E
 K:=fun w x cs=>a.K w x cs∨b.K w x cs
 M:=fun w base ok x cs=>a.M w base ok x cs∨b.M w base ok x cs
 K_len:=fun hk=>hk.elim a.K_len (fun hk=>(b.K_len hk).trans h)
 K_one:=fun hk=>hk.elim a.K_one b.K_one
 K_below:=fun hb hk=>hk.imp (a.K_below hb) (b.K_below hb)
 K_of_M:=fun hk=>hk.imp a.K_of_M b.K_of_M
 M_mono:=fun hok hk=>hk.imp (a.M_mono hok) (b.M_mono hok)
 M_bound:=fun hk=>hk.imp
  (fun hk=>a.M_mono (fun _ ⟨h1,h2,h3,q,hq,hc⟩=>⟨h1,h2,h3,q,List.mem_append_left _ hq,hc⟩) (a.M_bound hk))
  (fun hk=>b.M_mono (fun _ ⟨h1,h2,h3,q,hq,hc⟩=>⟨h1,h2,h3,q,List.mem_append_right _ hq,hc⟩) (b.M_bound hk))
 M_move:=fun hm hk=>hk.imp (a.M_move hm) (b.M_move hm)
 M_lower:=fun hb hk=>hk.imp (a.M_lower hb) (b.M_lower hb)
theorem mC {α β:Type} {E:List Nat} {G H:Kd α→Kd β} (h:∀ d,(H d).sz = (G d).sz) (hG:Sub G E) (hH:Sub H E):Sub (fun d=>tF (G d) (H d) (h d)) E:=fun d hd q hq=>by
 rcases List.mem_append.1 hq with hq | hq
 ·exact hG d hd q hq
 ·exact hH d hd q hq
end Kd
namespace Kd
theorem lF {α:Type} {R:α→List Value→Prop} {size:Nat} {ps qs:List α} {cs ds:List Value} (h:cl R size ps cs) (h':cl R size qs ds):cl R size (ps ++ qs) (cs ++ ds):=by
 refine ⟨by rw [List.length_append,List.length_append,h.1,h'.1,Nat.add_mul],fun j p hj=>?_⟩
 rcases Nat.lt_or_ge j ps.length with hlt | hge
 ·rw [List.getElem?_append_left hlt] at hj
  have hle:j * size+size≤cs.length:=by rw [h.1,← Nat.succ_mul];exact Nat.mul_le_mul_right _ hlt
  rw [List.drop_append_of_le_length (by omega),List.take_append_of_le_length (by rw [List.length_drop];omega)]
  exact h.2 j p hj
 ·rw [List.getElem?_append_right hge] at hj
  have h2:=h'.2 (j - ps.length) p hj
  have hle:ps.length * size≤j * size:=Nat.mul_le_mul_right _ hge
  rw [List.drop_append,List.drop_eq_nil_of_le (by rw [h.1];exact hle),List.nil_append,h.1,← Nat.sub_mul]
  exact h2
section
variable {P:Program} {ops:Array Oper} {rest:List Oper} {o:Oper} {a:Act} {Q:Exit→Act→World→Prop} {α:Type}
theorem k7 (d:Kd α) {Rr:α→List Value→Prop} {w0 W:World} (base:Nat) (hgd:o.guard = none) (s x:Operand) (t e:TypeId) (z:Value) (bytes:Nat)
  (ho:o.op = .call { callee:=.builtin .append,args:=#[s,x],argTypes:=#[t,t] })
  (ht:P.underlying t = some (.slice e)) (hinfo:(P.info? e).map (fun i=>(i.zero,i.size,i.bytes)) = some (some z,d.sz,bytes)) (hz:z.cells.size = d.sz) (j:0 < d.sz) (X:0 < bytes)
  (v:Value) (xs ys:List α) (A:Option Addr) (m c:Nat) (ok okp:Nat→Prop) (hs:a.eval s = v) (hx:a.eval x = .slice A m c)
  (HO:d.R e W base ok v xs) (HR:dw Rr d.sz W A m ys) (Y:∀ x cs,Rr x cs→d.M W base okp x cs) (y:∀ k,okp k→ok k∧some k≠v.ownBlock) (hfresh:∀ k,W.heap.size≤k→ok k)
  (HB:Below base w0 W) (hbase:base≤W.heap.size) (hl:(xs.length+m) * bytes≤140737488355328)
  (h:∀ v1 w1,d.R e w1 base ok v1 (xs ++ ys)→Below base w0 w1→W.grownBy w1 v.ownBlock→(v1.ownBlock = v.ownBlock∨∃ b,v1.ownBlock = some b∧W.heap.size≤b)→wpList P ops Q rest (a.put o.dst v1) w1) :
  wpList P ops Q (o :: rest) a W:=by
 obtain ⟨i0,hi,hzz⟩:=Option.map_eq_some_iff.1 hinfo
 simp only [Prod.mk.injEq] at hzz
 obtain ⟨a0,a1,a2⟩:=hzz
 have hm:ys.length = m:=HR.1
 have hlen:xs.length+m≤140737488355328:=Nat.le_trans (Nat.le_mul_of_pos_right _ X) hl
 obtain ⟨hok,inner,hown,hr⟩:=HO
 have hrun:∃ v1 w1,(Builtin.append_ #[t,t] o.type #[v,.slice A m c]).run P W = .ok v1 w1∧d.R e w1 base ok v1 (xs ++ ys)∧W.grownBy w1 v.ownBlock∧(v1.ownBlock = v.ownBlock∨∃ b,v1.ownBlock = some b∧W.heap.size≤b):=by
  rcases A with _ | ad
  ·have h0:m = 0:=by
    rcases Nat.eq_zero_or_pos m with h0 | h0
    ·exact h0
    ·obtain ⟨ad,h,_⟩:=HR.2.2 h0
     cases h
   subst h0
   obtain rfl:ys = []:=List.eq_nil_of_length_eq_zero hm
   refine ⟨v,W,?_,by rw [List.append_nil];exact ⟨hok,inner,hown,hr⟩,World.grownBy.refl W _,.inl rfl⟩
   rcases hown.2 with ⟨rfl,hn⟩ | ⟨g,cap,cur,rfl,_,_,hnc,_⟩
   ·simp [Builtin.append_,run_underlying ht,sizeOf,typeInfo,hi,Builtin.lenOf,Builtin.firstCells]
   ·simp [Builtin.append_,run_underlying ht,sizeOf,typeInfo,hi,Builtin.lenOf,Builtin.firstCells,hnc,storeCells]
  ·obtain ⟨news,hnr,hnc⟩:=dw.rq HR
   have hnM:cl (d.M W base okp) d.sz ys news:=hnr.ia (fun p c hp=>Y p c hp)
   have hone:∀ u∈news,u.oneCell' = true:=by
    intro u hu
    obtain ⟨q,hq,rfl⟩:=List.mem_iff_getElem.1 hu
    have a3:q / d.sz < ys.length:=by
     rw [Nat.div_lt_iff_lt_mul j]
     rw [← hnM.1]
     exact hq
    have hc:=hnM.2 (q / d.sz) _ (List.getElem?_eq_getElem a3)
    refine d.K_one (d.K_of_M hc) _ ?_
    rw [List.mem_iff_getElem?]
    refine ⟨q % d.sz,?_⟩
    rw [List.getElem?_take,if_pos (Nat.mod_lt _ j),List.getElem?_drop,Nat.mul_comm,Nat.div_add_mod,List.getElem?_eq_getElem hq]
   obtain ⟨v1,w1,hrun,h2,hg,_,hat⟩:=run_append_own_at (P:=P) W base t o.type e i0 z d.sz bytes ht hi a0 a1 a2 hz j v xs.length inner hown ad m c news (by rw [hnM.1,hm]) hnc hone (by simp only [maxLen];omega) hl hbase
   have hat':v1.ownBlock = v.ownBlock∨∃ b,v1.ownBlock = some b∧W.heap.size≤b:=by
    rcases hat with hat | hat
    ·exact .inl hat
    ·exact .inr ⟨_,hat,Nat.le_refl _⟩
   have hne:∀ k,some k≠v.ownBlock→k < W.heap.size→some k≠v1.ownBlock:=by
    intro k hk hlt
    rcases hat' with hat | ⟨b,hb,hle⟩
    ·rw [hat];exact hk
    ·rw [hb]
     intro he
     injection he with he
     omega
   have step:∀ {q:α} {c:List Value} {o:Nat→Prop},d.M W base o q c→(∀ k,o k→ok k∧some k≠v.ownBlock)→d.M w1 base (fun k=>ok k∧some k≠v1.ownBlock) q c:=by
    intro q c o hq ho
    have h1:=d.M_move (w1:=w1) (fun k hk=>hg.block k hk.2.2.1 (ho k hk.1).2) (d.M_bound hq)
    exact d.M_mono (fun k hk=>⟨(ho k hk.1).1,hne k (ho k hk.1).2 hk.2.2.1⟩) h1
   refine ⟨v1,w1,hrun,⟨fun k hk=>?_,inner ++ news,by rw [List.length_append,hm];exact h2,lF (hr.ia (fun _ _ hq=>step hq (fun _ hk=>hk))) (hnM.ia (fun _ _ hq=>step hq y))⟩,hg,hat'⟩
   rcases hat' with hat | ⟨b,hb,hle⟩
   ·exact hok k (hat ▸ hk)
   ·rw [hb] at hk
    injection hk with hk
    exact hfresh k (by omega)
 obtain ⟨v1,w1,a4,h1,hg,hat⟩:=hrun
 refine wpList_plain hgd fun K hK=>?_
 unfold Oper.wp execOp
 simp only [ho,resolve,invoke,builtin,Sem.run_bind,Sem.run_pure,Result.andThen_ok,List.map_toArray,List.map_cons,List.map_nil,hs,hx,a4]
 exact hK _ _ (h v1 w1 h1 (HB.grown hg hbase (fq hown)) hg hat)
end
end Kd
theorem add_add (a:Addr) (i j:Nat):(a.add i).add j = a.add (i+j):=by
 unfold Addr.add
 by_cases h1:i = 0 <;> by_cases h2:j = 0 <;> simp [h1,h2,Nat.add_assoc]
theorem aA {w W:World} (h:Below w.heap.size w W):w.heap.size≤W.heap.size:=h.size
theorem ax {w W j:World} (h:Below w.heap.size w W) (k:Below W.heap.size W j):Below w.heap.size w j:=js h h.size k
theorem dH.nil (W:World) (k:IntKind):dH W k none ([]:List Int).length []:=⟨rfl,by simp,fun h=>absurd h (Nat.lt_irrefl 0)⟩
theorem dH.drewN {W:World} {k:IntKind} {A:Option Addr} {n:Nat} {xs:List Int} (h:dH W k A n xs) (m:Nat):dH (W.drewN m) k A n xs:=h
theorem ct {w W:World} {g j:Nat} {v:Value} (h:Below w.heap.size w W) (hg:w.heap.size≤g):Below w.heap.size w (W.setCell ⟨g,j,none⟩ v):=h.setCell hg _
theorem mD {w W:World} {g:Nat} {row:Option Nat} (h:ay w W g row) (m:Nat):ay w (W.drewN m) g row:=h
theorem mE {w W:World} {g:Nat} (h:ay w W g none) (o:Obj):ay w (W.alloc o) g none:=h.trans (ay.gi (World.grownBy_alloc W o none) g) (.inl rfl)
theorem o6 {w W:World} {g:Nat} (h:ay w W g none) {a:Addr} {v:Value} (hc:w.cell? a = some v) (hne:a.block≠g):W.cell? a = some v:=by
 have:=h.2 a.block (World.block_lt_of_cell? w a hc) hne (by simp)
 simpa [World.cell?,this] using hc
theorem gG (a:Addr) (i:Nat):(a.add i).block = a.block:=by unfold Addr.add;split <;> rfl
theorem fK {w0 w w1:World} {B:Nat} (h:Below w0.heap.size w0 w) (hB:w0.heap.size≤B) (k:Below B w w1):Below w0.heap.size w0 w1 :=
 h.trans ⟨k.os,k.tape,k.output,k.size,fun i hi=>k.block i (Nat.lt_of_lt_of_le hi hB)⟩
theorem o7 {w:World} {base:Nat} {e:TypeId} {size n:Nat} {v:Value} {xs:List Value} (h:w.ownsRow base e size v n xs):v.ownBlock = none∨∃ b,v.ownBlock = some b∧base≤b:=by
 cases hv:v.ownBlock with
 | none=>exact .inl rfl
 | some b=>exact .inr ⟨b,rfl,fq h b hv⟩
theorem bS {w W:World} {g:Nat} {row:Option Nat} (h:ay w W g row):w.heap.size≤W.heap.size:=h.1
theorem dP.nil {α:Type} (enc:α→Value) (d:α) (W:World):dP enc d W none ([]:List α).length []:=⟨rfl,by simp,fun h=>absurd h (Nat.lt_irrefl 0)⟩
theorem dP.drewN {α:Type} {enc:α→Value} {d:α} {W:World} {A:Option Addr} {n:Nat} {xs:List α} (h:dP enc d W A n xs) (m:Nat):dP enc d (W.drewN m) A n xs:=h
theorem cell_far {W:World} {p a:Addr} (h:a.block≠p.block) (u:Value):(W.setCell p u).cell? a = W.cell? a:=by
 have:=Below.heap_setCell W p u a.block h
 simp [World.cell?,this]
theorem dQ {w:World} {g:Nat} {t:TypeId} {cs cs':Array Value} (h:w.heap[g]? = some (.cells cs t (0,0))) (i:Nat) (u:Value) (e:cs.setIfInBounds i u = cs'):(w.setCell ⟨g,i,none⟩ u).heap[g]? = some (.cells cs' t (0,0)):=e ▸ kF h i u
theorem oP {w W:World} {g:Nat} {row:Option Nat} (h:ay w W g row) {p:Addr} (hp:w.heap.size≤p.block) (u:Value):ay w (W.setCell p u) g row :=
 ⟨by simpa [World.setCell] using h.1,fun i hi hg hr=>(Below.heap_setCell W p u i (by omega)).trans (h.2 i hi hg hr)⟩
theorem cu {base:Nat} {w W:World} (h:Below base w W):Below base w W.drew:=h.drew
theorem iQ {w W:World} {g:Nat} {row:Option Nat} (h:ay w W g row):ay w W.drew g row:=h
namespace Kd
section
variable {α β:Type} {d:Kd α} {d':Kd β} {e e' base base' n:Nat} {ok ok':Nat→Prop} {w W w1 W1:World} {v u:Value} {xs:List α} {ys:List β} {A:Option Addr} {c:Nat}
theorem kL (h:d.R e w base ok v xs):v.ownBlock = none∨∃ k,v.ownBlock = some k∧base≤k:=by
 obtain ⟨inner,ho⟩:=lC h
 exact o7 ho
end
end Kd
section
variable {P:Program} {ops:Array Oper} {rest:List Oper} {o:Oper} {a:Act} {Q:Exit→Act→World→Prop}
theorem ck {W:World} (hgd:o.guard = none) {N:Tmp} (_hd:o.dst = some N) {cs:Array Value} {t:TypeId}
  (hrun:(execOp a.eval o).run P W = .ok (.value (.pointer (some ⟨W.heap.size,0,none⟩))) (W.alloc (.cells cs t (0,0))))
  (h:∀ g,g = W.heap.size→∀ w1,w1.heap[g]? = some (.cells cs t (0,0))→Below W.heap.size W w1→wpList P ops Q rest (a.put o.dst (.pointer (some ⟨g,0,none⟩))) w1):wpList P ops Q (o :: rest) a W :=
 Kd.kj hgd hrun (h _ rfl _ (qh W _) (cM (Below.refl _ _) _))
end
namespace Kd
section
variable {α:Type} {enc:α→Value} {h1:∀ x,(enc x).oneCell' = true} {e base g n cap:Nat} {ok:Nat→Prop} {W:World} {xs:List α}
theorem eR (d:α) (h:(scalar enc h1).R e W base ok (.slice (some ⟨g,0,none⟩) n cap) xs) (i:Int) (h0:0≤i) (hi:i < n):W.cell? ⟨g,i.toNat,none⟩ = some (enc (qg d xs i))∧W.frozen? ⟨g,i.toNat,none⟩ = false:=by
 obtain ⟨rfl,_⟩:=aJ h
 exact ru d h i h0 hi
theorem oQ (h:(scalar enc h1).R e W base ok (.slice (some ⟨g,0,none⟩) n cap) xs) (i:Int) (x:α):(scalar enc h1).R e (W.setCell ⟨g,i.toNat,none⟩ (enc x)) base ok (.slice (some ⟨g,0,none⟩) n cap) (xs.set i.toNat x):=by
 obtain ⟨rfl,_⟩:=aJ h
 exact (qV h i x).1
end
end Kd
section
variable {P:Program} {ops:Array Oper} {rest:List Oper} {o:Oper} {a:Act} {Q:Exit→Act→World→Prop}
theorem cU {W w1:World} (hgd:o.guard = none) {t:TypeId} {p:Tmp} {v:Operand} (_ho:o.op = .store t (.tmp p) v) (hN:o.dst = none)
  (hrun:(execOp a.eval o).run P W = .ok .skip w1) (h:∀ w',w' = w1→wpList P ops Q rest a w'):wpList P ops Q (o :: rest) a W:=by
 refine wpList_plain hgd fun K hK=>?_
 unfold Oper.wp
 rw [hrun]
 show K (a.put o.dst undef) w1
 rw [hN]
 exact hK _ _ (h _ rfl)
end
namespace Kd
section
variable {α:Type} {enc:α→Value} {h1:∀ x,(enc x).oneCell' = true} {e base g n cap:Nat} {ok:Nat→Prop} {W:World} {xs:List α}
theorem iR (h:(scalar enc h1).R e W base ok (.slice (some ⟨g,0,none⟩) n cap) xs) (i:Int) (x:α):(scalar enc h1).R e (W.setCell ⟨g,i.toNat,none⟩ (enc x)) base ok (.slice (some ⟨g,0,none⟩) n cap) (xs.set i.toNat x)∧W.grownBy (W.setCell ⟨g,i.toNat,none⟩ (enc x)) (some g):=by
 obtain ⟨rfl,_⟩:=aJ h
 exact qV h i x
end
end Kd
section
variable {P:Program} {ops:Array Oper} {rest:List Oper} {o:Oper} {a:Act} {Q:Exit→Act→World→Prop} {W:World}
theorem bf {N:Tmp} (_hN:o.dst = some N) (h:wpList P ops Q (o :: rest) a W):wpList P ops Q (o :: rest) a W:=h
theorem dh {t:TypeId} {p:Tmp} {v:Operand} (_ho:o.op = .store t (.tmp p) v) (h:wpList P ops Q (o :: rest) a W):wpList P ops Q (o :: rest) a W:=h
end
end Go.Proofs.ag.aT
end
section
namespace Go.Proofs.ag.bu
section
variable {P:Program} {ops:Array Oper} {Q:Exit→Act→World→Prop} {md:Region.Mode} {S:World→Prop} {ds:List Nat}
def Region.eK (md:Region.Mode) (ops:Array Oper) (i:Nat):Nat→Nat→Bool
  | 0,_=>false
  | fuel+1,d=>match ops[d]? with
    | some o=>o.after.any fun e=>Region.binds md e && (e.on == i || Region.eK md ops i fuel e.on)
    | none=>false
def Region.iB (md:Region.Mode) (ops:Array Oper) (listed:Array Bool):Bool :=
  (List.range ops.size).all fun j=>!listed.getD j false || match ops[j]? with
    | some o=>o.after.all fun e=>!Region.binds md e || listed.getD e.on false
    | none=>true
def Region.nt (md:Region.Mode) (ops:Array Oper) (listed:Array Bool) (ds:List Nat) (i:Nat):Bool :=
 ds.all fun d=>listed.getD d true || Region.eK md ops i ops.size d
def dR (md:Region.Mode) (ops:Array Oper) (listed:Array Bool):Prop :=
 ∀ j oj,ops[j]? = some oj→listed.getD j false = true→∀ e∈oj.after,Region.binds md e = true→listed.getD e.on false = true
theorem Region.kM {listed:Array Bool} (h:Region.iB md ops listed = true):dR md ops listed:=by
 intro j oj hj hl e he hb
 have hlt:j < ops.size:=(Array.getElem?_eq_some_iff.1 hj).1
 have h1:=List.all_eq_true.1 h j (List.mem_range.2 hlt)
 simp only [hl,hj,Bool.not_true,Bool.false_or] at h1
 have h2:=Array.all_eq_true_iff_forall_mem.1 h1 e he
 simpa [hb] using h2
theorem dR.set {listed:Array Bool} {i:Nat} (h:dR md ops listed) (hi:i∈Region.ready md ops listed):dR md ops (listed.setIfInBounds i true):=by
 obtain ⟨_,oi,hoi,hall⟩:=mem_ready.1 hi
 intro j oj hj hl e he hb
 by_cases hij:i = j
 ·subst hij
  have:oj = oi:=Option.some.inj (hj.symm.trans hoi)
  subst this
  exact getD_set_true (hall e he hb)
 ·rw [getD_set_ne false hij] at hl
  exact getD_set_true (h j oj hj hl e he hb)
theorem Region.iC {listed:Array Bool} {i:Nat} (hc:dR md ops listed):∀ (fuel d:Nat),Region.eK md ops i fuel d = true→listed.getD d false = true→listed.getD i false = true
 | 0,_,h,_=>by simp [Region.eK] at h
 | fuel+1,d,h,hl=>by
  unfold Region.eK at h
  cases ho:ops[d]? with
  | none=>rw [ho] at h;simp at h
  | some o =>
   rw [ho] at h
   obtain ⟨e,he,h1⟩:=Array.any_eq_true'.1 h
   simp only [Bool.and_eq_true,Bool.or_eq_true,beq_iff_eq] at h1
   have hle:=hc d o ho hl e he h1.1
   rcases h1.2 with h2 | h2
   ·rw [← h2];exact hle
   ·exact Region.iC hc fuel e.on h2 hle
theorem Region.jb {listed:Array Bool} {i d fuel:Nat} (hc:dR md ops listed) (hr:Region.eK md ops i fuel d = true) (hun:listed.getD i true = false):d ∉ Region.ready md ops listed:=by
 intro hd
 obtain ⟨_,o,ho,hall⟩:=mem_ready.1 hd
 have hi:listed.getD i false = true:=by
  cases fuel with
  | zero=>simp [Region.eK] at hr
  | succ n =>
   unfold Region.eK at hr
   rw [ho] at hr
   obtain ⟨e,he,h1⟩:=Array.any_eq_true'.1 hr
   simp only [Bool.and_eq_true,Bool.or_eq_true,beq_iff_eq] at h1
   have hle:=hall e he h1.1
   rcases h1.2 with h2 | h2
   ·rw [← h2];exact hle
   ·exact Region.iC hc n e.on h2 hle
 rcases Nat.lt_or_ge i listed.size with h' | h'
 ·simp [h'] at hun hi
  rw [hun] at hi
  cases hi
 ·simp [Array.getElem?_eq_none h'] at hun
def bB (P:Program) (md:Region.Mode) (ops:Array Oper) (Q:Exit→Act→World→Prop) (S:World→Prop) (ds:List Nat):Nat→Array Bool→Act→World→Prop
 | 0,listed,a,w=>Region.ready md ops listed = []∧Q .normal a w
 | fuel+1,listed,a,w =>
  (Region.ready md ops listed = []→Q .normal a w) ∧
  ∀ i∈Region.ready md ops listed,wpOp P ops Q i (fun a' w'=>(i ∉ ds→S w→S w')∧bB P md ops Q S ds fuel (listed.setIfInBounds i true) a' w') a w
theorem gV:∀ (fuel:Nat) (listed:Array Bool) (a:Act) (w:World),bB P md ops Q S ds fuel listed a w→wpAny P md ops Q fuel listed a w
 | 0,_,_,_,h=>h
 | fuel+1,_,_,_,h=>⟨h.1,fun i hi=>wpOp_mono (fun a' w' h'=>gV fuel _ a' w' h'.2) (h.2 i hi)⟩
theorem jc {i:Nat} {oi:Oper} {v:Value} (hi:ops[i]? = some oi) (hsel:∀ (j:Nat) (o:Oper) cs b,ops[j]? = some o→o.op ≠ .select cs b)
  (hQ:∀ c a w,Q (.panic c) (a.put oi.dst v) w→Q (.panic c) a w) (n:Nat) :
  ∀ (fuel:Nat) (listed:Array Bool) (a:Act) (w:World),
   (∀ j oj,ops[j]? = some oj→j≠i→listed.getD j true = false→(∀ e∈oj.after,Region.binds md e = true→e.on≠i)→oi.apart ops oj = true) →
   dR md ops listed→(∀ d∈ds,listed.getD d true = false→Region.eK md ops i n d = true) →
   i∈Region.ready md ops listed→YieldsIf P ops S oi v a→S w →
   bB P md ops Q S ds fuel (listed.setIfInBounds i true) (a.put oi.dst v) w→bB P md ops Q S ds (fuel+1) listed a w:=by
 intro fuel
 induction fuel with
 | zero =>
  intro listed a w _ _ _ hr hy hS H
  refine ⟨fun h=>(by rw [h] at hr;cases hr),fun j hj=>?_⟩
  by_cases hji:j = i
  ·subst hji;exact hy.wpOp hi hS ⟨fun _ h=>h,H⟩
  ·have:=ready_mono hj hji
   rw [H.1] at this
   cases this
 | succ fuel ih =>
  intro listed a w hfree hc hd hr hy hS H
  refine ⟨fun h=>(by rw [h] at hr;cases hr),fun j hj=>?_⟩
  by_cases hji:j = i
  ·subst hji;exact hy.wpOp hi hS ⟨fun _ h=>h,H⟩
  ·have h1:=H.2 j (ready_mono hj hji)
   obtain ⟨hjun,oj,hoj,hall⟩:=mem_ready.1 hj
   have y:=(mem_ready.1 hr).1
   have hnot:∀ e∈oj.after,Region.binds md e = true→e.on≠i:=fun e he hb heq=>by
    have h1:=hall e he hb
    rw [heq] at h1
    rcases Nat.lt_or_ge i listed.size with h' | h'
    ·simp [h'] at y h1;rw [y] at h1;cases h1
    ·simp [Array.getElem?_eq_none h'] at h1
   have hjd:j ∉ ds:=fun hm=>Region.jb hc (hd j hm hjun) y hj
   have h2:=wpOp_putIf hoj (hfree j oj hoj hji hjun hnot) (fun cs b=>hsel i oi cs b hi) (fun cs b=>hsel j oj cs b hoj) hQ hy h1
   have hfree':∀ k ok,ops[k]? = some ok→k≠i→(listed.setIfInBounds j true).getD k true = false →
     (∀ e∈ok.after,Region.binds md e = true→e.on≠i)→oi.apart ops ok = true:=fun k ok hk hki hun hno=>by
    refine hfree k ok hk hki ?_ hno
    by_cases hjk:j = k
    ·subst hjk;exact hjun
    ·rw [getD_set_ne true hjk] at hun;exact hun
   have hd':∀ d∈ds,(listed.setIfInBounds j true).getD d true = false→Region.eK md ops i n d = true:=fun d hm hun=>by
    refine hd d hm ?_
    by_cases hjk:j = d
    ·subst hjk;exact hjun
    ·rw [getD_set_ne true hjk] at hun;exact hun
   refine wpOp_mono (fun a' w' h3=>⟨h3.2.1,ih (listed.setIfInBounds j true) a' w' hfree' (hc.set hj) hd' (ready_mono hr (Ne.symm hji)) h3.1 (h3.2.1 hjd hS) ?_⟩) h2
   rw [Array.setIfInBounds_comm _ _ hji]
   exact h3.2.2
theorem k8 {i:Nat} {oi:Oper} {v:Value} (hi:ops[i]? = some oi) (hsel:∀ (j:Nat) (o:Oper) cs b,ops[j]? = some o→o.op ≠ .select cs b)
  (hQ:∀ c a w,Q (.panic c) (a.put oi.dst v) w→Q (.panic c) a w) :
  ∀ (fuel:Nat) (listed:Array Bool) (a:Act) (w:World),
   (∀ j oj,ops[j]? = some oj→j≠i→listed.getD j true = false→(∀ e∈oj.after,Region.binds md e = true→e.on≠i)→oi.apart ops oj = true) →
   i∈Region.ready md ops listed→Yields P ops oi v a →
   bB P md ops Q S ds fuel (listed.setIfInBounds i true) (a.put oi.dst v) w→bB P md ops Q S ds (fuel+1) listed a w:=by
 intro fuel
 induction fuel with
 | zero =>
  intro listed a w _ hr hy H
  refine ⟨fun h=>(by rw [h] at hr;cases hr),fun j hj=>?_⟩
  by_cases hji:j = i
  ·subst hji;exact (hy.yieldsIf (S:=fun _=>True)).wpOp hi trivial ⟨fun _ h=>h,H⟩
  ·have:=ready_mono hj hji
   rw [H.1] at this
   cases this
 | succ fuel ih =>
  intro listed a w hfree hr hy H
  refine ⟨fun h=>(by rw [h] at hr;cases hr),fun j hj=>?_⟩
  by_cases hji:j = i
  ·subst hji;exact (hy.yieldsIf (S:=fun _=>True)).wpOp hi trivial ⟨fun _ h=>h,H⟩
  ·have h1:=H.2 j (ready_mono hj hji)
   obtain ⟨hjun,oj,hoj,hall⟩:=mem_ready.1 hj
   have y:=(mem_ready.1 hr).1
   have hnot:∀ e∈oj.after,Region.binds md e = true→e.on≠i:=fun e he hb heq=>by
    have h1:=hall e he hb
    rw [heq] at h1
    rcases Nat.lt_or_ge i listed.size with h' | h'
    ·simp [h'] at y h1;rw [y] at h1;cases h1
    ·simp [Array.getElem?_eq_none h'] at h1
   have h2:=wpOp_put hoj (hfree j oj hoj hji hjun hnot) (fun cs b=>hsel i oi cs b hi) (fun cs b=>hsel j oj cs b hoj) hQ hy h1
   have hfree':∀ k ok,ops[k]? = some ok→k≠i→(listed.setIfInBounds j true).getD k true = false →
     (∀ e∈ok.after,Region.binds md e = true→e.on≠i)→oi.apart ops ok = true:=fun k ok hk hki hun hno=>by
    refine hfree k ok hk hki ?_ hno
    by_cases hjk:j = k
    ·subst hjk;exact hjun
    ·rw [getD_set_ne true hjk] at hun;exact hun
   refine wpOp_mono (fun a' w' h3=>⟨h3.2.1,ih (listed.setIfInBounds j true) a' w' hfree' (ready_mono hr (Ne.symm hji)) h3.1 ?_⟩) h2
   rw [Array.setIfInBounds_comm _ _ hji]
   exact h3.2.2
theorem jy {i:Nat} {oi:Oper} {v:Value} {fuel:Nat} {listed:Array Bool} {a:Act} {w:World} (hi:ops[i]? = some oi)
  (hs:Region.noSelect ops = true) (hf:Region.free md ops listed i = true) (hr:(Region.ready md ops listed).contains i = true)
  (hc:Region.iB md ops listed = true) (hl:Region.nt md ops listed ds i = true)
  (hQ:∀ c a w,Q (.panic c) (a.put oi.dst v) w→Q (.panic c) a w) (hy:YieldsIf P ops S oi v a) (hS:S w)
  (h:bB P md ops Q S ds fuel (listed.setIfInBounds i true) (a.put oi.dst v) w):bB P md ops Q S ds (fuel+1) listed a w :=
 jc hi (Region.noSelect_spec hs) hQ ops.size fuel listed a w (Region.free_spec hi hf) (Region.kM hc)
  (fun d hm hun=>by have:=List.all_eq_true.1 hl d hm;rw [hun] at this;simpa using this) (by simpa using hr) hy hS h
theorem k9 {rs:List Nat} {fuel:Nat} {listed:Array Bool} {a:Act} {w:World} (hr:Region.ready md ops listed = rs) (hne:rs≠[])
  (h:∀ i∈rs,wpOp P ops Q i (fun a' w'=>(i ∉ ds→S w→S w')∧bB P md ops Q S ds fuel (listed.setIfInBounds i true) a' w') a w):bB P md ops Q S ds (fuel+1) listed a w :=
 ⟨fun h0=>absurd (hr ▸ h0) hne,hr ▸ h⟩
theorem jz {listed:Array Bool} {a:Act} {w:World} (hr:Region.ready md ops listed = []) (h:Q .normal a w) :
  ∀ fuel,bB P md ops Q S ds fuel listed a w
 | 0=>⟨hr,h⟩
 | _+1=>⟨fun _=>h,by rw [hr];simp⟩
theorem jA {id:Nat} {a:Act} {w:World} (hm:P.follows .mixedOrders = true)
  (h:bB P .any ops Q S ds ops.size (Array.replicate ops.size false) a { w with drawn:=w.drawn+1 }):(Code.region id ops true).wp P Q a w :=
 wp_region_any hm (gV _ _ _ _ h)
end
section
variable {P:Program} {ops:Array Oper} {Q:Exit→Act→World→Prop} {md:Region.Mode} {S:World→Prop} {ds:List Nat}
def dc (P:Program) (md:Region.Mode) (ops:Array Oper) (Q:Exit→Act→World→Prop) (S:World→Prop) (ds:List Nat) (fuel:Nat) (listed:Array Bool) (a:Act) (w:World) (rs:List Nat):Prop :=
 ∀ i∈rs,wpOp P ops Q i (fun a' w'=>(i ∉ ds→S w→S w')∧bB P md ops Q S ds fuel (listed.setIfInBounds i true) a' w') a w
theorem dc.nil {fuel:Nat} {listed:Array Bool} {a:Act} {w:World}:dc P md ops Q S ds fuel listed a w []:=fun _ h=>by cases h
theorem dc.cons {fuel:Nat} {listed:Array Bool} {a:Act} {w:World} {i:Nat} {o:Oper} {rs:List Nat} (ho:ops[i]? = some o) (hd:i ∉ ds)
  (h:∀ K':Act→World→Prop,Shut (∀ a w,S w→(S w→bB P md ops Q S ds fuel (listed.setIfInBounds i true) a w)→K' a w)→if Region.wanted o (yielded ops a.tmps) = true then Oper.wp P o a w K' Q else K' (a.put o.dst undef) w)
  (hs:dc P md ops Q S ds fuel listed a w rs):dc P md ops Q S ds fuel listed a w (i :: rs):=fun j hj=>by
 rcases List.mem_cons.1 hj with rfl | hj
 ·exact wpOp_step ho (fun K' hK=>h K' (fun a w hS hW=>hK a w ⟨fun _ _=>hS,hW hS⟩))
 ·exact hs j hj
theorem dc.o8 {fuel:Nat} {listed:Array Bool} {a:Act} {w:World} {i:Nat} {o:Oper} {rs:List Nat} (ho:ops[i]? = some o) (hd:i∈ds)
  (h:∀ K':Act→World→Prop,Shut (∀ a w,bB P md ops Q S ds fuel (listed.setIfInBounds i true) a w→K' a w)→if Region.wanted o (yielded ops a.tmps) = true then Oper.wp P o a w K' Q else K' (a.put o.dst undef) w)
  (hs:dc P md ops Q S ds fuel listed a w rs):dc P md ops Q S ds fuel listed a w (i :: rs):=fun j hj=>by
 rcases List.mem_cons.1 hj with rfl | hj
 ·exact wpOp_step ho (fun K' hK=>h K' (fun a w hW=>hK a w ⟨fun hn=>absurd hd hn,hW⟩))
 ·exact hs j hj
theorem fZ {rs:List Nat} {fuel:Nat} {listed:Array Bool} {a:Act} {w:World} (hr:Region.ready md ops listed = rs) (hne:rs≠[])
  (h:dc P md ops Q S ds fuel listed a w rs):bB P md ops Q S ds (fuel+1) listed a w:=k9 hr hne h
theorem eY {id n:Nat} {a:Act} {w:World} (l:Array Bool) (hm:P.follows .mixedOrders = true) (hn:ops.size = n) (hl:Array.replicate n false = l) (hS:S w.drew)
  (h:S w.drew→bB P .any ops Q S ds n l a w.drew):(Code.region id ops true).wp P Q a w:=by
 subst hn
 subst hl
 exact jA hm (h hS)
def lG (md:Region.Mode) (ops:Array Oper) (ds:List Nat) (l l':Array Bool) (i:Nat):Bool :=
 Region.noSelect ops && Region.free md ops l i && (Region.ready md ops l).contains i && Region.iB md ops l && Region.nt md ops l ds i && (l.setIfInBounds i true == l')
theorem j1 {i:Nat} {N:Option Tmp} {oi:Oper} {v:Value} {fuel:Nat} {l:Array Bool} {a:Act} {w:World} (l':Array Bool) (hi:ops[i]? = some oi) (hN:oi.dst = N) (hc:lG md ops ds l l' i = true)
  (hQ:∀ c a w,Q (.panic c) (a.put oi.dst v) w→Q (.panic c) a w) (hy:YieldsIf P ops S oi v a) (hS:S w) {a':Act} (ha:a.put N v = a')
  (h:bB P md ops Q S ds fuel l' a' w):bB P md ops Q S ds (fuel+1) l a w:=by
 subst ha
 subst hN
 simp only [lG,Bool.and_eq_true,beq_iff_eq] at hc
 obtain ⟨⟨⟨⟨⟨h1,h2⟩,h3⟩,h4⟩,h5⟩,j⟩:=hc
 subst j
 exact jy hi h1 h2 h3 h4 h5 hQ hy hS h
def qk (md:Region.Mode) (ops:Array Oper) (l l':Array Bool) (i:Nat):Bool :=
 Region.noSelect ops && Region.free md ops l i && (Region.ready md ops l).contains i && (l.setIfInBounds i true == l')
theorem gW {i:Nat} {N:Option Tmp} {oi:Oper} {v:Value} {fuel:Nat} {l:Array Bool} {a:Act} {w:World} (l':Array Bool) (hi:ops[i]? = some oi) (hN:oi.dst = N) (hc:qk md ops l l' i = true)
  (hQ:∀ c a w,Q (.panic c) (a.put oi.dst v) w→Q (.panic c) a w) (hy:Yields P ops oi v a) {a':Act} (ha:a.put N v = a')
  (h:bB P md ops Q S ds fuel l' a' w):bB P md ops Q S ds (fuel+1) l a w:=by
 subst ha
 subst hN
 simp only [qk,Bool.and_eq_true,beq_iff_eq] at hc
 obtain ⟨⟨⟨h1,h2⟩,h3⟩,j⟩:=hc
 subst j
 exact k8 hi (Region.noSelect_spec h1) hQ fuel l a w (Region.free_spec hi h2) (by simpa using h3) hy h
def iS (md:Region.Mode) (ops:Array Oper) (l l':Array Bool) (i:Nat):Bool:=(Region.ready md ops l == [i]) && (l.setIfInBounds i true == l')
theorem eS {i:Nat} {N:Option Tmp} {oi:Oper} {fuel:Nat} {l:Array Bool} {a:Act} {w:World} (l':Array Bool) (hi:ops[i]? = some oi) (hN:oi.dst = N) (hc:iS md ops l l' i = true) (hd:i ∉ ds)
  (h:∀ K:Act→World→Prop,Shut (∀ a' w',S w'→(S w'→bB P md ops Q S ds fuel l' a' w')→K a' w')→if Region.wanted oi (yielded ops a.tmps) = true then Oper.wp P oi a w K Q else K (a.put N undef) w) :
  bB P md ops Q S ds (fuel+1) l a w:=by
 subst hN
 simp only [iS,Bool.and_eq_true,beq_iff_eq] at hc
 obtain ⟨h1,h2⟩:=hc
 subst h2
 exact fZ h1 (by simp) (dc.cons hi hd (fun K hK=>h K hK) dc.nil)
theorem nu {i:Nat} {N:Option Tmp} {oi:Oper} {fuel:Nat} {l:Array Bool} {a:Act} {w:World} (l':Array Bool) (hi:ops[i]? = some oi) (hN:oi.dst = N) (hc:iS md ops l l' i = true) (hd:i∈ds)
  (h:∀ K:Act→World→Prop,Shut (∀ a' w',bB P md ops Q S ds fuel l' a' w'→K a' w')→if Region.wanted oi (yielded ops a.tmps) = true then Oper.wp P oi a w K Q else K (a.put N undef) w) :
  bB P md ops Q S ds (fuel+1) l a w:=by
 subst hN
 simp only [iS,Bool.and_eq_true,beq_iff_eq] at hc
 obtain ⟨h1,h2⟩:=hc
 subst h2
 exact fZ h1 (by simp) (dc.o8 hi hd (fun K hK=>h K hK) dc.nil)
theorem gm {l:Array Bool} {a:Act} {w:World} {n:Nat} (hr:(Region.ready md ops l == []) = true) (h:Q .normal a w):bB P md ops Q S ds n l a w:=jz (by simpa using hr) h n
theorem e6 {fuel:Nat} {l:Array Bool} {a a':Act} {w:World} (ha:a = a') (h:bB P md ops Q S ds fuel l a' w):bB P md ops Q S ds fuel l a w:=by
 subst ha
 exact h
theorem sw {oi:Oper} {N:Option Tmp} {a:Act} {w:World} {K:Act→World→Prop} (f:FuncId) (args:Array Value) (hw:Region.wanted oi (yielded ops a.tmps) = true) (hN:oi.dst = N) (hrun:(execOp a.eval oi).run P w = .ok (.enter f args) w)
  (h:Calls P f args w fun e w'=>∃ v,e = .returned v∧K (a.put N v) w'):if Region.wanted oi (yielded ops a.tmps) = true then Oper.wp P oi a w K Q else K (a.put N undef) w:=by
 rw [if_pos hw]
 subst hN
 unfold Oper.wp
 rw [hrun,Oper.upon_enter]
 refine h.mono fun e w'' hh=>?_
 obtain ⟨v,rfl,hk⟩:=hh
 exact hk
theorem kN {f:FuncId} {fn:Func} (hf:P.funcs[f]? = some fn) (hname:(fn.name == "runtime.NumGoroutine") = false) (hb:fn.body.isSome = true) (args:Array Value) (w:World):(callFunc f args).run P w = .ok (.enter f args) w:=by
 have h1:fn.name ≠ "runtime.NumGoroutine" := by simpa using hname
 obtain ⟨c,hc⟩:=Option.isSome_iff_exists.1 hb
 simp [callFunc,hf,h1,hc]
theorem eH {oi:Oper} {N:Option Tmp} {a:Act} {w:World} {K:Act→World→Prop} {f:FuncId} {fn:Func} {as_q:Array Operand} {ts:Array TypeId} (hf:P.funcs[f]? = some fn) (hname:(fn.name == "runtime.NumGoroutine") = false) (hb:fn.body.isSome = true) (args:Array Value)
  (hw:Region.wanted oi (yielded ops a.tmps) = true) (hN:oi.dst = N) (hop:oi.op = .call { callee:=.value (.func f),args:=as_q,argTypes:=ts }) (hargs:as_q.map a.eval = args)
  (h:Calls P f args w fun e w'=>∃ v,e = .returned v∧K (a.put N v) w'):if Region.wanted oi (yielded ops a.tmps) = true then Oper.wp P oi a w K Q else K (a.put N undef) w:=by
 refine sw f args hw hN ?_ h
 have he:=kN hf hname hb args w
 unfold execOp
 simp [hop,resolve,Deferred.ofValue,invoke,Act.eval,hargs,he]
theorem rA {rest:List Oper} {oi:Oper} {a:Act} {w:World} (N:Option Tmp) (hd:oi.dst = N) (hg:oi.guard = none) {f:FuncId} {fn:Func} {as_q:Array Operand} {ts:Array TypeId} (hf:P.funcs[f]? = some fn) (hname:(fn.name == "runtime.NumGoroutine") = false) (hb:fn.body.isSome = true) (args:Array Value)
  (hop:oi.op = .call { callee:=.value (.func f),args:=as_q,argTypes:=ts }) (hargs:as_q.map a.eval = args)
  (h:Calls P f args w fun e w'=>∃ v,e = .returned v∧wpList P ops Q rest (a.put N v) w'):wpList P ops Q (oi :: rest) a w:=by
 refine wpList_plain hg fun K hK=>?_
 have he:=kN hf hname hb args w
 have hrun:(execOp a.eval oi).run P w = .ok (.enter f args) w:=by
  unfold execOp
  simp [hop,resolve,Deferred.ofValue,invoke,Act.eval,hargs,he]
 unfold Oper.wp
 rw [hrun,Oper.upon_enter]
 refine h.mono fun e w'' hh=>?_
 obtain ⟨v,rfl,hk⟩:=hh
 subst hd
 exact hK _ _ hk
theorem oR {oi:Oper} {N:Option Tmp} {a:Act} {w w1:World} {v:Value} {K:Act→World→Prop} (hw:Region.wanted oi (yielded ops a.tmps) = true) (hN:oi.dst = N) (hrun:(execOp a.eval oi).run P w = .ok (.value v) w1)
  (h:K (a.put N v) w1):if Region.wanted oi (yielded ops a.tmps) = true then Oper.wp P oi a w K Q else K (a.put N undef) w:=by
 rw [if_pos hw]
 subst hN
 unfold Oper.wp
 rw [hrun]
 exact h
theorem jB {oi:Oper} {a:Act} {w w1:World} {K:Act→World→Prop} (hw:Region.wanted oi (yielded ops a.tmps) = true) (hN:oi.dst = none) (hrun:(execOp a.eval oi).run P w = .ok .skip w1)
  (h:K a w1):if Region.wanted oi (yielded ops a.tmps) = true then Oper.wp P oi a w K Q else K (a.put none undef) w:=by
 rw [if_pos hw]
 unfold Oper.wp
 rw [hrun]
 show K (a.put oi.dst undef) w1
 rw [hN]
 exact h
theorem bE (n:Int):IntKind.i64.wrap n = Go.RowKit.wrap64 n:=by unfold Go.RowKit.wrap64;exact IntKind.wrap_i64 n
theorem cG (n:Int):IntKind.i32.wrap n = Go.RowKit.wrap32 n:=by unfold Go.RowKit.wrap32;exact IntKind.wrap_i32 n
end
end Go.Proofs.ag.bu
end
section
namespace Go.Proofs.ag.aT
open Go.RowKit
namespace Kd
def tag {α:Type} (f:Nat→Nat) (d:Kd α):Kd (α×Nat) where
 sz:=d.sz
 E:=d.E
 K:=fun w x cs=>d.K w x.1 cs
 M:=fun w base ok x cs=>d.M w base (fun k=>ok k∧f k = x.2) x.1 cs
 K_len:=fun h=>d.K_len h
 K_one:=fun h=>d.K_one h
 K_below:=fun hb h=>d.K_below hb h
 K_of_M:=fun h=>d.K_of_M h
 M_mono:=fun hok h=>d.M_mono (fun k hk=>⟨hok k hk.1,hk.2⟩) h
 M_bound:=fun h=>d.M_mono (fun _ hk=>⟨⟨hk.1.1,hk.2⟩,hk.1.2⟩) (d.M_bound h)
 M_move:=fun hm h=>d.M_move (fun k hk=>hm k hk.1) h
 M_lower:=fun hb h=>d.M_lower hb h
def bare {α:Type} (d:Kd α):Kd α where
 sz:=d.sz
 E:=d.E
 K:=d.K
 M:=fun w base _ x cs=>d.M w base (fun _=>False) x cs
 K_len:=fun h=>d.K_len h
 K_one:=fun h=>d.K_one h
 K_below:=fun hb h=>d.K_below hb h
 K_of_M:=fun h=>d.K_of_M h
 M_mono:=fun _ h=>h
 M_bound:=fun h=>h
 M_move:=fun _ h=>d.M_move (fun _ hk=>hk.elim) h
 M_lower:=fun hb h=>d.M_lower hb h
def raw (sz:Nat):Kd (List Value) where
 sz:=sz
 E:=[]
 K:=fun _ x cs=>cs = x∧cs.length = sz∧∀ u∈cs,u.oneCell' = true
 M:=fun _ _ _ x cs=>cs = x∧cs.length = sz∧∀ u∈cs,u.oneCell' = true
 K_len:=fun h=>h.2.1
 K_one:=fun h=>h.2.2
 K_below:=fun _ h=>h
 K_of_M:=fun h=>h
 M_mono:=fun _ h=>h
 M_bound:=fun h=>h
 M_move:=fun _ h=>h
 M_lower:=fun _ h=>h
def S {α:Type} (d:Kd α) (e:Nat) (w:World) (base:Nat) (ok:Nat→Prop) (v:Value) (xs:List α):Prop:=∃ f,(tag f d).R e w base ok v xs.zipIdx
section
variable {α β:Type} {d:Kd α} {d':Kd β} {e e':Nat} {w w1 W:World} {base b:Nat} {ok ok' okv oku:Nat→Prop} {u v:Value} {xs:List α} {ys:List β}
theorem kO {xs:List α} {j:Nat} {p:α} (h:xs[j]? = some p):xs.zipIdx[j]? = some (p,j):=by rw [List.getElem?_zipIdx,h,Nat.zero_add];rfl
theorem sx (h:S d e w base ok v xs):d.R e w base ok v xs:=by
 obtain ⟨f,h0,inner,ho,hr⟩:=h
 rw [List.length_zipIdx] at ho
 exact ⟨h0,inner,ho,by have:=hr.1;rw [List.length_zipIdx] at this;exact this,fun j p hj=>d.M_mono (fun _ hk=>hk.1) (hr.2 j (p,j) (kO hj))⟩
theorem oS {ad:Addr} {n cap:Nat} (h:d.R e w base ok (.slice (some ad) n cap) xs):∃ g,ad = ⟨g,0,none⟩:=by
 obtain ⟨_,inner,ho,hr⟩:=h
 rcases ho.2 with ⟨hv,_⟩ | ⟨g,cap',cur,hv,_⟩
 ·cases hv
 ·injection hv with ha _ _
  injection ha with ha
  exact ⟨g,ha⟩
theorem rB {ad:Addr} {n cap:Nat} (h:d.R e W base ok (.slice (some ad) n cap) xs) (z:α) (i:Int) (h0:0≤i) (h1:i < n) :
  ∃ c,c.length = d.sz∧d.M W base (fun k=>ok k∧some k≠(Value.slice (some ad) n cap).ownBlock) (xs.getD i.toNat z) c∧∀ j u,c[j]? = some u→W.cell? (ad.add (i.toNat * d.sz+j)) = some u:=by
 obtain ⟨g,rfl⟩:=oS h
 obtain ⟨c,hcl,hM,hcc,_⟩:=rz h z i h0 h1
 refine ⟨c,hcl,d.M_mono (fun k hk=>⟨hk.1,fun he=>hk.2 (by simpa [Value.ownBlock] using he)⟩) hM,fun j u hu=>?_⟩
 rw [kK,Nat.zero_add]
 exact hcc j u hu
theorem nv (hE:d.E = []) (h:d.R e w base ok v xs):d.R e w base (fun k=>some k = v.ownBlock) v xs:=by
 obtain ⟨h0,inner,ho,hr⟩:=h
 refine ⟨fun k hk=>hk.symm,inner,ho,hr.ia (fun p c hp=>d.M_mono (fun k hk=>?_) (d.M_bound hp))⟩
 obtain ⟨_,_,_,q,hq,_⟩:=hk
 rw [hE] at hq
 cases hq
theorem qX (d:Kd α) (e:Nat) (w:World) (base:Nat) (ok:Nat→Prop):S d e w base ok (.slice none 0 0) []:=⟨fun _=>0,ki _ _ _ _ _⟩
theorem ig (h:S d e w base ok v xs) (hok:∀ k,ok k→ok' k):S d e w base ok' v xs:=by
 obtain ⟨f,h⟩:=h
 exact ⟨f,aH h hok⟩
theorem ql (h:S d e w base ok v xs):S d e w base (fun k=>ok k∧base≤k∧k < w.heap.size∧∃ q,q∈e :: d.E∧∃ cells,w.heap[k]? = some (.cells cells q (0,0))) v xs:=by
 obtain ⟨f,h⟩:=h
 exact ⟨f,dZ h⟩
theorem rC (h:S d e w base ok v xs) (hm:∀ k,ok k→w1.heap[k]? = w.heap[k]?):S d e w1 base ok v xs:=by
 obtain ⟨f,h⟩:=h
 exact ⟨f,jt h hm⟩
theorem jf {base':Nat} (h:S d e w base ok v xs) (hb:base'≤base):S d e w base' ok v xs:=by
 obtain ⟨f,h⟩:=h
 exact ⟨f,bD h hb⟩
theorem rD (h:S d e w base ok v xs) (hm:∀ k,ok k→k < w.heap.size→w1.heap[k]? = w.heap[k]?):S d e w1 base ok v xs :=
 ig (rC (ql h) (fun k hk=>hm k hk.1 hk.2.2.1)) (fun _ hk=>hk.1)
theorem iD (h:S d e w base ok v xs) (hb:Below w.heap.size w w1):S d e w1 base ok v xs:=rD h (fun k _ hk=>hb.block k hk)
theorem gH (h:S d e w base ok v xs) (o:Obj):S d e (w.alloc o) base ok v xs:=iD h (cM (Below.refl _ _) o)
theorem iT (h:S d e w base ok v xs):S d e w.drew base ok v xs:=iD h (hY (Below.refl _ _))
theorem gJ (h:S d e w base ok v xs) (m:Nat):S d e (w.drewN m) base ok v xs:=iD h (cI (Below.refl _ _) m)
theorem nw (h:S d e w base ok v xs):∀ k,v.ownBlock = some k→∃ cells,w.heap[k]? = some (.cells cells e (0,0)):=qj (sx h)
theorem jC (h:S d e W base ok u xs) (hbase:∀ k,v.ownBlock = some k→W.heap.size≤k) (hb:Below W.heap.size W w1):S d e w1 base (fun k=>ok k∧some k≠v.ownBlock) u xs:=by
 obtain ⟨f,h⟩:=h
 exact ⟨f,dI h hbase hb⟩
theorem gn (h:S d e w1 W.heap.size ok v xs) (hlt:∀ k,u.ownBlock = some k→k < W.heap.size):S d e w1 W.heap.size (fun k=>ok k∧some k≠u.ownBlock) v xs:=by
 obtain ⟨f,h⟩:=h
 exact ⟨f,cX h hlt⟩
theorem rE (h:(bare d).R e w base ok v xs):S d e w base ok v xs:=by
 obtain ⟨h0,inner,ho,hr⟩:=h
 refine ⟨fun _=>0,h0,inner,by rw [List.length_zipIdx];exact ho,by rw [List.length_zipIdx];exact hr.1,fun j p hj=>?_⟩
 rw [List.getElem?_zipIdx,Nat.zero_add] at hj
 obtain ⟨x,hx,rfl⟩:=Option.map_eq_some_iff.1 hj
 exact d.M_mono (fun _ hk=>hk.elim) (hr.2 j x hx)
theorem sy {f f':Nat→Nat} {zs:List (α×Nat)} (h:(tag f d).R e w base ok v zs) (hf:∀ k,ok k→k < w.heap.size→f' k = f k):(tag f' d).R e w base ok v zs:=by
 obtain ⟨h0,inner,ho,hr⟩:=dZ h
 exact ⟨fun k hk=>(h0 k hk).1,inner,ho,hr.1,fun j p hj=>d.M_mono (fun k hk=>⟨⟨hk.1.1.1,hk.1.2⟩,(hf k hk.1.1.1 hk.1.1.2.2.1).trans hk.2⟩) (hr.2 j p hj)⟩
end
section
variable {α β:Type} {d:Kd α} {d':Kd β} {e e' g:Nat} {w w1 W:World} {base b:Nat} {ok ok' okv oku:Nat→Prop} {u v:Value} {xs:List α} {ys:List β}
theorem kP (h:S d e w base ok v xs):∃ A c,v = .slice A xs.length c:=bA (sx h)
theorem eZ {A:Option Addr} {n c:Nat} (h:S d e w base ok (.slice A n c) xs):n = xs.length∧n≤c∧d.C w A xs.length xs:=aJ (sx h)
theorem sA {ad:Addr} {n cap:Nat} (h:S d e W base ok (.slice (some ad) n cap) xs) (z:α) (i:Int) (h0:0≤i) (h1:i < n) :
  ∃ c,c.length = d.sz∧d.M W base (fun k=>ok k∧some k≠(Value.slice (some ad) n cap).ownBlock) (xs.getD i.toNat z) c∧∀ j u,c[j]? = some u→W.cell? (ad.add (i.toNat * d.sz+j)) = some u:=rB (sx h) z i h0 h1
theorem oT (xs:List α) (p:α):(xs ++ [p]).zipIdx = xs.zipIdx ++ [(p,xs.length)]:=by rw [List.zipIdx_append];simp
end
section
open Classical in
theorem sB {α:Type} {d:Kd α} {e base:Nat} {okv:Nat→Prop} {w:World} {v:Value} {xs:List α} (h:S d e w base okv v xs) (m:Nat) (okp:Nat→Prop) (hap:∀ k,okp k→¬ okv k):∃ f,(∀ k,okp k→f k = m)∧(tag f d).R e w base okv v xs.zipIdx:=by
 obtain ⟨f,h⟩:=h
 exact ⟨fun k=>if okp k then m else f k,fun k hk=>if_pos hk,sy h (fun k hk _=>if_neg (fun h2=>hap k h2 hk))⟩
variable {P:Program} {ops:Array Oper} {rest:List Oper} {o:Oper} {a:Act} {Q:Exit→Act→World→Prop} {Kc:Act→World→Prop} {α:Type}
theorem oU (d:Kd α) {w0 W:World} (base:Nat) (hgd:o.guard = none) (s x:Operand) (t e:TypeId) (z:Value) (bytes:Nat)
  (ho:o.op = .call { callee:=.builtin .append,args:=#[s,x],argTypes:=#[t,t] })
  (ht:P.underlying t = some (.slice e)) (hinfo:(P.info? e).map (fun i=>(i.zero,i.size,i.bytes)) = some (some z,d.sz,bytes)) (hz:z.cells.size = d.sz) (y:0 < d.sz) (X:0 < bytes)
  (v:Value) (xs:List α) (p:α) (cs:List Value) (ok okp:Nat→Prop) (hs:a.eval s = v) (hx:a.eval x = .slice (some ⟨W.heap.size,0,none⟩) 1 1) (hp:d.M W base okp p cs) (j:∀ k,okp k→ok k∧some k≠v.ownBlock) (hfresh:∀ k,W.heap.size≤k→ok k)
  (HO:S d e W base (fun k=>ok k∧¬ okp k) v xs) (HB:Below base w0 W) (hbase:base≤W.heap.size) (hl:(xs.length+1) * bytes≤140737488355328)
  (h:∀ v1 w1,S d e w1 base ok v1 (xs ++ [p])→Below base w0 w1→W.grownBy w1 v.ownBlock→(v1.ownBlock = v.ownBlock∨∃ b,v1.ownBlock = some b∧W.heap.size≤b)→wpList P ops Q rest (a.put o.dst v1) w1) :
  wpList P ops Q (o :: rest) a (W.alloc (.cells cs.toArray e)):=by
 obtain ⟨f,hf,hR⟩:=sB HO xs.length okp (fun _ hk h2=>h2.2 hk)
 refine en (tag f d) base hgd s x t e z bytes ho ht hinfo hz y X v xs.zipIdx (p,xs.length) cs ok okp hs hx (d.M_mono (fun k hk=>⟨hk,hf k hk⟩) hp) j hfresh (aH hR (fun _ hk=>hk.1)) HB hbase (by rw [List.length_zipIdx];exact hl) ?_
 intro v1 w1 hr
 rw [← oT] at hr
 exact h v1 w1 ⟨f,hr⟩
theorem sC (d:Kd α) {w0 W:World} (base e:Nat) (hgd:o.guard = none) {N:Tmp} (_hd:o.dst = some N) {xs:List α} {inner:List Value} {ok okp:Nat→Prop}
  (hrun:(execOp a.eval o).run P W = .ok (.value (.slice (some ⟨W.heap.size,0,none⟩) xs.length xs.length)) (W.alloc (.cells inner.toArray e)))
  (hrep:cl (d.M W base (fun _=>False)) d.sz xs inner) (_hok:∀ k,okp k→ok k) (hfresh:ok W.heap.size) (HB:Below base w0 W) (hbase:base≤W.heap.size) (hm:xs.length≤9223372036854775807)
  (h:∀ v1 w1,S d e w1 base ok v1 xs→Below base w0 w1→W.grownBy w1 none→(∃ b,v1.ownBlock = some b∧W.heap.size≤b)→wpList P ops Q rest (a.put o.dst v1) w1):wpList P ops Q (o :: rest) a W :=
 jx (bare d) base e hgd _hd (ok:=ok) (okp:=ok) hrun hrep (fun _ hk=>hk) hfresh HB hbase hm (fun v1 w1 hr=>h v1 w1 (rE hr))
end
def tG {α:Type} (f:Nat→Nat) (d:Kd α) (i:Nat) (c:List Value):Kd (α×Nat) where
 sz:=d.sz
 E:=d.E
 K:=fun w x cs=>(x.2 = i→cs = c∧cs.length = d.sz∧∀ u∈cs,u.oneCell' = true)∧(x.2≠i→d.K w x.1 cs)
 M:=fun w base ok x cs=>(x.2 = i→cs = c∧cs.length = d.sz∧∀ u∈cs,u.oneCell' = true)∧(x.2≠i→d.M w base (fun k=>ok k∧f k = x.2) x.1 cs)
 K_len:=fun {w x cs} h=>by
  by_cases hx:x.2 = i
  ·exact (h.1 hx).2.1
  ·exact d.K_len (h.2 hx)
 K_one:=fun {w x cs} h=>by
  by_cases hx:x.2 = i
  ·exact (h.1 hx).2.2
  ·exact d.K_one (h.2 hx)
 K_below:=fun hb h=>⟨h.1,fun hx=>d.K_below hb (h.2 hx)⟩
 K_of_M:=fun h=>⟨h.1,fun hx=>d.K_of_M (h.2 hx)⟩
 M_mono:=fun hok h=>⟨h.1,fun hx=>d.M_mono (fun k hk=>⟨hok k hk.1,hk.2⟩) (h.2 hx)⟩
 M_bound:=fun h=>⟨h.1,fun hx=>d.M_mono (fun _ hk=>⟨⟨hk.1.1,hk.2⟩,hk.1.2⟩) (d.M_bound (h.2 hx))⟩
 M_move:=fun hm h=>⟨h.1,fun hx=>d.M_move (fun k hk=>hm k hk.1) (h.2 hx)⟩
 M_lower:=fun hb h=>⟨h.1,fun hx=>d.M_lower hb (h.2 hx)⟩
def H {α:Type} (d:Kd α) (e:Nat) (w:World) (base:Nat) (ok:Nat→Prop) (v:Value) (xs:List α) (i:Int) (oki:Nat→Prop) (c:List Value):Prop :=
 (∀ k,oki k→ok k)∧∃ f,(tG f d i.toNat c).R e w base (fun k=>ok k∧¬ oki k) v xs.zipIdx
section
variable {α β:Type} {d:Kd α} {e e' g n cap:Nat} {w w1 W:World} {base:Nat} {ok ok' oki okp:Nat→Prop} {u v:Value} {xs:List α} {i:Int} {c:List Value}
theorem rF (h:S d e W base ok (.slice (some ⟨g,0,none⟩) n cap) xs) (z:α) (i:Int) (h0:0≤i) (h1:i < n) :
  ∃ (oki:Nat→Prop) (c:List Value),c.length = d.sz∧d.M W base oki (xs.getD i.toNat z) c∧(∀ j u,c[j]? = some u→W.cell? ⟨g,i.toNat * d.sz+j,none⟩ = some u)∧(∀ k,oki k→ok k∧k≠g)∧H d e W base ok (.slice (some ⟨g,0,none⟩) n cap) xs i oki c:=by
 obtain ⟨f,hR⟩:=h
 have hn:=(aJ hR).1
 rw [List.length_zipIdx] at hn
 have hgo:some g = (Value.slice (some ⟨g,0,none⟩) n cap).ownBlock:=by simp [Value.ownBlock]
 obtain ⟨y,inner,ho,hr⟩:=hR
 have hil:i.toNat < xs.length:=by omega
 have hlen:inner.length = xs.length * d.sz:=by have:=hr.1;rw [List.length_zipIdx] at this;exact this
 have hseg:i.toNat * d.sz+d.sz≤inner.length:=by rw [hlen,← Nat.succ_mul];exact Nat.mul_le_mul_right _ hil
 have hM:=hr.2 i.toNat _ (kO (List.getElem?_eq_getElem hil))
 have hkg:∀ k,some k≠(Value.slice (some ⟨g,0,none⟩) n cap).ownBlock→k≠g:=fun k hk he=>hk (by rw [he];exact hgo)
 refine ⟨fun k=>(ok k∧k≠g)∧f k = i.toNat,(inner.drop (i.toNat * d.sz)).take d.sz,by rw [List.length_take,List.length_drop];omega,?_,fun j u hu=>?_,fun k hk=>hk.1,fun k hk=>hk.1.1,f,fun k hk=>⟨y k hk,fun h2=>h2.1.2 ?_⟩,inner,ho,hr.1,fun m p hm=>?_⟩
 ·rw [List.getD_eq_getElem?_getD,List.getElem?_eq_getElem hil]
  exact d.M_mono (fun k hk=>⟨⟨hk.1.1,hkg k hk.1.2⟩,hk.2⟩) hM
 ·rw [List.getElem?_take] at hu
  split at hu
  ·rw [List.getElem?_drop] at hu
   have:=ho.cells (g:=g) hgo.symm _ u hu
   rwa [add_plain] at this
  ·cases hu
 ·rw [← hgo] at hk;injection hk with hk;exact hk.symm
 ·have hold:=hr.2 m p hm
  have Y:p.2 = m:=by
   rw [List.getElem?_zipIdx,Nat.zero_add] at hm
   obtain ⟨q,_,rfl⟩:=Option.map_eq_some_iff.1 hm
   rfl
  refine ⟨fun hx=>?_,fun hx=>d.M_mono (fun k hk=>⟨⟨⟨hk.1.1,fun h2=>hx ?_⟩,hk.1.2⟩,hk.2⟩) hold⟩
  ·have X:m = i.toNat:=by omega
   subst X
   exact ⟨rfl,d.K_len (d.K_of_M hM),d.K_one (d.K_of_M hM)⟩
  ·rw [← hk.2];exact h2.2
open Classical in
theorem rG (h:H d e w base ok v xs i oki c) {x':α} (hM:d.M w base okp x' c) (hok:∀ k,okp k→oki k):S d e w base ok v (xs.set i.toNat x'):=by
 obtain ⟨ho,f,h0,inner,hown,hr⟩:=h
 refine ⟨fun k=>if oki k then i.toNat else f k,fun k hk=>(h0 k hk).1,inner,by rw [List.length_zipIdx,List.length_set];rw [List.length_zipIdx] at hown;exact hown,by have:=hr.1;rw [List.length_zipIdx] at this;rw [List.length_zipIdx,List.length_set];exact this,fun m p hm=>?_⟩
 rw [List.getElem?_zipIdx,Nat.zero_add] at hm
 obtain ⟨q,hq,rfl⟩:=Option.map_eq_some_iff.1 hm
 have hml:m < xs.length:=by
  have:=(List.getElem?_eq_some_iff.1 hq).1
  rwa [List.length_set] at this
 by_cases j:m = i.toNat
 ·subst j
  rw [List.getElem?_set_self hml] at hq
  injection hq with hq
  subst hq
  have hc:=((hr.2 i.toNat _ (kO (List.getElem?_eq_getElem hml))).1 rfl).1
  show d.M w base _ x' ((inner.drop (i.toNat * d.sz)).take d.sz)
  rw [show (inner.drop (i.toNat * d.sz)).take d.sz = c from hc]
  exact d.M_mono (fun k hk=>⟨⟨ho k (hok k hk),fun he=>(h0 k he.symm).2 (hok k hk)⟩,if_pos (hok k hk)⟩) hM
 ·rw [List.getElem?_set_ne (Ne.symm j)] at hq
  exact d.M_mono (fun k hk=>⟨⟨hk.1.1.1,hk.1.2⟩,(if_neg hk.1.1.2).trans hk.2⟩) ((hr.2 m (q,m) (kO hq)).2 j)
theorem rH (h:H d e w base ok v xs i oki c) (hm:∀ k,ok k→¬ oki k→k < w.heap.size→w1.heap[k]? = w.heap[k]?):H d e w1 base ok v xs i oki c:=by
 obtain ⟨ho,f,h⟩:=h
 exact ⟨ho,f,ju h (fun k hk hlt=>hm k hk.1 hk.2 hlt)⟩
theorem qm (h:H d e w base ok v xs i oki c) {row:Option Nat} (hg:w.grownBy w1 row) (hrow:∀ k,row = some k→oki k):H d e w1 base ok v xs i oki c :=
 rH h (fun k _ hn hlt=>hg.block k hlt (fun he=>hn (hrow k he.symm)))
theorem oV {ad:Addr} (h:S d e W base ok (.slice (some ad) n cap) xs) (z:α) (i:Int) (h0:0≤i) (h1:i < n) :
  ∃ (oki:Nat→Prop) (c:List Value),c.length = d.sz∧d.M W base oki (xs.getD i.toNat z) c∧(∀ j u,c[j]? = some u→W.cell? (ad.add (i.toNat * d.sz+j)) = some u)∧(∀ k,oki k→ok k∧some k≠(Value.slice (some ad) n cap).ownBlock) ∧
   ∀ {w1:World} {row:Option Nat} {x':α},W.grownBy w1 row→(∀ k,row = some k→oki k)→d.M w1 base oki x' c→S d e w1 base ok (.slice (some ad) n cap) (xs.set i.toNat x'):=by
 obtain ⟨g,rfl⟩:=oS (sx h)
 obtain ⟨oki,c,hcl,hM,hcc,y,hH⟩:=rF h z i h0 h1
 refine ⟨oki,c,hcl,hM,fun j u hu=>?_,fun k hk=>⟨(y k hk).1,fun he=>(y k hk).2 ?_⟩,fun hg hrow X=>rG (qm hH hg hrow) X (fun _ hk=>hk)⟩
 ·rw [kK,Nat.zero_add]
  exact hcc j u hu
 ·simpa [Value.ownBlock] using he
end
end Kd
end Go.Proofs.ag.aT
end
section
namespace Go.Proofs.ag.aT
open Go.RowKit
namespace Kd
structure Heap {α:Type} (d:Kd α):Prop where
 K:∀ {w w1:World} {x:α} {cs:List Value},(∀ k,k < w.heap.size→w1.heap[k]? = w.heap[k]?)→d.K w x cs→d.K w1 x cs
theorem o9 {w w1:World} (hb:∀ k,k < w.heap.size→w1.heap[k]? = w.heap[k]?) {a:Addr} {v:Value} (h:w.cell? a = some v):w1.cell? a = some v:=by
 have:=hb a.block (World.block_lt_of_cell? w a h)
 simpa [World.cell?,this] using h
theorem Heap.C {α:Type} {d:Kd α} (hd:Heap d) {w w1:World} {A:Option Addr} {n:Nat} {xs:List α} (hb:∀ k,k < w.heap.size→w1.heap[k]? = w.heap[k]?) (h:d.C w A n xs):d.C w1 A n xs :=
 ⟨h.1,h.2.1,fun hn=>by
  obtain ⟨ad,e,hc⟩:=h.2.2 hn
  refine ⟨ad,e,fun j p hj=>?_⟩
  obtain ⟨c,hs,hr,hcell⟩:=hc j p hj
  exact ⟨c,hs,hd.K hb hr,fun i u hu=>o9 hb (hcell i u hu)⟩⟩
end Kd
def Kept (w W:World) (S:Nat→Prop):Prop:=w.heap.size≤W.heap.size∧∀ i,i < w.heap.size→¬ S i→W.heap[i]? = w.heap[i]?
section
variable {w W W2:World} {S S2 S':Nat→Prop}
theorem Kept.refl (w:World) (S:Nat→Prop):Kept w w S:=⟨Nat.le_refl _,fun _ _ _=>rfl⟩
theorem Kept.dV (h:Below w.heap.size w W) (S:Nat→Prop):Kept w W S:=⟨h.size,fun i hi _=>h.block i hi⟩
theorem Kept.mono (h:Kept w W S) (hs:∀ k,S k→S' k):Kept w W S':=⟨h.1,fun i hi hn=>h.2 i hi (fun hk=>hn (hs i hk))⟩
theorem Kept.oW (h:Kept w W S) (k:Kept W W2 S2) (hs:∀ k,S2 k→S k∨w.heap.size≤k):Kept w W2 S :=
 ⟨Nat.le_trans h.1 k.1,fun i hi hn=>(k.2 i (Nat.lt_of_lt_of_le hi h.1) (fun h2=>(hs i h2).elim hn (fun h3=>by omega))).trans (h.2 i hi hn)⟩
theorem Kept.gi {row:Option Nat} (hg:W.grownBy W2 row) (h:Kept w W S) (hr:∀ k,row = some k→S k∨w.heap.size≤k):Kept w W2 S :=
 h.oW (S2:=fun k=>row = some k) ⟨hg.size,fun i hi hn=>hg.block i hi (fun he=>hn he.symm)⟩ hr
theorem Kept.below (h:Kept w W S) (hb:Below W.heap.size W W2):Kept w W2 S:=h.oW (Kept.dV hb (fun _=>False)) (fun _ hk=>hk.elim)
theorem Kept.alloc (h:Kept w W S) (o:Obj):Kept w (W.alloc o) S:=h.below (cM (Below.refl _ _) o)
theorem Kept.drew (h:Kept w W S):Kept w W.drew S:=h
theorem Kept.drewN (h:Kept w W S) (m:Nat):Kept w (W.drewN m) S:=h
theorem Kept.setCell (h:Kept w W S) {p:Addr} (hp:S p.block∨w.heap.size≤p.block) (u:Value):Kept w (W.setCell p u) S :=
 h.oW (S2:=fun k=>k = p.block) ⟨by simp [World.setCell],fun i _ hn=>Below.heap_setCell W p u i hn⟩ (fun k hk=>by rw [hk];exact hp)
theorem oX {g:Nat} {o:Obj} (hb:W.heap[g]? = some o) (hk:Kept W W2 S) (hne:¬ S g):W2.heap[g]? = some o:=(hk.2 g (gh hb) hne).trans hb
end
end Go.Proofs.ag.aT
end
section
namespace Go.Proofs.ag.aT
open Go.RowKit
def jD (P:World→Prop) (W:World) (ok:Nat→Prop):Prop:=∀ W':World,(∀ k,ok k→k < W.heap.size→W'.heap[k]? = W.heap[k]?)→P W'
theorem qn {W W1:World} {k:Nat} (h:W1.heap[k]? = W.heap[k]?) (hlt:k < W.heap.size):k < W1.heap.size:=by
 rw [Array.getElem?_eq_getElem hlt] at h
 exact (Array.getElem?_eq_some_iff.1 h).1
namespace jD
variable {P Q:World→Prop} {W W1:World} {ok ok':Nat→Prop}
theorem now (h:jD P W ok):P W:=h W (fun _ _ _=>rfl)
theorem mono (h:jD P W ok) (hok:∀ k,ok k→ok' k):jD P W ok':=fun W' hW=>h W' (fun k hk hlt=>hW k (hok k hk) hlt)
theorem step (h:jD P W ok) (hm:∀ k,ok k→k < W.heap.size→W1.heap[k]? = W.heap[k]?):jD P W1 ok:=fun W' hW=>h W' (fun k hk hlt=>(hW k hk (qn (hm k hk hlt) hlt)).trans (hm k hk hlt))
theorem imp (h:jD P W ok) (hi:∀ W',P W'→Q W'):jD Q W ok:=fun W' hW=>hi W' (h W' hW)
end jD
namespace Kd
def F {α:Type} (d:Kd α) (W:World) (ok:Nat→Prop) (A:Option Addr) (n:Nat) (xs:List α):Prop:=jD (fun W=>d.C W A n xs) W ok
def FK {α:Type} (d:Kd α) (W:World) (ok:Nat→Prop) (x:α) (c:List Value):Prop:=jD (fun W=>d.K W x c) W ok
section
variable {α β:Type} {d:Kd α} {e base n n' cc g N:Nat} {ok ok' okp S:Nat→Prop} {w w0 w1 W W1:World} {A A':Option Addr} {u v v1:Value} {xs:List α} {xs':List β} {d':Kd β} {x:α} {c:List Value}
theorem sD (d:Kd α) (W:World) (ok:Nat→Prop):F d W ok none ([]:List α).length []:=fun W' _=>su d W'
theorem qo (h:d.M W base ok x c):FK d W ok x c:=fun _ hW=>d.K_of_M (oM h hW)
end
end Kd
end Go.Proofs.ag.aT
end
section
namespace Go.Proofs.ag.aT
open Go.RowKit
namespace Kd
def chunks (sz:Nat) (n:Nat) (inner:List Value):List (List Value):=(List.range n).map fun j=>(inner.drop (j * sz)).take sz
theorem e7 (sz n:Nat) (inner:List Value):(chunks sz n inner).length = n:=by simp [chunks]
theorem oa {sz n:Nat} {inner:List Value} {j:Nat} (hj:j < n):(chunks sz n inner)[j]? = some ((inner.drop (j * sz)).take sz):=by simp [chunks,hj]
theorem jE {sz n:Nat} {inner:List Value} {j:Nat} {c:List Value} (h:(chunks sz n inner)[j]? = some c):c = (inner.drop (j * sz)).take sz:=by
 have hj:j < n:=by have:=(List.getElem?_eq_some_iff.1 h).1;rwa [e7] at this
 rw [oa hj] at h
 injection h with h
 exact h.symm
theorem oY {α:Type} {Rr:α→List Value→Prop} {sz:Nat} {xs:List α} {inner:List Value} (h:cl Rr sz xs inner) (hR:∀ x c,Rr x c→c.length = sz∧∀ u∈c,u.oneCell' = true):cl (fun x cs=>cs = x∧cs.length = sz∧∀ u∈cs,u.oneCell' = true) sz (chunks sz xs.length inner) inner:=by
 refine ⟨by rw [e7];exact h.1,fun j p hj=>?_⟩
 have hjl:j < xs.length:=by have:=(List.getElem?_eq_some_iff.1 hj).1;rwa [e7] at this
 have hp:=jE hj
 exact ⟨hp.symm,hR _ _ (h.2 j _ (List.getElem?_eq_getElem hjl))⟩
section
variable {α:Type} {d:Kd α} {e base n cc g:Nat} {ok ok' okp S:Nat→Prop} {w w1 W W1:World} {A:Option Addr} {u v v1:Value} {xs:List α} {x:α} {c:List Value}
def N {α:Type} (d:Kd α) (e:Nat) (w:World) (base:Nat) (ok:Nat→Prop) (v:Value) (xs:List α):Prop :=
 (∀ k,v.ownBlock = some k→ok k)∧∃ rows:List (List Value),rows.length = xs.length∧(raw d.sz).R e w base (fun k=>some k = v.ownBlock) v rows∧∀ (j:Nat) (x:α) (c:List Value),xs[j]? = some x→rows[j]? = some c→FK d w (fun k=>ok k∧some k≠v.ownBlock) x c
theorem tH (h:d.R e w base ok v xs):N d e w base ok v xs:=by
 obtain ⟨h0,inner,ho,hr⟩:=h
 refine ⟨h0,chunks d.sz xs.length inner,e7 _ _ _,⟨fun k hk=>hk.symm,inner,by rw [e7];exact ho,oY hr (fun x c hp=>⟨d.K_len (d.K_of_M hp),d.K_one (d.K_of_M hp)⟩)⟩,fun j x c hx hc=>?_⟩
 rw [jE hc]
 exact qo (hr.2 j x hx)
theorem qY (d:Kd α) (e:Nat) (w:World) (base:Nat) (ok:Nat→Prop):N d e w base ok (.slice none 0 0) []:=tH (ki _ _ _ _ _)
end
end Kd
end Go.Proofs.ag.aT
end
section
namespace Go.Proofs.ag.bw
open Go.RowKit Go.Proofs.ag.aT
namespace Kd
open Go.Proofs.ag.aT.Kd
section
variable {α:Type} {d:Kd α} {e base g N:Nat} {ok:Nat→Prop} {W w1:World} {u v:Value} {xs:List α}
theorem nx (hu:d.R e W base ok u xs) (hb:Below W.heap.size W w1):d.R e w1 base (fun k=>ok k∧k < W.heap.size) u xs :=
 aH (bK (dZ hu) hb) (fun _ h=>⟨h.1,h.2.2.1⟩)
theorem oZ (hu:d.R e W base (fun k=>ok k∧k≠g) u xs) (hk:ay W w1 g none):d.R e w1 base (fun k=>ok k∧k < W.heap.size) u xs :=
 aH (cT (dZ hu) hk (fun _ h=>h.1.2)) (fun _ h=>⟨h.1.1,h.2.2.1⟩)
theorem eM (h:d.R e w1 base (fun k=>ok k∧k < N) u xs) (hbase:∀ k,v.ownBlock = some k→N≤k):d.R e w1 base (fun k=>(ok k∧some k≠v.ownBlock)∧k < N) u xs :=
 aH h (fun k hk=>⟨⟨hk.1,fun e=>Nat.lt_irrefl _ (Nat.lt_of_lt_of_le hk.2 (hbase k e.symm))⟩,hk.2⟩)
end
end Kd
theorem gp (k k':IntKind) (x y:Int):Builtin.max2 (.int k x) (.int k' y) = pure (.int k (if x < y then y else x)):=by simp only [Builtin.max2,gt_iff_lt]
theorem gq (k k':IntKind) (x y:Int):Builtin.min2 (.int k x) (.int k' y) = pure (.int k (if y < x then y else x)):=by simp only [Builtin.min2]
theorem iE (ats:Array TypeId) (ty:TypeId) (a b:Value):Builtin.max_ ats ty #[a,b] = (Builtin.max2 a b >>= fun s=>pure s):=by simp only [Builtin.max_,List.foldlM_cons,List.foldlM_nil]
theorem iF (ats:Array TypeId) (ty:TypeId) (a b:Value):Builtin.min_ ats ty #[a,b] = (Builtin.min2 a b >>= fun s=>pure s):=by simp only [Builtin.min_,List.foldlM_cons,List.foldlM_nil]
theorem fz (ats:Array TypeId) (ty:TypeId) (a b c:Value):Builtin.max_ ats ty #[a,b,c] = (Builtin.max2 a b >>= fun s=>Builtin.max2 s c >>= fun s=>pure s):=by simp only [Builtin.max_,List.foldlM_cons,List.foldlM_nil]
theorem fA (ats:Array TypeId) (ty:TypeId) (a b c:Value):Builtin.min_ ats ty #[a,b,c] = (Builtin.min2 a b >>= fun s=>Builtin.min2 s c >>= fun s=>pure s):=by simp only [Builtin.min_,List.foldlM_cons,List.foldlM_nil]
theorem gr (ats:Array TypeId) (ty:TypeId) (a b c d:Value):Builtin.max_ ats ty #[a,b,c,d] = (Builtin.max2 a b >>= fun s=>Builtin.max2 s c >>= fun s=>Builtin.max2 s d >>= fun s=>pure s):=by simp only [Builtin.max_,List.foldlM_cons,List.foldlM_nil]
theorem gu (ats:Array TypeId) (ty:TypeId) (a b c d:Value):Builtin.min_ ats ty #[a,b,c,d] = (Builtin.min2 a b >>= fun s=>Builtin.min2 s c >>= fun s=>Builtin.min2 s d >>= fun s=>pure s):=by simp only [Builtin.min_,List.foldlM_cons,List.foldlM_nil]
end Go.Proofs.ag.bw
namespace Go.Proofs.ag.aT
open Go.RowKit
section
variable {P:Program} {ops:Array Oper} {rest:List Oper} {o:Oper} {a:Act} {Q:Exit→Act→World→Prop} {W:World}
theorem b8 {f:FuncId} {as_q:Array Operand} {ts:Array TypeId} (_ho:o.op = .call { callee:=.value (.func f),args:=as_q,argTypes:=ts }) (h:wpList P ops Q (o :: rest) a W):wpList P ops Q (o :: rest) a W:=h
theorem cR {b:Builtin} {xs:Array Operand} {ts:Array TypeId} (_ho:o.op = .call { callee:=.builtin b,args:=xs,argTypes:=ts }) (h:wpList P ops Q (o :: rest) a W):wpList P ops Q (o :: rest) a W:=h
end
def mx (a b:Int):Int:=if a < b then b else a
def shl (k:IntKind) (x y:Int):Int:=k.wrap (x * 2 ^ min y.toNat k.bits)
def shr (k:IntKind) (x y:Int):Int:=x / 2 ^ min y.toNat k.bits
theorem ei {k:IntKind} {x y j:Int} (h:shl k x y = j) (hy:y≤k.bits):k.wrap (x * 2 ^ y.toNat) = j:=by rw [← h];unfold shl;rw [Nat.min_eq_left (by omega)]
theorem kk {k:IntKind} {x y j:Int} (h:shr k x y = j) (hy:y≤k.bits):x / 2 ^ y.toNat = j:=by rw [← h];unfold shr;rw [Nat.min_eq_left (by omega)]
theorem ij (w:World) (n:Nat):w.drewN n = w.drewN n:=rfl
namespace Kd
section
variable {α:Type} {d:Kd α} {e base:Nat} {ok:Nat→Prop} {W w1:World} {v:Value} {xs:List α}
theorem lH (h:d.R e W base ok v xs) (hE:d.E = []) {row:Option Nat} (hg:W.grownBy w1 row) (hne:row≠v.ownBlock):d.R e w1 base ok v xs :=
 aH (nn (nv hE h) hg (fun _ hk e_=>hne (e_.symm.trans hk))) (fun k hk=>h.1 k hk.symm)
end
end Kd
end Go.Proofs.ag.aT
namespace Go.Proofs.ag.aT
open Go.RowKit
namespace Kd
def V {α:Type} (d:Kd α) (_e:Nat) (W:World) (_base:Nat) (ok:Nat→Prop) (v:Value) (xs:List α):Prop:=∃ A c,v = .slice A xs.length c∧xs.length≤c∧F d W ok A xs.length xs
section
variable {α β:Type} {d:Kd α} {e base base' n m c g N' lo hi:Nat} {ok ok' S:Nat→Prop} {w W w1:World} {A:Option Addr} {ad:Addr} {u v v1:Value} {xs:List α}
theorem qZ (d:Kd α) (e:Nat) (W:World) (base:Nat) (ok:Nat→Prop):V d e W base ok (.slice none 0 0) []:=⟨none,0,rfl,Nat.le_refl _,sD d W ok⟩
end
end Kd
end Go.Proofs.ag.aT
end
section
namespace Go.Proofs.ag.bu
open Go.Proofs.ag.aT (ae)
def gK (md:Region.Mode) (o:Oper):List Nat:=(o.after.toList.filter (fun e=>Region.binds md e)).map (fun e=>e.on)
def kQ (md:Region.Mode) (ops:Array Oper) (i:Nat) (oi:Oper):List Nat:=(List.range ops.size).filter fun j=>!(j == i) && match ops[j]? with
  | some oj=>!(oj.after.any (fun e=>Region.binds md e && e.on == i) || oi.apart ops oj)
  | none=>false
def ep (md:Region.Mode) (ops:Array Oper):Bool×List (List Nat×List Nat):=(Region.noSelect ops,(List.range ops.size).map fun i=>match ops[i]? with
  | some o=>(gK md o,kQ md ops i o)
  | none=>([],[]))
def fe (T:List (List Nat×List Nat)) (l:List Bool) (i:Nat):Bool:=!l.getD i true && match T[i]? with
  | some r=>r.1.all (fun j=>l.getD j false)
  | none=>false
def jF (T:List (List Nat×List Nat)) (l:List Bool):List Nat:=(List.range T.length).filter (fe T l)
def lI (T:List (List Nat×List Nat)) (l:List Bool) (i:Nat):Bool:=match T[i]? with
  | some r=>r.2.all (fun j=>l.getD j true)
  | none=>false
def jg (T:List (List Nat×List Nat)) (l:List Bool):Bool:=(List.range T.length).all fun j=>!l.getD j false || match T[j]? with
  | some r=>r.1.all (fun k=>l.getD k false)
  | none=>true
def iU (T:List (List Nat×List Nat)) (i:Nat):Nat→Nat→Bool
  | 0,_=>false
  | fuel+1,d=>match T[d]? with
    | some r=>r.1.any fun j=>j == i || iU T i fuel j
    | none=>false
def ny (T:List (List Nat×List Nat)) (l:List Bool) (ds:List Nat) (i:Nat):Bool:=ds.all fun d=>l.getD d true || iU T i T.length d
section
variable {md:Region.Mode} {ops:Array Oper} {T:Bool×List (List Nat×List Nat)} {l l' li lj lk:Array Bool} {ds:List Nat} {i j k:Nat}
theorem gd (l:Array Bool) (j:Nat) (b:Bool):l.getD j b = l.toList.getD j b:=by simp [Array.getD_eq_getD_getElem?,List.getD_eq_getElem?_getD]
theorem kn (o:Oper) (p:Nat→Bool):o.after.all (fun e=>!Region.binds md e || p e.on) = (gK md o).all p:=by
 unfold gK
 rw [← Array.all_toList]
 induction o.after.toList with
 | nil=>rfl
 | cons e r ih =>
  rw [List.all_cons,ih,List.filter_cons]
  cases h:Region.binds md e <;> simp
theorem oc (o:Oper) (p:Nat→Bool):o.after.any (fun e=>Region.binds md e && p e.on) = (gK md o).any p:=by
 unfold gK
 rw [← Array.any_toList]
 induction o.after.toList with
 | nil=>rfl
 | cons e r ih =>
  rw [List.any_cons,ih,List.filter_cons]
  cases h:Region.binds md e <;> simp
theorem ff:(ep md ops).2.length = ops.size:=by simp [ep]
theorem gM {o:Oper} (h:ops[i]? = some o):(ep md ops).2[i]? = some (gK md o,kQ md ops i o):=by
 have hi:=(Array.getElem?_eq_some_iff.1 h).1
 unfold ep
 rw [List.getElem?_map,List.getElem?_range hi,Option.map_some,h]
theorem gN (h:ops[i]? = none):(ep md ops).2[i]? = none:=by
 have hi:ops.size≤i:=Array.getElem?_eq_none_iff.1 h
 exact List.getElem?_eq_none (by rw [ff];exact hi)
theorem mF:fe (ep md ops).2 l.toList i = (!l.getD i true && ((ops[i]?).map (·.after.all fun e=>!Region.binds md e || l.getD e.on false)).getD false):=by
 unfold fe
 rw [gd]
 cases h:ops[i]? with
 | none=>rw [gN h];rfl
 | some o =>
  rw [gM h]
  simp only [Option.map_some,Option.getD_some]
  rw [← kn]
  simp only [gd]
theorem jG:Region.ready md ops l = jF (ep md ops).2 l.toList:=by
 unfold Region.ready jF
 rw [ff]
 refine List.filter_congr (fun i _=>?_)
 rw [mF]
theorem nA:Region.free md ops l i = lI (ep md ops).2 l.toList i:=by
 unfold Region.free lI
 cases h:ops[i]? with
 | none=>rw [gN h]
 | some oi =>
  rw [gM h]
  simp only [kQ]
  rw [List.all_filter]
  congr 1
  funext j
  rw [gd]
  cases hj:ops[j]? with
  | none=>cases (j == i) <;> cases (l.toList.getD j true) <;> simp
  | some oj =>
   cases (j == i) <;> cases (l.toList.getD j true) <;> cases (oj.after.any (fun e=>Region.binds md e && e.on == i) || oi.apart ops oj) <;> simp_all
theorem od:Region.iB md ops l = jg (ep md ops).2 l.toList:=by
 unfold Region.iB jg
 rw [ff]
 congr 1
 funext j
 rw [gd]
 cases h:ops[j]? with
 | none=>rw [gN h]
 | some o =>
  rw [gM h]
  simp only
  rw [← kn]
  simp only [gd]
theorem lJ:∀ (fuel d:Nat),Region.eK md ops i fuel d = iU (ep md ops).2 i fuel d
 | 0,_=>rfl
 | fuel+1,d=>by
  unfold Region.eK iU
  cases h:ops[d]? with
  | none=>rw [gN h]
  | some o =>
   rw [gM h]
   simp only
   rw [← oc]
   congr 1
   funext e
   rw [lJ fuel]
theorem qp:Region.nt md ops l ds i = ny (ep md ops).2 l.toList ds i:=by
 unfold Region.nt ny
 rw [ff]
 congr 1
 funext d
 rw [gd,lJ]
theorem j4 (h:fe T.2 l.toList i = true) (hT:ep md ops = T):(Region.ready md ops l).contains i = true:=by
 subst hT
 rw [jG]
 unfold jF
 rw [List.contains_iff_mem,List.mem_filter,List.mem_range]
 refine ⟨?_,h⟩
 unfold fe at h
 rw [Bool.and_eq_true] at h
 cases hq:(ep md ops).2[i]? with
 | none=>rw [hq] at h;simp at h
 | some r=>exact (List.getElem?_eq_some_iff.1 hq).1
theorem mG (h:(l.toList.set i true == l'.toList) = true):(l.setIfInBounds i true == l') = true:=by
 rw [beq_iff_eq] at h ⊢
 apply Array.ext'
 rw [Array.toList_setIfInBounds]
 exact h
def rI (T:Bool×List (List Nat×List Nat)) (l l':List Bool) (i:Nat):Bool:=T.1 && lI T.2 l i && fe T.2 l i && (l.set i true == l')
theorem rJ (hT:ep md ops = T) (h:rI T l.toList l'.toList i = true):qk md ops l l' i = true:=by
 simp only [rI,Bool.and_eq_true] at h
 obtain ⟨⟨⟨h1,h2⟩,h3⟩,h4⟩:=h
 have h5:=j4 h3 hT
 have j:=mG h4
 subst hT
 simp only [qk,Bool.and_eq_true]
 exact ⟨⟨⟨h1,by rw [nA];exact h2⟩,h5⟩,j⟩
def p4 (T:Bool×List (List Nat×List Nat)) (ds:List Nat) (l l':List Bool) (i:Nat):Bool:=T.1 && lI T.2 l i && fe T.2 l i && jg T.2 l && ny T.2 l ds i && (l.set i true == l')
theorem qq (hT:ep md ops = T) (h:p4 T ds l.toList l'.toList i = true):lG md ops ds l l' i = true:=by
 simp only [p4,Bool.and_eq_true] at h
 obtain ⟨⟨⟨⟨⟨h1,h2⟩,h3⟩,h4⟩,h5⟩,j⟩:=h
 have y:=j4 h3 hT
 have z:=mG j
 subst hT
 simp only [lG,Bool.and_eq_true]
 exact ⟨⟨⟨⟨⟨h1,by rw [nA];exact h2⟩,y⟩,by rw [od];exact h4⟩,by rw [qp];exact h5⟩,z⟩
theorem dJ (hT:ep md ops = T) (h:(jF T.2 l.toList == [i] && l.toList.set i true == l'.toList) = true):iS md ops l l' i = true:=by
 simp only [Bool.and_eq_true] at h
 obtain ⟨h1,h2⟩:=h
 subst hT
 simp only [iS,Bool.and_eq_true]
 exact ⟨by rw [jG];exact h1,mG h2⟩
theorem fL (hT:ep md ops = T) (h:(jF T.2 l.toList == []) = true):(Region.ready md ops l == []) = true:=by
 subst hT
 rw [jG]
 exact h
def rK (B:List Nat) (d:Nat):List Nat→Nat
 | []=>0
 | n :: r=>(2 ^ n ||| (if n < d then B.getD n 0 else 0)) ||| rK B d r
def ec (T:List (List Nat×List Nat)) (B:List Nat):Bool:=(List.range T.length).all fun d=>match T[d]? with
  | some r=>(B.getD d 0 ||| rK B d r.1) == rK B d r.1
  | none=>false
theorem nB {B:List Nat} {d i:Nat}:∀ {ns:List Nat},(rK B d ns).testBit i = true→∃ n∈ns,n = i∨(n < d∧(B.getD n 0).testBit i = true)
 | [],h=>by simp [rK] at h
 | n :: r,h=>by
  unfold rK at h
  rw [Nat.testBit_or,Nat.testBit_or,Bool.or_eq_true,Bool.or_eq_true] at h
  rcases h with (h | h) | h
  ·rw [Nat.testBit_two_pow] at h
   exact ⟨n,List.mem_cons_self,.inl (by simpa using h)⟩
  ·by_cases hn:n < d
   ·rw [if_pos hn] at h
    exact ⟨n,List.mem_cons_self,.inr ⟨hn,h⟩⟩
   ·rw [if_neg hn] at h
    simp at h
  ·obtain ⟨m,hm,h2⟩:=nB h
   exact ⟨m,List.mem_cons_of_mem _ hm,h2⟩
theorem ko {T:List (List Nat×List Nat)} {B:List Nat} (hB:ec T B = true):∀ (fuel d:Nat),d < fuel→d < T.length→(B.getD d 0).testBit i = true→iU T i fuel d = true
 | 0,d,h,_,_=>by omega
 | fuel+1,d,h,hd,hb=>by
  have h1:=List.all_eq_true.1 hB d (List.mem_range.2 hd)
  cases hr:T[d]? with
  | none=>rw [hr] at h1;simp at h1
  | some r =>
   rw [hr] at h1
   simp only [beq_iff_eq] at h1
   have h2:(rK B d r.1).testBit i = true:=by rw [← h1,Nat.testBit_or,hb,Bool.true_or]
   obtain ⟨n,hn,h3⟩:=nB h2
   unfold iU
   rw [hr]
   simp only
   rw [List.any_eq_true]
   refine ⟨n,hn,?_⟩
   rcases h3 with rfl | ⟨h4,h5⟩
   ·simp
   ·rw [ko hB fuel n (by omega) (by omega) h5,Bool.or_true]
def r6 (T:List (List Nat×List Nat)) (B:List Nat) (l:List Bool) (ds:List Nat) (i:Nat):Bool:=ds.all fun d=>l.getD d true || (decide (d < T.length) && (B.getD d 0).testBit i)
def p5 (T:Bool×List (List Nat×List Nat)) (B:List Nat) (ds:List Nat) (l l':List Bool) (i:Nat):Bool:=T.1 && lI T.2 l i && fe T.2 l i && jg T.2 l && r6 T.2 B l ds i && (l.set i true == l')
theorem p6 {B:List Nat} (hT:ep md ops = T) (hB:ec T.2 B = true) (h:p5 T B ds l.toList l'.toList i = true):lG md ops ds l l' i = true:=by
 refine qq hT ?_
 simp only [p5,p4,Bool.and_eq_true] at h ⊢
 obtain ⟨⟨⟨⟨⟨h1,h2⟩,h3⟩,h4⟩,h5⟩,z⟩:=h
 refine ⟨⟨⟨⟨⟨h1,h2⟩,h3⟩,h4⟩,?_⟩,z⟩
 unfold r6 at h5
 unfold ny
 rw [List.all_eq_true] at h5 ⊢
 intro d hd
 have j:=h5 d hd
 rw [Bool.or_eq_true,Bool.and_eq_true,decide_eq_true_eq] at j
 rcases j with j | ⟨y,X⟩
 ·rw [j,Bool.true_or]
 ·rw [ko hB _ d y y X,Bool.or_true]
theorem ez {P:Program} {Q:Exit→Act→World→Prop} {S:World→Prop} {n:Nat} {a:Act} {w:World} {B:List Nat} (hT:ep md ops = T) (hB:ec T.2 B = true) (h:ae (ep md ops = T)→ae (ec T.2 B = true)→bB P md ops Q S ds n l a w):bB P md ops Q S ds n l a w:=h ⟨hT⟩ ⟨hB⟩
end
def gX:Code→Nat→Option (Array Oper)
  | .region id ops _,k=>if id == k then some ops else none
  | .seq a b,k=>match gX a k with
    | some o=>some o
    | none=>gX b k
  | .cond _ a b,k=>match gX a k with
    | some o=>some o
    | none=>gX b k
  | .block _ c,k=>gX c k
  | .loop c,k=>gX c k
  | .scope c,k=>gX c k
  | .rangeFunc _ _ a b,k=>match gX a k with
    | some o=>some o
    | none=>gX b k
  | _,_=>none
def opsOf (f:Func) (k:Nat):Array Oper:=((f.body.bind fun c=>gX c k)).getD #[]
end Go.Proofs.ag.bu
end
section
namespace Go.Proofs.Ytmpodackojmojaa.af
open Go.RowKit Go.Proofs.ag.aT Go.Proofs.ag.bu Go.Proofs.ag.bw
structure ke (P:Program) (W:World) (fv:Value) (g:Int→Option Bool):Prop where
 mk :: (out:∃ (f:Nat) (caps:Array Value) (fn:Func),fv = .func (.func f) #[] caps∧P.funcs[f]? = some fn∧(fn.name == "runtime.NumGoroutine") = false∧fn.body.isSome = true ∧
  ∀ (s:Int) (b:Bool) (w:World),Below W.heap.size W w→g s = some b→Calls P f (#[.int .i64 s] ++ caps) w fun e w'=>e = .returned (.bool b)∧Below w.heap.size w w')
theorem ke.below {P:Program} {W W1:World} {fv:Value} {g:Int→Option Bool} (h:ke P W fv g) (hb:Below W.heap.size W W1):ke P W1 fv g:=by
 obtain ⟨f,caps,fn,h1,h2,h3,h4,h5⟩:=h.out
 exact ⟨⟨f,caps,fn,h1,h2,h3,h4,fun s b w hw hg=>h5 s b w (js hb hb.size hw) hg⟩⟩
theorem kR {P:Program} {ops:Array Oper} {Q:Exit→Act→World→Prop} {rest:List Oper} {oi:Oper} {a:Act} {W w:World} {fv:Value} {g:Int→Option Bool} {s:Int} {b:Bool} (N:Option Tmp) (hd:oi.dst = N) (hg:oi.guard = none) (t:Tmp) {ars:Array Operand} {ts:Array TypeId}
  (hop:oi.op = .call { callee:=.value (.tmp t),args:=ars,argTypes:=ts }) (hF:ke P W fv g) (hb:g s = some b) (hB:Below W.heap.size W w) (hv:a.eval (.tmp t) = fv) (hargs:ars.map a.eval = #[.int .i64 s])
  (h:∀ w',Below w.heap.size w w'→wpList P ops Q rest (a.put N (.bool b)) w'):wpList P ops Q (oi :: rest) a w:=by
 obtain ⟨f,caps,fn,rfl,hf,hname,hbody,hc⟩:=hF.out
 refine wpList_plain hg fun K hK=>?_
 have he:=kN hf hname hbody (#[.int .i64 s] ++ caps) w
 have hrun:(execOp a.eval oi).run P w = .ok (.enter f (#[.int .i64 s] ++ caps)) w:=by
  unfold execOp
  simp [hop,resolve,Deferred.ofValue,invoke,hv,hargs]
  simpa using he
 unfold Oper.wp
 rw [hrun,Oper.upon_enter]
 refine (hc s b w hB hb).mono fun e w'' hh=>?_
 obtain ⟨rfl,hk⟩:=hh
 subst hd
 exact hK _ _ (h _ hk)
class ey (W W':World):Prop where
 h:Below W.heap.size W W'
instance (W:World):ey W W:=⟨Below.refl _ _⟩
instance (W V:World) (o:Obj) [a:ey W V]:ey W (V.alloc o):=⟨cM a.h o⟩
instance (W V:World) (n:Nat) [a:ey W V]:ey W (V.drewN n):=⟨cI a.h n⟩
instance (W V:World) [a:ey W V]:ey W V.drew:=⟨cu a.h⟩
theorem Rw {α:Type} {d:Kd α} {e:Nat} {W W':World} {base:Nat} {ok:Nat→Prop} {v:Value} {xs:List α} (h:Kd.R d e W base ok v xs) [a:ey W W']:Kd.R d e W' base ok v xs:=Kd.bK h a.h
theorem Sw {α:Type} {d:Kd α} {e:Nat} {W W':World} {base:Nat} {ok:Nat→Prop} {v:Value} {xs:List α} (h:Kd.S d e W base ok v xs) [a:ey W W']:Kd.S d e W' base ok v xs:=Kd.iD h a.h
theorem Cw {α:Type} {d:Kd α} {W W':World} {A:Option Addr} {n:Nat} {xs:List α} (h:Kd.C d W A n xs) [a:ey W W']:Kd.C d W' A n xs:=Kd.aX h a.h
theorem Bw {W W':World} {g:Nat} {o:Obj} (h:W.heap[g]? = some o) [a:ey W W']:W'.heap[g]? = some o:=aU h a.h
theorem Lw {w W W':World} (h:Below w.heap.size w W) [a:ey W W']:Below w.heap.size w W':=ax h a.h
theorem O {p:Prop} (h:ae p:=by assumption):p:=h.out
theorem D {p:Prop} [Decidable p] (h:decide p = true:=by first | (with_reducible assumption) | assumption):p:=of_decide_eq_true h
theorem E {p:Prop} (h:p:=by first | rfl | (simp [fB,fC] <;> rfl) | (simp [*,fB,fC] <;> rfl)):p:=h
theorem F {p:Prop} (h:p:=by first | rfl | (simp;done) | (simp [*];done)):p:=h
theorem G {p:Prop} (h:p:=by repeat (first | exact bQ.refl _ | apply bQ.step)):p:=h
theorem Z {p:Prop} (h:p:=by first | with_reducible exact H | (have H2_:=(Option.bind_some _ _).symm.trans H;with_reducible exact H2_) | exact H):p:=h
theorem ip {c:Prop} [Decidable c] {α:Type} {t:Option α} {r:α} (h:(if c then t else none) = some r):c∧t = some r:=by
 by_cases hc:c
 ·rw [if_pos hc] at h;exact ⟨hc,h⟩
 ·rw [if_neg hc] at h;cases h
theorem be {α β:Type} {x:Option α} {f:α→Option β} {b:β} (h:x.bind f = some b):∃ a,ae (x = some a)∧f a = some b:=by
 obtain ⟨a,h1,h2⟩:=Option.bind_eq_some_iff.mp h
 exact ⟨a,⟨h1⟩,h2⟩
theorem W {p:Prop} (h:p:=by first | exact ⟨rfl,_,World.drewN_drewN _ _ _⟩ | exact ⟨rfl,_,Eq.trans (World.drewN_drewN _ _ _) (congrArg (World.drewN _) (Nat.add_assoc _ _ _))⟩):p:=h
theorem N {p:Prop} (h:p:=by first | exact Kd.ki _ _ _ _ _ | exact Kd.qY _ _ _ _ _ | exact Kd.qZ _ _ _ _ _ | exact Kd.qW _ _ _ _ _ | exact Kd.qX _ _ _ _ _):p:=h
theorem L {p:Prop} (h:p:=by repeat (first | (with_reducible first | exact af.O | apply cM | apply cI | apply cu | refine ct ?_ af.O) | exact af.O)):p:=h
theorem fr {W:World} {g:Nat} {o:Obj} {p:Addr} {u:Value} (h:W.heap[g]? = some o) (hp:g≠p.block):(W.setCell p u).heap[g]? = some o:=(Below.heap_setCell W p u g hp).trans h
theorem B {p:Prop} (h:p:=by repeat (first | (with_reducible first | exact af.O | apply cC | apply bC | apply bU | refine af.fr ?_ af.O) | apply dQ | rfl)):p:=h
theorem I {p:Prop} (h:p:=by repeat (first | (with_reducible first | exact af.O | apply an.alloc | apply an.drewN | apply an.drew | apply an.sF | apply an.sG | refine an.tJ ?_ af.O _) | exact af.O)):p:=h
theorem J {w W W':World} (_h:ae (Below w.heap.size w W)) (k:Below w.heap.size w W':=by repeat (first | (with_reducible first | exact af.O | apply cM | apply cI | apply cu | refine ct ?_ af.O | refine ct ?_ (an.ge af.O)) | exact af.O)):Below w.heap.size w W':=k
theorem K {w W W':World} {g:Nat} {row:Option Nat} (_h:ae (ay w W g row)) (k:ay w W' g row:=by repeat (first | (with_reducible first | exact af.O | apply ay.sq | apply mD | apply iQ | apply mE | refine oP ?_ af.O _) | exact af.O)):ay w W' g row:=k
theorem ai {k:IntKind} {w:World} {A:Option Addr} {n:Nat} {xs:List Int} (h:(Kd.int k).C w A n xs) (i:Int) (p:0≤i:=by exact af.D) (q:i < n:=by exact af.D):∃ ad,A = some ad∧w.cell? (ad.add i.toNat) = some (.int k (rd xs i))∧(0≤i) = True∧(i < (n:Int)) = True:=by
 obtain ⟨ad,h1,h2⟩:=Kd.cF h i p q
 exact ⟨ad,h1,h2,eq_true p,eq_true q⟩
theorem gw {w W W':World} {g:Nat} (hg:g = W'.heap.size) (h:ae (Below w.heap.size w W)) [ey W W']:ae (w.heap.size≤g):=⟨by rw [hg];exact aA (Lw h.out)⟩
theorem gL {w W':World} {g:Nat} (hg:g = W'.heap.size) (h:Below w.heap.size w W'):ae (w.heap.size≤g):=⟨by rw [hg];exact aA h⟩
theorem nl {W W':World} {g g':Nat} {o:Obj} (hg:g' = W'.heap.size) (h:ae (W.heap[g]? = some o)) [ey W W']:ae (g≠g'):=⟨by rw [hg];exact Nat.ne_of_lt (gh (Bw h.out))⟩
theorem ng {W W':World} {g g':Nat} {o:Obj} (hg:g' = W'.heap.size) (h:ae (W.heap[g]? = some o)) [ey W W']:ae (g'≠g):=⟨by rw [hg];exact Nat.ne_of_gt (gh (Bw h.out))⟩
theorem bb {W W' W2:World} {g:Nat} {o:Obj} (h:ae (W.heap[g]? = some o)) (hb:Below W'.heap.size W' W2) [ey W W']:ae (W2.heap[g]? = some o):=⟨aU (Bw h.out) hb⟩
theorem lb {w W W' W2:World} (h:ae (Below w.heap.size w W)) (hb:Below W'.heap.size W' W2) [ey W W']:ae (Below w.heap.size w W2):=⟨ax (Lw h.out) hb⟩
theorem rb {α:Type} {d:Kd α} {e:Nat} {W W' W2:World} {base:Nat} {ok:Nat→Prop} {v:Value} {xs:List α} (h:ae (Kd.R d e W base ok v xs)) (hb:Below W'.heap.size W' W2) [ey W W']:ae (Kd.R d e W2 base ok v xs):=⟨Kd.bK (Rw h.out) hb⟩
section
variable {P:Program} {ops:Array Oper} {rest:List Oper} {a:Act} {Q:Exit→Act→World→Prop}
theorem gl {o:Oper} {w:World} (N:Option Tmp) {f:FuncId} {fn:Func} {as_q:Array Operand} {ts:Array TypeId} (hf:P.funcs[f]? = some fn) (args:Array Value)
  (h:Calls P f args w fun e w'=>∃ v,e = .returned v∧wpList P ops Q rest (a.put N v) w') (hd:o.dst = N:=by with_reducible rfl) (hop:o.op = .call { callee:=.value (.func f),args:=as_q,argTypes:=ts }:=by with_reducible rfl) (hg:o.guard = none:=by rfl)
  (hname:(fn.name == "runtime.NumGoroutine") = false:=by kernel_rfl) (hb:fn.body.isSome = true:=by rfl) (hargs:as_q.map a.eval = args:=by (try simp only [List.map_toArray,List.map_cons,List.map_nil]);first | done | rfl):wpList P ops Q (o :: rest) a w:=rA N hd hg hf hname hb args hop hargs h
theorem bx {o:Oper} {W:World} (N:Tmp) (cs:Array Value) (t:TypeId)
  (h:∀ g,g = W.heap.size→∀ w1,w1.heap[g]? = some (.cells cs t (0,0))→Below W.heap.size W w1→wpList P ops Q rest (a.put o.dst (.pointer (some ⟨g,0,none⟩))) w1) (hd:o.dst = some N:=by with_reducible rfl) (hgd:o.guard = none:=by rfl)
  (hrun:(execOp a.eval o).run P W = .ok (.value (.pointer (some ⟨W.heap.size,0,none⟩))) (W.alloc (.cells cs t (0,0))):=by first | (go_simp;done) | (go_simp;rfl)):wpList P ops Q (o :: rest) a W:=ck hgd hd hrun h
theorem lt {o:Oper} {α:Type} (d:Kd α) {W:World} (e:Nat) (N:Tmp)
  (h:∀ v1 w1,d.R e w1 W.heap.size (fun _=>True) v1 []→Below W.heap.size W w1→W.grownBy w1 none→(∃ b,v1.ownBlock = some b∧W.heap.size≤b)→wpList P ops Q rest (a.put o.dst v1) w1) (hd:o.dst = some N:=by with_reducible rfl) (hgd:o.guard = none:=by rfl)
  (hrun:(execOp a.eval o).run P W = .ok (.value (.slice (some ⟨W.heap.size,0,none⟩) 0 0)) (W.alloc (.cells #[] e)):=by first | (go_simp;done) | (go_simp;rfl)):wpList P ops Q (o :: rest) a W :=
 Kd.jx d _ e hgd hd (xs:=[]) (inner:=[]) (ok:=fun _=>True) (okp:=fun _=>True) hrun (cl.none _ _) (fun _ hk=>hk) trivial (Below.refl _ _) (Nat.le_refl _) (by simp) h
end
section
variable {P:Program} {md:Region.Mode} {ops:Array Oper} {Q:Exit→Act→World→Prop} {S:World→Prop} {ds:List Nat} {T:Bool×List (List Nat×List Nat)} {B:List Nat} {oi:Oper} {v:Value} {fuel:Nat} {l l':Array Bool} {a a':Act} {w:World}
theorem pu (i:Nat) (N:Tmp) (HT:ae (ep md ops = T)) (h:bB P md ops Q S ds fuel l' a' w) (hi:ops[i]? = some oi:=by rfl) (hN:oi.dst = some N:=by rfl) (_hl:l.setIfInBounds i true = l':=by simp only [List.setIfInBounds_toArray,List.set_cons_zero,List.set_cons_succ];rfl)
  (hc:rI T l.toList l'.toList i = true:=by kernel_rfl) (hQ:∀ c a w,Q (.panic c) (a.put oi.dst v) w→Q (.panic c) a w:=by exact fun _ _ _ h=>h)
  (hy:Yields P ops oi v a:=by exact Or.inl ⟨by rfl,by intro w';go_simp;with_reducible rfl⟩) (ha:a.put (some N) v = a':=by simp only [Act.put,List.setIfInBounds_toArray,List.set_cons_zero,List.set_cons_succ,bE,cG];rfl):bB P md ops Q S ds (fuel+1) l a w :=
 gW l' hi hN (rJ HT.out hc) hQ hy ha h
theorem tk (i:Nat) (N:Tmp) (HT:ae (ep md ops = T)) (HW:ae (ec T.2 B = true)) (hS:S w) (h:bB P md ops Q S ds fuel l' a' w) (hi:ops[i]? = some oi:=by rfl) (hN:oi.dst = some N:=by rfl) (_hl:l.setIfInBounds i true = l':=by simp only [List.setIfInBounds_toArray,List.set_cons_zero,List.set_cons_succ];rfl)
  (hc:p5 T B ds l.toList l'.toList i = true:=by kernel_rfl) (hQ:∀ c a w,Q (.panic c) (a.put oi.dst v) w→Q (.panic c) a w:=by exact fun _ _ _ h=>h)
  (hy:YieldsIf P ops S oi v a:=by exact Or.inl ⟨by rfl,by intro w' hs;(repeat (obtain ⟨_,hs⟩:=hs));go_simp;with_reducible rfl⟩) (ha:a.put (some N) v = a':=by simp only [Act.put,List.setIfInBounds_toArray,List.set_cons_zero,List.set_cons_succ,bE,cG];rfl):bB P md ops Q S ds (fuel+1) l a w :=
 j1 l' hi hN (p6 HT.out HW.out hc) hQ hy hS ha h
end
theorem cY {W:World} {g:Nat} {a b:Value} {t:Nat} (h:W.heap[g]? = some (.cells #[a,b] t (0,0))):W.cell? ⟨g,0,none⟩ = some a∧W.cell? ⟨g,1,none⟩ = some b∧W.frozen? ⟨g,0,none⟩ = false∧W.frozen? ⟨g,1,none⟩ = false:=⟨(ah h 0).trans rfl,(ah h 1).trans rfl,aj h 0,aj h 1⟩
theorem bW {W:World} {g:Nat} {a b c:Value} {t:Nat} (h:W.heap[g]? = some (.cells #[a,b,c] t (0,0))):W.cell? ⟨g,0,none⟩ = some a∧W.cell? ⟨g,1,none⟩ = some b∧W.cell? ⟨g,2,none⟩ = some c∧W.frozen? ⟨g,0,none⟩ = false∧W.frozen? ⟨g,1,none⟩ = false∧W.frozen? ⟨g,2,none⟩ = false:=⟨(ah h 0).trans rfl,(ah h 1).trans rfl,(ah h 2).trans rfl,aj h 0,aj h 1,aj h 2⟩
class Mo {α:Type} (a b:Option α):Prop where out:fu a b
theorem mz {α:Type} {a b:Option α} (h:a = none):Mo a b:=⟨by rw [h];exact fu.none _⟩
theorem mt {α:Type} {a b:Option α} (h:fu a b:=by with_reducible repeat' first | exact fu.refl _ | refine fu.bind ?_ fun _=>?_ | refine fu.ite ?_ ?_ | exact af.Mo.out | exact fu.none _ | intro _):fu a b:=h
abbrev V1 {α0 β:Type} (F:Nat→α0→Option β):Prop:=∀ y0 k,Mo (F k y0) (F (k+1) y0)
abbrev S2 {α0 α1 β:Type} (F:Nat→α0→α1→Option β) (k:Nat):Prop:=∀ y0 y1,Mo (F k y0 y1) (F (k+1) y0 y1)
abbrev S3 {α0 α1 α2 β:Type} (F:Nat→α0→α1→α2→Option β) (k:Nat):Prop:=∀ y0 y1 y2,Mo (F k y0 y1 y2) (F (k+1) y0 y1 y2)
abbrev V4 {α0 α1 α2 α3 β:Type} (F:Nat→α0→α1→α2→α3→Option β):Prop:=∀ y0 y1 y2 y3 k,Mo (F k y0 y1 y2 y3) (F (k+1) y0 y1 y2 y3)
abbrev S6 {α0 α1 α2 α3 α4 α5 β:Type} (F:Nat→α0→α1→α2→α3→α4→α5→Option β) (k:Nat):Prop:=∀ y0 y1 y2 y3 y4 y5,Mo (F k y0 y1 y2 y3 y4 y5) (F (k+1) y0 y1 y2 y3 y4 y5)
abbrev S7 {α0 α1 α2 α3 α4 α5 α6 β:Type} (F:Nat→α0→α1→α2→α3→α4→α5→α6→Option β) (k:Nat):Prop:=∀ y0 y1 y2 y3 y4 y5 y6,Mo (F k y0 y1 y2 y3 y4 y5 y6) (F (k+1) y0 y1 y2 y3 y4 y5 y6)
abbrev S8 {α0 α1 α2 α3 α4 α5 α6 α7 β:Type} (F:Nat→α0→α1→α2→α3→α4→α5→α6→α7→Option β) (k:Nat):Prop:=∀ y0 y1 y2 y3 y4 y5 y6 y7,Mo (F k y0 y1 y2 y3 y4 y5 y6 y7) (F (k+1) y0 y1 y2 y3 y4 y5 y6 y7)
abbrev tI {α0 α1 α2 α3 α4 α5 α6 α7 α8 α9 α10 α11 β:Type} (F:Nat→α0→α1→α2→α3→α4→α5→α6→α7→α8→α9→α10→α11→Option β) (k:Nat):Prop:=∀ y0 y1 y2 y3 y4 y5 y6 y7 y8 y9 y10 y11,Mo (F k y0 y1 y2 y3 y4 y5 y6 y7 y8 y9 y10 y11) (F (k+1) y0 y1 y2 y3 y4 y5 y6 y7 y8 y9 y10 y11)
end Go.Proofs.Ytmpodackojmojaa.af
end
section
namespace Go.Proofs.ag.aT
theorem cl.one {α:Type} {R:α→List Value→Prop} {ps:List α} {cs:List Value} {p:α} {v:Value} (hp:R p [v]) (h:cl R 1 ps cs):cl R 1 (p :: ps) (v :: cs):=by
 refine ⟨by simp [h.1],fun j q hq=>?_⟩
 cases j with
 | zero =>
  simp only [List.getElem?_cons_zero,Option.some.injEq] at hq
  subst hq
  simpa using hp
 | succ j =>
  simp only [List.getElem?_cons_succ] at hq
  have h1:=h.2 j q hq
  simpa [Nat.mul_one] using h1
theorem cl.front {α:Type} {R:α→List Value→Prop} {size:Nat} {ps:List α} {cs c all:List Value} {p:α} (hp:R p c) (hc:c.length = size) (h:cl R size ps cs) (ha:c ++ cs = all):cl R size (p :: ps) all:=by
 subst ha
 refine ⟨by rw [List.length_append,hc,h.1,List.length_cons,Nat.succ_mul,Nat.add_comm],fun j q hq=>?_⟩
 cases j with
 | zero =>
  simp only [List.getElem?_cons_zero,Option.some.injEq] at hq
  subst hq
  rw [Nat.zero_mul,List.drop_zero,List.take_append_of_le_length (by omega),List.take_of_length_le (by omega)]
  exact hp
 | succ j =>
  simp only [List.getElem?_cons_succ] at hq
  have h1:=h.2 j q hq
  rw [Nat.succ_mul,List.drop_append,List.drop_of_length_le (by rw [hc];exact Nat.le_add_left _ _),List.nil_append,hc,Nat.add_sub_cancel]
  exact h1
theorem cl.c2 {α:Type} {R:α→List Value→Prop} {ps:List α} {cs:List Value} {p:α} {va vb:Value} (hp:R p [va,vb]) (h:cl R 2 ps cs):cl R 2 (p :: ps) (va :: vb :: cs):=cl.front hp rfl h rfl
theorem cl.c3 {α:Type} {R:α→List Value→Prop} {ps:List α} {cs:List Value} {p:α} {va vb vc:Value} (hp:R p [va,vb,vc]) (h:cl R 3 ps cs):cl R 3 (p :: ps) (va :: vb :: vc :: cs):=cl.front hp rfl h rfl
theorem cl.c4 {α:Type} {R:α→List Value→Prop} {ps:List α} {cs:List Value} {p:α} {va vb vc vd:Value} (hp:R p [va,vb,vc,vd]) (h:cl R 4 ps cs):cl R 4 (p :: ps) (va :: vb :: vc :: vd :: cs):=cl.front hp rfl h rfl
theorem cl.c5 {α:Type} {R:α→List Value→Prop} {ps:List α} {cs:List Value} {p:α} {va vb vc vd j:Value} (hp:R p [va,vb,vc,vd,j]) (h:cl R 5 ps cs):cl R 5 (p :: ps) (va :: vb :: vc :: vd :: j :: cs):=cl.front hp rfl h rfl
theorem cl.c6 {α:Type} {R:α→List Value→Prop} {ps:List α} {cs:List Value} {p:α} {va vb vc vd j vf:Value} (hp:R p [va,vb,vc,vd,j,vf]) (h:cl R 6 ps cs):cl R 6 (p :: ps) (va :: vb :: vc :: vd :: j :: vf :: cs):=cl.front hp rfl h rfl
theorem cl.c7 {α:Type} {R:α→List Value→Prop} {ps:List α} {cs:List Value} {p:α} {va vb vc vd j vf y:Value} (hp:R p [va,vb,vc,vd,j,vf,y]) (h:cl R 7 ps cs):cl R 7 (p :: ps) (va :: vb :: vc :: vd :: j :: vf :: y :: cs):=cl.front hp rfl h rfl
theorem cl.c8 {α:Type} {R:α→List Value→Prop} {ps:List α} {cs:List Value} {p:α} {va vb vc vd j vf y vh:Value} (hp:R p [va,vb,vc,vd,j,vf,y,vh]) (h:cl R 8 ps cs):cl R 8 (p :: ps) (va :: vb :: vc :: vd :: j :: vf :: y :: vh :: cs):=cl.front hp rfl h rfl
theorem cl.c9 {α:Type} {R:α→List Value→Prop} {ps:List α} {cs:List Value} {p:α} {va vb vc vd j vf y vh vi:Value} (hp:R p [va,vb,vc,vd,j,vf,y,vh,vi]) (h:cl R 9 ps cs):cl R 9 (p :: ps) (va :: vb :: vc :: vd :: j :: vf :: y :: vh :: vi :: cs):=cl.front hp rfl h rfl
theorem cl.iy {α:Type} {R:α→List Value→Prop} {ps:List α} {cs:List Value} {p:α} {va vb vc vd j vf y vh vi vj:Value} (hp:R p [va,vb,vc,vd,j,vf,y,vh,vi,vj]) (h:cl R 10 ps cs):cl R 10 (p :: ps) (va :: vb :: vc :: vd :: j :: vf :: y :: vh :: vi :: vj :: cs):=cl.front hp rfl h rfl
open Go.RowKit
section
variable {P:Program} {ops:Array Oper} {rest:List Oper} {o:Oper} {a:Act} {Q:Exit→Act→World→Prop} {W:World}
theorem bV (hw:Region.wanted o (yielded ops a.tmps) = true) (h:wpList P ops Q ({ o with guard:=none } :: rest) a W):wpList P ops Q (o :: rest) a W:=by
 have h1:Region.wanted { o with guard:=none } (yielded ops a.tmps) = true:=rfl
 unfold wpList at h ⊢
 rw [if_pos h1] at h
 rw [if_pos hw]
 exact h
end
end Go.Proofs.ag.aT
end
section
namespace Go.Proofs.Ytmpodackojmojaa.Pr
open Go.RowKit Go.Proofs.ag.aT Go.Proofs.ag.bu Go.Proofs.ag.bw
attribute [local go_sem] gp gq iE iF fz fA gr gu
set_option linter.unusedVariables false
set_option linter.unusedSimpArgs false
def sE:Option Int→Value
 | none=>.nilIface
 | some c=>.iface 0 (.int .i64 c)
theorem fB:sE none = .nilIface:=rfl
theorem fC (c:Int):sE (some c) = .iface 0 (.int .i64 c):=rfl
theorem fa:(Try.prog.info? 3).map (fun i=>(i.zero,i.size,i.bytes)) = some (some (.int .i64 0),1,8):=by kernel_rfl
theorem rL:(Try.prog.info? 24).map (fun i=>(i.zero,i.size,i.bytes)) = some (some (.slice none 0 0),1,24):=by kernel_rfl
def dX (xs:List (List Int)) (i:Int):(List Int):=xs.getD i.toNat ([]:List Int)
theorem r7 {w:World} {A:Option Addr} {n:Nat} {xs:List (List Int)} (h:Kd.C (Kd.slice 3 (Kd.int .i64)) w A n xs) (i:Int) (h0:0≤i) (h1:i < n):∃ ad y z,A = some ad∧w.cell? (ad.add i.toNat) = some (.slice y (dX xs i).length z)∧(dX xs i).length≤z∧(Kd.int .i64).C w y (dX xs i).length (dX xs i):=by
 obtain ⟨ad,c,e,_,hK,X⟩:=Kd.sr h ([]:List Int) i h0 h1
 have hc:∀ j u,c[j]? = some u→w.cell? (ad.add (i.toNat * 1+j)) = some u:=X
 obtain ⟨y,z,rfl,l0,g0⟩:=hK
 exact ⟨ad,y,z,e,by have hq:=hc 0 _ rfl;rwa [Nat.mul_one,Nat.add_zero] at hq,l0,g0⟩
def fb.f (l0:List Int):Option (Bool):=some (decide ((l0.length:Int) > 1048576))
set_option maxHeartbeats 8000000 in
set_option maxRecDepth 100000 in
theorem fb.calls (z:Option Addr) (X:Nat) (l0:List Int) (r:Bool) (w:World) (j:Kd.C (Kd.int .u8) w z l0.length l0) (y:l0.length≤X) (h:fb.f l0 = some r) :
  Calls Try.prog 43 #[.slice z l0.length X] w fun e w'=>e = .returned (.bool r)∧bQ w w':=by
 have Y:=ae.mk j
 have a0:=ae.mk y
 clear j y
 unfold fb.f at h
 have H:=h
 clear h
 obtain rfl:=Option.some.inj H
 go_enter Try.func43,Try.ntmps43
 go_wp2
 go_ret
 exact ⟨af.F,af.G⟩
def an (w0 W:World) (g:Nat) (f0:List Int) (f1:Int) (f2:Int):Prop:=∃ j y,W.heap[g]? = some (.cells #[.slice j f0.length y,.int .i64 f1,.int .i64 f2] 115 (0,0))∧w0.heap.size≤g∧Kd.C (Kd.int .u8) w0 j f0.length f0
theorem an.grown {w0 W:World} {g:Nat} {f0:List Int} {f1:Int} {f2:Int} {W1:World} {row:Option Nat} (h:an w0 W g f0 f1 f2) (hw:W.grownBy W1 row) (hne:some g≠row):an w0 W1 g f0 f1 f2:=by
 obtain ⟨y,z,hb,hg,j⟩:=h
 exact ⟨y,z,cO hb hw hne,hg,j⟩
theorem an.kept {w0 W:World} {g:Nat} {f0:List Int} {f1:Int} {f2:Int} {W1:World} {S:Nat→Prop} (h:an w0 W g f0 f1 f2) (hk:Kept W W1 S) (hne:¬ S g):an w0 W1 g f0 f1 f2:=by
 obtain ⟨y,z,hb,hg,j⟩:=h
 exact ⟨y,z,oX hb hk hne,hg,j⟩
theorem an.below {w0 W:World} {g:Nat} {f0:List Int} {f1:Int} {f2:Int} {W1:World} (h:an w0 W g f0 f1 f2) (hw:Below W.heap.size W W1):an w0 W1 g f0 f1 f2:=h.grown (gg hw none) (by simp)
theorem an.alloc {w0 W:World} {g:Nat} {f0:List Int} {f1:Int} {f2:Int} (h:an w0 W g f0 f1 f2) (o:Obj):an w0 (W.alloc o) g f0 f1 f2:=h.below (cM (Below.refl _ _) o)
theorem an.drewN {w0 W:World} {g:Nat} {f0:List Int} {f1:Int} {f2:Int} (h:an w0 W g f0 f1 f2) (m:Nat):an w0 (W.drewN m) g f0 f1 f2:=h
theorem an.drew {w0 W:World} {g:Nat} {f0:List Int} {f1:Int} {f2:Int} (h:an w0 W g f0 f1 f2):an w0 W.drew g f0 f1 f2:=h
theorem an.at_ {w0 W:World} {g:Nat} {f0:List Int} {f1:Int} {f2:Int} {w':World} {m:Nat} (hq:W.drewN m = w') (h:an w0 W g f0 f1 f2):an w0 w' g f0 f1 f2:=by subst hq;exact an.drewN h m
theorem an.apart {w0 W:World} {g:Nat} {f0:List Int} {f1:Int} {f2:Int} {α:Type} {d:Kd α} {e:Nat} {base:Nat} {ok:Nat→Prop} {v:Value} {xs:List α} (h:an w0 W g f0 f1 f2) (ho:d.R e W base ok v xs) (ht:∀ q,q∈e :: d.E→q≠115):d.R e W base (fun k=>ok k∧k≠g) v xs:=by
 obtain ⟨y,z,hb,hg,j⟩:=h
 exact Kd.b7 ho hb ht
theorem an.ic {w0 W:World} {g:Nat} {f0:List Int} {f1:Int} {f2:Int} {α:Type} {d:Kd α} {e:Nat} {base:Nat} {ok:Nat→Prop} {v:Value} {xs:List α} (h:an w0 W g f0 f1 f2) (ho:d.R e W base ok v xs) (ht:e≠115):some g≠v.ownBlock:=by
 obtain ⟨y,z,hb,hg,j⟩:=h
 exact Kd.gj ho hb ht
theorem an.lt {w0 W:World} {g:Nat} {f0:List Int} {f1:Int} {f2:Int} (h:an w0 W g f0 f1 f2):g < W.heap.size:=by
 obtain ⟨y,z,hb,hg,j⟩:=h
 exact gh hb
theorem an.ge {w0 W:World} {g:Nat} {f0:List Int} {f1:Int} {f2:Int} (h:an w0 W g f0 f1 f2):w0.heap.size≤g:=by
 obtain ⟨y,z,hb,hg,j⟩:=h
 exact hg
theorem an.iV {w0 W:World} {g:Nat} {f0:List Int} {f1:Int} {f2:Int} {a:Nat} {cs:Array Value} {t:TypeId} {fr:Nat×Nat} (h:an w0 W g f0 f1 f2) (j:W.heap[a]? = some (.cells cs t fr)) (ht:t≠115):g≠a:=by
 obtain ⟨X,Y,hb,hg,z⟩:=h
 rintro rfl
 rw [hb] at j
 injection j with j
 injection j with _ y
 exact ht y.symm
theorem an.tJ {w0 W:World} {g:Nat} {f0:List Int} {f1:Int} {f2:Int} {p:Addr} (h:an w0 W g f0 f1 f2) (hne:g≠p.block) (u:Value):an w0 (W.setCell p u) g f0 f1 f2:=by
 obtain ⟨y,z,hb,hg,j⟩:=h
 exact ⟨y,z,kG hb hne u,hg,j⟩
theorem jH {W:World} {g:Nat} {j:Option Addr} {y:Nat} {f0:List Int} {f1:Int} {f2:Int} (h:W.heap[g]? = some (.cells #[.slice j f0.length y,.int .i64 f1,.int .i64 f2] 115 (0,0))):W.cell? ⟨g,0,none⟩ = some (.slice j f0.length y):=(ah h 0).trans rfl
theorem jI {W:World} {g:Nat} {j:Option Addr} {y:Nat} {f0:List Int} {f1:Int} {f2:Int} (h:W.heap[g]? = some (.cells #[.slice j f0.length y,.int .i64 f1,.int .i64 f2] 115 (0,0))):W.cell? ⟨g,1,none⟩ = some (.int .i64 f1):=(ah h 1).trans rfl
theorem an.sF {w0 W:World} {g:Nat} {f0:List Int} {f1:Int} {f2:Int} (h:an w0 W g f0 f1 f2) (x:Int):an w0 (W.setCell ⟨g,1,none⟩ (.int .i64 x)) g f0 x f2:=by
 obtain ⟨y,z,hb,hg,j⟩:=h
 exact ⟨y,z,by simpa using kF hb 1 (.int .i64 x),hg,j⟩
theorem jJ {W:World} {g:Nat} {j:Option Addr} {y:Nat} {f0:List Int} {f1:Int} {f2:Int} (h:W.heap[g]? = some (.cells #[.slice j f0.length y,.int .i64 f1,.int .i64 f2] 115 (0,0))):W.cell? ⟨g,2,none⟩ = some (.int .i64 f2):=(ah h 2).trans rfl
theorem an.sG {w0 W:World} {g:Nat} {f0:List Int} {f1:Int} {f2:Int} (h:an w0 W g f0 f1 f2) (x:Int):an w0 (W.setCell ⟨g,2,none⟩ (.int .i64 x)) g f0 f1 x:=by
 obtain ⟨y,z,hb,hg,j⟩:=h
 exact ⟨y,z,by simpa using kF hb 2 (.int .i64 x),hg,j⟩
theorem an.new (w0 W:World) (j:Option Addr) (z:Nat) (f0:List Int) (f1:Int) (f2:Int) (hB:Below w0.heap.size w0 W) (y:Kd.C (Kd.int .u8) w0 j f0.length f0):an w0 (W.alloc (.cells #[.slice j f0.length z,.int .i64 f1,.int .i64 f2] 115)) W.heap.size f0 f1 f2:=⟨j,z,by simpa using heap_alloc_new W _,hB.size,y⟩
def bY.l0:Nat→List Int→Int→Int→Option (List Int×Int×Int)
 | 0,_,_,_=>none
 | k+1,j,z,y=>if y < (j.length:Int) then (if y < 4000 then (if 0≤y then (bY.l0 k j (Go.bits .and .i64 (wrap64 ((wrap64 ((wrap64 (z * 131))+(wrap64 (rd j y))))+7)) 1073741823) (wrap64 (y+1))) else (none)) else (some (j,0,z))) else (some (j,0,z))
def bY.f (k:Nat) (l0:List Int):Option (List Int×Int×Int):=bY.l0 k l0 (wrap64 (26583+(l0.length:Int))) 0
set_option maxHeartbeats 8000000 in
set_option maxRecDepth 100000 in
theorem bY.calls (k:Nat) (A0:Option Addr) (c0:Nat) (l0:List Int) (r1:List Int) (r2:Int) (r3:Int) (w0 w:World) (hB:Below w0.heap.size w0 w) (a4:Kd.C (Kd.int .u8) w0 A0 l0.length l0) (a5:l0.length≤c0) (h:bY.f k l0 = some (r1,r2,r3)) :
  Calls Try.prog 85 #[.slice A0 l0.length c0] w fun e w'=>∃ g_:Nat,e = .returned (.pointer (some ⟨g_,0,none⟩))∧an w0 w' g_ r1 r2 r3∧Below w0.heap.size w0 w'∧Below w.heap.size w w':=by
 have ab:=Try.underlying115
 have a1:=ae.mk a4
 have aO:=ae.mk a5
 clear a4 a5
 have y:=ae.mk (Below.refl w.heap.size w)
 have a6:=ae.mk hB.size
 have HB:=ae.mk hB
 clear hB
 unfold bY.f at h
 have H:=h
 clear h
 have H':=ae.mk H
 clear H
 go_enter Try.func85,Try.ntmps85
 go_wp2
 go_loopg [3,4] k (fun kq v3 v4 w'=>∃ (z:Int) (j:Int),v3 = .int .i64 z∧v4 = .int .i64 j∧ae (bY.l0 kq l0 z j = some (r1,r2,r3))∧ae (kq≤k)∧ae (Below w0.heap.size w0 w')∧ae (Below w.heap.size w w'))
 case atStart=>exact ⟨(wrap64 (26583+(l0.length:Int))),(0),af.F,af.F,H',⟨Nat.le_refl _⟩,⟨af.Lw HB.out⟩,⟨af.Lw y.out⟩⟩
 case round =>
  clear H'
  obtain ⟨z,j,rfl,rfl,HA,a7,HB,y⟩:=hrel
  cases gk with
  | zero=>exact absurd HA.out (by simp [bY.l0])
  | succ k1 =>
   have H:=HA.out
   clear HA
   simp only [bY.l0] at H
   by_cases c2:j < (l0.length:Int)
   ·rw [if_pos c2] at H
    have a8:=decide_eq_true c2
    clear c2
    by_cases c3:j < 4000
    ·rw [if_pos c3] at H
     have a9:=decide_eq_true c3
     clear c3
     obtain ⟨c4,H⟩:=af.ip H
     have aB:=decide_eq_true c4
     clear c4
     have H':=ae.mk H
     clear H
     obtain ⟨am,aa,a0,aF,aL⟩:=af.ai a1.out j
     cases aa
     replace a0:=e5 HB.out a0
     go_wp2
     go_roundg k1
     case measure=>have:=a7.out;omega
     case rel=>exact ⟨(Go.bits .and .i64 (wrap64 ((wrap64 ((wrap64 (z * 131))+(wrap64 (rd l0 j))))+7)) 1073741823),(wrap64 (j+1)),af.F,af.F,H',⟨by have:=a7.out;omega⟩,⟨af.Lw HB.out⟩,⟨af.Lw y.out⟩⟩
    ·rw [if_neg c3] at H
     have a9:decide (j < 4000) = false:=decide_eq_false c3
     clear c3
     simp only [Option.some.injEq,Prod.mk.injEq] at H
     obtain ⟨rfl,rfl,rfl⟩:=H
     go_wp2_with (first | (refine af.bx 31 #[.slice A0 l0.length c0,.int .i64 0,.int .i64 z] 115 ?_;intro X hg w5 hbox hb;replace HB:=af.lb HB hb;have ao:=ae.mk hbox;have ap:=ae.mk ((by rw [hg];exact (aA (af.Lw y.out)):w.heap.size≤X));have a2:=ae.mk ((Nat.le_trans a6.out (by rw [hg];exact (aA (af.Lw y.out)):w.heap.size≤X):w0.heap.size≤X));replace y:=ae.mk (ax y.out hb);clear hb hbox hg))
     go_ret
     exact ⟨_,rfl,(show an w0 _ X l0 0 z from ⟨_,_,af.B,a2.out,a1.out⟩),af.L,af.J y⟩
   ·rw [if_neg c2] at H
    have a8:decide (j < (l0.length:Int)) = false:=decide_eq_false c2
    clear c2
    simp only [Option.some.injEq,Prod.mk.injEq] at H
    obtain ⟨rfl,rfl,rfl⟩:=H
    go_wp2_with (first | (refine af.bx 31 #[.slice A0 l0.length c0,.int .i64 0,.int .i64 z] 115 ?_;intro Y hg w6 hbox hb;replace HB:=af.lb HB hb;have ar:=ae.mk hbox;have aw:=ae.mk ((by rw [hg];exact (aA (af.Lw y.out)):w.heap.size≤Y));have a3:=ae.mk ((Nat.le_trans a6.out (by rw [hg];exact (aA (af.Lw y.out)):w.heap.size≤Y):w0.heap.size≤Y));replace y:=ae.mk (ax y.out hb);clear hb hbox hg))
    go_ret
    exact ⟨_,rfl,(show an w0 _ Y l0 0 z from ⟨_,_,af.B,a3.out,a1.out⟩),af.L,af.J y⟩
def cy.f (z:List Int) (y:Int) (j:Int):Option (Int×Int×Int):=if y < (z.length:Int) then (if 0≤y then (some (Go.bits .and .i64 (wrap64 ((Go.bits .and .i64 (Go.bits .xor .i64 ((wrap64 ((wrap64 (j * 6364136223846793005))+1442695040888963407)) / 8589934592) ((wrap64 ((wrap64 (j * 6364136223846793005))+1442695040888963407)) / 35184372088832)) 255)+(wrap64 (rd z y)))) 255,wrap64 (y+1),wrap64 ((wrap64 (j * 6364136223846793005))+1442695040888963407))) else (none)) else (some (Go.bits .and .i64 (Go.bits .xor .i64 ((wrap64 ((wrap64 (j * 6364136223846793005))+1442695040888963407)) / 8589934592) ((wrap64 ((wrap64 (j * 6364136223846793005))+1442695040888963407)) / 35184372088832)) 255,y,wrap64 ((wrap64 (j * 6364136223846793005))+1442695040888963407)))
set_option maxHeartbeats 8000000 in
set_option maxRecDepth 100000 in
theorem cy.calls (g:Nat) (X:List Int) (z:Int) (a1:Int) (r1:Int) (r2:Int) (r3:Int) (w0 w:World) (hI:an w0 w g X z a1) (hB:Below w0.heap.size w0 w) (h:cy.f X z a1 = some (r1,r2,r3)) :
  Calls Try.prog 126 #[.pointer (some ⟨g,0,none⟩)] w fun e w'=>e = .returned (.int .i64 r1)∧an w0 w' g X r2 r3∧Below w0.heap.size w0 w'∧ay w w' g none:=by
 have a5:=ae.mk hI
 have HK:=ae.mk (ay.refl w g none)
 have HL:=ae.mk hB.size
 clear hI
 have bc:=ae.mk hB.size
 have HB:=ae.mk hB
 clear hB
 unfold cy.f at h
 have H:=h
 clear h
 by_cases c2:z < (X.length:Int)
 ·rw [if_pos c2] at H
  have a7:=decide_eq_true c2
  clear c2
  obtain ⟨c3,H⟩:=af.ip H
  have ba:=decide_eq_true c3
  clear c3
  simp only [Option.some.injEq,Prod.mk.injEq] at H
  obtain ⟨rfl,rfl,rfl⟩:=H
  obtain ⟨am,ao,Y,a8,a4⟩:=a5.out
  have ap:=jH Y
  have ar:=jI Y
  have aw:=jJ Y
  have aB:=aj Y 1
  have aF:=aj Y 2
  clear Y a8
  have a2:0≤(z:Int):=af.D
  have a3:z < (X.length:Int):=af.D
  obtain ⟨a6,a9,j⟩:=Kd.cF a4 z a2 a3
  cases a9
  have y:a6.block≠g:=Nat.ne_of_lt (Nat.lt_of_lt_of_le (by have:=World.block_lt_of_cell? _ _ j;first | rwa [gG] at this | exact this) (an.ge a5.out))
  replace j:=e5 HB.out j
  replace j:=(cell_far (p:=⟨g,2,none⟩) (by first | (rw [gG];exact y) | (show (Addr.add _ _).block≠_;rw [gG];exact y) | exact y) (.int .i64 (wrap64 ((wrap64 (a1 * 6364136223846793005))+1442695040888963407)))).trans j
  (try have aa:=fun (n_:Nat)=>(show (((w.drewN n_).setCell ⟨g,2,none⟩ (.int .i64 (wrap64 ((wrap64 (a1 * 6364136223846793005))+1442695040888963407))))).cell? _ = some _ from j))
  clear y
  replace a2:=eq_true a2
  replace a3:=eq_true a3
  go_enter Try.func126,Try.ntmps126
  go_wp2
  repeat (go_quiet (fail);try go_wp2)
  go_ret
  exact ⟨af.E,af.I,af.J HB,af.K HK⟩
 ·rw [if_neg c2] at H
  have a7:decide (z < (X.length:Int)) = false:=decide_eq_false c2
  clear c2
  simp only [Option.some.injEq,Prod.mk.injEq] at H
  obtain ⟨rfl,rfl,rfl⟩:=H
  obtain ⟨aL,aO,a0,ab,aP⟩:=a5.out
  have aS:=jH a0
  have b0:=jI a0
  have b2:=jJ a0
  have b3:=aj a0 1
  have b4:=aj a0 2
  clear a0 ab
  go_enter Try.func126,Try.ntmps126
  go_wp2
  repeat (go_quiet (fail);try go_wp2)
  go_ret
  exact ⟨af.E,af.I,af.J HB,af.K HK⟩
def b9.f (j:List Int) (a2:Int) (a3:Int) (a1:Int):Option (Int×Int×Int):=if a1≤0 then (some (0,a2,a3)) else (if a1≤256 then ((cy.f j a2 a3).bind fun y=>(if a1 = 0 then (none) else (some (Int.tmod y.1 a1,y.2.1,y.2.2)))) else ((cy.f j a2 a3).bind fun z=>((cy.f j z.2.1 z.2.2).bind fun X=>((cy.f j X.2.1 X.2.2).bind fun Y=>((cy.f j Y.2.1 Y.2.2).bind fun a0=>(if a1 = 0 then (none) else (some (Int.tmod (wrap64 ((wrap64 ((wrap64 ((wrap64 (z.1 * 16777216))+(wrap64 (X.1 * 65536))))+(wrap64 (Y.1 * 256))))+a0.1)) a1,a0.2.1,a0.2.2))))))))
set_option maxHeartbeats 8000000 in
set_option maxRecDepth 100000 in
theorem b9.calls (g:Nat) (j:List Int) (y:Int) (z:Int) (X:Int) (r1:Int) (r2:Int) (r3:Int) (w0 w:World) (hI:an w0 w g j y z) (hB:Below w0.heap.size w0 w) (h:b9.f j y z X = some (r1,r2,r3)) :
  Calls Try.prog 87 #[.pointer (some ⟨g,0,none⟩),.int .i64 X] w fun e w'=>e = .returned (.int .i64 r1)∧an w0 w' g j r2 r3∧Below w0.heap.size w0 w'∧ay w w' g none:=by
 have Y:=ae.mk hI
 have HK:=ae.mk (ay.refl w g none)
 have HL:=ae.mk hB.size
 clear hI
 have ab:=ae.mk hB.size
 have HB:=ae.mk hB
 clear hB
 unfold b9.f at h
 have H:=h
 clear h
 by_cases c3:X≤0
 ·rw [if_pos c3] at H
  have a3:=decide_eq_true c3
  clear c3
  simp only [Option.some.injEq,Prod.mk.injEq] at H
  obtain ⟨rfl,rfl,rfl⟩:=H
  go_enter Try.func87,Try.ntmps87
  go_wp2
  go_ret
  exact ⟨af.E,af.I,af.J HB,af.K HK⟩
 ·rw [if_neg c3] at H
  have a3:decide (X≤0) = false:=decide_eq_false c3
  clear c3
  by_cases c4:X≤256
  ·rw [if_pos c4] at H
   have a4:=decide_eq_true c4
   clear c4
   obtain ⟨⟨t105,t106,t107⟩,A5,H⟩:=af.be H
   (try dsimp only at H)
   by_cases c6:X = 0
   ·rw [if_pos c6] at H
    exact absurd H (by simp)
   ·rw [if_neg c6] at H
    have a9:(X == 0) = false:=beq_eq_false_iff_ne.mpr c6
    have aa:(X != 0) = true:=bne_iff_ne.mpr c6
    simp only [Option.some.injEq,Prod.mk.injEq] at H
    obtain ⟨rfl,rfl,rfl⟩:=H
    go_enter Try.func87,Try.ntmps87
    go_wp2_with (first | (refine af.gl (some 14) Try.func126 #[.pointer (some ⟨g,0,none⟩)] ?_;(with_reducible refine (cy.calls g j y z t105 t106 t107 w0 _ ?side1 ?side2 A5.out).mono ?_);(case side1=>exact af.I);(case side2=>exact af.J HB);rintro e w7 ⟨rfl,hi,hb,hk⟩;refine ⟨_,rfl,?_⟩;replace HK:=ae.mk (ay.trans (af.K HK) hk (.inl rfl));replace HB:=ae.mk hb;replace Y:=ae.mk hi;(try clear hb);(try clear a0);(try clear hk);(try clear hi)))
    go_ret
    exact ⟨af.E,af.I,af.J HB,af.K HK⟩
  ·rw [if_neg c4] at H
   have a4:decide (X≤256) = false:=decide_eq_false c4
   clear c4
   obtain ⟨⟨t108,t109,t110⟩,A8,H⟩:=af.be H
   (try dsimp only at H)
   obtain ⟨⟨t111,t112,t113⟩,A9,H⟩:=af.be H
   (try dsimp only at H)
   obtain ⟨⟨t114,t115,t116⟩,a5,H⟩:=af.be H
   (try dsimp only at H)
   obtain ⟨⟨t117,t118,t119⟩,a6,H⟩:=af.be H
   (try dsimp only at H)
   by_cases a2:X = 0
   ·rw [if_pos a2] at H
    exact absurd H (by simp)
   ·rw [if_neg a2] at H
    have a7:(X == 0) = false:=beq_eq_false_iff_ne.mpr a2
    have a8:(X != 0) = true:=bne_iff_ne.mpr a2
    simp only [Option.some.injEq,Prod.mk.injEq] at H
    obtain ⟨rfl,rfl,rfl⟩:=H
    go_enter Try.func87,Try.ntmps87
    go_wp2_with (first | (refine af.gl (some 18) Try.func126 #[.pointer (some ⟨g,0,none⟩)] ?_;(with_reducible refine (cy.calls g j y z t108 t109 t110 w0 _ ?side1 ?side2 A8.out).mono ?_);(case side1=>exact af.I);(case side2=>exact af.J HB);rintro e am ⟨rfl,hi,hb,hk⟩;refine ⟨_,rfl,?_⟩;replace HK:=ae.mk (ay.trans (af.K HK) hk (.inl rfl));replace HB:=ae.mk hb;replace Y:=ae.mk hi;(try clear hb);(try clear a0);(try clear hk);(try clear hi)) | (refine af.gl (some 20) Try.func126 #[.pointer (some ⟨g,0,none⟩)] ?_;(with_reducible refine (cy.calls g j t109 t110 t111 t112 t113 w0 _ ?side1 ?side2 A9.out).mono ?_);(case side1=>exact af.I);(case side2=>exact af.J HB);rintro e ao ⟨rfl,hi,hb,hk⟩;refine ⟨_,rfl,?_⟩;replace HK:=ae.mk (ay.trans (af.K HK) hk (.inl rfl));replace HB:=ae.mk hb;replace Y:=ae.mk hi;(try clear hb);(try clear a0);(try clear hk);(try clear hi)) | (refine af.gl (some 22) Try.func126 #[.pointer (some ⟨g,0,none⟩)] ?_;(with_reducible refine (cy.calls g j t112 t113 t114 t115 t116 w0 _ ?side1 ?side2 a5.out).mono ?_);(case side1=>exact af.I);(case side2=>exact af.J HB);rintro e ap ⟨rfl,hi,hb,hk⟩;refine ⟨_,rfl,?_⟩;replace HK:=ae.mk (ay.trans (af.K HK) hk (.inl rfl));replace HB:=ae.mk hb;replace Y:=ae.mk hi;(try clear hb);(try clear a0);(try clear hk);(try clear hi)) | (refine af.gl (some 24) Try.func126 #[.pointer (some ⟨g,0,none⟩)] ?_;(with_reducible refine (cy.calls g j t115 t116 t117 t118 t119 w0 _ ?side1 ?side2 a6.out).mono ?_);(case side1=>exact af.I);(case side2=>exact af.J HB);rintro e ar ⟨rfl,hi,hb,hk⟩;refine ⟨_,rfl,?_⟩;replace HK:=ae.mk (ay.trans (af.K HK) hk (.inl rfl));replace HB:=ae.mk hb;replace Y:=ae.mk hi;(try clear hb);(try clear a0);(try clear hk);(try clear hi)))
    go_ret
    exact ⟨af.E,af.I,af.J HB,af.K HK⟩
def aV.l0:Nat→Int→Int→List Int→Int→Int→Int→List Int→List Int→Option (Int×List Int×List Int×Int×Int)
 | 0,_,_,_,_,_,_,_,_=>none
 | k+1,x6,x7,X,a1,a2,j,y,z=>if x7 < x6 then ((b9.f X a1 a2 j).bind fun Y=>(if y.length < 17592186044416 then ((b9.f X Y.2.1 Y.2.2 j).bind fun a0=>(if z.length < 17592186044416 then (aV.l0 k x6 (wrap64 (x7+1)) X a0.2.1 a0.2.2 j (y ++ [Y.1]) (z ++ [a0.1])) else (none))) else (none))) else (some (j,y,z,a1,a2))
def aV.f (k:Nat) (z:List Int) (X:Int) (Y:Int) (a1:Int):Option (Int×List Int×List Int×Int×Int):=(b9.f z X Y 5).bind fun j=>((b9.f z j.2.1 j.2.2 (wrap64 (a1+1))).bind fun y=>(aV.l0 k y.1 0 z y.2.1 y.2.2 (wrap64 (1+j.1)) ([]:List Int) ([]:List Int)))
def aV.T6:Bool×List (List Nat×List Nat):=(true,[([],[]),([0],[0]),([],[]),([],[]),([3],[3]),([2,4],[2,4]),([5],[5]),([1,6,5],[1,6]),([0,1,2,3,4,5,6,7],[]),([8,7,7,0,1,2,3,4,5,6,7],[7,8])])
def aV.B6:List Nat:=[0,1,0,0,8,28,60,127,255,511]
theorem aV.tg:ep .any (opsOf Try.f102 6) = aV.T6:=by kernel_rfl
theorem aV.sH:ec aV.T6.2 aV.B6 = true:=by kernel_rfl
def aV.T7:Bool×List (List Nat×List Nat):=(true,[([],[]),([0],[0]),([],[]),([],[]),([3],[3]),([2,4],[2,4]),([5],[5]),([1,6,5],[1,6]),([0,1,2,3,4,5,6,7],[]),([8,7,7,0,1,2,3,4,5,6,7],[7,8])])
def aV.B7:List Nat:=[0,1,0,0,8,28,60,127,255,511]
theorem aV.rM:ep .any (opsOf Try.f102 7) = aV.T7:=by kernel_rfl
theorem aV.p7:ec aV.T7.2 aV.B7 = true:=by kernel_rfl
set_option maxHeartbeats 8000000 in
set_option maxRecDepth 100000 in
theorem aV.calls (k:Nat) (g:Nat) (a6:List Int) (bv:Int) (c0:Int) (a1:Int) (r1:Int) (r2:List Int) (r3:List Int) (r4:Int) (r5:Int) (w0 w:World) (hI:an w0 w g a6 bv c0) (hB:Below w0.heap.size w0 w) (h:aV.f k a6 bv c0 a1 = some (r1,r2,r3,r4,r5)) :
  Calls Try.prog 102 #[.pointer (some ⟨g,0,none⟩),.int .i64 a1] w fun e w'=>∃ d9 db:Value,e = .returned (.agg #[.int .i64 r1,d9,db])∧Kd.R (Kd.int .i64) 3 w' w.heap.size (fun k_=>some k_≠(db:Value).ownBlock) d9 r2∧Kd.R (Kd.int .i64) 3 w' w.heap.size (fun k_=>some k_≠(d9:Value).ownBlock) db r3∧an w0 w' g a6 r4 r5∧Below w0.heap.size w0 w'∧ay w w' g none:=by
 have g1:=Try.underlying58
 have am:=ae.mk hI
 have HK:=ae.mk (ay.refl w g none)
 have HL:=ae.mk hB.size
 clear hI
 have dC:=ae.mk hB.size
 have HB:=ae.mk hB
 clear hB
 unfold aV.f at h
 have H:=h
 clear h
 obtain ⟨⟨t121,t122,t123⟩,A3,H⟩:=af.be H
 (try dsimp only at H)
 obtain ⟨⟨t125,t126,t127⟩,A4,H⟩:=af.be H
 (try dsimp only at H)
 have H':=ae.mk H
 clear H
 go_enter Try.func102,Try.ntmps102
 go_wp2_with (first | (refine af.bx 4 #[.int .i64 0,.slice none 0 0,.slice none 0 0] 58 ?_;intro a3 hg w5 hbox hb;replace HB:=ae.mk (ax (af.J HB) hb);have z:=ae.mk hbox;have f5:=ae.mk ((by rw [hg];exact (bS (w:=w) (g:=g) (row:=none) (af.K HK)):w.heap.size≤a3));have f6:=ae.mk ((Nat.le_trans dC.out (by rw [hg];exact (bS (w:=w) (g:=g) (row:=none) (af.K HK)):w.heap.size≤a3):w0.heap.size≤a3));replace HK:=ae.mk (ay.trans (af.K HK) (ay.dV hb g none) (.inl rfl));have cf:=ae.mk ((by rw [hg];exact Nat.ne_of_lt (an.lt (show an w0 _ g a6 bv c0 from af.I)):g≠a3));have aB:=ae.mk ((by rw [hg];exact Nat.ne_of_gt (an.lt (show an w0 _ g a6 bv c0 from af.I)):a3≠g));replace am:=ae.mk (an.below af.I hb);clear hb hbox hg) | (refine af.gl (some 9) Try.func87 #[.pointer (some ⟨g,0,none⟩),.int .i64 5] ?_;(with_reducible refine (b9.calls g a6 bv c0 5 t121 t122 t123 w0 _ ?side1 ?side2 A3.out).mono ?_);(case side1=>exact af.I);(case side2=>exact af.J HB);rintro e w6 ⟨rfl,hi,hb,hk⟩;refine ⟨_,rfl,?_⟩;replace z:=ae.mk (ay.blk hk (g':=a3) (o:=.cells #[.int .i64 0,.slice none 0 0,.slice none 0 0] 58 (0,0)) (af.Bw z.out) aB.out (by simp));replace HK:=ae.mk (ay.trans (af.K HK) hk (.inl rfl));replace HB:=ae.mk hb;replace am:=ae.mk hi;(try clear hb);(try clear dd);(try clear hk);(try clear hi)) | (refine af.bx 5 #[.int .i64 0,.slice none 0 0,.slice none 0 0] 58 ?_;intro X hg w7 hbox hb;have b3:=ae.mk (an.below af.I hb);have b4:=af.bb z hb;have ba:=ae.mk (ay.trans (af.K HK) (ay.dV hb g none) (.inl rfl));have bc:=ae.mk (ax (af.J HB) hb);have bi:=ae.mk hbox;have bm:=ae.mk ((by rw [hg];exact (bS (w:=w) (g:=g) (row:=none) (af.K HK)):w.heap.size≤X));have bo:=ae.mk ((Nat.le_trans dC.out (by rw [hg];exact (bS (w:=w) (g:=g) (row:=none) (af.K HK)):w.heap.size≤X):w0.heap.size≤X));have dE:=af.nl hg z;have dT:=af.ng hg z;have e0:=ae.mk ((by rw [hg];exact Nat.ne_of_lt (an.lt (show an w0 _ g a6 t122 t123 from af.I)):g≠X));have d6:=ae.mk ((by rw [hg];exact Nat.ne_of_gt (an.lt (show an w0 _ g a6 t122 t123 from af.I)):X≠g));clear am;clear z;clear HK;clear HB;have am:=b3;have z:=b4;have HK:=ba;have HB:=bc;have j:=bi;have f7:=bm;have f8:=bo;have ar:=dE;have aw:=dT;have c1:=e0;have b0:=d6;clear b3 b4 ba bc bi bm bo dE dT e0 d6;clear hb hbox hg;have g2:=aw.out;have g3:=ar.out;have g4:=b0.out;have g5:=c1.out;obtain ⟨e1,e2,e3,e4,e8,ea⟩:=af.bW j.out) | (refine af.gl (some 15) Try.func87 #[.pointer (some ⟨g,0,none⟩),.int .i64 (wrap64 (a1+1))] ?_;(with_reducible refine (b9.calls g a6 t122 t123 (wrap64 (a1+1)) t125 t126 t127 w0 _ ?side1 ?side2 A4.out).mono ?_);(case side1=>exact af.I);(case side2=>exact af.J HB);rintro e g9 ⟨rfl,hi,hb,hk⟩;refine ⟨_,rfl,?_⟩;replace z:=ae.mk (ay.blk hk (g':=a3) (o:=.cells #[.int .i64 0,.slice none 0 0,.slice none 0 0] 58 (0,0)) af.B aB.out (by simp));replace j:=ae.mk (ay.blk hk (g':=X) (o:=.cells #[.int .i64 (wrap64 (1+t121)),.slice none 0 0,.slice none 0 0] 58 (0,0)) af.B b0.out (by simp));replace HK:=ae.mk (ay.trans (af.K HK) hk (.inl rfl));replace HB:=ae.mk hb;replace am:=ae.mk hi;(try clear hb);(try clear dd);(try clear hk);(try clear hi)))
 go_loopg [7] k (fun kq v7 w'=>∃ (b2:Int) (ao:Int) (ap:Int) (a4:List Int) (a2:List Int) (a7:Value) (a0:Value),v7 = .int .i64 b2∧ae (aV.l0 kq t125 b2 a6 ao ap (wrap64 (1+t121)) a4 a2 = some (r1,r2,r3,r4,r5))∧ae (kq≤k)∧ae (Kd.R (Kd.int .i64) 3 w' w.heap.size (fun k_=>some k_≠(a0:Value).ownBlock) a7 a4)∧ae (Kd.R (Kd.int .i64) 3 w' w.heap.size (fun k_=>some k_≠(a7:Value).ownBlock) a0 a2)∧ae (w'.heap[a3]? = some (.cells #[.int .i64 0,(.slice none 0 0),(.slice none 0 0)] 58 (0,0)))∧ae (w'.heap[X]? = some (.cells #[.int .i64 (wrap64 (1+t121)),a7,a0] 58 (0,0)))∧ae (an w0 w' g a6 ao ap)∧ae (ay w w' g none)∧ae (Below w0.heap.size w0 w'))
 case atStart=>exact ⟨(0),(t126),(t127),(([]:List Int)),(([]:List Int)),(.slice none 0 0),(.slice none 0 0),af.F,H',⟨Nat.le_refl _⟩,⟨af.N⟩,⟨af.N⟩,⟨af.Bw z.out⟩,⟨af.Bw j.out⟩,⟨af.I⟩,⟨af.K HK⟩,⟨af.J HB⟩⟩
 case round =>
  clear H'
  obtain ⟨b2,ao,ap,a4,a2,a7,a0,rfl,HA,eb,Y,y,z,j,am,HK,HB⟩:=hrel
  cases gk with
  | zero=>exact absurd HA.out (by simp [aV.l0])
  | succ k1 =>
   have H:=HA.out
   clear HA
   simp only [aV.l0] at H
   by_cases ce:b2 < t125
   ·rw [if_pos ce] at H
    have df:=decide_eq_true ce
    clear ce
    obtain ⟨⟨t128,t129,t130⟩,f9,H⟩:=af.be H
    (try dsimp only at H)
    obtain ⟨ed,H⟩:=af.ip H
    have dk:=ae.mk ed
    clear ed
    obtain ⟨a5,cb⟩:∃ y_:List Int,y_ = (a4 ++ [t128]):=⟨_,rfl⟩
    replace H:((b9.f a6 t129 t130 (wrap64 (1+t121))).bind fun cc=>(if a2.length < 17592186044416 then (aV.l0 k1 t125 (wrap64 (b2+1)) a6 cc.2.1 cc.2.2 (wrap64 (1+t121)) a5 (a2 ++ [cc.1])) else (none))) = some (r1,r2,r3,r4,r5):=by (try rw [cb]);exact af.Z
    have dl:=ae.mk cb
    clear cb
    obtain ⟨⟨t134,t135,t136⟩,fd,H⟩:=af.be H
    (try dsimp only at H)
    obtain ⟨ee,H⟩:=af.ip H
    have dp:=ae.mk ee
    clear ee
    obtain ⟨ca,cd⟩:∃ y_:List Int,y_ = (a2 ++ [t134]):=⟨_,rfl⟩
    replace H:(aV.l0 k1 t125 (wrap64 (b2+1)) a6 t135 t136 (wrap64 (1+t121)) a5 ca) = some (r1,r2,r3,r4,r5):=by (try rw [cd]);exact af.Z
    have dq:=ae.mk cd
    clear cd
    have H':=ae.mk H
    clear H
    try go_wp2
    replace Y:=ae.mk (Kd.bt Y.out)
    replace y:=ae.mk (Kd.bt y.out)
    replace z:=ae.mk (bC z.out)
    replace j:=ae.mk (bC j.out)
    replace am:=ae.mk (an.drew am.out)
    replace HK:=ae.mk (iQ HK.out)
    replace HB:=ae.mk (cu HB.out)
    refine eY (n:=10) (S:=fun w'=>w'.cell? ⟨X,0,none⟩ = some (.int .i64 (wrap64 (1+t121)))∧w'.cell? ⟨X,1,none⟩ = some (a7)∧w'.cell? ⟨X,2,none⟩ = some (a0)) (ds:=[9]) #[false,false,false,false,false,false,false,false,false,false] (by kernel_rfl) rfl rfl ⟨(ah j.out 0).trans rfl,(ah j.out 1).trans rfl,(ah j.out 2).trans rfl⟩ (fun hHeld=>?_);refine ez aV.tg aV.sH (fun ab ch=>?_)
    generalize wr.drew = gb at Y y z j am HK HB hHeld ⊢
    refine af.pu 0 21 ab ?_
    refine af.pu 2 23 ab ?_
    refine af.pu 3 24 ab ?_
    refine af.tk 1 22 ab ch hHeld ?_
    refine af.tk 4 25 ab ch hHeld ?_
    refine eS (i:=5) (N:=some 26) #[true,true,true,true,true,true,false,false,false,false] rfl rfl (dJ ab.out (by kernel_rfl)) (by decide) (fun K hK=>?_)
    refine eH Try.func87 (by kernel_rfl) rfl #[.pointer (some ⟨g,0,none⟩),.int .i64 (wrap64 (1+t121))] (by rfl) rfl rfl (by (try simp only [List.map_toArray,List.map_cons,List.map_nil]);first | done | rfl) ?_
    with_reducible refine (b9.calls g a6 ao ap (wrap64 (1+t121)) t128 t129 t130 w0 _ ?side1 ?side2 f9.out).mono ?_
    (case side1=>exact af.I)
    (case side2=>exact af.J HB)
    rintro e gc ⟨rfl,hi,hb,hk⟩
    refine ⟨_,rfl,?_⟩
    replace Y:=ae.mk (Kd.aH (Kd.cT (an.apart (show an w0 _ g a6 ao ap from af.I) (af.Rw Y.out) (by decide)) hk (fun _ h=>h.2)) (fun _ h=>h.1))
    replace y:=ae.mk (Kd.aH (Kd.cT (an.apart (show an w0 _ g a6 ao ap from af.I) (af.Rw y.out) (by decide)) hk (fun _ h=>h.2)) (fun _ h=>h.1))
    replace z:=ae.mk (ay.blk hk (g':=a3) (o:=.cells #[.int .i64 0,.slice none 0 0,.slice none 0 0] 58 (0,0)) (af.Bw z.out) aB.out (by simp))
    replace j:=ae.mk (ay.blk hk (g':=X) (o:=.cells #[.int .i64 (wrap64 (1+t121)),a7,a0] 58 (0,0)) (af.Bw j.out) b0.out (by simp))
    replace HK:=ae.mk (ay.trans (af.K HK) hk (.inl rfl))
    replace HB:=ae.mk hb
    replace am:=ae.mk hi
    (try clear hb)
    (try clear dd)
    (try clear hk)
    (try clear hi)
    refine hK.out _ _ ⟨(ah j.out 0).trans rfl,(ah j.out 1).trans rfl,(ah j.out 2).trans rfl⟩ (fun hHeld=>?_)
    clear hK K
    refine e6 (a':=?_) ?_ ?_
    rotate_left
    ·show Act.put _ (some 26) _ = _
     simp only [Act.put,List.setIfInBounds_toArray,List.set_cons_zero,List.set_cons_succ,bE,cG]
     rfl
    refine eS (i:=6) (N:=some 27) #[true,true,true,true,true,true,true,false,false,false] rfl rfl (dJ ab.out (by kernel_rfl)) (by decide) (fun K hK=>?_)
    refine oR (w1:=?_) (v:=?_) (by rfl) rfl ?_ ?_
    rotate_left 2
    ·go_simp
     constructor
     ·rfl
     ·rfl
    refine hK.out _ _ ⟨(ah (bU j.out _) 0).trans rfl,(ah (bU j.out _) 1).trans rfl,(ah (bU j.out _) 2).trans rfl⟩ (fun hHeld=>?_)
    clear hK K
    refine e6 (a':=?_) ?_ ?_
    rotate_left
    ·show Act.put _ (some 27) _ = _
     simp only [Act.put,List.setIfInBounds_toArray,List.set_cons_zero,List.set_cons_succ,bE,cG]
     rfl
    refine eS (i:=7) (N:=some 28) #[true,true,true,true,true,true,true,true,false,false] rfl rfl (dJ ab.out (by kernel_rfl)) (by decide) (fun K hK=>?_)
    refine Kd.gU (Kd.int .i64) w.heap.size (by rfl) (.tmp 22) (.tmp 27) 24 3 (.int .i64 0) 8 rfl Try.underlying24 fa rfl (by decide) (by omega) a7 a4 t128 [.int .i64 t128] (fun k_=>some k_≠(a0:Value).ownBlock) (fun _=>False) rfl rfl ?aP (fun _ hk=>hk.elim) ?aF ?aO (Below.refl _ _) ?aS ?aL ?_
    (case aP=>exact rfl)
    (case aF=>exact (fun k_ hk=>Kd.fresh' (Kd.dW (af.Rw y.out)) k_ hk))
    (case aO=>exact (af.Rw Y.out))
    (case aS=>exact (bS (w:=w) (g:=g) (row:=none) (af.K HK)))
    (case aL=>have:=dk.out;omega)
    intro g6 bs ho hb hg hat
    rw [← dl.out] at ho
    have b3:=ae.mk (Kd.gF (ok:=(fun _=>True)) (af.Rw (Kd.aH y.out (fun _ hk=>⟨trivial,hk⟩))) hg hat)
    have b4:=ae.mk (cO (g:=a3) (o:=.cells #[.int .i64 0,.slice none 0 0,.slice none 0 0] 58 (0,0)) (af.Bw z.out) hg (Kd.gj Y.out z.out (by decide)))
    have ba:=ae.mk (cO (g:=X) (o:=.cells #[.int .i64 (wrap64 (1+t121)),a7,a0] 58 (0,0)) (af.Bw j.out) hg (Kd.gj Y.out j.out (by decide)))
    have bc:=ae.mk (an.grown af.I hg (an.ic am.out Y.out (by decide)))
    have bi:=ae.mk (fK (af.J HB) HL.out hb)
    have bm:=ae.mk (ay.trans (af.K HK) (ay.gi hg g) (Kd.kL Y.out))
    have bo:=ae.mk ho
    clear y
    clear z
    clear j
    clear am
    clear HB
    clear HK
    clear Y
    have y:=b3
    have z:=b4
    have j:=ba
    have am:=bc
    have HB:=bi
    have HK:=bm
    have a8:=bo
    clear b3 b4 ba bc bi bm bo
    clear ho hb hg hat
    obtain ⟨a9,aa,d7⟩:=Kd.bA a8.out
    (first | subst d7 | (injection d7 with ci dt cp;have du:=ci.symm;have dv:=cp.symm;clear ci dt cp;subst du;subst dv))
    refine hK.out _ _ ⟨(ah j.out 0).trans rfl,(ah j.out 1).trans rfl,(ah j.out 2).trans rfl⟩ (fun hHeld=>?_)
    clear hK K
    refine e6 (a':=?_) ?_ ?_
    rotate_left
    ·show Act.put _ (some 28) _ = _
     simp only [Act.put,List.setIfInBounds_toArray,List.set_cons_zero,List.set_cons_succ,bE,cG]
     rfl
    refine af.pu 8 29 ab ?_
    refine nu (i:=9) (N:=none) #[true,true,true,true,true,true,true,true,true,true] rfl rfl (dJ ab.out (by kernel_rfl)) (by decide) (fun K hK=>?_)
    have g7:bs.cell? ⟨X,1,none⟩ = some (a7):=(ah j.out 1).trans rfl
    have fi:=aj j.out 1
    have ef:=ar.out
    have eh:=aw.out
    refine jB (w1:=?_) (by rfl) rfl ?_ ?_
    rotate_left
    ·go_simp
     rfl
    refine hK.out _ _ ?_
    clear hK K
    refine gm (fL ab.out (by kernel_rfl)) ?_
    try go_wp2
    have b3:ae (Kd.R (Kd.int .i64) 3 (bs.setCell ⟨X,1,none⟩ (.slice a9 a5.length aa)) w.heap.size (fun k_=>some k_≠(.slice a9 a5.length aa:Value).ownBlock) a0 a2):=⟨af.Rw (Kd.aH (Kd.aG (p:=⟨X,1,none⟩) (Kd.b7 y.out j.out (by decide)) (fun _ hk=>hk.2) (.slice a9 a5.length aa)) (fun _ hk=>hk.1.2))⟩
    have b4:ae (Kd.R (Kd.int .i64) 3 (bs.setCell ⟨X,1,none⟩ (.slice a9 a5.length aa)) w.heap.size (fun k_=>some k_≠(a0:Value).ownBlock) (.slice a9 a5.length aa) a5):=⟨af.Rw (Kd.aH (Kd.aG (p:=⟨X,1,none⟩) (Kd.b7 a8.out j.out (by decide)) (fun _ hk=>hk.2) (.slice a9 a5.length aa)) (fun _ hk=>hk.1))⟩
    have ba:ae ((bs.setCell ⟨X,1,none⟩ (.slice a9 a5.length aa)).heap[a3]? = some (.cells #[.int .i64 0,.slice none 0 0,.slice none 0 0] 58 (0,0))):=⟨af.B⟩
    have bc:ae ((bs.setCell ⟨X,1,none⟩ (.slice a9 a5.length aa)).heap[X]? = some (.cells #[.int .i64 (wrap64 (1+t121)),.slice a9 a5.length aa,a0] 58 (0,0))):=⟨af.B⟩
    have bi:ae (an w0 (bs.setCell ⟨X,1,none⟩ (.slice a9 a5.length aa)) g a6 t129 t130):=⟨af.I⟩
    have bm:ae (ay w (bs.setCell ⟨X,1,none⟩ (.slice a9 a5.length aa)) g none):=⟨af.K HK⟩
    have bo:ae (Below w0.heap.size w0 (bs.setCell ⟨X,1,none⟩ (.slice a9 a5.length aa))):=⟨af.J HB⟩
    (try clear y)
    (try clear a8)
    (try clear z)
    (try clear j)
    (try clear am)
    (try clear HK)
    (try clear HB)
    generalize (bs.setCell ⟨X,1,none⟩ (.slice a9 a5.length aa)) = fj at b3 b4 ba bc bi bm bo ⊢
    have y:=b3
    have a8:=b4
    have z:=ba
    have j:=bc
    have am:=bi
    have HK:=bm
    have HB:=bo
    clear b3 b4 ba bc bi bm bo
    replace y:=ae.mk (Kd.bt y.out)
    replace a8:=ae.mk (Kd.bt a8.out)
    replace z:=ae.mk (bC z.out)
    replace j:=ae.mk (bC j.out)
    replace am:=ae.mk (an.drew am.out)
    replace HK:=ae.mk (iQ HK.out)
    replace HB:=ae.mk (cu HB.out)
    refine eY (n:=10) (S:=fun w'=>w'.cell? ⟨X,0,none⟩ = some (.int .i64 (wrap64 (1+t121)))∧w'.cell? ⟨X,1,none⟩ = some (.slice a9 a5.length aa)∧w'.cell? ⟨X,2,none⟩ = some (a0)) (ds:=[9]) #[false,false,false,false,false,false,false,false,false,false] (by kernel_rfl) rfl rfl ⟨(ah j.out 0).trans rfl,(ah j.out 1).trans rfl,(ah j.out 2).trans rfl⟩ (fun hHeld=>?_);refine ez aV.rM aV.p7 (fun ab ch=>?_)
    generalize fj.drew = go at y a8 z j am HK HB hHeld ⊢
    refine af.pu 0 30 ab ?_
    refine af.pu 2 32 ab ?_
    refine af.pu 3 33 ab ?_
    refine af.tk 1 31 ab ch hHeld ?_
    refine af.tk 4 34 ab ch hHeld ?_
    refine eS (i:=5) (N:=some 35) #[true,true,true,true,true,true,false,false,false,false] rfl rfl (dJ ab.out (by kernel_rfl)) (by decide) (fun K hK=>?_)
    refine eH Try.func87 (by kernel_rfl) rfl #[.pointer (some ⟨g,0,none⟩),.int .i64 (wrap64 (1+t121))] (by rfl) rfl rfl (by (try simp only [List.map_toArray,List.map_cons,List.map_nil]);first | done | rfl) ?_
    with_reducible refine (b9.calls g a6 t129 t130 (wrap64 (1+t121)) t134 t135 t136 w0 _ ?side1 ?side2 fd.out).mono ?_
    (case side1=>exact af.I)
    (case side2=>exact af.J HB)
    rintro e gs ⟨rfl,hi,hb,hk⟩
    refine ⟨_,rfl,?_⟩
    replace y:=ae.mk (Kd.aH (Kd.cT (an.apart (show an w0 _ g a6 t129 t130 from af.I) (af.Rw y.out) (by decide)) hk (fun _ h=>h.2)) (fun _ h=>h.1))
    replace z:=ae.mk (ay.blk hk (g':=a3) (o:=.cells #[.int .i64 0,.slice none 0 0,.slice none 0 0] 58 (0,0)) (af.Bw z.out) aB.out (by simp))
    replace j:=ae.mk (ay.blk hk (g':=X) (o:=.cells #[.int .i64 (wrap64 (1+t121)),.slice a9 a5.length aa,a0] 58 (0,0)) (af.Bw j.out) b0.out (by simp))
    replace a8:=ae.mk (Kd.aH (Kd.cT (an.apart (show an w0 _ g a6 t129 t130 from af.I) (af.Rw a8.out) (by decide)) hk (fun _ h=>h.2)) (fun _ h=>h.1))
    replace HK:=ae.mk (ay.trans (af.K HK) hk (.inl rfl))
    replace HB:=ae.mk hb
    replace am:=ae.mk hi
    (try clear hb)
    (try clear dd)
    (try clear hk)
    (try clear hi)
    refine hK.out _ _ ⟨(ah j.out 0).trans rfl,(ah j.out 1).trans rfl,(ah j.out 2).trans rfl⟩ (fun hHeld=>?_)
    clear hK K
    refine e6 (a':=?_) ?_ ?_
    rotate_left
    ·show Act.put _ (some 35) _ = _
     simp only [Act.put,List.setIfInBounds_toArray,List.set_cons_zero,List.set_cons_succ,bE,cG]
     rfl
    refine eS (i:=6) (N:=some 36) #[true,true,true,true,true,true,true,false,false,false] rfl rfl (dJ ab.out (by kernel_rfl)) (by decide) (fun K hK=>?_)
    refine oR (w1:=?_) (v:=?_) (by rfl) rfl ?_ ?_
    rotate_left 2
    ·go_simp
     constructor
     ·rfl
     ·rfl
    refine hK.out _ _ ⟨(ah (bU j.out _) 0).trans rfl,(ah (bU j.out _) 1).trans rfl,(ah (bU j.out _) 2).trans rfl⟩ (fun hHeld=>?_)
    clear hK K
    refine e6 (a':=?_) ?_ ?_
    rotate_left
    ·show Act.put _ (some 36) _ = _
     simp only [Act.put,List.setIfInBounds_toArray,List.set_cons_zero,List.set_cons_succ,bE,cG]
     rfl
    refine eS (i:=7) (N:=some 37) #[true,true,true,true,true,true,true,true,false,false] rfl rfl (dJ ab.out (by kernel_rfl)) (by decide) (fun K hK=>?_)
    refine Kd.gU (Kd.int .i64) w.heap.size (by rfl) (.tmp 31) (.tmp 36) 24 3 (.int .i64 0) 8 rfl Try.underlying24 fa rfl (by decide) (by omega) a0 a2 t134 [.int .i64 t134] (fun k_=>some k_≠(.slice a9 a5.length aa:Value).ownBlock) (fun _=>False) rfl rfl ?aP (fun _ hk=>hk.elim) ?aF ?aO (Below.refl _ _) ?aS ?aL ?_
    (case aP=>exact rfl)
    (case aF=>exact (fun k_ hk=>Kd.fresh' (Kd.dW (af.Rw a8.out)) k_ hk))
    (case aO=>exact (af.Rw y.out))
    (case aS=>exact (bS (w:=w) (g:=g) (row:=none) (af.K HK)))
    (case aL=>have:=dp.out;omega)
    intro v138 fp ho hb hg hat
    rw [← dq.out] at ho
    have b3:=ae.mk (cO (g:=a3) (o:=.cells #[.int .i64 0,.slice none 0 0,.slice none 0 0] 58 (0,0)) (af.Bw z.out) hg (Kd.gj y.out z.out (by decide)))
    have b4:=ae.mk (cO (g:=X) (o:=.cells #[.int .i64 (wrap64 (1+t121)),.slice a9 a5.length aa,a0] 58 (0,0)) (af.Bw j.out) hg (Kd.gj y.out j.out (by decide)))
    have ba:=ae.mk (an.grown af.I hg (an.ic am.out y.out (by decide)))
    have bc:=ae.mk (Kd.gF (ok:=(fun _=>True)) (af.Rw (Kd.aH a8.out (fun _ hk=>⟨trivial,hk⟩))) hg hat)
    have bi:=ae.mk (fK (af.J HB) HL.out hb)
    have bm:=ae.mk (ay.trans (af.K HK) (ay.gi hg g) (Kd.kL y.out))
    have bo:=ae.mk ho
    clear z
    clear j
    clear am
    clear a8
    clear HB
    clear HK
    clear y
    have z:=b3
    have j:=b4
    have am:=ba
    have a8:=bc
    have HB:=bi
    have HK:=bm
    have cq:=bo
    clear b3 b4 ba bc bi bm bo
    clear ho hb hg hat
    obtain ⟨d0,d1,d8⟩:=Kd.bA cq.out
    (first | subst d8 | (injection d8 with ci dt cp;have du:=ci.symm;have dv:=cp.symm;clear ci dt cp;subst du;subst dv))
    refine hK.out _ _ ⟨(ah j.out 0).trans rfl,(ah j.out 1).trans rfl,(ah j.out 2).trans rfl⟩ (fun hHeld=>?_)
    clear hK K
    refine e6 (a':=?_) ?_ ?_
    rotate_left
    ·show Act.put _ (some 37) _ = _
     simp only [Act.put,List.setIfInBounds_toArray,List.set_cons_zero,List.set_cons_succ,bE,cG]
     rfl
    refine af.pu 8 38 ab ?_
    refine nu (i:=9) (N:=none) #[true,true,true,true,true,true,true,true,true,true] rfl rfl (dJ ab.out (by kernel_rfl)) (by decide) (fun K hK=>?_)
    have g8:fp.cell? ⟨X,2,none⟩ = some (a0):=(ah j.out 2).trans rfl
    have fs:=aj j.out 2
    have ej:=ar.out
    have el:=aw.out
    refine jB (w1:=?_) (by rfl) rfl ?_ ?_
    rotate_left
    ·go_simp
     rfl
    refine hK.out _ _ ?_
    clear hK K
    refine gm (fL ab.out (by kernel_rfl)) ?_
    try go_wp2
    go_roundg k1
    case measure=>have:=eb.out;omega
    case rel=>exact ⟨(wrap64 (b2+1)),(t135),(t136),(a5),(ca),(.slice a9 a5.length aa),(.slice d0 ca.length d1),af.F,H',⟨by have:=eb.out;omega⟩,⟨af.Rw (Kd.aH (Kd.aG (p:=⟨X,2,none⟩) (Kd.b7 a8.out j.out (by decide)) (fun _ hk=>hk.2) (.slice d0 ca.length d1)) (fun _ hk=>hk.1.2))⟩,⟨af.Rw (Kd.aH (Kd.aG (p:=⟨X,2,none⟩) (Kd.b7 cq.out j.out (by decide)) (fun _ hk=>hk.2) (.slice d0 ca.length d1)) (fun _ hk=>hk.1))⟩,⟨af.B⟩,⟨af.B⟩,⟨af.I⟩,⟨af.K HK⟩,⟨af.J HB⟩⟩
   ·rw [if_neg ce] at H
    have df:decide (b2 < t125) = false:=decide_eq_false ce
    clear ce
    simp only [Option.some.injEq,Prod.mk.injEq] at H
    obtain ⟨rfl,rfl,rfl,rfl,rfl⟩:=H
    have ft:=aw.out
    have fw:=ar.out
    have fO:=b0.out
    have fX:=c1.out
    obtain ⟨em,eo,eq,es,et,ev⟩:=af.bW j.out
    have fY:=aB.out
    have g0:=cf.out
    obtain ⟨ew,ex,eQ,f0,f1,f2⟩:=af.bW z.out
    obtain ⟨d2,d3,f3⟩:=Kd.bA Y.out
    subst f3
    obtain ⟨d4,d5,f4⟩:=Kd.bA y.out
    subst f4
    go_wp2
    refine bodyPost_ret (results_cell_row rfl _ _ a3 58 #[.int .i64 (wrap64 (1+t121)),.slice d2 a4.length d3,.slice d4 a2.length d5] (0,0) _ rfl af.B Try.underlying58 rfl (by kernel_rfl)) rfl ?_
    exact ⟨_,_,af.E,by (with_reducible repeat (first | apply Kd.bN | apply Kd.bO | apply Kd.bt));exact Kd.aH (Kd.aG (p:=⟨a3,2,none⟩) (Kd.aG (p:=⟨a3,1,none⟩) (Kd.aG (p:=⟨a3,0,none⟩) (Kd.b7 Y.out z.out (by decide)) (fun _ hk=>hk.2) (.int .i64 (wrap64 (1+t121)))) (fun _ hk=>hk.2) (.slice d2 a4.length d3)) (fun _ hk=>hk.2) (.slice d4 a2.length d5)) (fun _ hk=>hk.1),by (with_reducible repeat (first | apply Kd.bN | apply Kd.bO | apply Kd.bt));exact Kd.aH (Kd.aG (p:=⟨a3,2,none⟩) (Kd.aG (p:=⟨a3,1,none⟩) (Kd.aG (p:=⟨a3,0,none⟩) (Kd.b7 y.out z.out (by decide)) (fun _ hk=>hk.2) (.int .i64 (wrap64 (1+t121)))) (fun _ hk=>hk.2) (.slice d2 a4.length d3)) (fun _ hk=>hk.2) (.slice d4 a2.length d5)) (fun _ hk=>hk.1),af.I,af.J HB,af.K HK⟩
def cV.f (y:List Int) (z:Int) (X:Int) (l1:List Int):Option (Int×Int×Int):=(b9.f y z X (l1.length:Int)).bind fun j=>(if 0≤j.1 then (if j.1 < (l1.length:Int) then (some (rd l1 j.1,j.2.1,j.2.2)) else (none)) else (none))
set_option maxHeartbeats 8000000 in
set_option maxRecDepth 100000 in
theorem cV.calls (g:Nat) (y:List Int) (z:Int) (X:Int) (A1:Option Addr) (c1:Nat) (l1:List Int) (r1:Int) (r2:Int) (r3:Int) (w0 w:World) (hI:an w0 w g y z X) (hB:Below w0.heap.size w0 w) (a3:Kd.C (Kd.int .i64) w A1 l1.length l1) (a4:l1.length≤c1) (a1:∀ ad,A1 = some ad→0 < l1.length→ad.block≠g) (h:cV.f y z X l1 = some (r1,r2,r3)) :
  Calls Try.prog 125 #[.pointer (some ⟨g,0,none⟩),.slice A1 l1.length c1] w fun e w'=>e = .returned (.int .i64 r1)∧an w0 w' g y r2 r3∧Below w0.heap.size w0 w'∧ay w w' g none:=by
 have a6:=ae.mk a3
 have aa:=ae.mk a4
 clear a3 a4
 have a7:=ae.mk hI
 have HK:=ae.mk (ay.refl w g none)
 have HL:=ae.mk hB.size
 clear hI
 have ab:=ae.mk hB.size
 have HB:=ae.mk hB
 clear hB
 unfold cV.f at h
 have H:=h
 clear h
 obtain ⟨⟨t140,t141,t142⟩,A3,H⟩:=af.be H
 (try dsimp only at H)
 obtain ⟨c4,H⟩:=af.ip H
 have a8:=decide_eq_true c4
 clear c4
 obtain ⟨c5,H⟩:=af.ip H
 have a9:=decide_eq_true c5
 clear c5
 simp only [Option.some.injEq,Prod.mk.injEq] at H
 obtain ⟨rfl,rfl,rfl⟩:=H
 go_enter Try.func125,Try.ntmps125
 go_wp2_with (first | (refine af.gl (some 9) Try.func87 #[.pointer (some ⟨g,0,none⟩),.int .i64 (l1.length:Int)] ?_;(with_reducible refine (b9.calls g y z X (l1.length:Int) t140 t141 t142 w0 _ ?side1 ?side2 A3.out).mono ?_);(case side1=>exact af.I);(case side2=>exact af.J HB);rintro e w6 ⟨rfl,hi,hb,hk⟩;refine ⟨_,rfl,?_⟩;replace HK:=ae.mk (ay.trans (af.K HK) hk (.inl rfl));replace HB:=ae.mk hb;replace a7:=ae.mk hi;(try clear hb);(try clear am);(try clear hk);(try clear hi);have Y:0≤(t140:Int):=af.D;have a0:t140 < (l1.length:Int):=af.D;obtain ⟨a2,a5,j⟩:=Kd.cF a6.out t140 Y a0;cases a5;replace j:=o6 HK.out j (by first | (rw [gG];exact a1 _ rfl (by omega)) | exact a1 _ rfl (by omega) | exact a1 a2 rfl (by omega));replace Y:=eq_true Y;replace a0:=eq_true a0))
 go_ret
 exact ⟨af.E,af.I,af.J HB,af.K HK⟩
def cJ.f (k:Nat) (X:List Int) (Y:Int) (a0:Int):Option (Int×List Int×List Int×Int×Int):=(aV.f k X Y a0 7).bind fun j=>((b9.f X j.2.2.2.1 j.2.2.2.2 12).bind fun y=>(if y.1 = 0 then ((cV.f X y.2.1 y.2.2 (([(-1),0,7,1]:List Int))).bind fun z=>(some (z.1,j.2.1,j.2.2.1,z.2.1,z.2.2))) else (if y.1 = 1 then (if j.2.1.length < 17592186044416 then (some (j.1,(j.2.1 ++ [0]),j.2.2.1,y.2.1,y.2.2)) else (none)) else (some (j.1,j.2.1,j.2.2.1,y.2.1,y.2.2)))))
set_option maxHeartbeats 8000000 in
set_option maxRecDepth 100000 in
theorem cJ.calls (k:Nat) (g:Nat) (a1:List Int) (a7:Int) (a8:Int) (r1:Int) (r2:List Int) (r3:List Int) (r4:Int) (r5:Int) (w0 w:World) (hI:an w0 w g a1 a7 a8) (hB:Below w0.heap.size w0 w) (h:cJ.f k a1 a7 a8 = some (r1,r2,r3,r4,r5)) :
  Calls Try.prog 86 #[.pointer (some ⟨g,0,none⟩)] w fun e w'=>∃ df dk:Value,e = .returned (.agg #[.int .i64 r1,df,dk])∧Kd.R (Kd.int .i64) 3 w' w.heap.size (fun k_=>some k_≠(dk:Value).ownBlock) df r2∧Kd.R (Kd.int .i64) 3 w' w.heap.size (fun k_=>some k_≠(df:Value).ownBlock) dk r3∧an w0 w' g a1 r4 r5∧Below w0.heap.size w0 w'∧ay w w' g none:=by
 have hV:=Try.underlying58
 have a6:=ae.mk hI
 have HK:=ae.mk (ay.refl w g none)
 have HL:=ae.mk hB.size
 clear hI
 have d1:=ae.mk hB.size
 have HB:=ae.mk hB
 clear hB
 unfold cJ.f at h
 have H:=h
 clear h
 obtain ⟨⟨t145,t146,t149,t152,t153⟩,A2,H⟩:=af.be H
 (try dsimp only at H)
 obtain ⟨⟨t155,t156,t157⟩,A3,H⟩:=af.be H
 (try dsimp only at H)
 by_cases c4:t155 = 0
 ·rw [if_pos c4] at H
  have dv:(t155 == 0) = true:=beq_iff_eq.mpr c4
  have dC:(t155 != 0) = false:=bne_eq_false_iff_eq.mpr c4
  clear c4
  obtain ⟨d3,ci⟩:∃ y_:List Int,y_ = (([(-1),0,7,1]:List Int)):=⟨_,rfl⟩
  replace H:((cV.f a1 t156 t157 d3).bind fun cp=>(some (cp.1,t146,t149,cp.2.1,cp.2.2))) = some (r1,r2,r3,r4,r5):=by (try rw [ci]);exact af.Z
  have d4:=ae.mk ci
  clear ci
  obtain ⟨⟨t161,t162,t163⟩,A5,H⟩:=af.be H
  (try dsimp only at H)
  simp only [Option.some.injEq,Prod.mk.injEq] at H
  obtain ⟨rfl,rfl,rfl,rfl,rfl⟩:=H
  go_enter Try.func86,Try.ntmps86
  go_wp2_with (first | (refine af.bx 2 #[.int .i64 0,.slice none 0 0,.slice none 0 0] 58 ?_;intro j hg w6 hbox hb;replace HB:=ae.mk (ax (af.J HB) hb);have z:=ae.mk hbox;have d5:=ae.mk ((by rw [hg];exact (bS (w:=w) (g:=g) (row:=none) (af.K HK)):w.heap.size≤j));have d6:=ae.mk ((Nat.le_trans d1.out (by rw [hg];exact (bS (w:=w) (g:=g) (row:=none) (af.K HK)):w.heap.size≤j):w0.heap.size≤j));replace HK:=ae.mk (ay.trans (af.K HK) (ay.dV hb g none) (.inl rfl));have a9:=ae.mk ((by rw [hg];exact Nat.ne_of_lt (an.lt (show an w0 _ g a1 a7 a8 from af.I)):g≠j));have a2:=ae.mk ((by rw [hg];exact Nat.ne_of_gt (an.lt (show an w0 _ g a1 a7 a8 from af.I)):j≠g));replace a6:=ae.mk (an.below af.I hb);clear hb hbox hg) | (refine af.gl (some 5) Try.func102 #[.pointer (some ⟨g,0,none⟩),.int .i64 7] ?_;(with_reducible refine (aV.calls k g a1 a7 a8 7 t145 t146 t149 t152 t153 w0 _ ?side1 ?side2 A2.out).mono ?_);(case side1=>exact af.I);(case side2=>exact af.J HB);rintro e w7 ⟨db,dd,rfl,c0,c1,hi,hb,hk⟩;refine ⟨_,rfl,?_⟩;replace z:=ae.mk (ay.blk hk (g':=j) (o:=.cells #[.int .i64 0,.slice none 0 0,.slice none 0 0] 58 (0,0)) (af.Bw z.out) a2.out (by simp));have X:=ae.mk (Kd.bD c0 (bS (w:=w) (g:=g) (row:=none) (af.K HK)));have Y:=ae.mk (Kd.bD c1 (bS (w:=w) (g:=g) (row:=none) (af.K HK)));replace HK:=ae.mk (ay.trans (af.K HK) hk (.inl rfl));replace HB:=ae.mk hb;replace a6:=ae.mk hi;(try clear hb);(try clear d2);(try clear hk);(try clear hi);(try clear c0);(try clear c1)) | (refine af.bx 3 #[.int .i64 0,.slice none 0 0,.slice none 0 0] 58 ?_;intro y hg w8 hbox hb;have aB:=af.rb X hb;have aF:=af.rb Y hb;have aL:=ae.mk (an.below af.I hb);have aO:=af.bb z hb;have aP:=ae.mk (ay.trans (af.K HK) (ay.dV hb g none) (.inl rfl));have aS:=ae.mk (ax (af.J HB) hb);have b0:=ae.mk hbox;have ca:=ae.mk ((by rw [hg];exact (bS (w:=w) (g:=g) (row:=none) (af.K HK)):w.heap.size≤y));have cb:=ae.mk ((Nat.le_trans d1.out (by rw [hg];exact (bS (w:=w) (g:=g) (row:=none) (af.K HK)):w.heap.size≤y):w0.heap.size≤y));have cc:=af.nl hg z;have am:=af.ng hg z;have ao:=ae.mk ((by rw [hg];exact Nat.ne_of_lt (an.lt (show an w0 _ g a1 t152 t153 from af.I)):g≠y));have ap:=ae.mk ((by rw [hg];exact Nat.ne_of_gt (an.lt (show an w0 _ g a1 t152 t153 from af.I)):y≠g));clear X;clear Y;clear a6;clear z;clear HK;clear HB;have X:=aB;have Y:=aF;have a6:=aL;have z:=aO;have HK:=aP;have HB:=aS;have a0:=b0;have d7:=ca;have d8:=cb;have a4:=cc;have a5:=am;have aa:=ao;have a3:=ap;clear aB aF aL aO aP aS b0 ca cb cc am ao ap;clear hb hbox hg;have hW:=a5.out;have hX:=a4.out;have ht:=a3.out;have hu:=aa.out;obtain ⟨dE,dT,e0,e1,e2,e3⟩:=af.bW a0.out;obtain ⟨b2,b3,e4⟩:=Kd.bA X.out;subst e4;obtain ⟨b4,ba,e8⟩:=Kd.bA Y.out;subst e8) | (refine af.gl (some 7) Try.func87 #[.pointer (some ⟨g,0,none⟩),.int .i64 12] ?_;(with_reducible refine (b9.calls g a1 t152 t153 12 t155 t156 t157 w0 _ ?side1 ?side2 A3.out).mono ?_);(case side1=>exact af.I);(case side2=>exact af.J HB);rintro e i0 ⟨rfl,hi,hb,hk⟩;refine ⟨_,rfl,?_⟩;replace z:=ae.mk (ay.blk hk (g':=j) (o:=.cells #[.int .i64 0,.slice none 0 0,.slice none 0 0] 58 (0,0)) af.B a2.out (by simp));replace X:=ae.mk (Kd.aH (Kd.cT (an.apart (show an w0 _ g a1 t152 t153 from af.I) (af.Rw ((Kd.aH (Kd.aG (p:=⟨y,2,none⟩) (Kd.aG (p:=⟨y,1,none⟩) (Kd.aG (p:=⟨y,0,none⟩) (Kd.b7 X.out a0.out (by decide)) (fun _ hk=>hk.2) (.int .i64 t145)) (fun _ hk=>hk.2) (.slice b2 t146.length b3)) (fun _ hk=>hk.2) (.slice b4 t149.length ba)) (fun _ h_=>h_.1)))) (by decide)) hk (fun _ h=>h.2)) (fun _ h=>h.1));replace Y:=ae.mk (Kd.aH (Kd.cT (an.apart (show an w0 _ g a1 t152 t153 from af.I) (af.Rw ((Kd.aH (Kd.aG (p:=⟨y,2,none⟩) (Kd.aG (p:=⟨y,1,none⟩) (Kd.aG (p:=⟨y,0,none⟩) (Kd.b7 Y.out a0.out (by decide)) (fun _ hk=>hk.2) (.int .i64 t145)) (fun _ hk=>hk.2) (.slice b2 t146.length b3)) (fun _ hk=>hk.2) (.slice b4 t149.length ba)) (fun _ h_=>h_.1)))) (by decide)) hk (fun _ h=>h.2)) (fun _ h=>h.1));replace a0:=ae.mk (ay.blk hk (g':=y) (o:=.cells #[.int .i64 t145,.slice b2 t146.length b3,.slice b4 t149.length ba] 58 (0,0)) af.B a3.out (by simp));replace HK:=ae.mk (ay.trans (af.K HK) hk (.inl rfl));replace HB:=ae.mk hb;replace a6:=ae.mk hi;(try clear hb);(try clear d2);(try clear hk);(try clear hi)) | ((with_reducible refine bf (N:=11) rfl ?_);refine Kd.jx (Kd.int .i64) _ 3 ?hg (N:=11) ?hd (xs:=([(-1),0,7,1]:List Int)) (inner:=[.int .i64 (-1),.int .i64 0,.int .i64 7,.int .i64 1]) (ok:=fun _=>True) (okp:=fun _=>True) ?hr ?hp (fun _ hk=>hk) trivial (Below.refl _ _) (Nat.le_refl _) (by simp) ?_;(case hd=>rfl);(case hg=>rfl);(case hr=>first | (go_simp;done) | (go_simp;rfl));(case hp=>exact (cl.one (show Kd.M (Kd.int .i64) _ _ _ (-1) [.int .i64 (-1)] from rfl) (cl.one (show Kd.M (Kd.int .i64) _ _ _ 0 [.int .i64 0] from rfl) (cl.one (show Kd.M (Kd.int .i64) _ _ _ 7 [.int .i64 7] from rfl) (cl.one (show Kd.M (Kd.int .i64) _ _ _ 1 [.int .i64 1] from rfl) (cl.none _ _))))));intro v159 i1 bc hb hx dl;clear hx dl;(first | rw [← d4.out] at bc | (simp only [Int.reduceToNat] at bc;rw [← d4.out] at bc));have ab:=ae.mk (Kd.bD (Kd.cX (Kd.cX bc (Kd.dW (af.Rw X.out))) (Kd.dW (af.Rw Y.out))) (bS (w:=w) (g:=g) (row:=none) (af.K HK)));replace X:=ae.mk (Kd.dI (af.Rw X.out) (Kd.cP bc) hb);replace Y:=ae.mk (Kd.dI (af.Rw Y.out) (Kd.cP bc) hb);replace z:=af.bb z hb;replace a0:=af.bb a0 hb;replace HK:=ae.mk (ay.trans (af.K HK) (ay.dV hb g none) (.inl rfl));replace HB:=ae.mk (ax (af.J HB) hb);replace a6:=ae.mk (an.below af.I hb);clear hb bc;obtain ⟨ea,eb,ed⟩:=Kd.bA ab.out;subst ed) | (refine af.gl (some 12) Try.func125 #[.pointer (some ⟨g,0,none⟩),.slice ea d3.length eb] ?_;(with_reducible refine (cV.calls g a1 t156 t157 _ _ d3 t161 t162 t163 w0 _ ?side1 ?side2 ?side3 ?side4 ?side5 A5.out).mono ?_);(case side1=>exact af.I);(case side2=>exact af.J HB);(case side3=>exact af.Cw ((Kd.aJ ab.out).2.2));(case side4=>exact (Kd.aJ ab.out).2.1);(case side5=>exact o5 (an.ic a6.out ab.out (by decide)));rintro e i2 ⟨rfl,hi,hb,hk⟩;refine ⟨_,rfl,?_⟩;replace z:=ae.mk (ay.blk hk (g':=j) (o:=.cells #[.int .i64 0,.slice none 0 0,.slice none 0 0] 58 (0,0)) (af.Bw z.out) a2.out (by simp));replace X:=ae.mk (Kd.aH (Kd.cT (an.apart (show an w0 _ g a1 t156 t157 from af.I) (af.Rw X.out) (by decide)) hk (fun _ h=>h.2)) (fun _ h=>h.1));replace Y:=ae.mk (Kd.aH (Kd.cT (an.apart (show an w0 _ g a1 t156 t157 from af.I) (af.Rw Y.out) (by decide)) hk (fun _ h=>h.2)) (fun _ h=>h.1));replace a0:=ae.mk (ay.blk hk (g':=y) (o:=.cells #[.int .i64 t145,.slice b2 t146.length b3,.slice b4 t149.length ba] 58 (0,0)) (af.Bw a0.out) a3.out (by simp));replace ab:=ae.mk (Kd.aH (Kd.cT (an.apart (show an w0 _ g a1 t156 t157 from af.I) (af.Rw ab.out) (by decide)) hk (fun _ h=>h.2)) (fun _ h=>h.1));replace HK:=ae.mk (ay.trans (af.K HK) hk (.inl rfl));replace HB:=ae.mk hb;replace a6:=ae.mk hi;(try clear hb);(try clear d2);(try clear hk);(try clear hi);obtain ⟨ee,ef,eh,ej,el,em⟩:=af.bW a0.out;have hz:=a2.out;have hA:=a9.out;obtain ⟨eo,eq,es,et,ev,ew⟩:=af.bW z.out))
  refine bodyPost_ret (results_cell_row rfl _ _ j 58 #[.int .i64 t161,.slice b2 t146.length b3,.slice b4 t149.length ba] (0,0) _ rfl af.B Try.underlying58 rfl (by kernel_rfl)) rfl ?_
  exact ⟨_,_,af.E,by (with_reducible repeat (first | apply Kd.bN | apply Kd.bO | apply Kd.bt));exact Kd.aH (Kd.aG (p:=⟨j,2,none⟩) (Kd.aG (p:=⟨j,1,none⟩) (Kd.aG (p:=⟨j,0,none⟩) (Kd.aG (p:=⟨y,0,none⟩) (Kd.b7 (Kd.b7 X.out a0.out (by decide)) z.out (by decide)) (fun _ hk=>hk.1.2) (.int .i64 t161)) (fun _ hk=>hk.2) (.int .i64 t161)) (fun _ hk=>hk.2) (.slice b2 t146.length b3)) (fun _ hk=>hk.2) (.slice b4 t149.length ba)) (fun _ hk=>hk.1.1.1),by (with_reducible repeat (first | apply Kd.bN | apply Kd.bO | apply Kd.bt));exact Kd.aH (Kd.aG (p:=⟨j,2,none⟩) (Kd.aG (p:=⟨j,1,none⟩) (Kd.aG (p:=⟨j,0,none⟩) (Kd.aG (p:=⟨y,0,none⟩) (Kd.b7 (Kd.b7 Y.out a0.out (by decide)) z.out (by decide)) (fun _ hk=>hk.1.2) (.int .i64 t161)) (fun _ hk=>hk.2) (.int .i64 t161)) (fun _ hk=>hk.2) (.slice b2 t146.length b3)) (fun _ hk=>hk.2) (.slice b4 t149.length ba)) (fun _ hk=>hk.1.1.1),af.I,af.J HB,af.K HK⟩
 ·rw [if_neg c4] at H
  have dv:(t155 == 0) = false:=beq_eq_false_iff_ne.mpr c4
  have dC:(t155 != 0) = true:=bne_iff_ne.mpr c4
  by_cases cq:t155 = 1
  ·rw [if_pos cq] at H
   have dp:(t155 == 1) = true:=beq_iff_eq.mpr cq
   have dq:(t155 != 1) = false:=bne_eq_false_iff_eq.mpr cq
   clear cq
   obtain ⟨ex,H⟩:=af.ip H
   have dt:=ae.mk ex
   clear ex
   obtain ⟨bi,d0⟩:∃ y_:List Int,y_ = (t146 ++ [0]):=⟨_,rfl⟩
   replace H:(some (t145,bi,t149,t156,t157)) = some (r1,r2,r3,r4,r5):=by (try rw [d0]);exact af.Z
   have du:=ae.mk d0
   clear d0
   simp only [Option.some.injEq,Prod.mk.injEq] at H
   obtain ⟨rfl,rfl,rfl,rfl,rfl⟩:=H
   go_enter Try.func86,Try.ntmps86
   go_wp2_with (first | (refine af.bx 2 #[.int .i64 0,.slice none 0 0,.slice none 0 0] 58 ?_;intro j hg i3 hbox hb;replace HB:=ae.mk (ax (af.J HB) hb);have z:=ae.mk hbox;have d5:=ae.mk ((by rw [hg];exact (bS (w:=w) (g:=g) (row:=none) (af.K HK)):w.heap.size≤j));have d6:=ae.mk ((Nat.le_trans d1.out (by rw [hg];exact (bS (w:=w) (g:=g) (row:=none) (af.K HK)):w.heap.size≤j):w0.heap.size≤j));replace HK:=ae.mk (ay.trans (af.K HK) (ay.dV hb g none) (.inl rfl));have a9:=ae.mk ((by rw [hg];exact Nat.ne_of_lt (an.lt (show an w0 _ g a1 a7 a8 from af.I)):g≠j));have a2:=ae.mk ((by rw [hg];exact Nat.ne_of_gt (an.lt (show an w0 _ g a1 a7 a8 from af.I)):j≠g));replace a6:=ae.mk (an.below af.I hb);clear hb hbox hg) | (refine af.gl (some 5) Try.func102 #[.pointer (some ⟨g,0,none⟩),.int .i64 7] ?_;(with_reducible refine (aV.calls k g a1 a7 a8 7 t145 t146 t149 t152 t153 w0 _ ?side1 ?side2 A2.out).mono ?_);(case side1=>exact af.I);(case side2=>exact af.J HB);rintro e i4 ⟨db,dd,rfl,c0,c1,hi,hb,hk⟩;refine ⟨_,rfl,?_⟩;replace z:=ae.mk (ay.blk hk (g':=j) (o:=.cells #[.int .i64 0,.slice none 0 0,.slice none 0 0] 58 (0,0)) (af.Bw z.out) a2.out (by simp));have X:=ae.mk (Kd.bD c0 (bS (w:=w) (g:=g) (row:=none) (af.K HK)));have Y:=ae.mk (Kd.bD c1 (bS (w:=w) (g:=g) (row:=none) (af.K HK)));replace HK:=ae.mk (ay.trans (af.K HK) hk (.inl rfl));replace HB:=ae.mk hb;replace a6:=ae.mk hi;(try clear hb);(try clear d2);(try clear hk);(try clear hi);(try clear c0);(try clear c1)) | (refine af.bx 3 #[.int .i64 0,.slice none 0 0,.slice none 0 0] 58 ?_;intro y hg i5 hbox hb;have aB:=af.rb X hb;have aF:=af.rb Y hb;have aL:=ae.mk (an.below af.I hb);have aO:=af.bb z hb;have aP:=ae.mk (ay.trans (af.K HK) (ay.dV hb g none) (.inl rfl));have aS:=ae.mk (ax (af.J HB) hb);have b0:=ae.mk hbox;have ca:=ae.mk ((by rw [hg];exact (bS (w:=w) (g:=g) (row:=none) (af.K HK)):w.heap.size≤y));have cb:=ae.mk ((Nat.le_trans d1.out (by rw [hg];exact (bS (w:=w) (g:=g) (row:=none) (af.K HK)):w.heap.size≤y):w0.heap.size≤y));have cc:=af.nl hg z;have am:=af.ng hg z;have ao:=ae.mk ((by rw [hg];exact Nat.ne_of_lt (an.lt (show an w0 _ g a1 t152 t153 from af.I)):g≠y));have ap:=ae.mk ((by rw [hg];exact Nat.ne_of_gt (an.lt (show an w0 _ g a1 t152 t153 from af.I)):y≠g));clear X;clear Y;clear a6;clear z;clear HK;clear HB;have X:=aB;have Y:=aF;have a6:=aL;have z:=aO;have HK:=aP;have HB:=aS;have a0:=b0;have d7:=ca;have d8:=cb;have a4:=cc;have a5:=am;have aa:=ao;have a3:=ap;clear aB aF aL aO aP aS b0 ca cb cc am ao ap;clear hb hbox hg;have hC:=a5.out;have hD:=a4.out;have hE:=a3.out;have hG:=aa.out;obtain ⟨eQ,f0,f1,f2,f3,f4⟩:=af.bW a0.out;obtain ⟨cd,ce,f5⟩:=Kd.bA X.out;subst f5;obtain ⟨ar,aw,f6⟩:=Kd.bA Y.out;subst f6) | (refine af.gl (some 7) Try.func87 #[.pointer (some ⟨g,0,none⟩),.int .i64 12] ?_;(with_reducible refine (b9.calls g a1 t152 t153 12 t155 t156 t157 w0 _ ?side1 ?side2 A3.out).mono ?_);(case side1=>exact af.I);(case side2=>exact af.J HB);rintro e i6 ⟨rfl,hi,hb,hk⟩;refine ⟨_,rfl,?_⟩;replace z:=ae.mk (ay.blk hk (g':=j) (o:=.cells #[.int .i64 0,.slice none 0 0,.slice none 0 0] 58 (0,0)) af.B a2.out (by simp));replace X:=ae.mk (Kd.aH (Kd.cT (an.apart (show an w0 _ g a1 t152 t153 from af.I) (af.Rw ((Kd.aH (Kd.aG (p:=⟨y,2,none⟩) (Kd.aG (p:=⟨y,1,none⟩) (Kd.aG (p:=⟨y,0,none⟩) (Kd.b7 X.out a0.out (by decide)) (fun _ hk=>hk.2) (.int .i64 t145)) (fun _ hk=>hk.2) (.slice cd t146.length ce)) (fun _ hk=>hk.2) (.slice ar t149.length aw)) (fun _ h_=>h_.1)))) (by decide)) hk (fun _ h=>h.2)) (fun _ h=>h.1));replace Y:=ae.mk (Kd.aH (Kd.cT (an.apart (show an w0 _ g a1 t152 t153 from af.I) (af.Rw ((Kd.aH (Kd.aG (p:=⟨y,2,none⟩) (Kd.aG (p:=⟨y,1,none⟩) (Kd.aG (p:=⟨y,0,none⟩) (Kd.b7 Y.out a0.out (by decide)) (fun _ hk=>hk.2) (.int .i64 t145)) (fun _ hk=>hk.2) (.slice cd t146.length ce)) (fun _ hk=>hk.2) (.slice ar t149.length aw)) (fun _ h_=>h_.1)))) (by decide)) hk (fun _ h=>h.2)) (fun _ h=>h.1));replace a0:=ae.mk (ay.blk hk (g':=y) (o:=.cells #[.int .i64 t145,.slice cd t146.length ce,.slice ar t149.length aw] 58 (0,0)) af.B a3.out (by simp));replace HK:=ae.mk (ay.trans (af.K HK) hk (.inl rfl));replace HB:=ae.mk hb;replace a6:=ae.mk hi;(try clear hb);(try clear d2);(try clear hk);(try clear hi);obtain ⟨f7,f8,f9,fd,fi,fj⟩:=af.bW a0.out) | ((with_reducible refine cR (b:=.append) (xs:=#[.tmp 17,.tmp 18]) rfl ?_);at_builtin;refine Kd.en (Kd.int .i64) w.heap.size rfl (.tmp 17) (.tmp 18) 24 3 (.int .i64 0) 8 rfl Try.underlying24 fa rfl (by decide) (by omega) (.slice cd t146.length ce) t146 0 [.int .i64 0] (fun k_=>some k_≠(.slice ar t149.length aw:Value).ownBlock) (fun _=>False) rfl rfl (by exact rfl) (fun _ hk=>hk.elim) (by exact fun k_ hk=>Kd.fresh' (Kd.dW (af.Rw Y.out)) k_ hk) (by exact af.Rw X.out) (Below.refl _ _) (by exact bS (w:=w) (g:=g) (row:=none) (af.K HK)) (by have:=dt.out;omega) ?_;intro hZ i7 ho hb hg hat;rw [← du.out] at ho;have aB:=ae.mk (an.grown af.I hg (an.ic a6.out X.out (by decide)));have aF:=ae.mk (cO (g:=j) (o:=.cells #[.int .i64 0,.slice none 0 0,.slice none 0 0] 58 (0,0)) (af.Bw z.out) hg (Kd.gj X.out z.out (by decide)));have aL:=ae.mk (Kd.gF (ok:=(fun _=>True)) (af.Rw (Kd.aH Y.out (fun _ hk=>⟨trivial,hk⟩))) hg hat);have aO:=ae.mk (cO (g:=y) (o:=.cells #[.int .i64 t145,.slice cd t146.length ce,.slice ar t149.length aw] 58 (0,0)) (af.Bw a0.out) hg (Kd.gj X.out a0.out (by decide)));have aP:=ae.mk (fK (af.J HB) HL.out hb);have aS:=ae.mk (ay.trans (af.K HK) (ay.gi hg g) (Kd.kL X.out));have b0:=ae.mk ho;clear a6;clear z;clear Y;clear a0;clear HB;clear HK;clear X;have a6:=aB;have z:=aF;have Y:=aL;have a0:=aO;have HB:=aP;have HK:=aS;have d9:=b0;clear aB aF aL aO aP aS b0;clear ho hb hg hat;obtain ⟨cf,ch,fp⟩:=Kd.bA d9.out;subst fp;obtain ⟨fs,ft,fw,fO,fX,fY⟩:=af.bW a0.out;have hH:=a2.out;have hL:=a9.out;obtain ⟨g0,g1,g2,g3,g4,g5⟩:=af.bW z.out))
   refine bodyPost_ret (results_cell_row rfl _ _ j 58 #[.int .i64 t145,.slice cf bi.length ch,.slice ar t149.length aw] (0,0) _ rfl af.B Try.underlying58 rfl (by kernel_rfl)) rfl ?_
   exact ⟨_,_,af.E,by (with_reducible repeat (first | apply Kd.bN | apply Kd.bO | apply Kd.bt));exact Kd.aH (Kd.aG (p:=⟨j,2,none⟩) (Kd.aG (p:=⟨j,1,none⟩) (Kd.aG (p:=⟨j,0,none⟩) (Kd.aG (p:=⟨y,1,none⟩) (Kd.b7 (Kd.b7 d9.out a0.out (by decide)) z.out (by decide)) (fun _ hk=>hk.1.2) (.slice cf bi.length ch)) (fun _ hk=>hk.2) (.int .i64 t145)) (fun _ hk=>hk.2) (.slice cf bi.length ch)) (fun _ hk=>hk.2) (.slice ar t149.length aw)) (fun _ hk=>hk.1.1),by (with_reducible repeat (first | apply Kd.bN | apply Kd.bO | apply Kd.bt));exact Kd.aH (Kd.aG (p:=⟨j,2,none⟩) (Kd.aG (p:=⟨j,1,none⟩) (Kd.aG (p:=⟨j,0,none⟩) (Kd.aG (p:=⟨y,1,none⟩) (Kd.b7 (Kd.b7 Y.out a0.out (by decide)) z.out (by decide)) (fun _ hk=>hk.1.2) (.slice cf bi.length ch)) (fun _ hk=>hk.2) (.int .i64 t145)) (fun _ hk=>hk.2) (.slice cf bi.length ch)) (fun _ hk=>hk.2) (.slice ar t149.length aw)) (fun _ hk=>hk.1.1.2),af.I,af.J HB,af.K HK⟩
  ·rw [if_neg cq] at H
   have dp:(t155 == 1) = false:=beq_eq_false_iff_ne.mpr cq
   have dq:(t155 != 1) = true:=bne_iff_ne.mpr cq
   simp only [Option.some.injEq,Prod.mk.injEq] at H
   obtain ⟨rfl,rfl,rfl,rfl,rfl⟩:=H
   go_enter Try.func86,Try.ntmps86
   go_wp2_with (first | (refine af.bx 2 #[.int .i64 0,.slice none 0 0,.slice none 0 0] 58 ?_;intro j hg i8 hbox hb;replace HB:=ae.mk (ax (af.J HB) hb);have z:=ae.mk hbox;have d5:=ae.mk ((by rw [hg];exact (bS (w:=w) (g:=g) (row:=none) (af.K HK)):w.heap.size≤j));have d6:=ae.mk ((Nat.le_trans d1.out (by rw [hg];exact (bS (w:=w) (g:=g) (row:=none) (af.K HK)):w.heap.size≤j):w0.heap.size≤j));replace HK:=ae.mk (ay.trans (af.K HK) (ay.dV hb g none) (.inl rfl));have a9:=ae.mk ((by rw [hg];exact Nat.ne_of_lt (an.lt (show an w0 _ g a1 a7 a8 from af.I)):g≠j));have a2:=ae.mk ((by rw [hg];exact Nat.ne_of_gt (an.lt (show an w0 _ g a1 a7 a8 from af.I)):j≠g));replace a6:=ae.mk (an.below af.I hb);clear hb hbox hg) | (refine af.gl (some 5) Try.func102 #[.pointer (some ⟨g,0,none⟩),.int .i64 7] ?_;(with_reducible refine (aV.calls k g a1 a7 a8 7 t145 t146 t149 t152 t153 w0 _ ?side1 ?side2 A2.out).mono ?_);(case side1=>exact af.I);(case side2=>exact af.J HB);rintro e i9 ⟨db,dd,rfl,c0,c1,hi,hb,hk⟩;refine ⟨_,rfl,?_⟩;replace z:=ae.mk (ay.blk hk (g':=j) (o:=.cells #[.int .i64 0,.slice none 0 0,.slice none 0 0] 58 (0,0)) (af.Bw z.out) a2.out (by simp));have X:=ae.mk (Kd.bD c0 (bS (w:=w) (g:=g) (row:=none) (af.K HK)));have Y:=ae.mk (Kd.bD c1 (bS (w:=w) (g:=g) (row:=none) (af.K HK)));replace HK:=ae.mk (ay.trans (af.K HK) hk (.inl rfl));replace HB:=ae.mk hb;replace a6:=ae.mk hi;(try clear hb);(try clear d2);(try clear hk);(try clear hi);(try clear c0);(try clear c1)) | (refine af.bx 3 #[.int .i64 0,.slice none 0 0,.slice none 0 0] 58 ?_;intro y hg ib hbox hb;have aB:=af.rb X hb;have aF:=af.rb Y hb;have aL:=ae.mk (an.below af.I hb);have aO:=af.bb z hb;have aP:=ae.mk (ay.trans (af.K HK) (ay.dV hb g none) (.inl rfl));have aS:=ae.mk (ax (af.J HB) hb);have b0:=ae.mk hbox;have ca:=ae.mk ((by rw [hg];exact (bS (w:=w) (g:=g) (row:=none) (af.K HK)):w.heap.size≤y));have cb:=ae.mk ((Nat.le_trans d1.out (by rw [hg];exact (bS (w:=w) (g:=g) (row:=none) (af.K HK)):w.heap.size≤y):w0.heap.size≤y));have cc:=af.nl hg z;have am:=af.ng hg z;have ao:=ae.mk ((by rw [hg];exact Nat.ne_of_lt (an.lt (show an w0 _ g a1 t152 t153 from af.I)):g≠y));have ap:=ae.mk ((by rw [hg];exact Nat.ne_of_gt (an.lt (show an w0 _ g a1 t152 t153 from af.I)):y≠g));clear X;clear Y;clear a6;clear z;clear HK;clear HB;have X:=aB;have Y:=aF;have a6:=aL;have z:=aO;have HK:=aP;have HB:=aS;have a0:=b0;have d7:=ca;have d8:=cb;have a4:=cc;have a5:=am;have aa:=ao;have a3:=ap;clear aB aF aL aO aP aS b0 ca cb cc am ao ap;clear hb hbox hg;have hM:=a5.out;have hO:=a4.out;have hP:=a3.out;have hR:=aa.out;obtain ⟨g6,g7,g8,g9,gb,gc⟩:=af.bW a0.out;obtain ⟨bm,bo,gk⟩:=Kd.bA X.out;subst gk;obtain ⟨bs,bv,go⟩:=Kd.bA Y.out;subst go) | (refine af.gl (some 7) Try.func87 #[.pointer (some ⟨g,0,none⟩),.int .i64 12] ?_;(with_reducible refine (b9.calls g a1 t152 t153 12 t155 t156 t157 w0 _ ?side1 ?side2 A3.out).mono ?_);(case side1=>exact af.I);(case side2=>exact af.J HB);rintro e ih ⟨rfl,hi,hb,hk⟩;refine ⟨_,rfl,?_⟩;replace z:=ae.mk (ay.blk hk (g':=j) (o:=.cells #[.int .i64 0,.slice none 0 0,.slice none 0 0] 58 (0,0)) af.B a2.out (by simp));replace X:=ae.mk (Kd.aH (Kd.cT (an.apart (show an w0 _ g a1 t152 t153 from af.I) (af.Rw ((Kd.aH (Kd.aG (p:=⟨y,2,none⟩) (Kd.aG (p:=⟨y,1,none⟩) (Kd.aG (p:=⟨y,0,none⟩) (Kd.b7 X.out a0.out (by decide)) (fun _ hk=>hk.2) (.int .i64 t145)) (fun _ hk=>hk.2) (.slice bm t146.length bo)) (fun _ hk=>hk.2) (.slice bs t149.length bv)) (fun _ h_=>h_.1)))) (by decide)) hk (fun _ h=>h.2)) (fun _ h=>h.1));replace Y:=ae.mk (Kd.aH (Kd.cT (an.apart (show an w0 _ g a1 t152 t153 from af.I) (af.Rw ((Kd.aH (Kd.aG (p:=⟨y,2,none⟩) (Kd.aG (p:=⟨y,1,none⟩) (Kd.aG (p:=⟨y,0,none⟩) (Kd.b7 Y.out a0.out (by decide)) (fun _ hk=>hk.2) (.int .i64 t145)) (fun _ hk=>hk.2) (.slice bm t146.length bo)) (fun _ hk=>hk.2) (.slice bs t149.length bv)) (fun _ h_=>h_.1)))) (by decide)) hk (fun _ h=>h.2)) (fun _ h=>h.1));replace a0:=ae.mk (ay.blk hk (g':=y) (o:=.cells #[.int .i64 t145,.slice bm t146.length bo,.slice bs t149.length bv] 58 (0,0)) af.B a3.out (by simp));replace HK:=ae.mk (ay.trans (af.K HK) hk (.inl rfl));replace HB:=ae.mk hb;replace a6:=ae.mk hi;(try clear hb);(try clear d2);(try clear hk);(try clear hi);obtain ⟨gs,gt,h0,h6,h7,h8⟩:=af.bW a0.out;have hT:=a2.out;have hU:=a9.out;obtain ⟨h9,hj,hl,hm,hn,hq⟩:=af.bW z.out))
   refine bodyPost_ret (results_cell_row rfl _ _ j 58 #[.int .i64 t145,.slice bm t146.length bo,.slice bs t149.length bv] (0,0) _ rfl af.B Try.underlying58 rfl (by kernel_rfl)) rfl ?_
   exact ⟨_,_,af.E,by (with_reducible repeat (first | apply Kd.bN | apply Kd.bO | apply Kd.bt));exact Kd.aH (Kd.aG (p:=⟨j,2,none⟩) (Kd.aG (p:=⟨j,1,none⟩) (Kd.aG (p:=⟨j,0,none⟩) (Kd.b7 X.out z.out (by decide)) (fun _ hk=>hk.2) (.int .i64 t145)) (fun _ hk=>hk.2) (.slice bm t146.length bo)) (fun _ hk=>hk.2) (.slice bs t149.length bv)) (fun _ hk=>hk.1),by (with_reducible repeat (first | apply Kd.bN | apply Kd.bO | apply Kd.bt));exact Kd.aH (Kd.aG (p:=⟨j,2,none⟩) (Kd.aG (p:=⟨j,1,none⟩) (Kd.aG (p:=⟨j,0,none⟩) (Kd.b7 Y.out z.out (by decide)) (fun _ hk=>hk.2) (.int .i64 t145)) (fun _ hk=>hk.2) (.slice bm t146.length bo)) (fun _ hk=>hk.2) (.slice bs t149.length bv)) (fun _ hk=>hk.1),af.I,af.J HB,af.K HK⟩
def cv.f (k:Nat) (l0:List Int):Option (Int×List Int×List Int×Int):=(bY.f k l0).bind fun y=>((cJ.f k y.1 y.2.1 y.2.2).bind fun j=>((b9.f y.1 j.2.2.2.1 j.2.2.2.2 7).bind fun z=>(some (j.1,j.2.1,j.2.2.1,wrap64 (z.1 - 1)))))
set_option maxHeartbeats 8000000 in
set_option maxRecDepth 100000 in
theorem cv.calls (k:Nat) (A0:Option Addr) (c0:Nat) (l0:List Int) (r1:Int) (r2:List Int) (r3:List Int) (r4:Int) (w:World) (b3:Kd.C (Kd.int .u8) w A0 l0.length l0) (b4:l0.length≤c0) (h:cv.f k l0 = some (r1,r2,r3,r4)) :
  Calls Try.prog 44 #[.slice A0 l0.length c0] w fun e w'=>∃ aP aS:Value,e = .returned (.tuple #[.agg #[.int .i64 r1,aP,aS],.int .i64 r4])∧Kd.R (Kd.int .i64) 3 w' w.heap.size (fun k_=>some k_≠(aS:Value).ownBlock) aP r2∧Kd.R (Kd.int .i64) 3 w' w.heap.size (fun k_=>some k_≠(aP:Value).ownBlock) aS r3∧Below w.heap.size w w':=by
 have dl:=Try.underlying58
 have d2:=ae.mk b3
 have d3:=ae.mk b4
 clear b3 b4
 have HB:=ae.mk (Below.refl w.heap.size w)
 unfold cv.f at h
 have H:=h
 clear h
 obtain ⟨⟨t168,t169,t170⟩,A2,H⟩:=af.be H
 (try dsimp only at H)
 obtain ⟨⟨t172,t173,t176,t179,t180⟩,A3,H⟩:=af.be H
 (try dsimp only at H)
 obtain ⟨⟨t182,t183,t184⟩,A4,H⟩:=af.be H
 (try dsimp only at H)
 simp only [Option.some.injEq,Prod.mk.injEq] at H
 obtain ⟨rfl,rfl,rfl,rfl⟩:=H
 go_enter Try.func44,Try.ntmps44
 try go_wp2_with (first | (refine af.bx 2 #[.int .i64 0,.slice none 0 0,.slice none 0 0] 58 ?_;intro X hg w5 hbox hb;have z:=ae.mk hbox;have d4:=af.gw hg HB;have d5:=af.gw hg HB;replace HB:=af.lb HB hb;clear hb hbox hg) | (refine af.gl (some 7) Try.func85 #[.slice A0 l0.length c0] ?_;(with_reducible refine (bY.calls k _ _ l0 t168 t169 t170 w _ ?side1 ?side2 ?side3 A2.out).mono ?_);(case side1=>exact af.J HB);(case side2=>exact d2.out);(case side3=>exact d3.out);rintro e w6 ⟨a8,rfl,hi,hb,am⟩;refine ⟨_,rfl,?_⟩;replace HB:=ae.mk hb;have a6:=ae.mk hi;have b0:=ae.mk (an.iV hi (aU (af.Bw z.out) am) (by decide));have a9:=ae.mk (Ne.symm (an.iV hi (aU (af.Bw z.out) am) (by decide)));replace z:=ae.mk (aU (af.Bw z.out) am);(try clear hb);(try clear am);(try clear hk);(try clear hi)) | (refine af.gl (some 9) Try.func86 #[.pointer (some ⟨a8,0,none⟩)] ?_;(with_reducible refine (cJ.calls k a8 t168 t169 t170 t172 t173 t176 t179 t180 w _ ?side1 ?side2 A3.out).mono ?_);(case side1=>exact af.I);(case side2=>exact af.J HB);rintro e w7 ⟨dp,dq,rfl,ba,bc,hi,hb,hk⟩;refine ⟨_,rfl,?_⟩;replace z:=ae.mk (ay.blk hk (g':=X) (o:=.cells #[.int .i64 0,.slice none 0 0,.slice none 0 0] 58 (0,0)) (af.Bw z.out) a9.out (by simp));have a0:=ae.mk (Kd.bD ba (aA (af.J HB)));have a1:=ae.mk (Kd.bD bc (aA (af.J HB)));replace HB:=ae.mk hb;replace a6:=ae.mk hi;(try clear hb);(try clear am);(try clear hk);(try clear hi);(try clear ba);(try clear bc)) | (refine af.bx 5 #[.int .i64 0,.slice none 0 0,.slice none 0 0] 58 ?_;intro j hg w8 hbox hb;have ao:=af.rb a0 hb;have ap:=af.rb a1 hb;have ar:=af.bb z hb;have aw:=ae.mk (an.below af.I hb);have aB:=ae.mk (ax (af.J HB) hb);have aF:=ae.mk hbox;have bi:=ae.mk ((by rw [hg];exact (aA (af.J HB)):w.heap.size≤j));have bm:=ae.mk ((by rw [hg];exact (aA (af.J HB)):w.heap.size≤j));have bo:=af.nl hg z;have bs:=af.ng hg z;have aL:=ae.mk ((by rw [hg];exact Nat.ne_of_lt (an.lt (show an w _ a8 t168 t179 t180 from af.I)):a8≠j));have aO:=ae.mk ((by rw [hg];exact Nat.ne_of_gt (an.lt (show an w _ a8 t168 t179 t180 from af.I)):j≠a8));clear a0;clear a1;clear z;clear a6;clear HB;have a0:=ao;have a1:=ap;have z:=ar;have a6:=aw;have HB:=aB;have Y:=aF;have d6:=bi;have d7:=bm;have a7:=bo;have y:=bs;have ab:=aL;have aa:=aO;clear ao ap ar aw aB aF bi bm bo bs aL aO;clear hb hbox hg;have dt:=y.out;have du:=a7.out;have d8:=aa.out;have d9:=ab.out;obtain ⟨bv,c1,ca,cb,cc,cd⟩:=af.bW Y.out;obtain ⟨a2,a3,ce⟩:=Kd.bA a0.out;subst ce;obtain ⟨a4,a5,cf⟩:=Kd.bA a1.out;subst cf))
 have ao:ae (Kd.R (Kd.int .i64) 3 (((w8.setCell ⟨j,0,none⟩ (.int .i64 t172)).setCell ⟨j,1,none⟩ (.slice a2 t173.length a3)).setCell ⟨j,2,none⟩ (.slice a4 t176.length a5)) w.heap.size (fun k_=>some k_≠(.slice a4 t176.length a5:Value).ownBlock) (.slice a2 t173.length a3) t173):=⟨af.Rw (Kd.aH (Kd.aG (p:=⟨j,2,none⟩) (Kd.aG (p:=⟨j,1,none⟩) (Kd.aG (p:=⟨j,0,none⟩) (Kd.b7 a0.out Y.out (by decide)) (fun _ hk=>hk.2) (.int .i64 t172)) (fun _ hk=>hk.2) (.slice a2 t173.length a3)) (fun _ hk=>hk.2) (.slice a4 t176.length a5)) (fun _ hk=>hk.1))⟩
 have ap:ae (Kd.R (Kd.int .i64) 3 (((w8.setCell ⟨j,0,none⟩ (.int .i64 t172)).setCell ⟨j,1,none⟩ (.slice a2 t173.length a3)).setCell ⟨j,2,none⟩ (.slice a4 t176.length a5)) w.heap.size (fun k_=>some k_≠(.slice a2 t173.length a3:Value).ownBlock) (.slice a4 t176.length a5) t176):=⟨af.Rw (Kd.aH (Kd.aG (p:=⟨j,2,none⟩) (Kd.aG (p:=⟨j,1,none⟩) (Kd.aG (p:=⟨j,0,none⟩) (Kd.b7 a1.out Y.out (by decide)) (fun _ hk=>hk.2) (.int .i64 t172)) (fun _ hk=>hk.2) (.slice a2 t173.length a3)) (fun _ hk=>hk.2) (.slice a4 t176.length a5)) (fun _ hk=>hk.1))⟩
 have ar:ae ((((w8.setCell ⟨j,0,none⟩ (.int .i64 t172)).setCell ⟨j,1,none⟩ (.slice a2 t173.length a3)).setCell ⟨j,2,none⟩ (.slice a4 t176.length a5)).heap[X]? = some (.cells #[.int .i64 0,.slice none 0 0,.slice none 0 0] 58 (0,0))):=⟨af.B⟩
 have aw:ae ((((w8.setCell ⟨j,0,none⟩ (.int .i64 t172)).setCell ⟨j,1,none⟩ (.slice a2 t173.length a3)).setCell ⟨j,2,none⟩ (.slice a4 t176.length a5)).heap[j]? = some (.cells #[.int .i64 t172,.slice a2 t173.length a3,.slice a4 t176.length a5] 58 (0,0))):=⟨af.B⟩
 have aB:ae (an w (((w8.setCell ⟨j,0,none⟩ (.int .i64 t172)).setCell ⟨j,1,none⟩ (.slice a2 t173.length a3)).setCell ⟨j,2,none⟩ (.slice a4 t176.length a5)) a8 t168 t179 t180):=⟨af.I⟩
 have aF:ae (Below w.heap.size w (((w8.setCell ⟨j,0,none⟩ (.int .i64 t172)).setCell ⟨j,1,none⟩ (.slice a2 t173.length a3)).setCell ⟨j,2,none⟩ (.slice a4 t176.length a5))):=⟨af.J HB⟩
 (try clear a0)
 (try clear a1)
 (try clear z)
 (try clear Y)
 (try clear a6)
 (try clear HB)
 generalize (((w8.setCell ⟨j,0,none⟩ (.int .i64 t172)).setCell ⟨j,1,none⟩ (.slice a2 t173.length a3)).setCell ⟨j,2,none⟩ (.slice a4 t176.length a5)) = db at ao ap ar aw aB aF ⊢
 have a0:=ao
 have a1:=ap
 have z:=ar
 have Y:=aw
 have a6:=aB
 have HB:=aF
 clear ao ap ar aw aB aF
 replace a0:=ae.mk (Kd.bt a0.out)
 replace a1:=ae.mk (Kd.bt a1.out)
 replace z:=ae.mk (bC z.out)
 replace Y:=ae.mk (bC Y.out)
 replace a6:=ae.mk (an.drew a6.out)
 replace HB:=ae.mk (cu HB.out)
 refine eY (n:=6) (S:=fun w'=>w'.cell? ⟨j,0,none⟩ = some (.int .i64 t172)∧w'.cell? ⟨j,1,none⟩ = some (.slice a2 t173.length a3)∧w'.cell? ⟨j,2,none⟩ = some (.slice a4 t176.length a5)) (ds:=[]) #[false,false,false,false,false,false] (by kernel_rfl) rfl rfl ⟨(ah Y.out 0).trans rfl,(ah Y.out 1).trans rfl,(ah Y.out 2).trans rfl⟩ (fun hHeld=>?_)
 generalize db.drew = dT at a0 a1 z Y a6 HB hHeld ⊢
 refine gW (i:=1) (N:=some 11) (v:=?_) (a':=?_) #[false,true,false,false,false,false] rfl rfl (by kernel_rfl) (fun _ _ _ h=>h) (Or.inl ⟨by rfl,?_⟩) ?_ ?_
 rotate_left
 ·intro w'
  go_simp
  with_reducible rfl
 rotate_left
 ·simp only [Act.put,List.setIfInBounds_toArray,List.set_cons_zero,List.set_cons_succ,bE,cG]
  rfl
 refine j1 (i:=0) (N:=some 10) (v:=?_) (a':=?_) #[true,true,false,false,false,false] rfl rfl (by kernel_rfl) (fun _ _ _ h=>h) (Or.inl ⟨by rfl,?_⟩) hHeld ?_ ?_
 rotate_left
 ·rintro w' ⟨s0,s1,s2⟩
  go_simp
  with_reducible rfl
 rotate_left
 ·simp only [Act.put,List.setIfInBounds_toArray,List.set_cons_zero,List.set_cons_succ,bE,cG]
  rfl
 refine eS (i:=2) (N:=some 12) #[true,true,true,false,false,false] rfl rfl (by kernel_rfl) (by decide) (fun K hK=>?_)
 refine eH Try.func87 (by kernel_rfl) rfl #[.pointer (some ⟨a8,0,none⟩),.int .i64 7] (by rfl) rfl rfl (by (try simp only [List.map_toArray,List.map_cons,List.map_nil]);first | done | rfl) ?_
 with_reducible refine (b9.calls a8 t168 t179 t180 7 t182 t183 t184 w _ ?side1 ?side2 A4.out).mono ?_
 (case side1=>exact af.I)
 (case side2=>exact af.J HB)
 rintro e b2 ⟨rfl,hi,hb,hk⟩
 refine ⟨_,rfl,?_⟩
 replace z:=ae.mk (ay.blk hk (g':=X) (o:=.cells #[.int .i64 0,.slice none 0 0,.slice none 0 0] 58 (0,0)) (af.Bw z.out) a9.out (by simp))
 replace a0:=ae.mk (Kd.aH (Kd.cT (an.apart (show an w _ a8 t168 t179 t180 from af.I) (af.Rw a0.out) (by decide)) hk (fun _ h=>h.2)) (fun _ h=>h.1))
 replace a1:=ae.mk (Kd.aH (Kd.cT (an.apart (show an w _ a8 t168 t179 t180 from af.I) (af.Rw a1.out) (by decide)) hk (fun _ h=>h.2)) (fun _ h=>h.1))
 replace Y:=ae.mk (ay.blk hk (g':=j) (o:=.cells #[.int .i64 t172,.slice a2 t173.length a3,.slice a4 t176.length a5] 58 (0,0)) (af.Bw Y.out) aa.out (by simp))
 replace HB:=ae.mk hb
 replace a6:=ae.mk hi
 (try clear hb)
 (try clear am)
 (try clear hk)
 (try clear hi)
 refine hK.out _ _ ⟨(ah Y.out 0).trans rfl,(ah Y.out 1).trans rfl,(ah Y.out 2).trans rfl⟩ (fun hHeld=>?_)
 clear hK K
 refine e6 (a':=?_) ?_ ?_
 rotate_left
 ·show Act.put _ (some 12) _ = _
  simp only [Act.put,List.setIfInBounds_toArray,List.set_cons_zero,List.set_cons_succ,bE,cG]
  rfl
 refine gW (i:=3) (N:=some 13) (v:=?_) (a':=?_) #[true,true,true,true,false,false] rfl rfl (by kernel_rfl) (fun _ _ _ h=>h) (Or.inl ⟨by rfl,?_⟩) ?_ ?_
 rotate_left
 ·intro w'
  go_simp
  with_reducible rfl
 rotate_left
 ·simp only [Act.put,List.setIfInBounds_toArray,List.set_cons_zero,List.set_cons_succ,bE,cG]
  rfl
 refine eS (i:=4) (N:=none) #[true,true,true,true,true,false] rfl rfl (by kernel_rfl) (by decide) (fun K hK=>?_)
 have dv:b2.cell? ⟨X,0,none⟩ = some (.int .i64 0):=(ah z.out 0).trans rfl
 have dd:=aj z.out 0
 have ch:=y.out
 have ci:=a7.out
 have dC:b2.cell? ⟨X,1,none⟩ = some (.slice none 0 0):=(ah z.out 1).trans rfl
 have df:=aj z.out 1
 have cp:=y.out
 have cq:=a7.out
 have dE:b2.cell? ⟨X,2,none⟩ = some (.slice none 0 0):=(ah z.out 2).trans rfl
 have dk:=aj z.out 2
 have d0:=y.out
 have d1:=a7.out
 refine jB (w1:=?_) (by rfl) rfl ?_ ?_
 rotate_left
 ·go_simp
  rfl
 refine hK.out _ _ ⟨((cell_far (p:=⟨X,_,none⟩) y.out _).trans (((cell_far (p:=⟨X,_,none⟩) y.out _).trans (((cell_far (p:=⟨X,_,none⟩) y.out _).trans (hHeld.1)))))),((cell_far (p:=⟨X,_,none⟩) y.out _).trans (((cell_far (p:=⟨X,_,none⟩) y.out _).trans (((cell_far (p:=⟨X,_,none⟩) y.out _).trans (hHeld.2.1)))))),((cell_far (p:=⟨X,_,none⟩) y.out _).trans (((cell_far (p:=⟨X,_,none⟩) y.out _).trans (((cell_far (p:=⟨X,_,none⟩) y.out _).trans (hHeld.2.2))))))⟩ (fun hHeld=>?_)
 clear hK K
 refine gW (i:=5) (N:=some 3) (v:=?_) (a':=?_) #[true,true,true,true,true,true] rfl rfl (by kernel_rfl) (fun _ _ _ h=>h) (Or.inl ⟨by rfl,?_⟩) ?_ ?_
 rotate_left
 ·intro w'
  go_simp
  with_reducible rfl
 rotate_left
 ·simp only [Act.put,List.setIfInBounds_toArray,List.set_cons_zero,List.set_cons_succ,bE,cG]
  rfl
 refine gm (by kernel_rfl) ?_
 try go_wp2
 refine bodyPost_ret (de rfl _ _ X 58 #[.int .i64 t172,.slice a2 t173.length a3,.slice a4 t176.length a5] (0,0) _ rfl af.B Try.underlying58 rfl (by kernel_rfl)) rfl ?_
 exact ⟨_,_,af.E,by (with_reducible repeat (first | apply Kd.bN | apply Kd.bO | apply Kd.bt));exact Kd.aH (Kd.aG (p:=⟨X,2,none⟩) (Kd.aG (p:=⟨X,1,none⟩) (Kd.aG (p:=⟨X,0,none⟩) (Kd.b7 a0.out z.out (by decide)) (fun _ hk=>hk.2) (.int .i64 t172)) (fun _ hk=>hk.2) (.slice a2 t173.length a3)) (fun _ hk=>hk.2) (.slice a4 t176.length a5)) (fun _ hk=>hk.1),by (with_reducible repeat (first | apply Kd.bN | apply Kd.bO | apply Kd.bt));exact Kd.aH (Kd.aG (p:=⟨X,2,none⟩) (Kd.aG (p:=⟨X,1,none⟩) (Kd.aG (p:=⟨X,0,none⟩) (Kd.b7 a1.out z.out (by decide)) (fun _ hk=>hk.2) (.int .i64 t172)) (fun _ hk=>hk.2) (.slice a2 t173.length a3)) (fun _ hk=>hk.2) (.slice a4 t176.length a5)) (fun _ hk=>hk.1),af.J HB⟩
def az.f (a0:Int) (j:Int) (a2:Int):Option (Bool):=if a0≥j then (some (decide (a0≤a2))) else (some false)
set_option maxHeartbeats 8000000 in
set_option maxRecDepth 100000 in
theorem az.calls (a0:Int) (y:Int) (a2:Int) (r:Bool) (w:World) (h:az.f a0 y a2 = some r) :
  Calls Try.prog 89 #[.int .i64 a0,.int .i64 y,.int .i64 a2] w fun e w'=>e = .returned (.bool r)∧bQ w w':=by
 unfold az.f at h
 have H:=h
 clear h
 by_cases c4:a0≥y
 ·rw [if_pos c4] at H
  have j:=decide_eq_true c4
  clear c4
  obtain rfl:=Option.some.inj H
  go_enter Try.func89,Try.ntmps89
  go_wp2
  go_ret
  exact ⟨af.F,af.G⟩
 ·rw [if_neg c4] at H
  have j:decide (y≤a0) = false:=decide_eq_false c4
  clear c4
  obtain rfl:=Option.some.inj H
  go_enter Try.func89,Try.ntmps89
  go_wp2
  go_ret
  exact ⟨af.F,af.G⟩
end Go.Proofs.Ytmpodackojmojaa.Pr
end
