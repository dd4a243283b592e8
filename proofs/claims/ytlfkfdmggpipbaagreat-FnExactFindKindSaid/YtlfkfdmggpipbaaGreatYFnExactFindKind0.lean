/- The claim FnExactFindKind: every text that its row comes to, laid together by slim.py (the words of the kit's print, the printed walks, the pure law, the row). -/
import Derived.ArgAppend
import Derived.Below
import Derived.BigQuiet
import Derived.ChangeArms
import Derived.ChangeOld
import Derived.DataReads
import Derived.Deep.AppendLies
import Derived.Deep.CutBlock
import Derived.Deep.DeepCutAuto
import Derived.Deep.Draws
import Derived.Deep.LoopGhost
import Derived.Deep.OwnRows
import Derived.Deep.QuietTactic
import Derived.Deep.RegionHeld3
import Derived.Deep.Slices
import Derived.KernelRfl
import Derived.Laws.BitsLemmas
import Derived.Laws.BytesArg
import Derived.Laws.IdiomCopy
import Derived.Laws.MakeOwn
import Derived.Laws.OwnMore
import Derived.Laws.Rows
import Derived.Laws.Slices
import Derived.Laws.StructEq
import Derived.Lib.AppendStr
import Derived.Lib.ConvBytes
import Derived.Lib.OwnBridge
import Derived.Lib.RowBridge
import Derived.Maps.AppendAt
import Derived.OpenShut
import Derived.OrdersHeld
import Derived.OwnWalk
import Derived.ProofKit
import Derived.RowKit
import Derived.RowKit3
import Derived.Shelf.SlGeneric
import Derived.Shelf.SlLaysF0
import Derived.Shelf.SlSortCmp.NoneTotal
import Derived.Shelf.Slices.CompactI
import Derived.Shelf.Slices.In.SortNone
import Derived.Shelf.Sort.Plain
import Derived.ShutString
import Derived.SizedLaws
import Derived.Sort.Grow
import Derived.Sort.OwnSortedInts
import Derived.Tactics
import Derived.Test.YtlfkfdmggpipbaaGreatProg
import Derived.Test.YtlfkfdmggpipbaaGreatRows
import Derived.WalkKit
import Derived.WideLaws
section
set_option linter.unusedVariables false
set_option linter.unusedSimpArgs false
namespace Go.Proofs.ag.b8
open Go.RowKit
structure ae (p:Prop):Prop where mk :: (out:p)
structure cw (w w':World):Prop where mk :: (out:∃ n,w' = w.drewN n)
theorem cw.refl (w:World):cw w w:=⟨⟨0,rfl⟩⟩
theorem cw.step {w w':World} (h:cw w w') (n:Nat):cw w (w'.drewN n):=by
 obtain ⟨m,rfl⟩:=h;exact ⟨⟨m+n,World.drewN_drewN ..⟩⟩
theorem cw.grown {w w':World} (h:cw w w'):Grown w w':=by
 obtain ⟨n,rfl⟩:=h;induction n with
 | zero=>exact Grown.refl _
 | succ n ih=>rw [← World.drew_drewN];exact Grown.drew ih
theorem cw.below {w w':World} (h:cw w w'):Below w.heap.size w w':=by
 obtain ⟨n,rfl⟩:=h;induction n with
 | zero=>exact Below.refl _ _
 | succ n ih=>rw [← World.drew_drewN];exact ih.drew
def rd (xs:List Int) (i:Int):Int:=xs.getD i.toNat 0
def bt (s:ByteArray) (i:Int):Int:=if h:i.toNat < s.size then ((s[i.toNat]'h).toNat:Int) else 0
theorem dD {w W:World} (h:Below w.heap.size w W) (o:Obj):Below w.heap.size w (W.alloc o):=h.alloc h.size o
theorem fR {B:Nat} {w W:World} (h:Below B w W):Below B w W.drew:=⟨h.os,h.tape,h.output,h.size,h.block⟩
theorem dh {B:Nat} {w W:World} (h:Below B w W) (n:Nat):Below B w (W.drewN n):=⟨h.os,h.tape,h.output,h.size,h.block⟩
theorem jP {B:Nat} {w w1 j:World} (h:Below B w w1) (hB:B≤w1.heap.size) (k:Below w1.heap.size w1 j):Below B w j :=
 h.trans ⟨k.os,k.tape,k.output,k.size,fun i hi=>k.block i (Nat.lt_of_lt_of_le hi hB)⟩
theorem jQ {w w1:World} (h:Below w.heap.size w w1) (row:Option Nat):w.grownBy w1 row:=⟨h.os,h.tape,h.output,h.size,fun i hi _=>h.block i hi⟩
theorem gr {w w1:World} (h:Below w.heap.size w w1) {a:Addr} {v:Value} (hc:w.cell? a = some v):w1.cell? a = some v:=(h.cell (World.block_lt_of_cell? w a hc)).trans hc
theorem add_plain (g j:Nat):(⟨g,0,none⟩:Addr).add j = ⟨g,j,none⟩:=by unfold Addr.add;split <;> simp_all
def dV (w:World) (k:IntKind) (A:Option Addr) (n:Nat) (xs:List Int):Prop :=
 xs.length = n∧n≤9223372036854775807∧(0 < n→∃ ad,A = some ad∧∀ j,j < n→w.cell? (ad.add j) = some (.int k (xs.getD j 0)))
theorem dV.at_ {w:World} {k:IntKind} {A:Option Addr} {n:Nat} {xs:List Int} (h:dV w k A n xs) (i:Int) (j:0≤i) (h1:i < n):∃ ad,A = some ad∧w.cell? (ad.add i.toNat) = some (.int k (rd xs i)):=by
 obtain ⟨ad,e,hc⟩:=h.2.2 (by omega);exact ⟨ad,e,hc _ (by omega)⟩
theorem dV.below {w w1:World} {k:IntKind} {A:Option Addr} {n:Nat} {xs:List Int} (h:dV w k A n xs) (hb:Below w.heap.size w w1):dV w1 k A n xs :=
 ⟨h.1,h.2.1,fun hn=>by
  obtain ⟨ad,e,hc⟩:=h.2.2 hn;exact ⟨ad,e,fun j hj=>gr hb (hc j hj)⟩⟩
theorem qq (W:World) (base:Nat) (e:TypeId) (size:Nat):W.ownsRow base e size (.slice none 0 0) 0 []:=⟨by simp,.inl ⟨rfl,rfl⟩⟩
theorem gx {w:World} {base:Nat} {e:TypeId} {size n:Nat} {v:Value} {xs:List Value} (h:w.ownsRow base e size v n xs) (k:Nat) (hk:v.ownBlock = some k):base≤k:=by
 rcases h.2 with ⟨rfl,_⟩ | ⟨g,cap,cur,rfl,hb,_⟩
 ·simp [Value.ownBlock] at hk
 ·have:g = k:=by simpa [Value.ownBlock] using hk
  omega
theorem oN {w:World} {base:Nat} {e:TypeId} {size n:Nat} {v:Value} {xs:List Value} (h:w.ownsRow base e size v n xs) (k:Nat) (hk:v.ownBlock = some k):k < w.heap.size:=by
 rcases h.2 with ⟨rfl,_⟩ | ⟨g,cap,cur,rfl,hb,hh,_⟩
 ·simp [Value.ownBlock] at hk
 ·have:g = k:=by simpa [Value.ownBlock] using hk
  subst this;exact (Array.getElem?_eq_some_iff.1 hh).1
theorem l7 {w w1:World} {base:Nat} {e:TypeId} {size n:Nat} {v:Value} {xs:List Value} (h:w.ownsRow base e size v n xs) (hb:Below w.heap.size w w1):w1.ownsRow base e size v n xs :=
 h.kept (jQ hb none) (by cases v.ownBlock <;> simp)
theorem o3 {w:World} {base n:Nat} {e:TypeId} {size:Nat} {v:Value} {xs:List Value} (h:w.ownsRow base e size v n xs):∃ A c,v = .slice A n c:=by
 rcases h.2 with ⟨rfl,rfl⟩ | ⟨g,cap,cur,rfl,_⟩
 ·exact ⟨none,0,rfl⟩
 ·exact ⟨_,cap,rfl⟩
theorem dV.fS {w:World} {k:IntKind} {A:Option Addr} {n:Nat} {xs:List Int} (h:dV w k A n xs) (i:Nat) (hi:i≤n):dV w k A i (xs.take i):=by
 refine ⟨by rw [List.length_take,h.1];omega,by have:=h.2.1;omega,fun hp=>?_⟩;obtain ⟨ad,e,hc⟩:=h.2.2 (by omega);refine ⟨ad,e,fun j hj=>?_⟩;rw [hc j (by omega)];simp [List.getD_eq_getElem?_getD,hj]
def fh {α:Type} (a b:Option α):Prop:=∀ r,a = some r→b = some r
theorem fh.refl {α:Type} (a:Option α):fh a a:=fun _ h=>h
theorem fh.none {α:Type} (b:Option α):fh Option.none b:=fun _ h=>by cases h
theorem fh.trans {α:Type} {a b c:Option α} (h:fh a b) (k:fh b c):fh a c:=fun r hr=>k r (h r hr)
theorem fh.ite {α:Type} {c:Prop} [Decidable c] {a a' b b':Option α} (h:fh a a') (k:fh b b'):fh (if c then a else b) (if c then a' else b'):=by
 split
 ·exact h
 ·exact k
theorem fh.bind {α β:Type} {a a':Option α} {f f':α→Option β} (h:fh a a') (k:∀ x,fh (f x) (f' x)):fh (a.bind f) (a'.bind f'):=by
 intro r hr;obtain ⟨x,hx,hf⟩:=Option.bind_eq_some_iff.1 hr;exact Option.bind_eq_some_iff.2 ⟨x,h x hx,k x r hf⟩
theorem fh.map {α β:Type} {a a':Option α} (f:α→β) (h:fh a a'):fh (a.map f) (a'.map f):=by
 intro r hr;obtain ⟨x,hx,hf⟩:=Option.map_eq_some_iff.1 hr;exact Option.map_eq_some_iff.2 ⟨x,h x hx,hf⟩
theorem jr {α:Type} {g:Nat→Option α} (h:∀ k,fh (g k) (g (k+1))) (k:Nat):∀ j,fh (g k) (g (k+j))
 | 0=>fh.refl _
 | j+1=>(jr h k j).trans (h (k+j))
theorem kE {α:Type} {g:Nat→Option α} (h:∀ k,fh (g k) (g (k+1))) {k k':Nat} (hk:k≤k') {r:α} (hr:g k = some r):g k' = some r:=by
 have:=jr h k (k' - k) r hr;rwa [Nat.add_sub_cancel' hk] at this
def cm {α:Type} (R:α→List Value→Prop) (size:Nat) (ps:List α) (cs:List Value):Prop :=
 cs.length = ps.length * size∧∀ j p,ps[j]? = some p→R p ((cs.drop (j * size)).take size)
theorem cm.none {α:Type} (R:α→List Value→Prop) (size:Nat):cm R size [] []:=⟨by simp,fun j p h=>by simp at h⟩
theorem cm.snoc {α:Type} {R:α→List Value→Prop} {size:Nat} {ps:List α} {cs c:List Value} {p:α} (h:cm R size ps cs) (hp:R p c) (hc:c.length = size):cm R size (ps ++ [p]) (cs ++ c):=by
 refine ⟨by rw [List.length_append,h.1,hc,List.length_append,List.length_singleton,Nat.add_mul,Nat.one_mul],fun j q hq=>?_⟩;rcases Nat.lt_or_ge j ps.length with hj | hj
 ·rw [List.getElem?_append_left hj] at hq
  have h1:j * size+size≤cs.length:=by rw [h.1,← Nat.succ_mul];exact Nat.mul_le_mul_right _ hj
  have h2:=h.2 j q hq;rw [List.drop_append_of_le_length (by omega),List.take_append_of_le_length (by rw [List.length_drop];omega)];exact h2
 ·have hj':j = ps.length:=by
   have:=(List.getElem?_eq_some_iff.1 hq).1;rw [List.length_append,List.length_singleton] at this;omega
  subst hj';have hq':p = q:=by simpa using hq
  subst hq';rw [← h.1,List.drop_left,← hc,List.take_length];exact hp
theorem cm.gE {α:Type} {R R':α→List Value→Prop} {size:Nat} {ps:List α} {cs:List Value} (h:cm R size ps cs) (hR:∀ p c,R p c→R' p c):cm R' size ps cs:=⟨h.1,fun j p hj=>hR _ _ (h.2 j p hj)⟩
def dW {α:Type} (R:α→List Value→Prop) (size:Nat) (w:World) (A:Option Addr) (n:Nat) (ps:List α):Prop :=
 ps.length = n∧n≤9223372036854775807∧(0 < n→∃ ad,A = some ad∧∀ j p,ps[j]? = some p→∃ c,c.length = size∧R p c∧∀ i u,c[i]? = some u→w.cell? (ad.add (j * size+i)) = some u)
theorem dW.ta {α:Type} {R:α→List Value→Prop} {size:Nat} {w:World} {A:Option Addr} {n:Nat} {ps:List α} (h:dW R size w A n ps) (d:α) (i:Int) (y:0≤i) (h1:i < n) :
  ∃ ad c,A = some ad∧c.length = size∧R (ps.getD i.toNat d) c∧∀ j u,c[j]? = some u→w.cell? (ad.add (i.toNat * size+j)) = some u:=by
 obtain ⟨ad,e,hc⟩:=h.2.2 (by omega);have hl:i.toNat < ps.length:=by have:=h.1;omega
 obtain ⟨c,hs,hr,hcell⟩:=hc i.toNat _ (List.getElem?_eq_getElem hl);refine ⟨ad,c,e,hs,?_,hcell⟩;rw [List.getD_eq_getElem?_getD,List.getElem?_eq_getElem hl];exact hr
theorem dW.gE {α:Type} {R R':α→List Value→Prop} {size:Nat} {w w1:World} {A:Option Addr} {n:Nat} {ps:List α} (h:dW R size w A n ps) (hb:Below w.heap.size w w1) (hR:∀ p c,R p c→R' p c):dW R' size w1 A n ps :=
 ⟨h.1,h.2.1,fun hn=>by
  obtain ⟨ad,e,hc⟩:=h.2.2 hn;refine ⟨ad,e,fun j p hj=>?_⟩;obtain ⟨c,hs,hr,hcell⟩:=hc j p hj;exact ⟨c,hs,hR _ _ hr,fun i u hu=>gr hb (hcell i u hu)⟩⟩
theorem ku {α:Type} {R:α→List Value→Prop} {w:World} {base n size:Nat} {e:TypeId} {v:Value} {ps:List α} {cs:List Value} (h:w.ownsRow base e size v n cs) (hR:cm R size ps cs) (hn:ps.length = n) :
  ∃ A c,v = .slice A n c∧dW R size w A n ps:=by
 rcases Nat.eq_zero_or_pos n with y | y
 ·rcases h.2 with ⟨rfl,rfl⟩ | ⟨g,cap,cur,rfl,_⟩
  ·exact ⟨none,0,rfl,hn,by omega,fun hp=>absurd hp (by omega)⟩
  ·exact ⟨_,cap,rfl,hn,by omega,fun hp=>absurd hp (by omega)⟩
 ·obtain ⟨g,cap,rfl,_,_⟩:=h.form y
  have hm:n≤9223372036854775807:=by
   rcases h.2 with ⟨_,h1⟩ | ⟨g',cap',cur,he,_,_,h1,h2,_⟩
   ·omega
   ·simp only [maxLen] at h2
    omega
  refine ⟨_,cap,rfl,hn,hm,fun _=>⟨_,rfl,fun j p hj=>⟨(cs.drop (j * size)).take size,?_,hR.2 j p hj,fun i u hu=>?_⟩⟩⟩
  ·have hjl:=(List.getElem?_eq_some_iff.1 hj).1
   have h1:j * size+size≤cs.length:=by rw [hR.1,← Nat.succ_mul];exact Nat.mul_le_mul_right _ hjl
   rw [List.length_take,List.length_drop];omega
  ·refine h.cells (g:=g) rfl _ u ?_
   rw [List.getElem?_take] at hu;split at hu
   ·rw [List.getElem?_drop] at hu
    exact hu
   ·cases hu
theorem e6 (ad:Addr) (m j:Nat) (hj:0 < j):ad.add (m+j) = ⟨(ad.add m).block,(ad.add m).off+j,none⟩:=by
 unfold Addr.add;by_cases hm:m = 0
 ·subst hm
  simp [Nat.ne_of_gt hj]
 ·simp [hm,Nat.add_assoc]
section
variable {P:Program} {ops:Array Oper} {rest:List Oper} {o:Oper} {a:Act} {Q:Exit→Act→World→Prop}
theorem fT {w0 W:World} (base:Nat) (hgd:o.guard = none) (s x:Operand) (t e:TypeId) (z:Value) (size bytes:Nat)
  (ho:o.op = .call { callee:=.builtin .append,args:=#[s,x],argTypes:=#[t,t] })
  (ht:P.underlying t = some (.slice e)) (hinfo:(P.info? e).map (fun i=>(i.zero,i.size,i.bytes)) = some (some z,size,bytes)) (hz:z.cells.size = size) (j:0 < size) (y:0 < bytes)
  (v:Value) (n:Nat) (xs ys:List Value) (hs:a.eval s = v) (hx:a.eval x = .slice (some ⟨W.heap.size,0,none⟩) 1 1) (hys:ys.length = size) (h1:∀ u∈ys,u.oneCell' = true)
  (HO:W.ownsRow base e size v n xs) (HB:Below base w0 W) (hbase:base≤W.heap.size) (hl:(n+1) * bytes≤140737488355328)
  (h:∀ v1 w1,w1.ownsRow base e size v1 (n+1) (xs ++ ys)→Below base w0 w1→W.grownBy w1 v.ownBlock→(v1.ownBlock = v.ownBlock∨∃ b,v1.ownBlock = some b∧W.heap.size≤b)→wpList P ops Q rest (a.put o.dst v1) w1) :
  wpList P ops Q (o :: rest) a (W.alloc (.cells ys.toArray e)):=by
 obtain ⟨i0,hi,hzz⟩:=Option.map_eq_some_iff.1 hinfo;simp only [Prod.mk.injEq] at hzz;obtain ⟨I,J,M⟩:=hzz;have hlen:n+1≤140737488355328:=Nat.le_trans (Nat.le_mul_of_pos_right _ y) hl;refine wpList_append_own_at (W.alloc (.cells ys.toArray e)) hgd s x t ho base e i0 z size bytes ht hi I J M hz j v n xs hs (HO.alloc _) ⟨W.heap.size,0,none⟩ 1 1 ys hx (by rw [hys];simp)
  (by simpa using World.news_of_block (cs:=ys.toArray) (t:=e) (fr:=(0,0)) (heap_alloc_new W (.cells ys.toArray e))) h1 (by simp only [maxLen];omega) hl (by simp;omega) ?_
 intro v1 w1 hown hg _ hat;refine h v1 w1 hown ((HB.alloc hbase _).grown hg (by simp;omega) (gx HO)) (World.grownBy.trans (World.grownBy_alloc W _ _) hg) ?_;rcases hat with hat | hat
 ·exact .inl hat
 ·exact .inr ⟨_,hat,by simp⟩
end
theorem mN {w:World} {base:Nat} {e t:TypeId} {size n g:Nat} {v:Value} {xs:List Value} {cs:Array Value} (h:w.ownsRow base e size v n xs) (hg:w.heap[g]? = some (.cells cs t (0,0))) (hne:e≠t):some g≠v.ownBlock:=by
 rcases h.2 with ⟨rfl,_⟩ | ⟨g',cap,cur,rfl,_,hh,_⟩
 ·simp [Value.ownBlock]
 ·intro he
  have:g = g':=by simpa [Value.ownBlock] using he
  subst this;rw [hg] at hh;injection hh with hh
  injection hh with _ ht
  exact hne ht.symm
theorem mc {w:World} {base:Nat} {e:TypeId} {size n:Nat} {v:Value} {xs:List Value} (h:w.ownsRow base e size v n xs) {p:Addr} (hne:some p.block≠v.ownBlock) (u:Value):(w.setCell p u).ownsRow base e size v n xs:=by
 obtain ⟨h1,h2⟩:=h;refine ⟨h1,?_⟩;rcases h2 with h2 | ⟨g,cap,cur,rfl,hg,hh,r⟩
 ·exact .inl h2
 ·exact .inr ⟨g,cap,cur,rfl,hg,by rw [Below.heap_setCell _ _ _ _ (fun e=>hne (by rw [e];rfl))];exact hh,r⟩
theorem qt {w:World} {g:Nat} {t:TypeId} {cs:Array Value} (h:w.heap[g]? = some (.cells cs t (0,0))) (i:Nat) (u:Value):(w.setCell ⟨g,i,none⟩ u).heap[g]? = some (.cells (cs.setIfInBounds i u) t (0,0)):=by
 simp [World.setCell,Array.getElem?_modify,h]
theorem gV {w:World} {g:Nat} {o:Obj} (h:w.heap[g]? = some o):g < w.heap.size:=(Array.getElem?_eq_some_iff.1 h).1
theorem ah {w:World} {g:Nat} {t:TypeId} {cs:Array Value} (h:w.heap[g]? = some (.cells cs t (0,0))) (i:Nat):w.cell? ⟨g,i,none⟩ = cs[i]?:=cell_of_row w g i cs t (0,0) h
theorem aj {w:World} {g:Nat} {t:TypeId} {cs:Array Value} (h:w.heap[g]? = some (.cells cs t (0,0))) (i:Nat):w.frozen? ⟨g,i,none⟩ = false:=by simp [World.frozen?,h]
theorem cM {w w1:World} {g:Nat} {o:Obj} {row:Option Nat} (h:w.heap[g]? = some o) (hg:w.grownBy w1 row) (hne:some g≠row):w1.heap[g]? = some o:=(hg.block g (gV h) hne).trans h
def bu (w w':World) (g:Nat) (row:Option Nat):Prop:=w.heap.size≤w'.heap.size∧∀ i,i < w.heap.size→i≠g→some i≠row→w'.heap[i]? = w.heap[i]?
theorem bu.refl (w:World) (g:Nat) (row:Option Nat):bu w w g row:=⟨Nat.le_refl _,fun _ _ _ _=>rfl⟩
theorem bu.me {w w1:World} {row:Option Nat} (h:w.grownBy w1 row) (g:Nat):bu w w1 g row:=⟨h.size,fun i hi _ hr=>h.block i hi hr⟩
theorem bu.fz {w w1:World} (h:Below w.heap.size w w1) (g:Nat) (row:Option Nat):bu w w1 g row:=⟨h.size,fun i hi _ _=>h.block i hi⟩
theorem bu.o4 {w w1:World} {g:Nat} {row:Option Nat} (h:bu w w1 g row) (j:Nat) (u:Value):bu w (w1.setCell ⟨g,j,none⟩ u) g row :=
 ⟨by simpa [World.setCell] using h.1,fun i hi hg hr=>(Below.heap_setCell w1 ⟨g,j,none⟩ u i hg).trans (h.2 i hi hg hr)⟩
theorem bu.trans {w w1 y:World} {g:Nat} {row j:Option Nat} (h:bu w w1 g row) (k:bu w1 y g j) (hr:j = row∨∃ b,j = some b∧w.heap.size≤b):bu w y g row :=
 ⟨Nat.le_trans h.1 k.1,fun i hi hg hn=>by
  refine (k.2 i (Nat.lt_of_lt_of_le hi h.1) hg ?_).trans (h.2 i hi hg hn);rcases hr with rfl | ⟨b,rfl,hb⟩
  ·exact hn
  ·intro e
   injection e with e
   omega⟩
theorem bu.blk {w w1:World} {g g':Nat} {row:Option Nat} {o:Obj} (h:bu w w1 g row) (hb:w.heap[g']? = some o) (hg:g'≠g) (hr:some g'≠row):w1.heap[g']? = some o:=(h.2 g' (gV hb) hg hr).trans hb
theorem bu.own {w w1:World} {g:Nat} {row:Option Nat} {base:Nat} {e:TypeId} {size n:Nat} {v:Value} {xs:List Value} (h:bu w w1 g row) (ho:w.ownsRow base e size v n xs) (hg:v.ownBlock≠some g) (hr:v.ownBlock = none∨v.ownBlock≠row):w1.ownsRow base e size v n xs:=by
 obtain ⟨h1,h2⟩:=ho;refine ⟨h1,?_⟩;rcases h2 with h2 | ⟨b,cap,cur,rfl,hb,hh,r⟩
 ·exact .inl h2
 ·refine .inr ⟨b,cap,cur,rfl,hb,h.blk hh ?_ ?_,r⟩
  ·intro e
   exact hg (by rw [← e];rfl)
  ·rcases hr with hr | hr
   ·simp [Value.ownBlock] at hr
   ·exact hr
def Ev {α:Type} (g:Nat→Option α) (r:α):Prop:=∃ K,∀ k,K≤k→g k = some r
theorem Ev.of {α:Type} {g:Nat→Option α} {r:α} (hg:∀ k,fh (g k) (g (k+1))) {k:Nat} (h:g k = some r):Ev g r:=⟨k,fun _ hk=>kE hg hk h⟩
theorem Ev.now {α:Type} (r:α):Ev (fun _=>some r) r:=⟨0,fun _ _=>rfl⟩
theorem Ev.rounds {α:Type} {g:Nat→Option α} {r:α} (h:Ev g r):∃ k,g k = some r:=by
 obtain ⟨K,h⟩:=h;exact ⟨K,h K (Nat.le_refl _)⟩
theorem Ev.bind {α β:Type} {g:Nat→Option α} {f:Nat→α→Option β} {a:α} {r:β} (h:Ev g a) (k:Ev (fun n=>f n a) r):Ev (fun n=>(g n).bind (f n)) r:=by
 obtain ⟨K,h⟩:=h;obtain ⟨K',k⟩:=k;refine ⟨max K K',fun n hn=>?_⟩;have h1:=h n (by omega);have h2:=k n (by omega);simp only [h1,Option.bind_some];exact h2
theorem Ev.step {α:Type} {g f:Nat→Option α} {r:α} (h:∀ k,g (k+1) = f k) (k:Ev f r):Ev g r:=by
 obtain ⟨K,k⟩:=k;refine ⟨K+1,fun n hn=>?_⟩;obtain ⟨m,rfl⟩:∃ m,n = m+1:=⟨n - 1,by omega⟩
 rw [h];exact k m (by omega)
theorem Ev.congr {α:Type} {g f:Nat→Option α} {r:α} (h:∀ k,g k = f k) (k:Ev f r):Ev g r:=by
 obtain ⟨K,k⟩:=k;exact ⟨K,fun n hn=>(h n).trans (k n hn)⟩
section
variable {P:Program} {ops:Array Oper} {o:Oper} {a:Act} {Q:Exit→Act→World→Prop} {K:Act→World→Prop}
theorem iT {w0 W:World} (base:Nat) (hw:Region.wanted o (yielded ops a.tmps) = true) (s x:Operand) (t e:TypeId) (z:Value) (size bytes:Nat)
  (ho:o.op = .call { callee:=.builtin .append,args:=#[s,x],argTypes:=#[t,t] })
  (ht:P.underlying t = some (.slice e)) (hinfo:(P.info? e).map (fun i=>(i.zero,i.size,i.bytes)) = some (some z,size,bytes)) (hz:z.cells.size = size) (j:0 < size) (y:0 < bytes)
  (v:Value) (n:Nat) (xs ys:List Value) (hs:a.eval s = v) (hx:a.eval x = .slice (some ⟨W.heap.size,0,none⟩) 1 1) (hys:ys.length = size) (h1:∀ u∈ys,u.oneCell' = true)
  (HO:W.ownsRow base e size v n xs) (HB:Below base w0 W) (hbase:base≤W.heap.size) (hl:(n+1) * bytes≤140737488355328)
  (h:∀ v1 w1,w1.ownsRow base e size v1 (n+1) (xs ++ ys)→Below base w0 w1→W.grownBy w1 v.ownBlock→(v1.ownBlock = v.ownBlock∨∃ b,v1.ownBlock = some b∧W.heap.size≤b)→K (a.put o.dst v1) w1) :
  if Region.wanted o (yielded ops a.tmps) = true then Oper.wp P o a (W.alloc (.cells ys.toArray e)) K Q else K (a.put o.dst undef) (W.alloc (.cells ys.toArray e)):=by
 obtain ⟨i0,hi,hzz⟩:=Option.map_eq_some_iff.1 hinfo;simp only [Prod.mk.injEq] at hzz;obtain ⟨I,J,M⟩:=hzz;have hlen:n+1≤140737488355328:=Nat.le_trans (Nat.le_mul_of_pos_right _ y) hl;rw [if_pos hw];obtain ⟨v1,w1,hr,hown,hg,_,hat⟩:=run_append_own_at (P:=P) (W.alloc (.cells ys.toArray e)) base t o.type e i0 z size bytes ht hi I J M hz j v n xs (HO.alloc _) ⟨W.heap.size,0,none⟩ 1 1 ys (by rw [hys];simp)
  (by simpa using World.news_of_block (cs:=ys.toArray) (t:=e) (fr:=(0,0)) (heap_alloc_new W (.cells ys.toArray e))) h1 (by simp only [maxLen];omega) hl (by simp;omega)
 unfold Oper.wp execOp;simp only [ho,resolve,invoke,builtin,Sem.run_bind,Sem.run_pure,Result.andThen_ok,List.map_toArray,List.map_cons,List.map_nil,hs,hx,hr];refine h v1 w1 hown ((HB.alloc hbase _).grown hg (by simp;omega) (gx HO)) (World.grownBy.trans (World.grownBy_alloc W _ _) hg) ?_;rcases hat with hat | hat
 ·exact .inl hat
 ·exact .inr ⟨_,hat,by simp⟩
end
theorem mO {w:World} {base base':Nat} {e:TypeId} {size n:Nat} {v:Value} {xs:List Value} (h:w.ownsRow base e size v n xs) (hb:base'≤base):w.ownsRow base' e size v n xs:=by
 obtain ⟨h1,h2⟩:=h;refine ⟨h1,?_⟩;rcases h2 with h2 | ⟨g,cap,cur,rfl,hg,r⟩
 ·exact .inl h2
 ·exact .inr ⟨g,cap,cur,rfl,Nat.le_trans hb hg,r⟩
section
variable {α:Type} {enc:α→Value} {d:α}
def gy (enc:α→Value) (xs:List α):List Value:=xs.map enc
def qu (d:α) (xs:List α) (i:Int):α:=xs.getD i.toNat d
theorem js (xs:List α):(gy enc xs).length = xs.length:=by simp [gy]
theorem oO (xs:List α) (j:Nat) (h:j < xs.length):(gy enc xs)[j]? = some (enc (xs.getD j d)):=by
 simp [gy,List.getElem?_eq_getElem h,List.getD_eq_getElem?_getD]
def dK (enc:α→Value) (d:α) (w:World) (A:Option Addr) (n:Nat) (xs:List α):Prop :=
 xs.length = n∧n≤9223372036854775807∧(0 < n→∃ ad,A = some ad∧∀ j,j < n→w.cell? (ad.add j) = some (enc (xs.getD j d)))
theorem dK.at_ {w:World} {A:Option Addr} {n:Nat} {xs:List α} (h:dK enc d w A n xs) (i:Int) (j:0≤i) (h1:i < n):∃ ad,A = some ad∧w.cell? (ad.add i.toNat) = some (enc (qu d xs i)):=by
 obtain ⟨ad,e,hc⟩:=h.2.2 (by omega);exact ⟨ad,e,hc _ (by omega)⟩
theorem dK.below {w w1:World} {A:Option Addr} {n:Nat} {xs:List α} (h:dK enc d w A n xs) (hb:Below w.heap.size w w1):dK enc d w1 A n xs :=
 ⟨h.1,h.2.1,fun hn=>by
  obtain ⟨ad,e,hc⟩:=h.2.2 hn;exact ⟨ad,e,fun j hj=>gr hb (hc j hj)⟩⟩
theorem dK.fS {w:World} {A:Option Addr} {n:Nat} {xs:List α} (h:dK enc d w A n xs) (i:Nat) (hi:i≤n):dK enc d w A i (xs.take i):=by
 refine ⟨by rw [List.length_take,h.1];omega,by have:=h.2.1;omega,fun hp=>?_⟩;obtain ⟨ad,e,hc⟩:=h.2.2 (by omega);refine ⟨ad,e,fun j hj=>?_⟩;rw [hc j (by omega)];simp [List.getD_eq_getElem?_getD,hj]
theorem o5 {W:World} {base g n cap:Nat} {e:TypeId} {xs:List α} (h:W.ownsRow base e 1 (.slice (some ⟨g,0,none⟩) n cap) n (gy enc xs)) (i:Int) (j:0≤i) (h1:i < n) :
  W.cell? ⟨g,i.toNat,none⟩ = some (enc (qu d xs i))∧W.frozen? ⟨g,i.toNat,none⟩ = false:=by
 have hl:xs.length = n:=by have:=h.1;simp [gy] at this;exact this
 constructor
 ·have hc:=h.cells (g:=g) rfl i.toNat _ (oO (d:=d) xs i.toNat (by omega))
  rwa [add_plain] at hc
 ·rcases h.2 with ⟨h',_⟩ | ⟨g',cap',cur,h',_,hh,_⟩
  ·cases h'
  ·have:g = g':=by injection h' with h';injection h' with h';injection h' with h'
   subst this;simp [World.frozen?,hh]
theorem l8 {W:World} {base g n cap:Nat} {e:TypeId} {xs:List α} (h:W.ownsRow base e 1 (.slice (some ⟨g,0,none⟩) n cap) n (gy enc xs)) (i:Int) (x:α) :
  (W.setCell ⟨g,i.toNat,none⟩ (enc x)).ownsRow base e 1 (.slice (some ⟨g,0,none⟩) n cap) n (gy enc (xs.set i.toNat x))∧W.grownBy (W.setCell ⟨g,i.toNat,none⟩ (enc x)) (some g):=by
 have hs:=h.stored i.toNat (enc x);have he:(gy enc xs).set i.toNat (enc x) = gy enc (xs.set i.toNat x):=by simp [gy,List.map_set]
 rwa [he] at hs
end
theorem ja {w:World} {g:Nat} {o:Obj} (h:w.heap[g]? = some o) (o':Obj):(w.alloc o').heap[g]? = some o:=(Below.heap_alloc w o' g (gV h)).trans h
theorem cW {w:World} {g:Nat} {o:Obj} (h:w.heap[g]? = some o):w.drew.heap[g]? = some o:=h
theorem o6 {w:World} {g:Nat} {o:Obj} (h:w.heap[g]? = some o) (n:Nat):(w.drewN n).heap[g]? = some o:=h
theorem aN {w w1:World} {g:Nat} {o:Obj} (h:w.heap[g]? = some o) (hb:Below w.heap.size w w1):w1.heap[g]? = some o:=(hb.block g (gV h)).trans h
theorem nw (w:World) (o:Obj):(w.alloc o).heap[w.heap.size]? = some o:=heap_alloc_new w o
section
variable {P:Program}
theorem e7 {fn:Func} {p u:Tmp} {ty:TypeId} (h:fn.results = #[.cell p ty,.tmp u]) (tmps:Array Value) (w:World) (g:Nat) (t:TypeId) (cs:Array Value) (fr:Nat×Nat) (d:TypeDesc)
  (hp:tmps.getD p undef = .pointer (some ⟨g,0,none⟩)) (hg:w.heap[g]? = some (.cells cs t fr))
  (hu:P.underlying ty = some d) (hd:(match d with | .struct _ | .array _ _=>true | _=>false) = true) (hi:(P.info? ty).map (·.size) = some cs.size) :
  (results fn tmps).run P w = .ok (.tuple #[.agg cs,tmps.getD u undef]) w:=by
 have hp':tmps[p]?.getD undef = .pointer (some ⟨g,0,none⟩):=by simpa using hp
 simp [results,h,hp',asAddr,run_loadVar_row w g t ty cs fr d hg hu hd hi]
end
theorem rD {w:World} {base n m c size:Nat} {e:TypeId} {A:Option Addr} {xs:List Value} (h:w.ownsRow base e size (.slice A m c) n xs):m≤c:=by
 rcases h.2 with ⟨he,_⟩ | ⟨g,cap,cur,he,_,_,hnc,_⟩
 ·injection he with _ h2 h3
  omega
 ·injection he with _ h2 h3
  omega
def dP {α:Type} (R:α→List Value→Prop) (e:TypeId) (size:Nat) (w:World) (base:Nat) (v:Value) (ps:List α):Prop :=
 ∃ inner,w.ownsRow base e size v ps.length inner∧cm R size ps inner
section
variable {α:Type} {R R':α→List Value→Prop} {e:TypeId} {size:Nat} {w w1:World} {base:Nat} {v:Value} {ps:List α}
theorem dP.none_ (R:α→List Value→Prop) (e:TypeId) (size:Nat) (w:World) (base:Nat):dP R e size w base (.slice none 0 0) []:=⟨[],qq _ _ _ _,cm.none _ _⟩
theorem dP.gE (h:dP R e size w base v ps) (hR:∀ p c,R p c→R' p c):dP R' e size w base v ps:=by
 obtain ⟨inner,ho,hr⟩:=h;exact ⟨inner,ho,hr.gE hR⟩
theorem dP.below (h:dP R e size w base v ps) (hb:Below w.heap.size w w1):dP R e size w1 base v ps:=by
 obtain ⟨inner,ho,hr⟩:=h;exact ⟨inner,l7 ho hb,hr⟩
theorem dP.o4 (h:dP R e size w base v ps) {g:Nat} {t:TypeId} {cells:Array Value} (hb:w.heap[g]? = some (.cells cells t (0,0))) (ht:e≠t) (j:Nat) (u:Value):dP R e size (w.setCell ⟨g,j,none⟩ u) base v ps:=by
 obtain ⟨inner,ho,hr⟩:=h;exact ⟨inner,mc ho (mN ho hb ht) u,hr⟩
theorem dP.keep (h:dP R e size w base v ps) {g:Nat} {t:TypeId} {cells:Array Value} (hb:w.heap[g]? = some (.cells cells t (0,0))) (ht:e≠t) (hk:bu w w1 g none):dP R e size w1 base v ps:=by
 obtain ⟨inner,ho,hr⟩:=h;exact ⟨inner,hk.own ho (Ne.symm (mN ho hb ht)) (by cases v.ownBlock <;> simp),hr⟩
theorem dP.reads (h:dP R e size w base v ps):∃ A c,v = .slice A ps.length c∧ps.length≤c∧dW R size w A ps.length ps:=by
 obtain ⟨inner,ho,hr⟩:=h;obtain ⟨A,c,rfl,hrow⟩:=ku ho hr rfl;exact ⟨A,c,rfl,rD ho,hrow⟩
theorem dP.oP (h:dP R e size w base v ps) {g:Nat} {t:TypeId} {cells:Array Value} (hb:w.heap[g]? = some (.cells cells t (0,0))) (ht:e≠t):some g≠v.ownBlock:=by
 obtain ⟨inner,ho,hr⟩:=h;exact mN ho hb ht
end
section
variable {P:Program} {ops:Array Oper} {rest:List Oper} {o:Oper} {a:Act} {Q:Exit→Act→World→Prop} {α:Type} {R:α→List Value→Prop}
theorem dP.append {w0 W:World} (base:Nat) (hgd:o.guard = none) (s x:Operand) (t e:TypeId) (z:Value) (size bytes:Nat)
  (ho:o.op = .call { callee:=.builtin .append,args:=#[s,x],argTypes:=#[t,t] })
  (ht:P.underlying t = some (.slice e)) (hinfo:(P.info? e).map (fun i=>(i.zero,i.size,i.bytes)) = some (some z,size,bytes)) (hz:z.cells.size = size) (I:0 < size) (J:0 < bytes)
  (v:Value) (ps:List α) (p:α) (cs:List Value) (hs:a.eval s = v) (hx:a.eval x = .slice (some ⟨W.heap.size,0,none⟩) 1 1) (hp:R p cs) (hcs:cs.length = size) (h1:∀ u∈cs,u.oneCell' = true)
  (HO:dP R e size W base v ps) (HB:Below base w0 W) (hbase:base≤W.heap.size) (hl:(ps.length+1) * bytes≤140737488355328)
  (h:∀ v1 w1,dP R e size w1 base v1 (ps ++ [p])→Below base w0 w1→W.grownBy w1 v.ownBlock→(v1.ownBlock = v.ownBlock∨∃ b,v1.ownBlock = some b∧W.heap.size≤b)→wpList P ops Q rest (a.put o.dst v1) w1) :
  wpList P ops Q (o :: rest) a (W.alloc (.cells cs.toArray e)):=by
 obtain ⟨inner,hown,hr⟩:=HO;refine fT base hgd s x t e z size bytes ho ht hinfo hz I J v ps.length inner cs hs hx hcs h1 hown HB hbase hl ?_;intro v1 w1 j M U y;exact h v1 w1 ⟨inner ++ cs,by rw [List.length_append,List.length_singleton];exact j,hr.snoc hp hcs⟩ M U y
end
theorem dW.oQ {α:Type} {R:α→List Value→Prop} {size:Nat} {w:World} {ad:Addr} {n:Nat} {ps:List α} (h:dW R size w (some ad) n ps) :
  ∃ inner,cm R size ps inner∧∀ j u,inner[j]? = some u→w.cell? (ad.add j) = some u:=by
 have key:∀ m,m≤ps.length→∃ inner,cm R size (ps.take m) inner∧∀ j u,inner[j]? = some u→w.cell? (ad.add j) = some u:=by
  intro m;induction m with
  | zero=>exact fun _=>⟨[],cm.none _ _,fun j u hu=>by simp at hu⟩
  | succ m ih =>
   intro hm;obtain ⟨inner,hr,hc⟩:=ih (by omega);obtain ⟨ad',he,hcell⟩:=h.2.2 (by have:=h.1;omega);injection he with he
   subst he;obtain ⟨c,hcl,hp,hcc⟩:=hcell m _ (List.getElem?_eq_getElem (show m < ps.length by omega));refine ⟨inner ++ c,?_,fun j u hu=>?_⟩
   ·rw [List.take_succ_eq_append_getElem (show m < ps.length by omega)]
    exact hr.snoc hp hcl
   ·have hil:inner.length = m * size:=by rw [hr.1,List.length_take,Nat.min_eq_left (by omega)]
    rcases Nat.lt_or_ge j inner.length with hj | hj
    ·rw [List.getElem?_append_left hj] at hu
     exact hc j u hu
    ·rw [List.getElem?_append_right hj] at hu
     have:=hcc (j - inner.length) u hu;rwa [hil,Nat.add_sub_cancel' (by omega)] at this
 obtain ⟨inner,hr,hc⟩:=key ps.length (Nat.le_refl _);rw [List.take_length] at hr;exact ⟨inner,hr,hc⟩
structure Kd (α:Type) where
 sz:Nat
 E:List Nat
 K:World→α→List Value→Prop
 M:World→Nat→(Nat→Prop)→α→List Value→Prop
 K_len:∀ {w x cs},K w x cs→cs.length = sz
 K_one:∀ {w x cs},K w x cs→∀ u∈cs,u.oneCell' = true
 K_below:∀ {w w1:World} {x cs},Below w.heap.size w w1→K w x cs→K w1 x cs
 K_of_M:∀ {w base ok x cs},M w base ok x cs→K w x cs
 M_mono:∀ {w base ok ok' x cs},(∀ k,ok k→ok' k)→M w base ok x cs→M w base ok' x cs
 M_bound:∀ {w:World} {base ok x cs},M w base ok x cs→M w base (fun k=>ok k∧base≤k∧k < w.heap.size∧∃ q,q∈E∧∃ cells,w.heap[k]? = some (.cells cells q (0,0))) x cs
 M_move:∀ {w w1:World} {base ok x cs},(∀ k,ok k→w1.heap[k]? = w.heap[k]?)→M w base ok x cs→M w1 base ok x cs
 M_lower:∀ {w base base' ok x cs},base'≤base→M w base ok x cs→M w base' ok x cs
theorem oR {w w1:World} {base:Nat} {e:TypeId} {size n:Nat} {v:Value} {xs:List Value} (h:w.ownsRow base e size v n xs) (hm:∀ k,v.ownBlock = some k→w1.heap[k]? = w.heap[k]?):w1.ownsRow base e size v n xs:=by
 obtain ⟨h1,h2⟩:=h;refine ⟨h1,?_⟩;rcases h2 with h2 | ⟨g,cap,cur,rfl,hg,hh,r⟩
 ·exact .inl h2
 ·exact .inr ⟨g,cap,cur,rfl,hg,(hm g (by simp [Value.ownBlock])).trans hh,r⟩
theorem ij {w:World} {base:Nat} {e:TypeId} {size n:Nat} {v:Value} {xs:List Value} (h:w.ownsRow base e size v n xs) (k:Nat) (hk:v.ownBlock = some k):∃ cells,w.heap[k]? = some (.cells cells e (0,0)):=by
 rcases h.2 with ⟨rfl,_⟩ | ⟨g,cap,cur,rfl,hg,hh,r⟩
 ·simp [Value.ownBlock] at hk
 ·have:g = k:=by simpa [Value.ownBlock] using hk
  subst this;exact ⟨cur,hh⟩
namespace Kd
def C {α:Type} (d:Kd α) (w:World) (A:Option Addr) (n:Nat) (xs:List α):Prop:=dW (d.K w) d.sz w A n xs
def R {α:Type} (d:Kd α) (e:Nat) (w:World) (base:Nat) (ok:Nat→Prop) (v:Value) (xs:List α):Prop :=
 (∀ k,v.ownBlock = some k→ok k)∧dP (d.M w base (fun k=>ok k∧some k≠v.ownBlock)) e d.sz w base v xs
section
variable {α:Type} {d:Kd α} {e:Nat} {w w1:World} {base:Nat} {ok ok':Nat→Prop} {v:Value} {xs:List α}
theorem aJ {A:Option Addr} {n:Nat} (h:d.C w A n xs) (hb:Below w.heap.size w w1):d.C w1 A n xs:=dW.gE h hb (fun _ _ hp=>d.K_below hb hp)
theorem jt (d:Kd α) (e:Nat) (w:World) (base:Nat) (ok:Nat→Prop):d.R e w base ok (.slice none 0 0) []:=⟨fun k hk=>by simp [Value.ownBlock] at hk,dP.none_ _ _ _ _ _⟩
theorem aX (h:d.R e w base ok v xs) (hok:∀ k,ok k→ok' k):d.R e w base ok' v xs:=⟨fun k hk=>hok k (h.1 k hk),h.2.gE (fun _ _ hp=>d.M_mono (fun k hk=>⟨hok k hk.1,hk.2⟩) hp)⟩
theorem fA (h:d.R e w base ok v xs):d.R e w base (fun k=>ok k∧base≤k∧k < w.heap.size∧∃ q,q∈e :: d.E∧∃ cells,w.heap[k]? = some (.cells cells q (0,0))) v xs:=by
 obtain ⟨j,inner,ho,hr⟩:=h;refine ⟨fun k hk=>?_,inner,ho,hr.gE (fun _ _ hp=>d.M_mono (fun k hk=>?_) (d.M_bound hp))⟩
 ·obtain ⟨cells,hc⟩:=ij ho k hk
  exact ⟨j k hk,gx ho k hk,oN ho k hk,e,List.mem_cons_self,cells,hc⟩
 ·obtain ⟨⟨h1,h2⟩,h3,h4,q,hq,hc⟩:=hk
  exact ⟨⟨h1,h3,h4,q,List.mem_cons_of_mem _ hq,hc⟩,h2⟩
theorem jb (h:d.R e w base ok v xs) (hm:∀ k,ok k→w1.heap[k]? = w.heap[k]?):d.R e w1 base ok v xs:=by
 obtain ⟨j,inner,ho,hr⟩:=h;exact ⟨j,inner,oR ho (fun k hk=>hm k (j k hk)),hr.gE (fun _ _ hp=>d.M_move (fun k hk=>hm k hk.1) hp)⟩
theorem bE {base':Nat} (h:d.R e w base ok v xs) (hb:base'≤base):d.R e w base' ok v xs:=by
 obtain ⟨j,inner,ho,hr⟩:=h;exact ⟨j,inner,mO ho hb,hr.gE (fun _ _ hp=>d.M_lower hb hp)⟩
theorem jR (h:d.R e w base ok v xs) (hm:∀ k,ok k→k < w.heap.size→w1.heap[k]? = w.heap[k]?):d.R e w1 base ok v xs :=
 aX (jb (fA h) (fun k hk=>hm k hk.1 hk.2.2.1)) (fun _ hk=>hk.1)
theorem oS {x:α} {cs:List Value} (h:d.M w base ok x cs) (hm:∀ k,ok k→k < w.heap.size→w1.heap[k]? = w.heap[k]?):d.M w1 base ok x cs :=
 d.M_mono (fun _ hk=>hk.1) (d.M_move (fun k hk=>hm k hk.1 hk.2.2.1) (d.M_bound h))
theorem cN (h:d.R e w base ok v xs) (hb:Below w.heap.size w w1):d.R e w1 base ok v xs:=jR h (fun k _ hk=>hb.block k hk)
theorem nx {x:α} {cs:List Value} (h:d.M w base ok x cs) (hb:Below w.heap.size w w1):d.M w1 base ok x cs:=oS h (fun k _ hk=>hb.block k hk)
theorem bF (h:d.R e w base ok v xs) {p:Addr} (hok:∀ k,ok k→k≠p.block) (u:Value):d.R e (w.setCell p u) base ok v xs:=jR h (fun k ho _=>Below.heap_setCell w p u k (hok k ho))
theorem oT (h:d.R e w base ok v xs) {g:Nat} (hk:bu w w1 g none) (hok:∀ k,ok k→k≠g):d.R e w1 base ok v xs:=jR h (fun k ho hlt=>hk.2 k hlt (hok k ho) (by simp))
theorem bf (h:d.R e w base ok v xs) {g t:Nat} {cells:Array Value} (hb:w.heap[g]? = some (.cells cells t (0,0))) (ht:∀ q,q∈e :: d.E→q≠t):d.R e w base (fun k=>ok k∧k≠g) v xs :=
 aX (fA h) (fun k hk=>⟨hk.1,by
  obtain ⟨_,_,_,q,hq,cells',hc⟩:=hk;rintro rfl
  rw [hc] at hb;injection hb with hb
  injection hb with _ hb
  exact ht q hq hb⟩)
theorem l9 (h:d.R e w base ok v xs):∃ A c,v = .slice A xs.length c∧xs.length≤c∧d.C w A xs.length xs:=by
 obtain ⟨A,c,he,hl,hr⟩:=dP.reads h.2;exact ⟨A,c,he,hl,hr.gE (Below.refl _ _) (fun _ _ hp=>d.K_of_M hp)⟩
theorem bG (h:d.R e w base ok v xs):∃ A c,v = .slice A xs.length c:=by
 obtain ⟨A,c,he,_⟩:=l9 h;exact ⟨A,c,he⟩
theorem ny (h:d.R e w base ok v xs):∃ inner,w.ownsRow base e d.sz v xs.length inner:=by
 obtain ⟨_,inner,ho,_⟩:=h;exact ⟨inner,ho⟩
theorem iD (h:d.R e w base ok v xs) {g t:Nat} {cells:Array Value} (hb:w.heap[g]? = some (.cells cells t (0,0))) (ht:e≠t):some g≠v.ownBlock:=dP.oP h.2 hb ht
end
def scalar {α:Type} (enc:α→Value) (h1:∀ x,(enc x).oneCell' = true):Kd α where
 sz:=1
 E:=[]
 K:=fun _ x cs=>cs = [enc x]
 M:=fun _ _ _ x cs=>cs = [enc x]
 K_len:=fun h=>by rw [h];rfl
 K_one:=fun h u hu=>by
  rw [h] at hu;rw [List.mem_singleton.1 hu];exact h1 _
 K_below:=fun _ h=>h
 K_of_M:=fun h=>h
 M_mono:=fun _ h=>h
 M_bound:=fun h=>h
 M_move:=fun _ h=>h
 M_lower:=fun _ h=>h
def int (k:IntKind):Kd Int:=scalar (Value.int k) (fun _=>rfl)
def bool:Kd Bool:=scalar Value.bool (fun _=>rfl)
def slice {α:Type} (e:Nat) (d:Kd α):Kd (List α) where
 sz:=1
 E:=e :: d.E
 K:=fun w xs cs=>∃ A c,cs = [.slice A xs.length c]∧xs.length≤c∧d.C w A xs.length xs
 M:=fun w base ok xs cs=>∃ v,cs = [v]∧d.R e w base ok v xs
 K_len:=by
  rintro w x cs ⟨A,c,rfl,_⟩
  rfl
 K_one:=by
  rintro w x cs ⟨A,c,rfl,_⟩ u hu
  rw [List.mem_singleton.1 hu];rfl
 K_below:=by
  rintro w w1 x cs hb ⟨A,c,rfl,hl,hr⟩
  exact ⟨A,c,rfl,hl,aJ hr hb⟩
 K_of_M:=by
  rintro w base ok x cs ⟨v,rfl,h⟩
  obtain ⟨A,c,rfl,hl,hr⟩:=l9 h;exact ⟨A,c,rfl,hl,hr⟩
 M_mono:=by
  rintro w base ok ok' x cs hok ⟨v,rfl,h⟩
  exact ⟨v,rfl,aX h hok⟩
 M_bound:=by
  rintro w base ok x cs ⟨v,rfl,h⟩
  exact ⟨v,rfl,fA h⟩
 M_move:=by
  rintro w w1 base ok x cs hm ⟨v,rfl,h⟩
  exact ⟨v,rfl,jb h hm⟩
 M_lower:=by
  rintro w base base' ok x cs hb ⟨v,rfl,h⟩
  exact ⟨v,rfl,bE h hb⟩
def pair {α β:Type} (a:Kd α) (b:Kd β):Kd (α×β) where
 sz:=a.sz+b.sz
 E:=a.E ++ b.E
 K:=fun w x cs=>∃ j c1,cs = j ++ c1∧a.K w x.1 j∧b.K w x.2 c1
 M:=fun w base ok x cs=>∃ j c1,cs = j ++ c1∧a.M w base ok x.1 j∧b.M w base ok x.2 c1
 K_len:=by
  rintro w x cs ⟨j,c1,rfl,y,h1⟩
  rw [List.length_append,a.K_len y,b.K_len h1]
 K_one:=by
  rintro w x cs ⟨j,c1,rfl,y,h1⟩ u hu
  rcases List.mem_append.1 hu with hu | hu
  ·exact a.K_one y u hu
  ·exact b.K_one h1 u hu
 K_below:=by
  rintro w w1 x cs hb ⟨j,c1,rfl,y,h1⟩
  exact ⟨j,c1,rfl,a.K_below hb y,b.K_below hb h1⟩
 K_of_M:=by
  rintro w base ok x cs ⟨j,c1,rfl,y,h1⟩
  exact ⟨j,c1,rfl,a.K_of_M y,b.K_of_M h1⟩
 M_mono:=by
  rintro w base ok ok' x cs hok ⟨j,c1,rfl,y,h1⟩
  exact ⟨j,c1,rfl,a.M_mono hok y,b.M_mono hok h1⟩
 M_bound:=by
  rintro w base ok x cs ⟨j,c1,rfl,y,h1⟩
  refine ⟨j,c1,rfl,a.M_mono ?_ (a.M_bound y),b.M_mono ?_ (b.M_bound h1)⟩
  ·rintro k ⟨h2,h3,h4,q,hq,hc⟩
   exact ⟨h2,h3,h4,q,List.mem_append_left _ hq,hc⟩
  ·rintro k ⟨h2,h3,h4,q,hq,hc⟩
   exact ⟨h2,h3,h4,q,List.mem_append_right _ hq,hc⟩
 M_move:=by
  rintro w w1 base ok x cs hm ⟨j,c1,rfl,y,h1⟩
  exact ⟨j,c1,rfl,a.M_move hm y,b.M_move hm h1⟩
 M_lower:=by
  rintro w base base' ok x cs hb ⟨j,c1,rfl,y,h1⟩
  exact ⟨j,c1,rfl,a.M_lower hb y,b.M_lower hb h1⟩
def tc {α β:Type} (d:Kd α) (f:β→α):Kd β where
 sz:=d.sz
 E:=d.E
 K:=fun w x cs=>d.K w (f x) cs
 M:=fun w base ok x cs=>d.M w base ok (f x) cs
 K_len:=d.K_len
 K_one:=d.K_one
 K_below:=d.K_below
 K_of_M:=d.K_of_M
 M_mono:=d.M_mono
 M_bound:=d.M_bound
 M_move:=d.M_move
 M_lower:=d.M_lower
def bot {α:Type} (sz:Nat) (E:List Nat):Kd α where
 sz:=sz
 E:=E
 K:=fun _ _ _=>False
 M:=fun _ _ _ _ _=>False
 K_len:=fun h=>h.elim
 K_one:=fun h=>h.elim
 K_below:=fun _ h=>h
 K_of_M:=fun h=>h
 M_mono:=fun _ h=>h
 M_bound:=fun h=>h
 M_move:=fun _ h=>h
 M_lower:=fun _ h=>h
def upto {α:Type} (F:Kd α→Kd α) (sz:Nat) (E:List Nat):Nat→Kd α
 | 0=>bot sz E
 | n+1=>F (upto F sz E n)
theorem nA {α:Type} {d:Kd α} {w:World} {A:Option Addr} {n:Nat} {xs:List α} (h:d.C w A n xs) (z:α) (i:Int) (y:0≤i) (h1:i < n) :
  ∃ ad c,A = some ad∧c.length = d.sz∧d.K w (xs.getD i.toNat z) c∧∀ j u,c[j]? = some u→w.cell? (ad.add (i.toNat * d.sz+j)) = some u:=dW.ta h z i y h1
theorem jS {α:Type} {d:Kd α} {e base:Nat} {ok okp:Nat→Prop} {W w1:World} {v v1:Value} {xs:List α} {p:α} {inner cs:List Value} (y:∀ k,v.ownBlock = some k→ok k) (hr:cm (d.M W base (fun k=>ok k∧some k≠v.ownBlock)) d.sz xs inner) (hp:d.M W base okp p cs) (j:∀ k,okp k→ok k∧some k≠v.ownBlock) (hfresh:∀ k,W.heap.size≤k→ok k)
  (hown:w1.ownsRow base e d.sz v1 (xs.length+1) (inner ++ cs)) (hg:W.grownBy w1 v.ownBlock) (hat:v1.ownBlock = v.ownBlock∨∃ b,v1.ownBlock = some b∧W.heap.size≤b):d.R e w1 base ok v1 (xs ++ [p]):=by
 have hne:∀ k,some k≠v.ownBlock→k < W.heap.size→some k≠v1.ownBlock:=by
  intro k hk hlt;rcases hat with hat | ⟨b,hb,hle⟩
  ·rw [hat];exact hk
  ·rw [hb]
   intro he;injection he with he
   omega
 have step:∀ {q:α} {c:List Value} {o:Nat→Prop},d.M W base o q c→(∀ k,o k→ok k∧some k≠v.ownBlock)→d.M w1 base (fun k=>ok k∧some k≠v1.ownBlock) q c:=by
  intro q c o hq ho;have h1:=d.M_move (w1:=w1) (fun k hk=>hg.block k hk.2.2.1 (ho k hk.1).2) (d.M_bound hq);exact d.M_mono (fun k hk=>⟨(ho k hk.1).1,hne k (ho k hk.1).2 hk.2.2.1⟩) h1
 refine ⟨fun k hk=>?_,inner ++ cs,by rw [List.length_append,List.length_singleton];exact hown,?_⟩
 ·rcases hat with hat | ⟨b,hb,hle⟩
  ·exact y k (hat ▸ hk)
  ·rw [hb] at hk
   injection hk with hk
   exact hfresh k (by omega)
 ·exact (hr.gE (fun _ _ hq=>step hq (fun _ hk=>hk))).snoc (step hp j) (d.K_len (d.K_of_M hp))
section
variable {P:Program} {ops:Array Oper} {rest:List Oper} {o:Oper} {a:Act} {Q:Exit→Act→World→Prop} {α:Type}
theorem fB (d:Kd α) {w0 W:World} (base:Nat) (hgd:o.guard = none) (s x:Operand) (t e:TypeId) (z:Value) (bytes:Nat)
  (ho:o.op = .call { callee:=.builtin .append,args:=#[s,x],argTypes:=#[t,t] })
  (ht:P.underlying t = some (.slice e)) (hinfo:(P.info? e).map (fun i=>(i.zero,i.size,i.bytes)) = some (some z,d.sz,bytes)) (hz:z.cells.size = d.sz) (U:0 < d.sz) (X:0 < bytes)
  (v:Value) (xs:List α) (p:α) (cs:List Value) (ok okp:Nat→Prop) (hs:a.eval s = v) (hx:a.eval x = .slice (some ⟨W.heap.size,0,none⟩) 1 1) (hp:d.M W base okp p cs) (I:∀ k,okp k→ok k∧some k≠v.ownBlock) (hfresh:∀ k,W.heap.size≤k→ok k)
  (HO:d.R e W base ok v xs) (HB:Below base w0 W) (hbase:base≤W.heap.size) (hl:(xs.length+1) * bytes≤140737488355328)
  (h:∀ v1 w1,d.R e w1 base ok v1 (xs ++ [p])→Below base w0 w1→W.grownBy w1 v.ownBlock→(v1.ownBlock = v.ownBlock∨∃ b,v1.ownBlock = some b∧W.heap.size≤b)→wpList P ops Q rest (a.put o.dst v1) w1) :
  wpList P ops Q (o :: rest) a (W.alloc (.cells cs.toArray e)):=by
 obtain ⟨h0,inner,hown,hr⟩:=HO;refine fT base hgd s x t e z d.sz bytes ho ht hinfo hz U X v xs.length inner cs hs hx (d.K_len (d.K_of_M hp)) (d.K_one (d.K_of_M hp)) hown HB hbase hl ?_;intro v1 w1 y Y J j;exact h v1 w1 (jS h0 hr hp I hfresh y J j) Y J j
end
section
variable {P:Program} {ops:Array Oper} {o:Oper} {a:Act} {Q:Exit→Act→World→Prop} {Kc:Act→World→Prop} {α:Type}
theorem gu (d:Kd α) {w0 W:World} (base:Nat) (hw:Region.wanted o (yielded ops a.tmps) = true) (s x:Operand) (t e:TypeId) (z:Value) (bytes:Nat)
  (ho:o.op = .call { callee:=.builtin .append,args:=#[s,x],argTypes:=#[t,t] })
  (ht:P.underlying t = some (.slice e)) (hinfo:(P.info? e).map (fun i=>(i.zero,i.size,i.bytes)) = some (some z,d.sz,bytes)) (hz:z.cells.size = d.sz) (U:0 < d.sz) (X:0 < bytes)
  (v:Value) (xs:List α) (p:α) (cs:List Value) (ok okp:Nat→Prop) (hs:a.eval s = v) (hx:a.eval x = .slice (some ⟨W.heap.size,0,none⟩) 1 1) (hp:d.M W base okp p cs) (I:∀ k,okp k→ok k∧some k≠v.ownBlock) (hfresh:∀ k,W.heap.size≤k→ok k)
  (HO:d.R e W base ok v xs) (HB:Below base w0 W) (hbase:base≤W.heap.size) (hl:(xs.length+1) * bytes≤140737488355328)
  (h:∀ v1 w1,d.R e w1 base ok v1 (xs ++ [p])→Below base w0 w1→W.grownBy w1 v.ownBlock→(v1.ownBlock = v.ownBlock∨∃ b,v1.ownBlock = some b∧W.heap.size≤b)→Kc (a.put o.dst v1) w1) :
  if Region.wanted o (yielded ops a.tmps) = true then Oper.wp P o a (W.alloc (.cells cs.toArray e)) Kc Q else Kc (a.put o.dst undef) (W.alloc (.cells cs.toArray e)):=by
 obtain ⟨h0,inner,hown,hr⟩:=HO;refine iT base hw s x t e z d.sz bytes ho ht hinfo hz U X v xs.length inner cs hs hx (d.K_len (d.K_of_M hp)) (d.K_one (d.K_of_M hp)) hown HB hbase hl ?_;intro v1 w1 y Y J j;exact h v1 w1 (jS h0 hr hp I hfresh y J j) Y J j
end
theorem mg {α:Type} {enc:α→Value} (xs:List α):cm (fun (x:α) (cs:List Value)=>cs = [enc x]) 1 xs (gy enc xs):=by
 refine ⟨by simp [gy],fun j p hj=>?_⟩;obtain ⟨hl,hp⟩:=List.getElem?_eq_some_iff.1 hj;have hl':j < (gy enc xs).length:=by rw [js];exact hl
 rw [Nat.mul_one,List.drop_eq_getElem_cons hl'];simp [gy,hp]
theorem jT {α:Type} {enc:α→Value} {h1:∀ x,(enc x).oneCell' = true} {e:Nat} {w:World} {base:Nat} {ok:Nat→Prop} {v:Value} {xs:List α} (ho:w.ownsRow base e 1 v xs.length (gy enc xs)) (hok:∀ k,v.ownBlock = some k→ok k):(scalar enc h1).R e w base ok v xs:=⟨hok,gy enc xs,ho,mg xs⟩
theorem iU {α:Type} {enc:α→Value} {h1:∀ x,(enc x).oneCell' = true} {e:Nat} {w:World} {base:Nat} {ok:Nat→Prop} {v:Value} {xs:List α} (h:(scalar enc h1).R e w base ok v xs):w.ownsRow base e 1 v xs.length (gy enc xs):=by
 obtain ⟨_,inner,ho,hr⟩:=h;have:inner = gy enc xs:=by
  apply List.ext_getElem?
  intro j;rcases Nat.lt_or_ge j xs.length with hj | hj
  ·have h2:=hr.2 j _ (List.getElem?_eq_getElem hj)
   have hl:j < inner.length:=by have:=hr.1;simp [scalar] at this;omega
   have h3:(inner.drop (j * 1)).take 1 = [enc xs[j]]:=h2;rw [Nat.mul_one,List.drop_eq_getElem_cons hl] at h3;have h4:inner[j] = enc xs[j]:=by
    have h5:=congrArg List.head? h3;rw [List.take_succ_cons] at h5;exact Option.some.inj h5
   rw [List.getElem?_eq_getElem hl,h4];simp [gy,List.getElem?_eq_getElem hj]
  ·have h3:inner.length = xs.length:=by have:=hr.1;simp [scalar] at this;omega
   rw [List.getElem?_eq_none (by omega),List.getElem?_eq_none (by rw [js];omega)]
 rw [← this];exact ho
theorem mP {α:Type} {enc:α→Value} {d:α} {h1:∀ x,(enc x).oneCell' = true} {w:World} {A:Option Addr} {n:Nat} {xs:List α} (h:dK enc d w A n xs):(scalar enc h1).C w A n xs:=by
 refine ⟨h.1,h.2.1,fun hn=>?_⟩;obtain ⟨ad,e,hc⟩:=h.2.2 hn;refine ⟨ad,e,fun j p hj=>⟨[enc p],rfl,rfl,fun i u hu=>?_⟩⟩;obtain ⟨hl,hp⟩:=List.getElem?_eq_some_iff.1 hj;have h2:=hc j (by have:=h.1;omega);rw [List.getD_eq_getElem?_getD,hj] at h2;cases i with
 | zero =>
  have:enc p = u:=by simpa using hu
  subst this;simpa [scalar] using h2
 | succ i=>simp at hu
theorem iL {α:Type} {enc:α→Value} {d:α} {h1:∀ x,(enc x).oneCell' = true} {w:World} {A:Option Addr} {n:Nat} {xs:List α} (h:(scalar enc h1).C w A n xs):dK enc d w A n xs:=by
 refine ⟨h.1,h.2.1,fun hn=>?_⟩;obtain ⟨ad,e,hc⟩:=h.2.2 hn;refine ⟨ad,e,fun j hj=>?_⟩;have hl:j < xs.length:=by have:=h.1;omega
 obtain ⟨c,_,hK,hcell⟩:=hc j _ (List.getElem?_eq_getElem hl);have hK':c = [enc xs[j]]:=hK;subst hK';have:=hcell 0 _ rfl;simpa [scalar,List.getD_eq_getElem?_getD,List.getElem?_eq_getElem hl] using this
end Kd
namespace Kd
def Sub {α β:Type} (F:Kd α→Kd β) (E:List Nat):Prop:=∀ d:Kd α,(∀ q,q∈d.E→q∈E)→∀ q,q∈(F d).E→q∈E
end Kd
namespace Kd
theorem ek {α:Type} {d:Kd α} {e base:Nat} {ok:Nat→Prop} {W w1:World} {u v v1:Value} {xs:List α} (h:d.R e W base (fun k=>ok k∧some k≠v.ownBlock) u xs) (hg:W.grownBy w1 v.ownBlock) (hat:v1.ownBlock = v.ownBlock∨∃ b,v1.ownBlock = some b∧W.heap.size≤b):d.R e w1 base (fun k=>ok k∧some k≠v1.ownBlock) u xs:=by
 refine aX (jb (fA h) (fun k hk=>hg.block k hk.2.2.1 hk.1.2)) (fun k hk=>⟨hk.1.1,?_⟩);rcases hat with hat | ⟨b,hb,hle⟩
 ·rw [hat];exact hk.1.2
 ·rw [hb]
  intro he;injection he with he
  have:=hk.2.2.1;omega
end Kd
namespace Kd
section
variable {α β:Type} {d:Kd α} {d':Kd β} {e e':Nat} {w w1 W:World} {base b b':Nat} {ok ok' okv oku:Nat→Prop} {v u:Value} {xs:List α} {ys:List β}
theorem eY (h:d.R e w base ok v xs) (o:Obj):d.R e (w.alloc o) base ok v xs:=cN h (dD (Below.refl _ _) o)
theorem dw (h:d.R e w base ok v xs):d.R e w.drew base ok v xs:=cN h (fR (Below.refl _ _))
theorem eR (h:d.R e w base ok v xs) (m:Nat):d.R e (w.drewN m) base ok v xs:=cN h (dh (Below.refl _ _) m)
theorem cG {A:Option Addr} {n:Nat} (h:d.C w A n xs) (o:Obj):d.C (w.alloc o) A n xs:=aJ h (dD (Below.refl _ _) o)
theorem cQ {A:Option Addr} {n:Nat} (h:d.C w A n xs):d.C w.drew A n xs:=aJ h (fR (Below.refl _ _))
theorem cH {A:Option Addr} {n:Nat} (h:d.C w A n xs) (m:Nat):d.C (w.drewN m) A n xs:=aJ h (dh (Below.refl _ _) m)
theorem rh (d:Kd α) (w:World):d.C w none ([]:List α).length []:=⟨rfl,by simp,fun h=>absurd h (Nat.lt_irrefl 0)⟩
theorem aC {A:Option Addr} {n c:Nat} (h:d.R e w base ok (.slice A n c) xs):n = xs.length∧n≤c∧d.C w A xs.length xs:=by
 obtain ⟨A',c',he,hl,hr⟩:=l9 h;injection he with h1 h2 h3
 subst h1;exact ⟨h2,by omega,hr⟩
theorem dB (h:d.R e w base ok v xs):∀ k,v.ownBlock = some k→k < w.heap.size:=by
 obtain ⟨inner,ho⟩:=ny h;exact oN ho
theorem bY (h:d.R e w base ok v xs):∀ k,v.ownBlock = some k→base≤k:=by
 obtain ⟨inner,ho⟩:=ny h;exact gx ho
theorem rE (h:d.R e w base ok v xs) {g:Nat} (hok:∀ k,ok k→k≠g):some g≠v.ownBlock:=fun e=>hok g (h.1 g e.symm) rfl
theorem rF (h:d.R e w base ok v xs) (hp:0 < xs.length):∃ g cap,v = .slice (some ⟨g,0,none⟩) xs.length cap∧base≤g∧g < w.heap.size∧∃ cells,w.heap[g]? = some (.cells cells e (0,0)):=by
 obtain ⟨inner,ho⟩:=ny h;obtain ⟨g,cap,he,hb,hl⟩:=ho.form hp;obtain ⟨cells,hc⟩:=ij ho g (by rw [he];simp [Value.ownBlock]);exact ⟨g,cap,he,hb,hl,cells,hc⟩
end
section
variable {w W:World} {A:Option Addr} {n:Nat}
theorem cT {k:IntKind} {xs:List Int} (h:(Kd.int k).C w A n xs) (i:Int) (j:0≤i) (h1:i < n):∃ ad,A = some ad∧w.cell? (ad.add i.toNat) = some (.int k (rd xs i)) :=
 dK.at_ (iL (enc:=Value.int k) (d:=(0:Int)) (h1:=fun _=>rfl) h) i j h1
variable {α:Type} {enc:α→Value} {h1:∀ x,(enc x).oneCell' = true} {e base g cap:Nat} {ok:Nat→Prop} {xs:List α}
theorem rG (d:α) (h:(scalar enc h1).R e W base ok (.slice (some ⟨g,0,none⟩) xs.length cap) xs) (i:Int) (j:0≤i) (hi:i < xs.length):W.cell? ⟨g,i.toNat,none⟩ = some (enc (qu d xs i))∧W.frozen? ⟨g,i.toNat,none⟩ = false:=o5 (iU h) i j hi
theorem sD (h:(scalar enc h1).R e W base ok (.slice (some ⟨g,0,none⟩) xs.length cap) xs) (i:Int) (x:α):(scalar enc h1).R e (W.setCell ⟨g,i.toNat,none⟩ (enc x)) base ok (.slice (some ⟨g,0,none⟩) xs.length cap) (xs.set i.toNat x)∧W.grownBy (W.setCell ⟨g,i.toNat,none⟩ (enc x)) (some g):=by
 obtain ⟨ho,hg⟩:=l8 (iU h) i x;exact ⟨jT (by rw [List.length_set];exact ho) h.1,hg⟩
end
section
variable {P:Program} {ops:Array Oper} {rest:List Oper} {o:Oper} {a:Act} {Q:Exit→Act→World→Prop}
theorem jc {W w1:World} {v:Value} (hgd:o.guard = none) (hrun:(execOp a.eval o).run P W = .ok (.value v) w1) (h:wpList P ops Q rest (a.put o.dst v) w1):wpList P ops Q (o :: rest) a W:=by
 refine wpList_plain hgd fun K hK=>?_
 unfold Oper.wp;rw [hrun];exact hK _ _ h
variable {α:Type}
theorem mh (d:Kd α) {w0 W:World} (base e:Nat) (hgd:o.guard = none) {N:Tmp} (_hd:o.dst = some N) {xs:List α} {inner:List Value} {ok okp:Nat→Prop}
  (hrun:(execOp a.eval o).run P W = .ok (.value (.slice (some ⟨W.heap.size,0,none⟩) xs.length xs.length)) (W.alloc (.cells inner.toArray e)))
  (hrep:cm (d.M W base okp) d.sz xs inner) (hok:∀ k,okp k→ok k) (hfresh:ok W.heap.size) (HB:Below base w0 W) (hbase:base≤W.heap.size) (hm:xs.length≤9223372036854775807)
  (h:∀ v1 w1,d.R e w1 base ok v1 xs→Below base w0 w1→W.grownBy w1 none→(∃ b,v1.ownBlock = some b∧W.heap.size≤b)→wpList P ops Q rest (a.put o.dst v1) w1):wpList P ops Q (o :: rest) a W:=by
 refine jc hgd hrun (h _ _ ⟨fun k hk=>?_,inner,?_,?_⟩ (HB.alloc hbase _) (World.grownBy_alloc W _ none) ⟨W.heap.size,by simp [Value.ownBlock],Nat.le_refl _⟩)
 ·have:W.heap.size = k:=by simpa [Value.ownBlock] using hk
  subst this;exact hfresh
 ·have h2:=World.ownsRow_lit (base:=base) (e:=e) (size:=d.sz) W inner.toArray xs.length hbase (by simpa [maxLen] using hm) (by simpa using hrep.1)
  simpa using h2
 ·refine hrep.gE (fun p c hp=>d.M_mono (fun k hk=>⟨hok k hk.1,fun he=>?_⟩) (nx (d.M_bound hp) (dD (Below.refl _ _) _)))
  have h3:k = W.heap.size:=by simpa [Value.ownBlock] using he
  have:=hk.2.2.1;omega
theorem o7 {α:Type} {R:α→List Value→Prop} {z:Value} {size:Nat} {z0:α} (hz:z.cells.size = size) (hs:0 < size) (y:R z0 z.cells.toList) (m:Nat):cm R size (List.replicate m z0) (madeCells z.cells (m * size)).toList:=by
 refine ⟨by simp [size_madeCells],fun j p hj=>?_⟩;obtain ⟨hjl,hp⟩:=List.getElem?_eq_some_iff.1 hj;have hjm:j < m:=by simpa using hjl
 have hp':z0 = p:=by simpa using hp
 subst hp';have hle:j * size+size≤m * size:=by rw [← Nat.succ_mul];exact Nat.mul_le_mul_right _ hjm
 have:((madeCells z.cells (m * size)).toList.drop (j * size)).take size = z.cells.toList:=by
  apply List.ext_getElem
  ·simp [size_madeCells,hz]
   omega
  ·intro i h1 h2
   have hi:i < size:=by rw [Array.length_toList,hz] at h2;exact h2
   have hmod:(j * size+i) % size = i:=by
    rw [Nat.mul_comm,Nat.mul_add_mod];exact Nat.mod_eq_of_lt hi
   simp [madeCells,hz,hmod];rw [getElem!_pos z.cells i (by omega)]
 rw [this];exact y
theorem rH (d:Kd α) {w0 W:World} (base e:Nat) (hgd:o.guard = none) {N:Tmp} (hd:o.dst = some N) (t:TypeId) (x y:Operand) (ho:o.op = .makeSlice t x y) (n:Int) (hx:a.eval x = .int .i64 n) (hy:a.eval y = .int .i64 n)
  (ht:P.underlying t = some (.slice e)) (z:Value) (bytes:Nat) (hinfo:(P.info? e).map (fun i=>(i.zero,i.size,i.bytes)) = some (some z,d.sz,bytes)) (hz:z.cells.size = d.sz) (j:0 < d.sz) (I:0 < bytes)
  (z0:α) {ok okp:Nat→Prop} (hzero:d.M W base okp z0 z.cells.toList) (hok:∀ k,okp k→ok k) (hfresh:ok W.heap.size) (Y:0≤n) (hl:n.toNat * bytes≤281474976710656) (HB:Below base w0 W) (hbase:base≤W.heap.size)
  (h:∀ v1 w1,d.R e w1 base ok v1 (List.replicate n.toNat z0)→Below base w0 w1→W.grownBy w1 none→(∃ b,v1.ownBlock = some b∧W.heap.size≤b)→wpList P ops Q rest (a.put o.dst v1) w1):wpList P ops Q (o :: rest) a W:=by
 obtain ⟨m,rfl⟩:=Int.eq_ofNat_of_zero_le Y;simp only [Int.toNat_natCast] at hl h;obtain ⟨i0,hi,hzz⟩:=Option.map_eq_some_iff.1 hinfo;simp only [Prod.mk.injEq] at hzz;obtain ⟨J,U,X⟩:=hzz;have hm:m≤281474976710656:=Nat.le_trans (Nat.le_mul_of_pos_right _ I) hl;have hr:=run_make (P:=P) W t e i0 z ht hi J .i64 .i64 (m:Int) (m:Int) (by omega) (by omega)
  (by
   have h3:((i0.bytes * m:Nat):Int)≤281474976710656:=by rw [X,Nat.mul_comm];omega
   rwa [Int.natCast_mul] at h3) (by omega)
 simp only [Int.toNat_natCast] at hr;rw [U] at hr;refine mh d base e hgd hd (xs:=List.replicate m z0) (inner:=(madeCells z.cells (m * d.sz)).toList) (okp:=okp) (ok:=ok) ?_ (o7 hz j hzero m) hok hfresh HB hbase (by simp;omega) h;simp [execOp,ho,hx,hy,hr]
end
end Kd
theorem oU {w:World} {base n m c size:Nat} {e:TypeId} {A:Option Addr} {xs:List Value} (h:w.ownsRow base e size (.slice A n c) n xs) (hm:m≤n):w.ownsRow base e size (.slice A m c) m (xs.take (m * size)):=by
 obtain ⟨h1,h2⟩:=h;refine ⟨by rw [List.length_take,h1];exact Nat.min_eq_left (Nat.mul_le_mul_right _ hm),?_⟩;rcases h2 with ⟨he,j⟩ | ⟨g,cap,cur,he,hb,hh,hnc,hcm,hcs,ht⟩
 ·injection he with ha _ hc
  subst ha;subst hc;exact .inl ⟨by rw [show m = 0 by omega],by omega⟩
 ·injection he with ha _ hc
  subst ha;subst hc;refine .inr ⟨g,c,cur,rfl,hb,hh,by omega,hcm,hcs,?_⟩;rw [← ht,List.take_take,Nat.min_eq_left (Nat.mul_le_mul_right _ hm)]
section
variable {P:Program}
theorem oV (t e:TypeId) (kh:IntKind) {i:TypeInfo} (ht:P.underlying t = some (.slice e)) (hi:P.info? e = some i) (A:Option Addr) (n c:Nat) (j:Int) (y:0≤j) (hm:j≤n) (hc:n≤c) :
  ∀ W:World,(Instr.slice t (.slice A n c) none (some (.int kh j)) none).run P W = .ok (.slice A j.toNat c) W:=by
 intro W;have hel:P.elem t = e:=by simp [Program.elem,ht]
 have hu:P.underlying t = some (.slice (P.elem t)):=by rw [hel];exact ht
 have ha:(A.map fun x=>x.add 0) = A:=by cases A <;> simp [Addr.add]
 rw [run_slice_h W t A n c hu kh j y (by omega),hel];simp [sizeOf,typeInfo,hi,sliced,Result.andThen,ha]
theorem mj (t e:TypeId) (kl:IntKind) {i:TypeInfo} (ht:P.underlying t = some (.slice e)) (hi:P.info? e = some i) (size:Nat) (hsz:i.size = size) (A:Option Addr) (n c:Nat) (j:Int) (y:0≤j) (hm:j≤n) :
  ∀ W:World,(Instr.slice t (.slice A n c) (some (.int kl j)) none none).run P W = .ok (.slice (if c = j.toNat then A else A.map (·.add (j.toNat * size))) (n - j.toNat) (c - j.toNat)) W:=by
 intro W;have hel:P.elem t = e:=by simp [Program.elem,ht]
 have hu:P.underlying t = some (.slice (P.elem t)):=by rw [hel];exact ht
 rw [run_slice_l W t A n c hu kl j y hm,hel];simp [sizeOf,typeInfo,hi,hsz,sliced,Result.andThen]
end
def sE (w:World) (base:Nat) (e:TypeId) (size:Nat) (v:Value) (n:Nat) (xs:List Value):Prop :=
  xs.length = n * size ∧
  ((n = 0∧∃ A,v = .slice A 0 0∧∀ a,A = some a→base≤a.block∧∃ cur,w.heap[a.block]? = some (.cells cur e (0,0))) ∨
   ∃ g off cap cur,v = .slice (some ⟨g,off * size,none⟩) n cap∧base≤g∧w.heap[g]? = some (.cells cur e (0,0))∧n≤cap∧off+cap≤maxLen∧cur.size = (off+cap) * size∧(cur.toList.drop (off * size)).take (n * size) = xs)
section
variable {w w1:World} {base n size:Nat} {e:TypeId} {v:Value} {xs:List Value}
theorem oW (h:w.ownsRow base e size v n xs):sE w base e size v n xs:=by
 obtain ⟨h1,h2⟩:=h;refine ⟨h1,?_⟩;rcases h2 with ⟨rfl,j⟩ | ⟨g,cap,cur,rfl,hb,hh,hnc,hcm,hcs,ht⟩
 ·exact .inl ⟨j,none,rfl,fun a ha=>by cases ha⟩
 ·exact .inr ⟨g,0,cap,cur,by rw [Nat.zero_mul],hb,hh,hnc,by rw [Nat.zero_add];exact hcm,by rw [Nat.zero_add];exact hcs,by rw [Nat.zero_mul,List.drop_zero];exact ht⟩
theorem rI (g o j:Nat):(⟨g,o,none⟩:Addr).add j = ⟨g,o+j,none⟩:=by unfold Addr.add;split <;> simp_all
end
namespace Kd
theorem o8 {α:Type} {R:α→List Value→Prop} {size m:Nat} {ps:List α} {cs:List Value} (h:cm R size ps cs) (hm:m≤ps.length):cm R size (ps.take m) (cs.take (m * size)):=by
 refine ⟨by rw [List.length_take,List.length_take,h.1,Nat.min_eq_left hm,Nat.min_eq_left (Nat.mul_le_mul_right _ hm)],fun j p hj=>?_⟩;rw [List.getElem?_take] at hj;split at hj
 ·rename_i hjm
  have:=h.2 j p hj;have hle:j * size+size≤m * size:=by rw [← Nat.succ_mul];exact Nat.mul_le_mul_right _ hjm
  rw [List.drop_take,List.take_take,Nat.min_eq_left (by omega)];exact this
 ·cases hj
theorem oZ {α:Type} {d:Kd α} {e m n c:Nat} {w:World} {base:Nat} {ok:Nat→Prop} {A:Option Addr} {xs:List α} (h:d.R e w base ok (.slice A n c) xs) (hm:m≤xs.length):d.R e w base ok (.slice A m c) (xs.take m):=by
 obtain ⟨j,inner,ho,hr⟩:=h;have hn:n = xs.length:=by
  obtain ⟨A',c',he⟩:=o3 ho;injection he
 subst hn;have hb:∀ x y:Nat,(Value.slice A x c).ownBlock = (Value.slice A y c).ownBlock:=by
  intro x y;cases A <;> rfl
 refine ⟨fun k hk=>j k (by rw [hb _ m];exact hk),inner.take (m * d.sz),?_,?_⟩
 ·rw [List.length_take,Nat.min_eq_left hm]
  exact oU ho hm
 ·rw [hb m xs.length]
  exact o8 hr hm
def Q {α:Type} (d:Kd α) (e:Nat) (w:World) (base:Nat) (ok:Nat→Prop) (v:Value) (xs:List α):Prop :=
 (∀ k,v.ownBlock = some k→ok k)∧∃ inner,sE w base e d.sz v xs.length inner∧cm (d.M w base (fun k=>ok k∧some k≠v.ownBlock)) d.sz xs inner
section
variable {α:Type} {d:Kd α} {e:Nat} {w w1 W:World} {base:Nat} {ok ok':Nat→Prop} {v:Value} {xs:List α}
theorem rJ (h:d.R e w base ok v xs):d.Q e w base ok v xs:=by
 obtain ⟨j,inner,ho,hr⟩:=h;exact ⟨j,inner,oW ho,hr⟩
theorem ri (d:Kd α) (e:Nat) (w:World) (base:Nat) (ok:Nat→Prop):d.Q e w base ok (.slice none 0 0) []:=rJ (jt d e w base ok)
end
end Kd
namespace Kd
section
variable {α:Type} {d:Kd α} {e e':Nat} {w w1 W:World} {base:Nat} {ok:Nat→Prop} {u v:Value} {xs:List α}
theorem nB (h:d.R e w base ok v xs):∀ k,v.ownBlock = some k→∃ cells,w.heap[k]? = some (.cells cells e (0,0)):=by
 obtain ⟨inner,ho⟩:=ny h;exact fun k hk=>ij ho k hk
theorem lg (h:d.R e W base ok u xs) (hty:∀ k,v.ownBlock = some k→∃ cells,W.heap[k]? = some (.cells cells e' (0,0))) (ht:∀ q,q∈e :: d.E→q≠e') (hg:W.grownBy w1 v.ownBlock):d.R e w1 base ok u xs:=by
 refine aX (jb (fA h) (fun k hk=>hg.block k hk.2.2.1 (fun he=>?_))) (fun _ hk=>hk.1);obtain ⟨_,_,_,q,hq,cells,hc⟩:=hk;obtain ⟨cells',hc'⟩:=hty k he.symm;rw [hc] at hc';injection hc' with hc'
 injection hc' with _ hc'
 exact ht q hq hc'
theorem gz (h:d.R e W base ok u xs) (hty:∀ k,v.ownBlock = some k→∃ cells,W.heap[k]? = some (.cells cells e' (0,0))) (ht:∀ q,q∈e :: d.E→q≠e'):d.R e W base (fun k=>ok k∧some k≠v.ownBlock) u xs:=by
 refine aX (fA h) (fun k hk=>⟨hk.1,fun he=>?_⟩);obtain ⟨_,_,_,q,hq,cells,hc⟩:=hk;obtain ⟨cells',hc'⟩:=hty k he.symm;rw [hc] at hc';injection hc' with hc'
 injection hc' with _ hc'
 exact ht q hq hc'
theorem cF (hu:d.R e W base ok u xs) (hbase:∀ k,v.ownBlock = some k→W.heap.size≤k) (hb:Below W.heap.size W w1):d.R e w1 base (fun k=>ok k∧some k≠v.ownBlock) u xs :=
 aX (jb (fA hu) (fun k hk=>hb.block k hk.2.2.1)) (fun k hk=>⟨hk.1,fun he=>by have:=hbase k he.symm;have:=hk.2.2.1;omega⟩)
theorem dx (h:d.R e w1 W.heap.size ok v xs) (hlt:∀ k,u.ownBlock = some k→k < W.heap.size):d.R e w1 W.heap.size (fun k=>ok k∧some k≠u.ownBlock) v xs :=
 aX (fA h) (fun k hk=>⟨hk.1,fun he=>by have:=hlt k he.symm;have:=hk.2.1;omega⟩)
theorem fresh' (hlt:∀ k,u.ownBlock = some k→k < W.heap.size):∀ k,W.heap.size≤k→some k≠u.ownBlock:=fun k hk he=>by have:=hlt k he.symm;omega
end
end Kd
namespace Kd
section
variable {α:Type} {d:Kd α} {e base g n cap:Nat} {ok okp:Nat→Prop} {W:World} {xs:List α}
theorem rK (h:d.R e W base ok (.slice (some ⟨g,0,none⟩) n cap) xs) (z:α) (i:Int) (y:0≤i) (h1:i < n) :
  ∃ c,c.length = d.sz∧d.M W base (fun k=>ok k∧k≠g) (xs.getD i.toNat z) c∧(∀ j u,c[j]? = some u→W.cell? ⟨g,i.toNat * d.sz+j,none⟩ = some u)∧∀ j,W.frozen? ⟨g,i.toNat * d.sz+j,none⟩ = false:=by
 obtain ⟨hn,hnc,hC⟩:=aC h;obtain ⟨_,inner,ho,hr⟩:=h;have hil:i.toNat < xs.length:=by omega
 have hseg:i.toNat * d.sz+d.sz≤inner.length:=by rw [hr.1,← Nat.succ_mul];exact Nat.mul_le_mul_right _ hil
 have hM:=hr.2 i.toNat _ (List.getElem?_eq_getElem hil);refine ⟨(inner.drop (i.toNat * d.sz)).take d.sz,by rw [List.length_take,List.length_drop];omega,?_,fun j u hu=>?_,fun j=>?_⟩
 ·rw [List.getD_eq_getElem?_getD,List.getElem?_eq_getElem hil]
  exact d.M_mono (fun k hk=>⟨hk.1,fun he=>hk.2 (by rw [he];simp [Value.ownBlock])⟩) hM
 ·rw [List.getElem?_take] at hu
  split at hu
  ·rw [List.getElem?_drop] at hu
   have:=ho.cells (g:=g) (by simp [Value.ownBlock]) _ u hu;rwa [add_plain] at this
  ·cases hu
 ·obtain ⟨cells,hc⟩:=ij ho g (by simp [Value.ownBlock])
  exact aj hc _
end
end Kd
namespace Kd
def fixed {α:Type} (d:Kd α) (w0:World):Kd α where
 sz:=d.sz
 E:=[]
 K:=fun _ x cs=>d.K w0 x cs
 M:=fun _ _ _ x cs=>d.K w0 x cs
 K_len:=d.K_len
 K_one:=d.K_one
 K_below:=fun _ h=>h
 K_of_M:=fun h=>h
 M_mono:=fun _ h=>h
 M_bound:=fun h=>h
 M_move:=fun _ h=>h
 M_lower:=fun _ h=>h
end Kd
namespace Kd
theorem ju {α:Type} {R:α→List Value→Prop} {size:Nat} {ps qs:List α} {cs ds:List Value} (h:cm R size ps cs) (h':cm R size qs ds):cm R size (ps ++ qs) (cs ++ ds):=by
 refine ⟨by rw [List.length_append,List.length_append,h.1,h'.1,Nat.add_mul],fun j p hj=>?_⟩;rcases Nat.lt_or_ge j ps.length with hlt | hge
 ·rw [List.getElem?_append_left hlt] at hj
  have hle:j * size+size≤cs.length:=by rw [h.1,← Nat.succ_mul];exact Nat.mul_le_mul_right _ hlt
  rw [List.drop_append_of_le_length (by omega),List.take_append_of_le_length (by rw [List.length_drop];omega)];exact h.2 j p hj
 ·rw [List.getElem?_append_right hge] at hj
  have h2:=h'.2 (j - ps.length) p hj;have hle:ps.length * size≤j * size:=Nat.mul_le_mul_right _ hge;rw [List.drop_append,List.drop_eq_nil_of_le (by rw [h.1];exact hle),List.nil_append,h.1,← Nat.sub_mul];exact h2
section
variable {P:Program} {ops:Array Oper} {rest:List Oper} {o:Oper} {a:Act} {Q:Exit→Act→World→Prop} {α:Type}
theorem fI (d:Kd α) {Rr:α→List Value→Prop} {w0 W:World} (base:Nat) (hgd:o.guard = none) (s x:Operand) (t e:TypeId) (z:Value) (bytes:Nat)
  (ho:o.op = .call { callee:=.builtin .append,args:=#[s,x],argTypes:=#[t,t] })
  (ht:P.underlying t = some (.slice e)) (hinfo:(P.info? e).map (fun i=>(i.zero,i.size,i.bytes)) = some (some z,d.sz,bytes)) (hz:z.cells.size = d.sz) (j:0 < d.sz) (J:0 < bytes)
  (v:Value) (xs ys:List α) (A:Option Addr) (m c:Nat) (ok okp:Nat→Prop) (hs:a.eval s = v) (hx:a.eval x = .slice A m c)
  (HO:d.R e W base ok v xs) (HR:dW Rr d.sz W A m ys) (U:∀ x cs,Rr x cs→d.M W base okp x cs) (y:∀ k,okp k→ok k∧some k≠v.ownBlock) (hfresh:∀ k,W.heap.size≤k→ok k)
  (HB:Below base w0 W) (hbase:base≤W.heap.size) (hl:(xs.length+m) * bytes≤140737488355328)
  (h:∀ v1 w1,d.R e w1 base ok v1 (xs ++ ys)→Below base w0 w1→W.grownBy w1 v.ownBlock→(v1.ownBlock = v.ownBlock∨∃ b,v1.ownBlock = some b∧W.heap.size≤b)→wpList P ops Q rest (a.put o.dst v1) w1) :
  wpList P ops Q (o :: rest) a W:=by
 obtain ⟨i0,hi,hzz⟩:=Option.map_eq_some_iff.1 hinfo;simp only [Prod.mk.injEq] at hzz;obtain ⟨X,Y,a0⟩:=hzz;have hm:ys.length = m:=HR.1;have hlen:xs.length+m≤140737488355328:=Nat.le_trans (Nat.le_mul_of_pos_right _ J) hl;obtain ⟨hok,inner,hown,hr⟩:=HO;have hrun:∃ v1 w1,(Builtin.append_ #[t,t] o.type #[v,.slice A m c]).run P W = .ok v1 w1∧d.R e w1 base ok v1 (xs ++ ys)∧W.grownBy w1 v.ownBlock∧(v1.ownBlock = v.ownBlock∨∃ b,v1.ownBlock = some b∧W.heap.size≤b):=by
  rcases A with _ | ad
  ·have I:m = 0:=by
    rcases Nat.eq_zero_or_pos m with I | I
    ·exact I
    ·obtain ⟨ad,h,_⟩:=HR.2.2 I
     cases h
   subst I;obtain rfl:ys = []:=List.eq_nil_of_length_eq_zero hm;refine ⟨v,W,?_,by rw [List.append_nil];exact ⟨hok,inner,hown,hr⟩,World.grownBy.refl W _,.inl rfl⟩;rcases hown.2 with ⟨rfl,hn⟩ | ⟨g,cap,cur,rfl,_,_,hnc,_⟩
   ·simp [Builtin.append_,run_underlying ht,sizeOf,typeInfo,hi,Builtin.lenOf,Builtin.firstCells]
   ·simp [Builtin.append_,run_underlying ht,sizeOf,typeInfo,hi,Builtin.lenOf,Builtin.firstCells,hnc,storeCells]
  ·obtain ⟨news,hnr,hnc⟩:=dW.oQ HR
   have hnM:cm (d.M W base okp) d.sz ys news:=hnr.gE (fun p c hp=>U p c hp);have hone:∀ u∈news,u.oneCell' = true:=by
    intro u hu;obtain ⟨q,hq,rfl⟩:=List.mem_iff_getElem.1 hu;have a1:q / d.sz < ys.length:=by
     rw [Nat.div_lt_iff_lt_mul j];rw [← hnM.1];exact hq
    have hc:=hnM.2 (q / d.sz) _ (List.getElem?_eq_getElem a1);refine d.K_one (d.K_of_M hc) _ ?_;rw [List.mem_iff_getElem?];refine ⟨q % d.sz,?_⟩;rw [List.getElem?_take,if_pos (Nat.mod_lt _ j),List.getElem?_drop,Nat.mul_comm,Nat.div_add_mod,List.getElem?_eq_getElem hq]
   obtain ⟨v1,w1,hrun,h2,hg,_,hat⟩:=run_append_own_at (P:=P) W base t o.type e i0 z d.sz bytes ht hi X Y a0 hz j v xs.length inner hown ad m c news (by rw [hnM.1,hm]) hnc hone (by simp only [maxLen];omega) hl hbase;have hat':v1.ownBlock = v.ownBlock∨∃ b,v1.ownBlock = some b∧W.heap.size≤b:=by
    rcases hat with hat | hat
    ·exact .inl hat
    ·exact .inr ⟨_,hat,Nat.le_refl _⟩
   have hne:∀ k,some k≠v.ownBlock→k < W.heap.size→some k≠v1.ownBlock:=by
    intro k hk hlt;rcases hat' with hat | ⟨b,hb,hle⟩
    ·rw [hat];exact hk
    ·rw [hb]
     intro he;injection he with he
     omega
   have step:∀ {q:α} {c:List Value} {o:Nat→Prop},d.M W base o q c→(∀ k,o k→ok k∧some k≠v.ownBlock)→d.M w1 base (fun k=>ok k∧some k≠v1.ownBlock) q c:=by
    intro q c o hq ho;have h1:=d.M_move (w1:=w1) (fun k hk=>hg.block k hk.2.2.1 (ho k hk.1).2) (d.M_bound hq);exact d.M_mono (fun k hk=>⟨(ho k hk.1).1,hne k (ho k hk.1).2 hk.2.2.1⟩) h1
   refine ⟨v1,w1,hrun,⟨fun k hk=>?_,inner ++ news,by rw [List.length_append,hm];exact h2,ju (hr.gE (fun _ _ hq=>step hq (fun _ hk=>hk))) (hnM.gE (fun _ _ hq=>step hq y))⟩,hg,hat'⟩;rcases hat' with hat | ⟨b,hb,hle⟩
   ·exact hok k (hat ▸ hk)
   ·rw [hb] at hk
    injection hk with hk
    exact hfresh k (by omega)
 obtain ⟨v1,w1,a2,h1,hg,hat⟩:=hrun;refine wpList_plain hgd fun K hK=>?_
 unfold Oper.wp execOp;simp only [ho,resolve,invoke,builtin,Sem.run_bind,Sem.run_pure,Result.andThen_ok,List.map_toArray,List.map_cons,List.map_nil,hs,hx,a2];exact hK _ _ (h v1 w1 h1 (HB.grown hg hbase (gx hown)) hg hat)
end
end Kd
theorem add_add (a:Addr) (i j:Nat):(a.add i).add j = a.add (i+j):=by
 unfold Addr.add;by_cases h1:i = 0 <;> by_cases h2:j = 0 <;> simp [h1,h2,Nat.add_assoc]
namespace Kd
section
variable {α:Type} {k:Kd α} {w:World} {A:Option Addr} {xs:List α} {m c:Nat}
theorem lp (h:k.C w A xs.length xs) (hm:m≤xs.length) (hc:xs.length≤c):k.C w (if c = m then A else A.map (·.add (m * k.sz))) (xs.drop m).length (xs.drop m):=by
 have hl:(xs.drop m).length = xs.length - m:=List.length_drop;refine ⟨rfl,by rw [hl];have:=h.2.1;omega,fun hp=>?_⟩;rw [hl] at hp;obtain ⟨ad,rfl,hcell⟩:=h.2.2 (by omega);rw [if_neg (by omega)];refine ⟨ad.add (m * k.sz),rfl,fun j p hj=>?_⟩;rw [List.getElem?_drop] at hj;obtain ⟨cs,h1,h2,h3⟩:=hcell (m+j) p hj;refine ⟨cs,h1,h2,fun i u hu=>?_⟩;rw [add_add,show m * k.sz+(j * k.sz+i) = (m+j) * k.sz+i by rw [Nat.add_mul];omega];exact h3 i u hu
end
end Kd
theorem an {w W:World} (h:Below w.heap.size w W):w.heap.size≤W.heap.size:=h.size
theorem az {w W j:World} (h:Below w.heap.size w W) (k:Below W.heap.size W j):Below w.heap.size w j:=jP h h.size k
theorem dV.nil (W:World) (k:IntKind):dV W k none ([]:List Int).length []:=⟨rfl,by simp,fun h=>absurd h (Nat.lt_irrefl 0)⟩
theorem dV.drewN {W:World} {k:IntKind} {A:Option Addr} {n:Nat} {xs:List Int} (h:dV W k A n xs) (m:Nat):dV (W.drewN m) k A n xs:=h
theorem er {w W:World} {g j:Nat} {v:Value} (h:Below w.heap.size w W) (hg:w.heap.size≤g):Below w.heap.size w (W.setCell ⟨g,j,none⟩ v):=h.setCell hg _
theorem gF {w W:World} {g:Nat} {row:Option Nat} (h:bu w W g row) (m:Nat):bu w (W.drewN m) g row:=h
theorem mQ {w W:World} {g:Nat} (h:bu w W g none) (o:Obj):bu w (W.alloc o) g none:=h.trans (bu.me (World.grownBy_alloc W o none) g) (.inl rfl)
theorem kF {w W:World} {g:Nat} (h:bu w W g none) {a:Addr} {v:Value} (hc:w.cell? a = some v) (hne:a.block≠g):W.cell? a = some v:=by
 have:=h.2 a.block (World.block_lt_of_cell? w a hc) hne (by simp);simpa [World.cell?,this] using hc
theorem fO (a:Addr) (i:Nat):(a.add i).block = a.block:=by unfold Addr.add;split <;> rfl
theorem dK.nil {α:Type} (enc:α→Value) (d:α) (W:World):dK enc d W none ([]:List α).length []:=⟨rfl,by simp,fun h=>absurd h (Nat.lt_irrefl 0)⟩
theorem dK.drewN {α:Type} {enc:α→Value} {d:α} {W:World} {A:Option Addr} {n:Nat} {xs:List α} (h:dK enc d W A n xs) (m:Nat):dK enc d (W.drewN m) A n xs:=h
theorem rL {α:Type} {enc:α→Value} {d:α} {w0:World} {A:Option Addr} {n g:Nat} {xs:List α} (h:dK enc d w0 A n xs) (hg:w0.heap.size≤g):∀ ad,A = some ad→0 < n→ad.block≠g:=by
 rintro ad rfl hn
 obtain ⟨ad',h',hc⟩:=h.2.2 hn;injection h' with h'
 subst h';have:=World.block_lt_of_cell? w0 _ (hc 0 hn);rw [fO] at this;omega
theorem dV.keep {w W:World} {k:IntKind} {A:Option Addr} {n g:Nat} {xs:List Int} (h:dV w k A n xs) (hk:bu w W g none) (hf:∀ ad,A = some ad→0 < n→ad.block≠g):dV W k A n xs :=
 ⟨h.1,h.2.1,fun hn=>by
  obtain ⟨ad,e,hc⟩:=h.2.2 hn;exact ⟨ad,e,fun j hj=>kF hk (hc j hj) (by rw [fO];exact hf ad e hn)⟩⟩
theorem dK.keep {α:Type} {enc:α→Value} {d:α} {w W:World} {A:Option Addr} {n g:Nat} {xs:List α} (h:dK enc d w A n xs) (hk:bu w W g none) (hf:∀ ad,A = some ad→0 < n→ad.block≠g):dK enc d W A n xs :=
 ⟨h.1,h.2.1,fun hn=>by
  obtain ⟨ad,e,hc⟩:=h.2.2 hn;exact ⟨ad,e,fun j hj=>kF hk (hc j hj) (by rw [fO];exact hf ad e hn)⟩⟩
theorem cell_far {W:World} {p a:Addr} (h:a.block≠p.block) (u:Value):(W.setCell p u).cell? a = W.cell? a:=by
 have:=Below.heap_setCell W p u a.block h;simp [World.cell?,this]
theorem fb {w:World} {g:Nat} {t:TypeId} {cs cs':Array Value} (h:w.heap[g]? = some (.cells cs t (0,0))) (i:Nat) (u:Value) (e:cs.setIfInBounds i u = cs'):(w.setCell ⟨g,i,none⟩ u).heap[g]? = some (.cells cs' t (0,0)):=e ▸ qt h i u
theorem fU {w W:World} {g:Nat} {row:Option Nat} (h:bu w W g row) {p:Addr} (hp:w.heap.size≤p.block) (u:Value):bu w (W.setCell p u) g row :=
 ⟨by simpa [World.setCell] using h.1,fun i hi hg hr=>(Below.heap_setCell W p u i (by omega)).trans (h.2 i hi hg hr)⟩
theorem bZ {base:Nat} {w W:World} (h:Below base w W):Below base w W.drew:=h.drew
theorem o9 {w W:World} {g:Nat} {row:Option Nat} (h:bu w W g row):bu w W.drew g row:=h
namespace Kd
section
variable {α:Type} {enc:α→Value} {h1:∀ x,(enc x).oneCell' = true} {w W:World} {A:Option Addr} {n g:Nat} {xs:List α}
theorem rM (d:α) (h:(scalar enc h1).C w A n xs) (hk:bu w W g none) (hf:∀ ad,A = some ad→0 < n→ad.block≠g):(scalar enc h1).C W A n xs:=mP (dK.keep (iL (d:=d) h) hk hf)
theorem sF (d:α) (h:(scalar enc h1).C w A n xs) (hg:w.heap.size≤g):∀ ad,A = some ad→0 < n→ad.block≠g:=rL (iL (d:=d) h) hg
end
end Kd
namespace Kd
section
variable {α:Type} {d:Kd α} {e base g:Nat} {ok:Nat→Prop} {w w1:World} {v:Value} {xs:List α} {o:Obj}
theorem eH (hb:w.heap[g]? = some o):∀ k,w.heap.size≤k→k≠g:=fun k hk=>by have:=gV hb;omega
end
end Kd
section
variable {P:Program} {ops:Array Oper} {rest:List Oper} {o:Oper} {a:Act} {Q:Exit→Act→World→Prop}
theorem dj {W:World} (hgd:o.guard = none) {N:Tmp} (_hd:o.dst = some N) {cs:Array Value} {t:TypeId}
  (hrun:(execOp a.eval o).run P W = .ok (.value (.pointer (some ⟨W.heap.size,0,none⟩))) (W.alloc (.cells cs t (0,0))))
  (h:∀ g,g = W.heap.size→∀ w1,w1.heap[g]? = some (.cells cs t (0,0))→Below W.heap.size W w1→wpList P ops Q rest (a.put o.dst (.pointer (some ⟨g,0,none⟩))) w1):wpList P ops Q (o :: rest) a W :=
 Kd.jc hgd hrun (h _ rfl _ (nw W _) (dD (Below.refl _ _) _))
end
namespace Kd
section
variable {α:Type} {enc:α→Value} {h1:∀ x,(enc x).oneCell' = true} {e base g n cap:Nat} {ok:Nat→Prop} {W:World} {xs:List α}
theorem qv (d:α) (h:(scalar enc h1).R e W base ok (.slice (some ⟨g,0,none⟩) n cap) xs) (i:Int) (j:0≤i) (hi:i < n):W.cell? ⟨g,i.toNat,none⟩ = some (enc (qu d xs i))∧W.frozen? ⟨g,i.toNat,none⟩ = false:=by
 obtain ⟨rfl,_⟩:=aC h;exact rG d h i j hi
end
end Kd
section
variable {P:Program} {ops:Array Oper} {rest:List Oper} {o:Oper} {a:Act} {Q:Exit→Act→World→Prop}
theorem gi {W w1:World} (hgd:o.guard = none) {t:TypeId} {p:Tmp} {v:Operand} (_ho:o.op = .store t (.tmp p) v) (hN:o.dst = none)
  (hrun:(execOp a.eval o).run P W = .ok .skip w1) (h:∀ w',w' = w1→wpList P ops Q rest a w'):wpList P ops Q (o :: rest) a W:=by
 refine wpList_plain hgd fun K hK=>?_
 unfold Oper.wp;rw [hrun];show K (a.put o.dst undef) w1;rw [hN];exact hK _ _ (h _ rfl)
end
namespace Kd
section
variable {α:Type} {enc:α→Value} {h1:∀ x,(enc x).oneCell' = true} {e base g n cap:Nat} {ok:Nat→Prop} {W:World} {xs:List α}
theorem rN (h:(scalar enc h1).R e W base ok (.slice (some ⟨g,0,none⟩) n cap) xs) (i:Int) (x:α):(scalar enc h1).R e (W.setCell ⟨g,i.toNat,none⟩ (enc x)) base ok (.slice (some ⟨g,0,none⟩) n cap) (xs.set i.toNat x)∧W.grownBy (W.setCell ⟨g,i.toNat,none⟩ (enc x)) (some g):=by
 obtain ⟨rfl,_⟩:=aC h;exact sD h i x
end
end Kd
section
variable {P:Program} {ops:Array Oper} {rest:List Oper} {o:Oper} {a:Act} {Q:Exit→Act→World→Prop} {W:World}
theorem aZ {N:Tmp} (_hN:o.dst = some N) (h:wpList P ops Q (o :: rest) a W):wpList P ops Q (o :: rest) a W:=h
theorem gG {t:TypeId} {p:Tmp} {v:Operand} (_ho:o.op = .store t (.tmp p) v) (h:wpList P ops Q (o :: rest) a W):wpList P ops Q (o :: rest) a W:=h
end
section
variable {P:Program} {ops:Array Oper} {o:Oper} {a:Act} {Q:Exit→Act→World→Prop} {Kc:Act→World→Prop}
theorem mR {W w1:World} {v:Value} (hw:Region.wanted o (yielded ops a.tmps) = true) (hrun:(execOp a.eval o).run P W = .ok (.value v) w1) (h:Kc (a.put o.dst v) w1):if Region.wanted o (yielded ops a.tmps) = true then Oper.wp P o a W Kc Q else Kc (a.put o.dst undef) W:=by
 rw [if_pos hw];unfold Oper.wp;rw [hrun];exact h
namespace Kd
variable {α:Type}
theorem cR (d:Kd α) {w0 W:World} (base e:Nat) (hw:Region.wanted o (yielded ops a.tmps) = true) {N:Tmp} (_hd:o.dst = some N) {xs:List α} {inner:List Value} {ok okp:Nat→Prop}
  (hrun:(execOp a.eval o).run P W = .ok (.value (.slice (some ⟨W.heap.size,0,none⟩) xs.length xs.length)) (W.alloc (.cells inner.toArray e)))
  (hrep:cm (d.M W base okp) d.sz xs inner) (hok:∀ k,okp k→ok k) (hfresh:ok W.heap.size) (HB:Below base w0 W) (hbase:base≤W.heap.size) (hm:xs.length≤9223372036854775807)
  (h:∀ v1 w1,d.R e w1 base ok v1 xs→Below base w0 w1→W.grownBy w1 none→(∃ b,v1.ownBlock = some b∧W.heap.size≤b)→Kc (a.put o.dst v1) w1):if Region.wanted o (yielded ops a.tmps) = true then Oper.wp P o a W Kc Q else Kc (a.put o.dst undef) W:=by
 refine mR hw hrun (h _ _ ⟨fun k hk=>?_,inner,?_,?_⟩ (HB.alloc hbase _) (World.grownBy_alloc W _ none) ⟨W.heap.size,by simp [Value.ownBlock],Nat.le_refl _⟩)
 ·have:W.heap.size = k:=by simpa [Value.ownBlock] using hk
  subst this;exact hfresh
 ·have h2:=World.ownsRow_lit (base:=base) (e:=e) (size:=d.sz) W inner.toArray xs.length hbase (by simpa [maxLen] using hm) (by simpa using hrep.1)
  simpa using h2
 ·refine hrep.gE (fun p c hp=>d.M_mono (fun k hk=>⟨hok k hk.1,fun he=>?_⟩) (nx (d.M_bound hp) (dD (Below.refl _ _) _)))
  have h3:k = W.heap.size:=by simpa [Value.ownBlock] using he
  have:=hk.2.2.1;omega
theorem cU (d:Kd α) {Rr:α→List Value→Prop} {w0 W:World} (base:Nat) (hw:Region.wanted o (yielded ops a.tmps) = true) (s x:Operand) (t e:TypeId) (z:Value) (bytes:Nat)
  (ho:o.op = .call { callee:=.builtin .append,args:=#[s,x],argTypes:=#[t,t] })
  (ht:P.underlying t = some (.slice e)) (hinfo:(P.info? e).map (fun i=>(i.zero,i.size,i.bytes)) = some (some z,d.sz,bytes)) (hz:z.cells.size = d.sz) (j:0 < d.sz) (J:0 < bytes)
  (v:Value) (xs ys:List α) (A:Option Addr) (m c:Nat) (ok okp:Nat→Prop) (hs:a.eval s = v) (hx:a.eval x = .slice A m c)
  (HO:d.R e W base ok v xs) (HR:dW Rr d.sz W A m ys) (U:∀ x cs,Rr x cs→d.M W base okp x cs) (y:∀ k,okp k→ok k∧some k≠v.ownBlock) (hfresh:∀ k,W.heap.size≤k→ok k)
  (HB:Below base w0 W) (hbase:base≤W.heap.size) (hl:(xs.length+m) * bytes≤140737488355328)
  (h:∀ v1 w1,d.R e w1 base ok v1 (xs ++ ys)→Below base w0 w1→W.grownBy w1 v.ownBlock→(v1.ownBlock = v.ownBlock∨∃ b,v1.ownBlock = some b∧W.heap.size≤b)→Kc (a.put o.dst v1) w1) :
  if Region.wanted o (yielded ops a.tmps) = true then Oper.wp P o a W Kc Q else Kc (a.put o.dst undef) W:=by
 obtain ⟨i0,hi,hzz⟩:=Option.map_eq_some_iff.1 hinfo;simp only [Prod.mk.injEq] at hzz;obtain ⟨X,Y,a0⟩:=hzz;have hm:ys.length = m:=HR.1;have hlen:xs.length+m≤140737488355328:=Nat.le_trans (Nat.le_mul_of_pos_right _ J) hl;obtain ⟨hok,inner,hown,hr⟩:=HO;have hrun:∃ v1 w1,(Builtin.append_ #[t,t] o.type #[v,.slice A m c]).run P W = .ok v1 w1∧d.R e w1 base ok v1 (xs ++ ys)∧W.grownBy w1 v.ownBlock∧(v1.ownBlock = v.ownBlock∨∃ b,v1.ownBlock = some b∧W.heap.size≤b):=by
  rcases A with _ | ad
  ·have I:m = 0:=by
    rcases Nat.eq_zero_or_pos m with I | I
    ·exact I
    ·obtain ⟨ad,h,_⟩:=HR.2.2 I
     cases h
   subst I;obtain rfl:ys = []:=List.eq_nil_of_length_eq_zero hm;refine ⟨v,W,?_,by rw [List.append_nil];exact ⟨hok,inner,hown,hr⟩,World.grownBy.refl W _,.inl rfl⟩;rcases hown.2 with ⟨rfl,hn⟩ | ⟨g,cap,cur,rfl,_,_,hnc,_⟩
   ·simp [Builtin.append_,run_underlying ht,sizeOf,typeInfo,hi,Builtin.lenOf,Builtin.firstCells]
   ·simp [Builtin.append_,run_underlying ht,sizeOf,typeInfo,hi,Builtin.lenOf,Builtin.firstCells,hnc,storeCells]
  ·obtain ⟨news,hnr,hnc⟩:=dW.oQ HR
   have hnM:cm (d.M W base okp) d.sz ys news:=hnr.gE (fun p c hp=>U p c hp);have hone:∀ u∈news,u.oneCell' = true:=by
    intro u hu;obtain ⟨q,hq,rfl⟩:=List.mem_iff_getElem.1 hu;have a1:q / d.sz < ys.length:=by
     rw [Nat.div_lt_iff_lt_mul j];rw [← hnM.1];exact hq
    have hc:=hnM.2 (q / d.sz) _ (List.getElem?_eq_getElem a1);refine d.K_one (d.K_of_M hc) _ ?_;rw [List.mem_iff_getElem?];refine ⟨q % d.sz,?_⟩;rw [List.getElem?_take,if_pos (Nat.mod_lt _ j),List.getElem?_drop,Nat.mul_comm,Nat.div_add_mod,List.getElem?_eq_getElem hq]
   obtain ⟨v1,w1,hrun,h2,hg,_,hat⟩:=run_append_own_at (P:=P) W base t o.type e i0 z d.sz bytes ht hi X Y a0 hz j v xs.length inner hown ad m c news (by rw [hnM.1,hm]) hnc hone (by simp only [maxLen];omega) hl hbase;have hat':v1.ownBlock = v.ownBlock∨∃ b,v1.ownBlock = some b∧W.heap.size≤b:=by
    rcases hat with hat | hat
    ·exact .inl hat
    ·exact .inr ⟨_,hat,Nat.le_refl _⟩
   have hne:∀ k,some k≠v.ownBlock→k < W.heap.size→some k≠v1.ownBlock:=by
    intro k hk hlt;rcases hat' with hat | ⟨b,hb,hle⟩
    ·rw [hat];exact hk
    ·rw [hb]
     intro he;injection he with he
     omega
   have step:∀ {q:α} {c:List Value} {o:Nat→Prop},d.M W base o q c→(∀ k,o k→ok k∧some k≠v.ownBlock)→d.M w1 base (fun k=>ok k∧some k≠v1.ownBlock) q c:=by
    intro q c o hq ho;have h1:=d.M_move (w1:=w1) (fun k hk=>hg.block k hk.2.2.1 (ho k hk.1).2) (d.M_bound hq);exact d.M_mono (fun k hk=>⟨(ho k hk.1).1,hne k (ho k hk.1).2 hk.2.2.1⟩) h1
   refine ⟨v1,w1,hrun,⟨fun k hk=>?_,inner ++ news,by rw [List.length_append,hm];exact h2,ju (hr.gE (fun _ _ hq=>step hq (fun _ hk=>hk))) (hnM.gE (fun _ _ hq=>step hq y))⟩,hg,hat'⟩;rcases hat' with hat | ⟨b,hb,hle⟩
   ·exact hok k (hat ▸ hk)
   ·rw [hb] at hk
    injection hk with hk
    exact hfresh k (by omega)
 obtain ⟨v1,w1,a2,h1,hg,hat⟩:=hrun;rw [if_pos hw];unfold Oper.wp execOp;simp only [ho,resolve,invoke,builtin,Sem.run_bind,Sem.run_pure,Result.andThen_ok,List.map_toArray,List.map_cons,List.map_nil,hs,hx,a2];exact h v1 w1 h1 (HB.grown hg hbase (gx hown)) hg hat
end Kd
end
end Go.Proofs.ag.b8
end
section
namespace Go.Proofs.ag.ct
section
variable {P:Program} {ops:Array Oper} {Q:Exit→Act→World→Prop} {md:Region.Mode} {S:World→Prop} {ds:List Nat}
def Region.fK (md:Region.Mode) (ops:Array Oper) (i:Nat):Nat→Nat→Bool
  | 0,_=>false
  | fuel+1,d=>match ops[d]? with
    | some o=>o.after.any fun e=>Region.binds md e && (e.on == i || Region.fK md ops i fuel e.on)
    | none=>false
def Region.iV (md:Region.Mode) (ops:Array Oper) (listed:Array Bool):Bool :=
  (List.range ops.size).all fun j=>!listed.getD j false || match ops[j]? with
    | some o=>o.after.all fun e=>!Region.binds md e || listed.getD e.on false
    | none=>true
def Region.nC (md:Region.Mode) (ops:Array Oper) (listed:Array Bool) (ds:List Nat) (i:Nat):Bool :=
 ds.all fun d=>listed.getD d true || Region.fK md ops i ops.size d
def eS (md:Region.Mode) (ops:Array Oper) (listed:Array Bool):Prop :=
 ∀ j oj,ops[j]? = some oj→listed.getD j false = true→∀ e∈oj.after,Region.binds md e = true→listed.getD e.on false = true
theorem Region.lq {listed:Array Bool} (h:Region.iV md ops listed = true):eS md ops listed:=by
 intro j oj hj hl e he hb;have hlt:j < ops.size:=(Array.getElem?_eq_some_iff.1 hj).1;have h1:=List.all_eq_true.1 h j (List.mem_range.2 hlt);simp only [hl,hj,Bool.not_true,Bool.false_or] at h1;have h2:=Array.all_eq_true_iff_forall_mem.1 h1 e he;simpa [hb] using h2
theorem eS.set {listed:Array Bool} {i:Nat} (h:eS md ops listed) (hi:i∈Region.ready md ops listed):eS md ops (listed.setIfInBounds i true):=by
 obtain ⟨_,oi,hoi,hall⟩:=mem_ready.1 hi;intro j oj hj hl e he hb;by_cases hij:i = j
 ·subst hij
  have:oj = oi:=Option.some.inj (hj.symm.trans hoi);subst this;exact getD_set_true (hall e he hb)
 ·rw [getD_set_ne false hij] at hl
  exact getD_set_true (h j oj hj hl e he hb)
theorem Region.iW {listed:Array Bool} {i:Nat} (hc:eS md ops listed):∀ (fuel d:Nat),Region.fK md ops i fuel d = true→listed.getD d false = true→listed.getD i false = true
 | 0,_,h,_=>by simp [Region.fK] at h
 | fuel+1,d,h,hl=>by
  unfold Region.fK at h;cases ho:ops[d]? with
  | none=>rw [ho] at h;simp at h
  | some o =>
   rw [ho] at h;obtain ⟨e,he,h1⟩:=Array.any_eq_true'.1 h;simp only [Bool.and_eq_true,Bool.or_eq_true,beq_iff_eq] at h1;have hle:=hc d o ho hl e he h1.1;rcases h1.2 with h2 | h2
   ·rw [← h2];exact hle
   ·exact Region.iW hc fuel e.on h2 hle
theorem Region.jz {listed:Array Bool} {i d fuel:Nat} (hc:eS md ops listed) (hr:Region.fK md ops i fuel d = true) (hun:listed.getD i true = false):d ∉ Region.ready md ops listed:=by
 intro hd;obtain ⟨_,o,ho,hall⟩:=mem_ready.1 hd;have hi:listed.getD i false = true:=by
  cases fuel with
  | zero=>simp [Region.fK] at hr
  | succ n =>
   unfold Region.fK at hr;rw [ho] at hr;obtain ⟨e,he,h1⟩:=Array.any_eq_true'.1 hr;simp only [Bool.and_eq_true,Bool.or_eq_true,beq_iff_eq] at h1;have hle:=hall e he h1.1;rcases h1.2 with h2 | h2
   ·rw [← h2];exact hle
   ·exact Region.iW hc n e.on h2 hle
 rcases Nat.lt_or_ge i listed.size with h' | h'
 ·simp [h'] at hun hi
  rw [hun] at hi;cases hi
 ·simp [Array.getElem?_eq_none h'] at hun
def bw (P:Program) (md:Region.Mode) (ops:Array Oper) (Q:Exit→Act→World→Prop) (S:World→Prop) (ds:List Nat):Nat→Array Bool→Act→World→Prop
 | 0,listed,a,w=>Region.ready md ops listed = []∧Q .normal a w
 | fuel+1,listed,a,w =>
  (Region.ready md ops listed = []→Q .normal a w) ∧
  ∀ i∈Region.ready md ops listed,wpOp P ops Q i (fun a' w'=>(i ∉ ds→S w→S w')∧bw P md ops Q S ds fuel (listed.setIfInBounds i true) a' w') a w
theorem iG:∀ (fuel:Nat) (listed:Array Bool) (a:Act) (w:World),bw P md ops Q S ds fuel listed a w→wpAny P md ops Q fuel listed a w
 | 0,_,_,_,h=>h
 | fuel+1,_,_,_,h=>⟨h.1,fun i hi=>wpOp_mono (fun a' w' h'=>iG fuel _ a' w' h'.2) (h.2 i hi)⟩
theorem jA {i:Nat} {oi:Oper} {v:Value} (hi:ops[i]? = some oi) (hsel:∀ (j:Nat) (o:Oper) cs b,ops[j]? = some o→o.op ≠ .select cs b)
  (hQ:∀ c a w,Q (.panic c) (a.put oi.dst v) w→Q (.panic c) a w) (n:Nat) :
  ∀ (fuel:Nat) (listed:Array Bool) (a:Act) (w:World),
   (∀ j oj,ops[j]? = some oj→j≠i→listed.getD j true = false→(∀ e∈oj.after,Region.binds md e = true→e.on≠i)→oi.apart ops oj = true) →
   eS md ops listed→(∀ d∈ds,listed.getD d true = false→Region.fK md ops i n d = true) →
   i∈Region.ready md ops listed→YieldsIf P ops S oi v a→S w →
   bw P md ops Q S ds fuel (listed.setIfInBounds i true) (a.put oi.dst v) w→bw P md ops Q S ds (fuel+1) listed a w:=by
 intro fuel;induction fuel with
 | zero =>
  intro listed a w _ _ _ hr hy hS H;refine ⟨fun h=>(by rw [h] at hr;cases hr),fun j hj=>?_⟩;by_cases hji:j = i
  ·subst hji;exact hy.wpOp hi hS ⟨fun _ h=>h,H⟩
  ·have:=ready_mono hj hji
   rw [H.1] at this;cases this
 | succ fuel ih =>
  intro listed a w hfree hc hd hr hy hS H;refine ⟨fun h=>(by rw [h] at hr;cases hr),fun j hj=>?_⟩;by_cases hji:j = i
  ·subst hji;exact hy.wpOp hi hS ⟨fun _ h=>h,H⟩
  ·have h1:=H.2 j (ready_mono hj hji)
   obtain ⟨hjun,oj,hoj,hall⟩:=mem_ready.1 hj;have y:=(mem_ready.1 hr).1;have hnot:∀ e∈oj.after,Region.binds md e = true→e.on≠i:=fun e he hb heq=>by
    have h1:=hall e he hb;rw [heq] at h1;rcases Nat.lt_or_ge i listed.size with h' | h'
    ·simp [h'] at y h1;rw [y] at h1;cases h1
    ·simp [Array.getElem?_eq_none h'] at h1
   have hjd:j ∉ ds:=fun hm=>Region.jz hc (hd j hm hjun) y hj
   have h2:=wpOp_putIf hoj (hfree j oj hoj hji hjun hnot) (fun cs b=>hsel i oi cs b hi) (fun cs b=>hsel j oj cs b hoj) hQ hy h1;have hfree':∀ k ok,ops[k]? = some ok→k≠i→(listed.setIfInBounds j true).getD k true = false →
     (∀ e∈ok.after,Region.binds md e = true→e.on≠i)→oi.apart ops ok = true:=fun k ok hk hki hun hno=>by
    refine hfree k ok hk hki ?_ hno;by_cases hjk:j = k
    ·subst hjk;exact hjun
    ·rw [getD_set_ne true hjk] at hun;exact hun
   have hd':∀ d∈ds,(listed.setIfInBounds j true).getD d true = false→Region.fK md ops i n d = true:=fun d hm hun=>by
    refine hd d hm ?_;by_cases hjk:j = d
    ·subst hjk;exact hjun
    ·rw [getD_set_ne true hjk] at hun;exact hun
   refine wpOp_mono (fun a' w' h3=>⟨h3.2.1,ih (listed.setIfInBounds j true) a' w' hfree' (hc.set hj) hd' (ready_mono hr (Ne.symm hji)) h3.1 (h3.2.1 hjd hS) ?_⟩) h2;rw [Array.setIfInBounds_comm _ _ hji];exact h3.2.2
theorem kx {i:Nat} {oi:Oper} {v:Value} (hi:ops[i]? = some oi) (hsel:∀ (j:Nat) (o:Oper) cs b,ops[j]? = some o→o.op ≠ .select cs b)
  (hQ:∀ c a w,Q (.panic c) (a.put oi.dst v) w→Q (.panic c) a w) :
  ∀ (fuel:Nat) (listed:Array Bool) (a:Act) (w:World),
   (∀ j oj,ops[j]? = some oj→j≠i→listed.getD j true = false→(∀ e∈oj.after,Region.binds md e = true→e.on≠i)→oi.apart ops oj = true) →
   i∈Region.ready md ops listed→Yields P ops oi v a →
   bw P md ops Q S ds fuel (listed.setIfInBounds i true) (a.put oi.dst v) w→bw P md ops Q S ds (fuel+1) listed a w:=by
 intro fuel;induction fuel with
 | zero =>
  intro listed a w _ hr hy H;refine ⟨fun h=>(by rw [h] at hr;cases hr),fun j hj=>?_⟩;by_cases hji:j = i
  ·subst hji;exact (hy.yieldsIf (S:=fun _=>True)).wpOp hi trivial ⟨fun _ h=>h,H⟩
  ·have:=ready_mono hj hji
   rw [H.1] at this;cases this
 | succ fuel ih =>
  intro listed a w hfree hr hy H;refine ⟨fun h=>(by rw [h] at hr;cases hr),fun j hj=>?_⟩;by_cases hji:j = i
  ·subst hji;exact (hy.yieldsIf (S:=fun _=>True)).wpOp hi trivial ⟨fun _ h=>h,H⟩
  ·have h1:=H.2 j (ready_mono hj hji)
   obtain ⟨hjun,oj,hoj,hall⟩:=mem_ready.1 hj;have y:=(mem_ready.1 hr).1;have hnot:∀ e∈oj.after,Region.binds md e = true→e.on≠i:=fun e he hb heq=>by
    have h1:=hall e he hb;rw [heq] at h1;rcases Nat.lt_or_ge i listed.size with h' | h'
    ·simp [h'] at y h1;rw [y] at h1;cases h1
    ·simp [Array.getElem?_eq_none h'] at h1
   have h2:=wpOp_put hoj (hfree j oj hoj hji hjun hnot) (fun cs b=>hsel i oi cs b hi) (fun cs b=>hsel j oj cs b hoj) hQ hy h1;have hfree':∀ k ok,ops[k]? = some ok→k≠i→(listed.setIfInBounds j true).getD k true = false →
     (∀ e∈ok.after,Region.binds md e = true→e.on≠i)→oi.apart ops ok = true:=fun k ok hk hki hun hno=>by
    refine hfree k ok hk hki ?_ hno;by_cases hjk:j = k
    ·subst hjk;exact hjun
    ·rw [getD_set_ne true hjk] at hun;exact hun
   refine wpOp_mono (fun a' w' h3=>⟨h3.2.1,ih (listed.setIfInBounds j true) a' w' hfree' (ready_mono hr (Ne.symm hji)) h3.1 ?_⟩) h2;rw [Array.setIfInBounds_comm _ _ hji];exact h3.2.2
theorem jU {i:Nat} {oi:Oper} {v:Value} {fuel:Nat} {listed:Array Bool} {a:Act} {w:World} (hi:ops[i]? = some oi)
  (hs:Region.noSelect ops = true) (hf:Region.free md ops listed i = true) (hr:(Region.ready md ops listed).contains i = true)
  (hc:Region.iV md ops listed = true) (hl:Region.nC md ops listed ds i = true)
  (hQ:∀ c a w,Q (.panic c) (a.put oi.dst v) w→Q (.panic c) a w) (hy:YieldsIf P ops S oi v a) (hS:S w)
  (h:bw P md ops Q S ds fuel (listed.setIfInBounds i true) (a.put oi.dst v) w):bw P md ops Q S ds (fuel+1) listed a w :=
 jA hi (Region.noSelect_spec hs) hQ ops.size fuel listed a w (Region.free_spec hi hf) (Region.lq hc)
  (fun d hm hun=>by have:=List.all_eq_true.1 hl d hm;rw [hun] at this;simpa using this) (by simpa using hr) hy hS h
theorem kz {rs:List Nat} {fuel:Nat} {listed:Array Bool} {a:Act} {w:World} (hr:Region.ready md ops listed = rs) (hne:rs≠[])
  (h:∀ i∈rs,wpOp P ops Q i (fun a' w'=>(i ∉ ds→S w→S w')∧bw P md ops Q S ds fuel (listed.setIfInBounds i true) a' w') a w):bw P md ops Q S ds (fuel+1) listed a w :=
 ⟨fun j=>absurd (hr ▸ j) hne,hr ▸ h⟩
theorem jV {listed:Array Bool} {a:Act} {w:World} (hr:Region.ready md ops listed = []) (h:Q .normal a w) :
  ∀ fuel,bw P md ops Q S ds fuel listed a w
 | 0=>⟨hr,h⟩
 | _+1=>⟨fun _=>h,by rw [hr];simp⟩
theorem jW {id:Nat} {a:Act} {w:World} (hm:P.follows .mixedOrders = true)
  (h:bw P .any ops Q S ds ops.size (Array.replicate ops.size false) a { w with drawn:=w.drawn+1 }):(Code.region id ops true).wp P Q a w :=
 wp_region_any hm (iG _ _ _ _ h)
end
section
variable {P:Program} {ops:Array Oper} {Q:Exit→Act→World→Prop} {md:Region.Mode} {S:World→Prop} {ds:List Nat}
def dc (P:Program) (md:Region.Mode) (ops:Array Oper) (Q:Exit→Act→World→Prop) (S:World→Prop) (ds:List Nat) (fuel:Nat) (listed:Array Bool) (a:Act) (w:World) (rs:List Nat):Prop :=
 ∀ i∈rs,wpOp P ops Q i (fun a' w'=>(i ∉ ds→S w→S w')∧bw P md ops Q S ds fuel (listed.setIfInBounds i true) a' w') a w
theorem dc.nil {fuel:Nat} {listed:Array Bool} {a:Act} {w:World}:dc P md ops Q S ds fuel listed a w []:=fun _ h=>by cases h
theorem dc.cons {fuel:Nat} {listed:Array Bool} {a:Act} {w:World} {i:Nat} {o:Oper} {rs:List Nat} (ho:ops[i]? = some o) (hd:i ∉ ds)
  (h:∀ K':Act→World→Prop,Shut (∀ a w,S w→(S w→bw P md ops Q S ds fuel (listed.setIfInBounds i true) a w)→K' a w)→if Region.wanted o (yielded ops a.tmps) = true then Oper.wp P o a w K' Q else K' (a.put o.dst undef) w)
  (hs:dc P md ops Q S ds fuel listed a w rs):dc P md ops Q S ds fuel listed a w (i :: rs):=fun j hj=>by
 rcases List.mem_cons.1 hj with rfl | hj
 ·exact wpOp_step ho (fun K' hK=>h K' (fun a w hS hW=>hK a w ⟨fun _ _=>hS,hW hS⟩))
 ·exact hs j hj
theorem dc.oa {fuel:Nat} {listed:Array Bool} {a:Act} {w:World} {i:Nat} {o:Oper} {rs:List Nat} (ho:ops[i]? = some o) (hd:i∈ds)
  (h:∀ K':Act→World→Prop,Shut (∀ a w,bw P md ops Q S ds fuel (listed.setIfInBounds i true) a w→K' a w)→if Region.wanted o (yielded ops a.tmps) = true then Oper.wp P o a w K' Q else K' (a.put o.dst undef) w)
  (hs:dc P md ops Q S ds fuel listed a w rs):dc P md ops Q S ds fuel listed a w (i :: rs):=fun j hj=>by
 rcases List.mem_cons.1 hj with rfl | hj
 ·exact wpOp_step ho (fun K' hK=>h K' (fun a w hW=>hK a w ⟨fun hn=>absurd hd hn,hW⟩))
 ·exact hs j hj
theorem fm {rs:List Nat} {fuel:Nat} {listed:Array Bool} {a:Act} {w:World} (hr:Region.ready md ops listed = rs) (hne:rs≠[])
  (h:dc P md ops Q S ds fuel listed a w rs):bw P md ops Q S ds (fuel+1) listed a w:=kz hr hne h
theorem e9 {id n:Nat} {a:Act} {w:World} (l:Array Bool) (hm:P.follows .mixedOrders = true) (hn:ops.size = n) (hl:Array.replicate n false = l) (hS:S w.drew)
  (h:S w.drew→bw P .any ops Q S ds n l a w.drew):(Code.region id ops true).wp P Q a w:=by
 subst hn;subst hl;exact jW hm (h hS)
def mm (md:Region.Mode) (ops:Array Oper) (ds:List Nat) (l l':Array Bool) (i:Nat):Bool :=
 Region.noSelect ops && Region.free md ops l i && (Region.ready md ops l).contains i && Region.iV md ops l && Region.nC md ops l ds i && (l.setIfInBounds i true == l')
theorem fS {i:Nat} {N:Option Tmp} {oi:Oper} {v:Value} {fuel:Nat} {l:Array Bool} {a:Act} {w:World} (l':Array Bool) (hi:ops[i]? = some oi) (hN:oi.dst = N) (hc:mm md ops ds l l' i = true)
  (hQ:∀ c a w,Q (.panic c) (a.put oi.dst v) w→Q (.panic c) a w) (hy:YieldsIf P ops S oi v a) (hS:S w) {a':Act} (ha:a.put N v = a')
  (h:bw P md ops Q S ds fuel l' a' w):bw P md ops Q S ds (fuel+1) l a w:=by
 subst ha;subst hN;simp only [mm,Bool.and_eq_true,beq_iff_eq] at hc;obtain ⟨⟨⟨⟨⟨h1,h2⟩,h3⟩,h4⟩,h5⟩,j⟩:=hc;subst j;exact jU hi h1 h2 h3 h4 h5 hQ hy hS h
def qw (md:Region.Mode) (ops:Array Oper) (l l':Array Bool) (i:Nat):Bool :=
 Region.noSelect ops && Region.free md ops l i && (Region.ready md ops l).contains i && (l.setIfInBounds i true == l')
theorem dF {i:Nat} {N:Option Tmp} {oi:Oper} {v:Value} {fuel:Nat} {l:Array Bool} {a:Act} {w:World} (l':Array Bool) (hi:ops[i]? = some oi) (hN:oi.dst = N) (hc:qw md ops l l' i = true)
  (hQ:∀ c a w,Q (.panic c) (a.put oi.dst v) w→Q (.panic c) a w) (hy:Yields P ops oi v a) {a':Act} (ha:a.put N v = a')
  (h:bw P md ops Q S ds fuel l' a' w):bw P md ops Q S ds (fuel+1) l a w:=by
 subst ha;subst hN;simp only [qw,Bool.and_eq_true,beq_iff_eq] at hc;obtain ⟨⟨⟨h1,h2⟩,h3⟩,j⟩:=hc;subst j;exact kx hi (Region.noSelect_spec h1) hQ fuel l a w (Region.free_spec hi h2) (by simpa using h3) hy h
def jd (md:Region.Mode) (ops:Array Oper) (l l':Array Bool) (i:Nat):Bool:=(Region.ready md ops l == [i]) && (l.setIfInBounds i true == l')
theorem eW {i:Nat} {N:Option Tmp} {oi:Oper} {fuel:Nat} {l:Array Bool} {a:Act} {w:World} (l':Array Bool) (hi:ops[i]? = some oi) (hN:oi.dst = N) (hc:jd md ops l l' i = true) (hd:i ∉ ds)
  (h:∀ K:Act→World→Prop,Shut (∀ a' w',S w'→(S w'→bw P md ops Q S ds fuel l' a' w')→K a' w')→if Region.wanted oi (yielded ops a.tmps) = true then Oper.wp P oi a w K Q else K (a.put N undef) w) :
  bw P md ops Q S ds (fuel+1) l a w:=by
 subst hN;simp only [jd,Bool.and_eq_true,beq_iff_eq] at hc;obtain ⟨h1,h2⟩:=hc;subst h2;exact fm h1 (by simp) (dc.cons hi hd (fun K hK=>h K hK) dc.nil)
theorem sG {i:Nat} {N:Option Tmp} {oi:Oper} {fuel:Nat} {l:Array Bool} {a:Act} {w:World} (l':Array Bool) (hi:ops[i]? = some oi) (hN:oi.dst = N) (hc:jd md ops l l' i = true) (hd:i∈ds)
  (h:∀ K:Act→World→Prop,Shut (∀ a' w',bw P md ops Q S ds fuel l' a' w'→K a' w')→if Region.wanted oi (yielded ops a.tmps) = true then Oper.wp P oi a w K Q else K (a.put N undef) w) :
  bw P md ops Q S ds (fuel+1) l a w:=by
 subst hN;simp only [jd,Bool.and_eq_true,beq_iff_eq] at hc;obtain ⟨h1,h2⟩:=hc;subst h2;exact fm h1 (by simp) (dc.oa hi hd (fun K hK=>h K hK) dc.nil)
theorem eZ {l:Array Bool} {a:Act} {w:World} {n:Nat} (hr:(Region.ready md ops l == []) = true) (h:Q .normal a w):bw P md ops Q S ds n l a w:=jV (by simpa using hr) h n
theorem oc {i j:Nat} {Ni Nj:Option Tmp} {oi oj:Oper} {fuel:Nat} {l:Array Bool} {a:Act} {w:World} (li lj:Array Bool) (hi:ops[i]? = some oi) (hj:ops[j]? = some oj) (hNi:oi.dst = Ni) (y:oj.dst = Nj)
  (hc:(Region.ready md ops l == [i,j] && l.setIfInBounds i true == li && l.setIfInBounds j true == lj) = true) (hdi:i ∉ ds) (hdj:j ∉ ds)
  (h1:∀ K:Act→World→Prop,Shut (∀ a' w',S w'→(S w'→bw P md ops Q S ds fuel li a' w')→K a' w')→if Region.wanted oi (yielded ops a.tmps) = true then Oper.wp P oi a w K Q else K (a.put Ni undef) w)
  (h2:∀ K:Act→World→Prop,Shut (∀ a' w',S w'→(S w'→bw P md ops Q S ds fuel lj a' w')→K a' w')→if Region.wanted oj (yielded ops a.tmps) = true then Oper.wp P oj a w K Q else K (a.put Nj undef) w) :
  bw P md ops Q S ds (fuel+1) l a w:=by
 subst hNi;subst y;simp only [Bool.and_eq_true,beq_iff_eq] at hc;obtain ⟨⟨h3,h4⟩,h5⟩:=hc;subst h4;subst h5;exact fm h3 (by simp) (dc.cons hi hdi (fun K hK=>h1 K hK) (dc.cons hj hdj (fun K hK=>h2 K hK) dc.nil))
theorem rO {i j k:Nat} {Ni Nj Nk:Option Tmp} {oi oj ok:Oper} {fuel:Nat} {l:Array Bool} {a:Act} {w:World} (li lj lk:Array Bool) (hi:ops[i]? = some oi) (hj:ops[j]? = some oj) (hk:ops[k]? = some ok) (hNi:oi.dst = Ni) (y:oj.dst = Nj) (z:ok.dst = Nk)
  (hc:(Region.ready md ops l == [i,j,k] && l.setIfInBounds i true == li && l.setIfInBounds j true == lj && l.setIfInBounds k true == lk) = true) (hdi:i ∉ ds) (hdj:j ∉ ds) (hdk:k ∉ ds)
  (h1:∀ K:Act→World→Prop,Shut (∀ a' w',S w'→(S w'→bw P md ops Q S ds fuel li a' w')→K a' w')→if Region.wanted oi (yielded ops a.tmps) = true then Oper.wp P oi a w K Q else K (a.put Ni undef) w)
  (h2:∀ K:Act→World→Prop,Shut (∀ a' w',S w'→(S w'→bw P md ops Q S ds fuel lj a' w')→K a' w')→if Region.wanted oj (yielded ops a.tmps) = true then Oper.wp P oj a w K Q else K (a.put Nj undef) w)
  (h3:∀ K:Act→World→Prop,Shut (∀ a' w',S w'→(S w'→bw P md ops Q S ds fuel lk a' w')→K a' w')→if Region.wanted ok (yielded ops a.tmps) = true then Oper.wp P ok a w K Q else K (a.put Nk undef) w) :
  bw P md ops Q S ds (fuel+1) l a w:=by
 subst hNi;subst y;subst z;simp only [Bool.and_eq_true,beq_iff_eq] at hc;obtain ⟨⟨⟨h4,h5⟩,I⟩,J⟩:=hc;subst h5;subst I;subst J;exact fm h4 (by simp) (dc.cons hi hdi (fun K hK=>h1 K hK) (dc.cons hj hdj (fun K hK=>h2 K hK) (dc.cons hk hdk (fun K hK=>h3 K hK) dc.nil)))
def cE:Act→List (Tmp×Value)→Act
 | a,[]=>a
 | a,(n,v) :: r=>cE (a.put (some n) v) r
theorem iH {σ:Type} {fuel:Nat} {l:Array Bool} {a:Act} {w:World} (fuel':Nat) (l':Array Bool) (ns:σ→List (Tmp×Value)) (F:σ→World→Prop)
  (hcont:∀ s w',F s w'→bw P md ops Q S ds fuel' l' (cE a (ns s)) w')
  (h:(∀ s w',F s w'→bw P md ops Q S ds fuel' l' (cE a (ns s)) w')→bw P md ops Q S ds fuel l a w):bw P md ops Q S ds fuel l a w:=h hcont
theorem bX {fuel:Nat} {l:Array Bool} {a a':Act} {w:World} (ha:a = a') (h:bw P md ops Q S ds fuel l a' w):bw P md ops Q S ds fuel l a w:=by
 subst ha;exact h
theorem sH {oi:Oper} {N:Option Tmp} {a:Act} {w:World} {K:Act→World→Prop} (f:FuncId) (args:Array Value) (hw:Region.wanted oi (yielded ops a.tmps) = true) (hN:oi.dst = N) (hrun:(execOp a.eval oi).run P w = .ok (.enter f args) w)
  (h:Calls P f args w fun e w'=>∃ v,e = .returned v∧K (a.put N v) w'):if Region.wanted oi (yielded ops a.tmps) = true then Oper.wp P oi a w K Q else K (a.put N undef) w:=by
 rw [if_pos hw];subst hN;unfold Oper.wp;rw [hrun,Oper.upon_enter];refine h.mono fun e w'' hh=>?_
 obtain ⟨v,rfl,hk⟩:=hh;exact hk
theorem iX {f:FuncId} {fn:Func} (hf:P.funcs[f]? = some fn) (hname:(fn.name == "runtime.NumGoroutine") = false) (hb:fn.body.isSome = true) (args:Array Value) (w:World):(callFunc f args).run P w = .ok (.enter f args) w:=by
 have h1:fn.name ≠ "runtime.NumGoroutine" := by simpa using hname
 obtain ⟨c,hc⟩:=Option.isSome_iff_exists.1 hb;simp [callFunc,hf,h1,hc]
theorem fV {oi:Oper} {N:Option Tmp} {a:Act} {w:World} {K:Act→World→Prop} {f:FuncId} {fn:Func} {as_q:Array Operand} {ts:Array TypeId} (hf:P.funcs[f]? = some fn) (hname:(fn.name == "runtime.NumGoroutine") = false) (hb:fn.body.isSome = true) (args:Array Value)
  (hw:Region.wanted oi (yielded ops a.tmps) = true) (hN:oi.dst = N) (hop:oi.op = .call { callee:=.value (.func f),args:=as_q,argTypes:=ts }) (hargs:as_q.map a.eval = args)
  (h:Calls P f args w fun e w'=>∃ v,e = .returned v∧K (a.put N v) w'):if Region.wanted oi (yielded ops a.tmps) = true then Oper.wp P oi a w K Q else K (a.put N undef) w:=by
 refine sH f args hw hN ?_ h;have he:=iX hf hname hb args w;unfold execOp;simp [hop,resolve,Deferred.ofValue,invoke,Act.eval,hargs,he]
theorem rP {rest:List Oper} {oi:Oper} {a:Act} {w:World} (N:Option Tmp) (hd:oi.dst = N) (hg:oi.guard = none) {f:FuncId} {fn:Func} {as_q:Array Operand} {ts:Array TypeId} (hf:P.funcs[f]? = some fn) (hname:(fn.name == "runtime.NumGoroutine") = false) (hb:fn.body.isSome = true) (args:Array Value)
  (hop:oi.op = .call { callee:=.value (.func f),args:=as_q,argTypes:=ts }) (hargs:as_q.map a.eval = args)
  (h:Calls P f args w fun e w'=>∃ v,e = .returned v∧wpList P ops Q rest (a.put N v) w'):wpList P ops Q (oi :: rest) a w:=by
 refine wpList_plain hg fun K hK=>?_
 have he:=iX hf hname hb args w;have hrun:(execOp a.eval oi).run P w = .ok (.enter f args) w:=by
  unfold execOp;simp [hop,resolve,Deferred.ofValue,invoke,Act.eval,hargs,he]
 unfold Oper.wp;rw [hrun,Oper.upon_enter];refine h.mono fun e w'' hh=>?_
 obtain ⟨v,rfl,hk⟩:=hh;subst hd;exact hK _ _ hk
theorem mS {oi:Oper} {N:Option Tmp} {a:Act} {w w1:World} {v:Value} {K:Act→World→Prop} (hw:Region.wanted oi (yielded ops a.tmps) = true) (hN:oi.dst = N) (hrun:(execOp a.eval oi).run P w = .ok (.value v) w1)
  (h:K (a.put N v) w1):if Region.wanted oi (yielded ops a.tmps) = true then Oper.wp P oi a w K Q else K (a.put N undef) w:=by
 rw [if_pos hw];subst hN;unfold Oper.wp;rw [hrun];exact h
theorem nD {oi:Oper} {a:Act} {w w1:World} {K:Act→World→Prop} (hw:Region.wanted oi (yielded ops a.tmps) = true) (hN:oi.dst = none) (hrun:(execOp a.eval oi).run P w = .ok .skip w1)
  (h:K a w1):if Region.wanted oi (yielded ops a.tmps) = true then Oper.wp P oi a w K Q else K (a.put none undef) w:=by
 rw [if_pos hw];unfold Oper.wp;rw [hrun];show K (a.put oi.dst undef) w1;rw [hN];exact h
theorem b9 (n:Int):IntKind.i64.wrap n = Go.RowKit.wrap64 n:=by unfold Go.RowKit.wrap64;exact IntKind.wrap_i64 n
theorem bB (n:Int):IntKind.i32.wrap n = Go.RowKit.wrap32 n:=by unfold Go.RowKit.wrap32;exact IntKind.wrap_i32 n
end
end Go.Proofs.ag.ct
end
section
namespace Go.Proofs.ag.b8
open Go.RowKit
namespace Kd
def tag {α:Type} (f:Nat→Nat) (d:Kd α):Kd (α×Nat) where
 sz:=d.sz
 E:=d.E
 K:=fun w x cs=>d.K w x.1 cs
 M:=fun w base ok x cs=>d.M w base (fun k=>ok k∧f k = x.2) x.1 cs
 K_len:=fun h=>d.K_len h
 K_one:=fun h=>d.K_one h
 K_below:=fun hb h=>d.K_below hb h
 K_of_M:=fun h=>d.K_of_M h
 M_mono:=fun hok h=>d.M_mono (fun k hk=>⟨hok k hk.1,hk.2⟩) h
 M_bound:=fun h=>d.M_mono (fun _ hk=>⟨⟨hk.1.1,hk.2⟩,hk.1.2⟩) (d.M_bound h)
 M_move:=fun hm h=>d.M_move (fun k hk=>hm k hk.1) h
 M_lower:=fun hb h=>d.M_lower hb h
def bare {α:Type} (d:Kd α):Kd α where
 sz:=d.sz
 E:=d.E
 K:=d.K
 M:=fun w base _ x cs=>d.M w base (fun _=>False) x cs
 K_len:=fun h=>d.K_len h
 K_one:=fun h=>d.K_one h
 K_below:=fun hb h=>d.K_below hb h
 K_of_M:=fun h=>d.K_of_M h
 M_mono:=fun _ h=>h
 M_bound:=fun h=>h
 M_move:=fun _ h=>d.M_move (fun _ hk=>hk.elim) h
 M_lower:=fun hb h=>d.M_lower hb h
def raw (sz:Nat):Kd (List Value) where
 sz:=sz
 E:=[]
 K:=fun _ x cs=>cs = x∧cs.length = sz∧∀ u∈cs,u.oneCell' = true
 M:=fun _ _ _ x cs=>cs = x∧cs.length = sz∧∀ u∈cs,u.oneCell' = true
 K_len:=fun h=>h.2.1
 K_one:=fun h=>h.2.2
 K_below:=fun _ h=>h
 K_of_M:=fun h=>h
 M_mono:=fun _ h=>h
 M_bound:=fun h=>h
 M_move:=fun _ h=>h
 M_lower:=fun _ h=>h
def S {α:Type} (d:Kd α) (e:Nat) (w:World) (base:Nat) (ok:Nat→Prop) (v:Value) (xs:List α):Prop:=∃ f,(tag f d).R e w base ok v xs.zipIdx
section
variable {α β:Type} {d:Kd α} {d':Kd β} {e e':Nat} {w w1 W:World} {base b:Nat} {ok ok' okv oku:Nat→Prop} {u v:Value} {xs:List α} {ys:List β}
theorem rQ {xs:List α} {j:Nat} {p:α} (h:xs[j]? = some p):xs.zipIdx[j]? = some (p,j):=by rw [List.getElem?_zipIdx,h,Nat.zero_add];rfl
theorem sY (h:S d e w base ok v xs):d.R e w base ok v xs:=by
 obtain ⟨f,y,inner,ho,hr⟩:=h;rw [List.length_zipIdx] at ho;exact ⟨y,inner,ho,by have:=hr.1;rw [List.length_zipIdx] at this;exact this,fun j p hj=>d.M_mono (fun _ hk=>hk.1) (hr.2 j (p,j) (rQ hj))⟩
theorem rR {ad:Addr} {n cap:Nat} (h:d.R e w base ok (.slice (some ad) n cap) xs):∃ g,ad = ⟨g,0,none⟩:=by
 obtain ⟨_,inner,ho,hr⟩:=h;rcases ho.2 with ⟨hv,_⟩ | ⟨g,cap',cur,hv,_⟩
 ·cases hv
 ·injection hv with ha _ _
  injection ha with ha
  exact ⟨g,ha⟩
theorem jF (hE:d.E = []) (h:d.R e w base ok v xs):d.R e w base (fun k=>some k = v.ownBlock) v xs:=by
 obtain ⟨j,inner,ho,hr⟩:=h;refine ⟨fun k hk=>hk.symm,inner,ho,hr.gE (fun p c hp=>d.M_mono (fun k hk=>?_) (d.M_bound hp))⟩;obtain ⟨_,_,_,q,hq,_⟩:=hk;rw [hE] at hq;cases hq
theorem rj (d:Kd α) (e:Nat) (w:World) (base:Nat) (ok:Nat→Prop):S d e w base ok (.slice none 0 0) []:=⟨fun _=>0,jt _ _ _ _ _⟩
theorem fL (h:S d e w base ok v xs) (hok:∀ k,ok k→ok' k):S d e w base ok' v xs:=by
 obtain ⟨f,h⟩:=h;exact ⟨f,aX h hok⟩
theorem lu (h:S d e w base ok v xs):S d e w base (fun k=>ok k∧base≤k∧k < w.heap.size∧∃ q,q∈e :: d.E∧∃ cells,w.heap[k]? = some (.cells cells q (0,0))) v xs:=by
 obtain ⟨f,h⟩:=h;exact ⟨f,fA h⟩
theorem rS (h:S d e w base ok v xs) (hm:∀ k,ok k→w1.heap[k]? = w.heap[k]?):S d e w1 base ok v xs:=by
 obtain ⟨f,h⟩:=h;exact ⟨f,jb h hm⟩
theorem qx {base':Nat} (h:S d e w base ok v xs) (hb:base'≤base):S d e w base' ok v xs:=by
 obtain ⟨f,h⟩:=h;exact ⟨f,bE h hb⟩
theorem p4 (h:S d e w base ok v xs) (hm:∀ k,ok k→k < w.heap.size→w1.heap[k]? = w.heap[k]?):S d e w1 base ok v xs :=
 fL (rS (lu h) (fun k hk=>hm k hk.1 hk.2.2.1)) (fun _ hk=>hk.1)
theorem gH (h:S d e w base ok v xs) (hb:Below w.heap.size w w1):S d e w1 base ok v xs:=p4 h (fun k _ hk=>hb.block k hk)
theorem qy (h:S d e w base ok v xs) (o:Obj):S d e (w.alloc o) base ok v xs:=gH h (dD (Below.refl _ _) o)
theorem rT (h:S d e w base ok v xs):S d e w.drew base ok v xs:=gH h (fR (Below.refl _ _))
theorem qz (h:S d e w base ok v xs) (m:Nat):S d e (w.drewN m) base ok v xs:=gH h (dh (Below.refl _ _) m)
theorem p5 (h:S d e w base ok v xs) {p:Addr} (hok:∀ k,ok k→k≠p.block) (u:Value):S d e (w.setCell p u) base ok v xs:=p4 h (fun k ho _=>Below.heap_setCell w p u k (hok k ho))
theorem jG (h:S d e w base ok v xs):∀ k,v.ownBlock = some k→∃ cells,w.heap[k]? = some (.cells cells e (0,0)):=nB (sY h)
theorem rU (h:S d e w base ok v xs):∀ k,v.ownBlock = some k→base≤k:=bY (sY h)
theorem rV (h:S d e w1 W.heap.size ok v xs) (hlt:∀ k,u.ownBlock = some k→k < W.heap.size):S d e w1 W.heap.size (fun k=>ok k∧some k≠u.ownBlock) v xs:=by
 obtain ⟨f,h⟩:=h;exact ⟨f,dx h hlt⟩
theorem qA {v1:Value} (h:S d e W base (fun k=>ok k∧some k≠v.ownBlock) u xs) (hg:W.grownBy w1 v.ownBlock) (hat:v1.ownBlock = v.ownBlock∨∃ b,v1.ownBlock = some b∧W.heap.size≤b):S d e w1 base (fun k=>ok k∧some k≠v1.ownBlock) u xs:=by
 obtain ⟨f,h⟩:=h;exact ⟨f,ek h hg hat⟩
theorem rW (h:(bare d).R e w base ok v xs):S d e w base ok v xs:=by
 obtain ⟨y,inner,ho,hr⟩:=h;refine ⟨fun _=>0,y,inner,by rw [List.length_zipIdx];exact ho,by rw [List.length_zipIdx];exact hr.1,fun j p hj=>?_⟩;rw [List.getElem?_zipIdx,Nat.zero_add] at hj;obtain ⟨x,hx,rfl⟩:=Option.map_eq_some_iff.1 hj;exact d.M_mono (fun _ hk=>hk.elim) (hr.2 j x hx)
theorem sI {f f':Nat→Nat} {zs:List (α×Nat)} (h:(tag f d).R e w base ok v zs) (hf:∀ k,ok k→k < w.heap.size→f' k = f k):(tag f' d).R e w base ok v zs:=by
 obtain ⟨y,inner,ho,hr⟩:=fA h;exact ⟨fun k hk=>(y k hk).1,inner,ho,hr.1,fun j p hj=>d.M_mono (fun k hk=>⟨⟨hk.1.1.1,hk.1.2⟩,(hf k hk.1.1.1 hk.1.1.2.2.1).trans hk.2⟩) (hr.2 j p hj)⟩
end
section
variable {α β:Type} {d:Kd α} {d':Kd β} {e e' g:Nat} {w w1 W:World} {base b:Nat} {ok ok' okv oku:Nat→Prop} {u v:Value} {xs:List α} {ys:List β}
theorem rX (h:S d e w base ok v xs) (hok:∀ k,ok k→k≠g):some g≠v.ownBlock:=rE (sY h) hok
theorem p6 (h:S d e w base ok v xs) (a:Nat) (ha:w.heap.size≤a):S d e w base (fun k=>ok k∧k≠a) v xs:=fL (lu h) (fun k hk=>⟨hk.1,by have:=hk.2.2.1;omega⟩)
theorem p7 (xs:List α) (p:α):(xs ++ [p]).zipIdx = xs.zipIdx ++ [(p,xs.length)]:=by rw [List.zipIdx_append];simp
end
section
open Classical in
theorem sJ {α:Type} {d:Kd α} {e base:Nat} {okv:Nat→Prop} {w:World} {v:Value} {xs:List α} (h:S d e w base okv v xs) (m:Nat) (okp:Nat→Prop) (hap:∀ k,okp k→¬ okv k):∃ f,(∀ k,okp k→f k = m)∧(tag f d).R e w base okv v xs.zipIdx:=by
 obtain ⟨f,h⟩:=h;exact ⟨fun k=>if okp k then m else f k,fun k hk=>if_pos hk,sI h (fun k hk _=>if_neg (fun h2=>hap k h2 hk))⟩
variable {P:Program} {ops:Array Oper} {rest:List Oper} {o:Oper} {a:Act} {Q:Exit→Act→World→Prop} {Kc:Act→World→Prop} {α:Type}
theorem p8 (d:Kd α) {w0 W:World} (base:Nat) (hgd:o.guard = none) (s x:Operand) (t e:TypeId) (z:Value) (bytes:Nat)
  (ho:o.op = .call { callee:=.builtin .append,args:=#[s,x],argTypes:=#[t,t] })
  (ht:P.underlying t = some (.slice e)) (hinfo:(P.info? e).map (fun i=>(i.zero,i.size,i.bytes)) = some (some z,d.sz,bytes)) (hz:z.cells.size = d.sz) (y:0 < d.sz) (I:0 < bytes)
  (v:Value) (xs:List α) (p:α) (cs:List Value) (ok okp:Nat→Prop) (hs:a.eval s = v) (hx:a.eval x = .slice (some ⟨W.heap.size,0,none⟩) 1 1) (hp:d.M W base okp p cs) (j:∀ k,okp k→ok k∧some k≠v.ownBlock) (hfresh:∀ k,W.heap.size≤k→ok k)
  (HO:S d e W base (fun k=>ok k∧¬ okp k) v xs) (HB:Below base w0 W) (hbase:base≤W.heap.size) (hl:(xs.length+1) * bytes≤140737488355328)
  (h:∀ v1 w1,S d e w1 base ok v1 (xs ++ [p])→Below base w0 w1→W.grownBy w1 v.ownBlock→(v1.ownBlock = v.ownBlock∨∃ b,v1.ownBlock = some b∧W.heap.size≤b)→wpList P ops Q rest (a.put o.dst v1) w1) :
  wpList P ops Q (o :: rest) a (W.alloc (.cells cs.toArray e)):=by
 obtain ⟨f,hf,hR⟩:=sJ HO xs.length okp (fun _ hk h2=>h2.2 hk);refine fB (tag f d) base hgd s x t e z bytes ho ht hinfo hz y I v xs.zipIdx (p,xs.length) cs ok okp hs hx (d.M_mono (fun k hk=>⟨hk,hf k hk⟩) hp) j hfresh (aX hR (fun _ hk=>hk.1)) HB hbase (by rw [List.length_zipIdx];exact hl) ?_;intro v1 w1 hr;rw [← p7] at hr;exact h v1 w1 ⟨f,hr⟩
theorem sK (d:Kd α) {w0 W:World} (base e:Nat) (hgd:o.guard = none) {N:Tmp} (_hd:o.dst = some N) {xs:List α} {inner:List Value} {ok okp:Nat→Prop}
  (hrun:(execOp a.eval o).run P W = .ok (.value (.slice (some ⟨W.heap.size,0,none⟩) xs.length xs.length)) (W.alloc (.cells inner.toArray e)))
  (hrep:cm (d.M W base (fun _=>False)) d.sz xs inner) (_hok:∀ k,okp k→ok k) (hfresh:ok W.heap.size) (HB:Below base w0 W) (hbase:base≤W.heap.size) (hm:xs.length≤9223372036854775807)
  (h:∀ v1 w1,S d e w1 base ok v1 xs→Below base w0 w1→W.grownBy w1 none→(∃ b,v1.ownBlock = some b∧W.heap.size≤b)→wpList P ops Q rest (a.put o.dst v1) w1):wpList P ops Q (o :: rest) a W :=
 mh (bare d) base e hgd _hd (ok:=ok) (okp:=ok) hrun hrep (fun _ hk=>hk) hfresh HB hbase hm (fun v1 w1 hr=>h v1 w1 (rW hr))
end
def tA {α:Type} (f:Nat→Nat) (d:Kd α) (i:Nat) (c:List Value):Kd (α×Nat) where
 sz:=d.sz
 E:=d.E
 K:=fun w x cs=>(x.2 = i→cs = c∧cs.length = d.sz∧∀ u∈cs,u.oneCell' = true)∧(x.2≠i→d.K w x.1 cs)
 M:=fun w base ok x cs=>(x.2 = i→cs = c∧cs.length = d.sz∧∀ u∈cs,u.oneCell' = true)∧(x.2≠i→d.M w base (fun k=>ok k∧f k = x.2) x.1 cs)
 K_len:=fun {w x cs} h=>by
  by_cases hx:x.2 = i
  ·exact (h.1 hx).2.1
  ·exact d.K_len (h.2 hx)
 K_one:=fun {w x cs} h=>by
  by_cases hx:x.2 = i
  ·exact (h.1 hx).2.2
  ·exact d.K_one (h.2 hx)
 K_below:=fun hb h=>⟨h.1,fun hx=>d.K_below hb (h.2 hx)⟩
 K_of_M:=fun h=>⟨h.1,fun hx=>d.K_of_M (h.2 hx)⟩
 M_mono:=fun hok h=>⟨h.1,fun hx=>d.M_mono (fun k hk=>⟨hok k hk.1,hk.2⟩) (h.2 hx)⟩
 M_bound:=fun h=>⟨h.1,fun hx=>d.M_mono (fun _ hk=>⟨⟨hk.1.1,hk.2⟩,hk.1.2⟩) (d.M_bound (h.2 hx))⟩
 M_move:=fun hm h=>⟨h.1,fun hx=>d.M_move (fun k hk=>hm k hk.1) (h.2 hx)⟩
 M_lower:=fun hb h=>⟨h.1,fun hx=>d.M_lower hb (h.2 hx)⟩
def H {α:Type} (d:Kd α) (e:Nat) (w:World) (base:Nat) (ok:Nat→Prop) (v:Value) (xs:List α) (i:Int) (j:Nat→Prop) (c:List Value):Prop :=
 (∀ k,j k→ok k)∧∃ f,(tA f d i.toNat c).R e w base (fun k=>ok k∧¬ j k) v xs.zipIdx
end Kd
end Go.Proofs.ag.b8
end
section
namespace Go.Proofs.ag.b8
open Go.RowKit
namespace Kd
structure Heap {α:Type} (d:Kd α):Prop where
 K:∀ {w w1:World} {x:α} {cs:List Value},(∀ k,k < w.heap.size→w1.heap[k]? = w.heap[k]?)→d.K w x cs→d.K w1 x cs
theorem od {w w1:World} (hb:∀ k,k < w.heap.size→w1.heap[k]? = w.heap[k]?) {a:Addr} {v:Value} (h:w.cell? a = some v):w1.cell? a = some v:=by
 have:=hb a.block (World.block_lt_of_cell? w a h);simpa [World.cell?,this] using h
theorem Heap.C {α:Type} {d:Kd α} (hd:Heap d) {w w1:World} {A:Option Addr} {n:Nat} {xs:List α} (hb:∀ k,k < w.heap.size→w1.heap[k]? = w.heap[k]?) (h:d.C w A n xs):d.C w1 A n xs :=
 ⟨h.1,h.2.1,fun hn=>by
  obtain ⟨ad,e,hc⟩:=h.2.2 hn;refine ⟨ad,e,fun j p hj=>?_⟩;obtain ⟨c,hs,hr,hcell⟩:=hc j p hj;exact ⟨c,hs,hd.K hb hr,fun i u hu=>od hb (hcell i u hu)⟩⟩
end Kd
def Kept (w W:World) (S:Nat→Prop):Prop:=w.heap.size≤W.heap.size∧∀ i,i < w.heap.size→¬ S i→W.heap[i]? = w.heap[i]?
section
variable {w W W2:World} {S S2 S':Nat→Prop}
theorem Kept.refl (w:World) (S:Nat→Prop):Kept w w S:=⟨Nat.le_refl _,fun _ _ _=>rfl⟩
theorem Kept.fz (h:Below w.heap.size w W) (S:Nat→Prop):Kept w W S:=⟨h.size,fun i hi _=>h.block i hi⟩
theorem Kept.mono (h:Kept w W S) (hs:∀ k,S k→S' k):Kept w W S':=⟨h.1,fun i hi hn=>h.2 i hi (fun hk=>hn (hs i hk))⟩
theorem Kept.pb (h:Kept w W S) (k:Kept W W2 S2) (hs:∀ k,S2 k→S k∨w.heap.size≤k):Kept w W2 S :=
 ⟨Nat.le_trans h.1 k.1,fun i hi hn=>(k.2 i (Nat.lt_of_lt_of_le hi h.1) (fun h2=>(hs i h2).elim hn (fun h3=>by omega))).trans (h.2 i hi hn)⟩
theorem Kept.me {row:Option Nat} (hg:W.grownBy W2 row) (h:Kept w W S) (hr:∀ k,row = some k→S k∨w.heap.size≤k):Kept w W2 S :=
 h.pb (S2:=fun k=>row = some k) ⟨hg.size,fun i hi hn=>hg.block i hi (fun he=>hn he.symm)⟩ hr
theorem Kept.below (h:Kept w W S) (hb:Below W.heap.size W W2):Kept w W2 S:=h.pb (Kept.fz hb (fun _=>False)) (fun _ hk=>hk.elim)
theorem Kept.alloc (h:Kept w W S) (o:Obj):Kept w (W.alloc o) S:=h.below (dD (Below.refl _ _) o)
theorem Kept.drew (h:Kept w W S):Kept w W.drew S:=h
theorem Kept.drewN (h:Kept w W S) (m:Nat):Kept w (W.drewN m) S:=h
theorem Kept.setCell (h:Kept w W S) {p:Addr} (hp:S p.block∨w.heap.size≤p.block) (u:Value):Kept w (W.setCell p u) S :=
 h.pb (S2:=fun k=>k = p.block) ⟨by simp [World.setCell],fun i _ hn=>Below.heap_setCell W p u i hn⟩ (fun k hk=>by rw [hk];exact hp)
theorem Kept.keep {g:Nat} (h:bu w W g none) (k:Kept W W2 S2) (hs:∀ k,S2 k→w.heap.size≤k):bu w W2 g none :=
 ⟨Nat.le_trans h.1 k.1,fun i hi hg hr=>(k.2 i (Nat.lt_of_lt_of_le hi h.1) (fun h2=>by have:=hs i h2;omega)).trans (h.2 i hi hg hr)⟩
end
end Go.Proofs.ag.b8
end
section
namespace Go.Proofs.ag.b8
open Go.RowKit
def fM (P:World→Prop) (W:World) (ok:Nat→Prop):Prop:=∀ W':World,(∀ k,ok k→k < W.heap.size→W'.heap[k]? = W.heap[k]?)→P W'
theorem qB {W W1:World} {k:Nat} (h:W1.heap[k]? = W.heap[k]?) (hlt:k < W.heap.size):k < W1.heap.size:=by
 rw [Array.getElem?_eq_getElem hlt] at h;exact (Array.getElem?_eq_some_iff.1 h).1
namespace fM
variable {P Q:World→Prop} {W W1:World} {ok ok':Nat→Prop}
theorem now (h:fM P W ok):P W:=h W (fun _ _ _=>rfl)
theorem mono (h:fM P W ok) (hok:∀ k,ok k→ok' k):fM P W ok':=fun W' hW=>h W' (fun k hk hlt=>hW k (hok k hk) hlt)
theorem bound (h:fM P W ok):fM P W (fun k=>ok k∧k < W.heap.size):=fun W' hW=>h W' (fun k hk hlt=>hW k ⟨hk,hlt⟩ hlt)
theorem step (h:fM P W ok) (hm:∀ k,ok k→k < W.heap.size→W1.heap[k]? = W.heap[k]?):fM P W1 ok:=fun W' hW=>h W' (fun k hk hlt=>(hW k hk (qB (hm k hk hlt) hlt)).trans (hm k hk hlt))
theorem imp (h:fM P W ok) (hi:∀ W',P W'→Q W'):fM Q W ok:=fun W' hW=>hi W' (h W' hW)
theorem old (h:fM P W ok) (hb:Below W.heap.size W W1):fM P W1 (fun k=>ok k∧k < W.heap.size):=(h.bound).step (fun k _ hlt=>hb.block k hlt)
end fM
namespace Kd
def F {α:Type} (d:Kd α) (W:World) (ok:Nat→Prop) (A:Option Addr) (n:Nat) (xs:List α):Prop:=fM (fun W=>d.C W A n xs) W ok
def FK {α:Type} (d:Kd α) (W:World) (ok:Nat→Prop) (x:α) (c:List Value):Prop:=fM (fun W=>d.K W x c) W ok
section
variable {α β:Type} {d:Kd α} {e base n n' cc g N:Nat} {ok ok' okp S:Nat→Prop} {w w0 w1 W W1:World} {A A':Option Addr} {u v v1:Value} {xs:List α} {xs':List β} {d':Kd β} {x:α} {c:List Value}
theorem rq (h:F d W ok A n xs):d.C W A n xs:=fM.now h
theorem lz (h:F d W ok A n xs) (hok:∀ k,ok k→ok' k):F d W ok' A n xs:=fM.mono h hok
theorem nE (h:F d W ok A n xs):F d W (fun k=>ok k∧k < W.heap.size) A n xs:=fM.bound h
theorem pc (h:F d W ok A n xs) (hm:∀ k,ok k→k < W.heap.size→W1.heap[k]? = W.heap[k]?):F d W1 ok A n xs:=fM.step h hm
theorem jH (h:F d W ok A n xs) (hb:Below W.heap.size W W1):F d W1 ok A n xs:=pc h (fun k _ hlt=>hb.block k hlt)
theorem qC (h:F d W ok A n xs) (o:Obj):F d (W.alloc o) ok A n xs:=jH h (dD (Below.refl _ _) o)
theorem rY (h:F d W ok A n xs):F d W.drew ok A n xs:=jH h (fR (Below.refl _ _))
theorem qD (h:F d W ok A n xs) (m:Nat):F d (W.drewN m) ok A n xs:=jH h (dh (Below.refl _ _) m)
theorem sL (h:F d W ok A n xs) {p:Addr} (hok:∀ k,ok k→k≠p.block) (u:Value):F d (W.setCell p u) ok A n xs:=pc h (fun k hk _=>Below.heap_setCell W p u k (hok k hk))
theorem sM (d:Kd α) (W:World) (ok:Nat→Prop):F d W ok none ([]:List α).length []:=fun W' _=>rh d W'
theorem pe (h:F d W ok A n xs) (hbase:∀ k,v.ownBlock = some k→W.heap.size≤k) (hb:Below W.heap.size W W1):F d W1 (fun k=>ok k∧some k≠v.ownBlock) A n xs :=
 lz (fM.old h hb) (fun k hk=>⟨hk.1,fun he=>by have:=hbase k he.symm;have:=hk.2;omega⟩)
theorem pg (h:F d W ok A n xs) (a:Nat) (ha:W.heap.size≤a):F d W (fun k=>ok k∧k≠a) A n xs:=lz (nE h) (fun k hk=>⟨hk.1,by have:=hk.2;omega⟩)
theorem qE (h:F d W (fun k=>ok k∧some k≠v.ownBlock) A n xs) (hg:W.grownBy W1 v.ownBlock) (hat:v1.ownBlock = v.ownBlock∨∃ b,v1.ownBlock = some b∧W.heap.size≤b):F d W1 (fun k=>ok k∧some k≠v1.ownBlock) A n xs:=by
 refine lz (fM.step (nE h) (fun k hk hlt=>hg.block k hlt hk.1.2)) (fun k hk=>⟨hk.1.1,?_⟩);rcases hat with hat | ⟨b,hb,hle⟩
 ·rw [hat];exact hk.1.2
 ·rw [hb]
  intro he;injection he with he
  have:=hk.2;omega
theorem td (h:d.R e W base ok (.slice A n cc) xs):F d W ok A n xs:=fun W' hW=>by
 have h2:=aC (jR h hW);rw [h2.1];exact h2.2.2
theorem iM (h:FK d W ok x c):d.K W x c:=fM.now h
theorem ik (h:FK d W ok x c) (hok:∀ k,ok k→ok' k):FK d W ok' x c:=fM.mono h hok
theorem jX (h:FK d W ok x c):FK d W (fun k=>ok k∧k < W.heap.size) x c:=fM.bound h
theorem jI (h:FK d W ok x c) (hm:∀ k,ok k→k < W.heap.size→W1.heap[k]? = W.heap[k]?):FK d W1 ok x c:=fM.step h hm
theorem mo (h:FK d W ok x c) {row:Option Nat} (hg:W.grownBy W1 row) (hok:∀ k,ok k→some k≠row):FK d W1 ok x c:=jI h (fun k hk hlt=>hg.block k hlt (hok k hk))
theorem qF (h:d.M W base ok x c):FK d W ok x c:=fun _ hW=>d.K_of_M (oS h hW)
theorem qG (W:World) (g:Nat):∃ W':World,(∀ k,k≠g→W'.heap[k]? = W.heap[k]?)∧∀ a:Addr,a.block = g→W'.cell? a = none:=by
 refine ⟨{ W with heap:=W.heap.setIfInBounds g (.cells #[] 0) },fun k hk=>by simp [Ne.symm hk],fun a ha=>?_⟩;subst ha;by_cases hlt:a.block < W.heap.size
 ·simp [World.cell?,hlt]
 ·simp [World.cell?,hlt]
end
end Kd
end Go.Proofs.ag.b8
end
section
namespace Go.Proofs.ag.b8
open Go.RowKit
namespace Kd
def chunks (sz:Nat) (n:Nat) (inner:List Value):List (List Value):=(List.range n).map fun j=>(inner.drop (j * sz)).take sz
theorem e5 (sz n:Nat) (inner:List Value):(chunks sz n inner).length = n:=by simp [chunks]
theorem oe {sz n:Nat} {inner:List Value} {j:Nat} (hj:j < n):(chunks sz n inner)[j]? = some ((inner.drop (j * sz)).take sz):=by simp [chunks,hj]
theorem iN {sz n:Nat} {inner:List Value} {j:Nat} {c:List Value} (h:(chunks sz n inner)[j]? = some c):c = (inner.drop (j * sz)).take sz:=by
 have hj:j < n:=by have:=(List.getElem?_eq_some_iff.1 h).1;rwa [e5] at this
 rw [oe hj] at h;injection h with h
 exact h.symm
theorem mq {α:Type} {Rr:α→List Value→Prop} {sz:Nat} {xs:List α} {inner:List Value} (h:cm Rr sz xs inner) (hR:∀ x c,Rr x c→c.length = sz∧∀ u∈c,u.oneCell' = true):cm (fun x cs=>cs = x∧cs.length = sz∧∀ u∈cs,u.oneCell' = true) sz (chunks sz xs.length inner) inner:=by
 refine ⟨by rw [e5];exact h.1,fun j p hj=>?_⟩;have hjl:j < xs.length:=by have:=(List.getElem?_eq_some_iff.1 hj).1;rwa [e5] at this
 have hp:=iN hj;exact ⟨hp.symm,hR _ _ (h.2 j _ (List.getElem?_eq_getElem hjl))⟩
section
variable {α:Type} {d:Kd α} {e base n cc g:Nat} {ok ok' okp S:Nat→Prop} {w w1 W W1:World} {A:Option Addr} {u v v1:Value} {xs:List α} {x:α} {c:List Value}
theorem sN (h:F d W ok A n xs) (z:α) (i:Int) (J:0≤i) (h1:i < n) :
  ∃ ad c,A = some ad∧c.length = d.sz∧FK d W ok (xs.getD i.toNat z) c∧(∀ j u,c[j]? = some u→W.cell? (ad.add (i.toNat * d.sz+j)) = some u)∧(0 < d.sz→ok ad.block):=by
 obtain ⟨ad,c,rfl,hcl,hK,hcc⟩:=nA (rq h) z i J h1;have hin:0 < d.sz→ok ad.block:=by
  intro hs;by_cases hk:ok ad.block
  ·exact hk
  ·obtain ⟨W',h2,h3⟩:=qG W ad.block
   obtain ⟨ad',c',he,hcl',_,y⟩:=nA (h W' (fun k hk' _=>h2 k (fun e=>hk (e ▸ hk')))) z i J h1;injection he with he
   subst he;have h4:=y 0 _ (List.getElem?_eq_getElem (by omega));rw [h3 _ (fO _ _)] at h4;cases h4
 refine ⟨ad,c,rfl,hcl,fun W' hW=>?_,hcc,hin⟩;obtain ⟨ad',c',he,hcl',hK',y⟩:=nA (h W' hW) z i J h1;injection he with he
 subst he;have hc:c = c':=by
  apply List.ext_getElem?
  intro j;by_cases hj:j < d.sz
  ·have hb:W'.heap[ad.block]? = W.heap[ad.block]?:=by
    have h5:=hcc j _ (List.getElem?_eq_getElem (by omega));have I:=World.block_lt_of_cell? W _ h5;rw [fO] at I;exact hW _ (hin (by omega)) I
   have h5:=hcc j _ (List.getElem?_eq_getElem (by omega));have I:=y j _ (List.getElem?_eq_getElem (by omega));have M:W'.cell? (ad.add (i.toNat * d.sz+j)) = W.cell? (ad.add (i.toNat * d.sz+j)):=by simp [World.cell?,fO,hb]
   rw [M,h5] at I;rw [List.getElem?_eq_getElem (by omega),List.getElem?_eq_getElem (by omega)];exact I
  ·rw [List.getElem?_eq_none (by omega),List.getElem?_eq_none (by omega)]
 rw [hc];exact hK'
def N {α:Type} (d:Kd α) (e:Nat) (w:World) (base:Nat) (ok:Nat→Prop) (v:Value) (xs:List α):Prop :=
 (∀ k,v.ownBlock = some k→ok k)∧∃ rows:List (List Value),rows.length = xs.length∧(raw d.sz).R e w base (fun k=>some k = v.ownBlock) v rows∧∀ (j:Nat) (x:α) (c:List Value),xs[j]? = some x→rows[j]? = some c→FK d w (fun k=>ok k∧some k≠v.ownBlock) x c
theorem kG {sz:Nat} {rows:List (List Value)} (h:(raw sz).R e w base ok v rows):(raw sz).R e w base (fun k=>some k = v.ownBlock) v rows:=jF rfl h
theorem qH {sz:Nat} {rows:List (List Value)} (h:(raw sz).R e w base ok v rows):(raw sz).R e w base (fun _=>True) v rows:=aX h (fun _ _=>trivial)
theorem tv (h:d.R e w base ok v xs):N d e w base ok v xs:=by
 obtain ⟨y,inner,ho,hr⟩:=h;refine ⟨y,chunks d.sz xs.length inner,e5 _ _ _,⟨fun k hk=>hk.symm,inner,by rw [e5];exact ho,mq hr (fun x c hp=>⟨d.K_len (d.K_of_M hp),d.K_one (d.K_of_M hp)⟩)⟩,fun j x c hx hc=>?_⟩;rw [iN hc];exact qF (hr.2 j x hx)
theorem tB (h:Kd.S d e w base ok v xs):N d e w base ok v xs:=tv (sY h)
theorem ru (d:Kd α) (e:Nat) (w:World) (base:Nat) (ok:Nat→Prop):N d e w base ok (.slice none 0 0) []:=tv (jt _ _ _ _ _)
theorem ck (h:N d e w base ok v xs) (hok:∀ k,ok k→ok' k):N d e w base ok' v xs:=by
 obtain ⟨y,rows,hl,hR,hf⟩:=h;exact ⟨fun k hk=>hok k (y k hk),rows,hl,hR,fun j x c hx hc=>ik (hf j x c hx hc) (fun k hk=>⟨hok k hk.1,hk.2⟩)⟩
theorem rZ (h:N d e w base ok v xs):∀ k,v.ownBlock = some k→k < w.heap.size:=by
 obtain ⟨_,rows,_,hR,_⟩:=h;exact dB hR
theorem pn (h:N d e w base ok v xs):∀ k,v.ownBlock = some k→base≤k:=by
 obtain ⟨_,rows,_,hR,_⟩:=h;exact bY hR
theorem iY (h:N d e w base ok v xs):∀ k,v.ownBlock = some k→∃ cells,w.heap[k]? = some (.cells cells e (0,0)):=by
 obtain ⟨_,rows,_,hR,_⟩:=h;exact nB hR
theorem iO (h:N d e w base ok v xs) (hok:∀ k,ok k→k≠g):some g≠v.ownBlock:=fun he=>hok g (h.1 g he.symm) rfl
theorem lA (h:N d e w base ok v xs):N d e w base (fun k=>ok k∧k < w.heap.size) v xs:=by
 have hlt:=rZ h;obtain ⟨y,rows,hl,hR,hf⟩:=h;exact ⟨fun k hk=>⟨y k hk,hlt k hk⟩,rows,hl,hR,fun j x c hx hc=>ik (jX (hf j x c hx hc)) (fun k hk=>⟨⟨hk.1.1,hk.2⟩,hk.1.2⟩)⟩
theorem gI {base':Nat} (h:N d e w base ok v xs) (hb:base'≤base):N d e w base' ok v xs:=by
 obtain ⟨j,rows,hl,hR,hf⟩:=h;exact ⟨j,rows,hl,bE hR hb,hf⟩
theorem lB (h:N d e w base ok v xs) (hm:∀ k,ok k→k < w.heap.size→w1.heap[k]? = w.heap[k]?):N d e w1 base ok v xs:=by
 obtain ⟨y,rows,hl,hR,hf⟩:=h;exact ⟨y,rows,hl,jR hR (fun k hk hlt=>hm k (y k hk.symm) hlt),fun j x c hx hc=>jI (hf j x c hx hc) (fun k hk hlt=>hm k hk.1 hlt)⟩
theorem cI (h:N d e w base ok v xs) (hb:Below w.heap.size w w1):N d e w1 base ok v xs:=lB h (fun k _ hk=>hb.block k hk)
theorem b5 (h:N d e w base ok v xs) (o:Obj):N d e (w.alloc o) base ok v xs:=cI h (dD (Below.refl _ _) o)
theorem bp (h:N d e w base ok v xs):N d e w.drew base ok v xs:=cI h (fR (Below.refl _ _))
theorem b6 (h:N d e w base ok v xs) (m:Nat):N d e (w.drewN m) base ok v xs:=cI h (dh (Below.refl _ _) m)
theorem ep (h:N d e w base ok v xs) {p:Addr} (hok:∀ k,ok k→k≠p.block) (u:Value):N d e (w.setCell p u) base ok v xs:=lB h (fun k ho _=>Below.heap_setCell w p u k (hok k ho))
theorem ey (h:N d e W base ok v xs) (hbase:∀ k,u.ownBlock = some k→W.heap.size≤k) (hb:Below W.heap.size W w1):N d e w1 base (fun k=>ok k∧some k≠u.ownBlock) v xs :=
 ck (cI (lA h) hb) (fun k hk=>⟨hk.1,fun he=>by have:=hbase k he.symm;have:=hk.2;omega⟩)
theorem ec (h:N d e w base ok v xs) (a:Nat) (ha:w.heap.size≤a):N d e w base (fun k=>ok k∧k≠a) v xs:=ck (lA h) (fun k hk=>⟨hk.1,by have:=hk.2;omega⟩)
theorem qI (h:N d e W base (fun k=>ok k∧some k≠u.ownBlock) v xs) {u1:Value} (hg:W.grownBy w1 u.ownBlock) (hat:u1.ownBlock = u.ownBlock∨∃ b,u1.ownBlock = some b∧W.heap.size≤b):N d e w1 base (fun k=>ok k∧some k≠u1.ownBlock) v xs:=by
 refine ck (lB (lA h) (fun k hk hlt=>hg.block k hlt hk.1.2)) (fun k hk=>⟨hk.1.1,?_⟩);rcases hat with hat | ⟨b,hb,hle⟩
 ·rw [hat];exact hk.1.2
 ·rw [hb]
  intro he;injection he with he
  have:=hk.2;omega
theorem gJ (h:N d e w base ok v xs):∃ A c,v = .slice A xs.length c:=by
 obtain ⟨_,rows,hl,hR,_⟩:=h;obtain ⟨A,c,he⟩:=bG hR;exact ⟨A,c,by rw [he,hl]⟩
theorem ez {n c:Nat} (h:N d e w base ok (.slice A n c) xs):n = xs.length∧n≤c∧d.C w A xs.length xs:=by
 obtain ⟨_,rows,hl,hR,hf⟩:=h;obtain ⟨hn,hc,hC⟩:=aC hR;refine ⟨by omega,hc,?_⟩;rw [hl] at hC;refine ⟨rfl,hC.2.1,fun hp=>?_⟩;obtain ⟨ad,he,hcell⟩:=hC.2.2 hp;refine ⟨ad,he,fun j p hj=>?_⟩;have hjl:j < rows.length:=by have:=(List.getElem?_eq_some_iff.1 hj).1;omega
 obtain ⟨c',hcl,hK,hcc⟩:=hcell j _ (List.getElem?_eq_getElem hjl);have hk:=iM (hf j p _ hj (List.getElem?_eq_getElem hjl));refine ⟨c',hcl,?_,hcc⟩;rw [show c' = rows[j] from hK.1];exact hk
theorem tC {n:Nat} (h:N d e w base ok (.slice A n cc) xs):F d w ok A n xs:=fun W' hW=>by
 have h2:=ez (lB h hW);rw [h2.1];exact h2.2.2
theorem s4 {n cap:Nat} (h:N d e W base ok (.slice (some ⟨g,0,none⟩) n cap) xs) (z:α) (i:Int) (I:0≤i) (h1:i < n) :
  ∃ c,c.length = d.sz∧FK d W (fun k=>ok k∧k≠g) (xs.getD i.toNat z) c∧(∀ j u,c[j]? = some u→W.cell? ⟨g,i.toNat * d.sz+j,none⟩ = some u)∧∀ j,W.frozen? ⟨g,i.toNat * d.sz+j,none⟩ = false:=by
 obtain ⟨_,rows,hl,hR,hf⟩:=h;have hn:=(aC hR).1;obtain ⟨c,hcl,hM,hcc,hfr⟩:=rK hR [] i I h1;have hil:i.toNat < rows.length:=by omega
 have y:i.toNat < xs.length:=by omega
 have hc:c = rows[i.toNat]:=by
  have h2:=hM.1;rwa [List.getD_eq_getElem?_getD,List.getElem?_eq_getElem hil] at h2
 refine ⟨c,hcl,?_,hcc,hfr⟩;rw [List.getD_eq_getElem?_getD,List.getElem?_eq_getElem y];exact ik (hf _ _ _ (List.getElem?_eq_getElem y) (by rw [hc];exact List.getElem?_eq_getElem hil)) (fun k hk=>⟨hk.1,fun he=>hk.2 (by rw [he];simp [Value.ownBlock])⟩)
theorem kH {ad:Addr} {n cap:Nat} (h:N d e W base ok (.slice (some ad) n cap) xs) (z:α) (i:Int) (y:0≤i) (h1:i < n) :
  ∃ c,c.length = d.sz∧FK d W (fun k=>ok k∧some k≠(Value.slice (some ad) n cap).ownBlock) (xs.getD i.toNat z) c∧∀ j u,c[j]? = some u→W.cell? (ad.add (i.toNat * d.sz+j)) = some u:=by
 obtain ⟨g,rfl⟩:∃ g,ad = ⟨g,0,none⟩:=by
  obtain ⟨_,rows,_,hR,_⟩:=h;exact rR hR
 obtain ⟨c,hcl,hM,hcc,_⟩:=s4 h z i y h1;refine ⟨c,hcl,ik hM (fun k hk=>⟨hk.1,fun he=>hk.2 (by simpa [Value.ownBlock] using he)⟩),fun j u hu=>?_⟩;rw [rI,Nat.zero_add];exact hcc j u hu
end
end Kd
end Go.Proofs.ag.b8
end
section
namespace Go.Proofs.ag.b8
open Go.RowKit
namespace Kd
section
variable {α:Type} {d:Kd α} {e base n cap g:Nat} {ok ok' okp:Nat→Prop} {w w1 W:World} {v v1:Value} {xs ys:List α}
theorem mT {rows news:List (List Value)} (J:∀ k,v.ownBlock = some k→ok k) (hl:rows.length = xs.length) (hf:∀ (j:Nat) (x:α) (c:List Value),xs[j]? = some x→rows[j]? = some c→FK d W (fun k=>ok k∧some k≠v.ownBlock) x c)
  (z:news.length = ys.length) (I:∀ (j:Nat) (x:α) (c:List Value),ys[j]? = some x→news[j]? = some c→FK d W okp x c) (y:∀ k,okp k→ok k∧some k≠v.ownBlock) (hfresh:∀ k,W.heap.size≤k→ok k)
  (hR:(raw d.sz).R e w1 base (fun _=>True) v1 (rows ++ news)) (hg:W.grownBy w1 v.ownBlock) (hat:v1.ownBlock = v.ownBlock∨∃ b,v1.ownBlock = some b∧W.heap.size≤b):N d e w1 base ok v1 (xs ++ ys):=by
 have hne:∀ k,some k≠v.ownBlock→k < W.heap.size→some k≠v1.ownBlock:=by
  intro k hk hlt;rcases hat with hat | ⟨b,hb,hle⟩
  ·rw [hat];exact hk
  ·rw [hb]
   intro he;injection he with he
   omega
 have step:∀ {x:α} {c:List Value} {o:Nat→Prop},FK d W o x c→(∀ k,o k→ok k∧some k≠v.ownBlock)→FK d w1 (fun k=>ok k∧some k≠v1.ownBlock) x c:=by
  intro x c o hq ho;exact ik (jI (jX hq) (fun k hk hlt=>hg.block k hlt (ho k hk.1).2)) (fun k hk=>⟨(ho k hk.1).1,hne k (ho k hk.1).2 hk.2⟩)
 refine ⟨fun k hk=>?_,rows ++ news,by rw [List.length_append,List.length_append,hl,z],kG hR,fun j x c hx hc=>?_⟩
 ·rcases hat with hat | ⟨b,hb,hle⟩
  ·exact J k (hat ▸ hk)
  ·rw [hb] at hk
   injection hk with hk
   exact hfresh k (by omega)
 ·rcases Nat.lt_or_ge j xs.length with hlt | hge
  ·rw [List.getElem?_append_left hlt] at hx
   rw [List.getElem?_append_left (by omega)] at hc;exact step (hf j x c hx hc) (fun _ hk=>hk)
  ·rw [List.getElem?_append_right hge] at hx
   rw [List.getElem?_append_right (by omega),hl] at hc;exact step (I _ x c hx hc) y
theorem s5 {x:α} {c:List Value} (h:FK d W ok x c):c = c∧c.length = d.sz∧∀ u∈c,u.oneCell' = true:=⟨rfl,d.K_len (iM h),d.K_one (iM h)⟩
theorem s6 {rows:List (List Value)} (hR:(raw d.sz).R e w1 base (fun k=>k = W.heap.size) v1 rows) (hg:W.grownBy w1 none) (hat:∃ b,v1.ownBlock = some b∧W.heap.size≤b) (hl:rows.length = xs.length) (hf:∀ (j:Nat) (x:α) (c:List Value),xs[j]? = some x→rows[j]? = some c→FK d W okp x c)
  (hok:∀ k,okp k→ok k) (hfresh:ok W.heap.size):N d e w1 base ok v1 xs:=by
 obtain ⟨b,hb,hle⟩:=hat;refine ⟨fun k hk=>by rw [hR.1 k hk];exact hfresh,rows,hl,kG hR,fun j x c hx hc=>?_⟩;refine ik (jI (jX (hf j x c hx hc)) (fun k hk hlt=>hg.block k hlt (by simp))) (fun k hk=>⟨hok k hk.1,fun he=>?_⟩);rw [hb] at he;injection he with he
 have:=hk.2;omega
end
section
variable {P:Program} {ops:Array Oper} {rest:List Oper} {o:Oper} {a:Act} {Q:Exit→Act→World→Prop} {Kc:Act→World→Prop} {α:Type}
theorem gA (d:Kd α) {w0 W:World} (base:Nat) (hgd:o.guard = none) (s x:Operand) (t e:TypeId) (z:Value) (bytes:Nat)
  (ho:o.op = .call { callee:=.builtin .append,args:=#[s,x],argTypes:=#[t,t] })
  (ht:P.underlying t = some (.slice e)) (hinfo:(P.info? e).map (fun i=>(i.zero,i.size,i.bytes)) = some (some z,d.sz,bytes)) (hz:z.cells.size = d.sz) (J:0 < d.sz) (M:0 < bytes)
  (v:Value) (xs:List α) (p:α) (cs:List Value) (ok okp:Nat→Prop) (hs:a.eval s = v) (hx:a.eval x = .slice (some ⟨W.heap.size,0,none⟩) 1 1) (hp:FK d W okp p cs) (I:∀ k,okp k→ok k∧some k≠v.ownBlock) (hfresh:∀ k,W.heap.size≤k→ok k)
  (HO:N d e W base ok v xs) (HB:Below base w0 W) (hbase:base≤W.heap.size) (hl:(xs.length+1) * bytes≤140737488355328)
  (h:∀ v1 w1,N d e w1 base ok v1 (xs ++ [p])→Below base w0 w1→W.grownBy w1 v.ownBlock→(v1.ownBlock = v.ownBlock∨∃ b,v1.ownBlock = some b∧W.heap.size≤b)→wpList P ops Q rest (a.put o.dst v1) w1) :
  wpList P ops Q (o :: rest) a (W.alloc (.cells cs.toArray e)):=by
 obtain ⟨U,rows,hlr,hR,hf⟩:=HO;refine fB (raw d.sz) base hgd s x t e z bytes ho ht hinfo hz J M v rows cs cs (fun _=>True) (fun _=>False) hs hx (s5 hp) (fun _ hk=>hk.elim) (fun _ _=>trivial) (qH hR) HB hbase (by rw [hlr];exact hl) ?_;intro v1 w1 hr hb hg hat;exact h v1 w1 (mT U hlr hf (ys:=[p]) (news:=[cs]) rfl (fun j y c hy hc=>by
  rcases j with _ | j
  ·simp only [List.getElem?_cons_zero,Option.some.injEq] at hy hc
   rw [← hy,← hc];exact hp
  ·simp at hy) I hfresh hr hg hat) hb hg hat
theorem po (d:Kd α) {w0 W:World} (base e:Nat) (hgd:o.guard = none) {N':Tmp} (_hd:o.dst = some N') {xs:List α} {inner:List Value} {ok okp:Nat→Prop}
  (hrun:(execOp a.eval o).run P W = .ok (.value (.slice (some ⟨W.heap.size,0,none⟩) xs.length xs.length)) (W.alloc (.cells inner.toArray e)))
  (hrep:cm (FK d W okp) d.sz xs inner) (hok:∀ k,okp k→ok k) (hfresh:ok W.heap.size) (HB:Below base w0 W) (hbase:base≤W.heap.size) (hm:xs.length≤9223372036854775807)
  (h:∀ v1 w1,N d e w1 base ok v1 xs→Below base w0 w1→W.grownBy w1 none→(∃ b,v1.ownBlock = some b∧W.heap.size≤b)→wpList P ops Q rest (a.put o.dst v1) w1) :
  wpList P ops Q (o :: rest) a W:=by
 refine mh (raw d.sz) base e hgd _hd (xs:=chunks d.sz xs.length inner) (inner:=inner) (ok:=fun k=>k = W.heap.size) (okp:=fun _=>False) (by rw [e5];exact hrun) (mq hrep (fun y c hk=>⟨d.K_len (iM hk),d.K_one (iM hk)⟩)) (fun _ hk=>hk.elim) rfl HB hbase (by rw [e5];exact hm) ?_;intro v1 w1 hr hb hg hat;exact h v1 w1 (s6 hr hg hat (e5 _ _ _) (fun j y c hy hc=>by rw [iN hc];exact hrep.2 j y hy) hok hfresh) hb hg hat
end
end Kd
end Go.Proofs.ag.b8
end
section
namespace Go.Proofs.ag.cu
open Go.RowKit Go.Proofs.ag.b8
theorem fW (k k':IntKind) (x y:Int):Builtin.max2 (.int k x) (.int k' y) = pure (.int k (if x < y then y else x)):=by simp only [Builtin.max2,gt_iff_lt]
theorem fZ (k k':IntKind) (x y:Int):Builtin.min2 (.int k x) (.int k' y) = pure (.int k (if y < x then y else x)):=by simp only [Builtin.min2]
theorem gK (ats:Array TypeId) (ty:TypeId) (a b:Value):Builtin.max_ ats ty #[a,b] = (Builtin.max2 a b >>= fun s=>pure s):=by simp only [Builtin.max_,List.foldlM_cons,List.foldlM_nil]
theorem gM (ats:Array TypeId) (ty:TypeId) (a b:Value):Builtin.min_ ats ty #[a,b] = (Builtin.min2 a b >>= fun s=>pure s):=by simp only [Builtin.min_,List.foldlM_cons,List.foldlM_nil]
theorem fE (ats:Array TypeId) (ty:TypeId) (a b c:Value):Builtin.max_ ats ty #[a,b,c] = (Builtin.max2 a b >>= fun s=>Builtin.max2 s c >>= fun s=>pure s):=by simp only [Builtin.max_,List.foldlM_cons,List.foldlM_nil]
theorem fF (ats:Array TypeId) (ty:TypeId) (a b c:Value):Builtin.min_ ats ty #[a,b,c] = (Builtin.min2 a b >>= fun s=>Builtin.min2 s c >>= fun s=>pure s):=by simp only [Builtin.min_,List.foldlM_cons,List.foldlM_nil]
theorem ga (ats:Array TypeId) (ty:TypeId) (a b c d:Value):Builtin.max_ ats ty #[a,b,c,d] = (Builtin.max2 a b >>= fun s=>Builtin.max2 s c >>= fun s=>Builtin.max2 s d >>= fun s=>pure s):=by simp only [Builtin.max_,List.foldlM_cons,List.foldlM_nil]
theorem gf (ats:Array TypeId) (ty:TypeId) (a b c d:Value):Builtin.min_ ats ty #[a,b,c,d] = (Builtin.min2 a b >>= fun s=>Builtin.min2 s c >>= fun s=>Builtin.min2 s d >>= fun s=>pure s):=by simp only [Builtin.min_,List.foldlM_cons,List.foldlM_nil]
end Go.Proofs.ag.cu
namespace Go.Proofs.ag.b8
open Go.RowKit
section
variable {P:Program} {ops:Array Oper} {rest:List Oper} {o:Oper} {a:Act} {Q:Exit→Act→World→Prop} {W:World}
theorem aW {f:FuncId} {as_q:Array Operand} {ts:Array TypeId} (_ho:o.op = .call { callee:=.value (.func f),args:=as_q,argTypes:=ts }) (h:wpList P ops Q (o :: rest) a W):wpList P ops Q (o :: rest) a W:=h
theorem cD {b:Builtin} {xs:Array Operand} {ts:Array TypeId} (_ho:o.op = .call { callee:=.builtin b,args:=xs,argTypes:=ts }) (h:wpList P ops Q (o :: rest) a W):wpList P ops Q (o :: rest) a W:=h
end
def shl (k:IntKind) (x y:Int):Int:=k.wrap (x * 2 ^ min y.toNat k.bits)
def shr (k:IntKind) (x y:Int):Int:=x / 2 ^ min y.toNat k.bits
theorem eu {k:IntKind} {x y j:Int} (h:shl k x y = j) (hy:y≤k.bits):k.wrap (x * 2 ^ y.toNat) = j:=by rw [← h];unfold shl;rw [Nat.min_eq_left (by omega)]
theorem iq {k:IntKind} {x y j:Int} (h:shr k x y = j) (hy:y≤k.bits):x / 2 ^ y.toNat = j:=by rw [← h];unfold shr;rw [Nat.min_eq_left (by omega)]
theorem fo (w:World) (n:Nat):w.drewN n = w.drewN n:=rfl
end Go.Proofs.ag.b8
namespace Go.Proofs.ag.b8
open Go.RowKit
namespace Kd
def V {α:Type} (d:Kd α) (_e:Nat) (W:World) (_base:Nat) (ok:Nat→Prop) (v:Value) (xs:List α):Prop:=∃ A c,v = .slice A xs.length c∧xs.length≤c∧F d W ok A xs.length xs
section
variable {α β:Type} {d:Kd α} {e base base' n m c g N' lo hi:Nat} {ok ok' S:Nat→Prop} {w W w1:World} {A:Option Addr} {ad:Addr} {u v v1:Value} {xs:List α}
theorem iZ (h:V d e W base ok v xs) (hF:∀ A,F d W ok A xs.length xs→F d w1 ok' A xs.length xs):V d e w1 base' ok' v xs:=by
 obtain ⟨A,c,hv,hl,hf⟩:=h;exact ⟨A,c,hv,hl,hF A hf⟩
theorem jB (hl:xs.length≤c) (hf:F d W ok A xs.length xs):V d e W base ok (.slice A xs.length c) xs:=⟨A,c,rfl,hl,hf⟩
theorem nF (h:V d e W base ok v xs):∃ A c,v = .slice A xs.length c:=by
 obtain ⟨A,c,hv,_⟩:=h;exact ⟨A,c,hv⟩
theorem qJ (h:V d e W base ok (.slice A n c) xs):n = xs.length∧n≤c∧F d W ok A xs.length xs:=by
 obtain ⟨A',c',hv,hl,hf⟩:=h;injection hv with ha hn hc
 subst ha;subst hc;exact ⟨hn,by rw [hn];exact hl,hf⟩
theorem cz (h:V d e W base ok (.slice A n c) xs):n = xs.length∧n≤c∧d.C W A xs.length xs:=⟨(qJ h).1,(qJ h).2.1,rq (qJ h).2.2⟩
theorem sO (h:V d e W base ok (.slice A n c) xs):F d W ok A n xs:=by
 obtain ⟨hn,_,hf⟩:=qJ h;rw [hn];exact hf
theorem ry (d:Kd α) (e:Nat) (W:World) (base:Nat) (ok:Nat→Prop):V d e W base ok (.slice none 0 0) []:=⟨none,0,rfl,Nat.le_refl _,sM d W ok⟩
theorem sZ (h:d.R e W base ok v xs):V d e W base' ok v xs:=by
 obtain ⟨A,c,rfl⟩:=bG h;exact ⟨A,c,rfl,(aC h).2.1,td h⟩
theorem tD (h:N d e W base ok v xs):V d e W base' ok v xs:=by
 obtain ⟨A,c,rfl⟩:=gJ h;exact ⟨A,c,rfl,(ez h).2.1,tC h⟩
theorem bC (h:V d e W base ok v xs) (hok:∀ k,ok k→ok' k):V d e W base ok' v xs:=iZ h (fun _ hf=>lz hf hok)
theorem lC (h:V d e W base ok v xs) (_:base'≤base):V d e W base' ok v xs:=h
theorem dz (h:V d e W base ok v xs) (hb:Below W.heap.size W w1):V d e w1 base ok v xs:=iZ h (fun _ hf=>jH hf hb)
theorem bh (h:V d e W base ok v xs) (o:Obj):V d e (W.alloc o) base ok v xs:=iZ h (fun _ hf=>qC hf o)
theorem bz (h:V d e W base ok v xs):V d e W.drew base ok v xs:=iZ h (fun _ hf=>rY hf)
theorem bj (h:V d e W base ok v xs) (m:Nat):V d e (W.drewN m) base ok v xs:=iZ h (fun _ hf=>qD hf m)
theorem dJ (h:V d e W base ok v xs) {p:Addr} (hok:∀ k,ok k→k≠p.block) (u:Value):V d e (W.setCell p u) base ok v xs:=iZ h (fun _ hf=>sL hf hok u)
theorem qK (h:V d e W base (fun k=>ok k∧some k≠u.ownBlock) v xs) (hg:W.grownBy w1 u.ownBlock) (hat:v1.ownBlock = u.ownBlock∨∃ b,v1.ownBlock = some b∧W.heap.size≤b):V d e w1 base (fun k=>ok k∧some k≠v1.ownBlock) v xs:=iZ h (fun _ hf=>qE hf hg hat)
theorem dM (h:V d e W base (fun k=>ok k∧some k≠v.ownBlock) u xs) (hg:W.grownBy w1 v.ownBlock) (hat:v1.ownBlock = v.ownBlock∨∃ b,v1.ownBlock = some b∧W.heap.size≤b):V d e w1 base (fun k=>ok k∧some k≠v1.ownBlock) u xs:=qK h hg hat
theorem pq (h:N d e W base (fun k=>ok k∧some k≠v.ownBlock) u xs) (hg:W.grownBy w1 v.ownBlock) (hat:v1.ownBlock = v.ownBlock∨∃ b,v1.ownBlock = some b∧W.heap.size≤b):N d e w1 base (fun k=>ok k∧some k≠v1.ownBlock) u xs:=qI h hg hat
theorem ei (h:V d e W base ok v xs) (hbase:∀ k,u.ownBlock = some k→W.heap.size≤k) (hb:Below W.heap.size W w1):V d e w1 base (fun k=>ok k∧some k≠u.ownBlock) v xs:=iZ h (fun _ hf=>pe hf hbase hb)
theorem fa (h:V d e W base ok v xs) (a:Nat) (ha:W.heap.size≤a):V d e W base (fun k=>ok k∧k≠a) v xs:=iZ h (fun _ hf=>pg hf a ha)
theorem kI (h:V d e W base ok (.slice (some ad) n c) xs) (z:α) (i:Int) (y:0≤i) (h1:i < n) :
  ∃ cs,cs.length = d.sz∧FK d W ok (xs.getD i.toNat z) cs∧∀ j u,cs[j]? = some u→W.cell? (ad.add (i.toNat * d.sz+j)) = some u:=by
 obtain ⟨ad',cs,he,hcl,hK,hcc,_⟩:=sN (sO h) z i y h1;injection he with he
 subst he;exact ⟨cs,hcl,hK,hcc⟩
theorem eC {M:Nat→Prop} (h:d.R e w1 W.heap.size ok v xs) (hle:w.heap.size≤W.heap.size) (hM:∀ k,w.heap.size≤k→M k):d.R e w1 W.heap.size (fun k=>M k∧ok k) v xs:=aX (fA h) (fun k hk=>⟨hM k (Nat.le_trans hle hk.2.1),hk.1⟩)
end
end Kd
end Go.Proofs.ag.b8
end
section
namespace Go.Proofs.ag.ct
open Go.Proofs.ag.b8 (ae)
def ir (md:Region.Mode) (o:Oper):List Nat:=(o.after.toList.filter (fun e=>Region.binds md e)).map (fun e=>e.on)
def lD (md:Region.Mode) (ops:Array Oper) (i:Nat) (oi:Oper):List Nat:=(List.range ops.size).filter fun j=>!(j == i) && match ops[j]? with
  | some oj=>!(oj.after.any (fun e=>Region.binds md e && e.on == i) || oi.apart ops oj)
  | none=>false
def fc (md:Region.Mode) (ops:Array Oper):Bool×List (List Nat×List Nat):=(Region.noSelect ops,(List.range ops.size).map fun i=>match ops[i]? with
  | some o=>(ir md o,lD md ops i o)
  | none=>([],[]))
def gj (T:List (List Nat×List Nat)) (l:List Bool) (i:Nat):Bool:=!l.getD i true && match T[i]? with
  | some r=>r.1.all (fun j=>l.getD j false)
  | none=>false
def iP (T:List (List Nat×List Nat)) (l:List Bool):List Nat:=(List.range T.length).filter (gj T l)
def mu (T:List (List Nat×List Nat)) (l:List Bool) (i:Nat):Bool:=match T[i]? with
  | some r=>r.2.all (fun j=>l.getD j true)
  | none=>false
def jJ (T:List (List Nat×List Nat)) (l:List Bool):Bool:=(List.range T.length).all fun j=>!l.getD j false || match T[j]? with
  | some r=>r.1.all (fun k=>l.getD k false)
  | none=>true
def je (T:List (List Nat×List Nat)) (i:Nat):Nat→Nat→Bool
  | 0,_=>false
  | fuel+1,d=>match T[d]? with
    | some r=>r.1.any fun j=>j == i || je T i fuel j
    | none=>false
def nG (T:List (List Nat×List Nat)) (l:List Bool) (ds:List Nat) (i:Nat):Bool:=ds.all fun d=>l.getD d true || je T i T.length d
section
variable {md:Region.Mode} {ops:Array Oper} {T:Bool×List (List Nat×List Nat)} {l l' li lj lk:Array Bool} {ds:List Nat} {i j k:Nat}
theorem gd (l:Array Bool) (j:Nat) (b:Bool):l.getD j b = l.toList.getD j b:=by simp [Array.getD_eq_getD_getElem?,List.getD_eq_getElem?_getD]
theorem kJ (o:Oper) (p:Nat→Bool):o.after.all (fun e=>!Region.binds md e || p e.on) = (ir md o).all p:=by
 unfold ir;rw [← Array.all_toList];induction o.after.toList with
 | nil=>rfl
 | cons e r ih =>
  rw [List.all_cons,ih,List.filter_cons];cases h:Region.binds md e <;> simp
theorem og (o:Oper) (p:Nat→Bool):o.after.any (fun e=>Region.binds md e && p e.on) = (ir md o).any p:=by
 unfold ir;rw [← Array.any_toList];induction o.after.toList with
 | nil=>rfl
 | cons e r ih =>
  rw [List.any_cons,ih,List.filter_cons];cases h:Region.binds md e <;> simp
theorem gn:(fc md ops).2.length = ops.size:=by simp [fc]
theorem iu {o:Oper} (h:ops[i]? = some o):(fc md ops).2[i]? = some (ir md o,lD md ops i o):=by
 have hi:=(Array.getElem?_eq_some_iff.1 h).1;unfold fc;rw [List.getElem?_map,List.getElem?_range hi,Option.map_some,h]
theorem iv (h:ops[i]? = none):(fc md ops).2[i]? = none:=by
 have hi:ops.size≤i:=Array.getElem?_eq_none_iff.1 h;exact List.getElem?_eq_none (by rw [gn];exact hi)
theorem mU:gj (fc md ops).2 l.toList i = (!l.getD i true && ((ops[i]?).map (·.after.all fun e=>!Region.binds md e || l.getD e.on false)).getD false):=by
 unfold gj;rw [gd];cases h:ops[i]? with
 | none=>rw [iv h];rfl
 | some o =>
  rw [iu h];simp only [Option.map_some,Option.getD_some];rw [← kJ];simp only [gd]
theorem gW:Region.ready md ops l = iP (fc md ops).2 l.toList:=by
 unfold Region.ready iP;rw [gn];refine List.filter_congr (fun i _=>?_);rw [mU]
theorem nH:Region.free md ops l i = mu (fc md ops).2 l.toList i:=by
 unfold Region.free mu;cases h:ops[i]? with
 | none=>rw [iv h]
 | some oi =>
  rw [iu h];simp only [lD];rw [List.all_filter];congr 1
  funext j
  rw [gd];cases hj:ops[j]? with
  | none=>cases (j == i) <;> cases (l.toList.getD j true) <;> simp
  | some oj =>
   cases (j == i) <;> cases (l.toList.getD j true) <;> cases (oj.after.any (fun e=>Region.binds md e && e.on == i) || oi.apart ops oj) <;> simp_all
theorem oh:Region.iV md ops l = jJ (fc md ops).2 l.toList:=by
 unfold Region.iV jJ;rw [gn];congr 1
 funext j
 rw [gd];cases h:ops[j]? with
 | none=>rw [iv h]
 | some o =>
  rw [iu h];simp only;rw [← kJ];simp only [gd]
theorem mw:∀ (fuel d:Nat),Region.fK md ops i fuel d = je (fc md ops).2 i fuel d
 | 0,_=>rfl
 | fuel+1,d=>by
  unfold Region.fK je;cases h:ops[d]? with
  | none=>rw [iv h]
  | some o =>
   rw [iu h];simp only;rw [← og];congr 1
   funext e
   rw [mw fuel]
theorem qL:Region.nC md ops l ds i = nG (fc md ops).2 l.toList ds i:=by
 unfold Region.nC nG;rw [gn];congr 1
 funext d
 rw [gd,mw]
theorem jv (h:gj T.2 l.toList i = true) (hT:fc md ops = T):(Region.ready md ops l).contains i = true:=by
 subst hT;rw [gW];unfold iP;rw [List.contains_iff_mem,List.mem_filter,List.mem_range];refine ⟨?_,h⟩;unfold gj at h;rw [Bool.and_eq_true] at h;cases hq:(fc md ops).2[i]? with
 | none=>rw [hq] at h;simp at h
 | some r=>exact (List.getElem?_eq_some_iff.1 hq).1
theorem gX (h:(l.toList.set i true == l'.toList) = true):(l.setIfInBounds i true == l') = true:=by
 rw [beq_iff_eq] at h ⊢;apply Array.ext'
 rw [Array.toList_setIfInBounds];exact h
def s7 (T:Bool×List (List Nat×List Nat)) (l l':List Bool) (i:Nat):Bool:=T.1 && mu T.2 l i && gj T.2 l i && (l.set i true == l')
theorem dQ (hT:fc md ops = T) (h:s7 T l.toList l'.toList i = true):qw md ops l l' i = true:=by
 simp only [s7,Bool.and_eq_true] at h;obtain ⟨⟨⟨h1,h2⟩,h3⟩,h4⟩:=h;have h5:=jv h3 hT;have j:=gX h4;subst hT;simp only [qw,Bool.and_eq_true];exact ⟨⟨⟨h1,by rw [nH];exact h2⟩,h5⟩,j⟩
def pz (T:Bool×List (List Nat×List Nat)) (ds:List Nat) (l l':List Bool) (i:Nat):Bool:=T.1 && mu T.2 l i && gj T.2 l i && jJ T.2 l && nG T.2 l ds i && (l.set i true == l')
theorem qM (hT:fc md ops = T) (h:pz T ds l.toList l'.toList i = true):mm md ops ds l l' i = true:=by
 simp only [pz,Bool.and_eq_true] at h;obtain ⟨⟨⟨⟨⟨h1,h2⟩,h3⟩,h4⟩,h5⟩,j⟩:=h;have y:=jv h3 hT;have z:=gX j;subst hT;simp only [mm,Bool.and_eq_true];exact ⟨⟨⟨⟨⟨h1,by rw [nH];exact h2⟩,y⟩,by rw [oh];exact h4⟩,by rw [qL];exact h5⟩,z⟩
theorem dn (hT:fc md ops = T) (h:(iP T.2 l.toList == [i] && l.toList.set i true == l'.toList) = true):jd md ops l l' i = true:=by
 simp only [Bool.and_eq_true] at h;obtain ⟨h1,h2⟩:=h;subst hT;simp only [jd,Bool.and_eq_true];exact ⟨by rw [gW];exact h1,gX h2⟩
theorem jf (hT:fc md ops = T) (h:(iP T.2 l.toList == [i,j] && l.toList.set i true == li.toList && l.toList.set j true == lj.toList) = true):(Region.ready md ops l == [i,j] && l.setIfInBounds i true == li && l.setIfInBounds j true == lj) = true:=by
 simp only [Bool.and_eq_true] at h ⊢;obtain ⟨⟨h1,h2⟩,h3⟩:=h;subst hT;exact ⟨⟨by rw [gW];exact h1,gX h2⟩,gX h3⟩
theorem pA (hT:fc md ops = T) (h:(iP T.2 l.toList == [i,j,k] && l.toList.set i true == li.toList && l.toList.set j true == lj.toList && l.toList.set k true == lk.toList) = true) :
  (Region.ready md ops l == [i,j,k] && l.setIfInBounds i true == li && l.setIfInBounds j true == lj && l.setIfInBounds k true == lk) = true:=by
 simp only [Bool.and_eq_true] at h ⊢;obtain ⟨⟨⟨h1,h2⟩,h3⟩,h4⟩:=h;subst hT;exact ⟨⟨⟨by rw [gW];exact h1,gX h2⟩,gX h3⟩,gX h4⟩
theorem en (hT:fc md ops = T) (h:(iP T.2 l.toList == []) = true):(Region.ready md ops l == []) = true:=by
 subst hT;rw [gW];exact h
def s8 (B:List Nat) (d:Nat):List Nat→Nat
 | []=>0
 | n :: r=>(2 ^ n ||| (if n < d then B.getD n 0 else 0)) ||| s8 B d r
def eT (T:List (List Nat×List Nat)) (B:List Nat):Bool:=(List.range T.length).all fun d=>match T[d]? with
  | some r=>(B.getD d 0 ||| s8 B d r.1) == s8 B d r.1
  | none=>false
theorem nI {B:List Nat} {d i:Nat}:∀ {ns:List Nat},(s8 B d ns).testBit i = true→∃ n∈ns,n = i∨(n < d∧(B.getD n 0).testBit i = true)
 | [],h=>by simp [s8] at h
 | n :: r,h=>by
  unfold s8 at h;rw [Nat.testBit_or,Nat.testBit_or,Bool.or_eq_true,Bool.or_eq_true] at h;rcases h with (h | h) | h
  ·rw [Nat.testBit_two_pow] at h
   exact ⟨n,List.mem_cons_self,.inl (by simpa using h)⟩
  ·by_cases hn:n < d
   ·rw [if_pos hn] at h
    exact ⟨n,List.mem_cons_self,.inr ⟨hn,h⟩⟩
   ·rw [if_neg hn] at h
    simp at h
  ·obtain ⟨m,hm,h2⟩:=nI h
   exact ⟨m,List.mem_cons_of_mem _ hm,h2⟩
theorem kK {T:List (List Nat×List Nat)} {B:List Nat} (hB:eT T B = true):∀ (fuel d:Nat),d < fuel→d < T.length→(B.getD d 0).testBit i = true→je T i fuel d = true
 | 0,d,h,_,_=>by omega
 | fuel+1,d,h,hd,hb=>by
  have h1:=List.all_eq_true.1 hB d (List.mem_range.2 hd);cases hr:T[d]? with
  | none=>rw [hr] at h1;simp at h1
  | some r =>
   rw [hr] at h1;simp only [beq_iff_eq] at h1;have h2:(s8 B d r.1).testBit i = true:=by rw [← h1,Nat.testBit_or,hb,Bool.true_or]
   obtain ⟨n,hn,h3⟩:=nI h2;unfold je;rw [hr];simp only;rw [List.any_eq_true];refine ⟨n,hn,?_⟩;rcases h3 with rfl | ⟨h4,h5⟩
   ·simp
   ·rw [kK hB fuel n (by omega) (by omega) h5,Bool.or_true]
def rz (T:List (List Nat×List Nat)) (B:List Nat) (l:List Bool) (ds:List Nat) (i:Nat):Bool:=ds.all fun d=>l.getD d true || (decide (d < T.length) && (B.getD d 0).testBit i)
def pB (T:Bool×List (List Nat×List Nat)) (B:List Nat) (ds:List Nat) (l l':List Bool) (i:Nat):Bool:=T.1 && mu T.2 l i && gj T.2 l i && jJ T.2 l && rz T.2 B l ds i && (l.set i true == l')
theorem jY {B:List Nat} (hT:fc md ops = T) (hB:eT T.2 B = true) (h:pB T B ds l.toList l'.toList i = true):mm md ops ds l l' i = true:=by
 refine qM hT ?_;simp only [pB,pz,Bool.and_eq_true] at h ⊢;obtain ⟨⟨⟨⟨⟨h1,h2⟩,h3⟩,h4⟩,h5⟩,z⟩:=h;refine ⟨⟨⟨⟨⟨h1,h2⟩,h3⟩,h4⟩,?_⟩,z⟩;unfold rz at h5;unfold nG;rw [List.all_eq_true] at h5 ⊢;intro d hd;have j:=h5 d hd;rw [Bool.or_eq_true,Bool.and_eq_true,decide_eq_true_eq] at j;rcases j with j | ⟨y,I⟩
 ·rw [j,Bool.true_or]
 ·rw [kK hB _ d y y I,Bool.or_true]
theorem dm {P:Program} {Q:Exit→Act→World→Prop} {S:World→Prop} {n:Nat} {a:Act} {w:World} {B:List Nat} (hT:fc md ops = T) (hB:eT T.2 B = true) (h:ae (fc md ops = T)→ae (eT T.2 B = true)→bw P md ops Q S ds n l a w):bw P md ops Q S ds n l a w:=h ⟨hT⟩ ⟨hB⟩
end
def iI:Code→Nat→Option (Array Oper)
  | .region id ops _,k=>if id == k then some ops else none
  | .seq a b,k=>match iI a k with
    | some o=>some o
    | none=>iI b k
  | .cond _ a b,k=>match iI a k with
    | some o=>some o
    | none=>iI b k
  | .block _ c,k=>iI c k
  | .loop c,k=>iI c k
  | .scope c,k=>iI c k
  | .rangeFunc _ _ a b,k=>match iI a k with
    | some o=>some o
    | none=>iI b k
  | _,_=>none
def opsOf (f:Func) (k:Nat):Array Oper:=((f.body.bind fun c=>iI c k)).getD #[]
end Go.Proofs.ag.ct
end
namespace Go.Proofs.YtlfkfdmggpipbaaGreat
section
namespace af
open Go.RowKit ag.b8 ag.ct ag.cu
structure lE (P:Program) (W:World) (fv:Value) (g:Int→Option Bool):Prop where
 mk :: (out:∃ (f:Nat) (caps:Array Value) (fn:Func),fv = .func (.func f) #[] caps∧P.funcs[f]? = some fn∧(fn.name == "runtime.NumGoroutine") = false∧fn.body.isSome = true ∧
  ∀ (s:Int) (b:Bool) (w:World),Below W.heap.size W w→g s = some b→Calls P f (#[.int .i64 s] ++ caps) w fun e w'=>e = .returned (.bool b)∧Below w.heap.size w w')
theorem lE.below {P:Program} {W W1:World} {fv:Value} {g:Int→Option Bool} (h:lE P W fv g) (hb:Below W.heap.size W W1):lE P W1 fv g:=by
 obtain ⟨f,caps,fn,h1,h2,h3,h4,h5⟩:=h.out;exact ⟨⟨f,caps,fn,h1,h2,h3,h4,fun s b w hw hg=>h5 s b w (jP hb hb.size hw) hg⟩⟩
theorem lF {P:Program} {ops:Array Oper} {Q:Exit→Act→World→Prop} {rest:List Oper} {oi:Oper} {a:Act} {W w:World} {fv:Value} {g:Int→Option Bool} {s:Int} {b:Bool} (N:Option Tmp) (hd:oi.dst = N) (hg:oi.guard = none) (t:Tmp) {ars:Array Operand} {ts:Array TypeId}
  (hop:oi.op = .call { callee:=.value (.tmp t),args:=ars,argTypes:=ts }) (hF:lE P W fv g) (hb:g s = some b) (hB:Below W.heap.size W w) (hv:a.eval (.tmp t) = fv) (hargs:ars.map a.eval = #[.int .i64 s])
  (h:∀ w',Below w.heap.size w w'→wpList P ops Q rest (a.put N (.bool b)) w'):wpList P ops Q (oi :: rest) a w:=by
 obtain ⟨f,caps,fn,rfl,hf,hname,hbody,hc⟩:=hF.out;refine wpList_plain hg fun K hK=>?_
 have he:=iX hf hname hbody (#[.int .i64 s] ++ caps) w;have hrun:(execOp a.eval oi).run P w = .ok (.enter f (#[.int .i64 s] ++ caps)) w:=by
  unfold execOp;simp [hop,resolve,Deferred.ofValue,invoke,hv,hargs];simpa using he
 unfold Oper.wp;rw [hrun,Oper.upon_enter];refine (hc s b w hB hb).mono fun e w'' hh=>?_
 obtain ⟨rfl,hk⟩:=hh;subst hd;exact hK _ _ (h _ hk)
class fD (W W':World):Prop where
 h:Below W.heap.size W W'
instance (W:World):fD W W:=⟨Below.refl _ _⟩
instance (W V:World) (o:Obj) [a:fD W V]:fD W (V.alloc o):=⟨dD a.h o⟩
instance (W V:World) (n:Nat) [a:fD W V]:fD W (V.drewN n):=⟨dh a.h n⟩
instance (W V:World) [a:fD W V]:fD W V.drew:=⟨bZ a.h⟩
theorem Rw {α:Type} {d:Kd α} {e:Nat} {W W':World} {base:Nat} {ok:Nat→Prop} {v:Value} {xs:List α} (h:Kd.R d e W base ok v xs) [a:fD W W']:Kd.R d e W' base ok v xs:=Kd.cN h a.h
theorem Sw {α:Type} {d:Kd α} {e:Nat} {W W':World} {base:Nat} {ok:Nat→Prop} {v:Value} {xs:List α} (h:Kd.S d e W base ok v xs) [a:fD W W']:Kd.S d e W' base ok v xs:=Kd.gH h a.h
theorem Cw {α:Type} {d:Kd α} {W W':World} {A:Option Addr} {n:Nat} {xs:List α} (h:Kd.C d W A n xs) [a:fD W W']:Kd.C d W' A n xs:=Kd.aJ h a.h
theorem Bw {W W':World} {g:Nat} {o:Obj} (h:W.heap[g]? = some o) [a:fD W W']:W'.heap[g]? = some o:=aN h a.h
theorem Lw {w W W':World} (h:Below w.heap.size w W) [a:fD W W']:Below w.heap.size w W':=az h a.h
theorem O {p:Prop} (h:ae p:=by assumption):p:=h.out
theorem D {p:Prop} [Decidable p] (h:decide p = true:=by first | (with_reducible assumption) | assumption):p:=of_decide_eq_true h
theorem E {p:Prop} (h:p:=by first | rfl | (simp [eI,eJ] <;> rfl) | (simp [*,eI,eJ] <;> rfl)):p:=h
theorem F {p:Prop} (h:p:=by first | rfl | (simp;done) | (simp [*];done)):p:=h
theorem G {p:Prop} (h:p:=by repeat (first | exact cw.refl _ | apply cw.step)):p:=h
theorem Z {p:Prop} (h:p:=by first | with_reducible exact H | (have H2_:=(Option.bind_some _ _).symm.trans H;with_reducible exact H2_) | exact H):p:=h
theorem ip {c:Prop} [Decidable c] {α:Type} {t:Option α} {r:α} (h:(if c then t else none) = some r):c∧t = some r:=by
 by_cases hc:c
 ·rw [if_pos hc] at h;exact ⟨hc,h⟩
 ·rw [if_neg hc] at h;cases h
theorem be {α β:Type} {x:Option α} {f:α→Option β} {b:β} (h:x.bind f = some b):∃ a,ae (x = some a)∧f a = some b:=by
 obtain ⟨a,h1,h2⟩:=Option.bind_eq_some_iff.mp h;exact ⟨a,⟨h1⟩,h2⟩
theorem W {p:Prop} (h:p:=by first | exact ⟨rfl,_,World.drewN_drewN _ _ _⟩ | exact ⟨rfl,_,Eq.trans (World.drewN_drewN _ _ _) (congrArg (World.drewN _) (Nat.add_assoc _ _ _))⟩):p:=h
theorem N {p:Prop} (h:p:=by first | exact Kd.jt _ _ _ _ _ | exact Kd.ru _ _ _ _ _ | exact Kd.ry _ _ _ _ _ | exact Kd.ri _ _ _ _ _ | exact Kd.rj _ _ _ _ _):p:=h
theorem L {p:Prop} (h:p:=by repeat (first | (with_reducible first | exact af.O | apply dD | apply dh | apply bZ | refine er ?_ af.O) | exact af.O)):p:=h
theorem fr {W:World} {g:Nat} {o:Obj} {p:Addr} {u:Value} (h:W.heap[g]? = some o) (hp:g≠p.block):(W.setCell p u).heap[g]? = some o:=(Below.heap_setCell W p u g hp).trans h
theorem B {p:Prop} (h:p:=by repeat (first | (with_reducible first | exact af.O | apply o6 | apply cW | apply ja | refine af.fr ?_ af.O) | apply fb | rfl)):p:=h
theorem K {w W W':World} {g:Nat} {row:Option Nat} (_h:ae (bu w W g row)) (k:bu w W' g row:=by repeat (first | (with_reducible first | exact af.O | apply bu.o4 | apply gF | apply o9 | apply mQ | refine fU ?_ af.O _) | exact af.O)):bu w W' g row:=k
theorem ai {k:IntKind} {w:World} {A:Option Addr} {n:Nat} {xs:List Int} (h:(Kd.int k).C w A n xs) (i:Int) (p:0≤i:=by exact af.D) (q:i < n:=by exact af.D):∃ ad,A = some ad∧w.cell? (ad.add i.toNat) = some (.int k (rd xs i))∧(0≤i) = True∧(i < (n:Int)) = True:=by
 obtain ⟨ad,h1,h2⟩:=Kd.cT h i p q;exact ⟨ad,h1,h2,eq_true p,eq_true q⟩
theorem gw {w W W':World} {g:Nat} (hg:g = W'.heap.size) (h:ae (Below w.heap.size w W)) [fD W W']:ae (w.heap.size≤g):=⟨by rw [hg];exact an (Lw h.out)⟩
theorem gL {w W':World} {g:Nat} (hg:g = W'.heap.size) (h:Below w.heap.size w W'):ae (w.heap.size≤g):=⟨by rw [hg];exact an h⟩
theorem nl {W W':World} {g g':Nat} {o:Obj} (hg:g' = W'.heap.size) (h:ae (W.heap[g]? = some o)) [fD W W']:ae (g≠g'):=⟨by rw [hg];exact Nat.ne_of_lt (gV (Bw h.out))⟩
theorem ng {W W':World} {g g':Nat} {o:Obj} (hg:g' = W'.heap.size) (h:ae (W.heap[g]? = some o)) [fD W W']:ae (g'≠g):=⟨by rw [hg];exact Nat.ne_of_gt (gV (Bw h.out))⟩
theorem bb {W W' W2:World} {g:Nat} {o:Obj} (h:ae (W.heap[g]? = some o)) (hb:Below W'.heap.size W' W2) [fD W W']:ae (W2.heap[g]? = some o):=⟨aN (Bw h.out) hb⟩
theorem lb {w W W' W2:World} (h:ae (Below w.heap.size w W)) (hb:Below W'.heap.size W' W2) [fD W W']:ae (Below w.heap.size w W2):=⟨az (Lw h.out) hb⟩
theorem rb {α:Type} {d:Kd α} {e:Nat} {W W' W2:World} {base:Nat} {ok:Nat→Prop} {v:Value} {xs:List α} (h:ae (Kd.R d e W base ok v xs)) (hb:Below W'.heap.size W' W2) [fD W W']:ae (Kd.R d e W2 base ok v xs):=⟨Kd.cN (Rw h.out) hb⟩
section
variable {P:Program} {ops:Array Oper} {rest:List Oper} {a:Act} {Q:Exit→Act→World→Prop}
theorem gl {o:Oper} {w:World} (N:Option Tmp) {f:FuncId} {fn:Func} {as_q:Array Operand} {ts:Array TypeId} (hf:P.funcs[f]? = some fn) (args:Array Value)
  (h:Calls P f args w fun e w'=>∃ v,e = .returned v∧wpList P ops Q rest (a.put N v) w') (hd:o.dst = N:=by with_reducible rfl) (hop:o.op = .call { callee:=.value (.func f),args:=as_q,argTypes:=ts }:=by with_reducible rfl) (hg:o.guard = none:=by rfl)
  (hname:(fn.name == "runtime.NumGoroutine") = false:=by kernel_rfl) (hb:fn.body.isSome = true:=by rfl) (hargs:as_q.map a.eval = args:=by (try simp only [List.map_toArray,List.map_cons,List.map_nil]);first | done | rfl):wpList P ops Q (o :: rest) a w:=rP N hd hg hf hname hb args hop hargs h
theorem bx {o:Oper} {W:World} (N:Tmp) (cs:Array Value) (t:TypeId)
  (h:∀ g,g = W.heap.size→∀ w1,w1.heap[g]? = some (.cells cs t (0,0))→Below W.heap.size W w1→wpList P ops Q rest (a.put o.dst (.pointer (some ⟨g,0,none⟩))) w1) (hd:o.dst = some N:=by with_reducible rfl) (hgd:o.guard = none:=by rfl)
  (hrun:(execOp a.eval o).run P W = .ok (.value (.pointer (some ⟨W.heap.size,0,none⟩))) (W.alloc (.cells cs t (0,0))):=by first | (go_simp;done) | (go_simp;rfl)):wpList P ops Q (o :: rest) a W:=dj hgd hd hrun h
theorem lt {o:Oper} {α:Type} (d:Kd α) {W:World} (e:Nat) (N:Tmp)
  (h:∀ v1 w1,d.R e w1 W.heap.size (fun _=>True) v1 []→Below W.heap.size W w1→W.grownBy w1 none→(∃ b,v1.ownBlock = some b∧W.heap.size≤b)→wpList P ops Q rest (a.put o.dst v1) w1) (hd:o.dst = some N:=by with_reducible rfl) (hgd:o.guard = none:=by rfl)
  (hrun:(execOp a.eval o).run P W = .ok (.value (.slice (some ⟨W.heap.size,0,none⟩) 0 0)) (W.alloc (.cells #[] e)):=by first | (go_simp;done) | (go_simp;rfl)):wpList P ops Q (o :: rest) a W :=
 Kd.mh d _ e hgd hd (xs:=[]) (inner:=[]) (ok:=fun _=>True) (okp:=fun _=>True) hrun (cm.none _ _) (fun _ hk=>hk) trivial (Below.refl _ _) (Nat.le_refl _) (by simp) h
end
section
variable {P:Program} {md:Region.Mode} {ops:Array Oper} {Q:Exit→Act→World→Prop} {S:World→Prop} {ds:List Nat} {T:Bool×List (List Nat×List Nat)} {B:List Nat} {oi:Oper} {v:Value} {fuel:Nat} {l l':Array Bool} {a a':Act} {w:World}
theorem pu (i:Nat) (N:Tmp) (HT:ae (fc md ops = T)) (h:bw P md ops Q S ds fuel l' a' w) (hi:ops[i]? = some oi:=by rfl) (hN:oi.dst = some N:=by rfl) (_hl:l.setIfInBounds i true = l':=by simp only [List.setIfInBounds_toArray,List.set_cons_zero,List.set_cons_succ];rfl)
  (hc:s7 T l.toList l'.toList i = true:=by kernel_rfl) (hQ:∀ c a w,Q (.panic c) (a.put oi.dst v) w→Q (.panic c) a w:=by exact fun _ _ _ h=>h)
  (hy:Yields P ops oi v a:=by exact Or.inl ⟨by rfl,by intro w';go_simp;with_reducible rfl⟩) (ha:a.put (some N) v = a':=by simp only [Act.put,List.setIfInBounds_toArray,List.set_cons_zero,List.set_cons_succ,b9,bB];rfl):bw P md ops Q S ds (fuel+1) l a w :=
 dF l' hi hN (dQ HT.out hc) hQ hy ha h
theorem tk (i:Nat) (N:Tmp) (HT:ae (fc md ops = T)) (HW:ae (eT T.2 B = true)) (hS:S w) (h:bw P md ops Q S ds fuel l' a' w) (hi:ops[i]? = some oi:=by rfl) (hN:oi.dst = some N:=by rfl) (_hl:l.setIfInBounds i true = l':=by simp only [List.setIfInBounds_toArray,List.set_cons_zero,List.set_cons_succ];rfl)
  (hc:pB T B ds l.toList l'.toList i = true:=by kernel_rfl) (hQ:∀ c a w,Q (.panic c) (a.put oi.dst v) w→Q (.panic c) a w:=by exact fun _ _ _ h=>h)
  (hy:YieldsIf P ops S oi v a:=by exact Or.inl ⟨by rfl,by intro w' hs;(repeat (obtain ⟨_,hs⟩:=hs));go_simp;with_reducible rfl⟩) (ha:a.put (some N) v = a':=by simp only [Act.put,List.setIfInBounds_toArray,List.set_cons_zero,List.set_cons_succ,b9,bB];rfl):bw P md ops Q S ds (fuel+1) l a w :=
 fS l' hi hN (jY HT.out HW.out hc) hQ hy hS ha h
end
theorem bD {W:World} {g:Nat} {a b:Value} {t:Nat} (h:W.heap[g]? = some (.cells #[a,b] t (0,0))):W.cell? ⟨g,0,none⟩ = some a∧W.cell? ⟨g,1,none⟩ = some b∧W.frozen? ⟨g,0,none⟩ = false∧W.frozen? ⟨g,1,none⟩ = false:=⟨(ah h 0).trans rfl,(ah h 1).trans rfl,aj h 0,aj h 1⟩
theorem lG {W:World} {g:Nat} {a b c:Value} {t:Nat} (h:W.heap[g]? = some (.cells #[a,b,c] t (0,0))):W.cell? ⟨g,0,none⟩ = some a∧W.cell? ⟨g,1,none⟩ = some b∧W.cell? ⟨g,2,none⟩ = some c∧W.frozen? ⟨g,0,none⟩ = false∧W.frozen? ⟨g,1,none⟩ = false∧W.frozen? ⟨g,2,none⟩ = false:=⟨(ah h 0).trans rfl,(ah h 1).trans rfl,(ah h 2).trans rfl,aj h 0,aj h 1,aj h 2⟩
class Mo {α:Type} (a b:Option α):Prop where out:fh a b
theorem mz {α:Type} {a b:Option α} (h:a = none):Mo a b:=⟨by rw [h];exact fh.none _⟩
theorem mt {α:Type} {a b:Option α} (h:fh a b:=by with_reducible repeat' first | exact fh.refl _ | refine fh.bind ?_ fun _=>?_ | refine fh.ite ?_ ?_ | exact af.Mo.out | exact fh.none _ | intro _):fh a b:=h
abbrev V1 {α0 β:Type} (F:Nat→α0→Option β):Prop:=∀ y0 k,Mo (F k y0) (F (k+1) y0)
abbrev S2 {α0 α1 β:Type} (F:Nat→α0→α1→Option β) (k:Nat):Prop:=∀ y0 y1,Mo (F k y0 y1) (F (k+1) y0 y1)
abbrev V2 {α0 α1 β:Type} (F:Nat→α0→α1→Option β):Prop:=∀ y0 y1 k,Mo (F k y0 y1) (F (k+1) y0 y1)
abbrev S3 {α0 α1 α2 β:Type} (F:Nat→α0→α1→α2→Option β) (k:Nat):Prop:=∀ y0 y1 y2,Mo (F k y0 y1 y2) (F (k+1) y0 y1 y2)
abbrev V3 {α0 α1 α2 β:Type} (F:Nat→α0→α1→α2→Option β):Prop:=∀ y0 y1 y2 k,Mo (F k y0 y1 y2) (F (k+1) y0 y1 y2)
abbrev S4 {α0 α1 α2 α3 β:Type} (F:Nat→α0→α1→α2→α3→Option β) (k:Nat):Prop:=∀ y0 y1 y2 y3,Mo (F k y0 y1 y2 y3) (F (k+1) y0 y1 y2 y3)
abbrev S5 {α0 α1 α2 α3 α4 β:Type} (F:Nat→α0→α1→α2→α3→α4→Option β) (k:Nat):Prop:=∀ y0 y1 y2 y3 y4,Mo (F k y0 y1 y2 y3 y4) (F (k+1) y0 y1 y2 y3 y4)
abbrev S6 {α0 α1 α2 α3 α4 α5 β:Type} (F:Nat→α0→α1→α2→α3→α4→α5→Option β) (k:Nat):Prop:=∀ y0 y1 y2 y3 y4 y5,Mo (F k y0 y1 y2 y3 y4 y5) (F (k+1) y0 y1 y2 y3 y4 y5)
end af
end
end Go.Proofs.YtlfkfdmggpipbaaGreat
namespace Go.Proofs.YtlfkfdmggpipbaaGreat
abbrev ac:=@af.Rw
abbrev n8:=@af.Lw
abbrev na:=@af.L
abbrev nb:=@af.F
abbrev ne:=@af.bb
abbrev nm:=@af.gl
abbrev no:=@af.gw
abbrev np:=@af.lb
abbrev nz:=@af.bD
abbrev o0:=@af.Bw
abbrev ob:=@af.pu
abbrev ol:=@af.Cw
abbrev oX:=@af.be
abbrev oY:=@af.ip
abbrev pa:=@af.D
abbrev pd:=@af.bx
abbrev pf:=@af.G
abbrev ph:=@af.B
abbrev pi:=@af.ai
abbrev pj:=@af.E
abbrev pk:=@af.nl
abbrev pl:=@af.ng
abbrev pm:=@af.rb
abbrev pp:=@af.Z
abbrev pr:=@af.W
abbrev pt:=@af.gL
abbrev pv:=@af.tk
abbrev pw:=@af.mt
end Go.Proofs.YtlfkfdmggpipbaaGreat
section
namespace Go.Proofs.ag.b8
theorem cm.one {α:Type} {R:α→List Value→Prop} {ps:List α} {cs:List Value} {p:α} {v:Value} (hp:R p [v]) (h:cm R 1 ps cs):cm R 1 (p :: ps) (v :: cs):=by
 refine ⟨by simp [h.1],fun j q hq=>?_⟩;cases j with
 | zero =>
  simp only [List.getElem?_cons_zero,Option.some.injEq] at hq;subst hq;simpa using hp
 | succ j =>
  simp only [List.getElem?_cons_succ] at hq;have h1:=h.2 j q hq;simpa [Nat.mul_one] using h1
theorem cm.front {α:Type} {R:α→List Value→Prop} {size:Nat} {ps:List α} {cs c all:List Value} {p:α} (hp:R p c) (hc:c.length = size) (h:cm R size ps cs) (ha:c ++ cs = all):cm R size (p :: ps) all:=by
 subst ha;refine ⟨by rw [List.length_append,hc,h.1,List.length_cons,Nat.succ_mul,Nat.add_comm],fun j q hq=>?_⟩;cases j with
 | zero =>
  simp only [List.getElem?_cons_zero,Option.some.injEq] at hq;subst hq;rw [Nat.zero_mul,List.drop_zero,List.take_append_of_le_length (by omega),List.take_of_length_le (by omega)];exact hp
 | succ j =>
  simp only [List.getElem?_cons_succ] at hq;have h1:=h.2 j q hq;rw [Nat.succ_mul,List.drop_append,List.drop_of_length_le (by rw [hc];exact Nat.le_add_left _ _),List.nil_append,hc,Nat.add_sub_cancel];exact h1
theorem cm.c2 {α:Type} {R:α→List Value→Prop} {ps:List α} {cs:List Value} {p:α} {va vb:Value} (hp:R p [va,vb]) (h:cm R 2 ps cs):cm R 2 (p :: ps) (va :: vb :: cs):=cm.front hp rfl h rfl
theorem cm.c3 {α:Type} {R:α→List Value→Prop} {ps:List α} {cs:List Value} {p:α} {va vb vc:Value} (hp:R p [va,vb,vc]) (h:cm R 3 ps cs):cm R 3 (p :: ps) (va :: vb :: vc :: cs):=cm.front hp rfl h rfl
theorem cm.c4 {α:Type} {R:α→List Value→Prop} {ps:List α} {cs:List Value} {p:α} {va vb vc vd:Value} (hp:R p [va,vb,vc,vd]) (h:cm R 4 ps cs):cm R 4 (p :: ps) (va :: vb :: vc :: vd :: cs):=cm.front hp rfl h rfl
theorem cm.c5 {α:Type} {R:α→List Value→Prop} {ps:List α} {cs:List Value} {p:α} {va vb vc vd j:Value} (hp:R p [va,vb,vc,vd,j]) (h:cm R 5 ps cs):cm R 5 (p :: ps) (va :: vb :: vc :: vd :: j :: cs):=cm.front hp rfl h rfl
theorem cm.c6 {α:Type} {R:α→List Value→Prop} {ps:List α} {cs:List Value} {p:α} {va vb vc vd j vf:Value} (hp:R p [va,vb,vc,vd,j,vf]) (h:cm R 6 ps cs):cm R 6 (p :: ps) (va :: vb :: vc :: vd :: j :: vf :: cs):=cm.front hp rfl h rfl
theorem cm.c7 {α:Type} {R:α→List Value→Prop} {ps:List α} {cs:List Value} {p:α} {va vb vc vd j vf y:Value} (hp:R p [va,vb,vc,vd,j,vf,y]) (h:cm R 7 ps cs):cm R 7 (p :: ps) (va :: vb :: vc :: vd :: j :: vf :: y :: cs):=cm.front hp rfl h rfl
theorem cm.c8 {α:Type} {R:α→List Value→Prop} {ps:List α} {cs:List Value} {p:α} {va vb vc vd j vf y vh:Value} (hp:R p [va,vb,vc,vd,j,vf,y,vh]) (h:cm R 8 ps cs):cm R 8 (p :: ps) (va :: vb :: vc :: vd :: j :: vf :: y :: vh :: cs):=cm.front hp rfl h rfl
theorem cm.c9 {α:Type} {R:α→List Value→Prop} {ps:List α} {cs:List Value} {p:α} {va vb vc vd j vf y vh vi:Value} (hp:R p [va,vb,vc,vd,j,vf,y,vh,vi]) (h:cm R 9 ps cs):cm R 9 (p :: ps) (va :: vb :: vc :: vd :: j :: vf :: y :: vh :: vi :: cs):=cm.front hp rfl h rfl
theorem cm.iE {α:Type} {R:α→List Value→Prop} {ps:List α} {cs:List Value} {p:α} {va vb vc vd j vf y vh vi vj:Value} (hp:R p [va,vb,vc,vd,j,vf,y,vh,vi,vj]) (h:cm R 10 ps cs):cm R 10 (p :: ps) (va :: vb :: vc :: vd :: j :: vf :: y :: vh :: vi :: vj :: cs):=cm.front hp rfl h rfl
open Go.RowKit
section
variable {P:Program} {ops:Array Oper} {rest:List Oper} {o:Oper} {a:Act} {Q:Exit→Act→World→Prop} {W:World}
theorem cK (hw:Region.wanted o (yielded ops a.tmps) = true) (h:wpList P ops Q ({ o with guard:=none } :: rest) a W):wpList P ops Q (o :: rest) a W:=by
 have h1:Region.wanted { o with guard:=none } (yielded ops a.tmps) = true:=rfl;unfold wpList at h ⊢;rw [if_pos h1] at h;rw [if_pos hw];exact h
end
end Go.Proofs.ag.b8
end
namespace Go.Proofs.YtlfkfdmggpipbaaGreat
section
namespace Pr
open Go.RowKit ag.b8 ag.ct ag.cu
attribute [local go_sem] fW fZ gK gM fE fF ga gf
set_option linter.unusedVariables false
set_option linter.unusedSimpArgs false
def sP:Option Int→Value
 | none=>.nilIface
 | some c=>.iface 0 (.int .i64 c)
theorem eI:sP none = .nilIface:=rfl
theorem eJ (c:Int):sP (some c) = .iface 0 (.int .i64 c):=rfl
theorem eF:(Tryz.prog.info? 3).map (fun i=>(i.zero,i.size,i.bytes)) = some (some (.int .i64 0),1,8):=by kernel_rfl
theorem iQ:(Tryz.prog.info? 37).map (fun i=>(i.zero,i.size,i.bytes)) = some (some (.agg #[(.int .i64 0),(.slice none 0 0)]),2,32):=by kernel_rfl
structure dG where
 f0:Int
 f1:(List Int)
def z37:dG:=⟨(0:Int),([]:List Int)⟩
def gv:Kd dG:=Kd.tc (Kd.pair (Kd.int .i64) (Kd.slice 3 (Kd.int .i64))) (fun x:dG=>(x.f0,x.f1))
theorem gY {w:World} {x:dG} {cs:List Value} (h:gv.K w x cs):∃ j c1,cs = [.int .i64 x.f0,.slice j x.f1.length c1]∧x.f1.length≤c1∧(Kd.int .i64).C w j x.f1.length x.f1:=by
 obtain ⟨_,_,rfl,rfl,⟨j,c1,rfl,l1,g1⟩⟩:=h;exact ⟨j,c1,rfl,l1,g1⟩
theorem s9 (w:World) (x:dG) {j:Option Addr} {c1:Nat} (l1:x.f1.length≤c1) (g1:(Kd.int .i64).C w j x.f1.length x.f1):gv.K w x [.int .i64 x.f0,.slice j x.f1.length c1]:=⟨[.int .i64 x.f0],[.slice j x.f1.length c1],rfl,rfl,⟨j,c1,rfl,l1,g1⟩⟩
theorem qN (w:World) (base:Nat) (ok:Nat→Prop) (x:dG) {v1:Value} (g1:(Kd.int .i64).R 3 w base ok v1 x.f1):gv.M w base ok x [.int .i64 x.f0,v1]:=⟨[.int .i64 x.f0],[v1],rfl,rfl,⟨v1,rfl,g1⟩⟩
theorem ew {W:World} {ok:Nat→Prop} {x:dG} {cs:List Value} (h:Kd.FK gv W ok x cs):∃ j c1,cs = [.int .i64 x.f0,.slice j x.f1.length c1]∧x.f1.length≤c1∧Kd.F (Kd.int .i64) W ok j x.f1.length x.f1:=by
 obtain ⟨j,c1,rfl,l1,_⟩:=gY (Kd.iM h);exact ⟨j,c1,rfl,l1,(fun W' hW=>by obtain ⟨y,z,he,M,I⟩:=gY (h W' hW);injection (Option.some.inj (show some (Value.slice j x.f1.length c1) = some (Value.slice y x.f1.length z) from congrArg (fun l=>l[1]?) he)) with J _ _;rw [J];exact I)⟩
theorem iw (W:World) (ok:Nat→Prop) (x:dG) {j:Option Addr} {c1:Nat} (l1:x.f1.length≤c1) (g1:Kd.F (Kd.int .i64) W ok j x.f1.length x.f1):Kd.FK gv W ok x [.int .i64 x.f0,.slice j x.f1.length c1]:=fun W2 hW=>s9 W2 x l1 (g1 W2 hW)
def av (xs:List dG) (i:Int):dG:=xs.getD i.toNat z37
theorem fN {w:World} {A:Option Addr} {n:Nat} {xs:List dG} (h:Kd.C gv w A n xs) (i:Int) (I:0≤i) (h1:i < n):∃ ad y c1,A = some ad∧w.cell? (ad.add (i.toNat * 2)) = some (.int .i64 (av xs i).f0)∧w.cell? ⟨(ad.add (i.toNat * 2)).block,(ad.add (i.toNat * 2)).off+1,none⟩ = some (.slice y (av xs i).f1.length c1)∧(av xs i).f1.length≤c1∧(Kd.int .i64).C w y (av xs i).f1.length (av xs i).f1:=by
 obtain ⟨ad,c,e,_,hK,z⟩:=Kd.nA h z37 i I h1;have hc:∀ j u,c[j]? = some u→w.cell? (ad.add (i.toNat * 2+j)) = some u:=z;obtain ⟨y,c1,rfl,l1,g1⟩:=gY hK;exact ⟨ad,y,c1,e,hc 0 _ rfl,by rw [← e6 _ _ 1 (by omega)];exact hc 1 _ rfl,l1,g1⟩
def cP.l0:Nat→List Int→List Int→Int→Option (Bool)
 | 0,_,_,_=>none
 | k+1,y,z,j=>if j < (y.length:Int) then (if 0≤j then (if j < (z.length:Int) then (if (rd y j) = (rd z j) then (cP.l0 k y z (wrap64 (j+1))) else (some false)) else (none)) else (none)) else (some true)
def cP.f (k:Nat) (l0:List Int) (l1:List Int):Option (Bool):=if (l0.length:Int) = (l1.length:Int) then (cP.l0 k l0 l1 0) else (some false)
set_option maxHeartbeats 8000000 in
set_option maxRecDepth 100000 in
theorem cP.calls (k:Nat) (A0:Option Addr) (c0:Nat) (l0:List Int) (A1:Option Addr) (c1:Nat) (l1:List Int) (r:Bool) (w:World) (a2:Kd.C (Kd.int .i64) w A0 l0.length l0) (a3:l0.length≤c0) (a4:Kd.C (Kd.int .i64) w A1 l1.length l1) (a5:l1.length≤c1) (h:cP.f k l0 l1 = some r) :
  Calls Tryz.prog 10 #[.slice A0 l0.length c0,.slice A1 l1.length c1] w fun e w'=>e = .returned (.bool r)∧cw w w':=by
 have a6:=ae.mk a2;have aw:=ae.mk a3;clear a2 a3;have a7:=ae.mk a4;have aB:=ae.mk a5;clear a4 a5;unfold cP.f at h;have H:=h;clear h;by_cases c3:(l0.length:Int) = (l1.length:Int)
 ·rw [if_pos c3] at H
  have a8:((l0.length:Int) == (l1.length:Int)) = true:=beq_iff_eq.mpr c3;have a9:((l0.length:Int) != (l1.length:Int)) = false:=bne_eq_false_iff_eq.mpr c3;have aa:(l0.length == l1.length) = true:=by first | simpa using c3 | (simp at c3 ⊢;omega)
  clear c3;have H':=ae.mk H;clear H;go_enter Tryz.func10,Tryz.ntmps10;go_wp2;repeat (go_quiet (fail);try go_wp2)
  go_loopg [5] k (fun kq v5 w'=>∃ (j:Int),v5 = .int .i64 j∧ae (cP.l0 kq l0 l1 j = some r)∧ae (kq≤k)∧cw w w')
  case atStart=>exact ⟨(0),nb,H',⟨Nat.le_refl _⟩,pf⟩
  case round =>
   clear H';obtain ⟨j,rfl,HA,ab,⟨m1,rfl⟩⟩:=hrel;cases gk with
   | zero=>exact absurd HA.out (by simp [cP.l0])
   | succ k1 =>
    have H:=HA.out;clear HA;simp only [cP.l0] at H;by_cases c4:j < (l0.length:Int)
    ·rw [if_pos c4] at H
     have al:=decide_eq_true c4;clear c4;obtain ⟨c5,H⟩:=oY H;have ap:=decide_eq_true c5;clear c5;obtain ⟨c6,H⟩:=oY H;have ar:=decide_eq_true c6;clear c6;by_cases c7:(rd l0 j) = (rd l1 j)
     ·rw [if_pos c7] at H
      have am:((rd l0 j) == (rd l1 j)) = true:=beq_iff_eq.mpr c7;have ao:((rd l0 j) != (rd l1 j)) = false:=bne_eq_false_iff_eq.mpr c7;clear c7;have H':=ae.mk H;clear H;obtain ⟨M,y,I,X,Y⟩:=pi a6.out j;cases y
      obtain ⟨U,z,J,a0,a1⟩:=pi a7.out j;cases z
      go_wp2;repeat (go_quiet (fail);try go_wp2)
      go_roundg k1;case measure=>have:=ab.out;omega
      case rel=>exact ⟨(wrap64 (j+1)),nb,H',⟨by have:=ab.out;omega⟩,pf⟩
     ·rw [if_neg c7] at H
      have am:((rd l0 j) == (rd l1 j)) = false:=beq_eq_false_iff_ne.mpr c7;have ao:((rd l0 j) != (rd l1 j)) = true:=bne_iff_ne.mpr c7;obtain rfl:=Option.some.inj H;obtain ⟨M,y,I,X,Y⟩:=pi a6.out j;cases y
      obtain ⟨U,z,J,a0,a1⟩:=pi a7.out j;cases z
      go_wp2;repeat (go_quiet (fail);try go_wp2)
      go_ret;exact ⟨nb,pf⟩
    ·rw [if_neg c4] at H
     have al:decide (j < (l0.length:Int)) = false:=decide_eq_false c4;clear c4;obtain rfl:=Option.some.inj H;go_wp2;repeat (go_quiet (fail);try go_wp2)
     go_ret;exact ⟨nb,pf⟩
 ·rw [if_neg c3] at H
  have a8:((l0.length:Int) == (l1.length:Int)) = false:=beq_eq_false_iff_ne.mpr c3;have a9:((l0.length:Int) != (l1.length:Int)) = true:=bne_iff_ne.mpr c3;have aa:(l0.length == l1.length) = false:=by first | simpa using c3 | (simp at c3 ⊢;omega)
  obtain rfl:=Option.some.inj H;go_enter Tryz.func10,Tryz.ntmps10;go_wp2;repeat (go_quiet (fail);try go_wp2)
  go_ret;exact ⟨nb,pf⟩
def dA.f (k:Nat) (y:Int) (z:List Int) (I:Int) (J:List Int):Option (Bool):=if y = I then ((cP.f k z J).bind fun j=>(if j = true then (some true) else (some false))) else (some false)
set_option maxHeartbeats 8000000 in
set_option maxRecDepth 100000 in
theorem dA.calls (k:Nat) (M:Int) (Y:Option Addr) (a0:Nat) (I:List Int) (U:Int) (a1:Option Addr) (a2:Nat) (J:List Int) (r:Bool) (w:World) (a9:Kd.C (Kd.int .i64) w Y I.length I) (aa:I.length≤a0) (ab:Kd.C (Kd.int .i64) w a1 J.length J) (al:J.length≤a2) (h:dA.f k M I U J = some r) :
  Calls Tryz.prog 22 #[.agg #[.int .i64 M,.slice Y I.length a0],.agg #[.int .i64 U,.slice a1 J.length a2]] w fun e w'=>e = .returned (.bool r)∧Below w.heap.size w w':=by
 have ch:=Tryz.underlying37;have am:=ae.mk a9;have ao:=ae.mk aa;clear a9 aa;have ap:=ae.mk ab;have ar:=ae.mk al;clear ab al;have HB:=ae.mk (Below.refl w.heap.size w);unfold dA.f at h;have H:=h;clear h;by_cases c3:M = U
 ·rw [if_pos c3] at H
  have aB:(M == U) = true:=beq_iff_eq.mpr c3;have aE:(M != U) = false:=bne_eq_false_iff_eq.mpr c3;clear c3;obtain ⟨aw,A4,H⟩:=oX H;(try dsimp only at H);by_cases c5:aw = true
  ·subst c5
   replace H:(some true) = some r:=by rw [if_pos rfl] at H;exact H
   obtain rfl:=Option.some.inj H;go_enter Tryz.func22,Tryz.ntmps22;go_wp2_with (first | (refine pd 2 #[.int .i64 M,.slice Y I.length a0] 37 ?_;intro a3 hg w6 hbox hb;have j:=ae.mk hbox;have a4:=no hg HB;have a5:=no hg HB;replace HB:=np HB hb;clear hb hbox hg) | (refine pd 3 #[.int .i64 U,.slice a1 J.length a2] 37 ?_;intro a6 hg w7 hbox hb;have X:=ae.mk hbox;have a7:=no hg HB;have a8:=no hg HB;replace HB:=np HB hb;have y:=pk hg j;have z:=pl hg j;replace j:=ne j hb;clear hb hbox hg;have ci:=y.out;have cl:=z.out;obtain ⟨c0,c1,ca,cb⟩:=nz j.out;obtain ⟨aF,aL,aO,aP⟩:=nz X.out) | (refine nm (some 14) Tryz.func10 #[.slice Y I.length a0,.slice a1 J.length a2] ?_;(with_reducible refine (cP.calls k _ _ I _ _ J true _ ?side1 ?side2 ?side3 ?side4 A4.out).mono ?_);(case side1=>exact ol (Kd.aJ am.out HB.out));(case side2=>exact ao.out);(case side3=>exact ol (Kd.aJ ap.out HB.out));(case side4=>exact ar.out);rintro e w' ⟨rfl,⟨nd,rfl⟩⟩;refine ⟨_,rfl,?_⟩));go_ret;exact ⟨pj,na⟩
  ·replace c5:=Bool.eq_false_iff.mpr c5
   subst c5;replace H:(some false) = some r:=by rw [if_neg (show ¬ (false = true) by decide)] at H;exact H
   obtain rfl:=Option.some.inj H;go_enter Tryz.func22,Tryz.ntmps22;go_wp2_with (first | (refine pd 2 #[.int .i64 M,.slice Y I.length a0] 37 ?_;intro a3 hg co hbox hb;have j:=ae.mk hbox;have a4:=no hg HB;have a5:=no hg HB;replace HB:=np HB hb;clear hb hbox hg) | (refine pd 3 #[.int .i64 U,.slice a1 J.length a2] 37 ?_;intro a6 hg cp hbox hb;have X:=ae.mk hbox;have a7:=no hg HB;have a8:=no hg HB;replace HB:=np HB hb;have y:=pk hg j;have z:=pl hg j;replace j:=ne j hb;clear hb hbox hg;have cc:=y.out;have cd:=z.out;obtain ⟨aR,aS,b0,b1⟩:=nz j.out;obtain ⟨b2,b3,b4,ba⟩:=nz X.out) | (refine nm (some 14) Tryz.func10 #[.slice Y I.length a0,.slice a1 J.length a2] ?_;(with_reducible refine (cP.calls k _ _ I _ _ J false _ ?side1 ?side2 ?side3 ?side4 A4.out).mono ?_);(case side1=>exact ol (Kd.aJ am.out HB.out));(case side2=>exact ao.out);(case side3=>exact ol (Kd.aJ ap.out HB.out));(case side4=>exact ar.out);rintro e w' ⟨rfl,⟨nd,rfl⟩⟩;refine ⟨_,rfl,?_⟩));go_ret;exact ⟨pj,na⟩
 ·rw [if_neg c3] at H
  have aB:(M == U) = false:=beq_eq_false_iff_ne.mpr c3;have aE:(M != U) = true:=bne_iff_ne.mpr c3;obtain rfl:=Option.some.inj H;go_enter Tryz.func22,Tryz.ntmps22;go_wp2_with (first | (refine pd 2 #[.int .i64 M,.slice Y I.length a0] 37 ?_;intro a3 hg cr hbox hb;have j:=ae.mk hbox;have a4:=no hg HB;have a5:=no hg HB;replace HB:=np HB hb;clear hb hbox hg) | (refine pd 3 #[.int .i64 U,.slice a1 J.length a2] 37 ?_;intro a6 hg cx hbox hb;have X:=ae.mk hbox;have a7:=no hg HB;have a8:=no hg HB;replace HB:=np HB hb;have y:=pk hg j;have z:=pl hg j;replace j:=ne j hb;clear hb hbox hg;have ce:=y.out;have cf:=z.out;obtain ⟨bc,bd,bi,bk⟩:=nz j.out;obtain ⟨bm,bo,bs,bv⟩:=nz X.out));go_ret;exact ⟨pj,na⟩
def eO.f (l0:List Int) (j:Int):Option (Int):=if (wrap64 (j - (l0.length:Int))) < 0 then (some (-1)) else (some (wrap64 (j - (l0.length:Int))))
set_option maxHeartbeats 8000000 in
set_option maxRecDepth 100000 in
theorem eO.calls (J:Option Addr) (M:Nat) (l0:List Int) (I:Int) (r:Int) (w:World) (j:Kd.C (Kd.int .i64) w J l0.length l0) (y:l0.length≤M) (h:eO.f l0 I = some r) :
  Calls Tryz.prog 58 #[.slice J l0.length M,.int .i64 I] w fun e w'=>e = .returned (.int .i64 r)∧cw w w':=by
 have U:=ae.mk j;have X:=ae.mk y;clear j y;unfold eO.f at h;have H:=h;clear h;by_cases c3:(wrap64 (I - (l0.length:Int))) < 0
 ·rw [if_pos c3] at H
  have z:=decide_eq_true c3;clear c3;obtain rfl:=Option.some.inj H;go_enter Tryz.func58,Tryz.ntmps58;go_wp2;go_ret;exact ⟨nb,pf⟩
 ·rw [if_neg c3] at H
  have z:decide ((wrap64 (I - (l0.length:Int))) < 0) = false:=decide_eq_false c3;clear c3;obtain rfl:=Option.some.inj H;go_enter Tryz.func58,Tryz.ntmps58;go_wp2;go_ret;exact ⟨nb,pf⟩
def dN.f (z:Int) (y:List Int) (I:Int):Option (Int):=(eO.f y I).bind fun j=>(if j < 0 then (some (-1)) else (some j))
set_option maxHeartbeats 8000000 in
set_option maxRecDepth 100000 in
theorem dN.calls (M:Int) (y:Option Addr) (z:Nat) (j:List Int) (a1:Int) (r:Int) (w:World) (U:Kd.C (Kd.int .i64) w y j.length j) (X:j.length≤z) (h:dN.f M j a1 = some r) :
  Calls Tryz.prog 18 #[.agg #[.int .i64 M,.slice y j.length z],.int .i64 a1] w fun e w'=>e = .returned (.int .i64 r)∧Below w.heap.size w w':=by
 have ao:=Tryz.underlying33;have Y:=ae.mk U;have a0:=ae.mk X;clear U X;have HB:=ae.mk (Below.refl w.heap.size w);unfold dN.f at h;have H:=h;clear h;obtain ⟨I,A3,H⟩:=oX H;(try dsimp only at H);by_cases c4:I < 0
 ·rw [if_pos c4] at H
  have a5:=decide_eq_true c4;clear c4;obtain rfl:=Option.some.inj H;go_enter Tryz.func18,Tryz.ntmps18;go_wp2_with (first | (refine pd 2 #[.int .i64 M,.slice y j.length z] 33 ?_;intro a2 hg w5 hbox hb;have J:=ae.mk hbox;have a3:=no hg HB;have a4:=no hg HB;replace HB:=np HB hb;clear hb hbox hg;obtain ⟨a6,a7,a8,a9⟩:=nz J.out) | (refine nm (some 8) Tryz.func58 #[.slice y j.length z,.int .i64 a1] ?_;(with_reducible refine (eO.calls _ _ j a1 I _ ?side1 ?side2 A3.out).mono ?_);(case side1=>exact ol (Kd.aJ Y.out HB.out));(case side2=>exact a0.out);rintro e w' ⟨rfl,⟨nd,rfl⟩⟩;refine ⟨_,rfl,?_⟩));go_ret;exact ⟨pj,na⟩
 ·rw [if_neg c4] at H
  have a5:decide (I < 0) = false:=decide_eq_false c4;clear c4;obtain rfl:=Option.some.inj H;go_enter Tryz.func18,Tryz.ntmps18;go_wp2_with (first | (refine pd 2 #[.int .i64 M,.slice y j.length z] 33 ?_;intro a2 hg w7 hbox hb;have J:=ae.mk hbox;have a3:=no hg HB;have a4:=no hg HB;replace HB:=np HB hb;clear hb hbox hg;obtain ⟨aa,ab,al,am⟩:=nz J.out) | (refine nm (some 8) Tryz.func58 #[.slice y j.length z,.int .i64 a1] ?_;(with_reducible refine (eO.calls _ _ j a1 I _ ?side1 ?side2 A3.out).mono ?_);(case side1=>exact ol (Kd.aJ Y.out HB.out));(case side2=>exact a0.out);rintro e w' ⟨rfl,⟨nd,rfl⟩⟩;refine ⟨_,rfl,?_⟩));go_ret;exact ⟨pj,na⟩
def bL.f (a0:Int) (j:Int) (a2:Int):Option (Bool):=if a0≥j then (some (decide (a0≤a2))) else (some false)
set_option maxHeartbeats 8000000 in
set_option maxRecDepth 100000 in
theorem bL.calls (a0:Int) (y:Int) (a2:Int) (r:Bool) (w:World) (h:bL.f a0 y a2 = some r) :
  Calls Tryz.prog 46 #[.int .i64 a0,.int .i64 y,.int .i64 a2] w fun e w'=>e = .returned (.bool r)∧cw w w':=by
 unfold bL.f at h;have H:=h;clear h;by_cases c4:a0≥y
 ·rw [if_pos c4] at H
  have j:=decide_eq_true c4;clear c4;obtain rfl:=Option.some.inj H;go_enter Tryz.func46,Tryz.ntmps46;go_wp2;go_ret;exact ⟨nb,pf⟩
 ·rw [if_neg c4] at H
  have j:decide (y≤a0) = false:=decide_eq_false c4;clear c4;obtain rfl:=Option.some.inj H;go_enter Tryz.func46,Tryz.ntmps46;go_wp2;go_ret;exact ⟨nb,pf⟩
def cL.f (a0:Int) (j:Int):Option (Bool):=(bL.f a0 0 8).bind fun t148=>(if t148 = true then (if 0≤(IntKind.u64.wrap (a0)) then ((bL.f j 0 (wrap64 ((shl .i64 1 (IntKind.u64.wrap (a0))) - 1))).bind fun t149=>(some t149)) else (none)) else (some false))
set_option maxHeartbeats 8000000 in
set_option maxRecDepth 100000 in
theorem cL.calls (a0:Int) (X:Int) (r:Bool) (w:World) (h:cL.f a0 X = some r) :
  Calls Tryz.prog 96 #[.int .i64 a0,.int .i64 X] w fun e w'=>e = .returned (.bool r)∧cw w w':=by
 unfold cL.f at h;have H:=h;clear h;obtain ⟨t148,A3,H⟩:=oX H;(try dsimp only at H);by_cases c4:t148 = true
 ·subst c4
  replace H:(if 0≤(IntKind.u64.wrap (a0)) then ((bL.f X 0 (wrap64 ((shl .i64 1 (IntKind.u64.wrap (a0))) - 1))).bind fun t149=>(some t149)) else (none)) = some r:=by rw [if_pos rfl] at H;exact H
  obtain ⟨j,I⟩:∃ j_:Int,(IntKind.u64.wrap (a0)) = j_:=⟨_,rfl⟩
  replace H:(if 0≤(j) then ((bL.f X 0 (wrap64 ((shl .i64 1 (j)) - 1))).bind fun t149=>(some t149)) else (none)) = some r:=by first | (rw [I] at H;exact H) | (simp only [I] at H ⊢;exact H)
  (try rw [I] at A3);obtain ⟨c6,H⟩:=oY H;have a6:=eq_true c6;have a7:decide (0≤(j)) = true:=decide_eq_true c6;clear c6;obtain ⟨z,y⟩:∃ j_:Int,(shl .i64 1 (j)) = j_:=⟨_,rfl⟩
  replace H:((bL.f X 0 (wrap64 ((z) - 1))).bind fun t149=>(some t149)) = some r:=by first | (rw [y] at H;exact H) | (simp only [y] at H ⊢;exact H)
  (try rw [y] at A3);have J:(IntKind.i64.wrap (1 * 2 ^ min (j).toNat 64)) = z:=y;have M:(j)≤64→(IntKind.i64.wrap (1 * 2 ^ (j).toNat)) = z:=eu y;have a2:(IntKind.i64.wrap (2 ^ min (j).toNat 64)) = z:=by have U:=J;rw [Int.one_mul] at U;exact U
  have a3:(j)≤64→(IntKind.i64.wrap (2 ^ (j).toNat)) = z:=fun Y=>by have U:=M Y;rw [Int.one_mul] at U;exact U
  have a4:(wrap64 (1 * 2 ^ min (j).toNat 64)) = z:=(b9 _).symm.trans J;have a5:(j)≤64→(wrap64 (1 * 2 ^ (j).toNat)) = z:=fun U=>(b9 _).symm.trans (M U)
  obtain ⟨t149,A8,H⟩:=oX H;(try dsimp only at H);obtain rfl:=Option.some.inj H;go_enter Tryz.func96,Tryz.ntmps96;go_wp2_with (first | ((with_reducible refine aW (f:=46) rfl ?_);refine nm (some 6) Tryz.func46 #[.int .i64 a0,.int .i64 0,.int .i64 8] ?_;(with_reducible refine (bL.calls a0 0 8 true _ A3.out).mono ?_);rintro e w' ⟨rfl,⟨nd,rfl⟩⟩;refine ⟨_,rfl,?_⟩) | (go_at_call 46;(with_reducible refine (bL.calls X 0 (wrap64 ((z) - 1)) t149 _ A8.out).mono ?_);rintro e w' ⟨rfl,⟨nd,rfl⟩⟩));go_ret;exact ⟨by first | rfl | (simp;done) | (simp only [← I,← y] <;> (first | rfl | simp)) | (simp [*];done),pf⟩
 ·replace c4:=Bool.eq_false_iff.mpr c4
  subst c4;replace H:(some false) = some r:=by rw [if_neg (show ¬ (false = true) by decide)] at H;exact H
  obtain rfl:=Option.some.inj H;go_enter Tryz.func96,Tryz.ntmps96;go_wp2_with (first | ((with_reducible refine aW (f:=46) rfl ?_);refine nm (some 6) Tryz.func46 #[.int .i64 a0,.int .i64 0,.int .i64 8] ?_;(with_reducible refine (bL.calls a0 0 8 false _ A3.out).mono ?_);rintro e w' ⟨rfl,⟨nd,rfl⟩⟩;refine ⟨_,rfl,?_⟩));go_ret;exact ⟨nb,pf⟩
def aQ.l0:Nat→Int→Int→Option (Int)
 | 0,_,_=>none
 | k+1,j,y=>if j > 0 then (aQ.l0 k (j / 2) (wrap64 (y+(Go.bits .and .i64 j 1)))) else (some y)
def aQ.f (k:Nat) (a0:Int):Option (Int):=(cL.f 8 a0).bind fun t150=>(if t150 = true then (aQ.l0 k a0 0) else (some 0))
theorem aQ.eK:∀ k,af.S2 aQ.l0 k
 | 0=>by and_intros <;> (repeat intro _) <;> exact af.mz rfl
 | k+1=>by
  have j:=aQ.eK k;and_intros <;> (repeat intro _) <;> unfold aQ.l0 <;> exact ⟨pw⟩
theorem aQ.mono:∀ a0 k,fh (aQ.f k a0) (aQ.f (k+1) a0):=by
 intro a0 k;have j:=aQ.eK k;unfold aQ.f;exact pw
set_option maxHeartbeats 8000000 in
set_option maxRecDepth 100000 in
theorem aQ.calls (k:Nat) (a0:Int) (r:Int) (w:World) (h:aQ.f k a0 = some r) :
  Calls Tryz.prog 59 #[.int .i64 a0] w fun e w'=>e = .returned (.int .i64 r)∧cw w w':=by
 unfold aQ.f at h;have H:=h;clear h;obtain ⟨t150,J,H⟩:=oX H;(try dsimp only at H);by_cases c3:t150 = true
 ·subst c3
  replace H:(aQ.l0 k a0 0) = some r:=by rw [if_pos rfl] at H;exact H
  have H':=ae.mk H;clear H;go_enter Tryz.func59,Tryz.ntmps59;go_wp2_with (first | (refine nm (some 5) Tryz.func96 #[.int .i64 8,.int .i64 a0] ?_;(with_reducible refine (cL.calls 8 a0 true _ J.out).mono ?_);rintro e w' ⟨rfl,⟨nd,rfl⟩⟩;refine ⟨_,rfl,?_⟩));go_loopg [0,3] k (fun kq v0 v3 w'=>∃ (j:Int) (y:Int),v0 = .int .i64 j∧v3 = .int .i64 y∧ae (aQ.l0 kq j y = some r)∧ae (kq≤k)∧cw w w')
  case atStart=>exact ⟨(a0),(0),nb,nb,H',⟨Nat.le_refl _⟩,pf⟩
  case round =>
   clear H';obtain ⟨j,y,rfl,rfl,HA,z,⟨m1,rfl⟩⟩:=hrel;cases gk with
   | zero=>exact absurd HA.out (by simp [aQ.l0])
   | succ M =>
    have H:=HA.out;clear HA;simp only [aQ.l0] at H;by_cases c4:j > 0
    ·rw [if_pos c4] at H
     have I:=decide_eq_true c4;clear c4;have H':=ae.mk H;clear H;go_wp2;go_roundg M;case measure=>have:=z.out;omega
     case rel=>exact ⟨(j / 2),(wrap64 (y+(Go.bits .and .i64 j 1))),nb,nb,H',⟨by have:=z.out;omega⟩,pf⟩
    ·rw [if_neg c4] at H
     have I:decide (0 < j) = false:=decide_eq_false c4;clear c4;obtain rfl:=Option.some.inj H;go_wp2;go_ret;exact ⟨nb,pf⟩
 ·replace c3:=Bool.eq_false_iff.mpr c3
  subst c3;replace H:(some 0) = some r:=by rw [if_neg (show ¬ (false = true) by decide)] at H;exact H
  obtain rfl:=Option.some.inj H;go_enter Tryz.func59,Tryz.ntmps59;go_wp2_with (first | (refine nm (some 5) Tryz.func96 #[.int .i64 8,.int .i64 a0] ?_;(with_reducible refine (cL.calls 8 a0 false _ J.out).mono ?_);rintro e w' ⟨rfl,⟨nd,rfl⟩⟩;refine ⟨_,rfl,?_⟩));go_ret;exact ⟨nb,pf⟩
def bI.l0:Nat→Int→List Int→Int→Option (Bool)
 | 0,_,_,_=>none
 | k+1,z,y,j=>if j < (y.length:Int) then (if 0≤j then ((cL.f z (rd y j)).bind fun t197=>(if t197 = true then (if j > 0 then (if 0≤(wrap64 (j - 1)) then (if (wrap64 (j - 1)) < (y.length:Int) then (if (rd y (wrap64 (j - 1)))≥(rd y j) then (some false) else (bI.l0 k z y (wrap64 (j+1)))) else (none)) else (none)) else (bI.l0 k z y (wrap64 (j+1)))) else (some false))) else (none)) else ((bL.f z 0 8).bind fun t200=>(some t200))
def bI.f (k:Nat) (a0:Int) (l1:List Int):Option (Bool):=bI.l0 k a0 l1 0
set_option maxHeartbeats 8000000 in
set_option maxRecDepth 100000 in
theorem bI.calls (k:Nat) (a0:Int) (A1:Option Addr) (c1:Nat) (l1:List Int) (r:Bool) (w:World) (ap:Kd.C (Kd.int .i64) w A1 l1.length l1) (ar:l1.length≤c1) (h:bI.f k a0 l1 = some r) :
  Calls Tryz.prog 92 #[.int .i64 a0,.slice A1 l1.length c1] w fun e w'=>e = .returned (.bool r)∧cw w w':=by
 have a5:=ae.mk ap;have aP:=ae.mk ar;clear ap ar;unfold bI.f at h;have H:=h;clear h;have H':=ae.mk H;clear H;go_enter Tryz.func92,Tryz.ntmps92;go_wp2;repeat (go_quiet (fail);try go_wp2)
 go_loopg [5] k (fun kq v5 w'=>∃ (j:Int),v5 = .int .i64 j∧ae (bI.l0 kq a0 l1 j = some r)∧ae (kq≤k)∧cw w w')
 case atStart=>exact ⟨(0),nb,H',⟨Nat.le_refl _⟩,pf⟩
 case round =>
  clear H';obtain ⟨j,rfl,HA,al,⟨m1,rfl⟩⟩:=hrel;cases gk with
  | zero=>exact absurd HA.out (by simp [bI.l0])
  | succ k1 =>
   have H:=HA.out;clear HA;simp only [bI.l0] at H;by_cases c3:j < (l1.length:Int)
   ·rw [if_pos c3] at H
    have aw:=decide_eq_true c3;clear c3;obtain ⟨c4,H⟩:=oY H;have aL:=decide_eq_true c4;clear c4;obtain ⟨t197,A5,H⟩:=oX H;(try dsimp only at H);by_cases c6:t197 = true
    ·subst c6
     replace H:(if j > 0 then (if 0≤(wrap64 (j - 1)) then (if (wrap64 (j - 1)) < (l1.length:Int) then (if (rd l1 (wrap64 (j - 1)))≥(rd l1 j) then (some false) else (bI.l0 k1 a0 l1 (wrap64 (j+1)))) else (none)) else (none)) else (bI.l0 k1 a0 l1 (wrap64 (j+1)))) = some r:=by rw [if_pos rfl] at H;exact H
     by_cases c7:j > 0
     ·rw [if_pos c7] at H
      have aB:=decide_eq_true c7;clear c7;obtain ⟨U,a8⟩:∃ j_:Int,(wrap64 (j - 1)) = j_:=⟨_,rfl⟩
      replace H:(if 0≤(U) then (if (U) < (l1.length:Int) then (if (rd l1 (U))≥(rd l1 j) then (some false) else (bI.l0 k1 a0 l1 (wrap64 (j+1)))) else (none)) else (none)) = some r:=by first | (rw [a8] at H;exact H) | (simp only [a8] at H ⊢;exact H)
      (try rw [a8] at A5);have aE:(IntKind.i64.wrap (j - 1)) = U:=(b9 _).trans a8;obtain ⟨c9,H⟩:=oY H;have aO:=decide_eq_true c9;clear c9;obtain ⟨iE,H⟩:=oY H;have aF:=decide_eq_true iE;clear iE;by_cases a9:(rd l1 (U))≥(rd l1 j)
      ·rw [if_pos a9] at H
       have am:=decide_eq_true a9;clear a9;obtain rfl:=Option.some.inj H;obtain ⟨M,a6,a7,aa,ab⟩:=pi a5.out j;cases a6
       go_wp2_with (first | (go_at_call 96;(with_reducible refine (cL.calls a0 (rd l1 j) true _ A5.out).mono ?_);rintro e w' ⟨rfl,⟨nd,rfl⟩⟩;(try exact pr);have y:0≤((U):Int):=pa;have z:(U) < (l1.length:Int):=pa;obtain ⟨X,a1,a2⟩:=Kd.cT a5.out (U) y z;obtain rfl:M = X:=(by injection a1);replace y:=eq_true y;replace z:=eq_true z;have I:0≤(j:Int):=pa;have J:j < (l1.length:Int):=pa;obtain ⟨Y,a3,a4⟩:=Kd.cT a5.out j I J;obtain rfl:M = Y:=(by injection a3);replace I:=eq_true I;replace J:=eq_true J));repeat (go_quiet (first | (go_at_call 96;(with_reducible refine (cL.calls a0 (rd l1 j) true _ A5.out).mono ?_);rintro e w' ⟨rfl,⟨nd,rfl⟩⟩;(try exact pr);have y:0≤((U):Int):=pa;have z:(U) < (l1.length:Int):=pa;obtain ⟨X,a1,a2⟩:=Kd.cT a5.out (U) y z;obtain rfl:M = X:=(by injection a1);replace y:=eq_true y;replace z:=eq_true z;have I:0≤(j:Int):=pa;have J:j < (l1.length:Int):=pa;obtain ⟨Y,a3,a4⟩:=Kd.cT a5.out j I J;obtain rfl:M = Y:=(by injection a3);replace I:=eq_true I;replace J:=eq_true J));try go_wp2_with (first | (go_at_call 96;(with_reducible refine (cL.calls a0 (rd l1 j) true _ A5.out).mono ?_);rintro e w' ⟨rfl,⟨nd,rfl⟩⟩;(try exact pr);have y:0≤((U):Int):=pa;have z:(U) < (l1.length:Int):=pa;obtain ⟨X,a1,a2⟩:=Kd.cT a5.out (U) y z;obtain rfl:M = X:=(by injection a1);replace y:=eq_true y;replace z:=eq_true z;have I:0≤(j:Int):=pa;have J:j < (l1.length:Int):=pa;obtain ⟨Y,a3,a4⟩:=Kd.cT a5.out j I J;obtain rfl:M = Y:=(by injection a3);replace I:=eq_true I;replace J:=eq_true J)))
       go_ret;exact ⟨by first | rfl | (simp;done) | (simp only [← a8] <;> (first | rfl | simp)) | (simp [*];done),pf⟩
      ·rw [if_neg a9] at H
       have am:decide ((rd l1 j)≤(rd l1 (U))) = false:=decide_eq_false a9;clear a9;have H':=ae.mk H;clear H;obtain ⟨M,a6,a7,aa,ab⟩:=pi a5.out j;cases a6
       go_wp2_with (first | (go_at_call 96;(with_reducible refine (cL.calls a0 (rd l1 j) true _ A5.out).mono ?_);rintro e w' ⟨rfl,⟨nd,rfl⟩⟩;(try exact pr);have y:0≤((U):Int):=pa;have z:(U) < (l1.length:Int):=pa;obtain ⟨X,a1,a2⟩:=Kd.cT a5.out (U) y z;obtain rfl:M = X:=(by injection a1);replace y:=eq_true y;replace z:=eq_true z;have I:0≤(j:Int):=pa;have J:j < (l1.length:Int):=pa;obtain ⟨Y,a3,a4⟩:=Kd.cT a5.out j I J;obtain rfl:M = Y:=(by injection a3);replace I:=eq_true I;replace J:=eq_true J));repeat (go_quiet (first | (go_at_call 96;(with_reducible refine (cL.calls a0 (rd l1 j) true _ A5.out).mono ?_);rintro e w' ⟨rfl,⟨nd,rfl⟩⟩;(try exact pr);have y:0≤((U):Int):=pa;have z:(U) < (l1.length:Int):=pa;obtain ⟨X,a1,a2⟩:=Kd.cT a5.out (U) y z;obtain rfl:M = X:=(by injection a1);replace y:=eq_true y;replace z:=eq_true z;have I:0≤(j:Int):=pa;have J:j < (l1.length:Int):=pa;obtain ⟨Y,a3,a4⟩:=Kd.cT a5.out j I J;obtain rfl:M = Y:=(by injection a3);replace I:=eq_true I;replace J:=eq_true J));try go_wp2_with (first | (go_at_call 96;(with_reducible refine (cL.calls a0 (rd l1 j) true _ A5.out).mono ?_);rintro e w' ⟨rfl,⟨nd,rfl⟩⟩;(try exact pr);have y:0≤((U):Int):=pa;have z:(U) < (l1.length:Int):=pa;obtain ⟨X,a1,a2⟩:=Kd.cT a5.out (U) y z;obtain rfl:M = X:=(by injection a1);replace y:=eq_true y;replace z:=eq_true z;have I:0≤(j:Int):=pa;have J:j < (l1.length:Int):=pa;obtain ⟨Y,a3,a4⟩:=Kd.cT a5.out j I J;obtain rfl:M = Y:=(by injection a3);replace I:=eq_true I;replace J:=eq_true J)))
       go_roundg k1;case measure=>have:=al.out;omega
       case rel=>exact ⟨(wrap64 (j+1)),nb,H',⟨by have:=al.out;omega⟩,pf⟩
     ·rw [if_neg c7] at H
      have aB:decide (0 < j) = false:=decide_eq_false c7;clear c7;have H':=ae.mk H;clear H;obtain ⟨M,a6,a7,aa,ab⟩:=pi a5.out j;cases a6
      go_wp2_with (first | (go_at_call 96;(with_reducible refine (cL.calls a0 (rd l1 j) true _ A5.out).mono ?_);rintro e w' ⟨rfl,⟨nd,rfl⟩⟩;(try exact pr)));repeat (go_quiet (first | (go_at_call 96;(with_reducible refine (cL.calls a0 (rd l1 j) true _ A5.out).mono ?_);rintro e w' ⟨rfl,⟨nd,rfl⟩⟩;(try exact pr)));try go_wp2_with (first | (go_at_call 96;(with_reducible refine (cL.calls a0 (rd l1 j) true _ A5.out).mono ?_);rintro e w' ⟨rfl,⟨nd,rfl⟩⟩;(try exact pr))))
      go_roundg k1;case measure=>have:=al.out;omega
      case rel=>exact ⟨(wrap64 (j+1)),nb,H',⟨by have:=al.out;omega⟩,pf⟩
    ·replace c6:=Bool.eq_false_iff.mpr c6
     subst c6;replace H:(some false) = some r:=by rw [if_neg (show ¬ (false = true) by decide)] at H;exact H
     obtain rfl:=Option.some.inj H;obtain ⟨M,a6,a7,aa,ab⟩:=pi a5.out j;cases a6
     go_wp2_with (first | (go_at_call 96;(with_reducible refine (cL.calls a0 (rd l1 j) false _ A5.out).mono ?_);rintro e w' ⟨rfl,⟨nd,rfl⟩⟩;(try exact pr)));repeat (go_quiet (first | (go_at_call 96;(with_reducible refine (cL.calls a0 (rd l1 j) false _ A5.out).mono ?_);rintro e w' ⟨rfl,⟨nd,rfl⟩⟩;(try exact pr)));try go_wp2_with (first | (go_at_call 96;(with_reducible refine (cL.calls a0 (rd l1 j) false _ A5.out).mono ?_);rintro e w' ⟨rfl,⟨nd,rfl⟩⟩;(try exact pr))))
     go_ret;exact ⟨nb,pf⟩
   ·rw [if_neg c3] at H
    have aw:decide (j < (l1.length:Int)) = false:=decide_eq_false c3;clear c3;obtain ⟨t200,ao,H⟩:=oX H;(try dsimp only at H);obtain rfl:=Option.some.inj H;go_wp2_with (first | (go_at_call 46;(with_reducible refine (bL.calls a0 0 8 t200 _ ao.out).mono ?_);rintro e w' ⟨rfl,⟨nd,rfl⟩⟩;(try exact pr)));repeat (go_quiet (first | (go_at_call 46;(with_reducible refine (bL.calls a0 0 8 t200 _ ao.out).mono ?_);rintro e w' ⟨rfl,⟨nd,rfl⟩⟩;(try exact pr)));try go_wp2_with (first | (go_at_call 46;(with_reducible refine (bL.calls a0 0 8 t200 _ ao.out).mono ?_);rintro e w' ⟨rfl,⟨nd,rfl⟩⟩;(try exact pr))))
    go_ret;exact ⟨nb,pf⟩
def cg.f (a0:Int) (j:Int):Option (Bool):=if 0≤(IntKind.u64.wrap (j)) then (some ((Go.bits .and .i64 (shr .i64 a0 (IntKind.u64.wrap (j))) 1) == 1)) else (none)
set_option maxHeartbeats 8000000 in
set_option maxRecDepth 100000 in
theorem cg.calls (a0:Int) (J:Int) (r:Bool) (w:World) (h:cg.f a0 J = some r) :
  Calls Tryz.prog 134 #[.int .i64 a0,.int .i64 J] w fun e w'=>e = .returned (.bool r)∧cw w w':=by
 unfold cg.f at h;have H:=h;clear h;obtain ⟨y,z⟩:∃ M:Int,(IntKind.u64.wrap (J)) = M:=⟨_,rfl⟩
 replace H:(if 0≤(y) then (some ((Go.bits .and .i64 (shr .i64 a0 (y)) 1) == 1)) else (none)) = some r:=by first | (rw [z] at H;exact H) | (simp only [z] at H ⊢;exact H)
 obtain ⟨c4,H⟩:=oY H;have Y:=eq_true c4;have a2:decide (0≤(y)) = true:=decide_eq_true c4;clear c4;obtain ⟨I,j⟩:∃ M:Int,(shr .i64 a0 (y)) = M:=⟨_,rfl⟩
 replace H:(some ((Go.bits .and .i64 (I) 1) == 1)) = some r:=by first | (rw [j] at H;exact H) | (simp only [j] at H ⊢;exact H)
 have U:(a0 / 2 ^ min (y).toNat 64) = I:=j;have X:(y)≤64→(a0 / 2 ^ (y).toNat) = I:=iq j;obtain rfl:=Option.some.inj H;go_enter Tryz.func134,Tryz.ntmps134;go_wp2;go_ret;exact ⟨by first | rfl | (simp;done) | (simp only [← z,← j] <;> (first | rfl | simp)) | (simp [*];done),pf⟩
def bP.l0:Nat→List Int→Int→Int→Option (Bool)
 | 0,_,_,_=>none
 | k+1,y,z,j=>if j < (y.length:Int) then (if 0≤j then (if (rd y j) = z then (some true) else (bP.l0 k y z (wrap64 (j+1)))) else (none)) else (some false)
def bP.f (k:Nat) (l0:List Int) (j:Int):Option (Bool):=bP.l0 k l0 j 0
set_option maxHeartbeats 8000000 in
set_option maxRecDepth 100000 in
theorem bP.calls (k:Nat) (A0:Option Addr) (c0:Nat) (l0:List Int) (I:Int) (r:Bool) (w:World) (M:Kd.C (Kd.int .i64) w A0 l0.length l0) (U:l0.length≤c0) (h:bP.f k l0 I = some r) :
  Calls Tryz.prog 81 #[.slice A0 l0.length c0,.int .i64 I] w fun e w'=>e = .returned (.bool r)∧cw w w':=by
 have X:=ae.mk M;have a7:=ae.mk U;clear M U;unfold bP.f at h;have H:=h;clear h;have H':=ae.mk H;clear H;go_enter Tryz.func81,Tryz.ntmps81;go_wp2;go_loopg [5] k (fun kq v5 w'=>∃ (j:Int),v5 = .int .i64 j∧ae (bP.l0 kq l0 I j = some r)∧ae (kq≤k)∧cw w w')
 case atStart=>exact ⟨(0),nb,H',⟨Nat.le_refl _⟩,pf⟩
 case round =>
  clear H';obtain ⟨j,rfl,HA,Y,⟨m1,rfl⟩⟩:=hrel;cases gk with
  | zero=>exact absurd HA.out (by simp [bP.l0])
  | succ k1 =>
   have H:=HA.out;clear HA;simp only [bP.l0] at H;by_cases c3:j < (l0.length:Int)
   ·rw [if_pos c3] at H
    have a0:=decide_eq_true c3;clear c3;obtain ⟨c4,H⟩:=oY H;have a6:=decide_eq_true c4;clear c4;by_cases c5:(rd l0 j) = I
    ·rw [if_pos c5] at H
     have a2:((rd l0 j) == I) = true:=beq_iff_eq.mpr c5;have a3:((rd l0 j) != I) = false:=bne_eq_false_iff_eq.mpr c5;clear c5;obtain rfl:=Option.some.inj H;obtain ⟨J,y,z,a4,a5⟩:=pi X.out j;cases y
     go_wp2;go_ret;exact ⟨nb,pf⟩
    ·rw [if_neg c5] at H
     have a2:((rd l0 j) == I) = false:=beq_eq_false_iff_ne.mpr c5;have a3:((rd l0 j) != I) = true:=bne_iff_ne.mpr c5;have H':=ae.mk H;clear H;obtain ⟨J,y,z,a4,a5⟩:=pi X.out j;cases y
     go_wp2;go_roundg k1;case measure=>have:=Y.out;omega
     case rel=>exact ⟨(wrap64 (j+1)),nb,H',⟨by have:=Y.out;omega⟩,pf⟩
   ·rw [if_neg c3] at H
    have a0:decide (j < (l0.length:Int)) = false:=decide_eq_false c3;clear c3;obtain rfl:=Option.some.inj H;go_wp2;go_ret;exact ⟨nb,pf⟩
def aV.l0:Nat→Int→Int→Int→Int→Int→List Int→Option (Bool)
 | 0,_,_,_,_,_,_=>none
 | k+1,I,Y,J,z,j,y=>if z < j then ((cg.f Y z).bind fun M=>(if M = true then ((cg.f I z).bind fun U=>(if U = true then (aV.l0 k I Y J (wrap64 (z+1)) j y) else (if 0≤(IntKind.u64.wrap (J)) then (if 0≤(IntKind.u64.wrap (z)) then ((bP.f k y (wrap64 ((wrap64 (I - (shl .i64 1 (IntKind.u64.wrap (J)))))+(shl .i64 1 (IntKind.u64.wrap (z)))))).bind fun X=>(if X = true then (some true) else (aV.l0 k I Y J (wrap64 (z+1)) j y))) else (none)) else (none)))) else (aV.l0 k I Y J (wrap64 (z+1)) j y))) else (some false)
def aV.f (k:Nat) (j:Int) (y:List Int) (z:Int) (a2:Int) (a3:Int):Option (Bool):=aV.l0 k z a2 a3 0 j y
set_option maxHeartbeats 8000000 in
set_option maxRecDepth 100000 in
theorem aV.calls (k:Nat) (z:Int) (a7:Option Addr) (a8:Nat) (y:List Int) (a1:Int) (a2:Int) (a3:Int) (r:Bool) (w:World) (ao:Kd.C (Kd.int .i64) w a7 y.length y) (ap:y.length≤a8) (h:aV.f k z y a1 a2 a3 = some r) :
  Calls Tryz.prog 143 #[.agg #[.int .i64 z,.slice a7 y.length a8],.int .i64 a1,.int .i64 a2,.int .i64 a3] w fun e w'=>e = .returned (.bool r)∧Below w.heap.size w w':=by
 have d3:=Tryz.underlying37;have ar:=ae.mk ao;have aw:=ae.mk ap;clear ao ap;have HB:=ae.mk (Below.refl w.heap.size w);unfold aV.f at h;have H:=h;clear h;have H':=ae.mk H;clear H;go_enter Tryz.func143,Tryz.ntmps143;go_wp2_with (first | ((with_reducible refine aZ (N:=4) rfl ?_);refine pd 4 #[.int .i64 z,.slice a7 y.length a8] 37 ?_;intro aL hg w5 hbox hb;have I:=ae.mk hbox;have cy:=no hg HB;have cX:=no hg HB;replace HB:=np HB hb;clear hb hbox hg));go_loopg [9] k (fun kq v9 w'=>∃ (j:Int),v9 = .int .i64 j∧ae (aV.l0 kq a1 a2 a3 j z y = some r)∧ae (kq≤k)∧ae (w'.heap[aL]? = some (.cells #[.int .i64 z,(.slice a7 y.length a8)] 37 (0,0)))∧ae (Below w.heap.size w w'))
 case atStart=>exact ⟨(0),nb,H',⟨Nat.le_refl _⟩,⟨o0 I.out⟩,⟨n8 HB.out⟩⟩
 case round =>
  clear H';obtain ⟨j,rfl,HA,am,I,HB⟩:=hrel;cases gk with
  | zero=>exact absurd HA.out (by simp [aV.l0])
  | succ k1 =>
   have H:=HA.out;clear HA;simp only [aV.l0] at H;by_cases c6:j < z
   ·rw [if_pos c6] at H
    have aR:=decide_eq_true c6;clear c6;obtain ⟨aS,A7,H⟩:=oX H;(try dsimp only at H);by_cases c8:aS = true
    ·subst c8
     replace H:((cg.f a1 j).bind fun aB=>(if aB = true then (aV.l0 k1 a1 a2 a3 (wrap64 (j+1)) z y) else (if 0≤(IntKind.u64.wrap (a3)) then (if 0≤(IntKind.u64.wrap (j)) then ((bP.f k1 y (wrap64 ((wrap64 (a1 - (shl .i64 1 (IntKind.u64.wrap (a3)))))+(shl .i64 1 (IntKind.u64.wrap (j)))))).bind fun J=>(if J = true then (some true) else (aV.l0 k1 a1 a2 a3 (wrap64 (j+1)) z y))) else (none)) else (none)))) = some r:=by rw [if_pos rfl] at H;exact H
     obtain ⟨aB,A9,H⟩:=oX H;(try dsimp only at H);by_cases iE:aB = true
     ·subst iE
      replace H:(aV.l0 k1 a1 a2 a3 (wrap64 (j+1)) z y) = some r:=by rw [if_pos rfl] at H;exact H
      have H':=ae.mk H;clear H;obtain ⟨b0,b1,b2,b3⟩:=nz I.out;go_wp2_with (first | ((with_reducible refine aW (f:=134) rfl ?_);refine nm (some 18) Tryz.func134 #[.int .i64 a2,.int .i64 j] ?_;(with_reducible refine (cg.calls a2 j true _ A7.out).mono ?_);rintro e w' ⟨rfl,⟨nd,rfl⟩⟩;refine ⟨_,rfl,?_⟩) | (go_at_call 134;(with_reducible refine (cg.calls a1 j true _ A9.out).mono ?_);rintro e w' ⟨rfl,⟨nd,rfl⟩⟩));go_roundg k1;case measure=>have:=am.out;omega
      case rel=>exact ⟨(wrap64 (j+1)),nb,H',⟨by have:=am.out;omega⟩,⟨o0 I.out⟩,⟨n8 HB.out⟩⟩
     ·replace iE:=Bool.eq_false_iff.mpr iE
      subst iE;replace H:(if 0≤(IntKind.u64.wrap (a3)) then (if 0≤(IntKind.u64.wrap (j)) then ((bP.f k1 y (wrap64 ((wrap64 (a1 - (shl .i64 1 (IntKind.u64.wrap (a3)))))+(shl .i64 1 (IntKind.u64.wrap (j)))))).bind fun J=>(if J = true then (some true) else (aV.l0 k1 a1 a2 a3 (wrap64 (j+1)) z y))) else (none)) else (none)) = some r:=by rw [if_neg (show ¬ (false = true) by decide)] at H;exact H
      obtain ⟨M,a5⟩:∃ j_:Int,(IntKind.u64.wrap (a3)) = j_:=⟨_,rfl⟩
      replace H:(if 0≤(M) then (if 0≤(IntKind.u64.wrap (j)) then ((bP.f k1 y (wrap64 ((wrap64 (a1 - (shl .i64 1 (M))))+(shl .i64 1 (IntKind.u64.wrap (j)))))).bind fun J=>(if J = true then (some true) else (aV.l0 k1 a1 a2 a3 (wrap64 (j+1)) z y))) else (none)) else (none)) = some r:=by first | (rw [a5] at H;exact H) | (simp only [a5] at H ⊢;exact H)
      (try rw [a5] at A7);(try rw [a5] at A9);obtain ⟨aO,H⟩:=oY H;have cY:=eq_true aO;have d0:decide (0≤(M)) = true:=decide_eq_true aO;clear aO;obtain ⟨X,Y⟩:∃ j_:Int,(shl .i64 1 (M)) = j_:=⟨_,rfl⟩
      replace H:(if 0≤(IntKind.u64.wrap (j)) then ((bP.f k1 y (wrap64 ((wrap64 (a1 - (X)))+(shl .i64 1 (IntKind.u64.wrap (j)))))).bind fun J=>(if J = true then (some true) else (aV.l0 k1 a1 a2 a3 (wrap64 (j+1)) z y))) else (none)) = some r:=by first | (rw [Y] at H;exact H) | (simp only [Y] at H ⊢;exact H)
      (try rw [Y] at A7);(try rw [Y] at A9);have a9:(IntKind.i64.wrap (1 * 2 ^ min (M).toNat 64)) = X:=Y;have aa:(M)≤64→(IntKind.i64.wrap (1 * 2 ^ (M).toNat)) = X:=eu Y;have cf:(IntKind.i64.wrap (2 ^ min (M).toNat 64)) = X:=by have h_:=a9;rw [Int.one_mul] at h_;exact h_
      have ch:(M)≤64→(IntKind.i64.wrap (2 ^ (M).toNat)) = X:=fun aE=>by have h_:=aa aE;rw [Int.one_mul] at h_;exact h_
      have ci:(wrap64 (1 * 2 ^ min (M).toNat 64)) = X:=(b9 _).symm.trans a9;have cl:(M)≤64→(wrap64 (1 * 2 ^ (M).toNat)) = X:=fun h_=>(b9 _).symm.trans (aa h_)
      obtain ⟨U,a6⟩:∃ j_:Int,(IntKind.u64.wrap (j)) = j_:=⟨_,rfl⟩
      replace H:(if 0≤(U) then ((bP.f k1 y (wrap64 ((wrap64 (a1 - (X)))+(shl .i64 1 (U))))).bind fun J=>(if J = true then (some true) else (aV.l0 k1 a1 a2 a3 (wrap64 (j+1)) z y))) else (none)) = some r:=by first | (rw [a6] at H;exact H) | (simp only [a6] at H ⊢;exact H)
      (try rw [a6] at A7);(try rw [a6] at A9);obtain ⟨aP,H⟩:=oY H;have d1:=eq_true aP;have d2:decide (0≤(U)) = true:=decide_eq_true aP;clear aP;obtain ⟨a4,a0⟩:∃ j_:Int,(shl .i64 1 (U)) = j_:=⟨_,rfl⟩
      replace H:((bP.f k1 y (wrap64 ((wrap64 (a1 - (X)))+(a4)))).bind fun J=>(if J = true then (some true) else (aV.l0 k1 a1 a2 a3 (wrap64 (j+1)) z y))) = some r:=by first | (rw [a0] at H;exact H) | (simp only [a0] at H ⊢;exact H)
      (try rw [a0] at A7);(try rw [a0] at A9);have ab:(IntKind.i64.wrap (1 * 2 ^ min (U).toNat 64)) = a4:=a0;have al:(U)≤64→(IntKind.i64.wrap (1 * 2 ^ (U).toNat)) = a4:=eu a0;have co:(IntKind.i64.wrap (2 ^ min (U).toNat 64)) = a4:=by have h_:=ab;rw [Int.one_mul] at h_;exact h_
      have cp:(U)≤64→(IntKind.i64.wrap (2 ^ (U).toNat)) = a4:=fun aE=>by have h_:=al aE;rw [Int.one_mul] at h_;exact h_
      have cr:(wrap64 (1 * 2 ^ min (U).toNat 64)) = a4:=(b9 _).symm.trans ab;have cx:(U)≤64→(wrap64 (1 * 2 ^ (U).toNat)) = a4:=fun h_=>(b9 _).symm.trans (al h_)
      obtain ⟨J,b4,H⟩:=oX H;(try dsimp only at H);by_cases aF:J = true
      ·subst aF
       replace H:(some true) = some r:=by rw [if_pos rfl] at H;exact H
       obtain rfl:=Option.some.inj H;obtain ⟨ba,bc,bd,bi⟩:=nz I.out;go_wp2_with (first | ((with_reducible refine aW (f:=134) rfl ?_);refine nm (some 18) Tryz.func134 #[.int .i64 a2,.int .i64 j] ?_;(with_reducible refine (cg.calls a2 j true _ A7.out).mono ?_);rintro e w' ⟨rfl,⟨nd,rfl⟩⟩;refine ⟨_,rfl,?_⟩) | (go_at_call 134;(with_reducible refine (cg.calls a1 j false _ A9.out).mono ?_);rintro e w' ⟨rfl,⟨nd,rfl⟩⟩) | (go_at_call 81;(with_reducible refine (bP.calls k1 _ _ y (wrap64 ((wrap64 (a1 - (X)))+(a4))) true _ ?side1 ?side2 b4.out).mono ?_);(case side1=>exact ol (Kd.aJ ar.out HB.out));(case side2=>exact aw.out);rintro e w' ⟨rfl,⟨nd,rfl⟩⟩));go_ret;exact ⟨by first | rfl | (simp [eI,eJ] <;> rfl) | (simp only [← a5,← Y,← a6,← a0];first | rfl | (simp [eI,eJ] <;> rfl)) | (simp [*,eI,eJ] <;> rfl),na⟩
      ·replace aF:=Bool.eq_false_iff.mpr aF
       subst aF;replace H:(aV.l0 k1 a1 a2 a3 (wrap64 (j+1)) z y) = some r:=by rw [if_neg (show ¬ (false = true) by decide)] at H;exact H
       have H':=ae.mk H;clear H;obtain ⟨bk,bm,bo,bs⟩:=nz I.out;go_wp2_with (first | ((with_reducible refine aW (f:=134) rfl ?_);refine nm (some 18) Tryz.func134 #[.int .i64 a2,.int .i64 j] ?_;(with_reducible refine (cg.calls a2 j true _ A7.out).mono ?_);rintro e w' ⟨rfl,⟨nd,rfl⟩⟩;refine ⟨_,rfl,?_⟩) | (go_at_call 134;(with_reducible refine (cg.calls a1 j false _ A9.out).mono ?_);rintro e w' ⟨rfl,⟨nd,rfl⟩⟩) | (go_at_call 81;(with_reducible refine (bP.calls k1 _ _ y (wrap64 ((wrap64 (a1 - (X)))+(a4))) false _ ?side1 ?side2 b4.out).mono ?_);(case side1=>exact ol (Kd.aJ ar.out HB.out));(case side2=>exact aw.out);rintro e w' ⟨rfl,⟨nd,rfl⟩⟩));go_roundg k1;case measure=>have:=am.out;omega
       case rel=>exact ⟨(wrap64 (j+1)),nb,H',⟨by have:=am.out;omega⟩,⟨o0 I.out⟩,⟨n8 HB.out⟩⟩
    ·replace c8:=Bool.eq_false_iff.mpr c8
     subst c8;replace H:(aV.l0 k1 a1 a2 a3 (wrap64 (j+1)) z y) = some r:=by rw [if_neg (show ¬ (false = true) by decide)] at H;exact H
     have H':=ae.mk H;clear H;obtain ⟨bv,c0,c1,ca⟩:=nz I.out;go_wp2_with (first | ((with_reducible refine aW (f:=134) rfl ?_);refine nm (some 18) Tryz.func134 #[.int .i64 a2,.int .i64 j] ?_;(with_reducible refine (cg.calls a2 j false _ A7.out).mono ?_);rintro e w' ⟨rfl,⟨nd,rfl⟩⟩;refine ⟨_,rfl,?_⟩));go_roundg k1;case measure=>have:=am.out;omega
     case rel=>exact ⟨(wrap64 (j+1)),nb,H',⟨by have:=am.out;omega⟩,⟨o0 I.out⟩,⟨n8 HB.out⟩⟩
   ·rw [if_neg c6] at H
    have aR:decide (j < z) = false:=decide_eq_false c6;clear c6;obtain rfl:=Option.some.inj H;obtain ⟨cb,cc,cd,ce⟩:=nz I.out;go_wp2;go_ret;exact ⟨pj,na⟩
end Pr
end
end Go.Proofs.YtlfkfdmggpipbaaGreat
