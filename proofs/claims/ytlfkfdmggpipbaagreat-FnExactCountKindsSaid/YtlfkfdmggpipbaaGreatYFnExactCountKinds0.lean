/- The claim FnExactCountKinds: every text that its row comes to, laid together by slim.py (the words of the kit's print, the printed walks, the pure law, the row). -/
import Derived.ArgAppend
import Derived.Below
import Derived.BigQuiet
import Derived.ChangeArms
import Derived.ChangeOld
import Derived.DataReads
import Derived.Deep.AppendLies
import Derived.Deep.CutBlock
import Derived.Deep.DeepCutAuto
import Derived.Deep.Draws
import Derived.Deep.LoopGhost
import Derived.Deep.OwnRows
import Derived.Deep.QuietTactic
import Derived.Deep.RegionHeld3
import Derived.Deep.Slices
import Derived.KernelRfl
import Derived.Laws.BitsLemmas
import Derived.Laws.BytesArg
import Derived.Laws.IdiomCopy
import Derived.Laws.MakeOwn
import Derived.Laws.OwnMore
import Derived.Laws.Rows
import Derived.Laws.Slices
import Derived.Laws.StructEq
import Derived.Lib.AppendStr
import Derived.Lib.ConvBytes
import Derived.Lib.OwnBridge
import Derived.Lib.RowBridge
import Derived.Maps.AppendAt
import Derived.OpenShut
import Derived.OrdersHeld
import Derived.OwnWalk
import Derived.ProofKit
import Derived.RowKit
import Derived.RowKit3
import Derived.Shelf.SlGeneric
import Derived.Shelf.SlLaysF0
import Derived.Shelf.SlSortCmp.NoneTotal
import Derived.Shelf.Slices.CompactI
import Derived.Shelf.Slices.In.SortNone
import Derived.Shelf.Sort.Plain
import Derived.ShutString
import Derived.SizedLaws
import Derived.Sort.Grow
import Derived.Sort.OwnSortedInts
import Derived.Tactics
import Derived.Test.YtlfkfdmggpipbaaGreatProg
import Derived.Test.YtlfkfdmggpipbaaGreatRows
import Derived.WalkKit
import Derived.WideLaws
section
set_option linter.unusedVariables false
set_option linter.unusedSimpArgs false
namespace Go.Proofs.ag.b6
open Go.RowKit
structure ae (p:Prop):Prop where mk :: (out:p)
structure cj (w w':World):Prop where mk :: (out:∃ n,w' = w.drewN n)
theorem cj.refl (w:World):cj w w:=⟨⟨0,rfl⟩⟩
theorem cj.step {w w':World} (h:cj w w') (n:Nat):cj w (w'.drewN n):=by
 obtain ⟨m,rfl⟩:=h;exact ⟨⟨m+n,World.drewN_drewN ..⟩⟩
theorem cj.grown {w w':World} (h:cj w w'):Grown w w':=by
 obtain ⟨n,rfl⟩:=h;induction n with
 | zero=>exact Grown.refl _
 | succ n ih=>rw [← World.drew_drewN];exact Grown.drew ih
theorem cj.below {w w':World} (h:cj w w'):Below w.heap.size w w':=by
 obtain ⟨n,rfl⟩:=h;induction n with
 | zero=>exact Below.refl _ _
 | succ n ih=>rw [← World.drew_drewN];exact ih.drew
def rd (xs:List Int) (i:Int):Int:=xs.getD i.toNat 0
def bt (s:ByteArray) (i:Int):Int:=if h:i.toNat < s.size then ((s[i.toNat]'h).toNat:Int) else 0
theorem dm {w W:World} (h:Below w.heap.size w W) (o:Obj):Below w.heap.size w (W.alloc o):=h.alloc h.size o
theorem fJ {B:Nat} {w W:World} (h:Below B w W):Below B w W.drew:=⟨h.os,h.tape,h.output,h.size,h.block⟩
theorem cM {B:Nat} {w W:World} (h:Below B w W) (n:Nat):Below B w (W.drewN n):=⟨h.os,h.tape,h.output,h.size,h.block⟩
theorem jI {B:Nat} {w w1 j:World} (h:Below B w w1) (hB:B≤w1.heap.size) (k:Below w1.heap.size w1 j):Below B w j :=
 h.trans ⟨k.os,k.tape,k.output,k.size,fun i hi=>k.block i (Nat.lt_of_lt_of_le hi hB)⟩
theorem jJ {w w1:World} (h:Below w.heap.size w w1) (row:Option Nat):w.grownBy w1 row:=⟨h.os,h.tape,h.output,h.size,fun i hi _=>h.block i hi⟩
theorem fT {w w1:World} (h:Below w.heap.size w w1) {a:Addr} {v:Value} (hc:w.cell? a = some v):w1.cell? a = some v:=(h.cell (World.block_lt_of_cell? w a hc)).trans hc
theorem add_plain (g j:Nat):(⟨g,0,none⟩:Addr).add j = ⟨g,j,none⟩:=by unfold Addr.add;split <;> simp_all
def dJ (w:World) (k:IntKind) (A:Option Addr) (n:Nat) (xs:List Int):Prop :=
 xs.length = n∧n≤9223372036854775807∧(0 < n→∃ ad,A = some ad∧∀ j,j < n→w.cell? (ad.add j) = some (.int k (xs.getD j 0)))
theorem dJ.at_ {w:World} {k:IntKind} {A:Option Addr} {n:Nat} {xs:List Int} (h:dJ w k A n xs) (i:Int) (j:0≤i) (h1:i < n):∃ ad,A = some ad∧w.cell? (ad.add i.toNat) = some (.int k (rd xs i)):=by
 obtain ⟨ad,e,hc⟩:=h.2.2 (by omega);exact ⟨ad,e,hc _ (by omega)⟩
theorem dJ.below {w w1:World} {k:IntKind} {A:Option Addr} {n:Nat} {xs:List Int} (h:dJ w k A n xs) (hb:Below w.heap.size w w1):dJ w1 k A n xs :=
 ⟨h.1,h.2.1,fun hn=>by
  obtain ⟨ad,e,hc⟩:=h.2.2 hn;exact ⟨ad,e,fun j hj=>fT hb (hc j hj)⟩⟩
theorem q9 (W:World) (base:Nat) (e:TypeId) (size:Nat):W.ownsRow base e size (.slice none 0 0) 0 []:=⟨by simp,.inl ⟨rfl,rfl⟩⟩
theorem fW {w:World} {base:Nat} {e:TypeId} {size n:Nat} {v:Value} {xs:List Value} (h:w.ownsRow base e size v n xs) (k:Nat) (hk:v.ownBlock = some k):base≤k:=by
 rcases h.2 with ⟨rfl,_⟩ | ⟨g,cap,cur,rfl,hb,_⟩
 ·simp [Value.ownBlock] at hk
 ·have:g = k:=by simpa [Value.ownBlock] using hk
  omega
theorem oB {w:World} {base:Nat} {e:TypeId} {size n:Nat} {v:Value} {xs:List Value} (h:w.ownsRow base e size v n xs) (k:Nat) (hk:v.ownBlock = some k):k < w.heap.size:=by
 rcases h.2 with ⟨rfl,_⟩ | ⟨g,cap,cur,rfl,hb,hh,_⟩
 ·simp [Value.ownBlock] at hk
 ·have:g = k:=by simpa [Value.ownBlock] using hk
  subst this;exact (Array.getElem?_eq_some_iff.1 hh).1
theorem kU {w w1:World} {base:Nat} {e:TypeId} {size n:Nat} {v:Value} {xs:List Value} (h:w.ownsRow base e size v n xs) (hb:Below w.heap.size w w1):w1.ownsRow base e size v n xs :=
 h.kept (jJ hb none) (by cases v.ownBlock <;> simp)
theorem nN {w:World} {base n:Nat} {e:TypeId} {size:Nat} {v:Value} {xs:List Value} (h:w.ownsRow base e size v n xs):∃ A c,v = .slice A n c:=by
 rcases h.2 with ⟨rfl,rfl⟩ | ⟨g,cap,cur,rfl,_⟩
 ·exact ⟨none,0,rfl⟩
 ·exact ⟨_,cap,rfl⟩
theorem dJ.jK {w:World} {k:IntKind} {A:Option Addr} {n:Nat} {xs:List Int} (h:dJ w k A n xs) (i:Nat) (hi:i≤n):dJ w k A i (xs.take i):=by
 refine ⟨by rw [List.length_take,h.1];omega,by have:=h.2.1;omega,fun hp=>?_⟩;obtain ⟨ad,e,hc⟩:=h.2.2 (by omega);refine ⟨ad,e,fun j hj=>?_⟩;rw [hc j (by omega)];simp [List.getD_eq_getElem?_getD,hj]
def eX {α:Type} (a b:Option α):Prop:=∀ r,a = some r→b = some r
theorem eX.refl {α:Type} (a:Option α):eX a a:=fun _ h=>h
theorem eX.none {α:Type} (b:Option α):eX Option.none b:=fun _ h=>by cases h
theorem eX.trans {α:Type} {a b c:Option α} (h:eX a b) (k:eX b c):eX a c:=fun r hr=>k r (h r hr)
theorem eX.ite {α:Type} {c:Prop} [Decidable c] {a a' b b':Option α} (h:eX a a') (k:eX b b'):eX (if c then a else b) (if c then a' else b'):=by
 split
 ·exact h
 ·exact k
theorem eX.bind {α β:Type} {a a':Option α} {f f':α→Option β} (h:eX a a') (k:∀ x,eX (f x) (f' x)):eX (a.bind f) (a'.bind f'):=by
 intro r hr;obtain ⟨x,hx,hf⟩:=Option.bind_eq_some_iff.1 hr;exact Option.bind_eq_some_iff.2 ⟨x,h x hx,k x r hf⟩
theorem eX.map {α β:Type} {a a':Option α} (f:α→β) (h:eX a a'):eX (a.map f) (a'.map f):=by
 intro r hr;obtain ⟨x,hx,hf⟩:=Option.map_eq_some_iff.1 hr;exact Option.map_eq_some_iff.2 ⟨x,h x hx,hf⟩
theorem jn {α:Type} {g:Nat→Option α} (h:∀ k,eX (g k) (g (k+1))) (k:Nat):∀ j,eX (g k) (g (k+j))
 | 0=>eX.refl _
 | j+1=>(jn h k j).trans (h (k+j))
theorem kB {α:Type} {g:Nat→Option α} (h:∀ k,eX (g k) (g (k+1))) {k k':Nat} (hk:k≤k') {r:α} (hr:g k = some r):g k' = some r:=by
 have:=jn h k (k' - k) r hr;rwa [Nat.add_sub_cancel' hk] at this
def ck {α:Type} (R:α→List Value→Prop) (size:Nat) (ps:List α) (cs:List Value):Prop :=
 cs.length = ps.length * size∧∀ j p,ps[j]? = some p→R p ((cs.drop (j * size)).take size)
theorem ck.none {α:Type} (R:α→List Value→Prop) (size:Nat):ck R size [] []:=⟨by simp,fun j p h=>by simp at h⟩
theorem ck.snoc {α:Type} {R:α→List Value→Prop} {size:Nat} {ps:List α} {cs c:List Value} {p:α} (h:ck R size ps cs) (hp:R p c) (hc:c.length = size):ck R size (ps ++ [p]) (cs ++ c):=by
 refine ⟨by rw [List.length_append,h.1,hc,List.length_append,List.length_singleton,Nat.add_mul,Nat.one_mul],fun j q hq=>?_⟩;rcases Nat.lt_or_ge j ps.length with hj | hj
 ·rw [List.getElem?_append_left hj] at hq
  have h1:j * size+size≤cs.length:=by rw [h.1,← Nat.succ_mul];exact Nat.mul_le_mul_right _ hj
  have h2:=h.2 j q hq;rw [List.drop_append_of_le_length (by omega),List.take_append_of_le_length (by rw [List.length_drop];omega)];exact h2
 ·have hj':j = ps.length:=by
   have:=(List.getElem?_eq_some_iff.1 hq).1;rw [List.length_append,List.length_singleton] at this;omega
  subst hj';have hq':p = q:=by simpa using hq
  subst hq';rw [← h.1,List.drop_left,← hc,List.take_length];exact hp
theorem ck.gx {α:Type} {R R':α→List Value→Prop} {size:Nat} {ps:List α} {cs:List Value} (h:ck R size ps cs) (hR:∀ p c,R p c→R' p c):ck R' size ps cs:=⟨h.1,fun j p hj=>hR _ _ (h.2 j p hj)⟩
def dK {α:Type} (R:α→List Value→Prop) (size:Nat) (w:World) (A:Option Addr) (n:Nat) (ps:List α):Prop :=
 ps.length = n∧n≤9223372036854775807∧(0 < n→∃ ad,A = some ad∧∀ j p,ps[j]? = some p→∃ c,c.length = size∧R p c∧∀ i u,c[i]? = some u→w.cell? (ad.add (j * size+i)) = some u)
theorem dK.sG {α:Type} {R:α→List Value→Prop} {size:Nat} {w:World} {A:Option Addr} {n:Nat} {ps:List α} (h:dK R size w A n ps) (d:α) (i:Int) (y:0≤i) (h1:i < n) :
  ∃ ad c,A = some ad∧c.length = size∧R (ps.getD i.toNat d) c∧∀ j u,c[j]? = some u→w.cell? (ad.add (i.toNat * size+j)) = some u:=by
 obtain ⟨ad,e,hc⟩:=h.2.2 (by omega);have hl:i.toNat < ps.length:=by have:=h.1;omega
 obtain ⟨c,hs,hr,hcell⟩:=hc i.toNat _ (List.getElem?_eq_getElem hl);refine ⟨ad,c,e,hs,?_,hcell⟩;rw [List.getD_eq_getElem?_getD,List.getElem?_eq_getElem hl];exact hr
theorem dK.gx {α:Type} {R R':α→List Value→Prop} {size:Nat} {w w1:World} {A:Option Addr} {n:Nat} {ps:List α} (h:dK R size w A n ps) (hb:Below w.heap.size w w1) (hR:∀ p c,R p c→R' p c):dK R' size w1 A n ps :=
 ⟨h.1,h.2.1,fun hn=>by
  obtain ⟨ad,e,hc⟩:=h.2.2 hn;refine ⟨ad,e,fun j p hj=>?_⟩;obtain ⟨c,hs,hr,hcell⟩:=hc j p hj;exact ⟨c,hs,hR _ _ hr,fun i u hu=>fT hb (hcell i u hu)⟩⟩
theorem kn {α:Type} {R:α→List Value→Prop} {w:World} {base n size:Nat} {e:TypeId} {v:Value} {ps:List α} {cs:List Value} (h:w.ownsRow base e size v n cs) (hR:ck R size ps cs) (hn:ps.length = n) :
  ∃ A c,v = .slice A n c∧dK R size w A n ps:=by
 rcases Nat.eq_zero_or_pos n with y | y
 ·rcases h.2 with ⟨rfl,rfl⟩ | ⟨g,cap,cur,rfl,_⟩
  ·exact ⟨none,0,rfl,hn,by omega,fun hp=>absurd hp (by omega)⟩
  ·exact ⟨_,cap,rfl,hn,by omega,fun hp=>absurd hp (by omega)⟩
 ·obtain ⟨g,cap,rfl,_,_⟩:=h.form y
  have hm:n≤9223372036854775807:=by
   rcases h.2 with ⟨_,h1⟩ | ⟨g',cap',cur,he,_,_,h1,h2,_⟩
   ·omega
   ·simp only [maxLen] at h2
    omega
  refine ⟨_,cap,rfl,hn,hm,fun _=>⟨_,rfl,fun j p hj=>⟨(cs.drop (j * size)).take size,?_,hR.2 j p hj,fun i u hu=>?_⟩⟩⟩
  ·have hjl:=(List.getElem?_eq_some_iff.1 hj).1
   have h1:j * size+size≤cs.length:=by rw [hR.1,← Nat.succ_mul];exact Nat.mul_le_mul_right _ hjl
   rw [List.length_take,List.length_drop];omega
  ·refine h.cells (g:=g) rfl _ u ?_
   rw [List.getElem?_take] at hu;split at hu
   ·rw [List.getElem?_drop] at hu
    exact hu
   ·cases hu
theorem eR (ad:Addr) (m j:Nat) (hj:0 < j):ad.add (m+j) = ⟨(ad.add m).block,(ad.add m).off+j,none⟩:=by
 unfold Addr.add;by_cases hm:m = 0
 ·subst hm
  simp [Nat.ne_of_gt hj]
 ·simp [hm,Nat.add_assoc]
section
variable {P:Program} {ops:Array Oper} {rest:List Oper} {o:Oper} {a:Act} {Q:Exit→Act→World→Prop}
theorem fK {w0 W:World} (base:Nat) (hgd:o.guard = none) (s x:Operand) (t e:TypeId) (z:Value) (size bytes:Nat)
  (ho:o.op = .call { callee:=.builtin .append,args:=#[s,x],argTypes:=#[t,t] })
  (ht:P.underlying t = some (.slice e)) (hinfo:(P.info? e).map (fun i=>(i.zero,i.size,i.bytes)) = some (some z,size,bytes)) (hz:z.cells.size = size) (j:0 < size) (y:0 < bytes)
  (v:Value) (n:Nat) (xs ys:List Value) (hs:a.eval s = v) (hx:a.eval x = .slice (some ⟨W.heap.size,0,none⟩) 1 1) (hys:ys.length = size) (h1:∀ u∈ys,u.oneCell' = true)
  (HO:W.ownsRow base e size v n xs) (HB:Below base w0 W) (hbase:base≤W.heap.size) (hl:(n+1) * bytes≤140737488355328)
  (h:∀ v1 w1,w1.ownsRow base e size v1 (n+1) (xs ++ ys)→Below base w0 w1→W.grownBy w1 v.ownBlock→(v1.ownBlock = v.ownBlock∨∃ b,v1.ownBlock = some b∧W.heap.size≤b)→wpList P ops Q rest (a.put o.dst v1) w1) :
  wpList P ops Q (o :: rest) a (W.alloc (.cells ys.toArray e)):=by
 obtain ⟨i0,hi,hzz⟩:=Option.map_eq_some_iff.1 hinfo;simp only [Prod.mk.injEq] at hzz;obtain ⟨I,J,M⟩:=hzz;have hlen:n+1≤140737488355328:=Nat.le_trans (Nat.le_mul_of_pos_right _ y) hl;refine wpList_append_own_at (W.alloc (.cells ys.toArray e)) hgd s x t ho base e i0 z size bytes ht hi I J M hz j v n xs hs (HO.alloc _) ⟨W.heap.size,0,none⟩ 1 1 ys hx (by rw [hys];simp)
  (by simpa using World.news_of_block (cs:=ys.toArray) (t:=e) (fr:=(0,0)) (heap_alloc_new W (.cells ys.toArray e))) h1 (by simp only [maxLen];omega) hl (by simp;omega) ?_
 intro v1 w1 hown hg _ hat;refine h v1 w1 hown ((HB.alloc hbase _).grown hg (by simp;omega) (fW HO)) (World.grownBy.trans (World.grownBy_alloc W _ _) hg) ?_;rcases hat with hat | hat
 ·exact .inl hat
 ·exact .inr ⟨_,hat,by simp⟩
end
theorem mC {w:World} {base:Nat} {e t:TypeId} {size n g:Nat} {v:Value} {xs:List Value} {cs:Array Value} (h:w.ownsRow base e size v n xs) (hg:w.heap[g]? = some (.cells cs t (0,0))) (hne:e≠t):some g≠v.ownBlock:=by
 rcases h.2 with ⟨rfl,_⟩ | ⟨g',cap,cur,rfl,_,hh,_⟩
 ·simp [Value.ownBlock]
 ·intro he
  have:g = g':=by simpa [Value.ownBlock] using he
  subst this;rw [hg] at hh;injection hh with hh
  injection hh with _ ht
  exact hne ht.symm
theorem lR {w:World} {base:Nat} {e:TypeId} {size n:Nat} {v:Value} {xs:List Value} (h:w.ownsRow base e size v n xs) {p:Addr} (hne:some p.block≠v.ownBlock) (u:Value):(w.setCell p u).ownsRow base e size v n xs:=by
 obtain ⟨h1,h2⟩:=h;refine ⟨h1,?_⟩;rcases h2 with h2 | ⟨g,cap,cur,rfl,hg,hh,r⟩
 ·exact .inl h2
 ·exact .inr ⟨g,cap,cur,rfl,hg,by rw [Below.heap_setCell _ _ _ _ (fun e=>hne (by rw [e];rfl))];exact hh,r⟩
theorem qa {w:World} {g:Nat} {t:TypeId} {cs:Array Value} (h:w.heap[g]? = some (.cells cs t (0,0))) (i:Nat) (u:Value):(w.setCell ⟨g,i,none⟩ u).heap[g]? = some (.cells (cs.setIfInBounds i u) t (0,0)):=by
 simp [World.setCell,Array.getElem?_modify,h]
theorem gH {w:World} {g:Nat} {o:Obj} (h:w.heap[g]? = some o):g < w.heap.size:=(Array.getElem?_eq_some_iff.1 h).1
theorem ah {w:World} {g:Nat} {t:TypeId} {cs:Array Value} (h:w.heap[g]? = some (.cells cs t (0,0))) (i:Nat):w.cell? ⟨g,i,none⟩ = cs[i]?:=cell_of_row w g i cs t (0,0) h
theorem aj {w:World} {g:Nat} {t:TypeId} {cs:Array Value} (h:w.heap[g]? = some (.cells cs t (0,0))) (i:Nat):w.frozen? ⟨g,i,none⟩ = false:=by simp [World.frozen?,h]
theorem cI {w w1:World} {g:Nat} {o:Obj} {row:Option Nat} (h:w.heap[g]? = some o) (hg:w.grownBy w1 row) (hne:some g≠row):w1.heap[g]? = some o:=(hg.block g (gH h) hne).trans h
def bn (w w':World) (g:Nat) (row:Option Nat):Prop:=w.heap.size≤w'.heap.size∧∀ i,i < w.heap.size→i≠g→some i≠row→w'.heap[i]? = w.heap[i]?
theorem bn.refl (w:World) (g:Nat) (row:Option Nat):bn w w g row:=⟨Nat.le_refl _,fun _ _ _ _=>rfl⟩
theorem bn.jL {w w1:World} {row:Option Nat} (h:w.grownBy w1 row) (g:Nat):bn w w1 g row:=⟨h.size,fun i hi _ hr=>h.block i hi hr⟩
theorem bn.fh {w w1:World} (h:Below w.heap.size w w1) (g:Nat) (row:Option Nat):bn w w1 g row:=⟨h.size,fun i hi _ _=>h.block i hi⟩
theorem bn.nO {w w1:World} {g:Nat} {row:Option Nat} (h:bn w w1 g row) (j:Nat) (u:Value):bn w (w1.setCell ⟨g,j,none⟩ u) g row :=
 ⟨by simpa [World.setCell] using h.1,fun i hi hg hr=>(Below.heap_setCell w1 ⟨g,j,none⟩ u i hg).trans (h.2 i hi hg hr)⟩
theorem bn.trans {w w1 y:World} {g:Nat} {row j:Option Nat} (h:bn w w1 g row) (k:bn w1 y g j) (hr:j = row∨∃ b,j = some b∧w.heap.size≤b):bn w y g row :=
 ⟨Nat.le_trans h.1 k.1,fun i hi hg hn=>by
  refine (k.2 i (Nat.lt_of_lt_of_le hi h.1) hg ?_).trans (h.2 i hi hg hn);rcases hr with rfl | ⟨b,rfl,hb⟩
  ·exact hn
  ·intro e
   injection e with e
   omega⟩
theorem bn.blk {w w1:World} {g g':Nat} {row:Option Nat} {o:Obj} (h:bn w w1 g row) (hb:w.heap[g']? = some o) (hg:g'≠g) (hr:some g'≠row):w1.heap[g']? = some o:=(h.2 g' (gH hb) hg hr).trans hb
theorem bn.own {w w1:World} {g:Nat} {row:Option Nat} {base:Nat} {e:TypeId} {size n:Nat} {v:Value} {xs:List Value} (h:bn w w1 g row) (ho:w.ownsRow base e size v n xs) (hg:v.ownBlock≠some g) (hr:v.ownBlock = none∨v.ownBlock≠row):w1.ownsRow base e size v n xs:=by
 obtain ⟨h1,h2⟩:=ho;refine ⟨h1,?_⟩;rcases h2 with h2 | ⟨b,cap,cur,rfl,hb,hh,r⟩
 ·exact .inl h2
 ·refine .inr ⟨b,cap,cur,rfl,hb,h.blk hh ?_ ?_,r⟩
  ·intro e
   exact hg (by rw [← e];rfl)
  ·rcases hr with hr | hr
   ·simp [Value.ownBlock] at hr
   ·exact hr
def Ev {α:Type} (g:Nat→Option α) (r:α):Prop:=∃ K,∀ k,K≤k→g k = some r
theorem Ev.of {α:Type} {g:Nat→Option α} {r:α} (hg:∀ k,eX (g k) (g (k+1))) {k:Nat} (h:g k = some r):Ev g r:=⟨k,fun _ hk=>kB hg hk h⟩
theorem Ev.now {α:Type} (r:α):Ev (fun _=>some r) r:=⟨0,fun _ _=>rfl⟩
theorem Ev.rounds {α:Type} {g:Nat→Option α} {r:α} (h:Ev g r):∃ k,g k = some r:=by
 obtain ⟨K,h⟩:=h;exact ⟨K,h K (Nat.le_refl _)⟩
theorem Ev.bind {α β:Type} {g:Nat→Option α} {f:Nat→α→Option β} {a:α} {r:β} (h:Ev g a) (k:Ev (fun n=>f n a) r):Ev (fun n=>(g n).bind (f n)) r:=by
 obtain ⟨K,h⟩:=h;obtain ⟨K',k⟩:=k;refine ⟨max K K',fun n hn=>?_⟩;have h1:=h n (by omega);have h2:=k n (by omega);simp only [h1,Option.bind_some];exact h2
theorem Ev.step {α:Type} {g f:Nat→Option α} {r:α} (h:∀ k,g (k+1) = f k) (k:Ev f r):Ev g r:=by
 obtain ⟨K,k⟩:=k;refine ⟨K+1,fun n hn=>?_⟩;obtain ⟨m,rfl⟩:∃ m,n = m+1:=⟨n - 1,by omega⟩
 rw [h];exact k m (by omega)
theorem Ev.congr {α:Type} {g f:Nat→Option α} {r:α} (h:∀ k,g k = f k) (k:Ev f r):Ev g r:=by
 obtain ⟨K,k⟩:=k;exact ⟨K,fun n hn=>(h n).trans (k n hn)⟩
section
variable {P:Program} {ops:Array Oper} {o:Oper} {a:Act} {Q:Exit→Act→World→Prop} {K:Act→World→Prop}
theorem iM {w0 W:World} (base:Nat) (hw:Region.wanted o (yielded ops a.tmps) = true) (s x:Operand) (t e:TypeId) (z:Value) (size bytes:Nat)
  (ho:o.op = .call { callee:=.builtin .append,args:=#[s,x],argTypes:=#[t,t] })
  (ht:P.underlying t = some (.slice e)) (hinfo:(P.info? e).map (fun i=>(i.zero,i.size,i.bytes)) = some (some z,size,bytes)) (hz:z.cells.size = size) (j:0 < size) (y:0 < bytes)
  (v:Value) (n:Nat) (xs ys:List Value) (hs:a.eval s = v) (hx:a.eval x = .slice (some ⟨W.heap.size,0,none⟩) 1 1) (hys:ys.length = size) (h1:∀ u∈ys,u.oneCell' = true)
  (HO:W.ownsRow base e size v n xs) (HB:Below base w0 W) (hbase:base≤W.heap.size) (hl:(n+1) * bytes≤140737488355328)
  (h:∀ v1 w1,w1.ownsRow base e size v1 (n+1) (xs ++ ys)→Below base w0 w1→W.grownBy w1 v.ownBlock→(v1.ownBlock = v.ownBlock∨∃ b,v1.ownBlock = some b∧W.heap.size≤b)→K (a.put o.dst v1) w1) :
  if Region.wanted o (yielded ops a.tmps) = true then Oper.wp P o a (W.alloc (.cells ys.toArray e)) K Q else K (a.put o.dst undef) (W.alloc (.cells ys.toArray e)):=by
 obtain ⟨i0,hi,hzz⟩:=Option.map_eq_some_iff.1 hinfo;simp only [Prod.mk.injEq] at hzz;obtain ⟨I,J,M⟩:=hzz;have hlen:n+1≤140737488355328:=Nat.le_trans (Nat.le_mul_of_pos_right _ y) hl;rw [if_pos hw];obtain ⟨v1,w1,hr,hown,hg,_,hat⟩:=run_append_own_at (P:=P) (W.alloc (.cells ys.toArray e)) base t o.type e i0 z size bytes ht hi I J M hz j v n xs (HO.alloc _) ⟨W.heap.size,0,none⟩ 1 1 ys (by rw [hys];simp)
  (by simpa using World.news_of_block (cs:=ys.toArray) (t:=e) (fr:=(0,0)) (heap_alloc_new W (.cells ys.toArray e))) h1 (by simp only [maxLen];omega) hl (by simp;omega)
 unfold Oper.wp execOp;simp only [ho,resolve,invoke,builtin,Sem.run_bind,Sem.run_pure,Result.andThen_ok,List.map_toArray,List.map_cons,List.map_nil,hs,hx,hr];refine h v1 w1 hown ((HB.alloc hbase _).grown hg (by simp;omega) (fW HO)) (World.grownBy.trans (World.grownBy_alloc W _ _) hg) ?_;rcases hat with hat | hat
 ·exact .inl hat
 ·exact .inr ⟨_,hat,by simp⟩
end
theorem mD {w:World} {base base':Nat} {e:TypeId} {size n:Nat} {v:Value} {xs:List Value} (h:w.ownsRow base e size v n xs) (hb:base'≤base):w.ownsRow base' e size v n xs:=by
 obtain ⟨h1,h2⟩:=h;refine ⟨h1,?_⟩;rcases h2 with h2 | ⟨g,cap,cur,rfl,hg,r⟩
 ·exact .inl h2
 ·exact .inr ⟨g,cap,cur,rfl,Nat.le_trans hb hg,r⟩
section
variable {α:Type} {enc:α→Value} {d:α}
def fZ (enc:α→Value) (xs:List α):List Value:=xs.map enc
def qb (d:α) (xs:List α) (i:Int):α:=xs.getD i.toNat d
theorem jo (xs:List α):(fZ enc xs).length = xs.length:=by simp [fZ]
theorem oC (xs:List α) (j:Nat) (h:j < xs.length):(fZ enc xs)[j]? = some (enc (xs.getD j d)):=by
 simp [fZ,List.getElem?_eq_getElem h,List.getD_eq_getElem?_getD]
def dB (enc:α→Value) (d:α) (w:World) (A:Option Addr) (n:Nat) (xs:List α):Prop :=
 xs.length = n∧n≤9223372036854775807∧(0 < n→∃ ad,A = some ad∧∀ j,j < n→w.cell? (ad.add j) = some (enc (xs.getD j d)))
theorem dB.at_ {w:World} {A:Option Addr} {n:Nat} {xs:List α} (h:dB enc d w A n xs) (i:Int) (j:0≤i) (h1:i < n):∃ ad,A = some ad∧w.cell? (ad.add i.toNat) = some (enc (qb d xs i)):=by
 obtain ⟨ad,e,hc⟩:=h.2.2 (by omega);exact ⟨ad,e,hc _ (by omega)⟩
theorem dB.below {w w1:World} {A:Option Addr} {n:Nat} {xs:List α} (h:dB enc d w A n xs) (hb:Below w.heap.size w w1):dB enc d w1 A n xs :=
 ⟨h.1,h.2.1,fun hn=>by
  obtain ⟨ad,e,hc⟩:=h.2.2 hn;exact ⟨ad,e,fun j hj=>fT hb (hc j hj)⟩⟩
theorem dB.jK {w:World} {A:Option Addr} {n:Nat} {xs:List α} (h:dB enc d w A n xs) (i:Nat) (hi:i≤n):dB enc d w A i (xs.take i):=by
 refine ⟨by rw [List.length_take,h.1];omega,by have:=h.2.1;omega,fun hp=>?_⟩;obtain ⟨ad,e,hc⟩:=h.2.2 (by omega);refine ⟨ad,e,fun j hj=>?_⟩;rw [hc j (by omega)];simp [List.getD_eq_getElem?_getD,hj]
theorem nP {W:World} {base g n cap:Nat} {e:TypeId} {xs:List α} (h:W.ownsRow base e 1 (.slice (some ⟨g,0,none⟩) n cap) n (fZ enc xs)) (i:Int) (j:0≤i) (h1:i < n) :
  W.cell? ⟨g,i.toNat,none⟩ = some (enc (qb d xs i))∧W.frozen? ⟨g,i.toNat,none⟩ = false:=by
 have hl:xs.length = n:=by have:=h.1;simp [fZ] at this;exact this
 constructor
 ·have hc:=h.cells (g:=g) rfl i.toNat _ (oC (d:=d) xs i.toNat (by omega))
  rwa [add_plain] at hc
 ·rcases h.2 with ⟨h',_⟩ | ⟨g',cap',cur,h',_,hh,_⟩
  ·cases h'
  ·have:g = g':=by injection h' with h';injection h' with h';injection h' with h'
   subst this;simp [World.frozen?,hh]
theorem kV {W:World} {base g n cap:Nat} {e:TypeId} {xs:List α} (h:W.ownsRow base e 1 (.slice (some ⟨g,0,none⟩) n cap) n (fZ enc xs)) (i:Int) (x:α) :
  (W.setCell ⟨g,i.toNat,none⟩ (enc x)).ownsRow base e 1 (.slice (some ⟨g,0,none⟩) n cap) n (fZ enc (xs.set i.toNat x))∧W.grownBy (W.setCell ⟨g,i.toNat,none⟩ (enc x)) (some g):=by
 have hs:=h.stored i.toNat (enc x);have he:(fZ enc xs).set i.toNat (enc x) = fZ enc (xs.set i.toNat x):=by simp [fZ,List.map_set]
 rwa [he] at hs
end
theorem j7 {w:World} {g:Nat} {o:Obj} (h:w.heap[g]? = some o) (o':Obj):(w.alloc o').heap[g]? = some o:=(Below.heap_alloc w o' g (gH h)).trans h
theorem dQ {w:World} {g:Nat} {o:Obj} (h:w.heap[g]? = some o):w.drew.heap[g]? = some o:=h
theorem nQ {w:World} {g:Nat} {o:Obj} (h:w.heap[g]? = some o) (n:Nat):(w.drewN n).heap[g]? = some o:=h
theorem aU {w w1:World} {g:Nat} {o:Obj} (h:w.heap[g]? = some o) (hb:Below w.heap.size w w1):w1.heap[g]? = some o:=(hb.block g (gH h)).trans h
theorem n5 (w:World) (o:Obj):(w.alloc o).heap[w.heap.size]? = some o:=heap_alloc_new w o
section
variable {P:Program}
theorem dR {fn:Func} {p u:Tmp} {ty:TypeId} (h:fn.results = #[.cell p ty,.tmp u]) (tmps:Array Value) (w:World) (g:Nat) (t:TypeId) (cs:Array Value) (fr:Nat×Nat) (d:TypeDesc)
  (hp:tmps.getD p undef = .pointer (some ⟨g,0,none⟩)) (hg:w.heap[g]? = some (.cells cs t fr))
  (hu:P.underlying ty = some d) (hd:(match d with | .struct _ | .array _ _=>true | _=>false) = true) (hi:(P.info? ty).map (·.size) = some cs.size) :
  (results fn tmps).run P w = .ok (.tuple #[.agg cs,tmps.getD u undef]) w:=by
 have hp':tmps[p]?.getD undef = .pointer (some ⟨g,0,none⟩):=by simpa using hp
 simp [results,h,hp',asAddr,run_loadVar_row w g t ty cs fr d hg hu hd hi]
end
theorem r5 {w:World} {base n m c size:Nat} {e:TypeId} {A:Option Addr} {xs:List Value} (h:w.ownsRow base e size (.slice A m c) n xs):m≤c:=by
 rcases h.2 with ⟨he,_⟩ | ⟨g,cap,cur,he,_,_,hnc,_⟩
 ·injection he with _ h2 h3
  omega
 ·injection he with _ h2 h3
  omega
def dF {α:Type} (R:α→List Value→Prop) (e:TypeId) (size:Nat) (w:World) (base:Nat) (v:Value) (ps:List α):Prop :=
 ∃ inner,w.ownsRow base e size v ps.length inner∧ck R size ps inner
section
variable {α:Type} {R R':α→List Value→Prop} {e:TypeId} {size:Nat} {w w1:World} {base:Nat} {v:Value} {ps:List α}
theorem dF.none_ (R:α→List Value→Prop) (e:TypeId) (size:Nat) (w:World) (base:Nat):dF R e size w base (.slice none 0 0) []:=⟨[],q9 _ _ _ _,ck.none _ _⟩
theorem dF.gx (h:dF R e size w base v ps) (hR:∀ p c,R p c→R' p c):dF R' e size w base v ps:=by
 obtain ⟨inner,ho,hr⟩:=h;exact ⟨inner,ho,hr.gx hR⟩
theorem dF.below (h:dF R e size w base v ps) (hb:Below w.heap.size w w1):dF R e size w1 base v ps:=by
 obtain ⟨inner,ho,hr⟩:=h;exact ⟨inner,kU ho hb,hr⟩
theorem dF.nO (h:dF R e size w base v ps) {g:Nat} {t:TypeId} {cells:Array Value} (hb:w.heap[g]? = some (.cells cells t (0,0))) (ht:e≠t) (j:Nat) (u:Value):dF R e size (w.setCell ⟨g,j,none⟩ u) base v ps:=by
 obtain ⟨inner,ho,hr⟩:=h;exact ⟨inner,lR ho (mC ho hb ht) u,hr⟩
theorem dF.keep (h:dF R e size w base v ps) {g:Nat} {t:TypeId} {cells:Array Value} (hb:w.heap[g]? = some (.cells cells t (0,0))) (ht:e≠t) (hk:bn w w1 g none):dF R e size w1 base v ps:=by
 obtain ⟨inner,ho,hr⟩:=h;exact ⟨inner,hk.own ho (Ne.symm (mC ho hb ht)) (by cases v.ownBlock <;> simp),hr⟩
theorem dF.reads (h:dF R e size w base v ps):∃ A c,v = .slice A ps.length c∧ps.length≤c∧dK R size w A ps.length ps:=by
 obtain ⟨inner,ho,hr⟩:=h;obtain ⟨A,c,rfl,hrow⟩:=kn ho hr rfl;exact ⟨A,c,rfl,r5 ho,hrow⟩
theorem dF.oD (h:dF R e size w base v ps) {g:Nat} {t:TypeId} {cells:Array Value} (hb:w.heap[g]? = some (.cells cells t (0,0))) (ht:e≠t):some g≠v.ownBlock:=by
 obtain ⟨inner,ho,hr⟩:=h;exact mC ho hb ht
end
section
variable {P:Program} {ops:Array Oper} {rest:List Oper} {o:Oper} {a:Act} {Q:Exit→Act→World→Prop} {α:Type} {R:α→List Value→Prop}
theorem dF.append {w0 W:World} (base:Nat) (hgd:o.guard = none) (s x:Operand) (t e:TypeId) (z:Value) (size bytes:Nat)
  (ho:o.op = .call { callee:=.builtin .append,args:=#[s,x],argTypes:=#[t,t] })
  (ht:P.underlying t = some (.slice e)) (hinfo:(P.info? e).map (fun i=>(i.zero,i.size,i.bytes)) = some (some z,size,bytes)) (hz:z.cells.size = size) (I:0 < size) (J:0 < bytes)
  (v:Value) (ps:List α) (p:α) (cs:List Value) (hs:a.eval s = v) (hx:a.eval x = .slice (some ⟨W.heap.size,0,none⟩) 1 1) (hp:R p cs) (hcs:cs.length = size) (h1:∀ u∈cs,u.oneCell' = true)
  (HO:dF R e size W base v ps) (HB:Below base w0 W) (hbase:base≤W.heap.size) (hl:(ps.length+1) * bytes≤140737488355328)
  (h:∀ v1 w1,dF R e size w1 base v1 (ps ++ [p])→Below base w0 w1→W.grownBy w1 v.ownBlock→(v1.ownBlock = v.ownBlock∨∃ b,v1.ownBlock = some b∧W.heap.size≤b)→wpList P ops Q rest (a.put o.dst v1) w1) :
  wpList P ops Q (o :: rest) a (W.alloc (.cells cs.toArray e)):=by
 obtain ⟨inner,hown,hr⟩:=HO;refine fK base hgd s x t e z size bytes ho ht hinfo hz I J v ps.length inner cs hs hx hcs h1 hown HB hbase hl ?_;intro v1 w1 j M U y;exact h v1 w1 ⟨inner ++ cs,by rw [List.length_append,List.length_singleton];exact j,hr.snoc hp hcs⟩ M U y
end
theorem dK.oE {α:Type} {R:α→List Value→Prop} {size:Nat} {w:World} {ad:Addr} {n:Nat} {ps:List α} (h:dK R size w (some ad) n ps) :
  ∃ inner,ck R size ps inner∧∀ j u,inner[j]? = some u→w.cell? (ad.add j) = some u:=by
 have key:∀ m,m≤ps.length→∃ inner,ck R size (ps.take m) inner∧∀ j u,inner[j]? = some u→w.cell? (ad.add j) = some u:=by
  intro m;induction m with
  | zero=>exact fun _=>⟨[],ck.none _ _,fun j u hu=>by simp at hu⟩
  | succ m ih =>
   intro hm;obtain ⟨inner,hr,hc⟩:=ih (by omega);obtain ⟨ad',he,hcell⟩:=h.2.2 (by have:=h.1;omega);injection he with he
   subst he;obtain ⟨c,hcl,hp,hcc⟩:=hcell m _ (List.getElem?_eq_getElem (show m < ps.length by omega));refine ⟨inner ++ c,?_,fun j u hu=>?_⟩
   ·rw [List.take_succ_eq_append_getElem (show m < ps.length by omega)]
    exact hr.snoc hp hcl
   ·have hil:inner.length = m * size:=by rw [hr.1,List.length_take,Nat.min_eq_left (by omega)]
    rcases Nat.lt_or_ge j inner.length with hj | hj
    ·rw [List.getElem?_append_left hj] at hu
     exact hc j u hu
    ·rw [List.getElem?_append_right hj] at hu
     have:=hcc (j - inner.length) u hu;rwa [hil,Nat.add_sub_cancel' (by omega)] at this
 obtain ⟨inner,hr,hc⟩:=key ps.length (Nat.le_refl _);rw [List.take_length] at hr;exact ⟨inner,hr,hc⟩
structure Kd (α:Type) where
 sz:Nat
 E:List Nat
 K:World→α→List Value→Prop
 M:World→Nat→(Nat→Prop)→α→List Value→Prop
 K_len:∀ {w x cs},K w x cs→cs.length = sz
 K_one:∀ {w x cs},K w x cs→∀ u∈cs,u.oneCell' = true
 K_below:∀ {w w1:World} {x cs},Below w.heap.size w w1→K w x cs→K w1 x cs
 K_of_M:∀ {w base ok x cs},M w base ok x cs→K w x cs
 M_mono:∀ {w base ok ok' x cs},(∀ k,ok k→ok' k)→M w base ok x cs→M w base ok' x cs
 M_bound:∀ {w:World} {base ok x cs},M w base ok x cs→M w base (fun k=>ok k∧base≤k∧k < w.heap.size∧∃ q,q∈E∧∃ cells,w.heap[k]? = some (.cells cells q (0,0))) x cs
 M_move:∀ {w w1:World} {base ok x cs},(∀ k,ok k→w1.heap[k]? = w.heap[k]?)→M w base ok x cs→M w1 base ok x cs
 M_lower:∀ {w base base' ok x cs},base'≤base→M w base ok x cs→M w base' ok x cs
theorem oF {w w1:World} {base:Nat} {e:TypeId} {size n:Nat} {v:Value} {xs:List Value} (h:w.ownsRow base e size v n xs) (hm:∀ k,v.ownBlock = some k→w1.heap[k]? = w.heap[k]?):w1.ownsRow base e size v n xs:=by
 obtain ⟨h1,h2⟩:=h;refine ⟨h1,?_⟩;rcases h2 with h2 | ⟨g,cap,cur,rfl,hg,hh,r⟩
 ·exact .inl h2
 ·exact .inr ⟨g,cap,cur,rfl,hg,(hm g (by simp [Value.ownBlock])).trans hh,r⟩
theorem gR {w:World} {base:Nat} {e:TypeId} {size n:Nat} {v:Value} {xs:List Value} (h:w.ownsRow base e size v n xs) (k:Nat) (hk:v.ownBlock = some k):∃ cells,w.heap[k]? = some (.cells cells e (0,0)):=by
 rcases h.2 with ⟨rfl,_⟩ | ⟨g,cap,cur,rfl,hg,hh,r⟩
 ·simp [Value.ownBlock] at hk
 ·have:g = k:=by simpa [Value.ownBlock] using hk
  subst this;exact ⟨cur,hh⟩
namespace Kd
def C {α:Type} (d:Kd α) (w:World) (A:Option Addr) (n:Nat) (xs:List α):Prop:=dK (d.K w) d.sz w A n xs
def R {α:Type} (d:Kd α) (e:Nat) (w:World) (base:Nat) (ok:Nat→Prop) (v:Value) (xs:List α):Prop :=
 (∀ k,v.ownBlock = some k→ok k)∧dF (d.M w base (fun k=>ok k∧some k≠v.ownBlock)) e d.sz w base v xs
section
variable {α:Type} {d:Kd α} {e:Nat} {w w1:World} {base:Nat} {ok ok':Nat→Prop} {v:Value} {xs:List α}
theorem aW {A:Option Addr} {n:Nat} (h:d.C w A n xs) (hb:Below w.heap.size w w1):d.C w1 A n xs:=dK.gx h hb (fun _ _ hp=>d.K_below hb hp)
theorem jq (d:Kd α) (e:Nat) (w:World) (base:Nat) (ok:Nat→Prop):d.R e w base ok (.slice none 0 0) []:=⟨fun k hk=>by simp [Value.ownBlock] at hk,dF.none_ _ _ _ _ _⟩
theorem aX (h:d.R e w base ok v xs) (hok:∀ k,ok k→ok' k):d.R e w base ok' v xs:=⟨fun k hk=>hok k (h.1 k hk),h.2.gx (fun _ _ hp=>d.M_mono (fun k hk=>⟨hok k hk.1,hk.2⟩) hp)⟩
theorem eY (h:d.R e w base ok v xs):d.R e w base (fun k=>ok k∧base≤k∧k < w.heap.size∧∃ q,q∈e :: d.E∧∃ cells,w.heap[k]? = some (.cells cells q (0,0))) v xs:=by
 obtain ⟨j,inner,ho,hr⟩:=h;refine ⟨fun k hk=>?_,inner,ho,hr.gx (fun _ _ hp=>d.M_mono (fun k hk=>?_) (d.M_bound hp))⟩
 ·obtain ⟨cells,hc⟩:=gR ho k hk
  exact ⟨j k hk,fW ho k hk,oB ho k hk,e,List.mem_cons_self,cells,hc⟩
 ·obtain ⟨⟨h1,h2⟩,h3,h4,q,hq,hc⟩:=hk
  exact ⟨⟨h1,h3,h4,q,List.mem_cons_of_mem _ hq,hc⟩,h2⟩
theorem j8 (h:d.R e w base ok v xs) (hm:∀ k,ok k→w1.heap[k]? = w.heap[k]?):d.R e w1 base ok v xs:=by
 obtain ⟨j,inner,ho,hr⟩:=h;exact ⟨j,inner,oF ho (fun k hk=>hm k (j k hk)),hr.gx (fun _ _ hp=>d.M_move (fun k hk=>hm k hk.1) hp)⟩
theorem bD {base':Nat} (h:d.R e w base ok v xs) (hb:base'≤base):d.R e w base' ok v xs:=by
 obtain ⟨j,inner,ho,hr⟩:=h;exact ⟨j,inner,mD ho hb,hr.gx (fun _ _ hp=>d.M_lower hb hp)⟩
theorem j9 (h:d.R e w base ok v xs) (hm:∀ k,ok k→k < w.heap.size→w1.heap[k]? = w.heap[k]?):d.R e w1 base ok v xs :=
 aX (j8 (eY h) (fun k hk=>hm k hk.1 hk.2.2.1)) (fun _ hk=>hk.1)
theorem oG {x:α} {cs:List Value} (h:d.M w base ok x cs) (hm:∀ k,ok k→k < w.heap.size→w1.heap[k]? = w.heap[k]?):d.M w1 base ok x cs :=
 d.M_mono (fun _ hk=>hk.1) (d.M_move (fun k hk=>hm k hk.1 hk.2.2.1) (d.M_bound h))
theorem cR (h:d.R e w base ok v xs) (hb:Below w.heap.size w w1):d.R e w1 base ok v xs:=j9 h (fun k _ hk=>hb.block k hk)
theorem n9 {x:α} {cs:List Value} (h:d.M w base ok x cs) (hb:Below w.heap.size w w1):d.M w1 base ok x cs:=oG h (fun k _ hk=>hb.block k hk)
theorem bU (h:d.R e w base ok v xs) {p:Addr} (hok:∀ k,ok k→k≠p.block) (u:Value):d.R e (w.setCell p u) base ok v xs:=j9 h (fun k ho _=>Below.heap_setCell w p u k (hok k ho))
theorem oH (h:d.R e w base ok v xs) {g:Nat} (hk:bn w w1 g none) (hok:∀ k,ok k→k≠g):d.R e w1 base ok v xs:=j9 h (fun k ho hlt=>hk.2 k hlt (hok k ho) (by simp))
theorem bp (h:d.R e w base ok v xs) {g t:Nat} {cells:Array Value} (hb:w.heap[g]? = some (.cells cells t (0,0))) (ht:∀ q,q∈e :: d.E→q≠t):d.R e w base (fun k=>ok k∧k≠g) v xs :=
 aX (eY h) (fun k hk=>⟨hk.1,by
  obtain ⟨_,_,_,q,hq,cells',hc⟩:=hk;rintro rfl
  rw [hc] at hb;injection hb with hb
  injection hb with _ hb
  exact ht q hq hb⟩)
theorem kW (h:d.R e w base ok v xs):∃ A c,v = .slice A xs.length c∧xs.length≤c∧d.C w A xs.length xs:=by
 obtain ⟨A,c,he,hl,hr⟩:=dF.reads h.2;exact ⟨A,c,he,hl,hr.gx (Below.refl _ _) (fun _ _ hp=>d.K_of_M hp)⟩
theorem bE (h:d.R e w base ok v xs):∃ A c,v = .slice A xs.length c:=by
 obtain ⟨A,c,he,_⟩:=kW h;exact ⟨A,c,he⟩
theorem nc (h:d.R e w base ok v xs):∃ inner,w.ownsRow base e d.sz v xs.length inner:=by
 obtain ⟨_,inner,ho,_⟩:=h;exact ⟨inner,ho⟩
theorem iv (h:d.R e w base ok v xs) {g t:Nat} {cells:Array Value} (hb:w.heap[g]? = some (.cells cells t (0,0))) (ht:e≠t):some g≠v.ownBlock:=dF.oD h.2 hb ht
end
def scalar {α:Type} (enc:α→Value) (h1:∀ x,(enc x).oneCell' = true):Kd α where
 sz:=1
 E:=[]
 K:=fun _ x cs=>cs = [enc x]
 M:=fun _ _ _ x cs=>cs = [enc x]
 K_len:=fun h=>by rw [h];rfl
 K_one:=fun h u hu=>by
  rw [h] at hu;rw [List.mem_singleton.1 hu];exact h1 _
 K_below:=fun _ h=>h
 K_of_M:=fun h=>h
 M_mono:=fun _ h=>h
 M_bound:=fun h=>h
 M_move:=fun _ h=>h
 M_lower:=fun _ h=>h
def int (k:IntKind):Kd Int:=scalar (Value.int k) (fun _=>rfl)
def bool:Kd Bool:=scalar Value.bool (fun _=>rfl)
def slice {α:Type} (e:Nat) (d:Kd α):Kd (List α) where
 sz:=1
 E:=e :: d.E
 K:=fun w xs cs=>∃ A c,cs = [.slice A xs.length c]∧xs.length≤c∧d.C w A xs.length xs
 M:=fun w base ok xs cs=>∃ v,cs = [v]∧d.R e w base ok v xs
 K_len:=by
  rintro w x cs ⟨A,c,rfl,_⟩
  rfl
 K_one:=by
  rintro w x cs ⟨A,c,rfl,_⟩ u hu
  rw [List.mem_singleton.1 hu];rfl
 K_below:=by
  rintro w w1 x cs hb ⟨A,c,rfl,hl,hr⟩
  exact ⟨A,c,rfl,hl,aW hr hb⟩
 K_of_M:=by
  rintro w base ok x cs ⟨v,rfl,h⟩
  obtain ⟨A,c,rfl,hl,hr⟩:=kW h;exact ⟨A,c,rfl,hl,hr⟩
 M_mono:=by
  rintro w base ok ok' x cs hok ⟨v,rfl,h⟩
  exact ⟨v,rfl,aX h hok⟩
 M_bound:=by
  rintro w base ok x cs ⟨v,rfl,h⟩
  exact ⟨v,rfl,eY h⟩
 M_move:=by
  rintro w w1 base ok x cs hm ⟨v,rfl,h⟩
  exact ⟨v,rfl,j8 h hm⟩
 M_lower:=by
  rintro w base base' ok x cs hb ⟨v,rfl,h⟩
  exact ⟨v,rfl,bD h hb⟩
def pair {α β:Type} (a:Kd α) (b:Kd β):Kd (α×β) where
 sz:=a.sz+b.sz
 E:=a.E ++ b.E
 K:=fun w x cs=>∃ j c1,cs = j ++ c1∧a.K w x.1 j∧b.K w x.2 c1
 M:=fun w base ok x cs=>∃ j c1,cs = j ++ c1∧a.M w base ok x.1 j∧b.M w base ok x.2 c1
 K_len:=by
  rintro w x cs ⟨j,c1,rfl,y,h1⟩
  rw [List.length_append,a.K_len y,b.K_len h1]
 K_one:=by
  rintro w x cs ⟨j,c1,rfl,y,h1⟩ u hu
  rcases List.mem_append.1 hu with hu | hu
  ·exact a.K_one y u hu
  ·exact b.K_one h1 u hu
 K_below:=by
  rintro w w1 x cs hb ⟨j,c1,rfl,y,h1⟩
  exact ⟨j,c1,rfl,a.K_below hb y,b.K_below hb h1⟩
 K_of_M:=by
  rintro w base ok x cs ⟨j,c1,rfl,y,h1⟩
  exact ⟨j,c1,rfl,a.K_of_M y,b.K_of_M h1⟩
 M_mono:=by
  rintro w base ok ok' x cs hok ⟨j,c1,rfl,y,h1⟩
  exact ⟨j,c1,rfl,a.M_mono hok y,b.M_mono hok h1⟩
 M_bound:=by
  rintro w base ok x cs ⟨j,c1,rfl,y,h1⟩
  refine ⟨j,c1,rfl,a.M_mono ?_ (a.M_bound y),b.M_mono ?_ (b.M_bound h1)⟩
  ·rintro k ⟨h2,h3,h4,q,hq,hc⟩
   exact ⟨h2,h3,h4,q,List.mem_append_left _ hq,hc⟩
  ·rintro k ⟨h2,h3,h4,q,hq,hc⟩
   exact ⟨h2,h3,h4,q,List.mem_append_right _ hq,hc⟩
 M_move:=by
  rintro w w1 base ok x cs hm ⟨j,c1,rfl,y,h1⟩
  exact ⟨j,c1,rfl,a.M_move hm y,b.M_move hm h1⟩
 M_lower:=by
  rintro w base base' ok x cs hb ⟨j,c1,rfl,y,h1⟩
  exact ⟨j,c1,rfl,a.M_lower hb y,b.M_lower hb h1⟩
def sH {α β:Type} (d:Kd α) (f:β→α):Kd β where
 sz:=d.sz
 E:=d.E
 K:=fun w x cs=>d.K w (f x) cs
 M:=fun w base ok x cs=>d.M w base ok (f x) cs
 K_len:=d.K_len
 K_one:=d.K_one
 K_below:=d.K_below
 K_of_M:=d.K_of_M
 M_mono:=d.M_mono
 M_bound:=d.M_bound
 M_move:=d.M_move
 M_lower:=d.M_lower
def bot {α:Type} (sz:Nat) (E:List Nat):Kd α where
 sz:=sz
 E:=E
 K:=fun _ _ _=>False
 M:=fun _ _ _ _ _=>False
 K_len:=fun h=>h.elim
 K_one:=fun h=>h.elim
 K_below:=fun _ h=>h
 K_of_M:=fun h=>h
 M_mono:=fun _ h=>h
 M_bound:=fun h=>h
 M_move:=fun _ h=>h
 M_lower:=fun _ h=>h
def upto {α:Type} (F:Kd α→Kd α) (sz:Nat) (E:List Nat):Nat→Kd α
 | 0=>bot sz E
 | n+1=>F (upto F sz E n)
theorem nf {α:Type} {d:Kd α} {w:World} {A:Option Addr} {n:Nat} {xs:List α} (h:d.C w A n xs) (z:α) (i:Int) (y:0≤i) (h1:i < n) :
  ∃ ad c,A = some ad∧c.length = d.sz∧d.K w (xs.getD i.toNat z) c∧∀ j u,c[j]? = some u→w.cell? (ad.add (i.toNat * d.sz+j)) = some u:=dK.sG h z i y h1
theorem jM {α:Type} {d:Kd α} {e base:Nat} {ok okp:Nat→Prop} {W w1:World} {v v1:Value} {xs:List α} {p:α} {inner cs:List Value} (y:∀ k,v.ownBlock = some k→ok k) (hr:ck (d.M W base (fun k=>ok k∧some k≠v.ownBlock)) d.sz xs inner) (hp:d.M W base okp p cs) (j:∀ k,okp k→ok k∧some k≠v.ownBlock) (hfresh:∀ k,W.heap.size≤k→ok k)
  (hown:w1.ownsRow base e d.sz v1 (xs.length+1) (inner ++ cs)) (hg:W.grownBy w1 v.ownBlock) (hat:v1.ownBlock = v.ownBlock∨∃ b,v1.ownBlock = some b∧W.heap.size≤b):d.R e w1 base ok v1 (xs ++ [p]):=by
 have hne:∀ k,some k≠v.ownBlock→k < W.heap.size→some k≠v1.ownBlock:=by
  intro k hk hlt;rcases hat with hat | ⟨b,hb,hle⟩
  ·rw [hat];exact hk
  ·rw [hb]
   intro he;injection he with he
   omega
 have step:∀ {q:α} {c:List Value} {o:Nat→Prop},d.M W base o q c→(∀ k,o k→ok k∧some k≠v.ownBlock)→d.M w1 base (fun k=>ok k∧some k≠v1.ownBlock) q c:=by
  intro q c o hq ho;have h1:=d.M_move (w1:=w1) (fun k hk=>hg.block k hk.2.2.1 (ho k hk.1).2) (d.M_bound hq);exact d.M_mono (fun k hk=>⟨(ho k hk.1).1,hne k (ho k hk.1).2 hk.2.2.1⟩) h1
 refine ⟨fun k hk=>?_,inner ++ cs,by rw [List.length_append,List.length_singleton];exact hown,?_⟩
 ·rcases hat with hat | ⟨b,hb,hle⟩
  ·exact y k (hat ▸ hk)
  ·rw [hb] at hk
   injection hk with hk
   exact hfresh k (by omega)
 ·exact (hr.gx (fun _ _ hq=>step hq (fun _ hk=>hk))).snoc (step hp j) (d.K_len (d.K_of_M hp))
section
variable {P:Program} {ops:Array Oper} {rest:List Oper} {o:Oper} {a:Act} {Q:Exit→Act→World→Prop} {α:Type}
theorem eO (d:Kd α) {w0 W:World} (base:Nat) (hgd:o.guard = none) (s x:Operand) (t e:TypeId) (z:Value) (bytes:Nat)
  (ho:o.op = .call { callee:=.builtin .append,args:=#[s,x],argTypes:=#[t,t] })
  (ht:P.underlying t = some (.slice e)) (hinfo:(P.info? e).map (fun i=>(i.zero,i.size,i.bytes)) = some (some z,d.sz,bytes)) (hz:z.cells.size = d.sz) (U:0 < d.sz) (X:0 < bytes)
  (v:Value) (xs:List α) (p:α) (cs:List Value) (ok okp:Nat→Prop) (hs:a.eval s = v) (hx:a.eval x = .slice (some ⟨W.heap.size,0,none⟩) 1 1) (hp:d.M W base okp p cs) (I:∀ k,okp k→ok k∧some k≠v.ownBlock) (hfresh:∀ k,W.heap.size≤k→ok k)
  (HO:d.R e W base ok v xs) (HB:Below base w0 W) (hbase:base≤W.heap.size) (hl:(xs.length+1) * bytes≤140737488355328)
  (h:∀ v1 w1,d.R e w1 base ok v1 (xs ++ [p])→Below base w0 w1→W.grownBy w1 v.ownBlock→(v1.ownBlock = v.ownBlock∨∃ b,v1.ownBlock = some b∧W.heap.size≤b)→wpList P ops Q rest (a.put o.dst v1) w1) :
  wpList P ops Q (o :: rest) a (W.alloc (.cells cs.toArray e)):=by
 obtain ⟨h0,inner,hown,hr⟩:=HO;refine fK base hgd s x t e z d.sz bytes ho ht hinfo hz U X v xs.length inner cs hs hx (d.K_len (d.K_of_M hp)) (d.K_one (d.K_of_M hp)) hown HB hbase hl ?_;intro v1 w1 y Y J j;exact h v1 w1 (jM h0 hr hp I hfresh y J j) Y J j
end
section
variable {P:Program} {ops:Array Oper} {o:Oper} {a:Act} {Q:Exit→Act→World→Prop} {Kc:Act→World→Prop} {α:Type}
theorem fU (d:Kd α) {w0 W:World} (base:Nat) (hw:Region.wanted o (yielded ops a.tmps) = true) (s x:Operand) (t e:TypeId) (z:Value) (bytes:Nat)
  (ho:o.op = .call { callee:=.builtin .append,args:=#[s,x],argTypes:=#[t,t] })
  (ht:P.underlying t = some (.slice e)) (hinfo:(P.info? e).map (fun i=>(i.zero,i.size,i.bytes)) = some (some z,d.sz,bytes)) (hz:z.cells.size = d.sz) (U:0 < d.sz) (X:0 < bytes)
  (v:Value) (xs:List α) (p:α) (cs:List Value) (ok okp:Nat→Prop) (hs:a.eval s = v) (hx:a.eval x = .slice (some ⟨W.heap.size,0,none⟩) 1 1) (hp:d.M W base okp p cs) (I:∀ k,okp k→ok k∧some k≠v.ownBlock) (hfresh:∀ k,W.heap.size≤k→ok k)
  (HO:d.R e W base ok v xs) (HB:Below base w0 W) (hbase:base≤W.heap.size) (hl:(xs.length+1) * bytes≤140737488355328)
  (h:∀ v1 w1,d.R e w1 base ok v1 (xs ++ [p])→Below base w0 w1→W.grownBy w1 v.ownBlock→(v1.ownBlock = v.ownBlock∨∃ b,v1.ownBlock = some b∧W.heap.size≤b)→Kc (a.put o.dst v1) w1) :
  if Region.wanted o (yielded ops a.tmps) = true then Oper.wp P o a (W.alloc (.cells cs.toArray e)) Kc Q else Kc (a.put o.dst undef) (W.alloc (.cells cs.toArray e)):=by
 obtain ⟨h0,inner,hown,hr⟩:=HO;refine iM base hw s x t e z d.sz bytes ho ht hinfo hz U X v xs.length inner cs hs hx (d.K_len (d.K_of_M hp)) (d.K_one (d.K_of_M hp)) hown HB hbase hl ?_;intro v1 w1 y Y J j;exact h v1 w1 (jM h0 hr hp I hfresh y J j) Y J j
end
theorem lS {α:Type} {enc:α→Value} (xs:List α):ck (fun (x:α) (cs:List Value)=>cs = [enc x]) 1 xs (fZ enc xs):=by
 refine ⟨by simp [fZ],fun j p hj=>?_⟩;obtain ⟨hl,hp⟩:=List.getElem?_eq_some_iff.1 hj;have hl':j < (fZ enc xs).length:=by rw [jo];exact hl
 rw [Nat.mul_one,List.drop_eq_getElem_cons hl'];simp [fZ,hp]
theorem jN {α:Type} {enc:α→Value} {h1:∀ x,(enc x).oneCell' = true} {e:Nat} {w:World} {base:Nat} {ok:Nat→Prop} {v:Value} {xs:List α} (ho:w.ownsRow base e 1 v xs.length (fZ enc xs)) (hok:∀ k,v.ownBlock = some k→ok k):(scalar enc h1).R e w base ok v xs:=⟨hok,fZ enc xs,ho,lS xs⟩
theorem iN {α:Type} {enc:α→Value} {h1:∀ x,(enc x).oneCell' = true} {e:Nat} {w:World} {base:Nat} {ok:Nat→Prop} {v:Value} {xs:List α} (h:(scalar enc h1).R e w base ok v xs):w.ownsRow base e 1 v xs.length (fZ enc xs):=by
 obtain ⟨_,inner,ho,hr⟩:=h;have:inner = fZ enc xs:=by
  apply List.ext_getElem?
  intro j;rcases Nat.lt_or_ge j xs.length with hj | hj
  ·have h2:=hr.2 j _ (List.getElem?_eq_getElem hj)
   have hl:j < inner.length:=by have:=hr.1;simp [scalar] at this;omega
   have h3:(inner.drop (j * 1)).take 1 = [enc xs[j]]:=h2;rw [Nat.mul_one,List.drop_eq_getElem_cons hl] at h3;have h4:inner[j] = enc xs[j]:=by
    have h5:=congrArg List.head? h3;rw [List.take_succ_cons] at h5;exact Option.some.inj h5
   rw [List.getElem?_eq_getElem hl,h4];simp [fZ,List.getElem?_eq_getElem hj]
  ·have h3:inner.length = xs.length:=by have:=hr.1;simp [scalar] at this;omega
   rw [List.getElem?_eq_none (by omega),List.getElem?_eq_none (by rw [jo];omega)]
 rw [← this];exact ho
theorem mE {α:Type} {enc:α→Value} {d:α} {h1:∀ x,(enc x).oneCell' = true} {w:World} {A:Option Addr} {n:Nat} {xs:List α} (h:dB enc d w A n xs):(scalar enc h1).C w A n xs:=by
 refine ⟨h.1,h.2.1,fun hn=>?_⟩;obtain ⟨ad,e,hc⟩:=h.2.2 hn;refine ⟨ad,e,fun j p hj=>⟨[enc p],rfl,rfl,fun i u hu=>?_⟩⟩;obtain ⟨hl,hp⟩:=List.getElem?_eq_some_iff.1 hj;have h2:=hc j (by have:=h.1;omega);rw [List.getD_eq_getElem?_getD,hj] at h2;cases i with
 | zero =>
  have:enc p = u:=by simpa using hu
  subst this;simpa [scalar] using h2
 | succ i=>simp at hu
theorem iE {α:Type} {enc:α→Value} {d:α} {h1:∀ x,(enc x).oneCell' = true} {w:World} {A:Option Addr} {n:Nat} {xs:List α} (h:(scalar enc h1).C w A n xs):dB enc d w A n xs:=by
 refine ⟨h.1,h.2.1,fun hn=>?_⟩;obtain ⟨ad,e,hc⟩:=h.2.2 hn;refine ⟨ad,e,fun j hj=>?_⟩;have hl:j < xs.length:=by have:=h.1;omega
 obtain ⟨c,_,hK,hcell⟩:=hc j _ (List.getElem?_eq_getElem hl);have hK':c = [enc xs[j]]:=hK;subst hK';have:=hcell 0 _ rfl;simpa [scalar,List.getD_eq_getElem?_getD,List.getElem?_eq_getElem hl] using this
end Kd
namespace Kd
def Sub {α β:Type} (F:Kd α→Kd β) (E:List Nat):Prop:=∀ d:Kd α,(∀ q,q∈d.E→q∈E)→∀ q,q∈(F d).E→q∈E
end Kd
namespace Kd
theorem dV {α:Type} {d:Kd α} {e base:Nat} {ok:Nat→Prop} {W w1:World} {u v v1:Value} {xs:List α} (h:d.R e W base (fun k=>ok k∧some k≠v.ownBlock) u xs) (hg:W.grownBy w1 v.ownBlock) (hat:v1.ownBlock = v.ownBlock∨∃ b,v1.ownBlock = some b∧W.heap.size≤b):d.R e w1 base (fun k=>ok k∧some k≠v1.ownBlock) u xs:=by
 refine aX (j8 (eY h) (fun k hk=>hg.block k hk.2.2.1 hk.1.2)) (fun k hk=>⟨hk.1.1,?_⟩);rcases hat with hat | ⟨b,hb,hle⟩
 ·rw [hat];exact hk.1.2
 ·rw [hb]
  intro he;injection he with he
  have:=hk.2.2.1;omega
end Kd
namespace Kd
section
variable {α β:Type} {d:Kd α} {d':Kd β} {e e':Nat} {w w1 W:World} {base b b':Nat} {ok ok' okv oku:Nat→Prop} {v u:Value} {xs:List α} {ys:List β}
theorem ew (h:d.R e w base ok v xs) (o:Obj):d.R e (w.alloc o) base ok v xs:=cR h (dm (Below.refl _ _) o)
theorem dz (h:d.R e w base ok v xs):d.R e w.drew base ok v xs:=cR h (fJ (Below.refl _ _))
theorem e5 (h:d.R e w base ok v xs) (m:Nat):d.R e (w.drewN m) base ok v xs:=cR h (cM (Below.refl _ _) m)
theorem cS {A:Option Addr} {n:Nat} (h:d.C w A n xs) (o:Obj):d.C (w.alloc o) A n xs:=aW h (dm (Below.refl _ _) o)
theorem dc {A:Option Addr} {n:Nat} (h:d.C w A n xs):d.C w.drew A n xs:=aW h (fJ (Below.refl _ _))
theorem cT {A:Option Addr} {n:Nat} (h:d.C w A n xs) (m:Nat):d.C (w.drewN m) A n xs:=aW h (cM (Below.refl _ _) m)
theorem qO (d:Kd α) (w:World):d.C w none ([]:List α).length []:=⟨rfl,by simp,fun h=>absurd h (Nat.lt_irrefl 0)⟩
theorem az {A:Option Addr} {n c:Nat} (h:d.R e w base ok (.slice A n c) xs):n = xs.length∧n≤c∧d.C w A xs.length xs:=by
 obtain ⟨A',c',he,hl,hr⟩:=kW h;injection he with h1 h2 h3
 subst h1;exact ⟨h2,by omega,hr⟩
theorem dx (h:d.R e w base ok v xs):∀ k,v.ownBlock = some k→k < w.heap.size:=by
 obtain ⟨inner,ho⟩:=nc h;exact oB ho
theorem bQ (h:d.R e w base ok v xs):∀ k,v.ownBlock = some k→base≤k:=by
 obtain ⟨inner,ho⟩:=nc h;exact fW ho
theorem r6 (h:d.R e w base ok v xs) {g:Nat} (hok:∀ k,ok k→k≠g):some g≠v.ownBlock:=fun e=>hok g (h.1 g e.symm) rfl
theorem r7 (h:d.R e w base ok v xs) (hp:0 < xs.length):∃ g cap,v = .slice (some ⟨g,0,none⟩) xs.length cap∧base≤g∧g < w.heap.size∧∃ cells,w.heap[g]? = some (.cells cells e (0,0)):=by
 obtain ⟨inner,ho⟩:=nc h;obtain ⟨g,cap,he,hb,hl⟩:=ho.form hp;obtain ⟨cells,hc⟩:=gR ho g (by rw [he];simp [Value.ownBlock]);exact ⟨g,cap,he,hb,hl,cells,hc⟩
end
section
variable {w W:World} {A:Option Addr} {n:Nat}
theorem cN {k:IntKind} {xs:List Int} (h:(Kd.int k).C w A n xs) (i:Int) (j:0≤i) (h1:i < n):∃ ad,A = some ad∧w.cell? (ad.add i.toNat) = some (.int k (rd xs i)) :=
 dB.at_ (iE (enc:=Value.int k) (d:=(0:Int)) (h1:=fun _=>rfl) h) i j h1
variable {α:Type} {enc:α→Value} {h1:∀ x,(enc x).oneCell' = true} {e base g cap:Nat} {ok:Nat→Prop} {xs:List α}
theorem r8 (d:α) (h:(scalar enc h1).R e W base ok (.slice (some ⟨g,0,none⟩) xs.length cap) xs) (i:Int) (j:0≤i) (hi:i < xs.length):W.cell? ⟨g,i.toNat,none⟩ = some (enc (qb d xs i))∧W.frozen? ⟨g,i.toNat,none⟩ = false:=nP (iN h) i j hi
theorem s7 (h:(scalar enc h1).R e W base ok (.slice (some ⟨g,0,none⟩) xs.length cap) xs) (i:Int) (x:α):(scalar enc h1).R e (W.setCell ⟨g,i.toNat,none⟩ (enc x)) base ok (.slice (some ⟨g,0,none⟩) xs.length cap) (xs.set i.toNat x)∧W.grownBy (W.setCell ⟨g,i.toNat,none⟩ (enc x)) (some g):=by
 obtain ⟨ho,hg⟩:=kV (iN h) i x;exact ⟨jN (by rw [List.length_set];exact ho) h.1,hg⟩
end
section
variable {P:Program} {ops:Array Oper} {rest:List Oper} {o:Oper} {a:Act} {Q:Exit→Act→World→Prop}
theorem ja {W w1:World} {v:Value} (hgd:o.guard = none) (hrun:(execOp a.eval o).run P W = .ok (.value v) w1) (h:wpList P ops Q rest (a.put o.dst v) w1):wpList P ops Q (o :: rest) a W:=by
 refine wpList_plain hgd fun K hK=>?_
 unfold Oper.wp;rw [hrun];exact hK _ _ h
variable {α:Type}
theorem nh (d:Kd α) {w0 W:World} (base e:Nat) (hgd:o.guard = none) {N:Tmp} (_hd:o.dst = some N) {xs:List α} {inner:List Value} {ok okp:Nat→Prop}
  (hrun:(execOp a.eval o).run P W = .ok (.value (.slice (some ⟨W.heap.size,0,none⟩) xs.length xs.length)) (W.alloc (.cells inner.toArray e)))
  (hrep:ck (d.M W base okp) d.sz xs inner) (hok:∀ k,okp k→ok k) (hfresh:ok W.heap.size) (HB:Below base w0 W) (hbase:base≤W.heap.size) (hm:xs.length≤9223372036854775807)
  (h:∀ v1 w1,d.R e w1 base ok v1 xs→Below base w0 w1→W.grownBy w1 none→(∃ b,v1.ownBlock = some b∧W.heap.size≤b)→wpList P ops Q rest (a.put o.dst v1) w1):wpList P ops Q (o :: rest) a W:=by
 refine ja hgd hrun (h _ _ ⟨fun k hk=>?_,inner,?_,?_⟩ (HB.alloc hbase _) (World.grownBy_alloc W _ none) ⟨W.heap.size,by simp [Value.ownBlock],Nat.le_refl _⟩)
 ·have:W.heap.size = k:=by simpa [Value.ownBlock] using hk
  subst this;exact hfresh
 ·have h2:=World.ownsRow_lit (base:=base) (e:=e) (size:=d.sz) W inner.toArray xs.length hbase (by simpa [maxLen] using hm) (by simpa using hrep.1)
  simpa using h2
 ·refine hrep.gx (fun p c hp=>d.M_mono (fun k hk=>⟨hok k hk.1,fun he=>?_⟩) (n9 (d.M_bound hp) (dm (Below.refl _ _) _)))
  have h3:k = W.heap.size:=by simpa [Value.ownBlock] using he
  have:=hk.2.2.1;omega
end
end Kd
theorem oI {w:World} {base n m c size:Nat} {e:TypeId} {A:Option Addr} {xs:List Value} (h:w.ownsRow base e size (.slice A n c) n xs) (hm:m≤n):w.ownsRow base e size (.slice A m c) m (xs.take (m * size)):=by
 obtain ⟨h1,h2⟩:=h;refine ⟨by rw [List.length_take,h1];exact Nat.min_eq_left (Nat.mul_le_mul_right _ hm),?_⟩;rcases h2 with ⟨he,j⟩ | ⟨g,cap,cur,he,hb,hh,hnc,hcm,hcs,ht⟩
 ·injection he with ha _ hc
  subst ha;subst hc;exact .inl ⟨by rw [show m = 0 by omega],by omega⟩
 ·injection he with ha _ hc
  subst ha;subst hc;refine .inr ⟨g,c,cur,rfl,hb,hh,by omega,hcm,hcs,?_⟩;rw [← ht,List.take_take,Nat.min_eq_left (Nat.mul_le_mul_right _ hm)]
section
variable {P:Program}
theorem oJ (t e:TypeId) (kh:IntKind) {i:TypeInfo} (ht:P.underlying t = some (.slice e)) (hi:P.info? e = some i) (A:Option Addr) (n c:Nat) (j:Int) (y:0≤j) (hm:j≤n) (hc:n≤c) :
  ∀ W:World,(Instr.slice t (.slice A n c) none (some (.int kh j)) none).run P W = .ok (.slice A j.toNat c) W:=by
 intro W;have hel:P.elem t = e:=by simp [Program.elem,ht]
 have hu:P.underlying t = some (.slice (P.elem t)):=by rw [hel];exact ht
 have ha:(A.map fun x=>x.add 0) = A:=by cases A <;> simp [Addr.add]
 rw [run_slice_h W t A n c hu kh j y (by omega),hel];simp [sizeOf,typeInfo,hi,sliced,Result.andThen,ha]
theorem lT (t e:TypeId) (kl:IntKind) {i:TypeInfo} (ht:P.underlying t = some (.slice e)) (hi:P.info? e = some i) (size:Nat) (hsz:i.size = size) (A:Option Addr) (n c:Nat) (j:Int) (y:0≤j) (hm:j≤n) :
  ∀ W:World,(Instr.slice t (.slice A n c) (some (.int kl j)) none none).run P W = .ok (.slice (if c = j.toNat then A else A.map (·.add (j.toNat * size))) (n - j.toNat) (c - j.toNat)) W:=by
 intro W;have hel:P.elem t = e:=by simp [Program.elem,ht]
 have hu:P.underlying t = some (.slice (P.elem t)):=by rw [hel];exact ht
 rw [run_slice_l W t A n c hu kl j y hm,hel];simp [sizeOf,typeInfo,hi,hsz,sliced,Result.andThen]
end
def s8 (w:World) (base:Nat) (e:TypeId) (size:Nat) (v:Value) (n:Nat) (xs:List Value):Prop :=
  xs.length = n * size ∧
  ((n = 0∧∃ A,v = .slice A 0 0∧∀ a,A = some a→base≤a.block∧∃ cur,w.heap[a.block]? = some (.cells cur e (0,0))) ∨
   ∃ g off cap cur,v = .slice (some ⟨g,off * size,none⟩) n cap∧base≤g∧w.heap[g]? = some (.cells cur e (0,0))∧n≤cap∧off+cap≤maxLen∧cur.size = (off+cap) * size∧(cur.toList.drop (off * size)).take (n * size) = xs)
section
variable {w w1:World} {base n size:Nat} {e:TypeId} {v:Value} {xs:List Value}
theorem oK (h:w.ownsRow base e size v n xs):s8 w base e size v n xs:=by
 obtain ⟨h1,h2⟩:=h;refine ⟨h1,?_⟩;rcases h2 with ⟨rfl,j⟩ | ⟨g,cap,cur,rfl,hb,hh,hnc,hcm,hcs,ht⟩
 ·exact .inl ⟨j,none,rfl,fun a ha=>by cases ha⟩
 ·exact .inr ⟨g,0,cap,cur,by rw [Nat.zero_mul],hb,hh,hnc,by rw [Nat.zero_add];exact hcm,by rw [Nat.zero_add];exact hcs,by rw [Nat.zero_mul,List.drop_zero];exact ht⟩
theorem r9 (g o j:Nat):(⟨g,o,none⟩:Addr).add j = ⟨g,o+j,none⟩:=by unfold Addr.add;split <;> simp_all
end
namespace Kd
theorem nR {α:Type} {R:α→List Value→Prop} {size m:Nat} {ps:List α} {cs:List Value} (h:ck R size ps cs) (hm:m≤ps.length):ck R size (ps.take m) (cs.take (m * size)):=by
 refine ⟨by rw [List.length_take,List.length_take,h.1,Nat.min_eq_left hm,Nat.min_eq_left (Nat.mul_le_mul_right _ hm)],fun j p hj=>?_⟩;rw [List.getElem?_take] at hj;split at hj
 ·rename_i hjm
  have:=h.2 j p hj;have hle:j * size+size≤m * size:=by rw [← Nat.succ_mul];exact Nat.mul_le_mul_right _ hjm
  rw [List.drop_take,List.take_take,Nat.min_eq_left (by omega)];exact this
 ·cases hj
theorem oL {α:Type} {d:Kd α} {e m n c:Nat} {w:World} {base:Nat} {ok:Nat→Prop} {A:Option Addr} {xs:List α} (h:d.R e w base ok (.slice A n c) xs) (hm:m≤xs.length):d.R e w base ok (.slice A m c) (xs.take m):=by
 obtain ⟨j,inner,ho,hr⟩:=h;have hn:n = xs.length:=by
  obtain ⟨A',c',he⟩:=nN ho;injection he
 subst hn;have hb:∀ x y:Nat,(Value.slice A x c).ownBlock = (Value.slice A y c).ownBlock:=by
  intro x y;cases A <;> rfl
 refine ⟨fun k hk=>j k (by rw [hb _ m];exact hk),inner.take (m * d.sz),?_,?_⟩
 ·rw [List.length_take,Nat.min_eq_left hm]
  exact oI ho hm
 ·rw [hb m xs.length]
  exact nR hr hm
def Q {α:Type} (d:Kd α) (e:Nat) (w:World) (base:Nat) (ok:Nat→Prop) (v:Value) (xs:List α):Prop :=
 (∀ k,v.ownBlock = some k→ok k)∧∃ inner,s8 w base e d.sz v xs.length inner∧ck (d.M w base (fun k=>ok k∧some k≠v.ownBlock)) d.sz xs inner
section
variable {α:Type} {d:Kd α} {e:Nat} {w w1 W:World} {base:Nat} {ok ok':Nat→Prop} {v:Value} {xs:List α}
theorem rf (h:d.R e w base ok v xs):d.Q e w base ok v xs:=by
 obtain ⟨j,inner,ho,hr⟩:=h;exact ⟨j,inner,oK ho,hr⟩
theorem qP (d:Kd α) (e:Nat) (w:World) (base:Nat) (ok:Nat→Prop):d.Q e w base ok (.slice none 0 0) []:=rf (jq d e w base ok)
end
end Kd
namespace Kd
section
variable {α:Type} {d:Kd α} {e e':Nat} {w w1 W:World} {base:Nat} {ok:Nat→Prop} {u v:Value} {xs:List α}
theorem ni (h:d.R e w base ok v xs):∀ k,v.ownBlock = some k→∃ cells,w.heap[k]? = some (.cells cells e (0,0)):=by
 obtain ⟨inner,ho⟩:=nc h;exact fun k hk=>gR ho k hk
theorem kX (h:d.R e W base ok u xs) (hty:∀ k,v.ownBlock = some k→∃ cells,W.heap[k]? = some (.cells cells e' (0,0))) (ht:∀ q,q∈e :: d.E→q≠e') (hg:W.grownBy w1 v.ownBlock):d.R e w1 base ok u xs:=by
 refine aX (j8 (eY h) (fun k hk=>hg.block k hk.2.2.1 (fun he=>?_))) (fun _ hk=>hk.1);obtain ⟨_,_,_,q,hq,cells,hc⟩:=hk;obtain ⟨cells',hc'⟩:=hty k he.symm;rw [hc] at hc';injection hc' with hc'
 injection hc' with _ hc'
 exact ht q hq hc'
theorem ga (h:d.R e W base ok u xs) (hty:∀ k,v.ownBlock = some k→∃ cells,W.heap[k]? = some (.cells cells e' (0,0))) (ht:∀ q,q∈e :: d.E→q≠e'):d.R e W base (fun k=>ok k∧some k≠v.ownBlock) u xs:=by
 refine aX (eY h) (fun k hk=>⟨hk.1,fun he=>?_⟩);obtain ⟨_,_,_,q,hq,cells,hc⟩:=hk;obtain ⟨cells',hc'⟩:=hty k he.symm;rw [hc] at hc';injection hc' with hc'
 injection hc' with _ hc'
 exact ht q hq hc'
theorem cC (hu:d.R e W base ok u xs) (hbase:∀ k,v.ownBlock = some k→W.heap.size≤k) (hb:Below W.heap.size W w1):d.R e w1 base (fun k=>ok k∧some k≠v.ownBlock) u xs :=
 aX (j8 (eY hu) (fun k hk=>hb.block k hk.2.2.1)) (fun k hk=>⟨hk.1,fun he=>by have:=hbase k he.symm;have:=hk.2.2.1;omega⟩)
theorem dj (h:d.R e w1 W.heap.size ok v xs) (hlt:∀ k,u.ownBlock = some k→k < W.heap.size):d.R e w1 W.heap.size (fun k=>ok k∧some k≠u.ownBlock) v xs :=
 aX (eY h) (fun k hk=>⟨hk.1,fun he=>by have:=hlt k he.symm;have:=hk.2.1;omega⟩)
theorem fresh' (hlt:∀ k,u.ownBlock = some k→k < W.heap.size):∀ k,W.heap.size≤k→some k≠u.ownBlock:=fun k hk he=>by have:=hlt k he.symm;omega
end
end Kd
namespace Kd
section
variable {α:Type} {d:Kd α} {e base g n cap:Nat} {ok okp:Nat→Prop} {W:World} {xs:List α}
theorem rh (h:d.R e W base ok (.slice (some ⟨g,0,none⟩) n cap) xs) (z:α) (i:Int) (y:0≤i) (h1:i < n) :
  ∃ c,c.length = d.sz∧d.M W base (fun k=>ok k∧k≠g) (xs.getD i.toNat z) c∧(∀ j u,c[j]? = some u→W.cell? ⟨g,i.toNat * d.sz+j,none⟩ = some u)∧∀ j,W.frozen? ⟨g,i.toNat * d.sz+j,none⟩ = false:=by
 obtain ⟨hn,hnc,hC⟩:=az h;obtain ⟨_,inner,ho,hr⟩:=h;have hil:i.toNat < xs.length:=by omega
 have hseg:i.toNat * d.sz+d.sz≤inner.length:=by rw [hr.1,← Nat.succ_mul];exact Nat.mul_le_mul_right _ hil
 have hM:=hr.2 i.toNat _ (List.getElem?_eq_getElem hil);refine ⟨(inner.drop (i.toNat * d.sz)).take d.sz,by rw [List.length_take,List.length_drop];omega,?_,fun j u hu=>?_,fun j=>?_⟩
 ·rw [List.getD_eq_getElem?_getD,List.getElem?_eq_getElem hil]
  exact d.M_mono (fun k hk=>⟨hk.1,fun he=>hk.2 (by rw [he];simp [Value.ownBlock])⟩) hM
 ·rw [List.getElem?_take] at hu
  split at hu
  ·rw [List.getElem?_drop] at hu
   have:=ho.cells (g:=g) (by simp [Value.ownBlock]) _ u hu;rwa [add_plain] at this
  ·cases hu
 ·obtain ⟨cells,hc⟩:=gR ho g (by simp [Value.ownBlock])
  exact aj hc _
end
end Kd
namespace Kd
def fixed {α:Type} (d:Kd α) (w0:World):Kd α where
 sz:=d.sz
 E:=[]
 K:=fun _ x cs=>d.K w0 x cs
 M:=fun _ _ _ x cs=>d.K w0 x cs
 K_len:=d.K_len
 K_one:=d.K_one
 K_below:=fun _ h=>h
 K_of_M:=fun h=>h
 M_mono:=fun _ h=>h
 M_bound:=fun h=>h
 M_move:=fun _ h=>h
 M_lower:=fun _ h=>h
end Kd
namespace Kd
theorem jr {α:Type} {R:α→List Value→Prop} {size:Nat} {ps qs:List α} {cs ds:List Value} (h:ck R size ps cs) (h':ck R size qs ds):ck R size (ps ++ qs) (cs ++ ds):=by
 refine ⟨by rw [List.length_append,List.length_append,h.1,h'.1,Nat.add_mul],fun j p hj=>?_⟩;rcases Nat.lt_or_ge j ps.length with hlt | hge
 ·rw [List.getElem?_append_left hlt] at hj
  have hle:j * size+size≤cs.length:=by rw [h.1,← Nat.succ_mul];exact Nat.mul_le_mul_right _ hlt
  rw [List.drop_append_of_le_length (by omega),List.take_append_of_le_length (by rw [List.length_drop];omega)];exact h.2 j p hj
 ·rw [List.getElem?_append_right hge] at hj
  have h2:=h'.2 (j - ps.length) p hj;have hle:ps.length * size≤j * size:=Nat.mul_le_mul_right _ hge;rw [List.drop_append,List.drop_eq_nil_of_le (by rw [h.1];exact hle),List.nil_append,h.1,← Nat.sub_mul];exact h2
section
variable {P:Program} {ops:Array Oper} {rest:List Oper} {o:Oper} {a:Act} {Q:Exit→Act→World→Prop} {α:Type}
theorem fz (d:Kd α) {Rr:α→List Value→Prop} {w0 W:World} (base:Nat) (hgd:o.guard = none) (s x:Operand) (t e:TypeId) (z:Value) (bytes:Nat)
  (ho:o.op = .call { callee:=.builtin .append,args:=#[s,x],argTypes:=#[t,t] })
  (ht:P.underlying t = some (.slice e)) (hinfo:(P.info? e).map (fun i=>(i.zero,i.size,i.bytes)) = some (some z,d.sz,bytes)) (hz:z.cells.size = d.sz) (j:0 < d.sz) (J:0 < bytes)
  (v:Value) (xs ys:List α) (A:Option Addr) (m c:Nat) (ok okp:Nat→Prop) (hs:a.eval s = v) (hx:a.eval x = .slice A m c)
  (HO:d.R e W base ok v xs) (HR:dK Rr d.sz W A m ys) (U:∀ x cs,Rr x cs→d.M W base okp x cs) (y:∀ k,okp k→ok k∧some k≠v.ownBlock) (hfresh:∀ k,W.heap.size≤k→ok k)
  (HB:Below base w0 W) (hbase:base≤W.heap.size) (hl:(xs.length+m) * bytes≤140737488355328)
  (h:∀ v1 w1,d.R e w1 base ok v1 (xs ++ ys)→Below base w0 w1→W.grownBy w1 v.ownBlock→(v1.ownBlock = v.ownBlock∨∃ b,v1.ownBlock = some b∧W.heap.size≤b)→wpList P ops Q rest (a.put o.dst v1) w1) :
  wpList P ops Q (o :: rest) a W:=by
 obtain ⟨i0,hi,hzz⟩:=Option.map_eq_some_iff.1 hinfo;simp only [Prod.mk.injEq] at hzz;obtain ⟨X,Y,a0⟩:=hzz;have hm:ys.length = m:=HR.1;have hlen:xs.length+m≤140737488355328:=Nat.le_trans (Nat.le_mul_of_pos_right _ J) hl;obtain ⟨hok,inner,hown,hr⟩:=HO;have hrun:∃ v1 w1,(Builtin.append_ #[t,t] o.type #[v,.slice A m c]).run P W = .ok v1 w1∧d.R e w1 base ok v1 (xs ++ ys)∧W.grownBy w1 v.ownBlock∧(v1.ownBlock = v.ownBlock∨∃ b,v1.ownBlock = some b∧W.heap.size≤b):=by
  rcases A with _ | ad
  ·have I:m = 0:=by
    rcases Nat.eq_zero_or_pos m with I | I
    ·exact I
    ·obtain ⟨ad,h,_⟩:=HR.2.2 I
     cases h
   subst I;obtain rfl:ys = []:=List.eq_nil_of_length_eq_zero hm;refine ⟨v,W,?_,by rw [List.append_nil];exact ⟨hok,inner,hown,hr⟩,World.grownBy.refl W _,.inl rfl⟩;rcases hown.2 with ⟨rfl,hn⟩ | ⟨g,cap,cur,rfl,_,_,hnc,_⟩
   ·simp [Builtin.append_,run_underlying ht,sizeOf,typeInfo,hi,Builtin.lenOf,Builtin.firstCells]
   ·simp [Builtin.append_,run_underlying ht,sizeOf,typeInfo,hi,Builtin.lenOf,Builtin.firstCells,hnc,storeCells]
  ·obtain ⟨news,hnr,hnc⟩:=dK.oE HR
   have hnM:ck (d.M W base okp) d.sz ys news:=hnr.gx (fun p c hp=>U p c hp);have hone:∀ u∈news,u.oneCell' = true:=by
    intro u hu;obtain ⟨q,hq,rfl⟩:=List.mem_iff_getElem.1 hu;have a1:q / d.sz < ys.length:=by
     rw [Nat.div_lt_iff_lt_mul j];rw [← hnM.1];exact hq
    have hc:=hnM.2 (q / d.sz) _ (List.getElem?_eq_getElem a1);refine d.K_one (d.K_of_M hc) _ ?_;rw [List.mem_iff_getElem?];refine ⟨q % d.sz,?_⟩;rw [List.getElem?_take,if_pos (Nat.mod_lt _ j),List.getElem?_drop,Nat.mul_comm,Nat.div_add_mod,List.getElem?_eq_getElem hq]
   obtain ⟨v1,w1,hrun,h2,hg,_,hat⟩:=run_append_own_at (P:=P) W base t o.type e i0 z d.sz bytes ht hi X Y a0 hz j v xs.length inner hown ad m c news (by rw [hnM.1,hm]) hnc hone (by simp only [maxLen];omega) hl hbase;have hat':v1.ownBlock = v.ownBlock∨∃ b,v1.ownBlock = some b∧W.heap.size≤b:=by
    rcases hat with hat | hat
    ·exact .inl hat
    ·exact .inr ⟨_,hat,Nat.le_refl _⟩
   have hne:∀ k,some k≠v.ownBlock→k < W.heap.size→some k≠v1.ownBlock:=by
    intro k hk hlt;rcases hat' with hat | ⟨b,hb,hle⟩
    ·rw [hat];exact hk
    ·rw [hb]
     intro he;injection he with he
     omega
   have step:∀ {q:α} {c:List Value} {o:Nat→Prop},d.M W base o q c→(∀ k,o k→ok k∧some k≠v.ownBlock)→d.M w1 base (fun k=>ok k∧some k≠v1.ownBlock) q c:=by
    intro q c o hq ho;have h1:=d.M_move (w1:=w1) (fun k hk=>hg.block k hk.2.2.1 (ho k hk.1).2) (d.M_bound hq);exact d.M_mono (fun k hk=>⟨(ho k hk.1).1,hne k (ho k hk.1).2 hk.2.2.1⟩) h1
   refine ⟨v1,w1,hrun,⟨fun k hk=>?_,inner ++ news,by rw [List.length_append,hm];exact h2,jr (hr.gx (fun _ _ hq=>step hq (fun _ hk=>hk))) (hnM.gx (fun _ _ hq=>step hq y))⟩,hg,hat'⟩;rcases hat' with hat | ⟨b,hb,hle⟩
   ·exact hok k (hat ▸ hk)
   ·rw [hb] at hk
    injection hk with hk
    exact hfresh k (by omega)
 obtain ⟨v1,w1,a2,h1,hg,hat⟩:=hrun;refine wpList_plain hgd fun K hK=>?_
 unfold Oper.wp execOp;simp only [ho,resolve,invoke,builtin,Sem.run_bind,Sem.run_pure,Result.andThen_ok,List.map_toArray,List.map_cons,List.map_nil,hs,hx,a2];exact hK _ _ (h v1 w1 h1 (HB.grown hg hbase (fW hown)) hg hat)
end
end Kd
theorem add_add (a:Addr) (i j:Nat):(a.add i).add j = a.add (i+j):=by
 unfold Addr.add;by_cases h1:i = 0 <;> by_cases h2:j = 0 <;> simp [h1,h2,Nat.add_assoc]
namespace Kd
section
variable {α:Type} {k:Kd α} {w:World} {A:Option Addr} {xs:List α} {m c:Nat}
theorem kY (h:k.C w A xs.length xs) (hm:m≤xs.length) (hc:xs.length≤c):k.C w (if c = m then A else A.map (·.add (m * k.sz))) (xs.drop m).length (xs.drop m):=by
 have hl:(xs.drop m).length = xs.length - m:=List.length_drop;refine ⟨rfl,by rw [hl];have:=h.2.1;omega,fun hp=>?_⟩;rw [hl] at hp;obtain ⟨ad,rfl,hcell⟩:=h.2.2 (by omega);rw [if_neg (by omega)];refine ⟨ad.add (m * k.sz),rfl,fun j p hj=>?_⟩;rw [List.getElem?_drop] at hj;obtain ⟨cs,h1,h2,h3⟩:=hcell (m+j) p hj;refine ⟨cs,h1,h2,fun i u hu=>?_⟩;rw [add_add,show m * k.sz+(j * k.sz+i) = (m+j) * k.sz+i by rw [Nat.add_mul];omega];exact h3 i u hu
end
end Kd
theorem an {w W:World} (h:Below w.heap.size w W):w.heap.size≤W.heap.size:=h.size
theorem aH {w W j:World} (h:Below w.heap.size w W) (k:Below W.heap.size W j):Below w.heap.size w j:=jI h h.size k
theorem dJ.nil (W:World) (k:IntKind):dJ W k none ([]:List Int).length []:=⟨rfl,by simp,fun h=>absurd h (Nat.lt_irrefl 0)⟩
theorem dJ.drewN {W:World} {k:IntKind} {A:Option Addr} {n:Nat} {xs:List Int} (h:dJ W k A n xs) (m:Nat):dJ (W.drewN m) k A n xs:=h
theorem dY {w W:World} {g j:Nat} {v:Value} (h:Below w.heap.size w W) (hg:w.heap.size≤g):Below w.heap.size w (W.setCell ⟨g,j,none⟩ v):=h.setCell hg _
theorem gy {w W:World} {g:Nat} {row:Option Nat} (h:bn w W g row) (m:Nat):bn w (W.drewN m) g row:=h
theorem mF {w W:World} {g:Nat} (h:bn w W g none) (o:Obj):bn w (W.alloc o) g none:=h.trans (bn.jL (World.grownBy_alloc W o none) g) (.inl rfl)
theorem kC {w W:World} {g:Nat} (h:bn w W g none) {a:Addr} {v:Value} (hc:w.cell? a = some v) (hne:a.block≠g):W.cell? a = some v:=by
 have:=h.2 a.block (World.block_lt_of_cell? w a hc) hne (by simp);simpa [World.cell?,this] using hc
theorem fE (a:Addr) (i:Nat):(a.add i).block = a.block:=by unfold Addr.add;split <;> rfl
theorem dB.nil {α:Type} (enc:α→Value) (d:α) (W:World):dB enc d W none ([]:List α).length []:=⟨rfl,by simp,fun h=>absurd h (Nat.lt_irrefl 0)⟩
theorem dB.drewN {α:Type} {enc:α→Value} {d:α} {W:World} {A:Option Addr} {n:Nat} {xs:List α} (h:dB enc d W A n xs) (m:Nat):dB enc d (W.drewN m) A n xs:=h
theorem ri {α:Type} {enc:α→Value} {d:α} {w0:World} {A:Option Addr} {n g:Nat} {xs:List α} (h:dB enc d w0 A n xs) (hg:w0.heap.size≤g):∀ ad,A = some ad→0 < n→ad.block≠g:=by
 rintro ad rfl hn
 obtain ⟨ad',h',hc⟩:=h.2.2 hn;injection h' with h'
 subst h';have:=World.block_lt_of_cell? w0 _ (hc 0 hn);rw [fE] at this;omega
theorem dJ.keep {w W:World} {k:IntKind} {A:Option Addr} {n g:Nat} {xs:List Int} (h:dJ w k A n xs) (hk:bn w W g none) (hf:∀ ad,A = some ad→0 < n→ad.block≠g):dJ W k A n xs :=
 ⟨h.1,h.2.1,fun hn=>by
  obtain ⟨ad,e,hc⟩:=h.2.2 hn;exact ⟨ad,e,fun j hj=>kC hk (hc j hj) (by rw [fE];exact hf ad e hn)⟩⟩
theorem dB.keep {α:Type} {enc:α→Value} {d:α} {w W:World} {A:Option Addr} {n g:Nat} {xs:List α} (h:dB enc d w A n xs) (hk:bn w W g none) (hf:∀ ad,A = some ad→0 < n→ad.block≠g):dB enc d W A n xs :=
 ⟨h.1,h.2.1,fun hn=>by
  obtain ⟨ad,e,hc⟩:=h.2.2 hn;exact ⟨ad,e,fun j hj=>kC hk (hc j hj) (by rw [fE];exact hf ad e hn)⟩⟩
theorem cell_far {W:World} {p a:Addr} (h:a.block≠p.block) (u:Value):(W.setCell p u).cell? a = W.cell? a:=by
 have:=Below.heap_setCell W p u a.block h;simp [World.cell?,this]
theorem eS {w:World} {g:Nat} {t:TypeId} {cs cs':Array Value} (h:w.heap[g]? = some (.cells cs t (0,0))) (i:Nat) (u:Value) (e:cs.setIfInBounds i u = cs'):(w.setCell ⟨g,i,none⟩ u).heap[g]? = some (.cells cs' t (0,0)):=e ▸ qa h i u
theorem fL {w W:World} {g:Nat} {row:Option Nat} (h:bn w W g row) {p:Addr} (hp:w.heap.size≤p.block) (u:Value):bn w (W.setCell p u) g row :=
 ⟨by simpa [World.setCell] using h.1,fun i hi hg hr=>(Below.heap_setCell W p u i (by omega)).trans (h.2 i hi hg hr)⟩
theorem cu {base:Nat} {w W:World} (h:Below base w W):Below base w W.drew:=h.drew
theorem nS {w W:World} {g:Nat} {row:Option Nat} (h:bn w W g row):bn w W.drew g row:=h
namespace Kd
section
variable {α:Type} {enc:α→Value} {h1:∀ x,(enc x).oneCell' = true} {w W:World} {A:Option Addr} {n g:Nat} {xs:List α}
theorem rj (d:α) (h:(scalar enc h1).C w A n xs) (hk:bn w W g none) (hf:∀ ad,A = some ad→0 < n→ad.block≠g):(scalar enc h1).C W A n xs:=mE (dB.keep (iE (d:=d) h) hk hf)
theorem s9 (d:α) (h:(scalar enc h1).C w A n xs) (hg:w.heap.size≤g):∀ ad,A = some ad→0 < n→ad.block≠g:=ri (iE (d:=d) h) hg
end
end Kd
namespace Kd
section
variable {α:Type} {d:Kd α} {e base g:Nat} {ok:Nat→Prop} {w w1:World} {v:Value} {xs:List α} {o:Obj}
theorem eV (hb:w.heap[g]? = some o):∀ k,w.heap.size≤k→k≠g:=fun k hk=>by have:=gH hb;omega
end
end Kd
section
variable {P:Program} {ops:Array Oper} {rest:List Oper} {o:Oper} {a:Act} {Q:Exit→Act→World→Prop}
theorem dg {W:World} (hgd:o.guard = none) {N:Tmp} (_hd:o.dst = some N) {cs:Array Value} {t:TypeId}
  (hrun:(execOp a.eval o).run P W = .ok (.value (.pointer (some ⟨W.heap.size,0,none⟩))) (W.alloc (.cells cs t (0,0))))
  (h:∀ g,g = W.heap.size→∀ w1,w1.heap[g]? = some (.cells cs t (0,0))→Below W.heap.size W w1→wpList P ops Q rest (a.put o.dst (.pointer (some ⟨g,0,none⟩))) w1):wpList P ops Q (o :: rest) a W :=
 Kd.ja hgd hrun (h _ rfl _ (n5 W _) (dm (Below.refl _ _) _))
end
namespace Kd
section
variable {α:Type} {enc:α→Value} {h1:∀ x,(enc x).oneCell' = true} {e base g n cap:Nat} {ok:Nat→Prop} {W:World} {xs:List α}
theorem qc (d:α) (h:(scalar enc h1).R e W base ok (.slice (some ⟨g,0,none⟩) n cap) xs) (i:Int) (j:0≤i) (hi:i < n):W.cell? ⟨g,i.toNat,none⟩ = some (enc (qb d xs i))∧W.frozen? ⟨g,i.toNat,none⟩ = false:=by
 obtain ⟨rfl,_⟩:=az h;exact r8 d h i j hi
end
end Kd
section
variable {P:Program} {ops:Array Oper} {rest:List Oper} {o:Oper} {a:Act} {Q:Exit→Act→World→Prop}
theorem fN {W w1:World} (hgd:o.guard = none) {t:TypeId} {p:Tmp} {v:Operand} (_ho:o.op = .store t (.tmp p) v) (hN:o.dst = none)
  (hrun:(execOp a.eval o).run P W = .ok .skip w1) (h:∀ w',w' = w1→wpList P ops Q rest a w'):wpList P ops Q (o :: rest) a W:=by
 refine wpList_plain hgd fun K hK=>?_
 unfold Oper.wp;rw [hrun];show K (a.put o.dst undef) w1;rw [hN];exact hK _ _ (h _ rfl)
end
namespace Kd
section
variable {α:Type} {enc:α→Value} {h1:∀ x,(enc x).oneCell' = true} {e base g n cap:Nat} {ok:Nat→Prop} {W:World} {xs:List α}
theorem rq (h:(scalar enc h1).R e W base ok (.slice (some ⟨g,0,none⟩) n cap) xs) (i:Int) (x:α):(scalar enc h1).R e (W.setCell ⟨g,i.toNat,none⟩ (enc x)) base ok (.slice (some ⟨g,0,none⟩) n cap) (xs.set i.toNat x)∧W.grownBy (W.setCell ⟨g,i.toNat,none⟩ (enc x)) (some g):=by
 obtain ⟨rfl,_⟩:=az h;exact s7 h i x
end
end Kd
section
variable {P:Program} {ops:Array Oper} {rest:List Oper} {o:Oper} {a:Act} {Q:Exit→Act→World→Prop} {W:World}
theorem aY {N:Tmp} (_hN:o.dst = some N) (h:wpList P ops Q (o :: rest) a W):wpList P ops Q (o :: rest) a W:=h
theorem gz {t:TypeId} {p:Tmp} {v:Operand} (_ho:o.op = .store t (.tmp p) v) (h:wpList P ops Q (o :: rest) a W):wpList P ops Q (o :: rest) a W:=h
end
section
variable {P:Program} {ops:Array Oper} {o:Oper} {a:Act} {Q:Exit→Act→World→Prop} {Kc:Act→World→Prop}
theorem mG {W w1:World} {v:Value} (hw:Region.wanted o (yielded ops a.tmps) = true) (hrun:(execOp a.eval o).run P W = .ok (.value v) w1) (h:Kc (a.put o.dst v) w1):if Region.wanted o (yielded ops a.tmps) = true then Oper.wp P o a W Kc Q else Kc (a.put o.dst undef) W:=by
 rw [if_pos hw];unfold Oper.wp;rw [hrun];exact h
namespace Kd
variable {α:Type}
theorem cJ (d:Kd α) {w0 W:World} (base e:Nat) (hw:Region.wanted o (yielded ops a.tmps) = true) {N:Tmp} (_hd:o.dst = some N) {xs:List α} {inner:List Value} {ok okp:Nat→Prop}
  (hrun:(execOp a.eval o).run P W = .ok (.value (.slice (some ⟨W.heap.size,0,none⟩) xs.length xs.length)) (W.alloc (.cells inner.toArray e)))
  (hrep:ck (d.M W base okp) d.sz xs inner) (hok:∀ k,okp k→ok k) (hfresh:ok W.heap.size) (HB:Below base w0 W) (hbase:base≤W.heap.size) (hm:xs.length≤9223372036854775807)
  (h:∀ v1 w1,d.R e w1 base ok v1 xs→Below base w0 w1→W.grownBy w1 none→(∃ b,v1.ownBlock = some b∧W.heap.size≤b)→Kc (a.put o.dst v1) w1):if Region.wanted o (yielded ops a.tmps) = true then Oper.wp P o a W Kc Q else Kc (a.put o.dst undef) W:=by
 refine mG hw hrun (h _ _ ⟨fun k hk=>?_,inner,?_,?_⟩ (HB.alloc hbase _) (World.grownBy_alloc W _ none) ⟨W.heap.size,by simp [Value.ownBlock],Nat.le_refl _⟩)
 ·have:W.heap.size = k:=by simpa [Value.ownBlock] using hk
  subst this;exact hfresh
 ·have h2:=World.ownsRow_lit (base:=base) (e:=e) (size:=d.sz) W inner.toArray xs.length hbase (by simpa [maxLen] using hm) (by simpa using hrep.1)
  simpa using h2
 ·refine hrep.gx (fun p c hp=>d.M_mono (fun k hk=>⟨hok k hk.1,fun he=>?_⟩) (n9 (d.M_bound hp) (dm (Below.refl _ _) _)))
  have h3:k = W.heap.size:=by simpa [Value.ownBlock] using he
  have:=hk.2.2.1;omega
theorem cL (d:Kd α) {Rr:α→List Value→Prop} {w0 W:World} (base:Nat) (hw:Region.wanted o (yielded ops a.tmps) = true) (s x:Operand) (t e:TypeId) (z:Value) (bytes:Nat)
  (ho:o.op = .call { callee:=.builtin .append,args:=#[s,x],argTypes:=#[t,t] })
  (ht:P.underlying t = some (.slice e)) (hinfo:(P.info? e).map (fun i=>(i.zero,i.size,i.bytes)) = some (some z,d.sz,bytes)) (hz:z.cells.size = d.sz) (j:0 < d.sz) (J:0 < bytes)
  (v:Value) (xs ys:List α) (A:Option Addr) (m c:Nat) (ok okp:Nat→Prop) (hs:a.eval s = v) (hx:a.eval x = .slice A m c)
  (HO:d.R e W base ok v xs) (HR:dK Rr d.sz W A m ys) (U:∀ x cs,Rr x cs→d.M W base okp x cs) (y:∀ k,okp k→ok k∧some k≠v.ownBlock) (hfresh:∀ k,W.heap.size≤k→ok k)
  (HB:Below base w0 W) (hbase:base≤W.heap.size) (hl:(xs.length+m) * bytes≤140737488355328)
  (h:∀ v1 w1,d.R e w1 base ok v1 (xs ++ ys)→Below base w0 w1→W.grownBy w1 v.ownBlock→(v1.ownBlock = v.ownBlock∨∃ b,v1.ownBlock = some b∧W.heap.size≤b)→Kc (a.put o.dst v1) w1) :
  if Region.wanted o (yielded ops a.tmps) = true then Oper.wp P o a W Kc Q else Kc (a.put o.dst undef) W:=by
 obtain ⟨i0,hi,hzz⟩:=Option.map_eq_some_iff.1 hinfo;simp only [Prod.mk.injEq] at hzz;obtain ⟨X,Y,a0⟩:=hzz;have hm:ys.length = m:=HR.1;have hlen:xs.length+m≤140737488355328:=Nat.le_trans (Nat.le_mul_of_pos_right _ J) hl;obtain ⟨hok,inner,hown,hr⟩:=HO;have hrun:∃ v1 w1,(Builtin.append_ #[t,t] o.type #[v,.slice A m c]).run P W = .ok v1 w1∧d.R e w1 base ok v1 (xs ++ ys)∧W.grownBy w1 v.ownBlock∧(v1.ownBlock = v.ownBlock∨∃ b,v1.ownBlock = some b∧W.heap.size≤b):=by
  rcases A with _ | ad
  ·have I:m = 0:=by
    rcases Nat.eq_zero_or_pos m with I | I
    ·exact I
    ·obtain ⟨ad,h,_⟩:=HR.2.2 I
     cases h
   subst I;obtain rfl:ys = []:=List.eq_nil_of_length_eq_zero hm;refine ⟨v,W,?_,by rw [List.append_nil];exact ⟨hok,inner,hown,hr⟩,World.grownBy.refl W _,.inl rfl⟩;rcases hown.2 with ⟨rfl,hn⟩ | ⟨g,cap,cur,rfl,_,_,hnc,_⟩
   ·simp [Builtin.append_,run_underlying ht,sizeOf,typeInfo,hi,Builtin.lenOf,Builtin.firstCells]
   ·simp [Builtin.append_,run_underlying ht,sizeOf,typeInfo,hi,Builtin.lenOf,Builtin.firstCells,hnc,storeCells]
  ·obtain ⟨news,hnr,hnc⟩:=dK.oE HR
   have hnM:ck (d.M W base okp) d.sz ys news:=hnr.gx (fun p c hp=>U p c hp);have hone:∀ u∈news,u.oneCell' = true:=by
    intro u hu;obtain ⟨q,hq,rfl⟩:=List.mem_iff_getElem.1 hu;have a1:q / d.sz < ys.length:=by
     rw [Nat.div_lt_iff_lt_mul j];rw [← hnM.1];exact hq
    have hc:=hnM.2 (q / d.sz) _ (List.getElem?_eq_getElem a1);refine d.K_one (d.K_of_M hc) _ ?_;rw [List.mem_iff_getElem?];refine ⟨q % d.sz,?_⟩;rw [List.getElem?_take,if_pos (Nat.mod_lt _ j),List.getElem?_drop,Nat.mul_comm,Nat.div_add_mod,List.getElem?_eq_getElem hq]
   obtain ⟨v1,w1,hrun,h2,hg,_,hat⟩:=run_append_own_at (P:=P) W base t o.type e i0 z d.sz bytes ht hi X Y a0 hz j v xs.length inner hown ad m c news (by rw [hnM.1,hm]) hnc hone (by simp only [maxLen];omega) hl hbase;have hat':v1.ownBlock = v.ownBlock∨∃ b,v1.ownBlock = some b∧W.heap.size≤b:=by
    rcases hat with hat | hat
    ·exact .inl hat
    ·exact .inr ⟨_,hat,Nat.le_refl _⟩
   have hne:∀ k,some k≠v.ownBlock→k < W.heap.size→some k≠v1.ownBlock:=by
    intro k hk hlt;rcases hat' with hat | ⟨b,hb,hle⟩
    ·rw [hat];exact hk
    ·rw [hb]
     intro he;injection he with he
     omega
   have step:∀ {q:α} {c:List Value} {o:Nat→Prop},d.M W base o q c→(∀ k,o k→ok k∧some k≠v.ownBlock)→d.M w1 base (fun k=>ok k∧some k≠v1.ownBlock) q c:=by
    intro q c o hq ho;have h1:=d.M_move (w1:=w1) (fun k hk=>hg.block k hk.2.2.1 (ho k hk.1).2) (d.M_bound hq);exact d.M_mono (fun k hk=>⟨(ho k hk.1).1,hne k (ho k hk.1).2 hk.2.2.1⟩) h1
   refine ⟨v1,w1,hrun,⟨fun k hk=>?_,inner ++ news,by rw [List.length_append,hm];exact h2,jr (hr.gx (fun _ _ hq=>step hq (fun _ hk=>hk))) (hnM.gx (fun _ _ hq=>step hq y))⟩,hg,hat'⟩;rcases hat' with hat | ⟨b,hb,hle⟩
   ·exact hok k (hat ▸ hk)
   ·rw [hb] at hk
    injection hk with hk
    exact hfresh k (by omega)
 obtain ⟨v1,w1,a2,h1,hg,hat⟩:=hrun;rw [if_pos hw];unfold Oper.wp execOp;simp only [ho,resolve,invoke,builtin,Sem.run_bind,Sem.run_pure,Result.andThen_ok,List.map_toArray,List.map_cons,List.map_nil,hs,hx,a2];exact h v1 w1 h1 (HB.grown hg hbase (fW hown)) hg hat
end Kd
end
end Go.Proofs.ag.b6
end
section
namespace Go.Proofs.ag.cz
section
variable {P:Program} {ops:Array Oper} {Q:Exit→Act→World→Prop} {md:Region.Mode} {S:World→Prop} {ds:List Nat}
def Region.fB (md:Region.Mode) (ops:Array Oper) (i:Nat):Nat→Nat→Bool
  | 0,_=>false
  | fuel+1,d=>match ops[d]? with
    | some o=>o.after.any fun e=>Region.binds md e && (e.on == i || Region.fB md ops i fuel e.on)
    | none=>false
def Region.iO (md:Region.Mode) (ops:Array Oper) (listed:Array Bool):Bool :=
  (List.range ops.size).all fun j=>!listed.getD j false || match ops[j]? with
    | some o=>o.after.all fun e=>!Region.binds md e || listed.getD e.on false
    | none=>true
def Region.nj (md:Region.Mode) (ops:Array Oper) (listed:Array Bool) (ds:List Nat) (i:Nat):Bool :=
 ds.all fun d=>listed.getD d true || Region.fB md ops i ops.size d
def eH (md:Region.Mode) (ops:Array Oper) (listed:Array Bool):Prop :=
 ∀ j oj,ops[j]? = some oj→listed.getD j false = true→∀ e∈oj.after,Region.binds md e = true→listed.getD e.on false = true
theorem Region.kZ {listed:Array Bool} (h:Region.iO md ops listed = true):eH md ops listed:=by
 intro j oj hj hl e he hb;have hlt:j < ops.size:=(Array.getElem?_eq_some_iff.1 hj).1;have h1:=List.all_eq_true.1 h j (List.mem_range.2 hlt);simp only [hl,hj,Bool.not_true,Bool.false_or] at h1;have h2:=Array.all_eq_true_iff_forall_mem.1 h1 e he;simpa [hb] using h2
theorem eH.set {listed:Array Bool} {i:Nat} (h:eH md ops listed) (hi:i∈Region.ready md ops listed):eH md ops (listed.setIfInBounds i true):=by
 obtain ⟨_,oi,hoi,hall⟩:=mem_ready.1 hi;intro j oj hj hl e he hb;by_cases hij:i = j
 ·subst hij
  have:oj = oi:=Option.some.inj (hj.symm.trans hoi);subst this;exact getD_set_true (hall e he hb)
 ·rw [getD_set_ne false hij] at hl
  exact getD_set_true (h j oj hj hl e he hb)
theorem Region.iP {listed:Array Bool} {i:Nat} (hc:eH md ops listed):∀ (fuel d:Nat),Region.fB md ops i fuel d = true→listed.getD d false = true→listed.getD i false = true
 | 0,_,h,_=>by simp [Region.fB] at h
 | fuel+1,d,h,hl=>by
  unfold Region.fB at h;cases ho:ops[d]? with
  | none=>rw [ho] at h;simp at h
  | some o =>
   rw [ho] at h;obtain ⟨e,he,h1⟩:=Array.any_eq_true'.1 h;simp only [Bool.and_eq_true,Bool.or_eq_true,beq_iff_eq] at h1;have hle:=hc d o ho hl e he h1.1;rcases h1.2 with h2 | h2
   ·rw [← h2];exact hle
   ·exact Region.iP hc fuel e.on h2 hle
theorem Region.jw {listed:Array Bool} {i d fuel:Nat} (hc:eH md ops listed) (hr:Region.fB md ops i fuel d = true) (hun:listed.getD i true = false):d ∉ Region.ready md ops listed:=by
 intro hd;obtain ⟨_,o,ho,hall⟩:=mem_ready.1 hd;have hi:listed.getD i false = true:=by
  cases fuel with
  | zero=>simp [Region.fB] at hr
  | succ n =>
   unfold Region.fB at hr;rw [ho] at hr;obtain ⟨e,he,h1⟩:=Array.any_eq_true'.1 hr;simp only [Bool.and_eq_true,Bool.or_eq_true,beq_iff_eq] at h1;have hle:=hall e he h1.1;rcases h1.2 with h2 | h2
   ·rw [← h2];exact hle
   ·exact Region.iP hc n e.on h2 hle
 rcases Nat.lt_or_ge i listed.size with h' | h'
 ·simp [h'] at hun hi
  rw [hun] at hi;cases hi
 ·simp [Array.getElem?_eq_none h'] at hun
def bq (P:Program) (md:Region.Mode) (ops:Array Oper) (Q:Exit→Act→World→Prop) (S:World→Prop) (ds:List Nat):Nat→Array Bool→Act→World→Prop
 | 0,listed,a,w=>Region.ready md ops listed = []∧Q .normal a w
 | fuel+1,listed,a,w =>
  (Region.ready md ops listed = []→Q .normal a w) ∧
  ∀ i∈Region.ready md ops listed,wpOp P ops Q i (fun a' w'=>(i ∉ ds→S w→S w')∧bq P md ops Q S ds fuel (listed.setIfInBounds i true) a' w') a w
theorem iz:∀ (fuel:Nat) (listed:Array Bool) (a:Act) (w:World),bq P md ops Q S ds fuel listed a w→wpAny P md ops Q fuel listed a w
 | 0,_,_,_,h=>h
 | fuel+1,_,_,_,h=>⟨h.1,fun i hi=>wpOp_mono (fun a' w' h'=>iz fuel _ a' w' h'.2) (h.2 i hi)⟩
theorem jx {i:Nat} {oi:Oper} {v:Value} (hi:ops[i]? = some oi) (hsel:∀ (j:Nat) (o:Oper) cs b,ops[j]? = some o→o.op ≠ .select cs b)
  (hQ:∀ c a w,Q (.panic c) (a.put oi.dst v) w→Q (.panic c) a w) (n:Nat) :
  ∀ (fuel:Nat) (listed:Array Bool) (a:Act) (w:World),
   (∀ j oj,ops[j]? = some oj→j≠i→listed.getD j true = false→(∀ e∈oj.after,Region.binds md e = true→e.on≠i)→oi.apart ops oj = true) →
   eH md ops listed→(∀ d∈ds,listed.getD d true = false→Region.fB md ops i n d = true) →
   i∈Region.ready md ops listed→YieldsIf P ops S oi v a→S w →
   bq P md ops Q S ds fuel (listed.setIfInBounds i true) (a.put oi.dst v) w→bq P md ops Q S ds (fuel+1) listed a w:=by
 intro fuel;induction fuel with
 | zero =>
  intro listed a w _ _ _ hr hy hS H;refine ⟨fun h=>(by rw [h] at hr;cases hr),fun j hj=>?_⟩;by_cases hji:j = i
  ·subst hji;exact hy.wpOp hi hS ⟨fun _ h=>h,H⟩
  ·have:=ready_mono hj hji
   rw [H.1] at this;cases this
 | succ fuel ih =>
  intro listed a w hfree hc hd hr hy hS H;refine ⟨fun h=>(by rw [h] at hr;cases hr),fun j hj=>?_⟩;by_cases hji:j = i
  ·subst hji;exact hy.wpOp hi hS ⟨fun _ h=>h,H⟩
  ·have h1:=H.2 j (ready_mono hj hji)
   obtain ⟨hjun,oj,hoj,hall⟩:=mem_ready.1 hj;have y:=(mem_ready.1 hr).1;have hnot:∀ e∈oj.after,Region.binds md e = true→e.on≠i:=fun e he hb heq=>by
    have h1:=hall e he hb;rw [heq] at h1;rcases Nat.lt_or_ge i listed.size with h' | h'
    ·simp [h'] at y h1;rw [y] at h1;cases h1
    ·simp [Array.getElem?_eq_none h'] at h1
   have hjd:j ∉ ds:=fun hm=>Region.jw hc (hd j hm hjun) y hj
   have h2:=wpOp_putIf hoj (hfree j oj hoj hji hjun hnot) (fun cs b=>hsel i oi cs b hi) (fun cs b=>hsel j oj cs b hoj) hQ hy h1;have hfree':∀ k ok,ops[k]? = some ok→k≠i→(listed.setIfInBounds j true).getD k true = false →
     (∀ e∈ok.after,Region.binds md e = true→e.on≠i)→oi.apart ops ok = true:=fun k ok hk hki hun hno=>by
    refine hfree k ok hk hki ?_ hno;by_cases hjk:j = k
    ·subst hjk;exact hjun
    ·rw [getD_set_ne true hjk] at hun;exact hun
   have hd':∀ d∈ds,(listed.setIfInBounds j true).getD d true = false→Region.fB md ops i n d = true:=fun d hm hun=>by
    refine hd d hm ?_;by_cases hjk:j = d
    ·subst hjk;exact hjun
    ·rw [getD_set_ne true hjk] at hun;exact hun
   refine wpOp_mono (fun a' w' h3=>⟨h3.2.1,ih (listed.setIfInBounds j true) a' w' hfree' (hc.set hj) hd' (ready_mono hr (Ne.symm hji)) h3.1 (h3.2.1 hjd hS) ?_⟩) h2;rw [Array.setIfInBounds_comm _ _ hji];exact h3.2.2
theorem ko {i:Nat} {oi:Oper} {v:Value} (hi:ops[i]? = some oi) (hsel:∀ (j:Nat) (o:Oper) cs b,ops[j]? = some o→o.op ≠ .select cs b)
  (hQ:∀ c a w,Q (.panic c) (a.put oi.dst v) w→Q (.panic c) a w) :
  ∀ (fuel:Nat) (listed:Array Bool) (a:Act) (w:World),
   (∀ j oj,ops[j]? = some oj→j≠i→listed.getD j true = false→(∀ e∈oj.after,Region.binds md e = true→e.on≠i)→oi.apart ops oj = true) →
   i∈Region.ready md ops listed→Yields P ops oi v a →
   bq P md ops Q S ds fuel (listed.setIfInBounds i true) (a.put oi.dst v) w→bq P md ops Q S ds (fuel+1) listed a w:=by
 intro fuel;induction fuel with
 | zero =>
  intro listed a w _ hr hy H;refine ⟨fun h=>(by rw [h] at hr;cases hr),fun j hj=>?_⟩;by_cases hji:j = i
  ·subst hji;exact (hy.yieldsIf (S:=fun _=>True)).wpOp hi trivial ⟨fun _ h=>h,H⟩
  ·have:=ready_mono hj hji
   rw [H.1] at this;cases this
 | succ fuel ih =>
  intro listed a w hfree hr hy H;refine ⟨fun h=>(by rw [h] at hr;cases hr),fun j hj=>?_⟩;by_cases hji:j = i
  ·subst hji;exact (hy.yieldsIf (S:=fun _=>True)).wpOp hi trivial ⟨fun _ h=>h,H⟩
  ·have h1:=H.2 j (ready_mono hj hji)
   obtain ⟨hjun,oj,hoj,hall⟩:=mem_ready.1 hj;have y:=(mem_ready.1 hr).1;have hnot:∀ e∈oj.after,Region.binds md e = true→e.on≠i:=fun e he hb heq=>by
    have h1:=hall e he hb;rw [heq] at h1;rcases Nat.lt_or_ge i listed.size with h' | h'
    ·simp [h'] at y h1;rw [y] at h1;cases h1
    ·simp [Array.getElem?_eq_none h'] at h1
   have h2:=wpOp_put hoj (hfree j oj hoj hji hjun hnot) (fun cs b=>hsel i oi cs b hi) (fun cs b=>hsel j oj cs b hoj) hQ hy h1;have hfree':∀ k ok,ops[k]? = some ok→k≠i→(listed.setIfInBounds j true).getD k true = false →
     (∀ e∈ok.after,Region.binds md e = true→e.on≠i)→oi.apart ops ok = true:=fun k ok hk hki hun hno=>by
    refine hfree k ok hk hki ?_ hno;by_cases hjk:j = k
    ·subst hjk;exact hjun
    ·rw [getD_set_ne true hjk] at hun;exact hun
   refine wpOp_mono (fun a' w' h3=>⟨h3.2.1,ih (listed.setIfInBounds j true) a' w' hfree' (ready_mono hr (Ne.symm hji)) h3.1 ?_⟩) h2;rw [Array.setIfInBounds_comm _ _ hji];exact h3.2.2
theorem jO {i:Nat} {oi:Oper} {v:Value} {fuel:Nat} {listed:Array Bool} {a:Act} {w:World} (hi:ops[i]? = some oi)
  (hs:Region.noSelect ops = true) (hf:Region.free md ops listed i = true) (hr:(Region.ready md ops listed).contains i = true)
  (hc:Region.iO md ops listed = true) (hl:Region.nj md ops listed ds i = true)
  (hQ:∀ c a w,Q (.panic c) (a.put oi.dst v) w→Q (.panic c) a w) (hy:YieldsIf P ops S oi v a) (hS:S w)
  (h:bq P md ops Q S ds fuel (listed.setIfInBounds i true) (a.put oi.dst v) w):bq P md ops Q S ds (fuel+1) listed a w :=
 jx hi (Region.noSelect_spec hs) hQ ops.size fuel listed a w (Region.free_spec hi hf) (Region.kZ hc)
  (fun d hm hun=>by have:=List.all_eq_true.1 hl d hm;rw [hun] at this;simpa using this) (by simpa using hr) hy hS h
theorem kr {rs:List Nat} {fuel:Nat} {listed:Array Bool} {a:Act} {w:World} (hr:Region.ready md ops listed = rs) (hne:rs≠[])
  (h:∀ i∈rs,wpOp P ops Q i (fun a' w'=>(i ∉ ds→S w→S w')∧bq P md ops Q S ds fuel (listed.setIfInBounds i true) a' w') a w):bq P md ops Q S ds (fuel+1) listed a w :=
 ⟨fun j=>absurd (hr ▸ j) hne,hr ▸ h⟩
theorem jP {listed:Array Bool} {a:Act} {w:World} (hr:Region.ready md ops listed = []) (h:Q .normal a w) :
  ∀ fuel,bq P md ops Q S ds fuel listed a w
 | 0=>⟨hr,h⟩
 | _+1=>⟨fun _=>h,by rw [hr];simp⟩
theorem jQ {id:Nat} {a:Act} {w:World} (hm:P.follows .mixedOrders = true)
  (h:bq P .any ops Q S ds ops.size (Array.replicate ops.size false) a { w with drawn:=w.drawn+1 }):(Code.region id ops true).wp P Q a w :=
 wp_region_any hm (iz _ _ _ _ h)
end
section
variable {P:Program} {ops:Array Oper} {Q:Exit→Act→World→Prop} {md:Region.Mode} {S:World→Prop} {ds:List Nat}
def cZ (P:Program) (md:Region.Mode) (ops:Array Oper) (Q:Exit→Act→World→Prop) (S:World→Prop) (ds:List Nat) (fuel:Nat) (listed:Array Bool) (a:Act) (w:World) (rs:List Nat):Prop :=
 ∀ i∈rs,wpOp P ops Q i (fun a' w'=>(i ∉ ds→S w→S w')∧bq P md ops Q S ds fuel (listed.setIfInBounds i true) a' w') a w
theorem cZ.nil {fuel:Nat} {listed:Array Bool} {a:Act} {w:World}:cZ P md ops Q S ds fuel listed a w []:=fun _ h=>by cases h
theorem cZ.cons {fuel:Nat} {listed:Array Bool} {a:Act} {w:World} {i:Nat} {o:Oper} {rs:List Nat} (ho:ops[i]? = some o) (hd:i ∉ ds)
  (h:∀ K':Act→World→Prop,Shut (∀ a w,S w→(S w→bq P md ops Q S ds fuel (listed.setIfInBounds i true) a w)→K' a w)→if Region.wanted o (yielded ops a.tmps) = true then Oper.wp P o a w K' Q else K' (a.put o.dst undef) w)
  (hs:cZ P md ops Q S ds fuel listed a w rs):cZ P md ops Q S ds fuel listed a w (i :: rs):=fun j hj=>by
 rcases List.mem_cons.1 hj with rfl | hj
 ·exact wpOp_step ho (fun K' hK=>h K' (fun a w hS hW=>hK a w ⟨fun _ _=>hS,hW hS⟩))
 ·exact hs j hj
theorem cZ.nT {fuel:Nat} {listed:Array Bool} {a:Act} {w:World} {i:Nat} {o:Oper} {rs:List Nat} (ho:ops[i]? = some o) (hd:i∈ds)
  (h:∀ K':Act→World→Prop,Shut (∀ a w,bq P md ops Q S ds fuel (listed.setIfInBounds i true) a w→K' a w)→if Region.wanted o (yielded ops a.tmps) = true then Oper.wp P o a w K' Q else K' (a.put o.dst undef) w)
  (hs:cZ P md ops Q S ds fuel listed a w rs):cZ P md ops Q S ds fuel listed a w (i :: rs):=fun j hj=>by
 rcases List.mem_cons.1 hj with rfl | hj
 ·exact wpOp_step ho (fun K' hK=>h K' (fun a w hW=>hK a w ⟨fun hn=>absurd hd hn,hW⟩))
 ·exact hs j hj
theorem eZ {rs:List Nat} {fuel:Nat} {listed:Array Bool} {a:Act} {w:World} (hr:Region.ready md ops listed = rs) (hne:rs≠[])
  (h:cZ P md ops Q S ds fuel listed a w rs):bq P md ops Q S ds (fuel+1) listed a w:=kr hr hne h
theorem eL {id n:Nat} {a:Act} {w:World} (l:Array Bool) (hm:P.follows .mixedOrders = true) (hn:ops.size = n) (hl:Array.replicate n false = l) (hS:S w.drew)
  (h:S w.drew→bq P .any ops Q S ds n l a w.drew):(Code.region id ops true).wp P Q a w:=by
 subst hn;subst hl;exact jQ hm (h hS)
def lU (md:Region.Mode) (ops:Array Oper) (ds:List Nat) (l l':Array Bool) (i:Nat):Bool :=
 Region.noSelect ops && Region.free md ops l i && (Region.ready md ops l).contains i && Region.iO md ops l && Region.nj md ops l ds i && (l.setIfInBounds i true == l')
theorem jK {i:Nat} {N:Option Tmp} {oi:Oper} {v:Value} {fuel:Nat} {l:Array Bool} {a:Act} {w:World} (l':Array Bool) (hi:ops[i]? = some oi) (hN:oi.dst = N) (hc:lU md ops ds l l' i = true)
  (hQ:∀ c a w,Q (.panic c) (a.put oi.dst v) w→Q (.panic c) a w) (hy:YieldsIf P ops S oi v a) (hS:S w) {a':Act} (ha:a.put N v = a')
  (h:bq P md ops Q S ds fuel l' a' w):bq P md ops Q S ds (fuel+1) l a w:=by
 subst ha;subst hN;simp only [lU,Bool.and_eq_true,beq_iff_eq] at hc;obtain ⟨⟨⟨⟨⟨h1,h2⟩,h3⟩,h4⟩,h5⟩,j⟩:=hc;subst j;exact jO hi h1 h2 h3 h4 h5 hQ hy hS h
def qd (md:Region.Mode) (ops:Array Oper) (l l':Array Bool) (i:Nat):Bool :=
 Region.noSelect ops && Region.free md ops l i && (Region.ready md ops l).contains i && (l.setIfInBounds i true == l')
theorem eu {i:Nat} {N:Option Tmp} {oi:Oper} {v:Value} {fuel:Nat} {l:Array Bool} {a:Act} {w:World} (l':Array Bool) (hi:ops[i]? = some oi) (hN:oi.dst = N) (hc:qd md ops l l' i = true)
  (hQ:∀ c a w,Q (.panic c) (a.put oi.dst v) w→Q (.panic c) a w) (hy:Yields P ops oi v a) {a':Act} (ha:a.put N v = a')
  (h:bq P md ops Q S ds fuel l' a' w):bq P md ops Q S ds (fuel+1) l a w:=by
 subst ha;subst hN;simp only [qd,Bool.and_eq_true,beq_iff_eq] at hc;obtain ⟨⟨⟨h1,h2⟩,h3⟩,j⟩:=hc;subst j;exact ko hi (Region.noSelect_spec h1) hQ fuel l a w (Region.free_spec hi h2) (by simpa using h3) hy h
def jb (md:Region.Mode) (ops:Array Oper) (l l':Array Bool) (i:Nat):Bool:=(Region.ready md ops l == [i]) && (l.setIfInBounds i true == l')
theorem ff {i:Nat} {N:Option Tmp} {oi:Oper} {fuel:Nat} {l:Array Bool} {a:Act} {w:World} (l':Array Bool) (hi:ops[i]? = some oi) (hN:oi.dst = N) (hc:jb md ops l l' i = true) (hd:i ∉ ds)
  (h:∀ K:Act→World→Prop,Shut (∀ a' w',S w'→(S w'→bq P md ops Q S ds fuel l' a' w')→K a' w')→if Region.wanted oi (yielded ops a.tmps) = true then Oper.wp P oi a w K Q else K (a.put N undef) w) :
  bq P md ops Q S ds (fuel+1) l a w:=by
 subst hN;simp only [jb,Bool.and_eq_true,beq_iff_eq] at hc;obtain ⟨h1,h2⟩:=hc;subst h2;exact eZ h1 (by simp) (cZ.cons hi hd (fun K hK=>h K hK) cZ.nil)
theorem sg {i:Nat} {N:Option Tmp} {oi:Oper} {fuel:Nat} {l:Array Bool} {a:Act} {w:World} (l':Array Bool) (hi:ops[i]? = some oi) (hN:oi.dst = N) (hc:jb md ops l l' i = true) (hd:i∈ds)
  (h:∀ K:Act→World→Prop,Shut (∀ a' w',bq P md ops Q S ds fuel l' a' w'→K a' w')→if Region.wanted oi (yielded ops a.tmps) = true then Oper.wp P oi a w K Q else K (a.put N undef) w) :
  bq P md ops Q S ds (fuel+1) l a w:=by
 subst hN;simp only [jb,Bool.and_eq_true,beq_iff_eq] at hc;obtain ⟨h1,h2⟩:=hc;subst h2;exact eZ h1 (by simp) (cZ.nT hi hd (fun K hK=>h K hK) cZ.nil)
theorem fm {l:Array Bool} {a:Act} {w:World} {n:Nat} (hr:(Region.ready md ops l == []) = true) (h:Q .normal a w):bq P md ops Q S ds n l a w:=jP (by simpa using hr) h n
theorem nU {i j:Nat} {Ni Nj:Option Tmp} {oi oj:Oper} {fuel:Nat} {l:Array Bool} {a:Act} {w:World} (li lj:Array Bool) (hi:ops[i]? = some oi) (hj:ops[j]? = some oj) (hNi:oi.dst = Ni) (y:oj.dst = Nj)
  (hc:(Region.ready md ops l == [i,j] && l.setIfInBounds i true == li && l.setIfInBounds j true == lj) = true) (hdi:i ∉ ds) (hdj:j ∉ ds)
  (h1:∀ K:Act→World→Prop,Shut (∀ a' w',S w'→(S w'→bq P md ops Q S ds fuel li a' w')→K a' w')→if Region.wanted oi (yielded ops a.tmps) = true then Oper.wp P oi a w K Q else K (a.put Ni undef) w)
  (h2:∀ K:Act→World→Prop,Shut (∀ a' w',S w'→(S w'→bq P md ops Q S ds fuel lj a' w')→K a' w')→if Region.wanted oj (yielded ops a.tmps) = true then Oper.wp P oj a w K Q else K (a.put Nj undef) w) :
  bq P md ops Q S ds (fuel+1) l a w:=by
 subst hNi;subst y;simp only [Bool.and_eq_true,beq_iff_eq] at hc;obtain ⟨⟨h3,h4⟩,h5⟩:=hc;subst h4;subst h5;exact eZ h3 (by simp) (cZ.cons hi hdi (fun K hK=>h1 K hK) (cZ.cons hj hdj (fun K hK=>h2 K hK) cZ.nil))
theorem ru {i j k:Nat} {Ni Nj Nk:Option Tmp} {oi oj ok:Oper} {fuel:Nat} {l:Array Bool} {a:Act} {w:World} (li lj lk:Array Bool) (hi:ops[i]? = some oi) (hj:ops[j]? = some oj) (hk:ops[k]? = some ok) (hNi:oi.dst = Ni) (y:oj.dst = Nj) (z:ok.dst = Nk)
  (hc:(Region.ready md ops l == [i,j,k] && l.setIfInBounds i true == li && l.setIfInBounds j true == lj && l.setIfInBounds k true == lk) = true) (hdi:i ∉ ds) (hdj:j ∉ ds) (hdk:k ∉ ds)
  (h1:∀ K:Act→World→Prop,Shut (∀ a' w',S w'→(S w'→bq P md ops Q S ds fuel li a' w')→K a' w')→if Region.wanted oi (yielded ops a.tmps) = true then Oper.wp P oi a w K Q else K (a.put Ni undef) w)
  (h2:∀ K:Act→World→Prop,Shut (∀ a' w',S w'→(S w'→bq P md ops Q S ds fuel lj a' w')→K a' w')→if Region.wanted oj (yielded ops a.tmps) = true then Oper.wp P oj a w K Q else K (a.put Nj undef) w)
  (h3:∀ K:Act→World→Prop,Shut (∀ a' w',S w'→(S w'→bq P md ops Q S ds fuel lk a' w')→K a' w')→if Region.wanted ok (yielded ops a.tmps) = true then Oper.wp P ok a w K Q else K (a.put Nk undef) w) :
  bq P md ops Q S ds (fuel+1) l a w:=by
 subst hNi;subst y;subst z;simp only [Bool.and_eq_true,beq_iff_eq] at hc;obtain ⟨⟨⟨h4,h5⟩,I⟩,J⟩:=hc;subst h5;subst I;subst J;exact eZ h4 (by simp) (cZ.cons hi hdi (fun K hK=>h1 K hK) (cZ.cons hj hdj (fun K hK=>h2 K hK) (cZ.cons hk hdk (fun K hK=>h3 K hK) cZ.nil)))
def cE:Act→List (Tmp×Value)→Act
 | a,[]=>a
 | a,(n,v) :: r=>cE (a.put (some n) v) r
theorem iA {σ:Type} {fuel:Nat} {l:Array Bool} {a:Act} {w:World} (fuel':Nat) (l':Array Bool) (ns:σ→List (Tmp×Value)) (F:σ→World→Prop)
  (hcont:∀ s w',F s w'→bq P md ops Q S ds fuel' l' (cE a (ns s)) w')
  (h:(∀ s w',F s w'→bq P md ops Q S ds fuel' l' (cE a (ns s)) w')→bq P md ops Q S ds fuel l a w):bq P md ops Q S ds fuel l a w:=h hcont
theorem bX {fuel:Nat} {l:Array Bool} {a a':Act} {w:World} (ha:a = a') (h:bq P md ops Q S ds fuel l a' w):bq P md ops Q S ds fuel l a w:=by
 subst ha;exact h
theorem si {oi:Oper} {N:Option Tmp} {a:Act} {w:World} {K:Act→World→Prop} (f:FuncId) (args:Array Value) (hw:Region.wanted oi (yielded ops a.tmps) = true) (hN:oi.dst = N) (hrun:(execOp a.eval oi).run P w = .ok (.enter f args) w)
  (h:Calls P f args w fun e w'=>∃ v,e = .returned v∧K (a.put N v) w'):if Region.wanted oi (yielded ops a.tmps) = true then Oper.wp P oi a w K Q else K (a.put N undef) w:=by
 rw [if_pos hw];subst hN;unfold Oper.wp;rw [hrun,Oper.upon_enter];refine h.mono fun e w'' hh=>?_
 obtain ⟨v,rfl,hk⟩:=hh;exact hk
theorem iQ {f:FuncId} {fn:Func} (hf:P.funcs[f]? = some fn) (hname:(fn.name == "runtime.NumGoroutine") = false) (hb:fn.body.isSome = true) (args:Array Value) (w:World):(callFunc f args).run P w = .ok (.enter f args) w:=by
 have h1:fn.name ≠ "runtime.NumGoroutine" := by simpa using hname
 obtain ⟨c,hc⟩:=Option.isSome_iff_exists.1 hb;simp [callFunc,hf,h1,hc]
theorem jR {oi:Oper} {N:Option Tmp} {a:Act} {w:World} {K:Act→World→Prop} {f:FuncId} {fn:Func} {as_q:Array Operand} {ts:Array TypeId} (hf:P.funcs[f]? = some fn) (hname:(fn.name == "runtime.NumGoroutine") = false) (hb:fn.body.isSome = true) (args:Array Value)
  (hw:Region.wanted oi (yielded ops a.tmps) = true) (hN:oi.dst = N) (hop:oi.op = .call { callee:=.value (.func f),args:=as_q,argTypes:=ts }) (hargs:as_q.map a.eval = args)
  (h:Calls P f args w fun e w'=>∃ v,e = .returned v∧K (a.put N v) w'):if Region.wanted oi (yielded ops a.tmps) = true then Oper.wp P oi a w K Q else K (a.put N undef) w:=by
 refine si f args hw hN ?_ h;have he:=iQ hf hname hb args w;unfold execOp;simp [hop,resolve,Deferred.ofValue,invoke,Act.eval,hargs,he]
theorem mH {rest:List Oper} {oi:Oper} {a:Act} {w:World} (N:Option Tmp) (hd:oi.dst = N) (hg:oi.guard = none) {f:FuncId} {fn:Func} {as_q:Array Operand} {ts:Array TypeId} (hf:P.funcs[f]? = some fn) (hname:(fn.name == "runtime.NumGoroutine") = false) (hb:fn.body.isSome = true) (args:Array Value)
  (hop:oi.op = .call { callee:=.value (.func f),args:=as_q,argTypes:=ts }) (hargs:as_q.map a.eval = args)
  (h:Calls P f args w fun e w'=>∃ v,e = .returned v∧wpList P ops Q rest (a.put N v) w'):wpList P ops Q (oi :: rest) a w:=by
 refine wpList_plain hg fun K hK=>?_
 have he:=iQ hf hname hb args w;have hrun:(execOp a.eval oi).run P w = .ok (.enter f args) w:=by
  unfold execOp;simp [hop,resolve,Deferred.ofValue,invoke,Act.eval,hargs,he]
 unfold Oper.wp;rw [hrun,Oper.upon_enter];refine h.mono fun e w'' hh=>?_
 obtain ⟨v,rfl,hk⟩:=hh;subst hd;exact hK _ _ hk
theorem mI {oi:Oper} {N:Option Tmp} {a:Act} {w w1:World} {v:Value} {K:Act→World→Prop} (hw:Region.wanted oi (yielded ops a.tmps) = true) (hN:oi.dst = N) (hrun:(execOp a.eval oi).run P w = .ok (.value v) w1)
  (h:K (a.put N v) w1):if Region.wanted oi (yielded ops a.tmps) = true then Oper.wp P oi a w K Q else K (a.put N undef) w:=by
 rw [if_pos hw];subst hN;unfold Oper.wp;rw [hrun];exact h
theorem nk {oi:Oper} {a:Act} {w w1:World} {K:Act→World→Prop} (hw:Region.wanted oi (yielded ops a.tmps) = true) (hN:oi.dst = none) (hrun:(execOp a.eval oi).run P w = .ok .skip w1)
  (h:K a w1):if Region.wanted oi (yielded ops a.tmps) = true then Oper.wp P oi a w K Q else K (a.put none undef) w:=by
 rw [if_pos hw];unfold Oper.wp;rw [hrun];show K (a.put oi.dst undef) w1;rw [hN];exact h
theorem bw (n:Int):IntKind.i64.wrap n = Go.RowKit.wrap64 n:=by unfold Go.RowKit.wrap64;exact IntKind.wrap_i64 n
theorem bR (n:Int):IntKind.i32.wrap n = Go.RowKit.wrap32 n:=by unfold Go.RowKit.wrap32;exact IntKind.wrap_i32 n
end
end Go.Proofs.ag.cz
end
section
namespace Go.Proofs.ag.b6
open Go.RowKit
namespace Kd
def tag {α:Type} (f:Nat→Nat) (d:Kd α):Kd (α×Nat) where
 sz:=d.sz
 E:=d.E
 K:=fun w x cs=>d.K w x.1 cs
 M:=fun w base ok x cs=>d.M w base (fun k=>ok k∧f k = x.2) x.1 cs
 K_len:=fun h=>d.K_len h
 K_one:=fun h=>d.K_one h
 K_below:=fun hb h=>d.K_below hb h
 K_of_M:=fun h=>d.K_of_M h
 M_mono:=fun hok h=>d.M_mono (fun k hk=>⟨hok k hk.1,hk.2⟩) h
 M_bound:=fun h=>d.M_mono (fun _ hk=>⟨⟨hk.1.1,hk.2⟩,hk.1.2⟩) (d.M_bound h)
 M_move:=fun hm h=>d.M_move (fun k hk=>hm k hk.1) h
 M_lower:=fun hb h=>d.M_lower hb h
def bare {α:Type} (d:Kd α):Kd α where
 sz:=d.sz
 E:=d.E
 K:=d.K
 M:=fun w base _ x cs=>d.M w base (fun _=>False) x cs
 K_len:=fun h=>d.K_len h
 K_one:=fun h=>d.K_one h
 K_below:=fun hb h=>d.K_below hb h
 K_of_M:=fun h=>d.K_of_M h
 M_mono:=fun _ h=>h
 M_bound:=fun h=>h
 M_move:=fun _ h=>d.M_move (fun _ hk=>hk.elim) h
 M_lower:=fun hb h=>d.M_lower hb h
def raw (sz:Nat):Kd (List Value) where
 sz:=sz
 E:=[]
 K:=fun _ x cs=>cs = x∧cs.length = sz∧∀ u∈cs,u.oneCell' = true
 M:=fun _ _ _ x cs=>cs = x∧cs.length = sz∧∀ u∈cs,u.oneCell' = true
 K_len:=fun h=>h.2.1
 K_one:=fun h=>h.2.2
 K_below:=fun _ h=>h
 K_of_M:=fun h=>h
 M_mono:=fun _ h=>h
 M_bound:=fun h=>h
 M_move:=fun _ h=>h
 M_lower:=fun _ h=>h
def S {α:Type} (d:Kd α) (e:Nat) (w:World) (base:Nat) (ok:Nat→Prop) (v:Value) (xs:List α):Prop:=∃ f,(tag f d).R e w base ok v xs.zipIdx
section
variable {α β:Type} {d:Kd α} {d':Kd β} {e e':Nat} {w w1 W:World} {base b:Nat} {ok ok' okv oku:Nat→Prop} {u v:Value} {xs:List α} {ys:List β}
theorem ry {xs:List α} {j:Nat} {p:α} (h:xs[j]? = some p):xs.zipIdx[j]? = some (p,j):=by rw [List.getElem?_zipIdx,h,Nat.zero_add];rfl
theorem sE (h:S d e w base ok v xs):d.R e w base ok v xs:=by
 obtain ⟨f,y,inner,ho,hr⟩:=h;rw [List.length_zipIdx] at ho;exact ⟨y,inner,ho,by have:=hr.1;rw [List.length_zipIdx] at this;exact this,fun j p hj=>d.M_mono (fun _ hk=>hk.1) (hr.2 j (p,j) (ry hj))⟩
theorem rz {ad:Addr} {n cap:Nat} (h:d.R e w base ok (.slice (some ad) n cap) xs):∃ g,ad = ⟨g,0,none⟩:=by
 obtain ⟨_,inner,ho,hr⟩:=h;rcases ho.2 with ⟨hv,_⟩ | ⟨g,cap',cur,hv,_⟩
 ·cases hv
 ·injection hv with ha _ _
  injection ha with ha
  exact ⟨g,ha⟩
theorem gT (hE:d.E = []) (h:d.R e w base ok v xs):d.R e w base (fun k=>some k = v.ownBlock) v xs:=by
 obtain ⟨j,inner,ho,hr⟩:=h;refine ⟨fun k hk=>hk.symm,inner,ho,hr.gx (fun p c hp=>d.M_mono (fun k hk=>?_) (d.M_bound hp))⟩;obtain ⟨_,_,_,q,hq,_⟩:=hk;rw [hE] at hq;cases hq
theorem qQ (d:Kd α) (e:Nat) (w:World) (base:Nat) (ok:Nat→Prop):S d e w base ok (.slice none 0 0) []:=⟨fun _=>0,jq _ _ _ _ _⟩
theorem fC (h:S d e w base ok v xs) (hok:∀ k,ok k→ok' k):S d e w base ok' v xs:=by
 obtain ⟨f,h⟩:=h;exact ⟨f,aX h hok⟩
theorem l5 (h:S d e w base ok v xs):S d e w base (fun k=>ok k∧base≤k∧k < w.heap.size∧∃ q,q∈e :: d.E∧∃ cells,w.heap[k]? = some (.cells cells q (0,0))) v xs:=by
 obtain ⟨f,h⟩:=h;exact ⟨f,eY h⟩
theorem rA (h:S d e w base ok v xs) (hm:∀ k,ok k→w1.heap[k]? = w.heap[k]?):S d e w1 base ok v xs:=by
 obtain ⟨f,h⟩:=h;exact ⟨f,j8 h hm⟩
theorem qe {base':Nat} (h:S d e w base ok v xs) (hb:base'≤base):S d e w base' ok v xs:=by
 obtain ⟨f,h⟩:=h;exact ⟨f,bD h hb⟩
theorem oM (h:S d e w base ok v xs) (hm:∀ k,ok k→k < w.heap.size→w1.heap[k]? = w.heap[k]?):S d e w1 base ok v xs :=
 fC (rA (l5 h) (fun k hk=>hm k hk.1 hk.2.2.1)) (fun _ hk=>hk.1)
theorem gA (h:S d e w base ok v xs) (hb:Below w.heap.size w w1):S d e w1 base ok v xs:=oM h (fun k _ hk=>hb.block k hk)
theorem qf (h:S d e w base ok v xs) (o:Obj):S d e (w.alloc o) base ok v xs:=gA h (dm (Below.refl _ _) o)
theorem rB (h:S d e w base ok v xs):S d e w.drew base ok v xs:=gA h (fJ (Below.refl _ _))
theorem qg (h:S d e w base ok v xs) (m:Nat):S d e (w.drewN m) base ok v xs:=gA h (cM (Below.refl _ _) m)
theorem oN (h:S d e w base ok v xs) {p:Addr} (hok:∀ k,ok k→k≠p.block) (u:Value):S d e (w.setCell p u) base ok v xs:=oM h (fun k ho _=>Below.heap_setCell w p u k (hok k ho))
theorem jA (h:S d e w base ok v xs):∀ k,v.ownBlock = some k→∃ cells,w.heap[k]? = some (.cells cells e (0,0)):=ni (sE h)
theorem rC (h:S d e w base ok v xs):∀ k,v.ownBlock = some k→base≤k:=bQ (sE h)
theorem rD (h:S d e w1 W.heap.size ok v xs) (hlt:∀ k,u.ownBlock = some k→k < W.heap.size):S d e w1 W.heap.size (fun k=>ok k∧some k≠u.ownBlock) v xs:=by
 obtain ⟨f,h⟩:=h;exact ⟨f,dj h hlt⟩
theorem qh {v1:Value} (h:S d e W base (fun k=>ok k∧some k≠v.ownBlock) u xs) (hg:W.grownBy w1 v.ownBlock) (hat:v1.ownBlock = v.ownBlock∨∃ b,v1.ownBlock = some b∧W.heap.size≤b):S d e w1 base (fun k=>ok k∧some k≠v1.ownBlock) u xs:=by
 obtain ⟨f,h⟩:=h;exact ⟨f,dV h hg hat⟩
theorem rE (h:(bare d).R e w base ok v xs):S d e w base ok v xs:=by
 obtain ⟨y,inner,ho,hr⟩:=h;refine ⟨fun _=>0,y,inner,by rw [List.length_zipIdx];exact ho,by rw [List.length_zipIdx];exact hr.1,fun j p hj=>?_⟩;rw [List.getElem?_zipIdx,Nat.zero_add] at hj;obtain ⟨x,hx,rfl⟩:=Option.map_eq_some_iff.1 hj;exact d.M_mono (fun _ hk=>hk.elim) (hr.2 j x hx)
theorem sj {f f':Nat→Nat} {zs:List (α×Nat)} (h:(tag f d).R e w base ok v zs) (hf:∀ k,ok k→k < w.heap.size→f' k = f k):(tag f' d).R e w base ok v zs:=by
 obtain ⟨y,inner,ho,hr⟩:=eY h;exact ⟨fun k hk=>(y k hk).1,inner,ho,hr.1,fun j p hj=>d.M_mono (fun k hk=>⟨⟨hk.1.1.1,hk.1.2⟩,(hf k hk.1.1.1 hk.1.1.2.2.1).trans hk.2⟩) (hr.2 j p hj)⟩
end
section
variable {α β:Type} {d:Kd α} {d':Kd β} {e e' g:Nat} {w w1 W:World} {base b:Nat} {ok ok' okv oku:Nat→Prop} {u v:Value} {xs:List α} {ys:List β}
theorem rF (h:S d e w base ok v xs) (hok:∀ k,ok k→k≠g):some g≠v.ownBlock:=r6 (sE h) hok
theorem oO (h:S d e w base ok v xs) (a:Nat) (ha:w.heap.size≤a):S d e w base (fun k=>ok k∧k≠a) v xs:=fC (l5 h) (fun k hk=>⟨hk.1,by have:=hk.2.2.1;omega⟩)
theorem oP (xs:List α) (p:α):(xs ++ [p]).zipIdx = xs.zipIdx ++ [(p,xs.length)]:=by rw [List.zipIdx_append];simp
end
section
open Classical in
theorem sk {α:Type} {d:Kd α} {e base:Nat} {okv:Nat→Prop} {w:World} {v:Value} {xs:List α} (h:S d e w base okv v xs) (m:Nat) (okp:Nat→Prop) (hap:∀ k,okp k→¬ okv k):∃ f,(∀ k,okp k→f k = m)∧(tag f d).R e w base okv v xs.zipIdx:=by
 obtain ⟨f,h⟩:=h;exact ⟨fun k=>if okp k then m else f k,fun k hk=>if_pos hk,sj h (fun k hk _=>if_neg (fun h2=>hap k h2 hk))⟩
variable {P:Program} {ops:Array Oper} {rest:List Oper} {o:Oper} {a:Act} {Q:Exit→Act→World→Prop} {Kc:Act→World→Prop} {α:Type}
theorem oQ (d:Kd α) {w0 W:World} (base:Nat) (hgd:o.guard = none) (s x:Operand) (t e:TypeId) (z:Value) (bytes:Nat)
  (ho:o.op = .call { callee:=.builtin .append,args:=#[s,x],argTypes:=#[t,t] })
  (ht:P.underlying t = some (.slice e)) (hinfo:(P.info? e).map (fun i=>(i.zero,i.size,i.bytes)) = some (some z,d.sz,bytes)) (hz:z.cells.size = d.sz) (y:0 < d.sz) (I:0 < bytes)
  (v:Value) (xs:List α) (p:α) (cs:List Value) (ok okp:Nat→Prop) (hs:a.eval s = v) (hx:a.eval x = .slice (some ⟨W.heap.size,0,none⟩) 1 1) (hp:d.M W base okp p cs) (j:∀ k,okp k→ok k∧some k≠v.ownBlock) (hfresh:∀ k,W.heap.size≤k→ok k)
  (HO:S d e W base (fun k=>ok k∧¬ okp k) v xs) (HB:Below base w0 W) (hbase:base≤W.heap.size) (hl:(xs.length+1) * bytes≤140737488355328)
  (h:∀ v1 w1,S d e w1 base ok v1 (xs ++ [p])→Below base w0 w1→W.grownBy w1 v.ownBlock→(v1.ownBlock = v.ownBlock∨∃ b,v1.ownBlock = some b∧W.heap.size≤b)→wpList P ops Q rest (a.put o.dst v1) w1) :
  wpList P ops Q (o :: rest) a (W.alloc (.cells cs.toArray e)):=by
 obtain ⟨f,hf,hR⟩:=sk HO xs.length okp (fun _ hk h2=>h2.2 hk);refine eO (tag f d) base hgd s x t e z bytes ho ht hinfo hz y I v xs.zipIdx (p,xs.length) cs ok okp hs hx (d.M_mono (fun k hk=>⟨hk,hf k hk⟩) hp) j hfresh (aX hR (fun _ hk=>hk.1)) HB hbase (by rw [List.length_zipIdx];exact hl) ?_;intro v1 w1 hr;rw [← oP] at hr;exact h v1 w1 ⟨f,hr⟩
theorem sn (d:Kd α) {w0 W:World} (base e:Nat) (hgd:o.guard = none) {N:Tmp} (_hd:o.dst = some N) {xs:List α} {inner:List Value} {ok okp:Nat→Prop}
  (hrun:(execOp a.eval o).run P W = .ok (.value (.slice (some ⟨W.heap.size,0,none⟩) xs.length xs.length)) (W.alloc (.cells inner.toArray e)))
  (hrep:ck (d.M W base (fun _=>False)) d.sz xs inner) (_hok:∀ k,okp k→ok k) (hfresh:ok W.heap.size) (HB:Below base w0 W) (hbase:base≤W.heap.size) (hm:xs.length≤9223372036854775807)
  (h:∀ v1 w1,S d e w1 base ok v1 xs→Below base w0 w1→W.grownBy w1 none→(∃ b,v1.ownBlock = some b∧W.heap.size≤b)→wpList P ops Q rest (a.put o.dst v1) w1):wpList P ops Q (o :: rest) a W :=
 nh (bare d) base e hgd _hd (ok:=ok) (okp:=ok) hrun hrep (fun _ hk=>hk) hfresh HB hbase hm (fun v1 w1 hr=>h v1 w1 (rE hr))
end
def sU {α:Type} (f:Nat→Nat) (d:Kd α) (i:Nat) (c:List Value):Kd (α×Nat) where
 sz:=d.sz
 E:=d.E
 K:=fun w x cs=>(x.2 = i→cs = c∧cs.length = d.sz∧∀ u∈cs,u.oneCell' = true)∧(x.2≠i→d.K w x.1 cs)
 M:=fun w base ok x cs=>(x.2 = i→cs = c∧cs.length = d.sz∧∀ u∈cs,u.oneCell' = true)∧(x.2≠i→d.M w base (fun k=>ok k∧f k = x.2) x.1 cs)
 K_len:=fun {w x cs} h=>by
  by_cases hx:x.2 = i
  ·exact (h.1 hx).2.1
  ·exact d.K_len (h.2 hx)
 K_one:=fun {w x cs} h=>by
  by_cases hx:x.2 = i
  ·exact (h.1 hx).2.2
  ·exact d.K_one (h.2 hx)
 K_below:=fun hb h=>⟨h.1,fun hx=>d.K_below hb (h.2 hx)⟩
 K_of_M:=fun h=>⟨h.1,fun hx=>d.K_of_M (h.2 hx)⟩
 M_mono:=fun hok h=>⟨h.1,fun hx=>d.M_mono (fun k hk=>⟨hok k hk.1,hk.2⟩) (h.2 hx)⟩
 M_bound:=fun h=>⟨h.1,fun hx=>d.M_mono (fun _ hk=>⟨⟨hk.1.1,hk.2⟩,hk.1.2⟩) (d.M_bound (h.2 hx))⟩
 M_move:=fun hm h=>⟨h.1,fun hx=>d.M_move (fun k hk=>hm k hk.1) (h.2 hx)⟩
 M_lower:=fun hb h=>⟨h.1,fun hx=>d.M_lower hb (h.2 hx)⟩
def H {α:Type} (d:Kd α) (e:Nat) (w:World) (base:Nat) (ok:Nat→Prop) (v:Value) (xs:List α) (i:Int) (oki:Nat→Prop) (c:List Value):Prop :=
 (∀ k,oki k→ok k)∧∃ f,(sU f d i.toNat c).R e w base (fun k=>ok k∧¬ oki k) v xs.zipIdx
end Kd
end Go.Proofs.ag.b6
end
section
namespace Go.Proofs.ag.b6
open Go.RowKit
namespace Kd
structure Heap {α:Type} (d:Kd α):Prop where
 K:∀ {w w1:World} {x:α} {cs:List Value},(∀ k,k < w.heap.size→w1.heap[k]? = w.heap[k]?)→d.K w x cs→d.K w1 x cs
theorem nV {w w1:World} (hb:∀ k,k < w.heap.size→w1.heap[k]? = w.heap[k]?) {a:Addr} {v:Value} (h:w.cell? a = some v):w1.cell? a = some v:=by
 have:=hb a.block (World.block_lt_of_cell? w a h);simpa [World.cell?,this] using h
theorem Heap.C {α:Type} {d:Kd α} (hd:Heap d) {w w1:World} {A:Option Addr} {n:Nat} {xs:List α} (hb:∀ k,k < w.heap.size→w1.heap[k]? = w.heap[k]?) (h:d.C w A n xs):d.C w1 A n xs :=
 ⟨h.1,h.2.1,fun hn=>by
  obtain ⟨ad,e,hc⟩:=h.2.2 hn;refine ⟨ad,e,fun j p hj=>?_⟩;obtain ⟨c,hs,hr,hcell⟩:=hc j p hj;exact ⟨c,hs,hd.K hb hr,fun i u hu=>nV hb (hcell i u hu)⟩⟩
end Kd
def Kept (w W:World) (S:Nat→Prop):Prop:=w.heap.size≤W.heap.size∧∀ i,i < w.heap.size→¬ S i→W.heap[i]? = w.heap[i]?
section
variable {w W W2:World} {S S2 S':Nat→Prop}
theorem Kept.refl (w:World) (S:Nat→Prop):Kept w w S:=⟨Nat.le_refl _,fun _ _ _=>rfl⟩
theorem Kept.fh (h:Below w.heap.size w W) (S:Nat→Prop):Kept w W S:=⟨h.size,fun i hi _=>h.block i hi⟩
theorem Kept.mono (h:Kept w W S) (hs:∀ k,S k→S' k):Kept w W S':=⟨h.1,fun i hi hn=>h.2 i hi (fun hk=>hn (hs i hk))⟩
theorem Kept.oR (h:Kept w W S) (k:Kept W W2 S2) (hs:∀ k,S2 k→S k∨w.heap.size≤k):Kept w W2 S :=
 ⟨Nat.le_trans h.1 k.1,fun i hi hn=>(k.2 i (Nat.lt_of_lt_of_le hi h.1) (fun h2=>(hs i h2).elim hn (fun h3=>by omega))).trans (h.2 i hi hn)⟩
theorem Kept.jL {row:Option Nat} (hg:W.grownBy W2 row) (h:Kept w W S) (hr:∀ k,row = some k→S k∨w.heap.size≤k):Kept w W2 S :=
 h.oR (S2:=fun k=>row = some k) ⟨hg.size,fun i hi hn=>hg.block i hi (fun he=>hn he.symm)⟩ hr
theorem Kept.below (h:Kept w W S) (hb:Below W.heap.size W W2):Kept w W2 S:=h.oR (Kept.fh hb (fun _=>False)) (fun _ hk=>hk.elim)
theorem Kept.alloc (h:Kept w W S) (o:Obj):Kept w (W.alloc o) S:=h.below (dm (Below.refl _ _) o)
theorem Kept.drew (h:Kept w W S):Kept w W.drew S:=h
theorem Kept.drewN (h:Kept w W S) (m:Nat):Kept w (W.drewN m) S:=h
theorem Kept.setCell (h:Kept w W S) {p:Addr} (hp:S p.block∨w.heap.size≤p.block) (u:Value):Kept w (W.setCell p u) S :=
 h.oR (S2:=fun k=>k = p.block) ⟨by simp [World.setCell],fun i _ hn=>Below.heap_setCell W p u i hn⟩ (fun k hk=>by rw [hk];exact hp)
theorem Kept.keep {g:Nat} (h:bn w W g none) (k:Kept W W2 S2) (hs:∀ k,S2 k→w.heap.size≤k):bn w W2 g none :=
 ⟨Nat.le_trans h.1 k.1,fun i hi hg hr=>(k.2 i (Nat.lt_of_lt_of_le hi h.1) (fun h2=>by have:=hs i h2;omega)).trans (h.2 i hi hg hr)⟩
end
namespace Kd
section
variable {α:Type} {d:Kd α} {e base n c:Nat} {ok oki S S2:Nat→Prop} {w w0 W W1 W2:World} {v:Value} {A:Option Addr} {xs:List α} {i:Int} {cs:List Value}
theorem rG (h:d.R e W base ok v xs) (hk:Kept W W2 S) (hne:∀ k,ok k→¬ S k):d.R e W2 base ok v xs:=j9 h (fun k ho hlt=>hk.2 k hlt (hne k ho))
end
end Kd
end Go.Proofs.ag.b6
end
section
namespace Go.Proofs.ag.b6
open Go.RowKit
def fD (P:World→Prop) (W:World) (ok:Nat→Prop):Prop:=∀ W':World,(∀ k,ok k→k < W.heap.size→W'.heap[k]? = W.heap[k]?)→P W'
theorem qi {W W1:World} {k:Nat} (h:W1.heap[k]? = W.heap[k]?) (hlt:k < W.heap.size):k < W1.heap.size:=by
 rw [Array.getElem?_eq_getElem hlt] at h;exact (Array.getElem?_eq_some_iff.1 h).1
namespace fD
variable {P Q:World→Prop} {W W1:World} {ok ok':Nat→Prop}
theorem now (h:fD P W ok):P W:=h W (fun _ _ _=>rfl)
theorem mono (h:fD P W ok) (hok:∀ k,ok k→ok' k):fD P W ok':=fun W' hW=>h W' (fun k hk hlt=>hW k (hok k hk) hlt)
theorem bound (h:fD P W ok):fD P W (fun k=>ok k∧k < W.heap.size):=fun W' hW=>h W' (fun k hk hlt=>hW k ⟨hk,hlt⟩ hlt)
theorem step (h:fD P W ok) (hm:∀ k,ok k→k < W.heap.size→W1.heap[k]? = W.heap[k]?):fD P W1 ok:=fun W' hW=>h W' (fun k hk hlt=>(hW k hk (qi (hm k hk hlt) hlt)).trans (hm k hk hlt))
theorem imp (h:fD P W ok) (hi:∀ W',P W'→Q W'):fD Q W ok:=fun W' hW=>hi W' (h W' hW)
theorem old (h:fD P W ok) (hb:Below W.heap.size W W1):fD P W1 (fun k=>ok k∧k < W.heap.size):=(h.bound).step (fun k _ hlt=>hb.block k hlt)
end fD
namespace Kd
def F {α:Type} (d:Kd α) (W:World) (ok:Nat→Prop) (A:Option Addr) (n:Nat) (xs:List α):Prop:=fD (fun W=>d.C W A n xs) W ok
def FK {α:Type} (d:Kd α) (W:World) (ok:Nat→Prop) (x:α) (c:List Value):Prop:=fD (fun W=>d.K W x c) W ok
section
variable {α β:Type} {d:Kd α} {e base n n' cc g N:Nat} {ok ok' okp S:Nat→Prop} {w w0 w1 W W1:World} {A A':Option Addr} {u v v1:Value} {xs:List α} {xs':List β} {d':Kd β} {x:α} {c:List Value}
theorem qR (h:F d W ok A n xs):d.C W A n xs:=fD.now h
theorem l6 (h:F d W ok A n xs) (hok:∀ k,ok k→ok' k):F d W ok' A n xs:=fD.mono h hok
theorem nn (h:F d W ok A n xs):F d W (fun k=>ok k∧k < W.heap.size) A n xs:=fD.bound h
theorem oS (h:F d W ok A n xs) (hm:∀ k,ok k→k < W.heap.size→W1.heap[k]? = W.heap[k]?):F d W1 ok A n xs:=fD.step h hm
theorem jB (h:F d W ok A n xs) (hb:Below W.heap.size W W1):F d W1 ok A n xs:=oS h (fun k _ hlt=>hb.block k hlt)
theorem qj (h:F d W ok A n xs) (o:Obj):F d (W.alloc o) ok A n xs:=jB h (dm (Below.refl _ _) o)
theorem rH (h:F d W ok A n xs):F d W.drew ok A n xs:=jB h (fJ (Below.refl _ _))
theorem qk (h:F d W ok A n xs) (m:Nat):F d (W.drewN m) ok A n xs:=jB h (cM (Below.refl _ _) m)
theorem sq (h:F d W ok A n xs) {p:Addr} (hok:∀ k,ok k→k≠p.block) (u:Value):F d (W.setCell p u) ok A n xs:=oS h (fun k hk _=>Below.heap_setCell W p u k (hok k hk))
theorem sr (d:Kd α) (W:World) (ok:Nat→Prop):F d W ok none ([]:List α).length []:=fun W' _=>qO d W'
theorem oT (h:F d W ok A n xs) (hbase:∀ k,v.ownBlock = some k→W.heap.size≤k) (hb:Below W.heap.size W W1):F d W1 (fun k=>ok k∧some k≠v.ownBlock) A n xs :=
 l6 (fD.old h hb) (fun k hk=>⟨hk.1,fun he=>by have:=hbase k he.symm;have:=hk.2;omega⟩)
theorem oU (h:F d W ok A n xs) (a:Nat) (ha:W.heap.size≤a):F d W (fun k=>ok k∧k≠a) A n xs:=l6 (nn h) (fun k hk=>⟨hk.1,by have:=hk.2;omega⟩)
theorem ql (h:F d W (fun k=>ok k∧some k≠v.ownBlock) A n xs) (hg:W.grownBy W1 v.ownBlock) (hat:v1.ownBlock = v.ownBlock∨∃ b,v1.ownBlock = some b∧W.heap.size≤b):F d W1 (fun k=>ok k∧some k≠v1.ownBlock) A n xs:=by
 refine l6 (fD.step (nn h) (fun k hk hlt=>hg.block k hlt hk.1.2)) (fun k hk=>⟨hk.1.1,?_⟩);rcases hat with hat | ⟨b,hb,hle⟩
 ·rw [hat];exact hk.1.2
 ·rw [hb]
  intro he;injection he with he
  have:=hk.2;omega
theorem sI (h:d.R e W base ok (.slice A n cc) xs):F d W ok A n xs:=fun W' hW=>by
 have h2:=az (j9 h hW);rw [h2.1];exact h2.2.2
theorem iF (h:FK d W ok x c):d.K W x c:=fD.now h
theorem gU (h:FK d W ok x c) (hok:∀ k,ok k→ok' k):FK d W ok' x c:=fD.mono h hok
theorem jS (h:FK d W ok x c):FK d W (fun k=>ok k∧k < W.heap.size) x c:=fD.bound h
theorem jC (h:FK d W ok x c) (hm:∀ k,ok k→k < W.heap.size→W1.heap[k]? = W.heap[k]?):FK d W1 ok x c:=fD.step h hm
theorem lV (h:FK d W ok x c) {row:Option Nat} (hg:W.grownBy W1 row) (hok:∀ k,ok k→some k≠row):FK d W1 ok x c:=jC h (fun k hk hlt=>hg.block k hlt (hok k hk))
theorem qm (h:d.M W base ok x c):FK d W ok x c:=fun _ hW=>d.K_of_M (oG h hW)
theorem qn (W:World) (g:Nat):∃ W':World,(∀ k,k≠g→W'.heap[k]? = W.heap[k]?)∧∀ a:Addr,a.block = g→W'.cell? a = none:=by
 refine ⟨{ W with heap:=W.heap.setIfInBounds g (.cells #[] 0) },fun k hk=>by simp [Ne.symm hk],fun a ha=>?_⟩;subst ha;by_cases hlt:a.block < W.heap.size
 ·simp [World.cell?,hlt]
 ·simp [World.cell?,hlt]
end
end Kd
end Go.Proofs.ag.b6
end
section
namespace Go.Proofs.ag.b6
open Go.RowKit
namespace Kd
def chunks (sz:Nat) (n:Nat) (inner:List Value):List (List Value):=(List.range n).map fun j=>(inner.drop (j * sz)).take sz
theorem dO (sz n:Nat) (inner:List Value):(chunks sz n inner).length = n:=by simp [chunks]
theorem nW {sz n:Nat} {inner:List Value} {j:Nat} (hj:j < n):(chunks sz n inner)[j]? = some ((inner.drop (j * sz)).take sz):=by simp [chunks,hj]
theorem iG {sz n:Nat} {inner:List Value} {j:Nat} {c:List Value} (h:(chunks sz n inner)[j]? = some c):c = (inner.drop (j * sz)).take sz:=by
 have hj:j < n:=by have:=(List.getElem?_eq_some_iff.1 h).1;rwa [dO] at this
 rw [nW hj] at h;injection h with h
 exact h.symm
theorem lW {α:Type} {Rr:α→List Value→Prop} {sz:Nat} {xs:List α} {inner:List Value} (h:ck Rr sz xs inner) (hR:∀ x c,Rr x c→c.length = sz∧∀ u∈c,u.oneCell' = true):ck (fun x cs=>cs = x∧cs.length = sz∧∀ u∈cs,u.oneCell' = true) sz (chunks sz xs.length inner) inner:=by
 refine ⟨by rw [dO];exact h.1,fun j p hj=>?_⟩;have hjl:j < xs.length:=by have:=(List.getElem?_eq_some_iff.1 hj).1;rwa [dO] at this
 have hp:=iG hj;exact ⟨hp.symm,hR _ _ (h.2 j _ (List.getElem?_eq_getElem hjl))⟩
section
variable {α:Type} {d:Kd α} {e base n cc g:Nat} {ok ok' okp S:Nat→Prop} {w w1 W W1:World} {A:Option Addr} {u v v1:Value} {xs:List α} {x:α} {c:List Value}
theorem su (h:F d W ok A n xs) (z:α) (i:Int) (J:0≤i) (h1:i < n) :
  ∃ ad c,A = some ad∧c.length = d.sz∧FK d W ok (xs.getD i.toNat z) c∧(∀ j u,c[j]? = some u→W.cell? (ad.add (i.toNat * d.sz+j)) = some u)∧(0 < d.sz→ok ad.block):=by
 obtain ⟨ad,c,rfl,hcl,hK,hcc⟩:=nf (qR h) z i J h1;have hin:0 < d.sz→ok ad.block:=by
  intro hs;by_cases hk:ok ad.block
  ·exact hk
  ·obtain ⟨W',h2,h3⟩:=qn W ad.block
   obtain ⟨ad',c',he,hcl',_,y⟩:=nf (h W' (fun k hk' _=>h2 k (fun e=>hk (e ▸ hk')))) z i J h1;injection he with he
   subst he;have h4:=y 0 _ (List.getElem?_eq_getElem (by omega));rw [h3 _ (fE _ _)] at h4;cases h4
 refine ⟨ad,c,rfl,hcl,fun W' hW=>?_,hcc,hin⟩;obtain ⟨ad',c',he,hcl',hK',y⟩:=nf (h W' hW) z i J h1;injection he with he
 subst he;have hc:c = c':=by
  apply List.ext_getElem?
  intro j;by_cases hj:j < d.sz
  ·have hb:W'.heap[ad.block]? = W.heap[ad.block]?:=by
    have h5:=hcc j _ (List.getElem?_eq_getElem (by omega));have I:=World.block_lt_of_cell? W _ h5;rw [fE] at I;exact hW _ (hin (by omega)) I
   have h5:=hcc j _ (List.getElem?_eq_getElem (by omega));have I:=y j _ (List.getElem?_eq_getElem (by omega));have M:W'.cell? (ad.add (i.toNat * d.sz+j)) = W.cell? (ad.add (i.toNat * d.sz+j)):=by simp [World.cell?,fE,hb]
   rw [M,h5] at I;rw [List.getElem?_eq_getElem (by omega),List.getElem?_eq_getElem (by omega)];exact I
  ·rw [List.getElem?_eq_none (by omega),List.getElem?_eq_none (by omega)]
 rw [hc];exact hK'
def N {α:Type} (d:Kd α) (e:Nat) (w:World) (base:Nat) (ok:Nat→Prop) (v:Value) (xs:List α):Prop :=
 (∀ k,v.ownBlock = some k→ok k)∧∃ rows:List (List Value),rows.length = xs.length∧(raw d.sz).R e w base (fun k=>some k = v.ownBlock) v rows∧∀ (j:Nat) (x:α) (c:List Value),xs[j]? = some x→rows[j]? = some c→FK d w (fun k=>ok k∧some k≠v.ownBlock) x c
theorem kD {sz:Nat} {rows:List (List Value)} (h:(raw sz).R e w base ok v rows):(raw sz).R e w base (fun k=>some k = v.ownBlock) v rows:=gT rfl h
theorem qo {sz:Nat} {rows:List (List Value)} (h:(raw sz).R e w base ok v rows):(raw sz).R e w base (fun _=>True) v rows:=aX h (fun _ _=>trivial)
theorem sQ (h:d.R e w base ok v xs):N d e w base ok v xs:=by
 obtain ⟨y,inner,ho,hr⟩:=h;refine ⟨y,chunks d.sz xs.length inner,dO _ _ _,⟨fun k hk=>hk.symm,inner,by rw [dO];exact ho,lW hr (fun x c hp=>⟨d.K_len (d.K_of_M hp),d.K_one (d.K_of_M hp)⟩)⟩,fun j x c hx hc=>?_⟩;rw [iG hc];exact qm (hr.2 j x hx)
theorem sV (h:Kd.S d e w base ok v xs):N d e w base ok v xs:=sQ (sE h)
theorem qS (d:Kd α) (e:Nat) (w:World) (base:Nat) (ok:Nat→Prop):N d e w base ok (.slice none 0 0) []:=sQ (jq _ _ _ _ _)
theorem cn (h:N d e w base ok v xs) (hok:∀ k,ok k→ok' k):N d e w base ok' v xs:=by
 obtain ⟨y,rows,hl,hR,hf⟩:=h;exact ⟨fun k hk=>hok k (y k hk),rows,hl,hR,fun j x c hx hc=>gU (hf j x c hx hc) (fun k hk=>⟨hok k hk.1,hk.2⟩)⟩
theorem rI (h:N d e w base ok v xs):∀ k,v.ownBlock = some k→k < w.heap.size:=by
 obtain ⟨_,rows,_,hR,_⟩:=h;exact dx hR
theorem oV (h:N d e w base ok v xs):∀ k,v.ownBlock = some k→base≤k:=by
 obtain ⟨_,rows,_,hR,_⟩:=h;exact bQ hR
theorem iR (h:N d e w base ok v xs):∀ k,v.ownBlock = some k→∃ cells,w.heap[k]? = some (.cells cells e (0,0)):=by
 obtain ⟨_,rows,_,hR,_⟩:=h;exact ni hR
theorem iH (h:N d e w base ok v xs) (hok:∀ k,ok k→k≠g):some g≠v.ownBlock:=fun he=>hok g (h.1 g he.symm) rfl
theorem l7 (h:N d e w base ok v xs):N d e w base (fun k=>ok k∧k < w.heap.size) v xs:=by
 have hlt:=rI h;obtain ⟨y,rows,hl,hR,hf⟩:=h;exact ⟨fun k hk=>⟨y k hk,hlt k hk⟩,rows,hl,hR,fun j x c hx hc=>gU (jS (hf j x c hx hc)) (fun k hk=>⟨⟨hk.1.1,hk.2⟩,hk.1.2⟩)⟩
theorem gB {base':Nat} (h:N d e w base ok v xs) (hb:base'≤base):N d e w base' ok v xs:=by
 obtain ⟨j,rows,hl,hR,hf⟩:=h;exact ⟨j,rows,hl,bD hR hb,hf⟩
theorem l8 (h:N d e w base ok v xs) (hm:∀ k,ok k→k < w.heap.size→w1.heap[k]? = w.heap[k]?):N d e w1 base ok v xs:=by
 obtain ⟨y,rows,hl,hR,hf⟩:=h;exact ⟨y,rows,hl,j9 hR (fun k hk hlt=>hm k (y k hk.symm) hlt),fun j x c hx hc=>jC (hf j x c hx hc) (fun k hk hlt=>hm k hk.1 hlt)⟩
theorem cV (h:N d e w base ok v xs) (hb:Below w.heap.size w w1):N d e w1 base ok v xs:=l8 h (fun k _ hk=>hb.block k hk)
theorem b7 (h:N d e w base ok v xs) (o:Obj):N d e (w.alloc o) base ok v xs:=cV h (dm (Below.refl _ _) o)
theorem br (h:N d e w base ok v xs):N d e w.drew base ok v xs:=cV h (fJ (Below.refl _ _))
theorem b8 (h:N d e w base ok v xs) (m:Nat):N d e (w.drewN m) base ok v xs:=cV h (cM (Below.refl _ _) m)
theorem eF (h:N d e w base ok v xs) {p:Addr} (hok:∀ k,ok k→k≠p.block) (u:Value):N d e (w.setCell p u) base ok v xs:=l8 h (fun k ho _=>Below.heap_setCell w p u k (hok k ho))
theorem e6 (h:N d e W base ok v xs) (hbase:∀ k,u.ownBlock = some k→W.heap.size≤k) (hb:Below W.heap.size W w1):N d e w1 base (fun k=>ok k∧some k≠u.ownBlock) v xs :=
 cn (cV (l7 h) hb) (fun k hk=>⟨hk.1,fun he=>by have:=hbase k he.symm;have:=hk.2;omega⟩)
theorem ey (h:N d e w base ok v xs) (a:Nat) (ha:w.heap.size≤a):N d e w base (fun k=>ok k∧k≠a) v xs:=cn (l7 h) (fun k hk=>⟨hk.1,by have:=hk.2;omega⟩)
theorem qp (h:N d e W base (fun k=>ok k∧some k≠u.ownBlock) v xs) {u1:Value} (hg:W.grownBy w1 u.ownBlock) (hat:u1.ownBlock = u.ownBlock∨∃ b,u1.ownBlock = some b∧W.heap.size≤b):N d e w1 base (fun k=>ok k∧some k≠u1.ownBlock) v xs:=by
 refine cn (l8 (l7 h) (fun k hk hlt=>hg.block k hlt hk.1.2)) (fun k hk=>⟨hk.1.1,?_⟩);rcases hat with hat | ⟨b,hb,hle⟩
 ·rw [hat];exact hk.1.2
 ·rw [hb]
  intro he;injection he with he
  have:=hk.2;omega
theorem iS (h:N d e w base ok v xs):∃ A c,v = .slice A xs.length c:=by
 obtain ⟨_,rows,hl,hR,_⟩:=h;obtain ⟨A,c,he⟩:=bE hR;exact ⟨A,c,by rw [he,hl]⟩
theorem gf {n c:Nat} (h:N d e w base ok (.slice A n c) xs):n = xs.length∧n≤c∧d.C w A xs.length xs:=by
 obtain ⟨_,rows,hl,hR,hf⟩:=h;obtain ⟨hn,hc,hC⟩:=az hR;refine ⟨by omega,hc,?_⟩;rw [hl] at hC;refine ⟨rfl,hC.2.1,fun hp=>?_⟩;obtain ⟨ad,he,hcell⟩:=hC.2.2 hp;refine ⟨ad,he,fun j p hj=>?_⟩;have hjl:j < rows.length:=by have:=(List.getElem?_eq_some_iff.1 hj).1;omega
 obtain ⟨c',hcl,hK,hcc⟩:=hcell j _ (List.getElem?_eq_getElem hjl);have hk:=iF (hf j p _ hj (List.getElem?_eq_getElem hjl));refine ⟨c',hcl,?_,hcc⟩;rw [show c' = rows[j] from hK.1];exact hk
theorem sW {n:Nat} (h:N d e w base ok (.slice A n cc) xs):F d w ok A n xs:=fun W' hW=>by
 have h2:=gf (l8 h hW);rw [h2.1];exact h2.2.2
theorem rJ {n cap:Nat} (h:N d e W base ok (.slice (some ⟨g,0,none⟩) n cap) xs) (z:α) (i:Int) (I:0≤i) (h1:i < n) :
  ∃ c,c.length = d.sz∧FK d W (fun k=>ok k∧k≠g) (xs.getD i.toNat z) c∧(∀ j u,c[j]? = some u→W.cell? ⟨g,i.toNat * d.sz+j,none⟩ = some u)∧∀ j,W.frozen? ⟨g,i.toNat * d.sz+j,none⟩ = false:=by
 obtain ⟨_,rows,hl,hR,hf⟩:=h;have hn:=(az hR).1;obtain ⟨c,hcl,hM,hcc,hfr⟩:=rh hR [] i I h1;have hil:i.toNat < rows.length:=by omega
 have y:i.toNat < xs.length:=by omega
 have hc:c = rows[i.toNat]:=by
  have h2:=hM.1;rwa [List.getD_eq_getElem?_getD,List.getElem?_eq_getElem hil] at h2
 refine ⟨c,hcl,?_,hcc,hfr⟩;rw [List.getD_eq_getElem?_getD,List.getElem?_eq_getElem y];exact gU (hf _ _ _ (List.getElem?_eq_getElem y) (by rw [hc];exact List.getElem?_eq_getElem hil)) (fun k hk=>⟨hk.1,fun he=>hk.2 (by rw [he];simp [Value.ownBlock])⟩)
theorem qT {ad:Addr} {n cap:Nat} (h:N d e W base ok (.slice (some ad) n cap) xs) (z:α) (i:Int) (y:0≤i) (h1:i < n) :
  ∃ c,c.length = d.sz∧FK d W (fun k=>ok k∧some k≠(Value.slice (some ad) n cap).ownBlock) (xs.getD i.toNat z) c∧∀ j u,c[j]? = some u→W.cell? (ad.add (i.toNat * d.sz+j)) = some u:=by
 obtain ⟨g,rfl⟩:∃ g,ad = ⟨g,0,none⟩:=by
  obtain ⟨_,rows,_,hR,_⟩:=h;exact rz hR
 obtain ⟨c,hcl,hM,hcc,_⟩:=rJ h z i y h1;refine ⟨c,hcl,gU hM (fun k hk=>⟨hk.1,fun he=>hk.2 (by simpa [Value.ownBlock] using he)⟩),fun j u hu=>?_⟩;rw [r9,Nat.zero_add];exact hcc j u hu
end
end Kd
end Go.Proofs.ag.b6
end
section
namespace Go.Proofs.ag.b6
open Go.RowKit
namespace Kd
section
variable {α:Type} {d:Kd α} {e base n cap g:Nat} {ok ok' okp:Nat→Prop} {w w1 W:World} {v v1:Value} {xs ys:List α}
theorem mJ {rows news:List (List Value)} (J:∀ k,v.ownBlock = some k→ok k) (hl:rows.length = xs.length) (hf:∀ (j:Nat) (x:α) (c:List Value),xs[j]? = some x→rows[j]? = some c→FK d W (fun k=>ok k∧some k≠v.ownBlock) x c)
  (z:news.length = ys.length) (I:∀ (j:Nat) (x:α) (c:List Value),ys[j]? = some x→news[j]? = some c→FK d W okp x c) (y:∀ k,okp k→ok k∧some k≠v.ownBlock) (hfresh:∀ k,W.heap.size≤k→ok k)
  (hR:(raw d.sz).R e w1 base (fun _=>True) v1 (rows ++ news)) (hg:W.grownBy w1 v.ownBlock) (hat:v1.ownBlock = v.ownBlock∨∃ b,v1.ownBlock = some b∧W.heap.size≤b):N d e w1 base ok v1 (xs ++ ys):=by
 have hne:∀ k,some k≠v.ownBlock→k < W.heap.size→some k≠v1.ownBlock:=by
  intro k hk hlt;rcases hat with hat | ⟨b,hb,hle⟩
  ·rw [hat];exact hk
  ·rw [hb]
   intro he;injection he with he
   omega
 have step:∀ {x:α} {c:List Value} {o:Nat→Prop},FK d W o x c→(∀ k,o k→ok k∧some k≠v.ownBlock)→FK d w1 (fun k=>ok k∧some k≠v1.ownBlock) x c:=by
  intro x c o hq ho;exact gU (jC (jS hq) (fun k hk hlt=>hg.block k hlt (ho k hk.1).2)) (fun k hk=>⟨(ho k hk.1).1,hne k (ho k hk.1).2 hk.2⟩)
 refine ⟨fun k hk=>?_,rows ++ news,by rw [List.length_append,List.length_append,hl,z],kD hR,fun j x c hx hc=>?_⟩
 ·rcases hat with hat | ⟨b,hb,hle⟩
  ·exact J k (hat ▸ hk)
  ·rw [hb] at hk
   injection hk with hk
   exact hfresh k (by omega)
 ·rcases Nat.lt_or_ge j xs.length with hlt | hge
  ·rw [List.getElem?_append_left hlt] at hx
   rw [List.getElem?_append_left (by omega)] at hc;exact step (hf j x c hx hc) (fun _ hk=>hk)
  ·rw [List.getElem?_append_right hge] at hx
   rw [List.getElem?_append_right (by omega),hl] at hc;exact step (I _ x c hx hc) y
theorem rK {x:α} {c:List Value} (h:FK d W ok x c):c = c∧c.length = d.sz∧∀ u∈c,u.oneCell' = true:=⟨rfl,d.K_len (iF h),d.K_one (iF h)⟩
theorem rL {rows:List (List Value)} (hR:(raw d.sz).R e w1 base (fun k=>k = W.heap.size) v1 rows) (hg:W.grownBy w1 none) (hat:∃ b,v1.ownBlock = some b∧W.heap.size≤b) (hl:rows.length = xs.length) (hf:∀ (j:Nat) (x:α) (c:List Value),xs[j]? = some x→rows[j]? = some c→FK d W okp x c)
  (hok:∀ k,okp k→ok k) (hfresh:ok W.heap.size):N d e w1 base ok v1 xs:=by
 obtain ⟨b,hb,hle⟩:=hat;refine ⟨fun k hk=>by rw [hR.1 k hk];exact hfresh,rows,hl,kD hR,fun j x c hx hc=>?_⟩;refine gU (jC (jS (hf j x c hx hc)) (fun k hk hlt=>hg.block k hlt (by simp))) (fun k hk=>⟨hok k hk.1,fun he=>?_⟩);rw [hb] at he;injection he with he
 have:=hk.2;omega
end
section
variable {P:Program} {ops:Array Oper} {rest:List Oper} {o:Oper} {a:Act} {Q:Exit→Act→World→Prop} {Kc:Act→World→Prop} {α:Type}
theorem gg (d:Kd α) {w0 W:World} (base:Nat) (hgd:o.guard = none) (s x:Operand) (t e:TypeId) (z:Value) (bytes:Nat)
  (ho:o.op = .call { callee:=.builtin .append,args:=#[s,x],argTypes:=#[t,t] })
  (ht:P.underlying t = some (.slice e)) (hinfo:(P.info? e).map (fun i=>(i.zero,i.size,i.bytes)) = some (some z,d.sz,bytes)) (hz:z.cells.size = d.sz) (J:0 < d.sz) (M:0 < bytes)
  (v:Value) (xs:List α) (p:α) (cs:List Value) (ok okp:Nat→Prop) (hs:a.eval s = v) (hx:a.eval x = .slice (some ⟨W.heap.size,0,none⟩) 1 1) (hp:FK d W okp p cs) (I:∀ k,okp k→ok k∧some k≠v.ownBlock) (hfresh:∀ k,W.heap.size≤k→ok k)
  (HO:N d e W base ok v xs) (HB:Below base w0 W) (hbase:base≤W.heap.size) (hl:(xs.length+1) * bytes≤140737488355328)
  (h:∀ v1 w1,N d e w1 base ok v1 (xs ++ [p])→Below base w0 w1→W.grownBy w1 v.ownBlock→(v1.ownBlock = v.ownBlock∨∃ b,v1.ownBlock = some b∧W.heap.size≤b)→wpList P ops Q rest (a.put o.dst v1) w1) :
  wpList P ops Q (o :: rest) a (W.alloc (.cells cs.toArray e)):=by
 obtain ⟨U,rows,hlr,hR,hf⟩:=HO;refine eO (raw d.sz) base hgd s x t e z bytes ho ht hinfo hz J M v rows cs cs (fun _=>True) (fun _=>False) hs hx (rK hp) (fun _ hk=>hk.elim) (fun _ _=>trivial) (qo hR) HB hbase (by rw [hlr];exact hl) ?_;intro v1 w1 hr hb hg hat;exact h v1 w1 (mJ U hlr hf (ys:=[p]) (news:=[cs]) rfl (fun j y c hy hc=>by
  rcases j with _ | j
  ·simp only [List.getElem?_cons_zero,Option.some.injEq] at hy hc
   rw [← hy,← hc];exact hp
  ·simp at hy) I hfresh hr hg hat) hb hg hat
theorem oW (d:Kd α) {w0 W:World} (base e:Nat) (hgd:o.guard = none) {N':Tmp} (_hd:o.dst = some N') {xs:List α} {inner:List Value} {ok okp:Nat→Prop}
  (hrun:(execOp a.eval o).run P W = .ok (.value (.slice (some ⟨W.heap.size,0,none⟩) xs.length xs.length)) (W.alloc (.cells inner.toArray e)))
  (hrep:ck (FK d W okp) d.sz xs inner) (hok:∀ k,okp k→ok k) (hfresh:ok W.heap.size) (HB:Below base w0 W) (hbase:base≤W.heap.size) (hm:xs.length≤9223372036854775807)
  (h:∀ v1 w1,N d e w1 base ok v1 xs→Below base w0 w1→W.grownBy w1 none→(∃ b,v1.ownBlock = some b∧W.heap.size≤b)→wpList P ops Q rest (a.put o.dst v1) w1) :
  wpList P ops Q (o :: rest) a W:=by
 refine nh (raw d.sz) base e hgd _hd (xs:=chunks d.sz xs.length inner) (inner:=inner) (ok:=fun k=>k = W.heap.size) (okp:=fun _=>False) (by rw [dO];exact hrun) (lW hrep (fun y c hk=>⟨d.K_len (iF hk),d.K_one (iF hk)⟩)) (fun _ hk=>hk.elim) rfl HB hbase (by rw [dO];exact hm) ?_;intro v1 w1 hr hb hg hat;exact h v1 w1 (rL hr hg hat (dO _ _ _) (fun j y c hy hc=>by rw [iG hc];exact hrep.2 j y hy) hok hfresh) hb hg hat
end
end Kd
end Go.Proofs.ag.b6
end
section
namespace Go.Proofs.ag.cA
open Go.RowKit Go.Proofs.ag.b6
theorem gh (k k':IntKind) (x y:Int):Builtin.max2 (.int k x) (.int k' y) = pure (.int k (if x < y then y else x)):=by simp only [Builtin.max2,gt_iff_lt]
theorem gi (k k':IntKind) (x y:Int):Builtin.min2 (.int k x) (.int k' y) = pure (.int k (if y < x then y else x)):=by simp only [Builtin.min2]
theorem gV (ats:Array TypeId) (ty:TypeId) (a b:Value):Builtin.max_ ats ty #[a,b] = (Builtin.max2 a b >>= fun s=>pure s):=by simp only [Builtin.max_,List.foldlM_cons,List.foldlM_nil]
theorem gW (ats:Array TypeId) (ty:TypeId) (a b:Value):Builtin.min_ ats ty #[a,b] = (Builtin.min2 a b >>= fun s=>pure s):=by simp only [Builtin.min_,List.foldlM_cons,List.foldlM_nil]
theorem fF (ats:Array TypeId) (ty:TypeId) (a b c:Value):Builtin.max_ ats ty #[a,b,c] = (Builtin.max2 a b >>= fun s=>Builtin.max2 s c >>= fun s=>pure s):=by simp only [Builtin.max_,List.foldlM_cons,List.foldlM_nil]
theorem fG (ats:Array TypeId) (ty:TypeId) (a b c:Value):Builtin.min_ ats ty #[a,b,c] = (Builtin.min2 a b >>= fun s=>Builtin.min2 s c >>= fun s=>pure s):=by simp only [Builtin.min_,List.foldlM_cons,List.foldlM_nil]
theorem gj (ats:Array TypeId) (ty:TypeId) (a b c d:Value):Builtin.max_ ats ty #[a,b,c,d] = (Builtin.max2 a b >>= fun s=>Builtin.max2 s c >>= fun s=>Builtin.max2 s d >>= fun s=>pure s):=by simp only [Builtin.max_,List.foldlM_cons,List.foldlM_nil]
theorem gn (ats:Array TypeId) (ty:TypeId) (a b c d:Value):Builtin.min_ ats ty #[a,b,c,d] = (Builtin.min2 a b >>= fun s=>Builtin.min2 s c >>= fun s=>Builtin.min2 s d >>= fun s=>pure s):=by simp only [Builtin.min_,List.foldlM_cons,List.foldlM_nil]
end Go.Proofs.ag.cA
namespace Go.Proofs.ag.b6
open Go.RowKit
section
variable {P:Program} {ops:Array Oper} {rest:List Oper} {o:Oper} {a:Act} {Q:Exit→Act→World→Prop} {W:World}
theorem aQ {f:FuncId} {as_q:Array Operand} {ts:Array TypeId} (_ho:o.op = .call { callee:=.value (.func f),args:=as_q,argTypes:=ts }) (h:wpList P ops Q (o :: rest) a W):wpList P ops Q (o :: rest) a W:=h
theorem bY {b:Builtin} {xs:Array Operand} {ts:Array TypeId} (_ho:o.op = .call { callee:=.builtin b,args:=xs,argTypes:=ts }) (h:wpList P ops Q (o :: rest) a W):wpList P ops Q (o :: rest) a W:=h
end
def shl (k:IntKind) (x y:Int):Int:=k.wrap (x * 2 ^ min y.toNat k.bits)
def shr (k:IntKind) (x y:Int):Int:=x / 2 ^ min y.toNat k.bits
theorem dZ {k:IntKind} {x y j:Int} (h:shl k x y = j) (hy:y≤k.bits):k.wrap (x * 2 ^ y.toNat) = j:=by rw [← h];unfold shl;rw [Nat.min_eq_left (by omega)]
theorem gX {k:IntKind} {x y j:Int} (h:shr k x y = j) (hy:y≤k.bits):x / 2 ^ y.toNat = j:=by rw [← h];unfold shr;rw [Nat.min_eq_left (by omega)]
theorem fa (w:World) (n:Nat):w.drewN n = w.drewN n:=rfl
namespace Kd
section
variable {α:Type} {d:Kd α} {e base b b' g N:Nat} {ok ok1:Nat→Prop} {W W2 w1:World} {u v:Value} {xs ys:List α} {S:Nat→Prop}
theorem rM (hE:d.E = []) (h:d.R e W base ok1 v xs) (hok:∀ k,v.ownBlock = some k→ok k):d.R e W base ok v xs:=aX (gT hE h) (fun k hk=>hok k hk.symm)
theorem qq (h:d.R e W base ok v xs) (hk:Kept W W2 S) (hne:∀ k,ok k→¬ S k):d.R e W2 base (fun k=>ok k∧(¬ S k∧k < W.heap.size)) v xs :=
 rG (aX (eY h) (fun k hk=>⟨hk.1,hne k hk.1,hk.2.2.1⟩)) hk (fun _ hk=>hk.2.1)
end
end Kd
end Go.Proofs.ag.b6
namespace Go.Proofs.ag.b6
open Go.RowKit
namespace Kd
def V {α:Type} (d:Kd α) (_e:Nat) (W:World) (_base:Nat) (ok:Nat→Prop) (v:Value) (xs:List α):Prop:=∃ A c,v = .slice A xs.length c∧xs.length≤c∧F d W ok A xs.length xs
section
variable {α β:Type} {d:Kd α} {e base base' n m c g N' lo hi:Nat} {ok ok' S:Nat→Prop} {w W w1:World} {A:Option Addr} {ad:Addr} {u v v1:Value} {xs:List α}
theorem iT (h:V d e W base ok v xs) (hF:∀ A,F d W ok A xs.length xs→F d w1 ok' A xs.length xs):V d e w1 base' ok' v xs:=by
 obtain ⟨A,c,hv,hl,hf⟩:=h;exact ⟨A,c,hv,hl,hF A hf⟩
theorem lX (hl:xs.length≤c) (hf:F d W ok A xs.length xs):V d e W base ok (.slice A xs.length c) xs:=⟨A,c,rfl,hl,hf⟩
theorem nq (h:V d e W base ok v xs):∃ A c,v = .slice A xs.length c:=by
 obtain ⟨A,c,hv,_⟩:=h;exact ⟨A,c,hv⟩
theorem qt (h:V d e W base ok (.slice A n c) xs):n = xs.length∧n≤c∧F d W ok A xs.length xs:=by
 obtain ⟨A',c',hv,hl,hf⟩:=h;injection hv with ha hn hc
 subst ha;subst hc;exact ⟨hn,by rw [hn];exact hl,hf⟩
theorem cF (h:V d e W base ok (.slice A n c) xs):n = xs.length∧n≤c∧d.C W A xs.length xs:=⟨(qt h).1,(qt h).2.1,qR (qt h).2.2⟩
theorem sv (h:V d e W base ok (.slice A n c) xs):F d W ok A n xs:=by
 obtain ⟨hn,_,hf⟩:=qt h;rw [hn];exact hf
theorem qU (d:Kd α) (e:Nat) (W:World) (base:Nat) (ok:Nat→Prop):V d e W base ok (.slice none 0 0) []:=⟨none,0,rfl,Nat.le_refl _,sr d W ok⟩
theorem sF (h:d.R e W base ok v xs):V d e W base' ok v xs:=by
 obtain ⟨A,c,rfl⟩:=bE h;exact ⟨A,c,rfl,(az h).2.1,sI h⟩
theorem sX (h:N d e W base ok v xs):V d e W base' ok v xs:=by
 obtain ⟨A,c,rfl⟩:=iS h;exact ⟨A,c,rfl,(gf h).2.1,sW h⟩
theorem bN (h:V d e W base ok v xs) (hok:∀ k,ok k→ok' k):V d e W base ok' v xs:=iT h (fun _ hf=>l6 hf hok)
theorem l9 (h:V d e W base ok v xs) (_:base'≤base):V d e W base' ok v xs:=h
theorem dW (h:V d e W base ok v xs) (hb:Below W.heap.size W w1):V d e w1 base ok v xs:=iT h (fun _ hf=>jB hf hb)
theorem bj (h:V d e W base ok v xs) (o:Obj):V d e (W.alloc o) base ok v xs:=iT h (fun _ hf=>qj hf o)
theorem bC (h:V d e W base ok v xs):V d e W.drew base ok v xs:=iT h (fun _ hf=>rH hf)
theorem bl (h:V d e W base ok v xs) (m:Nat):V d e (W.drewN m) base ok v xs:=iT h (fun _ hf=>qk hf m)
theorem eM (h:V d e W base ok v xs) {p:Addr} (hok:∀ k,ok k→k≠p.block) (u:Value):V d e (W.setCell p u) base ok v xs:=iT h (fun _ hf=>sq hf hok u)
theorem qu (h:V d e W base (fun k=>ok k∧some k≠u.ownBlock) v xs) (hg:W.grownBy w1 u.ownBlock) (hat:v1.ownBlock = u.ownBlock∨∃ b,v1.ownBlock = some b∧W.heap.size≤b):V d e w1 base (fun k=>ok k∧some k≠v1.ownBlock) v xs:=iT h (fun _ hf=>ql hf hg hat)
theorem dD (h:V d e W base (fun k=>ok k∧some k≠v.ownBlock) u xs) (hg:W.grownBy w1 v.ownBlock) (hat:v1.ownBlock = v.ownBlock∨∃ b,v1.ownBlock = some b∧W.heap.size≤b):V d e w1 base (fun k=>ok k∧some k≠v1.ownBlock) u xs:=qu h hg hat
theorem jT (h:N d e W base (fun k=>ok k∧some k≠v.ownBlock) u xs) (hg:W.grownBy w1 v.ownBlock) (hat:v1.ownBlock = v.ownBlock∨∃ b,v1.ownBlock = some b∧W.heap.size≤b):N d e w1 base (fun k=>ok k∧some k≠v1.ownBlock) u xs:=qp h hg hat
theorem dS (h:V d e W base ok v xs) (hbase:∀ k,u.ownBlock = some k→W.heap.size≤k) (hb:Below W.heap.size W w1):V d e w1 base (fun k=>ok k∧some k≠u.ownBlock) v xs:=iT h (fun _ hf=>oT hf hbase hb)
theorem fk (h:V d e W base ok v xs) (a:Nat) (ha:W.heap.size≤a):V d e W base (fun k=>ok k∧k≠a) v xs:=iT h (fun _ hf=>oU hf a ha)
theorem kE (h:V d e W base ok (.slice (some ad) n c) xs) (z:α) (i:Int) (y:0≤i) (h1:i < n) :
  ∃ cs,cs.length = d.sz∧FK d W ok (xs.getD i.toNat z) cs∧∀ j u,cs[j]? = some u→W.cell? (ad.add (i.toNat * d.sz+j)) = some u:=by
 obtain ⟨ad',cs,he,hcl,hK,hcc,_⟩:=su (sv h) z i y h1;injection he with he
 subst he;exact ⟨cs,hcl,hK,hcc⟩
theorem en {M:Nat→Prop} (h:d.R e w1 W.heap.size ok v xs) (hle:w.heap.size≤W.heap.size) (hM:∀ k,w.heap.size≤k→M k):d.R e w1 W.heap.size (fun k=>M k∧ok k) v xs:=aX (eY h) (fun k hk=>⟨hM k (Nat.le_trans hle hk.2.1),hk.1⟩)
end
end Kd
end Go.Proofs.ag.b6
end
section
namespace Go.Proofs.ag.cz
open Go.Proofs.ag.b6 (ae)
def gY (md:Region.Mode) (o:Oper):List Nat:=(o.after.toList.filter (fun e=>Region.binds md e)).map (fun e=>e.on)
def lg (md:Region.Mode) (ops:Array Oper) (i:Nat) (oi:Oper):List Nat:=(List.range ops.size).filter fun j=>!(j == i) && match ops[j]? with
  | some oj=>!(oj.after.any (fun e=>Region.binds md e && e.on == i) || oi.apart ops oj)
  | none=>false
def eW (md:Region.Mode) (ops:Array Oper):Bool×List (List Nat×List Nat):=(Region.noSelect ops,(List.range ops.size).map fun i=>match ops[i]? with
  | some o=>(gY md o,lg md ops i o)
  | none=>([],[]))
def fO (T:List (List Nat×List Nat)) (l:List Bool) (i:Nat):Bool:=!l.getD i true && match T[i]? with
  | some r=>r.1.all (fun j=>l.getD j false)
  | none=>false
def iI (T:List (List Nat×List Nat)) (l:List Bool):List Nat:=(List.range T.length).filter (fO T l)
def lY (T:List (List Nat×List Nat)) (l:List Bool) (i:Nat):Bool:=match T[i]? with
  | some r=>r.2.all (fun j=>l.getD j true)
  | none=>false
def jD (T:List (List Nat×List Nat)) (l:List Bool):Bool:=(List.range T.length).all fun j=>!l.getD j false || match T[j]? with
  | some r=>r.1.all (fun k=>l.getD k false)
  | none=>true
def jc (T:List (List Nat×List Nat)) (i:Nat):Nat→Nat→Bool
  | 0,_=>false
  | fuel+1,d=>match T[d]? with
    | some r=>r.1.any fun j=>j == i || jc T i fuel j
    | none=>false
def nr (T:List (List Nat×List Nat)) (l:List Bool) (ds:List Nat) (i:Nat):Bool:=ds.all fun d=>l.getD d true || jc T i T.length d
section
variable {md:Region.Mode} {ops:Array Oper} {T:Bool×List (List Nat×List Nat)} {l l' li lj lk:Array Bool} {ds:List Nat} {i j k:Nat}
theorem gd (l:Array Bool) (j:Nat) (b:Bool):l.getD j b = l.toList.getD j b:=by simp [Array.getD_eq_getD_getElem?,List.getD_eq_getElem?_getD]
theorem kF (o:Oper) (p:Nat→Bool):o.after.all (fun e=>!Region.binds md e || p e.on) = (gY md o).all p:=by
 unfold gY;rw [← Array.all_toList];induction o.after.toList with
 | nil=>rfl
 | cons e r ih =>
  rw [List.all_cons,ih,List.filter_cons];cases h:Region.binds md e <;> simp
theorem nX (o:Oper) (p:Nat→Bool):o.after.any (fun e=>Region.binds md e && p e.on) = (gY md o).any p:=by
 unfold gY;rw [← Array.any_toList];induction o.after.toList with
 | nil=>rfl
 | cons e r ih =>
  rw [List.any_cons,ih,List.filter_cons];cases h:Region.binds md e <;> simp
theorem fP:(eW md ops).2.length = ops.size:=by simp [eW]
theorem gZ {o:Oper} (h:ops[i]? = some o):(eW md ops).2[i]? = some (gY md o,lg md ops i o):=by
 have hi:=(Array.getElem?_eq_some_iff.1 h).1;unfold eW;rw [List.getElem?_map,List.getElem?_range hi,Option.map_some,h]
theorem ia (h:ops[i]? = none):(eW md ops).2[i]? = none:=by
 have hi:ops.size≤i:=Array.getElem?_eq_none_iff.1 h;exact List.getElem?_eq_none (by rw [fP];exact hi)
theorem mK:fO (eW md ops).2 l.toList i = (!l.getD i true && ((ops[i]?).map (·.after.all fun e=>!Region.binds md e || l.getD e.on false)).getD false):=by
 unfold fO;rw [gd];cases h:ops[i]? with
 | none=>rw [ia h];rfl
 | some o =>
  rw [gZ h];simp only [Option.map_some,Option.getD_some];rw [← kF];simp only [gd]
theorem gI:Region.ready md ops l = iI (eW md ops).2 l.toList:=by
 unfold Region.ready iI;rw [fP];refine List.filter_congr (fun i _=>?_);rw [mK]
theorem nt:Region.free md ops l i = lY (eW md ops).2 l.toList i:=by
 unfold Region.free lY;cases h:ops[i]? with
 | none=>rw [ia h]
 | some oi =>
  rw [gZ h];simp only [lg];rw [List.all_filter];congr 1
  funext j
  rw [gd];cases hj:ops[j]? with
  | none=>cases (j == i) <;> cases (l.toList.getD j true) <;> simp
  | some oj =>
   cases (j == i) <;> cases (l.toList.getD j true) <;> cases (oj.after.any (fun e=>Region.binds md e && e.on == i) || oi.apart ops oj) <;> simp_all
theorem nY:Region.iO md ops l = jD (eW md ops).2 l.toList:=by
 unfold Region.iO jD;rw [fP];congr 1
 funext j
 rw [gd];cases h:ops[j]? with
 | none=>rw [ia h]
 | some o =>
  rw [gZ h];simp only;rw [← kF];simp only [gd]
theorem lZ:∀ (fuel d:Nat),Region.fB md ops i fuel d = jc (eW md ops).2 i fuel d
 | 0,_=>rfl
 | fuel+1,d=>by
  unfold Region.fB jc;cases h:ops[d]? with
  | none=>rw [ia h]
  | some o =>
   rw [gZ h];simp only;rw [← nX];congr 1
   funext e
   rw [lZ fuel]
theorem qv:Region.nj md ops l ds i = nr (eW md ops).2 l.toList ds i:=by
 unfold Region.nj nr;rw [fP];congr 1
 funext d
 rw [gd,lZ]
theorem js (h:fO T.2 l.toList i = true) (hT:eW md ops = T):(Region.ready md ops l).contains i = true:=by
 subst hT;rw [gI];unfold iI;rw [List.contains_iff_mem,List.mem_filter,List.mem_range];refine ⟨?_,h⟩;unfold fO at h;rw [Bool.and_eq_true] at h;cases hq:(eW md ops).2[i]? with
 | none=>rw [hq] at h;simp at h
 | some r=>exact (List.getElem?_eq_some_iff.1 hq).1
theorem gJ (h:(l.toList.set i true == l'.toList) = true):(l.setIfInBounds i true == l') = true:=by
 rw [beq_iff_eq] at h ⊢;apply Array.ext'
 rw [Array.toList_setIfInBounds];exact h
def rN (T:Bool×List (List Nat×List Nat)) (l l':List Bool) (i:Nat):Bool:=T.1 && lY T.2 l i && fO T.2 l i && (l.set i true == l')
theorem dG (hT:eW md ops = T) (h:rN T l.toList l'.toList i = true):qd md ops l l' i = true:=by
 simp only [rN,Bool.and_eq_true] at h;obtain ⟨⟨⟨h1,h2⟩,h3⟩,h4⟩:=h;have h5:=js h3 hT;have j:=gJ h4;subst hT;simp only [qd,Bool.and_eq_true];exact ⟨⟨⟨h1,by rw [nt];exact h2⟩,h5⟩,j⟩
def oZ (T:Bool×List (List Nat×List Nat)) (ds:List Nat) (l l':List Bool) (i:Nat):Bool:=T.1 && lY T.2 l i && fO T.2 l i && jD T.2 l && nr T.2 l ds i && (l.set i true == l')
theorem qw (hT:eW md ops = T) (h:oZ T ds l.toList l'.toList i = true):lU md ops ds l l' i = true:=by
 simp only [oZ,Bool.and_eq_true] at h;obtain ⟨⟨⟨⟨⟨h1,h2⟩,h3⟩,h4⟩,h5⟩,j⟩:=h;have y:=js h3 hT;have z:=gJ j;subst hT;simp only [lU,Bool.and_eq_true];exact ⟨⟨⟨⟨⟨h1,by rw [nt];exact h2⟩,y⟩,by rw [nY];exact h4⟩,by rw [qv];exact h5⟩,z⟩
theorem dw (hT:eW md ops = T) (h:(iI T.2 l.toList == [i] && l.toList.set i true == l'.toList) = true):jb md ops l l' i = true:=by
 simp only [Bool.and_eq_true] at h;obtain ⟨h1,h2⟩:=h;subst hT;simp only [jb,Bool.and_eq_true];exact ⟨by rw [gI];exact h1,gJ h2⟩
theorem jd (hT:eW md ops = T) (h:(iI T.2 l.toList == [i,j] && l.toList.set i true == li.toList && l.toList.set j true == lj.toList) = true):(Region.ready md ops l == [i,j] && l.setIfInBounds i true == li && l.setIfInBounds j true == lj) = true:=by
 simp only [Bool.and_eq_true] at h ⊢;obtain ⟨⟨h1,h2⟩,h3⟩:=h;subst hT;exact ⟨⟨by rw [gI];exact h1,gJ h2⟩,gJ h3⟩
theorem p4 (hT:eW md ops = T) (h:(iI T.2 l.toList == [i,j,k] && l.toList.set i true == li.toList && l.toList.set j true == lj.toList && l.toList.set k true == lk.toList) = true) :
  (Region.ready md ops l == [i,j,k] && l.setIfInBounds i true == li && l.setIfInBounds j true == lj && l.setIfInBounds k true == lk) = true:=by
 simp only [Bool.and_eq_true] at h ⊢;obtain ⟨⟨⟨h1,h2⟩,h3⟩,h4⟩:=h;subst hT;exact ⟨⟨⟨by rw [gI];exact h1,gJ h2⟩,gJ h3⟩,gJ h4⟩
theorem e7 (hT:eW md ops = T) (h:(iI T.2 l.toList == []) = true):(Region.ready md ops l == []) = true:=by
 subst hT;rw [gI];exact h
def rO (B:List Nat) (d:Nat):List Nat→Nat
 | []=>0
 | n :: r=>(2 ^ n ||| (if n < d then B.getD n 0 else 0)) ||| rO B d r
def eN (T:List (List Nat×List Nat)) (B:List Nat):Bool:=(List.range T.length).all fun d=>match T[d]? with
  | some r=>(B.getD d 0 ||| rO B d r.1) == rO B d r.1
  | none=>false
theorem nu {B:List Nat} {d i:Nat}:∀ {ns:List Nat},(rO B d ns).testBit i = true→∃ n∈ns,n = i∨(n < d∧(B.getD n 0).testBit i = true)
 | [],h=>by simp [rO] at h
 | n :: r,h=>by
  unfold rO at h;rw [Nat.testBit_or,Nat.testBit_or,Bool.or_eq_true,Bool.or_eq_true] at h;rcases h with (h | h) | h
  ·rw [Nat.testBit_two_pow] at h
   exact ⟨n,List.mem_cons_self,.inl (by simpa using h)⟩
  ·by_cases hn:n < d
   ·rw [if_pos hn] at h
    exact ⟨n,List.mem_cons_self,.inr ⟨hn,h⟩⟩
   ·rw [if_neg hn] at h
    simp at h
  ·obtain ⟨m,hm,h2⟩:=nu h
   exact ⟨m,List.mem_cons_of_mem _ hm,h2⟩
theorem kG {T:List (List Nat×List Nat)} {B:List Nat} (hB:eN T B = true):∀ (fuel d:Nat),d < fuel→d < T.length→(B.getD d 0).testBit i = true→jc T i fuel d = true
 | 0,d,h,_,_=>by omega
 | fuel+1,d,h,hd,hb=>by
  have h1:=List.all_eq_true.1 hB d (List.mem_range.2 hd);cases hr:T[d]? with
  | none=>rw [hr] at h1;simp at h1
  | some r =>
   rw [hr] at h1;simp only [beq_iff_eq] at h1;have h2:(rO B d r.1).testBit i = true:=by rw [← h1,Nat.testBit_or,hb,Bool.true_or]
   obtain ⟨n,hn,h3⟩:=nu h2;unfold jc;rw [hr];simp only;rw [List.any_eq_true];refine ⟨n,hn,?_⟩;rcases h3 with rfl | ⟨h4,h5⟩
   ·simp
   ·rw [kG hB fuel n (by omega) (by omega) h5,Bool.or_true]
def qV (T:List (List Nat×List Nat)) (B:List Nat) (l:List Bool) (ds:List Nat) (i:Nat):Bool:=ds.all fun d=>l.getD d true || (decide (d < T.length) && (B.getD d 0).testBit i)
def p6 (T:Bool×List (List Nat×List Nat)) (B:List Nat) (ds:List Nat) (l l':List Bool) (i:Nat):Bool:=T.1 && lY T.2 l i && fO T.2 l i && jD T.2 l && qV T.2 B l ds i && (l.set i true == l')
theorem jU {B:List Nat} (hT:eW md ops = T) (hB:eN T.2 B = true) (h:p6 T B ds l.toList l'.toList i = true):lU md ops ds l l' i = true:=by
 refine qw hT ?_;simp only [p6,oZ,Bool.and_eq_true] at h ⊢;obtain ⟨⟨⟨⟨⟨h1,h2⟩,h3⟩,h4⟩,h5⟩,z⟩:=h;refine ⟨⟨⟨⟨⟨h1,h2⟩,h3⟩,h4⟩,?_⟩,z⟩;unfold qV at h5;unfold nr;rw [List.all_eq_true] at h5 ⊢;intro d hd;have j:=h5 d hd;rw [Bool.or_eq_true,Bool.and_eq_true,decide_eq_true_eq] at j;rcases j with j | ⟨y,I⟩
 ·rw [j,Bool.true_or]
 ·rw [kG hB _ d y y I,Bool.or_true]
theorem dn {P:Program} {Q:Exit→Act→World→Prop} {S:World→Prop} {n:Nat} {a:Act} {w:World} {B:List Nat} (hT:eW md ops = T) (hB:eN T.2 B = true) (h:ae (eW md ops = T)→ae (eN T.2 B = true)→bq P md ops Q S ds n l a w):bq P md ops Q S ds n l a w:=h ⟨hT⟩ ⟨hB⟩
end
def iB:Code→Nat→Option (Array Oper)
  | .region id ops _,k=>if id == k then some ops else none
  | .seq a b,k=>match iB a k with
    | some o=>some o
    | none=>iB b k
  | .cond _ a b,k=>match iB a k with
    | some o=>some o
    | none=>iB b k
  | .block _ c,k=>iB c k
  | .loop c,k=>iB c k
  | .scope c,k=>iB c k
  | .rangeFunc _ _ a b,k=>match iB a k with
    | some o=>some o
    | none=>iB b k
  | _,_=>none
def opsOf (f:Func) (k:Nat):Array Oper:=((f.body.bind fun c=>iB c k)).getD #[]
end Go.Proofs.ag.cz
end
namespace Go.Proofs.YtlfkfdmggpipbaaGreat
section
namespace af
open Go.RowKit ag.b6 ag.cz ag.cA
structure lp (P:Program) (W:World) (fv:Value) (g:Int→Option Bool):Prop where
 mk :: (out:∃ (f:Nat) (caps:Array Value) (fn:Func),fv = .func (.func f) #[] caps∧P.funcs[f]? = some fn∧(fn.name == "runtime.NumGoroutine") = false∧fn.body.isSome = true ∧
  ∀ (s:Int) (b:Bool) (w:World),Below W.heap.size W w→g s = some b→Calls P f (#[.int .i64 s] ++ caps) w fun e w'=>e = .returned (.bool b)∧Below w.heap.size w w')
theorem lp.below {P:Program} {W W1:World} {fv:Value} {g:Int→Option Bool} (h:lp P W fv g) (hb:Below W.heap.size W W1):lp P W1 fv g:=by
 obtain ⟨f,caps,fn,h1,h2,h3,h4,h5⟩:=h.out;exact ⟨⟨f,caps,fn,h1,h2,h3,h4,fun s b w hw hg=>h5 s b w (jI hb hb.size hw) hg⟩⟩
theorem lq {P:Program} {ops:Array Oper} {Q:Exit→Act→World→Prop} {rest:List Oper} {oi:Oper} {a:Act} {W w:World} {fv:Value} {g:Int→Option Bool} {s:Int} {b:Bool} (N:Option Tmp) (hd:oi.dst = N) (hg:oi.guard = none) (t:Tmp) {ars:Array Operand} {ts:Array TypeId}
  (hop:oi.op = .call { callee:=.value (.tmp t),args:=ars,argTypes:=ts }) (hF:lp P W fv g) (hb:g s = some b) (hB:Below W.heap.size W w) (hv:a.eval (.tmp t) = fv) (hargs:ars.map a.eval = #[.int .i64 s])
  (h:∀ w',Below w.heap.size w w'→wpList P ops Q rest (a.put N (.bool b)) w'):wpList P ops Q (oi :: rest) a w:=by
 obtain ⟨f,caps,fn,rfl,hf,hname,hbody,hc⟩:=hF.out;refine wpList_plain hg fun K hK=>?_
 have he:=iQ hf hname hbody (#[.int .i64 s] ++ caps) w;have hrun:(execOp a.eval oi).run P w = .ok (.enter f (#[.int .i64 s] ++ caps)) w:=by
  unfold execOp;simp [hop,resolve,Deferred.ofValue,invoke,hv,hargs];simpa using he
 unfold Oper.wp;rw [hrun,Oper.upon_enter];refine (hc s b w hB hb).mono fun e w'' hh=>?_
 obtain ⟨rfl,hk⟩:=hh;subst hd;exact hK _ _ (h _ hk)
class fo (W W':World):Prop where
 h:Below W.heap.size W W'
instance (W:World):fo W W:=⟨Below.refl _ _⟩
instance (W V:World) (o:Obj) [a:fo W V]:fo W (V.alloc o):=⟨dm a.h o⟩
instance (W V:World) (n:Nat) [a:fo W V]:fo W (V.drewN n):=⟨cM a.h n⟩
instance (W V:World) [a:fo W V]:fo W V.drew:=⟨cu a.h⟩
theorem Rw {α:Type} {d:Kd α} {e:Nat} {W W':World} {base:Nat} {ok:Nat→Prop} {v:Value} {xs:List α} (h:Kd.R d e W base ok v xs) [a:fo W W']:Kd.R d e W' base ok v xs:=Kd.cR h a.h
theorem Sw {α:Type} {d:Kd α} {e:Nat} {W W':World} {base:Nat} {ok:Nat→Prop} {v:Value} {xs:List α} (h:Kd.S d e W base ok v xs) [a:fo W W']:Kd.S d e W' base ok v xs:=Kd.gA h a.h
theorem Cw {α:Type} {d:Kd α} {W W':World} {A:Option Addr} {n:Nat} {xs:List α} (h:Kd.C d W A n xs) [a:fo W W']:Kd.C d W' A n xs:=Kd.aW h a.h
theorem Bw {W W':World} {g:Nat} {o:Obj} (h:W.heap[g]? = some o) [a:fo W W']:W'.heap[g]? = some o:=aU h a.h
theorem Lw {w W W':World} (h:Below w.heap.size w W) [a:fo W W']:Below w.heap.size w W':=aH h a.h
theorem O {p:Prop} (h:ae p:=by assumption):p:=h.out
theorem D {p:Prop} [Decidable p] (h:decide p = true:=by first | (with_reducible assumption) | assumption):p:=of_decide_eq_true h
theorem E {p:Prop} (h:p:=by first | rfl | (simp [ez,eA] <;> rfl) | (simp [*,ez,eA] <;> rfl)):p:=h
theorem F {p:Prop} (h:p:=by first | rfl | (simp;done) | (simp [*];done)):p:=h
theorem G {p:Prop} (h:p:=by repeat (first | exact cj.refl _ | apply cj.step)):p:=h
theorem Z {p:Prop} (h:p:=by first | with_reducible exact H | (have H2_:=(Option.bind_some _ _).symm.trans H;with_reducible exact H2_) | exact H):p:=h
theorem ip {c:Prop} [Decidable c] {α:Type} {t:Option α} {r:α} (h:(if c then t else none) = some r):c∧t = some r:=by
 by_cases hc:c
 ·rw [if_pos hc] at h;exact ⟨hc,h⟩
 ·rw [if_neg hc] at h;cases h
theorem be {α β:Type} {x:Option α} {f:α→Option β} {b:β} (h:x.bind f = some b):∃ a,ae (x = some a)∧f a = some b:=by
 obtain ⟨a,h1,h2⟩:=Option.bind_eq_some_iff.mp h;exact ⟨a,⟨h1⟩,h2⟩
theorem W {p:Prop} (h:p:=by first | exact ⟨rfl,_,World.drewN_drewN _ _ _⟩ | exact ⟨rfl,_,Eq.trans (World.drewN_drewN _ _ _) (congrArg (World.drewN _) (Nat.add_assoc _ _ _))⟩):p:=h
theorem N {p:Prop} (h:p:=by first | exact Kd.jq _ _ _ _ _ | exact Kd.qS _ _ _ _ _ | exact Kd.qU _ _ _ _ _ | exact Kd.qP _ _ _ _ _ | exact Kd.qQ _ _ _ _ _):p:=h
theorem L {p:Prop} (h:p:=by repeat (first | (with_reducible first | exact af.O | apply dm | apply cM | apply cu | refine dY ?_ af.O) | exact af.O)):p:=h
theorem fr {W:World} {g:Nat} {o:Obj} {p:Addr} {u:Value} (h:W.heap[g]? = some o) (hp:g≠p.block):(W.setCell p u).heap[g]? = some o:=(Below.heap_setCell W p u g hp).trans h
theorem B {p:Prop} (h:p:=by repeat (first | (with_reducible first | exact af.O | apply nQ | apply dQ | apply j7 | refine af.fr ?_ af.O) | apply eS | rfl)):p:=h
theorem K {w W W':World} {g:Nat} {row:Option Nat} (_h:ae (bn w W g row)) (k:bn w W' g row:=by repeat (first | (with_reducible first | exact af.O | apply bn.nO | apply gy | apply nS | apply mF | refine fL ?_ af.O _) | exact af.O)):bn w W' g row:=k
theorem ai {k:IntKind} {w:World} {A:Option Addr} {n:Nat} {xs:List Int} (h:(Kd.int k).C w A n xs) (i:Int) (p:0≤i:=by exact af.D) (q:i < n:=by exact af.D):∃ ad,A = some ad∧w.cell? (ad.add i.toNat) = some (.int k (rd xs i))∧(0≤i) = True∧(i < (n:Int)) = True:=by
 obtain ⟨ad,h1,h2⟩:=Kd.cN h i p q;exact ⟨ad,h1,h2,eq_true p,eq_true q⟩
theorem gw {w W W':World} {g:Nat} (hg:g = W'.heap.size) (h:ae (Below w.heap.size w W)) [fo W W']:ae (w.heap.size≤g):=⟨by rw [hg];exact an (Lw h.out)⟩
theorem gL {w W':World} {g:Nat} (hg:g = W'.heap.size) (h:Below w.heap.size w W'):ae (w.heap.size≤g):=⟨by rw [hg];exact an h⟩
theorem nl {W W':World} {g g':Nat} {o:Obj} (hg:g' = W'.heap.size) (h:ae (W.heap[g]? = some o)) [fo W W']:ae (g≠g'):=⟨by rw [hg];exact Nat.ne_of_lt (gH (Bw h.out))⟩
theorem ng {W W':World} {g g':Nat} {o:Obj} (hg:g' = W'.heap.size) (h:ae (W.heap[g]? = some o)) [fo W W']:ae (g'≠g):=⟨by rw [hg];exact Nat.ne_of_gt (gH (Bw h.out))⟩
theorem bb {W W' W2:World} {g:Nat} {o:Obj} (h:ae (W.heap[g]? = some o)) (hb:Below W'.heap.size W' W2) [fo W W']:ae (W2.heap[g]? = some o):=⟨aU (Bw h.out) hb⟩
theorem lb {w W W' W2:World} (h:ae (Below w.heap.size w W)) (hb:Below W'.heap.size W' W2) [fo W W']:ae (Below w.heap.size w W2):=⟨aH (Lw h.out) hb⟩
theorem rb {α:Type} {d:Kd α} {e:Nat} {W W' W2:World} {base:Nat} {ok:Nat→Prop} {v:Value} {xs:List α} (h:ae (Kd.R d e W base ok v xs)) (hb:Below W'.heap.size W' W2) [fo W W']:ae (Kd.R d e W2 base ok v xs):=⟨Kd.cR (Rw h.out) hb⟩
section
variable {P:Program} {ops:Array Oper} {rest:List Oper} {a:Act} {Q:Exit→Act→World→Prop}
theorem gl {o:Oper} {w:World} (N:Option Tmp) {f:FuncId} {fn:Func} {as_q:Array Operand} {ts:Array TypeId} (hf:P.funcs[f]? = some fn) (args:Array Value)
  (h:Calls P f args w fun e w'=>∃ v,e = .returned v∧wpList P ops Q rest (a.put N v) w') (hd:o.dst = N:=by with_reducible rfl) (hop:o.op = .call { callee:=.value (.func f),args:=as_q,argTypes:=ts }:=by with_reducible rfl) (hg:o.guard = none:=by rfl)
  (hname:(fn.name == "runtime.NumGoroutine") = false:=by kernel_rfl) (hb:fn.body.isSome = true:=by rfl) (hargs:as_q.map a.eval = args:=by (try simp only [List.map_toArray,List.map_cons,List.map_nil]);first | done | rfl):wpList P ops Q (o :: rest) a w:=mH N hd hg hf hname hb args hop hargs h
theorem bx {o:Oper} {W:World} (N:Tmp) (cs:Array Value) (t:TypeId)
  (h:∀ g,g = W.heap.size→∀ w1,w1.heap[g]? = some (.cells cs t (0,0))→Below W.heap.size W w1→wpList P ops Q rest (a.put o.dst (.pointer (some ⟨g,0,none⟩))) w1) (hd:o.dst = some N:=by with_reducible rfl) (hgd:o.guard = none:=by rfl)
  (hrun:(execOp a.eval o).run P W = .ok (.value (.pointer (some ⟨W.heap.size,0,none⟩))) (W.alloc (.cells cs t (0,0))):=by first | (go_simp;done) | (go_simp;rfl)):wpList P ops Q (o :: rest) a W:=dg hgd hd hrun h
theorem lt {o:Oper} {α:Type} (d:Kd α) {W:World} (e:Nat) (N:Tmp)
  (h:∀ v1 w1,d.R e w1 W.heap.size (fun _=>True) v1 []→Below W.heap.size W w1→W.grownBy w1 none→(∃ b,v1.ownBlock = some b∧W.heap.size≤b)→wpList P ops Q rest (a.put o.dst v1) w1) (hd:o.dst = some N:=by with_reducible rfl) (hgd:o.guard = none:=by rfl)
  (hrun:(execOp a.eval o).run P W = .ok (.value (.slice (some ⟨W.heap.size,0,none⟩) 0 0)) (W.alloc (.cells #[] e)):=by first | (go_simp;done) | (go_simp;rfl)):wpList P ops Q (o :: rest) a W :=
 Kd.nh d _ e hgd hd (xs:=[]) (inner:=[]) (ok:=fun _=>True) (okp:=fun _=>True) hrun (ck.none _ _) (fun _ hk=>hk) trivial (Below.refl _ _) (Nat.le_refl _) (by simp) h
end
section
variable {P:Program} {md:Region.Mode} {ops:Array Oper} {Q:Exit→Act→World→Prop} {S:World→Prop} {ds:List Nat} {T:Bool×List (List Nat×List Nat)} {B:List Nat} {oi:Oper} {v:Value} {fuel:Nat} {l l':Array Bool} {a a':Act} {w:World}
theorem pu (i:Nat) (N:Tmp) (HT:ae (eW md ops = T)) (h:bq P md ops Q S ds fuel l' a' w) (hi:ops[i]? = some oi:=by rfl) (hN:oi.dst = some N:=by rfl) (_hl:l.setIfInBounds i true = l':=by simp only [List.setIfInBounds_toArray,List.set_cons_zero,List.set_cons_succ];rfl)
  (hc:rN T l.toList l'.toList i = true:=by kernel_rfl) (hQ:∀ c a w,Q (.panic c) (a.put oi.dst v) w→Q (.panic c) a w:=by exact fun _ _ _ h=>h)
  (hy:Yields P ops oi v a:=by exact Or.inl ⟨by rfl,by intro w';go_simp;with_reducible rfl⟩) (ha:a.put (some N) v = a':=by simp only [Act.put,List.setIfInBounds_toArray,List.set_cons_zero,List.set_cons_succ,bw,bR];rfl):bq P md ops Q S ds (fuel+1) l a w :=
 eu l' hi hN (dG HT.out hc) hQ hy ha h
theorem tk (i:Nat) (N:Tmp) (HT:ae (eW md ops = T)) (HW:ae (eN T.2 B = true)) (hS:S w) (h:bq P md ops Q S ds fuel l' a' w) (hi:ops[i]? = some oi:=by rfl) (hN:oi.dst = some N:=by rfl) (_hl:l.setIfInBounds i true = l':=by simp only [List.setIfInBounds_toArray,List.set_cons_zero,List.set_cons_succ];rfl)
  (hc:p6 T B ds l.toList l'.toList i = true:=by kernel_rfl) (hQ:∀ c a w,Q (.panic c) (a.put oi.dst v) w→Q (.panic c) a w:=by exact fun _ _ _ h=>h)
  (hy:YieldsIf P ops S oi v a:=by exact Or.inl ⟨by rfl,by intro w' hs;(repeat (obtain ⟨_,hs⟩:=hs));go_simp;with_reducible rfl⟩) (ha:a.put (some N) v = a':=by simp only [Act.put,List.setIfInBounds_toArray,List.set_cons_zero,List.set_cons_succ,bw,bR];rfl):bq P md ops Q S ds (fuel+1) l a w :=
 jK l' hi hN (jU HT.out HW.out hc) hQ hy hS ha h
end
theorem bO {W:World} {g:Nat} {a b:Value} {t:Nat} (h:W.heap[g]? = some (.cells #[a,b] t (0,0))):W.cell? ⟨g,0,none⟩ = some a∧W.cell? ⟨g,1,none⟩ = some b∧W.frozen? ⟨g,0,none⟩ = false∧W.frozen? ⟨g,1,none⟩ = false:=⟨(ah h 0).trans rfl,(ah h 1).trans rfl,aj h 0,aj h 1⟩
theorem lu {W:World} {g:Nat} {a b c:Value} {t:Nat} (h:W.heap[g]? = some (.cells #[a,b,c] t (0,0))):W.cell? ⟨g,0,none⟩ = some a∧W.cell? ⟨g,1,none⟩ = some b∧W.cell? ⟨g,2,none⟩ = some c∧W.frozen? ⟨g,0,none⟩ = false∧W.frozen? ⟨g,1,none⟩ = false∧W.frozen? ⟨g,2,none⟩ = false:=⟨(ah h 0).trans rfl,(ah h 1).trans rfl,(ah h 2).trans rfl,aj h 0,aj h 1,aj h 2⟩
class Mo {α:Type} (a b:Option α):Prop where out:eX a b
theorem mz {α:Type} {a b:Option α} (h:a = none):Mo a b:=⟨by rw [h];exact eX.none _⟩
theorem mt {α:Type} {a b:Option α} (h:eX a b:=by with_reducible repeat' first | exact eX.refl _ | refine eX.bind ?_ fun _=>?_ | refine eX.ite ?_ ?_ | exact af.Mo.out | exact eX.none _ | intro _):eX a b:=h
abbrev V1 {α0 β:Type} (F:Nat→α0→Option β):Prop:=∀ y0 k,Mo (F k y0) (F (k+1) y0)
abbrev S2 {α0 α1 β:Type} (F:Nat→α0→α1→Option β) (k:Nat):Prop:=∀ y0 y1,Mo (F k y0 y1) (F (k+1) y0 y1)
abbrev V2 {α0 α1 β:Type} (F:Nat→α0→α1→Option β):Prop:=∀ y0 y1 k,Mo (F k y0 y1) (F (k+1) y0 y1)
abbrev S3 {α0 α1 α2 β:Type} (F:Nat→α0→α1→α2→Option β) (k:Nat):Prop:=∀ y0 y1 y2,Mo (F k y0 y1 y2) (F (k+1) y0 y1 y2)
abbrev V3 {α0 α1 α2 β:Type} (F:Nat→α0→α1→α2→Option β):Prop:=∀ y0 y1 y2 k,Mo (F k y0 y1 y2) (F (k+1) y0 y1 y2)
abbrev S4 {α0 α1 α2 α3 β:Type} (F:Nat→α0→α1→α2→α3→Option β) (k:Nat):Prop:=∀ y0 y1 y2 y3,Mo (F k y0 y1 y2 y3) (F (k+1) y0 y1 y2 y3)
abbrev S5 {α0 α1 α2 α3 α4 β:Type} (F:Nat→α0→α1→α2→α3→α4→Option β) (k:Nat):Prop:=∀ y0 y1 y2 y3 y4,Mo (F k y0 y1 y2 y3 y4) (F (k+1) y0 y1 y2 y3 y4)
abbrev S6 {α0 α1 α2 α3 α4 α5 β:Type} (F:Nat→α0→α1→α2→α3→α4→α5→Option β) (k:Nat):Prop:=∀ y0 y1 y2 y3 y4 y5,Mo (F k y0 y1 y2 y3 y4 y5) (F (k+1) y0 y1 y2 y3 y4 y5)
end af
end
end Go.Proofs.YtlfkfdmggpipbaaGreat
namespace Go.Proofs.YtlfkfdmggpipbaaGreat
abbrev ac:=@af.Rw
abbrev n8:=@af.Lw
abbrev na:=@af.F
abbrev nb:=@af.L
abbrev ne:=@af.gl
abbrev nm:=@af.Bw
abbrev no:=@af.lb
abbrev np:=@af.pu
abbrev nz:=@af.bb
abbrev o0:=@af.gw
abbrev ob:=@af.bO
abbrev ol:=@af.ip
abbrev oX:=@af.G
abbrev oY:=@af.be
abbrev p0:=@af.D
abbrev pa:=@af.Cw
abbrev pd:=@af.bx
abbrev pf:=@af.ai
abbrev ph:=@af.Z
abbrev pi:=@af.E
abbrev pj:=@af.B
abbrev pk:=@af.nl
abbrev pl:=@af.ng
abbrev pm:=@af.rb
abbrev pp:=@af.W
abbrev pr:=@af.gL
abbrev pt:=@af.tk
abbrev pv:=@af.mt
end Go.Proofs.YtlfkfdmggpipbaaGreat
section
namespace Go.Proofs.ag.b6
theorem ck.one {α:Type} {R:α→List Value→Prop} {ps:List α} {cs:List Value} {p:α} {v:Value} (hp:R p [v]) (h:ck R 1 ps cs):ck R 1 (p :: ps) (v :: cs):=by
 refine ⟨by simp [h.1],fun j q hq=>?_⟩;cases j with
 | zero =>
  simp only [List.getElem?_cons_zero,Option.some.injEq] at hq;subst hq;simpa using hp
 | succ j =>
  simp only [List.getElem?_cons_succ] at hq;have h1:=h.2 j q hq;simpa [Nat.mul_one] using h1
theorem ck.front {α:Type} {R:α→List Value→Prop} {size:Nat} {ps:List α} {cs c all:List Value} {p:α} (hp:R p c) (hc:c.length = size) (h:ck R size ps cs) (ha:c ++ cs = all):ck R size (p :: ps) all:=by
 subst ha;refine ⟨by rw [List.length_append,hc,h.1,List.length_cons,Nat.succ_mul,Nat.add_comm],fun j q hq=>?_⟩;cases j with
 | zero =>
  simp only [List.getElem?_cons_zero,Option.some.injEq] at hq;subst hq;rw [Nat.zero_mul,List.drop_zero,List.take_append_of_le_length (by omega),List.take_of_length_le (by omega)];exact hp
 | succ j =>
  simp only [List.getElem?_cons_succ] at hq;have h1:=h.2 j q hq;rw [Nat.succ_mul,List.drop_append,List.drop_of_length_le (by rw [hc];exact Nat.le_add_left _ _),List.nil_append,hc,Nat.add_sub_cancel];exact h1
theorem ck.c2 {α:Type} {R:α→List Value→Prop} {ps:List α} {cs:List Value} {p:α} {va vb:Value} (hp:R p [va,vb]) (h:ck R 2 ps cs):ck R 2 (p :: ps) (va :: vb :: cs):=ck.front hp rfl h rfl
theorem ck.c3 {α:Type} {R:α→List Value→Prop} {ps:List α} {cs:List Value} {p:α} {va vb vc:Value} (hp:R p [va,vb,vc]) (h:ck R 3 ps cs):ck R 3 (p :: ps) (va :: vb :: vc :: cs):=ck.front hp rfl h rfl
theorem ck.c4 {α:Type} {R:α→List Value→Prop} {ps:List α} {cs:List Value} {p:α} {va vb vc vd:Value} (hp:R p [va,vb,vc,vd]) (h:ck R 4 ps cs):ck R 4 (p :: ps) (va :: vb :: vc :: vd :: cs):=ck.front hp rfl h rfl
theorem ck.c5 {α:Type} {R:α→List Value→Prop} {ps:List α} {cs:List Value} {p:α} {va vb vc vd j:Value} (hp:R p [va,vb,vc,vd,j]) (h:ck R 5 ps cs):ck R 5 (p :: ps) (va :: vb :: vc :: vd :: j :: cs):=ck.front hp rfl h rfl
theorem ck.c6 {α:Type} {R:α→List Value→Prop} {ps:List α} {cs:List Value} {p:α} {va vb vc vd j vf:Value} (hp:R p [va,vb,vc,vd,j,vf]) (h:ck R 6 ps cs):ck R 6 (p :: ps) (va :: vb :: vc :: vd :: j :: vf :: cs):=ck.front hp rfl h rfl
theorem ck.c7 {α:Type} {R:α→List Value→Prop} {ps:List α} {cs:List Value} {p:α} {va vb vc vd j vf y:Value} (hp:R p [va,vb,vc,vd,j,vf,y]) (h:ck R 7 ps cs):ck R 7 (p :: ps) (va :: vb :: vc :: vd :: j :: vf :: y :: cs):=ck.front hp rfl h rfl
theorem ck.c8 {α:Type} {R:α→List Value→Prop} {ps:List α} {cs:List Value} {p:α} {va vb vc vd j vf y vh:Value} (hp:R p [va,vb,vc,vd,j,vf,y,vh]) (h:ck R 8 ps cs):ck R 8 (p :: ps) (va :: vb :: vc :: vd :: j :: vf :: y :: vh :: cs):=ck.front hp rfl h rfl
theorem ck.c9 {α:Type} {R:α→List Value→Prop} {ps:List α} {cs:List Value} {p:α} {va vb vc vd j vf y vh vi:Value} (hp:R p [va,vb,vc,vd,j,vf,y,vh,vi]) (h:ck R 9 ps cs):ck R 9 (p :: ps) (va :: vb :: vc :: vd :: j :: vf :: y :: vh :: vi :: cs):=ck.front hp rfl h rfl
theorem ck.iw {α:Type} {R:α→List Value→Prop} {ps:List α} {cs:List Value} {p:α} {va vb vc vd j vf y vh vi vj:Value} (hp:R p [va,vb,vc,vd,j,vf,y,vh,vi,vj]) (h:ck R 10 ps cs):ck R 10 (p :: ps) (va :: vb :: vc :: vd :: j :: vf :: y :: vh :: vi :: vj :: cs):=ck.front hp rfl h rfl
open Go.RowKit
section
variable {P:Program} {ops:Array Oper} {rest:List Oper} {o:Oper} {a:Act} {Q:Exit→Act→World→Prop} {W:World}
theorem cG (hw:Region.wanted o (yielded ops a.tmps) = true) (h:wpList P ops Q ({ o with guard:=none } :: rest) a W):wpList P ops Q (o :: rest) a W:=by
 have h1:Region.wanted { o with guard:=none } (yielded ops a.tmps) = true:=rfl;unfold wpList at h ⊢;rw [if_pos h1] at h;rw [if_pos hw];exact h
end
end Go.Proofs.ag.b6
end
namespace Go.Proofs.YtlfkfdmggpipbaaGreat
section
namespace Pr
open Go.RowKit ag.b6 ag.cz ag.cA
attribute [local go_sem] gh gi gV gW fF fG gj gn
set_option linter.unusedVariables false
set_option linter.unusedSimpArgs false
def sw:Option Int→Value
 | none=>.nilIface
 | some c=>.iface 0 (.int .i64 c)
theorem ez:sw none = .nilIface:=rfl
theorem eA (c:Int):sw (some c) = .iface 0 (.int .i64 c):=rfl
theorem e9:(Tryz.prog.info? 3).map (fun i=>(i.zero,i.size,i.bytes)) = some (some (.int .i64 0),1,8):=by kernel_rfl
theorem iJ:(Tryz.prog.info? 37).map (fun i=>(i.zero,i.size,i.bytes)) = some (some (.agg #[(.int .i64 0),(.slice none 0 0)]),2,32):=by kernel_rfl
structure dA where
 f0:Int
 f1:(List Int)
def z37:dA:=⟨(0:Int),([]:List Int)⟩
def gp:Kd dA:=Kd.sH (Kd.pair (Kd.int .i64) (Kd.slice 3 (Kd.int .i64))) (fun x:dA=>(x.f0,x.f1))
theorem gK {w:World} {x:dA} {cs:List Value} (h:gp.K w x cs):∃ j c1,cs = [.int .i64 x.f0,.slice j x.f1.length c1]∧x.f1.length≤c1∧(Kd.int .i64).C w j x.f1.length x.f1:=by
 obtain ⟨_,_,rfl,rfl,⟨j,c1,rfl,l1,g1⟩⟩:=h;exact ⟨j,c1,rfl,l1,g1⟩
theorem rP (w:World) (x:dA) {j:Option Addr} {c1:Nat} (l1:x.f1.length≤c1) (g1:(Kd.int .i64).C w j x.f1.length x.f1):gp.K w x [.int .i64 x.f0,.slice j x.f1.length c1]:=⟨[.int .i64 x.f0],[.slice j x.f1.length c1],rfl,rfl,⟨j,c1,rfl,l1,g1⟩⟩
theorem qx (w:World) (base:Nat) (ok:Nat→Prop) (x:dA) {v1:Value} (g1:(Kd.int .i64).R 3 w base ok v1 x.f1):gp.M w base ok x [.int .i64 x.f0,v1]:=⟨[.int .i64 x.f0],[v1],rfl,rfl,⟨v1,rfl,g1⟩⟩
theorem fc {W:World} {ok:Nat→Prop} {x:dA} {cs:List Value} (h:Kd.FK gp W ok x cs):∃ j c1,cs = [.int .i64 x.f0,.slice j x.f1.length c1]∧x.f1.length≤c1∧Kd.F (Kd.int .i64) W ok j x.f1.length x.f1:=by
 obtain ⟨j,c1,rfl,l1,_⟩:=gK (Kd.iF h);exact ⟨j,c1,rfl,l1,(fun W' hW=>by obtain ⟨y,z,he,M,I⟩:=gK (h W' hW);injection (Option.some.inj (show some (Value.slice j x.f1.length c1) = some (Value.slice y x.f1.length z) from congrArg (fun l=>l[1]?) he)) with J _ _;rw [J];exact I)⟩
theorem ic (W:World) (ok:Nat→Prop) (x:dA) {j:Option Addr} {c1:Nat} (l1:x.f1.length≤c1) (g1:Kd.F (Kd.int .i64) W ok j x.f1.length x.f1):Kd.FK gp W ok x [.int .i64 x.f0,.slice j x.f1.length c1]:=fun W2 hW=>rP W2 x l1 (g1 W2 hW)
def aG (xs:List dA) (i:Int):dA:=xs.getD i.toNat z37
theorem gM {w:World} {A:Option Addr} {n:Nat} {xs:List dA} (h:Kd.C gp w A n xs) (i:Int) (I:0≤i) (h1:i < n):∃ ad y c1,A = some ad∧w.cell? (ad.add (i.toNat * 2)) = some (.int .i64 (aG xs i).f0)∧w.cell? ⟨(ad.add (i.toNat * 2)).block,(ad.add (i.toNat * 2)).off+1,none⟩ = some (.slice y (aG xs i).f1.length c1)∧(aG xs i).f1.length≤c1∧(Kd.int .i64).C w y (aG xs i).f1.length (aG xs i).f1:=by
 obtain ⟨ad,c,e,_,hK,z⟩:=Kd.nf h z37 i I h1;have hc:∀ j u,c[j]? = some u→w.cell? (ad.add (i.toNat * 2+j)) = some u:=z;obtain ⟨y,c1,rfl,l1,g1⟩:=gK hK;exact ⟨ad,y,c1,e,hc 0 _ rfl,by rw [← eR _ _ 1 (by omega)];exact hc 1 _ rfl,l1,g1⟩
def bG.f (a0:Int) (j:Int) (a2:Int):Option (Bool):=if a0≥j then (some (decide (a0≤a2))) else (some false)
set_option maxHeartbeats 8000000 in
set_option maxRecDepth 100000 in
theorem bG.calls (a0:Int) (y:Int) (a2:Int) (r:Bool) (w:World) (h:bG.f a0 y a2 = some r) :
  Calls Tryz.prog 46 #[.int .i64 a0,.int .i64 y,.int .i64 a2] w fun e w'=>e = .returned (.bool r)∧cj w w':=by
 unfold bG.f at h;have H:=h;clear h;by_cases c4:a0≥y
 ·rw [if_pos c4] at H
  have j:=decide_eq_true c4;clear c4;obtain rfl:=Option.some.inj H;go_enter Tryz.func46,Tryz.ntmps46;go_wp2;go_ret;exact ⟨na,oX⟩
 ·rw [if_neg c4] at H
  have j:decide (y≤a0) = false:=decide_eq_false c4;clear c4;obtain rfl:=Option.some.inj H;go_enter Tryz.func46,Tryz.ntmps46;go_wp2;go_ret;exact ⟨na,oX⟩
def cH.f (a0:Int) (j:Int):Option (Bool):=(bG.f a0 0 8).bind fun t148=>(if t148 = true then (if 0≤(IntKind.u64.wrap (a0)) then ((bG.f j 0 (wrap64 ((shl .i64 1 (IntKind.u64.wrap (a0))) - 1))).bind fun t149=>(some t149)) else (none)) else (some false))
set_option maxHeartbeats 8000000 in
set_option maxRecDepth 100000 in
theorem cH.calls (a0:Int) (X:Int) (r:Bool) (w:World) (h:cH.f a0 X = some r) :
  Calls Tryz.prog 96 #[.int .i64 a0,.int .i64 X] w fun e w'=>e = .returned (.bool r)∧cj w w':=by
 unfold cH.f at h;have H:=h;clear h;obtain ⟨t148,A3,H⟩:=oY H;(try dsimp only at H);by_cases c4:t148 = true
 ·subst c4
  replace H:(if 0≤(IntKind.u64.wrap (a0)) then ((bG.f X 0 (wrap64 ((shl .i64 1 (IntKind.u64.wrap (a0))) - 1))).bind fun t149=>(some t149)) else (none)) = some r:=by rw [if_pos rfl] at H;exact H
  obtain ⟨j,I⟩:∃ j_:Int,(IntKind.u64.wrap (a0)) = j_:=⟨_,rfl⟩
  replace H:(if 0≤(j) then ((bG.f X 0 (wrap64 ((shl .i64 1 (j)) - 1))).bind fun t149=>(some t149)) else (none)) = some r:=by first | (rw [I] at H;exact H) | (simp only [I] at H ⊢;exact H)
  (try rw [I] at A3);obtain ⟨c6,H⟩:=ol H;have a6:=eq_true c6;have a7:decide (0≤(j)) = true:=decide_eq_true c6;clear c6;obtain ⟨z,y⟩:∃ j_:Int,(shl .i64 1 (j)) = j_:=⟨_,rfl⟩
  replace H:((bG.f X 0 (wrap64 ((z) - 1))).bind fun t149=>(some t149)) = some r:=by first | (rw [y] at H;exact H) | (simp only [y] at H ⊢;exact H)
  (try rw [y] at A3);have J:(IntKind.i64.wrap (1 * 2 ^ min (j).toNat 64)) = z:=y;have M:(j)≤64→(IntKind.i64.wrap (1 * 2 ^ (j).toNat)) = z:=dZ y;have a2:(IntKind.i64.wrap (2 ^ min (j).toNat 64)) = z:=by have U:=J;rw [Int.one_mul] at U;exact U
  have a3:(j)≤64→(IntKind.i64.wrap (2 ^ (j).toNat)) = z:=fun Y=>by have U:=M Y;rw [Int.one_mul] at U;exact U
  have a4:(wrap64 (1 * 2 ^ min (j).toNat 64)) = z:=(bw _).symm.trans J;have a5:(j)≤64→(wrap64 (1 * 2 ^ (j).toNat)) = z:=fun U=>(bw _).symm.trans (M U)
  obtain ⟨t149,A8,H⟩:=oY H;(try dsimp only at H);obtain rfl:=Option.some.inj H;go_enter Tryz.func96,Tryz.ntmps96;go_wp2_with (first | ((with_reducible refine aQ (f:=46) rfl ?_);refine ne (some 6) Tryz.func46 #[.int .i64 a0,.int .i64 0,.int .i64 8] ?_;(with_reducible refine (bG.calls a0 0 8 true _ A3.out).mono ?_);rintro e w' ⟨rfl,⟨nd,rfl⟩⟩;refine ⟨_,rfl,?_⟩) | (go_at_call 46;(with_reducible refine (bG.calls X 0 (wrap64 ((z) - 1)) t149 _ A8.out).mono ?_);rintro e w' ⟨rfl,⟨nd,rfl⟩⟩));go_ret;exact ⟨by first | rfl | (simp;done) | (simp only [← I,← y] <;> (first | rfl | simp)) | (simp [*];done),oX⟩
 ·replace c4:=Bool.eq_false_iff.mpr c4
  subst c4;replace H:(some false) = some r:=by rw [if_neg (show ¬ (false = true) by decide)] at H;exact H
  obtain rfl:=Option.some.inj H;go_enter Tryz.func96,Tryz.ntmps96;go_wp2_with (first | ((with_reducible refine aQ (f:=46) rfl ?_);refine ne (some 6) Tryz.func46 #[.int .i64 a0,.int .i64 0,.int .i64 8] ?_;(with_reducible refine (bG.calls a0 0 8 false _ A3.out).mono ?_);rintro e w' ⟨rfl,⟨nd,rfl⟩⟩;refine ⟨_,rfl,?_⟩));go_ret;exact ⟨na,oX⟩
def bA.l0:Nat→Int→List Int→Int→Option (Bool)
 | 0,_,_,_=>none
 | k+1,z,y,j=>if j < (y.length:Int) then (if 0≤j then ((cH.f z (rd y j)).bind fun t197=>(if t197 = true then (if j > 0 then (if 0≤(wrap64 (j - 1)) then (if (wrap64 (j - 1)) < (y.length:Int) then (if (rd y (wrap64 (j - 1)))≥(rd y j) then (some false) else (bA.l0 k z y (wrap64 (j+1)))) else (none)) else (none)) else (bA.l0 k z y (wrap64 (j+1)))) else (some false))) else (none)) else ((bG.f z 0 8).bind fun t200=>(some t200))
def bA.f (k:Nat) (a0:Int) (l1:List Int):Option (Bool):=bA.l0 k a0 l1 0
set_option maxHeartbeats 8000000 in
set_option maxRecDepth 100000 in
theorem bA.calls (k:Nat) (a0:Int) (A1:Option Addr) (c1:Nat) (l1:List Int) (r:Bool) (w:World) (ap:Kd.C (Kd.int .i64) w A1 l1.length l1) (ar:l1.length≤c1) (h:bA.f k a0 l1 = some r) :
  Calls Tryz.prog 92 #[.int .i64 a0,.slice A1 l1.length c1] w fun e w'=>e = .returned (.bool r)∧cj w w':=by
 have a5:=ae.mk ap;have aP:=ae.mk ar;clear ap ar;unfold bA.f at h;have H:=h;clear h;have H':=ae.mk H;clear H;go_enter Tryz.func92,Tryz.ntmps92;go_wp2;repeat (go_quiet (fail);try go_wp2)
 go_loopg [5] k (fun kq v5 w'=>∃ (j:Int),v5 = .int .i64 j∧ae (bA.l0 kq a0 l1 j = some r)∧ae (kq≤k)∧cj w w')
 case atStart=>exact ⟨(0),na,H',⟨Nat.le_refl _⟩,oX⟩
 case round =>
  clear H';obtain ⟨j,rfl,HA,al,⟨m1,rfl⟩⟩:=hrel;cases gk with
  | zero=>exact absurd HA.out (by simp [bA.l0])
  | succ k1 =>
   have H:=HA.out;clear HA;simp only [bA.l0] at H;by_cases c3:j < (l1.length:Int)
   ·rw [if_pos c3] at H
    have aw:=decide_eq_true c3;clear c3;obtain ⟨c4,H⟩:=ol H;have aL:=decide_eq_true c4;clear c4;obtain ⟨t197,A5,H⟩:=oY H;(try dsimp only at H);by_cases c6:t197 = true
    ·subst c6
     replace H:(if j > 0 then (if 0≤(wrap64 (j - 1)) then (if (wrap64 (j - 1)) < (l1.length:Int) then (if (rd l1 (wrap64 (j - 1)))≥(rd l1 j) then (some false) else (bA.l0 k1 a0 l1 (wrap64 (j+1)))) else (none)) else (none)) else (bA.l0 k1 a0 l1 (wrap64 (j+1)))) = some r:=by rw [if_pos rfl] at H;exact H
     by_cases c7:j > 0
     ·rw [if_pos c7] at H
      have aB:=decide_eq_true c7;clear c7;obtain ⟨U,a8⟩:∃ j_:Int,(wrap64 (j - 1)) = j_:=⟨_,rfl⟩
      replace H:(if 0≤(U) then (if (U) < (l1.length:Int) then (if (rd l1 (U))≥(rd l1 j) then (some false) else (bA.l0 k1 a0 l1 (wrap64 (j+1)))) else (none)) else (none)) = some r:=by first | (rw [a8] at H;exact H) | (simp only [a8] at H ⊢;exact H)
      (try rw [a8] at A5);have aE:(IntKind.i64.wrap (j - 1)) = U:=(bw _).trans a8;obtain ⟨c9,H⟩:=ol H;have aO:=decide_eq_true c9;clear c9;obtain ⟨iw,H⟩:=ol H;have aF:=decide_eq_true iw;clear iw;by_cases a9:(rd l1 (U))≥(rd l1 j)
      ·rw [if_pos a9] at H
       have am:=decide_eq_true a9;clear a9;obtain rfl:=Option.some.inj H;obtain ⟨M,a6,a7,aa,ab⟩:=pf a5.out j;cases a6
       go_wp2_with (first | (go_at_call 96;(with_reducible refine (cH.calls a0 (rd l1 j) true _ A5.out).mono ?_);rintro e w' ⟨rfl,⟨nd,rfl⟩⟩;(try exact pp);have y:0≤((U):Int):=p0;have z:(U) < (l1.length:Int):=p0;obtain ⟨X,a1,a2⟩:=Kd.cN a5.out (U) y z;obtain rfl:M = X:=(by injection a1);replace y:=eq_true y;replace z:=eq_true z;have I:0≤(j:Int):=p0;have J:j < (l1.length:Int):=p0;obtain ⟨Y,a3,a4⟩:=Kd.cN a5.out j I J;obtain rfl:M = Y:=(by injection a3);replace I:=eq_true I;replace J:=eq_true J));repeat (go_quiet (first | (go_at_call 96;(with_reducible refine (cH.calls a0 (rd l1 j) true _ A5.out).mono ?_);rintro e w' ⟨rfl,⟨nd,rfl⟩⟩;(try exact pp);have y:0≤((U):Int):=p0;have z:(U) < (l1.length:Int):=p0;obtain ⟨X,a1,a2⟩:=Kd.cN a5.out (U) y z;obtain rfl:M = X:=(by injection a1);replace y:=eq_true y;replace z:=eq_true z;have I:0≤(j:Int):=p0;have J:j < (l1.length:Int):=p0;obtain ⟨Y,a3,a4⟩:=Kd.cN a5.out j I J;obtain rfl:M = Y:=(by injection a3);replace I:=eq_true I;replace J:=eq_true J));try go_wp2_with (first | (go_at_call 96;(with_reducible refine (cH.calls a0 (rd l1 j) true _ A5.out).mono ?_);rintro e w' ⟨rfl,⟨nd,rfl⟩⟩;(try exact pp);have y:0≤((U):Int):=p0;have z:(U) < (l1.length:Int):=p0;obtain ⟨X,a1,a2⟩:=Kd.cN a5.out (U) y z;obtain rfl:M = X:=(by injection a1);replace y:=eq_true y;replace z:=eq_true z;have I:0≤(j:Int):=p0;have J:j < (l1.length:Int):=p0;obtain ⟨Y,a3,a4⟩:=Kd.cN a5.out j I J;obtain rfl:M = Y:=(by injection a3);replace I:=eq_true I;replace J:=eq_true J)))
       go_ret;exact ⟨by first | rfl | (simp;done) | (simp only [← a8] <;> (first | rfl | simp)) | (simp [*];done),oX⟩
      ·rw [if_neg a9] at H
       have am:decide ((rd l1 j)≤(rd l1 (U))) = false:=decide_eq_false a9;clear a9;have H':=ae.mk H;clear H;obtain ⟨M,a6,a7,aa,ab⟩:=pf a5.out j;cases a6
       go_wp2_with (first | (go_at_call 96;(with_reducible refine (cH.calls a0 (rd l1 j) true _ A5.out).mono ?_);rintro e w' ⟨rfl,⟨nd,rfl⟩⟩;(try exact pp);have y:0≤((U):Int):=p0;have z:(U) < (l1.length:Int):=p0;obtain ⟨X,a1,a2⟩:=Kd.cN a5.out (U) y z;obtain rfl:M = X:=(by injection a1);replace y:=eq_true y;replace z:=eq_true z;have I:0≤(j:Int):=p0;have J:j < (l1.length:Int):=p0;obtain ⟨Y,a3,a4⟩:=Kd.cN a5.out j I J;obtain rfl:M = Y:=(by injection a3);replace I:=eq_true I;replace J:=eq_true J));repeat (go_quiet (first | (go_at_call 96;(with_reducible refine (cH.calls a0 (rd l1 j) true _ A5.out).mono ?_);rintro e w' ⟨rfl,⟨nd,rfl⟩⟩;(try exact pp);have y:0≤((U):Int):=p0;have z:(U) < (l1.length:Int):=p0;obtain ⟨X,a1,a2⟩:=Kd.cN a5.out (U) y z;obtain rfl:M = X:=(by injection a1);replace y:=eq_true y;replace z:=eq_true z;have I:0≤(j:Int):=p0;have J:j < (l1.length:Int):=p0;obtain ⟨Y,a3,a4⟩:=Kd.cN a5.out j I J;obtain rfl:M = Y:=(by injection a3);replace I:=eq_true I;replace J:=eq_true J));try go_wp2_with (first | (go_at_call 96;(with_reducible refine (cH.calls a0 (rd l1 j) true _ A5.out).mono ?_);rintro e w' ⟨rfl,⟨nd,rfl⟩⟩;(try exact pp);have y:0≤((U):Int):=p0;have z:(U) < (l1.length:Int):=p0;obtain ⟨X,a1,a2⟩:=Kd.cN a5.out (U) y z;obtain rfl:M = X:=(by injection a1);replace y:=eq_true y;replace z:=eq_true z;have I:0≤(j:Int):=p0;have J:j < (l1.length:Int):=p0;obtain ⟨Y,a3,a4⟩:=Kd.cN a5.out j I J;obtain rfl:M = Y:=(by injection a3);replace I:=eq_true I;replace J:=eq_true J)))
       go_roundg k1;case measure=>have:=al.out;omega
       case rel=>exact ⟨(wrap64 (j+1)),na,H',⟨by have:=al.out;omega⟩,oX⟩
     ·rw [if_neg c7] at H
      have aB:decide (0 < j) = false:=decide_eq_false c7;clear c7;have H':=ae.mk H;clear H;obtain ⟨M,a6,a7,aa,ab⟩:=pf a5.out j;cases a6
      go_wp2_with (first | (go_at_call 96;(with_reducible refine (cH.calls a0 (rd l1 j) true _ A5.out).mono ?_);rintro e w' ⟨rfl,⟨nd,rfl⟩⟩;(try exact pp)));repeat (go_quiet (first | (go_at_call 96;(with_reducible refine (cH.calls a0 (rd l1 j) true _ A5.out).mono ?_);rintro e w' ⟨rfl,⟨nd,rfl⟩⟩;(try exact pp)));try go_wp2_with (first | (go_at_call 96;(with_reducible refine (cH.calls a0 (rd l1 j) true _ A5.out).mono ?_);rintro e w' ⟨rfl,⟨nd,rfl⟩⟩;(try exact pp))))
      go_roundg k1;case measure=>have:=al.out;omega
      case rel=>exact ⟨(wrap64 (j+1)),na,H',⟨by have:=al.out;omega⟩,oX⟩
    ·replace c6:=Bool.eq_false_iff.mpr c6
     subst c6;replace H:(some false) = some r:=by rw [if_neg (show ¬ (false = true) by decide)] at H;exact H
     obtain rfl:=Option.some.inj H;obtain ⟨M,a6,a7,aa,ab⟩:=pf a5.out j;cases a6
     go_wp2_with (first | (go_at_call 96;(with_reducible refine (cH.calls a0 (rd l1 j) false _ A5.out).mono ?_);rintro e w' ⟨rfl,⟨nd,rfl⟩⟩;(try exact pp)));repeat (go_quiet (first | (go_at_call 96;(with_reducible refine (cH.calls a0 (rd l1 j) false _ A5.out).mono ?_);rintro e w' ⟨rfl,⟨nd,rfl⟩⟩;(try exact pp)));try go_wp2_with (first | (go_at_call 96;(with_reducible refine (cH.calls a0 (rd l1 j) false _ A5.out).mono ?_);rintro e w' ⟨rfl,⟨nd,rfl⟩⟩;(try exact pp))))
     go_ret;exact ⟨na,oX⟩
   ·rw [if_neg c3] at H
    have aw:decide (j < (l1.length:Int)) = false:=decide_eq_false c3;clear c3;obtain ⟨t200,ao,H⟩:=oY H;(try dsimp only at H);obtain rfl:=Option.some.inj H;go_wp2_with (first | (go_at_call 46;(with_reducible refine (bG.calls a0 0 8 t200 _ ao.out).mono ?_);rintro e w' ⟨rfl,⟨nd,rfl⟩⟩;(try exact pp)));repeat (go_quiet (first | (go_at_call 46;(with_reducible refine (bG.calls a0 0 8 t200 _ ao.out).mono ?_);rintro e w' ⟨rfl,⟨nd,rfl⟩⟩;(try exact pp)));try go_wp2_with (first | (go_at_call 46;(with_reducible refine (bG.calls a0 0 8 t200 _ ao.out).mono ?_);rintro e w' ⟨rfl,⟨nd,rfl⟩⟩;(try exact pp))))
    go_ret;exact ⟨na,oX⟩
def bV.f (a0:Int) (j:Int):Option (Bool):=if 0≤(IntKind.u64.wrap (j)) then (some ((Go.bits .and .i64 (shr .i64 a0 (IntKind.u64.wrap (j))) 1) == 1)) else (none)
set_option maxHeartbeats 8000000 in
set_option maxRecDepth 100000 in
theorem bV.calls (a0:Int) (J:Int) (r:Bool) (w:World) (h:bV.f a0 J = some r) :
  Calls Tryz.prog 134 #[.int .i64 a0,.int .i64 J] w fun e w'=>e = .returned (.bool r)∧cj w w':=by
 unfold bV.f at h;have H:=h;clear h;obtain ⟨y,z⟩:∃ M:Int,(IntKind.u64.wrap (J)) = M:=⟨_,rfl⟩
 replace H:(if 0≤(y) then (some ((Go.bits .and .i64 (shr .i64 a0 (y)) 1) == 1)) else (none)) = some r:=by first | (rw [z] at H;exact H) | (simp only [z] at H ⊢;exact H)
 obtain ⟨c4,H⟩:=ol H;have Y:=eq_true c4;have a2:decide (0≤(y)) = true:=decide_eq_true c4;clear c4;obtain ⟨I,j⟩:∃ M:Int,(shr .i64 a0 (y)) = M:=⟨_,rfl⟩
 replace H:(some ((Go.bits .and .i64 (I) 1) == 1)) = some r:=by first | (rw [j] at H;exact H) | (simp only [j] at H ⊢;exact H)
 have U:(a0 / 2 ^ min (y).toNat 64) = I:=j;have X:(y)≤64→(a0 / 2 ^ (y).toNat) = I:=gX j;obtain rfl:=Option.some.inj H;go_enter Tryz.func134,Tryz.ntmps134;go_wp2;go_ret;exact ⟨by first | rfl | (simp;done) | (simp only [← z,← j] <;> (first | rfl | simp)) | (simp [*];done),oX⟩
def bL.l0:Nat→List Int→Int→Int→Option (Bool)
 | 0,_,_,_=>none
 | k+1,y,z,j=>if j < (y.length:Int) then (if 0≤j then (if (rd y j) = z then (some true) else (bL.l0 k y z (wrap64 (j+1)))) else (none)) else (some false)
def bL.f (k:Nat) (l0:List Int) (j:Int):Option (Bool):=bL.l0 k l0 j 0
set_option maxHeartbeats 8000000 in
set_option maxRecDepth 100000 in
theorem bL.calls (k:Nat) (A0:Option Addr) (c0:Nat) (l0:List Int) (I:Int) (r:Bool) (w:World) (M:Kd.C (Kd.int .i64) w A0 l0.length l0) (U:l0.length≤c0) (h:bL.f k l0 I = some r) :
  Calls Tryz.prog 81 #[.slice A0 l0.length c0,.int .i64 I] w fun e w'=>e = .returned (.bool r)∧cj w w':=by
 have X:=ae.mk M;have a7:=ae.mk U;clear M U;unfold bL.f at h;have H:=h;clear h;have H':=ae.mk H;clear H;go_enter Tryz.func81,Tryz.ntmps81;go_wp2;go_loopg [5] k (fun kq v5 w'=>∃ (j:Int),v5 = .int .i64 j∧ae (bL.l0 kq l0 I j = some r)∧ae (kq≤k)∧cj w w')
 case atStart=>exact ⟨(0),na,H',⟨Nat.le_refl _⟩,oX⟩
 case round =>
  clear H';obtain ⟨j,rfl,HA,Y,⟨m1,rfl⟩⟩:=hrel;cases gk with
  | zero=>exact absurd HA.out (by simp [bL.l0])
  | succ k1 =>
   have H:=HA.out;clear HA;simp only [bL.l0] at H;by_cases c3:j < (l0.length:Int)
   ·rw [if_pos c3] at H
    have a0:=decide_eq_true c3;clear c3;obtain ⟨c4,H⟩:=ol H;have a6:=decide_eq_true c4;clear c4;by_cases c5:(rd l0 j) = I
    ·rw [if_pos c5] at H
     have a2:((rd l0 j) == I) = true:=beq_iff_eq.mpr c5;have a3:((rd l0 j) != I) = false:=bne_eq_false_iff_eq.mpr c5;clear c5;obtain rfl:=Option.some.inj H;obtain ⟨J,y,z,a4,a5⟩:=pf X.out j;cases y
     go_wp2;go_ret;exact ⟨na,oX⟩
    ·rw [if_neg c5] at H
     have a2:((rd l0 j) == I) = false:=beq_eq_false_iff_ne.mpr c5;have a3:((rd l0 j) != I) = true:=bne_iff_ne.mpr c5;have H':=ae.mk H;clear H;obtain ⟨J,y,z,a4,a5⟩:=pf X.out j;cases y
     go_wp2;go_roundg k1;case measure=>have:=Y.out;omega
     case rel=>exact ⟨(wrap64 (j+1)),na,H',⟨by have:=Y.out;omega⟩,oX⟩
   ·rw [if_neg c3] at H
    have a0:decide (j < (l0.length:Int)) = false:=decide_eq_false c3;clear c3;obtain rfl:=Option.some.inj H;go_wp2;go_ret;exact ⟨na,oX⟩
def aT.l0:Nat→Int→Int→Int→Int→Int→List Int→Option (Bool)
 | 0,_,_,_,_,_,_=>none
 | k+1,I,Y,J,z,j,y=>if z < j then ((bV.f Y z).bind fun M=>(if M = true then ((bV.f I z).bind fun U=>(if U = true then (aT.l0 k I Y J (wrap64 (z+1)) j y) else (if 0≤(IntKind.u64.wrap (J)) then (if 0≤(IntKind.u64.wrap (z)) then ((bL.f k y (wrap64 ((wrap64 (I - (shl .i64 1 (IntKind.u64.wrap (J)))))+(shl .i64 1 (IntKind.u64.wrap (z)))))).bind fun X=>(if X = true then (some true) else (aT.l0 k I Y J (wrap64 (z+1)) j y))) else (none)) else (none)))) else (aT.l0 k I Y J (wrap64 (z+1)) j y))) else (some false)
def aT.f (k:Nat) (j:Int) (y:List Int) (z:Int) (a2:Int) (a3:Int):Option (Bool):=aT.l0 k z a2 a3 0 j y
set_option maxHeartbeats 8000000 in
set_option maxRecDepth 100000 in
theorem aT.calls (k:Nat) (z:Int) (a7:Option Addr) (a8:Nat) (y:List Int) (a1:Int) (a2:Int) (a3:Int) (r:Bool) (w:World) (ao:Kd.C (Kd.int .i64) w a7 y.length y) (ap:y.length≤a8) (h:aT.f k z y a1 a2 a3 = some r) :
  Calls Tryz.prog 143 #[.agg #[.int .i64 z,.slice a7 y.length a8],.int .i64 a1,.int .i64 a2,.int .i64 a3] w fun e w'=>e = .returned (.bool r)∧Below w.heap.size w w':=by
 have d3:=Tryz.underlying37;have ar:=ae.mk ao;have aw:=ae.mk ap;clear ao ap;have HB:=ae.mk (Below.refl w.heap.size w);unfold aT.f at h;have H:=h;clear h;have H':=ae.mk H;clear H;go_enter Tryz.func143,Tryz.ntmps143;go_wp2_with (first | ((with_reducible refine aY (N:=4) rfl ?_);refine pd 4 #[.int .i64 z,.slice a7 y.length a8] 37 ?_;intro aL hg w5 hbox hb;have I:=ae.mk hbox;have cy:=o0 hg HB;have cX:=o0 hg HB;replace HB:=no HB hb;clear hb hbox hg));go_loopg [9] k (fun kq v9 w'=>∃ (j:Int),v9 = .int .i64 j∧ae (aT.l0 kq a1 a2 a3 j z y = some r)∧ae (kq≤k)∧ae (w'.heap[aL]? = some (.cells #[.int .i64 z,(.slice a7 y.length a8)] 37 (0,0)))∧ae (Below w.heap.size w w'))
 case atStart=>exact ⟨(0),na,H',⟨Nat.le_refl _⟩,⟨nm I.out⟩,⟨n8 HB.out⟩⟩
 case round =>
  clear H';obtain ⟨j,rfl,HA,am,I,HB⟩:=hrel;cases gk with
  | zero=>exact absurd HA.out (by simp [aT.l0])
  | succ k1 =>
   have H:=HA.out;clear HA;simp only [aT.l0] at H;by_cases c6:j < z
   ·rw [if_pos c6] at H
    have aR:=decide_eq_true c6;clear c6;obtain ⟨aS,A7,H⟩:=oY H;(try dsimp only at H);by_cases c8:aS = true
    ·subst c8
     replace H:((bV.f a1 j).bind fun aB=>(if aB = true then (aT.l0 k1 a1 a2 a3 (wrap64 (j+1)) z y) else (if 0≤(IntKind.u64.wrap (a3)) then (if 0≤(IntKind.u64.wrap (j)) then ((bL.f k1 y (wrap64 ((wrap64 (a1 - (shl .i64 1 (IntKind.u64.wrap (a3)))))+(shl .i64 1 (IntKind.u64.wrap (j)))))).bind fun J=>(if J = true then (some true) else (aT.l0 k1 a1 a2 a3 (wrap64 (j+1)) z y))) else (none)) else (none)))) = some r:=by rw [if_pos rfl] at H;exact H
     obtain ⟨aB,A9,H⟩:=oY H;(try dsimp only at H);by_cases iw:aB = true
     ·subst iw
      replace H:(aT.l0 k1 a1 a2 a3 (wrap64 (j+1)) z y) = some r:=by rw [if_pos rfl] at H;exact H
      have H':=ae.mk H;clear H;obtain ⟨b0,b1,b2,b3⟩:=ob I.out;go_wp2_with (first | ((with_reducible refine aQ (f:=134) rfl ?_);refine ne (some 18) Tryz.func134 #[.int .i64 a2,.int .i64 j] ?_;(with_reducible refine (bV.calls a2 j true _ A7.out).mono ?_);rintro e w' ⟨rfl,⟨nd,rfl⟩⟩;refine ⟨_,rfl,?_⟩) | (go_at_call 134;(with_reducible refine (bV.calls a1 j true _ A9.out).mono ?_);rintro e w' ⟨rfl,⟨nd,rfl⟩⟩));go_roundg k1;case measure=>have:=am.out;omega
      case rel=>exact ⟨(wrap64 (j+1)),na,H',⟨by have:=am.out;omega⟩,⟨nm I.out⟩,⟨n8 HB.out⟩⟩
     ·replace iw:=Bool.eq_false_iff.mpr iw
      subst iw;replace H:(if 0≤(IntKind.u64.wrap (a3)) then (if 0≤(IntKind.u64.wrap (j)) then ((bL.f k1 y (wrap64 ((wrap64 (a1 - (shl .i64 1 (IntKind.u64.wrap (a3)))))+(shl .i64 1 (IntKind.u64.wrap (j)))))).bind fun J=>(if J = true then (some true) else (aT.l0 k1 a1 a2 a3 (wrap64 (j+1)) z y))) else (none)) else (none)) = some r:=by rw [if_neg (show ¬ (false = true) by decide)] at H;exact H
      obtain ⟨M,a5⟩:∃ j_:Int,(IntKind.u64.wrap (a3)) = j_:=⟨_,rfl⟩
      replace H:(if 0≤(M) then (if 0≤(IntKind.u64.wrap (j)) then ((bL.f k1 y (wrap64 ((wrap64 (a1 - (shl .i64 1 (M))))+(shl .i64 1 (IntKind.u64.wrap (j)))))).bind fun J=>(if J = true then (some true) else (aT.l0 k1 a1 a2 a3 (wrap64 (j+1)) z y))) else (none)) else (none)) = some r:=by first | (rw [a5] at H;exact H) | (simp only [a5] at H ⊢;exact H)
      (try rw [a5] at A7);(try rw [a5] at A9);obtain ⟨aO,H⟩:=ol H;have cY:=eq_true aO;have d0:decide (0≤(M)) = true:=decide_eq_true aO;clear aO;obtain ⟨X,Y⟩:∃ j_:Int,(shl .i64 1 (M)) = j_:=⟨_,rfl⟩
      replace H:(if 0≤(IntKind.u64.wrap (j)) then ((bL.f k1 y (wrap64 ((wrap64 (a1 - (X)))+(shl .i64 1 (IntKind.u64.wrap (j)))))).bind fun J=>(if J = true then (some true) else (aT.l0 k1 a1 a2 a3 (wrap64 (j+1)) z y))) else (none)) = some r:=by first | (rw [Y] at H;exact H) | (simp only [Y] at H ⊢;exact H)
      (try rw [Y] at A7);(try rw [Y] at A9);have a9:(IntKind.i64.wrap (1 * 2 ^ min (M).toNat 64)) = X:=Y;have aa:(M)≤64→(IntKind.i64.wrap (1 * 2 ^ (M).toNat)) = X:=dZ Y;have cf:(IntKind.i64.wrap (2 ^ min (M).toNat 64)) = X:=by have h_:=a9;rw [Int.one_mul] at h_;exact h_
      have ch:(M)≤64→(IntKind.i64.wrap (2 ^ (M).toNat)) = X:=fun aE=>by have h_:=aa aE;rw [Int.one_mul] at h_;exact h_
      have ci:(wrap64 (1 * 2 ^ min (M).toNat 64)) = X:=(bw _).symm.trans a9;have cl:(M)≤64→(wrap64 (1 * 2 ^ (M).toNat)) = X:=fun h_=>(bw _).symm.trans (aa h_)
      obtain ⟨U,a6⟩:∃ j_:Int,(IntKind.u64.wrap (j)) = j_:=⟨_,rfl⟩
      replace H:(if 0≤(U) then ((bL.f k1 y (wrap64 ((wrap64 (a1 - (X)))+(shl .i64 1 (U))))).bind fun J=>(if J = true then (some true) else (aT.l0 k1 a1 a2 a3 (wrap64 (j+1)) z y))) else (none)) = some r:=by first | (rw [a6] at H;exact H) | (simp only [a6] at H ⊢;exact H)
      (try rw [a6] at A7);(try rw [a6] at A9);obtain ⟨aP,H⟩:=ol H;have d1:=eq_true aP;have d2:decide (0≤(U)) = true:=decide_eq_true aP;clear aP;obtain ⟨a4,a0⟩:∃ j_:Int,(shl .i64 1 (U)) = j_:=⟨_,rfl⟩
      replace H:((bL.f k1 y (wrap64 ((wrap64 (a1 - (X)))+(a4)))).bind fun J=>(if J = true then (some true) else (aT.l0 k1 a1 a2 a3 (wrap64 (j+1)) z y))) = some r:=by first | (rw [a0] at H;exact H) | (simp only [a0] at H ⊢;exact H)
      (try rw [a0] at A7);(try rw [a0] at A9);have ab:(IntKind.i64.wrap (1 * 2 ^ min (U).toNat 64)) = a4:=a0;have al:(U)≤64→(IntKind.i64.wrap (1 * 2 ^ (U).toNat)) = a4:=dZ a0;have co:(IntKind.i64.wrap (2 ^ min (U).toNat 64)) = a4:=by have h_:=ab;rw [Int.one_mul] at h_;exact h_
      have cp:(U)≤64→(IntKind.i64.wrap (2 ^ (U).toNat)) = a4:=fun aE=>by have h_:=al aE;rw [Int.one_mul] at h_;exact h_
      have cr:(wrap64 (1 * 2 ^ min (U).toNat 64)) = a4:=(bw _).symm.trans ab;have cx:(U)≤64→(wrap64 (1 * 2 ^ (U).toNat)) = a4:=fun h_=>(bw _).symm.trans (al h_)
      obtain ⟨J,b4,H⟩:=oY H;(try dsimp only at H);by_cases aF:J = true
      ·subst aF
       replace H:(some true) = some r:=by rw [if_pos rfl] at H;exact H
       obtain rfl:=Option.some.inj H;obtain ⟨ba,bc,bd,bi⟩:=ob I.out;go_wp2_with (first | ((with_reducible refine aQ (f:=134) rfl ?_);refine ne (some 18) Tryz.func134 #[.int .i64 a2,.int .i64 j] ?_;(with_reducible refine (bV.calls a2 j true _ A7.out).mono ?_);rintro e w' ⟨rfl,⟨nd,rfl⟩⟩;refine ⟨_,rfl,?_⟩) | (go_at_call 134;(with_reducible refine (bV.calls a1 j false _ A9.out).mono ?_);rintro e w' ⟨rfl,⟨nd,rfl⟩⟩) | (go_at_call 81;(with_reducible refine (bL.calls k1 _ _ y (wrap64 ((wrap64 (a1 - (X)))+(a4))) true _ ?side1 ?side2 b4.out).mono ?_);(case side1=>exact pa (Kd.aW ar.out HB.out));(case side2=>exact aw.out);rintro e w' ⟨rfl,⟨nd,rfl⟩⟩));go_ret;exact ⟨by first | rfl | (simp [ez,eA] <;> rfl) | (simp only [← a5,← Y,← a6,← a0];first | rfl | (simp [ez,eA] <;> rfl)) | (simp [*,ez,eA] <;> rfl),nb⟩
      ·replace aF:=Bool.eq_false_iff.mpr aF
       subst aF;replace H:(aT.l0 k1 a1 a2 a3 (wrap64 (j+1)) z y) = some r:=by rw [if_neg (show ¬ (false = true) by decide)] at H;exact H
       have H':=ae.mk H;clear H;obtain ⟨bk,bm,bo,bs⟩:=ob I.out;go_wp2_with (first | ((with_reducible refine aQ (f:=134) rfl ?_);refine ne (some 18) Tryz.func134 #[.int .i64 a2,.int .i64 j] ?_;(with_reducible refine (bV.calls a2 j true _ A7.out).mono ?_);rintro e w' ⟨rfl,⟨nd,rfl⟩⟩;refine ⟨_,rfl,?_⟩) | (go_at_call 134;(with_reducible refine (bV.calls a1 j false _ A9.out).mono ?_);rintro e w' ⟨rfl,⟨nd,rfl⟩⟩) | (go_at_call 81;(with_reducible refine (bL.calls k1 _ _ y (wrap64 ((wrap64 (a1 - (X)))+(a4))) false _ ?side1 ?side2 b4.out).mono ?_);(case side1=>exact pa (Kd.aW ar.out HB.out));(case side2=>exact aw.out);rintro e w' ⟨rfl,⟨nd,rfl⟩⟩));go_roundg k1;case measure=>have:=am.out;omega
       case rel=>exact ⟨(wrap64 (j+1)),na,H',⟨by have:=am.out;omega⟩,⟨nm I.out⟩,⟨n8 HB.out⟩⟩
    ·replace c8:=Bool.eq_false_iff.mpr c8
     subst c8;replace H:(aT.l0 k1 a1 a2 a3 (wrap64 (j+1)) z y) = some r:=by rw [if_neg (show ¬ (false = true) by decide)] at H;exact H
     have H':=ae.mk H;clear H;obtain ⟨bv,c0,c1,ca⟩:=ob I.out;go_wp2_with (first | ((with_reducible refine aQ (f:=134) rfl ?_);refine ne (some 18) Tryz.func134 #[.int .i64 a2,.int .i64 j] ?_;(with_reducible refine (bV.calls a2 j false _ A7.out).mono ?_);rintro e w' ⟨rfl,⟨nd,rfl⟩⟩;refine ⟨_,rfl,?_⟩));go_roundg k1;case measure=>have:=am.out;omega
     case rel=>exact ⟨(wrap64 (j+1)),na,H',⟨by have:=am.out;omega⟩,⟨nm I.out⟩,⟨n8 HB.out⟩⟩
   ·rw [if_neg c6] at H
    have aR:decide (j < z) = false:=decide_eq_false c6;clear c6;obtain rfl:=Option.some.inj H;obtain ⟨cb,cc,cd,ce⟩:=ob I.out;go_wp2;go_ret;exact ⟨pi,nb⟩
mutual
def au.l0:Nat→Int→Int→List Int→Option (Int×Int×Int×Bool)
 | 0,_,_,_=>none
 | k+1,z,y,j=>if z < (j.length:Int) then (au.l1 k z 0 y j) else (some (0,0,0,false))
def au.l1:Nat→Int→Int→Int→List Int→Option (Int×Int×Int×Bool)
 | 0,_,_,_,_=>none
 | k+1,z,I,y,j=>if I < (j.length:Int) then (au.l2 k z I 0 y j) else (au.l0 k (wrap64 (z+1)) y j)
def au.l2:Nat→Int→Int→Int→Int→List Int→Option (Int×Int×Int×Bool)
 | 0,_,_,_,_,_=>none
 | k+1,z,I,J,y,j=>if J < y then (if 0≤z then (if z < (j.length:Int) then (if 0≤I then (if I < (j.length:Int) then ((bV.f (rd j z) J).bind fun M=>(if M = true then ((bV.f (rd j I) J).bind fun U=>(if U = true then (au.l2 k z I (wrap64 (J+1)) y j) else ((aT.f k y j (rd j z) (rd j I) J).bind fun X=>(if X = true then (au.l2 k z I (wrap64 (J+1)) y j) else (some (rd j z,rd j I,J,true)))))) else (au.l2 k z I (wrap64 (J+1)) y j))) else (none)) else (none)) else (none)) else (none)) else (au.l1 k z (wrap64 (I+1)) y j)
end
def au.f (k:Nat) (j:Int) (y:List Int):Option (Int×Int×Int×Bool):=(bA.f k j y).bind fun z=>(if z = true then (au.l0 k 0 j y) else (some (0,0,0,false)))
set_option maxHeartbeats 8000000 in
set_option maxRecDepth 100000 in
theorem au.calls (k:Nat) (X:Int) (am:Option Addr) (a8:Nat) (y:List Int) (r1:Int) (r2:Int) (r3:Int) (r4:Bool) (w:World) (ca:Kd.C (Kd.int .i64) w am y.length y) (cb:y.length≤a8) (h:au.f k X y = some (r1,r2,r3,r4)) :
  Calls Tryz.prog 91 #[.agg #[.int .i64 X,.slice am y.length a8]] w fun e w'=>e = .returned (.tuple #[.agg #[.int .i64 r1,.int .i64 r2,.int .i64 r3],.bool r4])∧Below w.heap.size w w':=by
 have hr:=Tryz.underlying37;have ht:=Tryz.underlying79;have a7:=ae.mk ca;have bi:=ae.mk cb;clear ca cb;have HB:=ae.mk (Below.refl w.heap.size w);unfold au.f at h;have H:=h;clear h;obtain ⟨d2,A2,H⟩:=oY H;(try dsimp only at H);by_cases c3:d2 = true
 ·subst c3
  replace H:(au.l0 k 0 X y) = some (r1,r2,r3,r4):=by rw [if_pos rfl] at H;exact H
  have H':=ae.mk H;clear H;go_enter Tryz.func91,Tryz.ntmps91;go_wp2_with (first | ((with_reducible refine aY (N:=1) rfl ?_);refine pd 1 #[.int .i64 X,.slice am y.length a8] 37 ?_;intro a6 hg w4 hbox hb;have j:=ae.mk hbox;have cr:=o0 hg HB;have cx:=o0 hg HB;replace HB:=no HB hb;clear hb hbox hg) | ((with_reducible refine aY (N:=2) rfl ?_);refine pd 2 #[.int .i64 0,.int .i64 0,.int .i64 0] 79 ?_;intro a5 hg w5 hbox hb;have z:=ae.mk hbox;have cy:=o0 hg HB;have cX:=o0 hg HB;replace HB:=no HB hb;have M:=pk hg j;have U:=pl hg j;replace j:=nz j hb;clear hb hbox hg;have hu:=M.out;have hx:=U.out;obtain ⟨g2,g3,g4,g5⟩:=ob j.out) | ((with_reducible refine aQ (f:=92) rfl ?_);refine ne (some 13) Tryz.func92 #[.int .i64 X,.slice am y.length a8] ?_;(with_reducible refine (bA.calls k X _ _ y true _ ?side1 ?side2 A2.out).mono ?_);(case side1=>exact pa (Kd.aW a7.out HB.out));(case side2=>exact bi.out);rintro e w' ⟨rfl,⟨nd,rfl⟩⟩;refine ⟨_,rfl,?_⟩));go_loopg [4] k (fun kq v4 w'=>∃ (I:Int) (ao:Int) (ap:Int) (ar:Int),v4 = .int .i64 I∧ae (au.l0 kq I X y = some (r1,r2,r3,r4))∧ae (kq≤k)∧ae (w'.heap[a6]? = some (.cells #[.int .i64 X,(.slice am y.length a8)] 37 (0,0)))∧ae (w'.heap[a5]? = some (.cells #[.int .i64 ao,.int .i64 ap,.int .i64 ar] 79 (0,0)))∧ae (Below w.heap.size w w'))
  case atStart=>exact ⟨(0),(0),(0),(0),na,H',⟨Nat.le_refl _⟩,⟨nm j.out⟩,⟨nm z.out⟩,⟨n8 HB.out⟩⟩
  case round =>
   clear H';obtain ⟨I,ao,ap,ar,rfl,HA,aO,j,z,HB⟩:=hrel;cases gk with
   | zero=>exact absurd HA.out (by simp [au.l0])
   | succ k1 =>
    have H:=HA.out;clear HA;simp only [au.l0] at H;by_cases c8:I < (y.length:Int)
    ·rw [if_pos c8] at H
     have d3:=decide_eq_true c8;clear c8;have H':=ae.mk H;clear H;have hz:=M.out;have hA:=U.out;obtain ⟨d4,d5,d6,d7⟩:=ob j.out;go_wp2;go_loopg [5] k1 (fun kq v5 w'=>∃ (a1:Int) (aa:Int) (ab:Int) (al:Int),v5 = .int .i64 a1∧ae (au.l1 kq I a1 X y = some (r1,r2,r3,r4))∧ae (kq≤k1)∧ae (w'.heap[a6]? = some (.cells #[.int .i64 X,(.slice am y.length a8)] 37 (0,0)))∧ae (w'.heap[a5]? = some (.cells #[.int .i64 aa,.int .i64 ab,.int .i64 al] 79 (0,0)))∧ae (Below w.heap.size w w'))
     case atStart=>exact ⟨(0),(ao),(ap),(ar),na,H',⟨Nat.le_refl _⟩,⟨nm j.out⟩,⟨nm z.out⟩,⟨n8 HB.out⟩⟩
     case round =>
      clear H';obtain ⟨a1,aa,ab,al,rfl,HA,aP,j,z,HB⟩:=hrel;cases gk with
      | zero=>exact absurd HA.out (by simp [au.l1])
      | succ k2 =>
       have H:=HA.out;clear HA;simp only [au.l1] at H;by_cases c0:a1 < (y.length:Int)
       ·rw [if_pos c0] at H
        have cY:=decide_eq_true c0;clear c0;have H':=ae.mk H;clear H;have g6:=M.out;have g7:=U.out;obtain ⟨d8,d9,db,dd⟩:=ob j.out;go_wp2;go_loopg [6] k2 (fun kq v6 w'=>∃ (J:Int) (a2:Int) (a3:Int) (a4:Int),v6 = .int .i64 J∧ae (au.l2 kq I a1 J X y = some (r1,r2,r3,r4))∧ae (kq≤k2)∧ae (w'.heap[a6]? = some (.cells #[.int .i64 X,(.slice am y.length a8)] 37 (0,0)))∧ae (w'.heap[a5]? = some (.cells #[.int .i64 a2,.int .i64 a3,.int .i64 a4] 79 (0,0)))∧ae (Below w.heap.size w w'))
        case atStart=>exact ⟨(0),(aa),(ab),(al),na,H',⟨Nat.le_refl _⟩,⟨nm j.out⟩,⟨nm z.out⟩,⟨n8 HB.out⟩⟩
        case round =>
         clear H';obtain ⟨J,a2,a3,a4,rfl,HA,bk,j,z,HB⟩:=hrel;cases gk with
         | zero=>exact absurd HA.out (by simp [au.l2])
         | succ k3 =>
          have H:=HA.out;clear HA;simp only [au.l2] at H;by_cases c1:J < X
          ·rw [if_pos c1] at H
           have d0:=decide_eq_true c1;clear c1;obtain ⟨df,H⟩:=ol H;have g8:=decide_eq_true df;clear df;obtain ⟨dk,H⟩:=ol H;have g9:=decide_eq_true dk;clear dk;obtain ⟨dl,H⟩:=ol H;have gb:=decide_eq_true dl;clear dl;obtain ⟨dp,H⟩:=ol H;have gc:=decide_eq_true dp;clear dp;obtain ⟨dq,ci,H⟩:=oY H;(try dsimp only at H);by_cases cl:dq = true
           ·subst cl
            replace H:((bV.f (rd y a1) J).bind fun cc=>(if cc = true then (au.l2 k3 I a1 (wrap64 (J+1)) X y) else ((aT.f k3 X y (rd y I) (rd y a1) J).bind fun bm=>(if bm = true then (au.l2 k3 I a1 (wrap64 (J+1)) X y) else (some (rd y I,rd y a1,J,true)))))) = some (r1,r2,r3,r4):=by rw [if_pos rfl] at H;exact H
            obtain ⟨cc,d1,H⟩:=oY H;(try dsimp only at H);by_cases co:cc = true
            ·subst co
             replace H:(au.l2 k3 I a1 (wrap64 (J+1)) X y) = some (r1,r2,r3,r4):=by rw [if_pos rfl] at H;exact H
             have H':=ae.mk H;clear H;have ge:=M.out;have gm:=U.out;obtain ⟨dt,du,dv,dC⟩:=ob j.out;obtain ⟨a9,aE,Y,cd,ce⟩:=pf a7.out I;cases aE
             (try replace Y:=(HB.out.cell (World.block_lt_of_cell? w _ Y)).trans Y);obtain ⟨aw,aF,a0,cf,ch⟩:=pf a7.out a1;obtain rfl:a9 = aw:=(by injection aF)
             (try replace a0:=(HB.out.cell (World.block_lt_of_cell? w _ a0)).trans a0);go_wp2_with (first | ((with_reducible refine aQ (f:=134) rfl ?_);refine ne (some 48) Tryz.func134 #[.int .i64 (rd y I),.int .i64 J] ?_;(with_reducible refine (bV.calls (rd y I) J true _ ci.out).mono ?_);rintro e w' ⟨rfl,⟨nd,rfl⟩⟩;refine ⟨_,rfl,?_⟩) | (go_at_call 134;(with_reducible refine (bV.calls (rd y a1) J true _ d1.out).mono ?_);rintro e w' ⟨rfl,⟨nd,rfl⟩⟩));go_roundg k3;case measure=>have:=aO.out;have:=aP.out;have:=bk.out;omega
             case rel=>exact ⟨(wrap64 (J+1)),(a2),(a3),(a4),na,H',⟨by have:=aO.out;have:=aP.out;have:=bk.out;omega⟩,⟨nm j.out⟩,⟨nm z.out⟩,⟨n8 HB.out⟩⟩
            ·replace co:=Bool.eq_false_iff.mpr co
             subst co;replace H:((aT.f k3 X y (rd y I) (rd y a1) J).bind fun bm=>(if bm = true then (au.l2 k3 I a1 (wrap64 (J+1)) X y) else (some (rd y I,rd y a1,J,true)))) = some (r1,r2,r3,r4):=by rw [if_neg (show ¬ (false = true) by decide)] at H;exact H
             obtain ⟨bm,dE,H⟩:=oY H;(try dsimp only at H);by_cases cp:bm = true
             ·subst cp
              replace H:(au.l2 k3 I a1 (wrap64 (J+1)) X y) = some (r1,r2,r3,r4):=by rw [if_pos rfl] at H;exact H
              have H':=ae.mk H;clear H;have go:=M.out;have gs:=U.out;obtain ⟨dT,e0,e1,e2⟩:=ob j.out;obtain ⟨a9,aE,Y,cd,ce⟩:=pf a7.out I;cases aE
              (try replace Y:=(HB.out.cell (World.block_lt_of_cell? w _ Y)).trans Y);obtain ⟨aw,aF,a0,cf,ch⟩:=pf a7.out a1;obtain rfl:a9 = aw:=(by injection aF)
              (try replace a0:=(HB.out.cell (World.block_lt_of_cell? w _ a0)).trans a0);go_wp2_with (first | ((with_reducible refine aQ (f:=134) rfl ?_);refine ne (some 48) Tryz.func134 #[.int .i64 (rd y I),.int .i64 J] ?_;(with_reducible refine (bV.calls (rd y I) J true _ ci.out).mono ?_);rintro e w' ⟨rfl,⟨nd,rfl⟩⟩;refine ⟨_,rfl,?_⟩) | (go_at_call 134;(with_reducible refine (bV.calls (rd y a1) J false _ d1.out).mono ?_);rintro e w' ⟨rfl,⟨nd,rfl⟩⟩) | (go_at_call 143;(with_reducible refine (aT.calls k3 X _ _ y (rd y I) (rd y a1) J true _ ?side1 ?side2 dE.out).mono ?_);(case side1=>exact pa (Kd.aW a7.out HB.out));(case side2=>exact bi.out);rintro e hC ⟨rfl,hb⟩;replace j:=nz j hb;replace z:=nz z hb;replace HB:=no HB hb;(try clear hb);(try clear gt);(try clear hk);(try clear hi)));go_roundg k3;case measure=>have:=aO.out;have:=aP.out;have:=bk.out;omega
              case rel=>exact ⟨(wrap64 (J+1)),(a2),(a3),(a4),na,H',⟨by have:=aO.out;have:=aP.out;have:=bk.out;omega⟩,⟨nm j.out⟩,⟨nm z.out⟩,⟨n8 HB.out⟩⟩
             ·replace cp:=Bool.eq_false_iff.mpr cp
              subst cp;replace H:(some (rd y I,rd y a1,J,true)) = some (r1,r2,r3,r4):=by rw [if_neg (show ¬ (false = true) by decide)] at H;exact H
              simp only [Option.some.injEq,Prod.mk.injEq] at H;obtain ⟨rfl,rfl,rfl,rfl⟩:=H;have gS:=M.out;have h0:=U.out;obtain ⟨e3,e4,e8,ea⟩:=ob j.out;obtain ⟨a9,aE,Y,cd,ce⟩:=pf a7.out I;cases aE
              (try replace Y:=(HB.out.cell (World.block_lt_of_cell? w _ Y)).trans Y);obtain ⟨aw,aF,a0,cf,ch⟩:=pf a7.out a1;obtain rfl:a9 = aw:=(by injection aF)
              (try replace a0:=(HB.out.cell (World.block_lt_of_cell? w _ a0)).trans a0);go_wp2_with (first | ((with_reducible refine aQ (f:=134) rfl ?_);refine ne (some 48) Tryz.func134 #[.int .i64 (rd y I),.int .i64 J] ?_;(with_reducible refine (bV.calls (rd y I) J true _ ci.out).mono ?_);rintro e w' ⟨rfl,⟨nd,rfl⟩⟩;refine ⟨_,rfl,?_⟩;(try (rw [fa wr];generalize aB:World.drewN wr _ = wr;have bo:ae (wr.heap[a6]? = some (.cells #[.int .i64 X,.slice (some a9) y.length a8] 37 (0,0))):=⟨by rw [← aB];exact (nm j.out)⟩;have bs:ae (wr.heap[a5]? = some (.cells #[.int .i64 a2,.int .i64 a3,.int .i64 a4] 79 (0,0))):=⟨by rw [← aB];exact (nm z.out)⟩;have bv:ae (Below w.heap.size w wr):=⟨by rw [← aB];exact (n8 HB.out)⟩;clear j z HB aB;have j:=bo;have z:=bs;have HB:=bv;clear bo bs bv;have aR:wr.cell? ⟨a6,0,none⟩ = some (.int .i64 X):=(ah j.out 0).trans rfl;have aS:=aj j.out 0;have b0:wr.cell? ⟨a6,1,none⟩ = some (.slice (some a9) y.length a8):=(ah j.out 1).trans rfl;have b1:=aj j.out 1;have b2:wr.cell? ⟨a5,0,none⟩ = some (.int .i64 a2):=(ah z.out 0).trans rfl;have b3:=aj z.out 0;have b4:wr.cell? ⟨a5,1,none⟩ = some (.int .i64 a3):=(ah z.out 1).trans rfl;have ba:=aj z.out 1;have bc:wr.cell? ⟨a5,2,none⟩ = some (.int .i64 a4):=(ah z.out 2).trans rfl;have bd:=aj z.out 2))) | (go_at_call 134;(with_reducible refine (bV.calls (rd y a1) J false _ d1.out).mono ?_);rintro e w' ⟨rfl,⟨nd,rfl⟩⟩;(try (rw [fa wr];generalize aB:World.drewN wr _ = wr;have bo:ae (wr.heap[a6]? = some (.cells #[.int .i64 X,.slice (some a9) y.length a8] 37 (0,0))):=⟨by rw [← aB];exact (nm j.out)⟩;have bs:ae (wr.heap[a5]? = some (.cells #[.int .i64 a2,.int .i64 a3,.int .i64 a4] 79 (0,0))):=⟨by rw [← aB];exact (nm z.out)⟩;have bv:ae (Below w.heap.size w wr):=⟨by rw [← aB];exact (n8 HB.out)⟩;clear j z HB aB;have j:=bo;have z:=bs;have HB:=bv;clear bo bs bv;have aR:wr.cell? ⟨a6,0,none⟩ = some (.int .i64 X):=(ah j.out 0).trans rfl;have aS:=aj j.out 0;have b0:wr.cell? ⟨a6,1,none⟩ = some (.slice (some a9) y.length a8):=(ah j.out 1).trans rfl;have b1:=aj j.out 1;have b2:wr.cell? ⟨a5,0,none⟩ = some (.int .i64 a2):=(ah z.out 0).trans rfl;have b3:=aj z.out 0;have b4:wr.cell? ⟨a5,1,none⟩ = some (.int .i64 a3):=(ah z.out 1).trans rfl;have ba:=aj z.out 1;have bc:wr.cell? ⟨a5,2,none⟩ = some (.int .i64 a4):=(ah z.out 2).trans rfl;have bd:=aj z.out 2))) | (go_at_call 143;(with_reducible refine (aT.calls k3 X _ _ y (rd y I) (rd y a1) J false _ ?side1 ?side2 dE.out).mono ?_);(case side1=>exact pa (Kd.aW a7.out HB.out));(case side2=>exact bi.out);rintro e hD ⟨rfl,hb⟩;replace j:=nz j hb;replace z:=nz z hb;replace HB:=no HB hb;(try clear hb);(try clear gt);(try clear hk);(try clear hi);obtain ⟨eb,ed,ee,ef,eg,eh⟩:=af.lu z.out));refine bodyPost_ret (dR rfl _ _ a5 79 #[.int .i64 (rd y I),.int .i64 (rd y a1),.int .i64 J] (0,0) _ rfl pj Tryz.underlying79 rfl (by kernel_rfl)) rfl ?_;exact ⟨pi,nb⟩
           ·replace cl:=Bool.eq_false_iff.mpr cl
            subst cl;replace H:(au.l2 k3 I a1 (wrap64 (J+1)) X y) = some (r1,r2,r3,r4):=by rw [if_neg (show ¬ (false = true) by decide)] at H;exact H
            have H':=ae.mk H;clear H;have h6:=M.out;have h7:=U.out;obtain ⟨el,em,eo,eq⟩:=ob j.out;obtain ⟨a9,aE,Y,cd,ce⟩:=pf a7.out I;cases aE
            (try replace Y:=(HB.out.cell (World.block_lt_of_cell? w _ Y)).trans Y);obtain ⟨aw,aF,a0,cf,ch⟩:=pf a7.out a1;obtain rfl:a9 = aw:=(by injection aF)
            (try replace a0:=(HB.out.cell (World.block_lt_of_cell? w _ a0)).trans a0);go_wp2_with (first | ((with_reducible refine aQ (f:=134) rfl ?_);refine ne (some 48) Tryz.func134 #[.int .i64 (rd y I),.int .i64 J] ?_;(with_reducible refine (bV.calls (rd y I) J false _ ci.out).mono ?_);rintro e w' ⟨rfl,⟨nd,rfl⟩⟩;refine ⟨_,rfl,?_⟩));go_roundg k3;case measure=>have:=aO.out;have:=aP.out;have:=bk.out;omega
            case rel=>exact ⟨(wrap64 (J+1)),(a2),(a3),(a4),na,H',⟨by have:=aO.out;have:=aP.out;have:=bk.out;omega⟩,⟨nm j.out⟩,⟨nm z.out⟩,⟨n8 HB.out⟩⟩
          ·rw [if_neg c1] at H
           have d0:decide (J < X) = false:=decide_eq_false c1;clear c1;have H':=ae.mk H;clear H;have h8:=M.out;have h9:=U.out;obtain ⟨es,et,ev,ex⟩:=ob j.out;go_wp2;go_roundg k3;case measure=>have:=aO.out;have:=aP.out;have:=bk.out;omega
           case rel=>exact ⟨(wrap64 (a1+1)),(a2),(a3),(a4),na,H',⟨by have:=aO.out;have:=aP.out;have:=bk.out;omega⟩,⟨nm j.out⟩,⟨nm z.out⟩,⟨n8 HB.out⟩⟩
       ·rw [if_neg c0] at H
        have cY:decide (a1 < (y.length:Int)) = false:=decide_eq_false c0;clear c0;have H':=ae.mk H;clear H;have hj:=M.out;have hl:=U.out;obtain ⟨eQ,f0,f1,f2⟩:=ob j.out;go_wp2;go_roundg k2;case measure=>have:=aO.out;have:=aP.out;omega
        case rel=>exact ⟨(wrap64 (I+1)),(aa),(ab),(al),na,H',⟨by have:=aO.out;have:=aP.out;omega⟩,⟨nm j.out⟩,⟨nm z.out⟩,⟨n8 HB.out⟩⟩
    ·rw [if_neg c8] at H
     have d3:decide (I < (y.length:Int)) = false:=decide_eq_false c8;clear c8;simp only [Option.some.injEq,Prod.mk.injEq] at H;obtain ⟨rfl,rfl,rfl,rfl⟩:=H;have hm:=M.out;have hn:=U.out;obtain ⟨f3,f4,f5,f6⟩:=ob j.out;obtain ⟨f7,f8,f9,fd,fi,fj⟩:=af.lu z.out;go_wp2;refine bodyPost_ret (dR rfl _ _ a5 79 #[.int .i64 0,.int .i64 0,.int .i64 0] (0,0) _ rfl pj Tryz.underlying79 rfl (by kernel_rfl)) rfl ?_;exact ⟨pi,nb⟩
 ·replace c3:=Bool.eq_false_iff.mpr c3
  subst c3;replace H:(some (0,0,0,false)) = some (r1,r2,r3,r4):=by rw [if_neg (show ¬ (false = true) by decide)] at H;exact H
  simp only [Option.some.injEq,Prod.mk.injEq] at H;obtain ⟨rfl,rfl,rfl,rfl⟩:=H;go_enter Tryz.func91,Tryz.ntmps91;go_wp2_with (first | ((with_reducible refine aY (N:=1) rfl ?_);refine pd 1 #[.int .i64 X,.slice am y.length a8] 37 ?_;intro a6 hg hE hbox hb;have j:=ae.mk hbox;have cr:=o0 hg HB;have cx:=o0 hg HB;replace HB:=no HB hb;clear hb hbox hg) | ((with_reducible refine aY (N:=2) rfl ?_);refine pd 2 #[.int .i64 0,.int .i64 0,.int .i64 0] 79 ?_;intro a5 hg aL hbox hb;have z:=ae.mk hbox;have cy:=o0 hg HB;have cX:=o0 hg HB;replace HB:=no HB hb;have M:=pk hg j;have U:=pl hg j;replace j:=nz j hb;clear hb hbox hg;have ho:=M.out;have hq:=U.out;obtain ⟨fp,fs,ft,fw⟩:=ob j.out) | ((with_reducible refine aQ (f:=92) rfl ?_);refine ne (some 13) Tryz.func92 #[.int .i64 X,.slice am y.length a8] ?_;(with_reducible refine (bA.calls k X _ _ y false _ ?side1 ?side2 A2.out).mono ?_);(case side1=>exact pa (Kd.aW a7.out HB.out));(case side2=>exact bi.out);rintro e w' ⟨rfl,⟨nd,rfl⟩⟩;refine ⟨_,rfl,?_⟩;(try (rw [fa aL];generalize aB:World.drewN aL _ = aL;have bo:ae (aL.heap[a6]? = some (.cells #[.int .i64 X,.slice am y.length a8] 37 (0,0))):=⟨by rw [← aB];exact (nm j.out)⟩;have bs:ae (aL.heap[a5]? = some (.cells #[.int .i64 0,.int .i64 0,.int .i64 0] 79 (0,0))):=⟨by rw [← aB];exact (nm z.out)⟩;have bv:ae (Below w.heap.size w aL):=⟨by rw [← aB];exact (n8 HB.out)⟩;clear j z HB aB;have j:=bo;have z:=bs;have HB:=bv;clear bo bs bv;have aR:aL.cell? ⟨a6,0,none⟩ = some (.int .i64 X):=(ah j.out 0).trans rfl;have aS:=aj j.out 0;have b0:aL.cell? ⟨a6,1,none⟩ = some (.slice am y.length a8):=(ah j.out 1).trans rfl;have b1:=aj j.out 1;have b2:aL.cell? ⟨a5,0,none⟩ = some (.int .i64 0):=(ah z.out 0).trans rfl;have b3:=aj z.out 0;have b4:aL.cell? ⟨a5,1,none⟩ = some (.int .i64 0):=(ah z.out 1).trans rfl;have ba:=aj z.out 1;have bc:aL.cell? ⟨a5,2,none⟩ = some (.int .i64 0):=(ah z.out 2).trans rfl;have bd:=aj z.out 2));obtain ⟨fx,fy,fX,fY,g0,g1⟩:=af.lu z.out));refine bodyPost_ret (dR rfl _ _ a5 79 #[.int .i64 0,.int .i64 0,.int .i64 0] (0,0) _ rfl pj Tryz.underlying79 rfl (by kernel_rfl)) rfl ?_;exact ⟨pi,nb⟩
def cq.f (k:Nat) (y:Int) (j:List Int):Option (Bool):=(au.f k y j).bind fun z=>((bA.f k y j).bind fun I=>(if I = true then (if (j.length:Int) > 0 then (some (!z.2.2.2)) else (some false)) else (some false)))
set_option maxHeartbeats 8000000 in
set_option maxRecDepth 100000 in
theorem cq.calls (k:Nat) (z:Int) (M:Option Addr) (U:Nat) (y:List Int) (r:Bool) (w:World) (a2:Kd.C (Kd.int .i64) w M y.length y) (a3:y.length≤U) (h:cq.f k z y = some r) :
  Calls Tryz.prog 39 #[.agg #[.int .i64 z,.slice M y.length U]] w fun e w'=>e = .returned (.bool r)∧Below w.heap.size w w':=by
 have d7:=Tryz.underlying37;have d8:=Tryz.underlying79;have X:=ae.mk a2;have Y:=ae.mk a3;clear a2 a3;have HB:=ae.mk (Below.refl w.heap.size w);unfold cq.f at h;have H:=h;clear h;obtain ⟨⟨a4,a5,a6,a1⟩,A2,H⟩:=oY H;(try dsimp only at H);obtain ⟨am,A3,H⟩:=oY H;(try dsimp only at H);by_cases c4:am = true
 ·subst c4
  replace H:(if (y.length:Int) > 0 then (some (!a1)) else (some false)) = some r:=by rw [if_pos rfl] at H;exact H
  by_cases c5:(y.length:Int) > 0
  ·rw [if_pos c5] at H
   have ao:=decide_eq_true c5;have ap:decide (0 < y.length) = true:=decide_eq_true (by omega);clear c5;obtain rfl:=Option.some.inj H;go_enter Tryz.func39,Tryz.ntmps39;go_wp2_with (first | ((with_reducible refine aY (N:=1) rfl ?_);(try (refine cG (by rfl) ?_;dsimp only));refine dg ?hg (N:=1) ?hd (cs:=#[.int .i64 z,.slice M y.length U]) (t:=37) ?hr ?_;(case hd=>rfl);(case hg=>rfl);(case hr=>first | (go_simp;done) | (go_simp;rfl));intro a7 hg w6 hbox hb;have j:=ae.mk hbox;have a8:=o0 hg HB;have a9:=o0 hg HB;replace HB:=no HB hb;clear hb hbox hg;obtain ⟨cy,cX,cY,d0⟩:=ob j.out) | (refine ne (some 7) Tryz.func91 #[.agg #[.int .i64 z,.slice M y.length U]] ?_;(with_reducible refine (au.calls k z _ _ y a4 a5 a6 a1 _ ?side1 ?side2 A2.out).mono ?_);(case side1=>exact pa (Kd.aW X.out HB.out));(case side2=>exact Y.out);rintro e w8 ⟨rfl,hb⟩;refine ⟨_,rfl,?_⟩;replace j:=nz j hb;replace HB:=ae.mk (aH nb hb);(try clear hb);(try clear ar);(try clear hk);(try clear hi)) | ((with_reducible refine aY (N:=3) rfl ?_);(try (refine cG (by rfl) ?_;dsimp only));refine dg ?hg (N:=3) ?hd (cs:=#[.int .i64 0,.int .i64 0,.int .i64 0]) (t:=79) ?hr ?_;(case hd=>rfl);(case hg=>rfl);(case hr=>first | (go_simp;done) | (go_simp;rfl));intro aa hg w9 hbox hb;have a0:=ae.mk hbox;have ab:=pr (w:=w) hg nb;have al:=pr (w:=w) hg nb;replace HB:=ae.mk (aH nb hb);have I:=pk hg j;have J:=pl hg j;replace j:=nz j hb;clear hb hbox hg;have d1:=J.out;have d2:=I.out;obtain ⟨aw,aB,aE,aF,aL,aO⟩:=af.lu a0.out;obtain ⟨aP,aR,aS,b0⟩:=ob j.out) | (refine ne (some 14) Tryz.func92 #[.int .i64 z,.slice M y.length U] ?_;(with_reducible refine (bA.calls k z _ _ y true _ ?side1 ?side2 A3.out).mono ?_);(case side1=>exact Kd.aW X.out nb);(case side2=>exact Y.out);rintro e w' ⟨rfl,⟨nd,rfl⟩⟩;refine ⟨_,rfl,?_⟩));go_ret;exact ⟨pi,nb⟩
  ·rw [if_neg c5] at H
   have ao:decide (0 < (y.length:Int)) = false:=decide_eq_false c5;have ap:decide (0 < y.length) = false:=decide_eq_false (by omega);clear c5;obtain rfl:=Option.some.inj H;go_enter Tryz.func39,Tryz.ntmps39;go_wp2_with (first | ((with_reducible refine aY (N:=1) rfl ?_);(try (refine cG (by rfl) ?_;dsimp only));refine dg ?hg (N:=1) ?hd (cs:=#[.int .i64 z,.slice M y.length U]) (t:=37) ?hr ?_;(case hd=>rfl);(case hg=>rfl);(case hr=>first | (go_simp;done) | (go_simp;rfl));intro a7 hg d9 hbox hb;have j:=ae.mk hbox;have a8:=o0 hg HB;have a9:=o0 hg HB;replace HB:=no HB hb;clear hb hbox hg;obtain ⟨b1,b2,b3,b4⟩:=ob j.out) | (refine ne (some 7) Tryz.func91 #[.agg #[.int .i64 z,.slice M y.length U]] ?_;(with_reducible refine (au.calls k z _ _ y a4 a5 a6 a1 _ ?side1 ?side2 A2.out).mono ?_);(case side1=>exact pa (Kd.aW X.out HB.out));(case side2=>exact Y.out);rintro e db ⟨rfl,hb⟩;refine ⟨_,rfl,?_⟩;replace j:=nz j hb;replace HB:=ae.mk (aH nb hb);(try clear hb);(try clear ar);(try clear hk);(try clear hi)) | ((with_reducible refine aY (N:=3) rfl ?_);(try (refine cG (by rfl) ?_;dsimp only));refine dg ?hg (N:=3) ?hd (cs:=#[.int .i64 0,.int .i64 0,.int .i64 0]) (t:=79) ?hr ?_;(case hd=>rfl);(case hg=>rfl);(case hr=>first | (go_simp;done) | (go_simp;rfl));intro aa hg dd hbox hb;have a0:=ae.mk hbox;have ab:=pr (w:=w) hg nb;have al:=pr (w:=w) hg nb;replace HB:=ae.mk (aH nb hb);have I:=pk hg j;have J:=pl hg j;replace j:=nz j hb;clear hb hbox hg;have d3:=J.out;have d4:=I.out;obtain ⟨ba,bc,bd,bi,bk,bm⟩:=af.lu a0.out;obtain ⟨bo,bs,bv,c0⟩:=ob j.out) | (refine ne (some 14) Tryz.func92 #[.int .i64 z,.slice M y.length U] ?_;(with_reducible refine (bA.calls k z _ _ y true _ ?side1 ?side2 A3.out).mono ?_);(case side1=>exact Kd.aW X.out nb);(case side2=>exact Y.out);rintro e w' ⟨rfl,⟨nd,rfl⟩⟩;refine ⟨_,rfl,?_⟩));go_ret;exact ⟨pi,nb⟩
 ·replace c4:=Bool.eq_false_iff.mpr c4
  subst c4;replace H:(some false) = some r:=by rw [if_neg (show ¬ (false = true) by decide)] at H;exact H
  obtain rfl:=Option.some.inj H;go_enter Tryz.func39,Tryz.ntmps39;go_wp2_with (first | ((with_reducible refine aY (N:=1) rfl ?_);(try (refine cG (by rfl) ?_;dsimp only));refine dg ?hg (N:=1) ?hd (cs:=#[.int .i64 z,.slice M y.length U]) (t:=37) ?hr ?_;(case hd=>rfl);(case hg=>rfl);(case hr=>first | (go_simp;done) | (go_simp;rfl));intro a7 hg df hbox hb;have j:=ae.mk hbox;have a8:=o0 hg HB;have a9:=o0 hg HB;replace HB:=no HB hb;clear hb hbox hg;obtain ⟨c1,ca,cb,cc⟩:=ob j.out) | (refine ne (some 7) Tryz.func91 #[.agg #[.int .i64 z,.slice M y.length U]] ?_;(with_reducible refine (au.calls k z _ _ y a4 a5 a6 a1 _ ?side1 ?side2 A2.out).mono ?_);(case side1=>exact pa (Kd.aW X.out HB.out));(case side2=>exact Y.out);rintro e dk ⟨rfl,hb⟩;refine ⟨_,rfl,?_⟩;replace j:=nz j hb;replace HB:=ae.mk (aH nb hb);(try clear hb);(try clear ar);(try clear hk);(try clear hi)) | ((with_reducible refine aY (N:=3) rfl ?_);(try (refine cG (by rfl) ?_;dsimp only));refine dg ?hg (N:=3) ?hd (cs:=#[.int .i64 0,.int .i64 0,.int .i64 0]) (t:=79) ?hr ?_;(case hd=>rfl);(case hg=>rfl);(case hr=>first | (go_simp;done) | (go_simp;rfl));intro aa hg dl hbox hb;have a0:=ae.mk hbox;have ab:=pr (w:=w) hg nb;have al:=pr (w:=w) hg nb;replace HB:=ae.mk (aH nb hb);have I:=pk hg j;have J:=pl hg j;replace j:=nz j hb;clear hb hbox hg;have d5:=J.out;have d6:=I.out;obtain ⟨cd,ce,cf,ch,ci,cl⟩:=af.lu a0.out;obtain ⟨co,cp,cr,cx⟩:=ob j.out) | (refine ne (some 14) Tryz.func92 #[.int .i64 z,.slice M y.length U] ?_;(with_reducible refine (bA.calls k z _ _ y false _ ?side1 ?side2 A3.out).mono ?_);(case side1=>exact Kd.aW X.out nb);(case side2=>exact Y.out);rintro e w' ⟨rfl,⟨nd,rfl⟩⟩;refine ⟨_,rfl,?_⟩));go_ret;exact ⟨pi,nb⟩
def aN.l0:Nat→Int→Int→Option (Int)
 | 0,_,_=>none
 | k+1,j,y=>if j > 0 then (aN.l0 k (j / 2) (wrap64 (y+(Go.bits .and .i64 j 1)))) else (some y)
def aN.f (k:Nat) (a0:Int):Option (Int):=(cH.f 8 a0).bind fun t150=>(if t150 = true then (aN.l0 k a0 0) else (some 0))
theorem aN.eB:∀ k,af.S2 aN.l0 k
 | 0=>by and_intros <;> (repeat intro _) <;> exact af.mz rfl
 | k+1=>by
  have j:=aN.eB k;and_intros <;> (repeat intro _) <;> unfold aN.l0 <;> exact ⟨pv⟩
theorem aN.mono:∀ a0 k,eX (aN.f k a0) (aN.f (k+1) a0):=by
 intro a0 k;have j:=aN.eB k;unfold aN.f;exact pv
set_option maxHeartbeats 8000000 in
set_option maxRecDepth 100000 in
theorem aN.calls (k:Nat) (a0:Int) (r:Int) (w:World) (h:aN.f k a0 = some r) :
  Calls Tryz.prog 59 #[.int .i64 a0] w fun e w'=>e = .returned (.int .i64 r)∧cj w w':=by
 unfold aN.f at h;have H:=h;clear h;obtain ⟨t150,J,H⟩:=oY H;(try dsimp only at H);by_cases c3:t150 = true
 ·subst c3
  replace H:(aN.l0 k a0 0) = some r:=by rw [if_pos rfl] at H;exact H
  have H':=ae.mk H;clear H;go_enter Tryz.func59,Tryz.ntmps59;go_wp2_with (first | (refine ne (some 5) Tryz.func96 #[.int .i64 8,.int .i64 a0] ?_;(with_reducible refine (cH.calls 8 a0 true _ J.out).mono ?_);rintro e w' ⟨rfl,⟨nd,rfl⟩⟩;refine ⟨_,rfl,?_⟩));go_loopg [0,3] k (fun kq v0 v3 w'=>∃ (j:Int) (y:Int),v0 = .int .i64 j∧v3 = .int .i64 y∧ae (aN.l0 kq j y = some r)∧ae (kq≤k)∧cj w w')
  case atStart=>exact ⟨(a0),(0),na,na,H',⟨Nat.le_refl _⟩,oX⟩
  case round =>
   clear H';obtain ⟨j,y,rfl,rfl,HA,z,⟨m1,rfl⟩⟩:=hrel;cases gk with
   | zero=>exact absurd HA.out (by simp [aN.l0])
   | succ M =>
    have H:=HA.out;clear HA;simp only [aN.l0] at H;by_cases c4:j > 0
    ·rw [if_pos c4] at H
     have I:=decide_eq_true c4;clear c4;have H':=ae.mk H;clear H;go_wp2;go_roundg M;case measure=>have:=z.out;omega
     case rel=>exact ⟨(j / 2),(wrap64 (y+(Go.bits .and .i64 j 1))),na,na,H',⟨by have:=z.out;omega⟩,oX⟩
    ·rw [if_neg c4] at H
     have I:decide (0 < j) = false:=decide_eq_false c4;clear c4;obtain rfl:=Option.some.inj H;go_wp2;go_ret;exact ⟨na,oX⟩
 ·replace c3:=Bool.eq_false_iff.mpr c3
  subst c3;replace H:(some 0) = some r:=by rw [if_neg (show ¬ (false = true) by decide)] at H;exact H
  obtain rfl:=Option.some.inj H;go_enter Tryz.func59,Tryz.ntmps59;go_wp2_with (first | (refine ne (some 5) Tryz.func96 #[.int .i64 8,.int .i64 a0] ?_;(with_reducible refine (cH.calls 8 a0 false _ J.out).mono ?_);rintro e w' ⟨rfl,⟨nd,rfl⟩⟩;refine ⟨_,rfl,?_⟩));go_ret;exact ⟨na,oX⟩
end Pr
end
end Go.Proofs.YtlfkfdmggpipbaaGreat
