/- The claim FnActivities: every text that its row comes to, laid together by slim.py (the words of the kit's print, the printed walks, the pure law, the row). -/
import Derived.ArgAppend
import Derived.Below
import Derived.BigQuiet
import Derived.ChangeArms
import Derived.ChangeOld
import Derived.DataReads
import Derived.Deep.AppendLies
import Derived.Deep.CutBlock
import Derived.Deep.DeepCutAuto
import Derived.Deep.Draws
import Derived.Deep.LoopGhost
import Derived.Deep.OwnRows
import Derived.Deep.QuietTactic
import Derived.Deep.RegionHeld3
import Derived.Deep.Slices
import Derived.KernelRfl
import Derived.Laws.BitsLemmas
import Derived.Laws.BytesArg
import Derived.Laws.IdiomCopy
import Derived.Laws.MakeOwn
import Derived.Laws.OwnMore
import Derived.Laws.Rows
import Derived.Laws.Slices
import Derived.Laws.StructEq
import Derived.Lib.AppendStr
import Derived.Lib.ConvBytes
import Derived.Lib.OwnBridge
import Derived.Lib.RowBridge
import Derived.Maps.AppendAt
import Derived.OpenShut
import Derived.OrdersHeld
import Derived.OwnWalk
import Derived.ProofKit
import Derived.RowKit
import Derived.RowKit3
import Derived.Shelf.Slices.CompactI
import Derived.Shelf.Slices.In.SortNone
import Derived.Shelf.Sort.Plain
import Derived.ShutString
import Derived.SizedLaws
import Derived.Sort.Grow
import Derived.Sort.OwnSortedInts
import Derived.Tactics
import Derived.Test.YtlfkfdmggpipbaaGreatProg
import Derived.Test.YtlfkfdmggpipbaaGreatRows
import Derived.WalkKit
import Derived.WideLaws
section
set_option linter.unusedVariables false
set_option linter.unusedSimpArgs false
namespace Go.Proofs.ag.aZ
open Go.RowKit
structure ae (p:Prop):Prop where mk :: (out:p)
structure cT (w w':World):Prop where mk :: (out:∃ n,w' = w.drewN n)
theorem cT.refl (w:World):cT w w:=⟨⟨0,rfl⟩⟩
theorem cT.step {w w':World} (h:cT w w') (n:Nat):cT w (w'.drewN n):=by
 obtain ⟨m,rfl⟩:=h;exact ⟨⟨m+n,World.drewN_drewN ..⟩⟩
theorem cT.grown {w w':World} (h:cT w w'):Grown w w':=by
 obtain ⟨n,rfl⟩:=h;induction n with
 | zero=>exact Grown.refl _
 | succ n ih=>rw [← World.drew_drewN];exact Grown.drew ih
theorem cT.below {w w':World} (h:cT w w'):Below w.heap.size w w':=by
 obtain ⟨n,rfl⟩:=h;induction n with
 | zero=>exact Below.refl _ _
 | succ n ih=>rw [← World.drew_drewN];exact ih.drew
def rd (xs:List Int) (i:Int):Int:=xs.getD i.toNat 0
def bt (s:ByteArray) (i:Int):Int:=if h:i.toNat < s.size then ((s[i.toNat]'h).toNat:Int) else 0
theorem jo (s:ByteArray) (i:Int):∀ h:i.toNat < s.size,((s[i.toNat]'h).toNat:Int) = bt s i:=fun h=>by simp [bt,h]
def mJ (k:IntKind) (xs:List Int):List Value:=xs.map fun x=>.int k x
theorem qI (k:IntKind) (xs ys:List Int):mJ k (xs ++ ys) = mJ k xs ++ mJ k ys:=by simp [mJ]
theorem e6 {w W:World} (h:Below w.heap.size w W) (o:Obj):Below w.heap.size w (W.alloc o):=h.alloc h.size o
theorem lQ {B:Nat} {w W:World} (h:Below B w W):Below B w W.drew:=⟨h.os,h.tape,h.output,h.size,h.block⟩
theorem dX {B:Nat} {w W:World} (h:Below B w W) (n:Nat):Below B w (W.drewN n):=⟨h.os,h.tape,h.output,h.size,h.block⟩
theorem nQ {B:Nat} {w w1 j:World} (h:Below B w w1) (hB:B≤w1.heap.size) (k:Below w1.heap.size w1 j):Below B w j :=
 h.trans ⟨k.os,k.tape,k.output,k.size,fun i hi=>k.block i (Nat.lt_of_lt_of_le hi hB)⟩
theorem kI {w w1:World} (h:Below w.heap.size w w1) (row:Option Nat):w.grownBy w1 row:=⟨h.os,h.tape,h.output,h.size,fun i hi _=>h.block i hi⟩
theorem gu {w w1:World} (h:Below w.heap.size w w1) {a:Addr} {v:Value} (hc:w.cell? a = some v):w1.cell? a = some v:=(h.cell (World.block_lt_of_cell? w a hc)).trans hc
theorem add_plain (g j:Nat):(⟨g,0,none⟩:Addr).add j = ⟨g,j,none⟩:=by unfold Addr.add;split <;> simp_all
def fJ (w:World) (k:IntKind) (A:Option Addr) (n:Nat) (xs:List Int):Prop :=
 xs.length = n∧n≤9223372036854775807∧(0 < n→∃ ad,A = some ad∧∀ j,j < n→w.cell? (ad.add j) = some (.int k (xs.getD j 0)))
theorem fJ.at_ {w:World} {k:IntKind} {A:Option Addr} {n:Nat} {xs:List Int} (h:fJ w k A n xs) (i:Int) (h0:0≤i) (h1:i < n):∃ ad,A = some ad∧w.cell? (ad.add i.toNat) = some (.int k (rd xs i)):=by
 obtain ⟨ad,e,hc⟩:=h.2.2 (by omega);exact ⟨ad,e,hc _ (by omega)⟩
theorem fJ.below {w w1:World} {k:IntKind} {A:Option Addr} {n:Nat} {xs:List Int} (h:fJ w k A n xs) (hb:Below w.heap.size w w1):fJ w1 k A n xs :=
 ⟨h.1,h.2.1,fun hn=>by
  obtain ⟨ad,e,hc⟩:=h.2.2 hn;exact ⟨ad,e,fun j hj=>gu hb (hc j hj)⟩⟩
theorem wO (W:World) (base:Nat) (e:TypeId) (size:Nat):W.ownsRow base e size (.slice none 0 0) 0 []:=⟨by simp,.inl ⟨rfl,rfl⟩⟩
theorem j6 {w:World} {base:Nat} {e:TypeId} {size n:Nat} {v:Value} {xs:List Value} (h:w.ownsRow base e size v n xs) (k:Nat) (hk:v.ownBlock = some k):base≤k:=by
 rcases h.2 with ⟨rfl,_⟩ | ⟨g,cap,cur,rfl,hb,_⟩
 ·simp [Value.ownBlock] at hk
 ·have:g = k:=by simpa [Value.ownBlock] using hk
  omega
theorem ux {w:World} {base:Nat} {e:TypeId} {size n:Nat} {v:Value} {xs:List Value} (h:w.ownsRow base e size v n xs) (k:Nat) (hk:v.ownBlock = some k):k < w.heap.size:=by
 rcases h.2 with ⟨rfl,_⟩ | ⟨g,cap,cur,rfl,hb,hh,_⟩
 ·simp [Value.ownBlock] at hk
 ·have:g = k:=by simpa [Value.ownBlock] using hk
  subst this;exact (Array.getElem?_eq_some_iff.1 hh).1
theorem pQ {w w1:World} {base:Nat} {e:TypeId} {size n:Nat} {v:Value} {xs:List Value} (h:w.ownsRow base e size v n xs) (hb:Below w.heap.size w w1):w1.ownsRow base e size v n xs :=
 h.kept (kI hb none) (by cases v.ownBlock <;> simp)
theorem tI {w:World} {base n:Nat} {e:TypeId} {size:Nat} {v:Value} {xs:List Value} (h:w.ownsRow base e size v n xs):∃ A c,v = .slice A n c:=by
 rcases h.2 with ⟨rfl,rfl⟩ | ⟨g,cap,cur,rfl,_⟩
 ·exact ⟨none,0,rfl⟩
 ·exact ⟨_,cap,rfl⟩
theorem lR {P:Program} {w:World} {base n:Nat} {e' src dst e:TypeId} {v:Value} {xs:List Int} (hs:P.underlying src = some (.slice e)) (he:P.underlying e = some (.int .u8)) (hd:P.underlying dst = some .string)
  (h:w.ownsRow base e' 1 v n (mJ .u8 xs)):(convert src dst v).run P w = .ok (.string (strOfNums xs)) w:=by
 have hl:xs.length = n:=by have:=h.1;simp [mJ] at this;exact this
 rcases h.2 with ⟨rfl,rfl⟩ | ⟨g,cap,cur,rfl,_⟩
 ·obtain rfl:xs = []:=List.eq_nil_of_length_eq_zero hl
  exact run_convert_bytes_nil w src e hs he 0 0 dst hd
 ·refine run_convert_bytes_arg w src e hs he g 0 n cap xs hl (fun i hi=>?_) dst hd
  have hc:=h.cells (g:=g) rfl i (.int .u8 (xs.getD i 0)) (by simp [mJ,List.getElem?_eq_getElem (show i < xs.length by omega),List.getD_eq_getElem?_getD]);have ha:(⟨g,0,none⟩:Addr).add i = ⟨g,0+i,none⟩:=by unfold Addr.add;split <;> simp_all
  rwa [ha] at hc
def bytesOf (s:ByteArray):List Int:=s.data.toList.map fun b=>(b.toNat:Int)
theorem qJ (s:ByteArray):s.data.toList.length = s.size:=by rw [Array.length_toList];rfl
theorem nR (s:ByteArray):(bytesOf s).length = s.size:=by rw [bytesOf,List.length_map,qJ]
theorem fJ.m6 {w:World} {k:IntKind} {A:Option Addr} {n:Nat} {xs:List Int} (h:fJ w k A n xs) (i:Nat) (hi:i≤n):fJ w k A i (xs.take i):=by
 refine ⟨by rw [List.length_take,h.1];omega,by have:=h.2.1;omega,fun hp=>?_⟩;obtain ⟨ad,e,hc⟩:=h.2.2 (by omega);refine ⟨ad,e,fun j hj=>?_⟩;rw [hc j (by omega)];simp [List.getD_eq_getElem?_getD,hj]
def gW {α:Type} (a b:Option α):Prop:=∀ r,a = some r→b = some r
theorem gW.refl {α:Type} (a:Option α):gW a a:=fun _ h=>h
theorem gW.none {α:Type} (b:Option α):gW Option.none b:=fun _ h=>by cases h
theorem gW.trans {α:Type} {a b c:Option α} (h:gW a b) (k:gW b c):gW a c:=fun r hr=>k r (h r hr)
theorem gW.ite {α:Type} {c:Prop} [Decidable c] {a a' b b':Option α} (h:gW a a') (k:gW b b'):gW (if c then a else b) (if c then a' else b'):=by
 split
 ·exact h
 ·exact k
theorem gW.bind {α β:Type} {a a':Option α} {f f':α→Option β} (h:gW a a') (k:∀ x,gW (f x) (f' x)):gW (a.bind f) (a'.bind f'):=by
 intro r hr;obtain ⟨x,hx,hf⟩:=Option.bind_eq_some_iff.1 hr;exact Option.bind_eq_some_iff.2 ⟨x,h x hx,k x r hf⟩
theorem gW.map {α β:Type} {a a':Option α} (f:α→β) (h:gW a a'):gW (a.map f) (a'.map f):=by
 intro r hr;obtain ⟨x,hx,hf⟩:=Option.map_eq_some_iff.1 hr;exact Option.map_eq_some_iff.2 ⟨x,h x hx,hf⟩
def cY {α:Type} (R:α→List Value→Prop) (size:Nat) (ps:List α) (cs:List Value):Prop :=
 cs.length = ps.length * size∧∀ j p,ps[j]? = some p→R p ((cs.drop (j * size)).take size)
theorem cY.none {α:Type} (R:α→List Value→Prop) (size:Nat):cY R size [] []:=⟨by simp,fun j p h=>by simp at h⟩
theorem cY.snoc {α:Type} {R:α→List Value→Prop} {size:Nat} {ps:List α} {cs c:List Value} {p:α} (h:cY R size ps cs) (hp:R p c) (hc:c.length = size):cY R size (ps ++ [p]) (cs ++ c):=by
 refine ⟨by rw [List.length_append,h.1,hc,List.length_append,List.length_singleton,Nat.add_mul,Nat.one_mul],fun j q hq=>?_⟩;rcases Nat.lt_or_ge j ps.length with hj | hj
 ·rw [List.getElem?_append_left hj] at hq
  have h1:j * size+size≤cs.length:=by rw [h.1,← Nat.succ_mul];exact Nat.mul_le_mul_right _ hj
  have h2:=h.2 j q hq;rw [List.drop_append_of_le_length (by omega),List.take_append_of_le_length (by rw [List.length_drop];omega)];exact h2
 ·have hj':j = ps.length:=by
   have:=(List.getElem?_eq_some_iff.1 hq).1;rw [List.length_append,List.length_singleton] at this;omega
  subst hj';have hq':p = q:=by simpa using hq
  subst hq';rw [← h.1,List.drop_left,← hc,List.take_length];exact hp
theorem cY.ko {α:Type} {R R':α→List Value→Prop} {size:Nat} {ps:List α} {cs:List Value} (h:cY R size ps cs) (hR:∀ p c,R p c→R' p c):cY R' size ps cs:=⟨h.1,fun j p hj=>hR _ _ (h.2 j p hj)⟩
def fK {α:Type} (R:α→List Value→Prop) (size:Nat) (w:World) (A:Option Addr) (n:Nat) (ps:List α):Prop :=
 ps.length = n∧n≤9223372036854775807∧(0 < n→∃ ad,A = some ad∧∀ j p,ps[j]? = some p→∃ c,c.length = size∧R p c∧∀ i u,c[i]? = some u→w.cell? (ad.add (j * size+i)) = some u)
theorem fK.zP {α:Type} {R:α→List Value→Prop} {size:Nat} {w:World} {A:Option Addr} {n:Nat} {ps:List α} (h:fK R size w A n ps) (d:α) (i:Int) (h0:0≤i) (h1:i < n) :
  ∃ ad c,A = some ad∧c.length = size∧R (ps.getD i.toNat d) c∧∀ j u,c[j]? = some u→w.cell? (ad.add (i.toNat * size+j)) = some u:=by
 obtain ⟨ad,e,hc⟩:=h.2.2 (by omega);have hl:i.toNat < ps.length:=by have:=h.1;omega
 obtain ⟨c,hs,hr,hcell⟩:=hc i.toNat _ (List.getElem?_eq_getElem hl);refine ⟨ad,c,e,hs,?_,hcell⟩;rw [List.getD_eq_getElem?_getD,List.getElem?_eq_getElem hl];exact hr
theorem fK.ko {α:Type} {R R':α→List Value→Prop} {size:Nat} {w w1:World} {A:Option Addr} {n:Nat} {ps:List α} (h:fK R size w A n ps) (hb:Below w.heap.size w w1) (hR:∀ p c,R p c→R' p c):fK R' size w1 A n ps :=
 ⟨h.1,h.2.1,fun hn=>by
  obtain ⟨ad,e,hc⟩:=h.2.2 hn;refine ⟨ad,e,fun j p hj=>?_⟩;obtain ⟨c,hs,hr,hcell⟩:=hc j p hj;exact ⟨c,hs,hR _ _ hr,fun i u hu=>gu hb (hcell i u hu)⟩⟩
theorem oR {α:Type} {R:α→List Value→Prop} {w:World} {base n size:Nat} {e:TypeId} {v:Value} {ps:List α} {cs:List Value} (h:w.ownsRow base e size v n cs) (hR:cY R size ps cs) (hn:ps.length = n) :
  ∃ A c,v = .slice A n c∧fK R size w A n ps:=by
 rcases Nat.eq_zero_or_pos n with h0 | h0
 ·rcases h.2 with ⟨rfl,rfl⟩ | ⟨g,cap,cur,rfl,_⟩
  ·exact ⟨none,0,rfl,hn,by omega,fun hp=>absurd hp (by omega)⟩
  ·exact ⟨_,cap,rfl,hn,by omega,fun hp=>absurd hp (by omega)⟩
 ·obtain ⟨g,cap,rfl,_,_⟩:=h.form h0
  have hm:n≤9223372036854775807:=by
   rcases h.2 with ⟨_,h1⟩ | ⟨g',cap',cur,he,_,_,h1,h2,_⟩
   ·omega
   ·simp only [maxLen] at h2
    omega
  refine ⟨_,cap,rfl,hn,hm,fun _=>⟨_,rfl,fun j p hj=>⟨(cs.drop (j * size)).take size,?_,hR.2 j p hj,fun i u hu=>?_⟩⟩⟩
  ·have hjl:=(List.getElem?_eq_some_iff.1 hj).1
   have h1:j * size+size≤cs.length:=by rw [hR.1,← Nat.succ_mul];exact Nat.mul_le_mul_right _ hjl
   rw [List.length_take,List.length_drop];omega
  ·refine h.cells (g:=g) rfl _ u ?_
   rw [List.getElem?_take] at hu;split at hu
   ·rw [List.getElem?_drop] at hu
    exact hu
   ·cases hu
section
variable {P:Program} {ops:Array Oper} {rest:List Oper} {o:Oper} {a:Act} {Q:Exit→Act→World→Prop}
theorem jq {w0 W:World} (base:Nat) (hgd:o.guard = none) (s x:Operand) (t e:TypeId) (z:Value) (size bytes:Nat)
  (ho:o.op = .call { callee:=.builtin .append,args:=#[s,x],argTypes:=#[t,t] })
  (ht:P.underlying t = some (.slice e)) (hinfo:(P.info? e).map (fun i=>(i.zero,i.size,i.bytes)) = some (some z,size,bytes)) (hz:z.cells.size = size) (j:0 < size) (y:0 < bytes)
  (v:Value) (n:Nat) (xs ys:List Value) (hs:a.eval s = v) (hx:a.eval x = .slice (some ⟨W.heap.size,0,none⟩) 1 1) (hys:ys.length = size) (h1:∀ u∈ys,u.oneCell' = true)
  (HO:W.ownsRow base e size v n xs) (HB:Below base w0 W) (hbase:base≤W.heap.size) (hl:(n+1) * bytes≤140737488355328)
  (h:∀ v1 w1,w1.ownsRow base e size v1 (n+1) (xs ++ ys)→Below base w0 w1→W.grownBy w1 v.ownBlock→(v1.ownBlock = v.ownBlock∨∃ b,v1.ownBlock = some b∧W.heap.size≤b)→wpList P ops Q rest (a.put o.dst v1) w1) :
  wpList P ops Q (o :: rest) a (W.alloc (.cells ys.toArray e)):=by
 obtain ⟨i0,hi,hzz⟩:=Option.map_eq_some_iff.1 hinfo;simp only [Prod.mk.injEq] at hzz;obtain ⟨X,Y,a0⟩:=hzz;have hlen:n+1≤140737488355328:=Nat.le_trans (Nat.le_mul_of_pos_right _ y) hl;refine wpList_append_own_at (W.alloc (.cells ys.toArray e)) hgd s x t ho base e i0 z size bytes ht hi X Y a0 hz j v n xs hs (HO.alloc _) ⟨W.heap.size,0,none⟩ 1 1 ys hx (by rw [hys];simp)
  (by simpa using World.news_of_block (cs:=ys.toArray) (t:=e) (fr:=(0,0)) (heap_alloc_new W (.cells ys.toArray e))) h1 (by simp only [maxLen];omega) hl (by simp;omega) ?_
 intro v1 w1 hown hg _ hat;refine h v1 w1 hown ((HB.alloc hbase _).grown hg (by simp;omega) (j6 HO)) (World.grownBy.trans (World.grownBy_alloc W _ _) hg) ?_;rcases hat with hat | hat
 ·exact .inl hat
 ·exact .inr ⟨_,hat,by simp⟩
end
theorem fY {w:World} {base:Nat} {e t:TypeId} {size n g:Nat} {v:Value} {xs:List Value} {cs:Array Value} (h:w.ownsRow base e size v n xs) (hg:w.heap[g]? = some (.cells cs t (0,0))) (hne:e≠t):some g≠v.ownBlock:=by
 rcases h.2 with ⟨rfl,_⟩ | ⟨g',cap,cur,rfl,_,hh,_⟩
 ·simp [Value.ownBlock]
 ·intro he
  have:g = g':=by simpa [Value.ownBlock] using he
  subst this;rw [hg] at hh;injection hh with hh
  injection hh with _ ht
  exact hne ht.symm
theorem qK {w:World} {base:Nat} {e:TypeId} {size n:Nat} {v:Value} {xs:List Value} (h:w.ownsRow base e size v n xs) {p:Addr} (hne:some p.block≠v.ownBlock) (u:Value):(w.setCell p u).ownsRow base e size v n xs:=by
 obtain ⟨h1,h2⟩:=h;refine ⟨h1,?_⟩;rcases h2 with h2 | ⟨g,cap,cur,rfl,hg,hh,r⟩
 ·exact .inl h2
 ·exact .inr ⟨g,cap,cur,rfl,hg,by rw [Below.heap_setCell _ _ _ _ (fun e=>hne (by rw [e];rfl))];exact hh,r⟩
theorem pR {w:World} {g:Nat} {t:TypeId} {cs:Array Value} (h:w.heap[g]? = some (.cells cs t (0,0))) (i:Nat) (u:Value):(w.setCell ⟨g,i,none⟩ u).heap[g]? = some (.cells (cs.setIfInBounds i u) t (0,0)):=by
 simp [World.setCell,Array.getElem?_modify,h]
theorem nD {w:World} {g:Nat} {t:TypeId} {cs:Array Value} (h:w.heap[g]? = some (.cells cs t (0,0))) {p:Addr} (hp:g≠p.block) (u:Value):(w.setCell p u).heap[g]? = some (.cells cs t (0,0)):=(Below.heap_setCell w p u g hp).trans h
theorem kJ {w:World} {g:Nat} {o:Obj} (h:w.heap[g]? = some o):g < w.heap.size:=(Array.getElem?_eq_some_iff.1 h).1
theorem ah {w:World} {g:Nat} {t:TypeId} {cs:Array Value} (h:w.heap[g]? = some (.cells cs t (0,0))) (i:Nat):w.cell? ⟨g,i,none⟩ = cs[i]?:=cell_of_row w g i cs t (0,0) h
theorem aj {w:World} {g:Nat} {t:TypeId} {cs:Array Value} (h:w.heap[g]? = some (.cells cs t (0,0))) (i:Nat):w.frozen? ⟨g,i,none⟩ = false:=by simp [World.frozen?,h]
theorem eR {w w1:World} {g:Nat} {o:Obj} {row:Option Nat} (h:w.heap[g]? = some o) (hg:w.grownBy w1 row) (hne:some g≠row):w1.heap[g]? = some o:=(hg.block g (kJ h) hne).trans h
def an (w w':World) (g:Nat) (row:Option Nat):Prop:=w.heap.size≤w'.heap.size∧∀ i,i < w.heap.size→i≠g→some i≠row→w'.heap[i]? = w.heap[i]?
theorem an.refl (w:World) (g:Nat) (row:Option Nat):an w w g row:=⟨Nat.le_refl _,fun _ _ _ _=>rfl⟩
theorem an.jr {w w1:World} {row:Option Nat} (h:w.grownBy w1 row) (g:Nat):an w w1 g row:=⟨h.size,fun i hi _ hr=>h.block i hi hr⟩
theorem an.dn {w w1:World} (h:Below w.heap.size w w1) (g:Nat) (row:Option Nat):an w w1 g row:=⟨h.size,fun i hi _ _=>h.block i hi⟩
theorem an.z1 {w w1:World} {g:Nat} {row:Option Nat} (h:an w w1 g row) (j:Nat) (u:Value):an w (w1.setCell ⟨g,j,none⟩ u) g row :=
 ⟨by simpa [World.setCell] using h.1,fun i hi hg hr=>(Below.heap_setCell w1 ⟨g,j,none⟩ u i hg).trans (h.2 i hi hg hr)⟩
theorem an.trans {w w1 y:World} {g:Nat} {row j:Option Nat} (h:an w w1 g row) (k:an w1 y g j) (hr:j = row∨∃ b,j = some b∧w.heap.size≤b):an w y g row :=
 ⟨Nat.le_trans h.1 k.1,fun i hi hg hn=>by
  refine (k.2 i (Nat.lt_of_lt_of_le hi h.1) hg ?_).trans (h.2 i hi hg hn);rcases hr with rfl | ⟨b,rfl,hb⟩
  ·exact hn
  ·intro e
   injection e with e
   omega⟩
theorem an.blk {w w1:World} {g g':Nat} {row:Option Nat} {o:Obj} (h:an w w1 g row) (hb:w.heap[g']? = some o) (hg:g'≠g) (hr:some g'≠row):w1.heap[g']? = some o:=(h.2 g' (kJ hb) hg hr).trans hb
theorem an.own {w w1:World} {g:Nat} {row:Option Nat} {base:Nat} {e:TypeId} {size n:Nat} {v:Value} {xs:List Value} (h:an w w1 g row) (ho:w.ownsRow base e size v n xs) (hg:v.ownBlock≠some g) (hr:v.ownBlock = none∨v.ownBlock≠row):w1.ownsRow base e size v n xs:=by
 obtain ⟨h1,h2⟩:=ho;refine ⟨h1,?_⟩;rcases h2 with h2 | ⟨b,cap,cur,rfl,hb,hh,r⟩
 ·exact .inl h2
 ·refine .inr ⟨b,cap,cur,rfl,hb,h.blk hh ?_ ?_,r⟩
  ·intro e
   exact hg (by rw [← e];rfl)
  ·rcases hr with hr | hr
   ·simp [Value.ownBlock] at hr
   ·exact hr
def Ev {α:Type} (g:Nat→Option α) (r:α):Prop:=∃ K,∀ k,K≤k→g k = some r
theorem Ev.now {α:Type} (r:α):Ev (fun _=>some r) r:=⟨0,fun _ _=>rfl⟩
theorem Ev.rounds {α:Type} {g:Nat→Option α} {r:α} (h:Ev g r):∃ k,g k = some r:=by
 obtain ⟨K,h⟩:=h;exact ⟨K,h K (Nat.le_refl _)⟩
theorem Ev.bind {α β:Type} {g:Nat→Option α} {f:Nat→α→Option β} {a:α} {r:β} (h:Ev g a) (k:Ev (fun n=>f n a) r):Ev (fun n=>(g n).bind (f n)) r:=by
 obtain ⟨K,h⟩:=h;obtain ⟨K',k⟩:=k;refine ⟨max K K',fun n hn=>?_⟩;have h1:=h n (by omega);have h2:=k n (by omega);simp only [h1,Option.bind_some];exact h2
theorem Ev.step {α:Type} {g f:Nat→Option α} {r:α} (h:∀ k,g (k+1) = f k) (k:Ev f r):Ev g r:=by
 obtain ⟨K,k⟩:=k;refine ⟨K+1,fun n hn=>?_⟩;obtain ⟨m,rfl⟩:∃ m,n = m+1:=⟨n - 1,by omega⟩
 rw [h];exact k m (by omega)
theorem Ev.congr {α:Type} {g f:Nat→Option α} {r:α} (h:∀ k,g k = f k) (k:Ev f r):Ev g r:=by
 obtain ⟨K,k⟩:=k;exact ⟨K,fun n hn=>(h n).trans (k n hn)⟩
section
variable {P:Program} {ops:Array Oper} {o:Oper} {a:Act} {Q:Exit→Act→World→Prop} {K:Act→World→Prop}
theorem m7 {w0 W:World} (base:Nat) (hw:Region.wanted o (yielded ops a.tmps) = true) (s x:Operand) (t e:TypeId) (z:Value) (size bytes:Nat)
  (ho:o.op = .call { callee:=.builtin .append,args:=#[s,x],argTypes:=#[t,t] })
  (ht:P.underlying t = some (.slice e)) (hinfo:(P.info? e).map (fun i=>(i.zero,i.size,i.bytes)) = some (some z,size,bytes)) (hz:z.cells.size = size) (j:0 < size) (y:0 < bytes)
  (v:Value) (n:Nat) (xs ys:List Value) (hs:a.eval s = v) (hx:a.eval x = .slice (some ⟨W.heap.size,0,none⟩) 1 1) (hys:ys.length = size) (h1:∀ u∈ys,u.oneCell' = true)
  (HO:W.ownsRow base e size v n xs) (HB:Below base w0 W) (hbase:base≤W.heap.size) (hl:(n+1) * bytes≤140737488355328)
  (h:∀ v1 w1,w1.ownsRow base e size v1 (n+1) (xs ++ ys)→Below base w0 w1→W.grownBy w1 v.ownBlock→(v1.ownBlock = v.ownBlock∨∃ b,v1.ownBlock = some b∧W.heap.size≤b)→K (a.put o.dst v1) w1) :
  if Region.wanted o (yielded ops a.tmps) = true then Oper.wp P o a (W.alloc (.cells ys.toArray e)) K Q else K (a.put o.dst undef) (W.alloc (.cells ys.toArray e)):=by
 obtain ⟨i0,hi,hzz⟩:=Option.map_eq_some_iff.1 hinfo;simp only [Prod.mk.injEq] at hzz;obtain ⟨X,Y,a0⟩:=hzz;have hlen:n+1≤140737488355328:=Nat.le_trans (Nat.le_mul_of_pos_right _ y) hl;rw [if_pos hw];obtain ⟨v1,w1,hr,hown,hg,_,hat⟩:=run_append_own_at (P:=P) (W.alloc (.cells ys.toArray e)) base t o.type e i0 z size bytes ht hi X Y a0 hz j v n xs (HO.alloc _) ⟨W.heap.size,0,none⟩ 1 1 ys (by rw [hys];simp)
  (by simpa using World.news_of_block (cs:=ys.toArray) (t:=e) (fr:=(0,0)) (heap_alloc_new W (.cells ys.toArray e))) h1 (by simp only [maxLen];omega) hl (by simp;omega)
 unfold Oper.wp execOp;simp only [ho,resolve,invoke,builtin,Sem.run_bind,Sem.run_pure,Result.andThen_ok,List.map_toArray,List.map_cons,List.map_nil,hs,hx,hr];refine h v1 w1 hown ((HB.alloc hbase _).grown hg (by simp;omega) (j6 HO)) (World.grownBy.trans (World.grownBy_alloc W _ _) hg) ?_;rcases hat with hat | hat
 ·exact .inl hat
 ·exact .inr ⟨_,hat,by simp⟩
end
theorem rP {w:World} {base base':Nat} {e:TypeId} {size n:Nat} {v:Value} {xs:List Value} (h:w.ownsRow base e size v n xs) (hb:base'≤base):w.ownsRow base' e size v n xs:=by
 obtain ⟨h1,h2⟩:=h;refine ⟨h1,?_⟩;rcases h2 with h2 | ⟨g,cap,cur,rfl,hg,r⟩
 ·exact .inl h2
 ·exact .inr ⟨g,cap,cur,rfl,Nat.le_trans hb hg,r⟩
section
variable {α:Type} {enc:α→Value} {d:α}
def jT (enc:α→Value) (xs:List α):List Value:=xs.map enc
def fL (d:α) (xs:List α) (i:Int):α:=xs.getD i.toNat d
theorem nh (xs:List α):(jT enc xs).length = xs.length:=by simp [jT]
theorem uy (xs:List α) (j:Nat) (h:j < xs.length):(jT enc xs)[j]? = some (enc (xs.getD j d)):=by
 simp [jT,List.getElem?_eq_getElem h,List.getD_eq_getElem?_getD]
def fM (enc:α→Value) (d:α) (w:World) (A:Option Addr) (n:Nat) (xs:List α):Prop :=
 xs.length = n∧n≤9223372036854775807∧(0 < n→∃ ad,A = some ad∧∀ j,j < n→w.cell? (ad.add j) = some (enc (xs.getD j d)))
theorem fM.at_ {w:World} {A:Option Addr} {n:Nat} {xs:List α} (h:fM enc d w A n xs) (i:Int) (h0:0≤i) (h1:i < n):∃ ad,A = some ad∧w.cell? (ad.add i.toNat) = some (enc (fL d xs i)):=by
 obtain ⟨ad,e,hc⟩:=h.2.2 (by omega);exact ⟨ad,e,hc _ (by omega)⟩
theorem fM.below {w w1:World} {A:Option Addr} {n:Nat} {xs:List α} (h:fM enc d w A n xs) (hb:Below w.heap.size w w1):fM enc d w1 A n xs :=
 ⟨h.1,h.2.1,fun hn=>by
  obtain ⟨ad,e,hc⟩:=h.2.2 hn;exact ⟨ad,e,fun j hj=>gu hb (hc j hj)⟩⟩
theorem fM.m6 {w:World} {A:Option Addr} {n:Nat} {xs:List α} (h:fM enc d w A n xs) (i:Nat) (hi:i≤n):fM enc d w A i (xs.take i):=by
 refine ⟨by rw [List.length_take,h.1];omega,by have:=h.2.1;omega,fun hp=>?_⟩;obtain ⟨ad,e,hc⟩:=h.2.2 (by omega);refine ⟨ad,e,fun j hj=>?_⟩;rw [hc j (by omega)];simp [List.getD_eq_getElem?_getD,hj]
theorem tJ {W:World} {base g n cap:Nat} {e:TypeId} {xs:List α} (h:W.ownsRow base e 1 (.slice (some ⟨g,0,none⟩) n cap) n (jT enc xs)) (i:Int) (h0:0≤i) (h1:i < n) :
  W.cell? ⟨g,i.toNat,none⟩ = some (enc (fL d xs i))∧W.frozen? ⟨g,i.toNat,none⟩ = false:=by
 have hl:xs.length = n:=by have:=h.1;simp [jT] at this;exact this
 constructor
 ·have hc:=h.cells (g:=g) rfl i.toNat _ (uy (d:=d) xs i.toNat (by omega))
  rwa [add_plain] at hc
 ·rcases h.2 with ⟨h',_⟩ | ⟨g',cap',cur,h',_,hh,_⟩
  ·cases h'
  ·have:g = g':=by injection h' with h';injection h' with h';injection h' with h'
   subst this;simp [World.frozen?,hh]
theorem pS {W:World} {base g n cap:Nat} {e:TypeId} {xs:List α} (h:W.ownsRow base e 1 (.slice (some ⟨g,0,none⟩) n cap) n (jT enc xs)) (i:Int) (x:α) :
  (W.setCell ⟨g,i.toNat,none⟩ (enc x)).ownsRow base e 1 (.slice (some ⟨g,0,none⟩) n cap) n (jT enc (xs.set i.toNat x))∧W.grownBy (W.setCell ⟨g,i.toNat,none⟩ (enc x)) (some g):=by
 have hs:=h.stored i.toNat (enc x);have he:(jT enc xs).set i.toNat (enc x) = jT enc (xs.set i.toNat x):=by simp [jT,List.map_set]
 rwa [he] at hs
end
theorem hY {w:World} {g:Nat} {o:Obj} (h:w.heap[g]? = some o) (o':Obj):(w.alloc o').heap[g]? = some o:=(Below.heap_alloc w o' g (kJ h)).trans h
theorem cM {w:World} {g:Nat} {o:Obj} (h:w.heap[g]? = some o):w.drew.heap[g]? = some o:=h
theorem iR {w:World} {g:Nat} {o:Obj} (h:w.heap[g]? = some o) (n:Nat):(w.drewN n).heap[g]? = some o:=h
theorem b6 {w w1:World} {g:Nat} {o:Obj} (h:w.heap[g]? = some o) (hb:Below w.heap.size w w1):w1.heap[g]? = some o:=(hb.block g (kJ h)).trans h
theorem wP (w:World) (o:Obj):(w.alloc o).heap[w.heap.size]? = some o:=heap_alloc_new w o
section
variable {P:Program}
theorem eV {fn:Func} {p u:Tmp} {ty:TypeId} (h:fn.results = #[.cell p ty,.tmp u]) (tmps:Array Value) (w:World) (g:Nat) (t:TypeId) (cs:Array Value) (fr:Nat×Nat) (d:TypeDesc)
  (hp:tmps.getD p undef = .pointer (some ⟨g,0,none⟩)) (hg:w.heap[g]? = some (.cells cs t fr))
  (hu:P.underlying ty = some d) (hd:(match d with | .struct _ | .array _ _=>true | _=>false) = true) (hi:(P.info? ty).map (·.size) = some cs.size) :
  (results fn tmps).run P w = .ok (.tuple #[.agg cs,tmps.getD u undef]) w:=by
 have hp':tmps[p]?.getD undef = .pointer (some ⟨g,0,none⟩):=by simpa using hp
 simp [results,h,hp',asAddr,run_loadVar_row w g t ty cs fr d hg hu hd hi]
end
theorem ye {w:World} {base n m c size:Nat} {e:TypeId} {A:Option Addr} {xs:List Value} (h:w.ownsRow base e size (.slice A m c) n xs):m≤c:=by
 rcases h.2 with ⟨he,_⟩ | ⟨g,cap,cur,he,_,_,hnc,_⟩
 ·injection he with _ h2 h3
  omega
 ·injection he with _ h2 h3
  omega
def fG {α:Type} (R:α→List Value→Prop) (e:TypeId) (size:Nat) (w:World) (base:Nat) (v:Value) (ps:List α):Prop :=
 ∃ inner,w.ownsRow base e size v ps.length inner∧cY R size ps inner
section
variable {α:Type} {R R':α→List Value→Prop} {e:TypeId} {size:Nat} {w w1:World} {base:Nat} {v:Value} {ps:List α}
theorem fG.none_ (R:α→List Value→Prop) (e:TypeId) (size:Nat) (w:World) (base:Nat):fG R e size w base (.slice none 0 0) []:=⟨[],wO _ _ _ _,cY.none _ _⟩
theorem fG.ko (h:fG R e size w base v ps) (hR:∀ p c,R p c→R' p c):fG R' e size w base v ps:=by
 obtain ⟨inner,ho,hr⟩:=h;exact ⟨inner,ho,hr.ko hR⟩
theorem fG.below (h:fG R e size w base v ps) (hb:Below w.heap.size w w1):fG R e size w1 base v ps:=by
 obtain ⟨inner,ho,hr⟩:=h;exact ⟨inner,pQ ho hb,hr⟩
theorem fG.z1 (h:fG R e size w base v ps) {g:Nat} {t:TypeId} {cells:Array Value} (hb:w.heap[g]? = some (.cells cells t (0,0))) (ht:e≠t) (j:Nat) (u:Value):fG R e size (w.setCell ⟨g,j,none⟩ u) base v ps:=by
 obtain ⟨inner,ho,hr⟩:=h;exact ⟨inner,qK ho (fY ho hb ht) u,hr⟩
theorem fG.keep (h:fG R e size w base v ps) {g:Nat} {t:TypeId} {cells:Array Value} (hb:w.heap[g]? = some (.cells cells t (0,0))) (ht:e≠t) (hk:an w w1 g none):fG R e size w1 base v ps:=by
 obtain ⟨inner,ho,hr⟩:=h;exact ⟨inner,hk.own ho (Ne.symm (fY ho hb ht)) (by cases v.ownBlock <;> simp),hr⟩
theorem fG.reads (h:fG R e size w base v ps):∃ A c,v = .slice A ps.length c∧ps.length≤c∧fK R size w A ps.length ps:=by
 obtain ⟨inner,ho,hr⟩:=h;obtain ⟨A,c,rfl,hrow⟩:=oR ho hr rfl;exact ⟨A,c,rfl,ye ho,hrow⟩
theorem fG.uz (h:fG R e size w base v ps) {g:Nat} {t:TypeId} {cells:Array Value} (hb:w.heap[g]? = some (.cells cells t (0,0))) (ht:e≠t):some g≠v.ownBlock:=by
 obtain ⟨inner,ho,hr⟩:=h;exact fY ho hb ht
end
section
variable {P:Program} {ops:Array Oper} {rest:List Oper} {o:Oper} {a:Act} {Q:Exit→Act→World→Prop} {α:Type} {R:α→List Value→Prop}
theorem fG.append {w0 W:World} (base:Nat) (hgd:o.guard = none) (s x:Operand) (t e:TypeId) (z:Value) (size bytes:Nat)
  (ho:o.op = .call { callee:=.builtin .append,args:=#[s,x],argTypes:=#[t,t] })
  (ht:P.underlying t = some (.slice e)) (hinfo:(P.info? e).map (fun i=>(i.zero,i.size,i.bytes)) = some (some z,size,bytes)) (hz:z.cells.size = size) (X:0 < size) (Y:0 < bytes)
  (v:Value) (ps:List α) (p:α) (cs:List Value) (hs:a.eval s = v) (hx:a.eval x = .slice (some ⟨W.heap.size,0,none⟩) 1 1) (hp:R p cs) (hcs:cs.length = size) (h1:∀ u∈cs,u.oneCell' = true)
  (HO:fG R e size W base v ps) (HB:Below base w0 W) (hbase:base≤W.heap.size) (hl:(ps.length+1) * bytes≤140737488355328)
  (h:∀ v1 w1,fG R e size w1 base v1 (ps ++ [p])→Below base w0 w1→W.grownBy w1 v.ownBlock→(v1.ownBlock = v.ownBlock∨∃ b,v1.ownBlock = some b∧W.heap.size≤b)→wpList P ops Q rest (a.put o.dst v1) w1) :
  wpList P ops Q (o :: rest) a (W.alloc (.cells cs.toArray e)):=by
 obtain ⟨inner,hown,hr⟩:=HO;refine jq base hgd s x t e z size bytes ho ht hinfo hz X Y v ps.length inner cs hs hx hcs h1 hown HB hbase hl ?_;intro v1 w1 j a0 a1 y;exact h v1 w1 ⟨inner ++ cs,by rw [List.length_append,List.length_singleton];exact j,hr.snoc hp hcs⟩ a0 a1 y
end
theorem fK.uA {α:Type} {R:α→List Value→Prop} {size:Nat} {w:World} {ad:Addr} {n:Nat} {ps:List α} (h:fK R size w (some ad) n ps) :
  ∃ inner,cY R size ps inner∧∀ j u,inner[j]? = some u→w.cell? (ad.add j) = some u:=by
 have key:∀ m,m≤ps.length→∃ inner,cY R size (ps.take m) inner∧∀ j u,inner[j]? = some u→w.cell? (ad.add j) = some u:=by
  intro m;induction m with
  | zero=>exact fun _=>⟨[],cY.none _ _,fun j u hu=>by simp at hu⟩
  | succ m ih =>
   intro hm;obtain ⟨inner,hr,hc⟩:=ih (by omega);obtain ⟨ad',he,hcell⟩:=h.2.2 (by have:=h.1;omega);injection he with he
   subst he;obtain ⟨c,hcl,hp,hcc⟩:=hcell m _ (List.getElem?_eq_getElem (show m < ps.length by omega));refine ⟨inner ++ c,?_,fun j u hu=>?_⟩
   ·rw [List.take_succ_eq_append_getElem (show m < ps.length by omega)]
    exact hr.snoc hp hcl
   ·have hil:inner.length = m * size:=by rw [hr.1,List.length_take,Nat.min_eq_left (by omega)]
    rcases Nat.lt_or_ge j inner.length with hj | hj
    ·rw [List.getElem?_append_left hj] at hu
     exact hc j u hu
    ·rw [List.getElem?_append_right hj] at hu
     have:=hcc (j - inner.length) u hu;rwa [hil,Nat.add_sub_cancel' (by omega)] at this
 obtain ⟨inner,hr,hc⟩:=key ps.length (Nat.le_refl _);rw [List.take_length] at hr;exact ⟨inner,hr,hc⟩
section
variable {P:Program} {ops:Array Oper} {rest:List Oper} {o:Oper} {a:Act} {Q:Exit→Act→World→Prop}
theorem iS {w0 W:World} (base:Nat) (hgd:o.guard = none) (s x:Operand) (t u e:TypeId)
  (ho:o.op = .call { callee:=.builtin .append,args:=#[s,x],argTypes:=#[t,u] })
  (ht:P.underlying t = some (.slice e)) (hu:P.underlying u = some .string) (hinfo:(P.info? e).map (fun i=>(i.zero,i.size,i.bytes)) = some (some (.int .u8 0),1,1))
  (v:Value) (xs:List Int) (y:ByteArray) (hs:a.eval s = v) (hx:a.eval x = .string y)
  (HO:W.ownsRow base e 1 v xs.length (mJ .u8 xs)) (HB:Below base w0 W) (hbase:base≤W.heap.size) (hl:xs.length+y.size≤140737488355328)
  (h:∀ v1 w1,w1.ownsRow base e 1 v1 (xs ++ bytesOf y).length (mJ .u8 (xs ++ bytesOf y))→Below base w0 w1→W.grownBy w1 v.ownBlock→wpList P ops Q rest (a.put o.dst v1) w1) :
  wpList P ops Q (o :: rest) a W:=by
 obtain ⟨i0,hi,hzz⟩:=Option.map_eq_some_iff.1 hinfo;simp only [Prod.mk.injEq] at hzz;obtain ⟨j,z,X⟩:=hzz;refine Lib.wpList_append_own_string W hgd s x t u ho base e i0 ht hu hi j z X v xs.length (mJ .u8 xs) hs HO y hx (by simp only [maxLen];omega) hl hbase ?_;intro v1 w1 hown hg _;have Y:(xs ++ bytesOf y).length = xs.length+y.size:=by rw [List.length_append,nR]
 have hc:mJ .u8 (xs ++ bytesOf y) = mJ .u8 xs ++ Lib.strCells y:=by
  rw [qI];congr 1
  simp [mJ,bytesOf,Lib.strCells]
 exact h v1 w1 (by rw [Y,hc];exact hown) (HB.grown hg hbase (j6 HO)) hg
end
structure Kd (α:Type) where
 sz:Nat
 E:List Nat
 K:World→α→List Value→Prop
 M:World→Nat→(Nat→Prop)→α→List Value→Prop
 K_len:∀ {w x cs},K w x cs→cs.length = sz
 K_one:∀ {w x cs},K w x cs→∀ u∈cs,u.oneCell' = true
 K_below:∀ {w w1:World} {x cs},Below w.heap.size w w1→K w x cs→K w1 x cs
 K_of_M:∀ {w base ok x cs},M w base ok x cs→K w x cs
 M_mono:∀ {w base ok ok' x cs},(∀ k,ok k→ok' k)→M w base ok x cs→M w base ok' x cs
 M_bound:∀ {w:World} {base ok x cs},M w base ok x cs→M w base (fun k=>ok k∧base≤k∧k < w.heap.size∧∃ q,q∈E∧∃ cells,w.heap[k]? = some (.cells cells q (0,0))) x cs
 M_move:∀ {w w1:World} {base ok x cs},(∀ k,ok k→w1.heap[k]? = w.heap[k]?)→M w base ok x cs→M w1 base ok x cs
 M_lower:∀ {w base base' ok x cs},base'≤base→M w base ok x cs→M w base' ok x cs
theorem uB {w w1:World} {base:Nat} {e:TypeId} {size n:Nat} {v:Value} {xs:List Value} (h:w.ownsRow base e size v n xs) (hm:∀ k,v.ownBlock = some k→w1.heap[k]? = w.heap[k]?):w1.ownsRow base e size v n xs:=by
 obtain ⟨h1,h2⟩:=h;refine ⟨h1,?_⟩;rcases h2 with h2 | ⟨g,cap,cur,rfl,hg,hh,r⟩
 ·exact .inl h2
 ·exact .inr ⟨g,cap,cur,rfl,hg,(hm g (by simp [Value.ownBlock])).trans hh,r⟩
theorem kZ {w:World} {base:Nat} {e:TypeId} {size n:Nat} {v:Value} {xs:List Value} (h:w.ownsRow base e size v n xs) (k:Nat) (hk:v.ownBlock = some k):∃ cells,w.heap[k]? = some (.cells cells e (0,0)):=by
 rcases h.2 with ⟨rfl,_⟩ | ⟨g,cap,cur,rfl,hg,hh,r⟩
 ·simp [Value.ownBlock] at hk
 ·have:g = k:=by simpa [Value.ownBlock] using hk
  subst this;exact ⟨cur,hh⟩
namespace Kd
def C {α:Type} (d:Kd α) (w:World) (A:Option Addr) (n:Nat) (xs:List α):Prop:=fK (d.K w) d.sz w A n xs
def R {α:Type} (d:Kd α) (e:Nat) (w:World) (base:Nat) (ok:Nat→Prop) (v:Value) (xs:List α):Prop :=
 (∀ k,v.ownBlock = some k→ok k)∧fG (d.M w base (fun k=>ok k∧some k≠v.ownBlock)) e d.sz w base v xs
section
variable {α:Type} {d:Kd α} {e:Nat} {w w1:World} {base:Nat} {ok ok':Nat→Prop} {v:Value} {xs:List α}
theorem aN {A:Option Addr} {n:Nat} (h:d.C w A n xs) (hb:Below w.heap.size w w1):d.C w1 A n xs:=fK.ko h hb (fun _ _ hp=>d.K_below hb hp)
theorem ni (d:Kd α) (e:Nat) (w:World) (base:Nat) (ok:Nat→Prop):d.R e w base ok (.slice none 0 0) []:=⟨fun k hk=>by simp [Value.ownBlock] at hk,fG.none_ _ _ _ _ _⟩
theorem aQ (h:d.R e w base ok v xs) (hok:∀ k,ok k→ok' k):d.R e w base ok' v xs:=⟨fun k hk=>hok k (h.1 k hk),h.2.ko (fun _ _ hp=>d.M_mono (fun k hk=>⟨hok k hk.1,hk.2⟩) hp)⟩
theorem ia (h:d.R e w base ok v xs):d.R e w base (fun k=>ok k∧base≤k∧k < w.heap.size∧∃ q,q∈e :: d.E∧∃ cells,w.heap[k]? = some (.cells cells q (0,0))) v xs:=by
 obtain ⟨h0,inner,ho,hr⟩:=h;refine ⟨fun k hk=>?_,inner,ho,hr.ko (fun _ _ hp=>d.M_mono (fun k hk=>?_) (d.M_bound hp))⟩
 ·obtain ⟨cells,hc⟩:=kZ ho k hk
  exact ⟨h0 k hk,j6 ho k hk,ux ho k hk,e,List.mem_cons_self,cells,hc⟩
 ·obtain ⟨⟨h1,h2⟩,h3,h4,q,hq,hc⟩:=hk
  exact ⟨⟨h1,h3,h4,q,List.mem_cons_of_mem _ hq,hc⟩,h2⟩
theorem mK (h:d.R e w base ok v xs) (hm:∀ k,ok k→w1.heap[k]? = w.heap[k]?):d.R e w1 base ok v xs:=by
 obtain ⟨h0,inner,ho,hr⟩:=h;exact ⟨h0,inner,uB ho (fun k hk=>hm k (h0 k hk)),hr.ko (fun _ _ hp=>d.M_move (fun k hk=>hm k hk.1) hp)⟩
theorem b5 {base':Nat} (h:d.R e w base ok v xs) (hb:base'≤base):d.R e w base' ok v xs:=by
 obtain ⟨h0,inner,ho,hr⟩:=h;exact ⟨h0,inner,rP ho hb,hr.ko (fun _ _ hp=>d.M_lower hb hp)⟩
theorem nS (h:d.R e w base ok v xs) (hm:∀ k,ok k→k < w.heap.size→w1.heap[k]? = w.heap[k]?):d.R e w1 base ok v xs :=
 aQ (mK (ia h) (fun k hk=>hm k hk.1 hk.2.2.1)) (fun _ hk=>hk.1)
theorem uC {x:α} {cs:List Value} (h:d.M w base ok x cs) (hm:∀ k,ok k→k < w.heap.size→w1.heap[k]? = w.heap[k]?):d.M w1 base ok x cs :=
 d.M_mono (fun _ hk=>hk.1) (d.M_move (fun k hk=>hm k hk.1 hk.2.2.1) (d.M_bound h))
theorem dG (h:d.R e w base ok v xs) (hb:Below w.heap.size w w1):d.R e w1 base ok v xs:=nS h (fun k _ hk=>hb.block k hk)
theorem sN {x:α} {cs:List Value} (h:d.M w base ok x cs) (hb:Below w.heap.size w w1):d.M w1 base ok x cs:=uC h (fun k _ hk=>hb.block k hk)
theorem wQ (h:d.R e w base ok v xs) {row:Option Nat} (hg:w.grownBy w1 row) (hok:∀ k,ok k→some k≠row):d.R e w1 base ok v xs:=nS h (fun k ho hk=>hg.block k hk (hok k ho))
theorem bU (h:d.R e w base ok v xs) {p:Addr} (hok:∀ k,ok k→k≠p.block) (u:Value):d.R e (w.setCell p u) base ok v xs:=nS h (fun k ho _=>Below.heap_setCell w p u k (hok k ho))
theorem fB (h:d.R e w base ok v xs) {g:Nat} (hk:an w w1 g none) (hok:∀ k,ok k→k≠g):d.R e w1 base ok v xs:=nS h (fun k ho hlt=>hk.2 k hlt (hok k ho) (by simp))
theorem cr (h:d.R e w base ok v xs) {g t:Nat} {cells:Array Value} (hb:w.heap[g]? = some (.cells cells t (0,0))) (ht:∀ q,q∈e :: d.E→q≠t):d.R e w base (fun k=>ok k∧k≠g) v xs :=
 aQ (ia h) (fun k hk=>⟨hk.1,by
  obtain ⟨_,_,_,q,hq,cells',hc⟩:=hk;rintro rfl
  rw [hc] at hb;injection hb with hb
  injection hb with _ hb
  exact ht q hq hb⟩)
theorem pT (h:d.R e w base ok v xs):∃ A c,v = .slice A xs.length c∧xs.length≤c∧d.C w A xs.length xs:=by
 obtain ⟨A,c,he,hl,hr⟩:=fG.reads h.2;exact ⟨A,c,he,hl,hr.ko (Below.refl _ _) (fun _ _ hp=>d.K_of_M hp)⟩
theorem bk (h:d.R e w base ok v xs):∃ A c,v = .slice A xs.length c:=by
 obtain ⟨A,c,he,_⟩:=pT h;exact ⟨A,c,he⟩
theorem qL (h:d.R e w base ok v xs):∃ inner,w.ownsRow base e d.sz v xs.length inner:=by
 obtain ⟨_,inner,ho,_⟩:=h;exact ⟨inner,ho⟩
theorem jU (h:d.R e w base ok v xs) {g t:Nat} {cells:Array Value} (hb:w.heap[g]? = some (.cells cells t (0,0))) (ht:e≠t):some g≠v.ownBlock:=fG.uz h.2 hb ht
end
def scalar {α:Type} (enc:α→Value) (h1:∀ x,(enc x).oneCell' = true):Kd α where
 sz:=1
 E:=[]
 K:=fun _ x cs=>cs = [enc x]
 M:=fun _ _ _ x cs=>cs = [enc x]
 K_len:=fun h=>by rw [h];rfl
 K_one:=fun h u hu=>by
  rw [h] at hu;rw [List.mem_singleton.1 hu];exact h1 _
 K_below:=fun _ h=>h
 K_of_M:=fun h=>h
 M_mono:=fun _ h=>h
 M_bound:=fun h=>h
 M_move:=fun _ h=>h
 M_lower:=fun _ h=>h
def int (k:IntKind):Kd Int:=scalar (Value.int k) (fun _=>rfl)
def bool:Kd Bool:=scalar Value.bool (fun _=>rfl)
def string:Kd ByteArray:=scalar Value.string (fun _=>rfl)
def slice {α:Type} (e:Nat) (d:Kd α):Kd (List α) where
 sz:=1
 E:=e :: d.E
 K:=fun w xs cs=>∃ A c,cs = [.slice A xs.length c]∧xs.length≤c∧d.C w A xs.length xs
 M:=fun w base ok xs cs=>∃ v,cs = [v]∧d.R e w base ok v xs
 K_len:=by
  rintro w x cs ⟨A,c,rfl,_⟩
  rfl
 K_one:=by
  rintro w x cs ⟨A,c,rfl,_⟩ u hu
  rw [List.mem_singleton.1 hu];rfl
 K_below:=by
  rintro w w1 x cs hb ⟨A,c,rfl,hl,hr⟩
  exact ⟨A,c,rfl,hl,aN hr hb⟩
 K_of_M:=by
  rintro w base ok x cs ⟨v,rfl,h⟩
  obtain ⟨A,c,rfl,hl,hr⟩:=pT h;exact ⟨A,c,rfl,hl,hr⟩
 M_mono:=by
  rintro w base ok ok' x cs hok ⟨v,rfl,h⟩
  exact ⟨v,rfl,aQ h hok⟩
 M_bound:=by
  rintro w base ok x cs ⟨v,rfl,h⟩
  exact ⟨v,rfl,ia h⟩
 M_move:=by
  rintro w w1 base ok x cs hm ⟨v,rfl,h⟩
  exact ⟨v,rfl,mK h hm⟩
 M_lower:=by
  rintro w base base' ok x cs hb ⟨v,rfl,h⟩
  exact ⟨v,rfl,b5 h hb⟩
def pair {α β:Type} (a:Kd α) (b:Kd β):Kd (α×β) where
 sz:=a.sz+b.sz
 E:=a.E ++ b.E
 K:=fun w x cs=>∃ j y,cs = j ++ y∧a.K w x.1 j∧b.K w x.2 y
 M:=fun w base ok x cs=>∃ j y,cs = j ++ y∧a.M w base ok x.1 j∧b.M w base ok x.2 y
 K_len:=by
  rintro w x cs ⟨j,y,rfl,h0,h1⟩
  rw [List.length_append,a.K_len h0,b.K_len h1]
 K_one:=by
  rintro w x cs ⟨j,y,rfl,h0,h1⟩ u hu
  rcases List.mem_append.1 hu with hu | hu
  ·exact a.K_one h0 u hu
  ·exact b.K_one h1 u hu
 K_below:=by
  rintro w w1 x cs hb ⟨j,y,rfl,h0,h1⟩
  exact ⟨j,y,rfl,a.K_below hb h0,b.K_below hb h1⟩
 K_of_M:=by
  rintro w base ok x cs ⟨j,y,rfl,h0,h1⟩
  exact ⟨j,y,rfl,a.K_of_M h0,b.K_of_M h1⟩
 M_mono:=by
  rintro w base ok ok' x cs hok ⟨j,y,rfl,h0,h1⟩
  exact ⟨j,y,rfl,a.M_mono hok h0,b.M_mono hok h1⟩
 M_bound:=by
  rintro w base ok x cs ⟨j,y,rfl,h0,h1⟩
  refine ⟨j,y,rfl,a.M_mono ?_ (a.M_bound h0),b.M_mono ?_ (b.M_bound h1)⟩
  ·rintro k ⟨h2,h3,h4,q,hq,hc⟩
   exact ⟨h2,h3,h4,q,List.mem_append_left _ hq,hc⟩
  ·rintro k ⟨h2,h3,h4,q,hq,hc⟩
   exact ⟨h2,h3,h4,q,List.mem_append_right _ hq,hc⟩
 M_move:=by
  rintro w w1 base ok x cs hm ⟨j,y,rfl,h0,h1⟩
  exact ⟨j,y,rfl,a.M_move hm h0,b.M_move hm h1⟩
 M_lower:=by
  rintro w base base' ok x cs hb ⟨j,y,rfl,h0,h1⟩
  exact ⟨j,y,rfl,a.M_lower hb h0,b.M_lower hb h1⟩
def bot {α:Type} (sz:Nat) (E:List Nat):Kd α where
 sz:=sz
 E:=E
 K:=fun _ _ _=>False
 M:=fun _ _ _ _ _=>False
 K_len:=fun h=>h.elim
 K_one:=fun h=>h.elim
 K_below:=fun _ h=>h
 K_of_M:=fun h=>h
 M_mono:=fun _ h=>h
 M_bound:=fun h=>h
 M_move:=fun _ h=>h
 M_lower:=fun _ h=>h
def upto {α:Type} (F:Kd α→Kd α) (sz:Nat) (E:List Nat):Nat→Kd α
 | 0=>bot sz E
 | n+1=>F (upto F sz E n)
theorem z6 {α:Type} {d:Kd α} {w:World} {A:Option Addr} {n:Nat} {xs:List α} (h:d.C w A n xs) (z:α) (i:Int) (h0:0≤i) (h1:i < n) :
  ∃ ad c,A = some ad∧c.length = d.sz∧d.K w (xs.getD i.toNat z) c∧∀ j u,c[j]? = some u→w.cell? (ad.add (i.toNat * d.sz+j)) = some u:=fK.zP h z i h0 h1
theorem nT {α:Type} {d:Kd α} {e base:Nat} {ok okp:Nat→Prop} {W w1:World} {v v1:Value} {xs:List α} {p:α} {inner cs:List Value} (h0:∀ k,v.ownBlock = some k→ok k) (hr:cY (d.M W base (fun k=>ok k∧some k≠v.ownBlock)) d.sz xs inner) (hp:d.M W base okp p cs) (j:∀ k,okp k→ok k∧some k≠v.ownBlock) (hfresh:∀ k,W.heap.size≤k→ok k)
  (hown:w1.ownsRow base e d.sz v1 (xs.length+1) (inner ++ cs)) (hg:W.grownBy w1 v.ownBlock) (hat:v1.ownBlock = v.ownBlock∨∃ b,v1.ownBlock = some b∧W.heap.size≤b):d.R e w1 base ok v1 (xs ++ [p]):=by
 have hne:∀ k,some k≠v.ownBlock→k < W.heap.size→some k≠v1.ownBlock:=by
  intro k hk hlt;rcases hat with hat | ⟨b,hb,hle⟩
  ·rw [hat];exact hk
  ·rw [hb]
   intro he;injection he with he
   omega
 have step:∀ {q:α} {c:List Value} {o:Nat→Prop},d.M W base o q c→(∀ k,o k→ok k∧some k≠v.ownBlock)→d.M w1 base (fun k=>ok k∧some k≠v1.ownBlock) q c:=by
  intro q c o hq ho;have h1:=d.M_move (w1:=w1) (fun k hk=>hg.block k hk.2.2.1 (ho k hk.1).2) (d.M_bound hq);exact d.M_mono (fun k hk=>⟨(ho k hk.1).1,hne k (ho k hk.1).2 hk.2.2.1⟩) h1
 refine ⟨fun k hk=>?_,inner ++ cs,by rw [List.length_append,List.length_singleton];exact hown,?_⟩
 ·rcases hat with hat | ⟨b,hb,hle⟩
  ·exact h0 k (hat ▸ hk)
  ·rw [hb] at hk
   injection hk with hk
   exact hfresh k (by omega)
 ·exact (hr.ko (fun _ _ hq=>step hq (fun _ hk=>hk))).snoc (step hp j) (d.K_len (d.K_of_M hp))
section
variable {P:Program} {ops:Array Oper} {rest:List Oper} {o:Oper} {a:Act} {Q:Exit→Act→World→Prop} {α:Type}
theorem eS (d:Kd α) {w0 W:World} (base:Nat) (hgd:o.guard = none) (s x:Operand) (t e:TypeId) (z:Value) (bytes:Nat)
  (ho:o.op = .call { callee:=.builtin .append,args:=#[s,x],argTypes:=#[t,t] })
  (ht:P.underlying t = some (.slice e)) (hinfo:(P.info? e).map (fun i=>(i.zero,i.size,i.bytes)) = some (some z,d.sz,bytes)) (hz:z.cells.size = d.sz) (a0:0 < d.sz) (a1:0 < bytes)
  (v:Value) (xs:List α) (p:α) (cs:List Value) (ok okp:Nat→Prop) (hs:a.eval s = v) (hx:a.eval x = .slice (some ⟨W.heap.size,0,none⟩) 1 1) (hp:d.M W base okp p cs) (X:∀ k,okp k→ok k∧some k≠v.ownBlock) (hfresh:∀ k,W.heap.size≤k→ok k)
  (HO:d.R e W base ok v xs) (HB:Below base w0 W) (hbase:base≤W.heap.size) (hl:(xs.length+1) * bytes≤140737488355328)
  (h:∀ v1 w1,d.R e w1 base ok v1 (xs ++ [p])→Below base w0 w1→W.grownBy w1 v.ownBlock→(v1.ownBlock = v.ownBlock∨∃ b,v1.ownBlock = some b∧W.heap.size≤b)→wpList P ops Q rest (a.put o.dst v1) w1) :
  wpList P ops Q (o :: rest) a (W.alloc (.cells cs.toArray e)):=by
 obtain ⟨h0,inner,hown,hr⟩:=HO;refine jq base hgd s x t e z d.sz bytes ho ht hinfo hz a0 a1 v xs.length inner cs hs hx (d.K_len (d.K_of_M hp)) (d.K_one (d.K_of_M hp)) hown HB hbase hl ?_;intro v1 w1 y a2 Y j;exact h v1 w1 (nT h0 hr hp X hfresh y Y j) a2 Y j
end
section
variable {P:Program} {ops:Array Oper} {o:Oper} {a:Act} {Q:Exit→Act→World→Prop} {Kc:Act→World→Prop} {α:Type}
theorem gU (d:Kd α) {w0 W:World} (base:Nat) (hw:Region.wanted o (yielded ops a.tmps) = true) (s x:Operand) (t e:TypeId) (z:Value) (bytes:Nat)
  (ho:o.op = .call { callee:=.builtin .append,args:=#[s,x],argTypes:=#[t,t] })
  (ht:P.underlying t = some (.slice e)) (hinfo:(P.info? e).map (fun i=>(i.zero,i.size,i.bytes)) = some (some z,d.sz,bytes)) (hz:z.cells.size = d.sz) (a0:0 < d.sz) (a1:0 < bytes)
  (v:Value) (xs:List α) (p:α) (cs:List Value) (ok okp:Nat→Prop) (hs:a.eval s = v) (hx:a.eval x = .slice (some ⟨W.heap.size,0,none⟩) 1 1) (hp:d.M W base okp p cs) (X:∀ k,okp k→ok k∧some k≠v.ownBlock) (hfresh:∀ k,W.heap.size≤k→ok k)
  (HO:d.R e W base ok v xs) (HB:Below base w0 W) (hbase:base≤W.heap.size) (hl:(xs.length+1) * bytes≤140737488355328)
  (h:∀ v1 w1,d.R e w1 base ok v1 (xs ++ [p])→Below base w0 w1→W.grownBy w1 v.ownBlock→(v1.ownBlock = v.ownBlock∨∃ b,v1.ownBlock = some b∧W.heap.size≤b)→Kc (a.put o.dst v1) w1) :
  if Region.wanted o (yielded ops a.tmps) = true then Oper.wp P o a (W.alloc (.cells cs.toArray e)) Kc Q else Kc (a.put o.dst undef) (W.alloc (.cells cs.toArray e)):=by
 obtain ⟨h0,inner,hown,hr⟩:=HO;refine m7 base hw s x t e z d.sz bytes ho ht hinfo hz a0 a1 v xs.length inner cs hs hx (d.K_len (d.K_of_M hp)) (d.K_one (d.K_of_M hp)) hown HB hbase hl ?_;intro v1 w1 y a2 Y j;exact h v1 w1 (nT h0 hr hp X hfresh y Y j) a2 Y j
end
theorem qM {α:Type} {enc:α→Value} (xs:List α):cY (fun (x:α) (cs:List Value)=>cs = [enc x]) 1 xs (jT enc xs):=by
 refine ⟨by simp [jT],fun j p hj=>?_⟩;obtain ⟨hl,hp⟩:=List.getElem?_eq_some_iff.1 hj;have hl':j < (jT enc xs).length:=by rw [nh];exact hl
 rw [Nat.mul_one,List.drop_eq_getElem_cons hl'];simp [jT,hp]
theorem jV {α:Type} {enc:α→Value} {h1:∀ x,(enc x).oneCell' = true} {e:Nat} {w:World} {base:Nat} {ok:Nat→Prop} {v:Value} {xs:List α} (ho:w.ownsRow base e 1 v xs.length (jT enc xs)) (hok:∀ k,v.ownBlock = some k→ok k):(scalar enc h1).R e w base ok v xs:=⟨hok,jT enc xs,ho,qM xs⟩
theorem iw {α:Type} {enc:α→Value} {h1:∀ x,(enc x).oneCell' = true} {e:Nat} {w:World} {base:Nat} {ok:Nat→Prop} {v:Value} {xs:List α} (h:(scalar enc h1).R e w base ok v xs):w.ownsRow base e 1 v xs.length (jT enc xs):=by
 obtain ⟨_,inner,ho,hr⟩:=h;have:inner = jT enc xs:=by
  apply List.ext_getElem?
  intro j;rcases Nat.lt_or_ge j xs.length with hj | hj
  ·have h2:=hr.2 j _ (List.getElem?_eq_getElem hj)
   have hl:j < inner.length:=by have:=hr.1;simp [scalar] at this;omega
   have h3:(inner.drop (j * 1)).take 1 = [enc xs[j]]:=h2;rw [Nat.mul_one,List.drop_eq_getElem_cons hl] at h3;have h4:inner[j] = enc xs[j]:=by
    have h5:=congrArg List.head? h3;rw [List.take_succ_cons] at h5;exact Option.some.inj h5
   rw [List.getElem?_eq_getElem hl,h4];simp [jT,List.getElem?_eq_getElem hj]
  ·have h3:inner.length = xs.length:=by have:=hr.1;simp [scalar] at this;omega
   rw [List.getElem?_eq_none (by omega),List.getElem?_eq_none (by rw [nh];omega)]
 rw [← this];exact ho
theorem nU {α:Type} {enc:α→Value} {d:α} {h1:∀ x,(enc x).oneCell' = true} {w:World} {A:Option Addr} {n:Nat} {xs:List α} (h:(scalar enc h1).C w A n xs):fM enc d w A n xs:=by
 refine ⟨h.1,h.2.1,fun hn=>?_⟩;obtain ⟨ad,e,hc⟩:=h.2.2 hn;refine ⟨ad,e,fun j hj=>?_⟩;have hl:j < xs.length:=by have:=h.1;omega
 obtain ⟨c,_,hK,hcell⟩:=hc j _ (List.getElem?_eq_getElem hl);have hK':c = [enc xs[j]]:=hK;subst hK';have:=hcell 0 _ rfl;simpa [scalar,List.getD_eq_getElem?_getD,List.getElem?_eq_getElem hl] using this
end Kd
namespace Kd
def Sub {α β:Type} (F:Kd α→Kd β) (E:List Nat):Prop:=∀ d:Kd α,(∀ q,q∈d.E→q∈E)→∀ q,q∈(F d).E→q∈E
end Kd
namespace Kd
theorem fc {α:Type} {d:Kd α} {e base:Nat} {ok:Nat→Prop} {W w1:World} {u v v1:Value} {xs:List α} (h:d.R e W base (fun k=>ok k∧some k≠v.ownBlock) u xs) (hg:W.grownBy w1 v.ownBlock) (hat:v1.ownBlock = v.ownBlock∨∃ b,v1.ownBlock = some b∧W.heap.size≤b):d.R e w1 base (fun k=>ok k∧some k≠v1.ownBlock) u xs:=by
 refine aQ (mK (ia h) (fun k hk=>hg.block k hk.2.2.1 hk.1.2)) (fun k hk=>⟨hk.1.1,?_⟩);rcases hat with hat | ⟨b,hb,hle⟩
 ·rw [hat];exact hk.1.2
 ·rw [hb]
  intro he;injection he with he
  have:=hk.2.2.1;omega
theorem oX {α:Type} {d:Kd α} {e base:Nat} {ok:Nat→Prop} {w:World} {v:Value} {xs:List α} (h:d.R e w base ok v xs):(slice e d).M w base ok xs [v]:=⟨v,rfl,h⟩
end Kd
namespace Kd
section
variable {α β:Type} {d:Kd α} {d':Kd β} {e e':Nat} {w w1 W:World} {base b b':Nat} {ok ok' okv oku:Nat→Prop} {v u:Value} {xs:List α} {ys:List β}
theorem cP (h:d.R e w base ok v xs) (o:Obj):d.R e (w.alloc o) base ok v xs:=dG h (e6 (Below.refl _ _) o)
theorem bY (h:d.R e w base ok v xs):d.R e w.drew base ok v xs:=dG h (lQ (Below.refl _ _))
theorem cQ (h:d.R e w base ok v xs) (m:Nat):d.R e (w.drewN m) base ok v xs:=dG h (dX (Below.refl _ _) m)
theorem gi {A:Option Addr} {n:Nat} (h:d.C w A n xs) (o:Obj):d.C (w.alloc o) A n xs:=aN h (e6 (Below.refl _ _) o)
theorem gJ {A:Option Addr} {n:Nat} (h:d.C w A n xs):d.C w.drew A n xs:=aN h (lQ (Below.refl _ _))
theorem gj {A:Option Addr} {n:Nat} (h:d.C w A n xs) (m:Nat):d.C (w.drewN m) A n xs:=aN h (dX (Below.refl _ _) m)
theorem z7 (d:Kd α) (w:World):d.C w none ([]:List α).length []:=⟨rfl,by simp,fun h=>absurd h (Nat.lt_irrefl 0)⟩
theorem az {A:Option Addr} {n c:Nat} (h:d.R e w base ok (.slice A n c) xs):n = xs.length∧n≤c∧d.C w A xs.length xs:=by
 obtain ⟨A',c',he,hl,hr⟩:=pT h;injection he with h1 h2 h3
 subst h1;exact ⟨h2,by omega,hr⟩
theorem ek (h:d.R e w base ok v xs):∀ k,v.ownBlock = some k→k < w.heap.size:=by
 obtain ⟨inner,ho⟩:=qL h;exact ux ho
theorem cL (h:d.R e w base ok v xs):∀ k,v.ownBlock = some k→base≤k:=by
 obtain ⟨inner,ho⟩:=qL h;exact j6 ho
theorem mL (h:d.R e w base ok v xs) (hp:0 < xs.length):∃ g cap,v = .slice (some ⟨g,0,none⟩) xs.length cap∧base≤g∧g < w.heap.size∧∃ cells,w.heap[g]? = some (.cells cells e (0,0)):=by
 obtain ⟨inner,ho⟩:=qL h;obtain ⟨g,cap,he,hb,hl⟩:=ho.form hp;obtain ⟨cells,hc⟩:=kZ ho g (by rw [he];simp [Value.ownBlock]);exact ⟨g,cap,he,hb,hl,cells,hc⟩
end
section
variable {w W:World} {A:Option Addr} {n:Nat}
theorem fC {k:IntKind} {xs:List Int} (h:(Kd.int k).C w A n xs) (i:Int) (h0:0≤i) (h1:i < n):∃ ad,A = some ad∧w.cell? (ad.add i.toNat) = some (.int k (rd xs i)) :=
 fM.at_ (nU (enc:=Value.int k) (d:=(0:Int)) (h1:=fun _=>rfl) h) i h0 h1
theorem fR {xs:List ByteArray} (h:Kd.string.C w A n xs) (i:Int) (h0:0≤i) (h1:i < n):∃ ad,A = some ad∧w.cell? (ad.add i.toNat) = some (.string (fL ByteArray.empty xs i)) :=
 fM.at_ (nU (enc:=Value.string) (d:=ByteArray.empty) (h1:=fun _=>rfl) h) i h0 h1
variable {α:Type} {enc:α→Value} {h1:∀ x,(enc x).oneCell' = true} {e base g cap:Nat} {ok:Nat→Prop} {xs:List α}
theorem yf (d:α) (h:(scalar enc h1).R e W base ok (.slice (some ⟨g,0,none⟩) xs.length cap) xs) (i:Int) (h0:0≤i) (hi:i < xs.length):W.cell? ⟨g,i.toNat,none⟩ = some (enc (fL d xs i))∧W.frozen? ⟨g,i.toNat,none⟩ = false:=tJ (iw h) i h0 hi
theorem xM (h:(scalar enc h1).R e W base ok (.slice (some ⟨g,0,none⟩) xs.length cap) xs) (i:Int) (x:α):(scalar enc h1).R e (W.setCell ⟨g,i.toNat,none⟩ (enc x)) base ok (.slice (some ⟨g,0,none⟩) xs.length cap) (xs.set i.toNat x)∧W.grownBy (W.setCell ⟨g,i.toNat,none⟩ (enc x)) (some g):=by
 obtain ⟨ho,hg⟩:=pS (iw h) i x;exact ⟨jV (by rw [List.length_set];exact ho) h.1,hg⟩
end
section
variable {P:Program} {ops:Array Oper} {rest:List Oper} {o:Oper} {a:Act} {Q:Exit→Act→World→Prop}
theorem oY {W w1:World} {v:Value} (hgd:o.guard = none) (hrun:(execOp a.eval o).run P W = .ok (.value v) w1) (h:wpList P ops Q rest (a.put o.dst v) w1):wpList P ops Q (o :: rest) a W:=by
 refine wpList_plain hgd fun K hK=>?_
 unfold Oper.wp;rw [hrun];exact hK _ _ h
variable {α:Type}
theorem jW (d:Kd α) {w0 W:World} (base e:Nat) (hgd:o.guard = none) {N:Tmp} (_hd:o.dst = some N) {xs:List α} {inner:List Value} {ok okp:Nat→Prop}
  (hrun:(execOp a.eval o).run P W = .ok (.value (.slice (some ⟨W.heap.size,0,none⟩) xs.length xs.length)) (W.alloc (.cells inner.toArray e)))
  (hrep:cY (d.M W base okp) d.sz xs inner) (hok:∀ k,okp k→ok k) (hfresh:ok W.heap.size) (HB:Below base w0 W) (hbase:base≤W.heap.size) (hm:xs.length≤9223372036854775807)
  (h:∀ v1 w1,d.R e w1 base ok v1 xs→Below base w0 w1→W.grownBy w1 none→(∃ b,v1.ownBlock = some b∧W.heap.size≤b)→wpList P ops Q rest (a.put o.dst v1) w1):wpList P ops Q (o :: rest) a W:=by
 refine oY hgd hrun (h _ _ ⟨fun k hk=>?_,inner,?_,?_⟩ (HB.alloc hbase _) (World.grownBy_alloc W _ none) ⟨W.heap.size,by simp [Value.ownBlock],Nat.le_refl _⟩)
 ·have:W.heap.size = k:=by simpa [Value.ownBlock] using hk
  subst this;exact hfresh
 ·have h2:=World.ownsRow_lit (base:=base) (e:=e) (size:=d.sz) W inner.toArray xs.length hbase (by simpa [maxLen] using hm) (by simpa using hrep.1)
  simpa using h2
 ·refine hrep.ko (fun p c hp=>d.M_mono (fun k hk=>⟨hok k hk.1,fun he=>?_⟩) (sN (d.M_bound hp) (e6 (Below.refl _ _) _)))
  have h3:k = W.heap.size:=by simpa [Value.ownBlock] using he
  have:=hk.2.2.1;omega
theorem tK {α:Type} {R:α→List Value→Prop} {z:Value} {size:Nat} {z0:α} (hz:z.cells.size = size) (hs:0 < size) (h0:R z0 z.cells.toList) (m:Nat):cY R size (List.replicate m z0) (madeCells z.cells (m * size)).toList:=by
 refine ⟨by simp [size_madeCells],fun j p hj=>?_⟩;obtain ⟨hjl,hp⟩:=List.getElem?_eq_some_iff.1 hj;have hjm:j < m:=by simpa using hjl
 have hp':z0 = p:=by simpa using hp
 subst hp';have hle:j * size+size≤m * size:=by rw [← Nat.succ_mul];exact Nat.mul_le_mul_right _ hjm
 have:((madeCells z.cells (m * size)).toList.drop (j * size)).take size = z.cells.toList:=by
  apply List.ext_getElem
  ·simp [size_madeCells,hz]
   omega
  ·intro i h1 h2
   have hi:i < size:=by rw [Array.length_toList,hz] at h2;exact h2
   have hmod:(j * size+i) % size = i:=by
    rw [Nat.mul_comm,Nat.mul_add_mod];exact Nat.mod_eq_of_lt hi
   simp [madeCells,hz,hmod];rw [getElem!_pos z.cells i (by omega)]
 rw [this];exact h0
theorem rQ (d:Kd α) {w0 W:World} (base e:Nat) (hgd:o.guard = none) {N:Tmp} (hd:o.dst = some N) (t:TypeId) (x y:Operand) (ho:o.op = .makeSlice t x y) (n:Int) (hx:a.eval x = .int .i64 n) (hy:a.eval y = .int .i64 n)
  (ht:P.underlying t = some (.slice e)) (z:Value) (bytes:Nat) (hinfo:(P.info? e).map (fun i=>(i.zero,i.size,i.bytes)) = some (some z,d.sz,bytes)) (hz:z.cells.size = d.sz) (j:0 < d.sz) (X:0 < bytes)
  (z0:α) {ok okp:Nat→Prop} (hzero:d.M W base okp z0 z.cells.toList) (hok:∀ k,okp k→ok k) (hfresh:ok W.heap.size) (h0:0≤n) (hl:n.toNat * bytes≤281474976710656) (HB:Below base w0 W) (hbase:base≤W.heap.size)
  (h:∀ v1 w1,d.R e w1 base ok v1 (List.replicate n.toNat z0)→Below base w0 w1→W.grownBy w1 none→(∃ b,v1.ownBlock = some b∧W.heap.size≤b)→wpList P ops Q rest (a.put o.dst v1) w1):wpList P ops Q (o :: rest) a W:=by
 obtain ⟨m,rfl⟩:=Int.eq_ofNat_of_zero_le h0;simp only [Int.toNat_natCast] at hl h;obtain ⟨i0,hi,hzz⟩:=Option.map_eq_some_iff.1 hinfo;simp only [Prod.mk.injEq] at hzz;obtain ⟨Y,a0,a1⟩:=hzz;have hm:m≤281474976710656:=Nat.le_trans (Nat.le_mul_of_pos_right _ X) hl;have hr:=run_make (P:=P) W t e i0 z ht hi Y .i64 .i64 (m:Int) (m:Int) (by omega) (by omega)
  (by
   have h3:((i0.bytes * m:Nat):Int)≤281474976710656:=by rw [a1,Nat.mul_comm];omega
   rwa [Int.natCast_mul] at h3) (by omega)
 simp only [Int.toNat_natCast] at hr;rw [a0] at hr;refine jW d base e hgd hd (xs:=List.replicate m z0) (inner:=(madeCells z.cells (m * d.sz)).toList) (okp:=okp) (ok:=ok) ?_ (tK hz j hzero m) hok hfresh HB hbase (by simp;omega) h;simp [execOp,ho,hx,hy,hr]
end
end Kd
theorem uD {w:World} {base n m c size:Nat} {e:TypeId} {A:Option Addr} {xs:List Value} (h:w.ownsRow base e size (.slice A n c) n xs) (hm:m≤n):w.ownsRow base e size (.slice A m c) m (xs.take (m * size)):=by
 obtain ⟨h1,h2⟩:=h;refine ⟨by rw [List.length_take,h1];exact Nat.min_eq_left (Nat.mul_le_mul_right _ hm),?_⟩;rcases h2 with ⟨he,h0⟩ | ⟨g,cap,cur,he,hb,hh,hnc,hcm,hcs,ht⟩
 ·injection he with ha _ hc
  subst ha;subst hc;exact .inl ⟨by rw [show m = 0 by omega],by omega⟩
 ·injection he with ha _ hc
  subst ha;subst hc;refine .inr ⟨g,c,cur,rfl,hb,hh,by omega,hcm,hcs,?_⟩;rw [← ht,List.take_take,Nat.min_eq_left (Nat.mul_le_mul_right _ hm)]
section
variable {P:Program}
theorem rR (t e:TypeId) (kh:IntKind) {i:TypeInfo} (ht:P.underlying t = some (.slice e)) (hi:P.info? e = some i) (A:Option Addr) (n c:Nat) (j:Int) (h0:0≤j) (hm:j≤n) (hc:n≤c) :
  ∀ W:World,(Instr.slice t (.slice A n c) none (some (.int kh j)) none).run P W = .ok (.slice A j.toNat c) W:=by
 intro W;have hel:P.elem t = e:=by simp [Program.elem,ht]
 have hu:P.underlying t = some (.slice (P.elem t)):=by rw [hel];exact ht
 have ha:(A.map fun x=>x.add 0) = A:=by cases A <;> simp [Addr.add]
 rw [run_slice_h W t A n c hu kh j h0 (by omega),hel];simp [sizeOf,typeInfo,hi,sliced,Result.andThen,ha]
theorem nV (t e:TypeId) (kl:IntKind) {i:TypeInfo} (ht:P.underlying t = some (.slice e)) (hi:P.info? e = some i) (size:Nat) (hsz:i.size = size) (A:Option Addr) (n c:Nat) (j:Int) (h0:0≤j) (hm:j≤n) :
  ∀ W:World,(Instr.slice t (.slice A n c) (some (.int kl j)) none none).run P W = .ok (.slice (if c = j.toNat then A else A.map (·.add (j.toNat * size))) (n - j.toNat) (c - j.toNat)) W:=by
 intro W;have hel:P.elem t = e:=by simp [Program.elem,ht]
 have hu:P.underlying t = some (.slice (P.elem t)):=by rw [hel];exact ht
 rw [run_slice_l W t A n c hu kl j h0 hm,hel];simp [sizeOf,typeInfo,hi,hsz,sliced,Result.andThen]
end
def z8 (w:World) (base:Nat) (e:TypeId) (size:Nat) (v:Value) (n:Nat) (xs:List Value):Prop :=
  xs.length = n * size ∧
  ((n = 0∧∃ A,v = .slice A 0 0∧∀ a,A = some a→base≤a.block∧∃ cur,w.heap[a.block]? = some (.cells cur e (0,0))) ∨
   ∃ g off cap cur,v = .slice (some ⟨g,off * size,none⟩) n cap∧base≤g∧w.heap[g]? = some (.cells cur e (0,0))∧n≤cap∧off+cap≤maxLen∧cur.size = (off+cap) * size∧(cur.toList.drop (off * size)).take (n * size) = xs)
section
variable {w w1:World} {base n size:Nat} {e:TypeId} {v:Value} {xs:List Value}
theorem uE (h:w.ownsRow base e size v n xs):z8 w base e size v n xs:=by
 obtain ⟨h1,h2⟩:=h;refine ⟨h1,?_⟩;rcases h2 with ⟨rfl,h0⟩ | ⟨g,cap,cur,rfl,hb,hh,hnc,hcm,hcs,ht⟩
 ·exact .inl ⟨h0,none,rfl,fun a ha=>by cases ha⟩
 ·exact .inr ⟨g,0,cap,cur,by rw [Nat.zero_mul],hb,hh,hnc,by rw [Nat.zero_add];exact hcm,by rw [Nat.zero_add];exact hcs,by rw [Nat.zero_mul,List.drop_zero];exact ht⟩
theorem uF (g o j:Nat):(⟨g,o,none⟩:Addr).add j = ⟨g,o+j,none⟩:=by unfold Addr.add;split <;> simp_all
end
namespace Kd
theorem tL {α:Type} {R:α→List Value→Prop} {size m:Nat} {ps:List α} {cs:List Value} (h:cY R size ps cs) (hm:m≤ps.length):cY R size (ps.take m) (cs.take (m * size)):=by
 refine ⟨by rw [List.length_take,List.length_take,h.1,Nat.min_eq_left hm,Nat.min_eq_left (Nat.mul_le_mul_right _ hm)],fun j p hj=>?_⟩;rw [List.getElem?_take] at hj;split at hj
 ·rename_i hjm
  have:=h.2 j p hj;have hle:j * size+size≤m * size:=by rw [← Nat.succ_mul];exact Nat.mul_le_mul_right _ hjm
  rw [List.drop_take,List.take_take,Nat.min_eq_left (by omega)];exact this
 ·cases hj
theorem uG {α:Type} {d:Kd α} {e m n c:Nat} {w:World} {base:Nat} {ok:Nat→Prop} {A:Option Addr} {xs:List α} (h:d.R e w base ok (.slice A n c) xs) (hm:m≤xs.length):d.R e w base ok (.slice A m c) (xs.take m):=by
 obtain ⟨h0,inner,ho,hr⟩:=h;have hn:n = xs.length:=by
  obtain ⟨A',c',he⟩:=tI ho;injection he
 subst hn;have hb:∀ x y:Nat,(Value.slice A x c).ownBlock = (Value.slice A y c).ownBlock:=by
  intro x y;cases A <;> rfl
 refine ⟨fun k hk=>h0 k (by rw [hb _ m];exact hk),inner.take (m * d.sz),?_,?_⟩
 ·rw [List.length_take,Nat.min_eq_left hm]
  exact uD ho hm
 ·rw [hb m xs.length]
  exact tL hr hm
def Q {α:Type} (d:Kd α) (e:Nat) (w:World) (base:Nat) (ok:Nat→Prop) (v:Value) (xs:List α):Prop :=
 (∀ k,v.ownBlock = some k→ok k)∧∃ inner,z8 w base e d.sz v xs.length inner∧cY (d.M w base (fun k=>ok k∧some k≠v.ownBlock)) d.sz xs inner
section
variable {α:Type} {d:Kd α} {e:Nat} {w w1 W:World} {base:Nat} {ok ok':Nat→Prop} {v:Value} {xs:List α}
theorem yg (h:d.R e w base ok v xs):d.Q e w base ok v xs:=by
 obtain ⟨h0,inner,ho,hr⟩:=h;exact ⟨h0,inner,uE ho,hr⟩
theorem xN (d:Kd α) (e:Nat) (w:World) (base:Nat) (ok:Nat→Prop):d.Q e w base ok (.slice none 0 0) []:=yg (ni d e w base ok)
end
end Kd
namespace Kd
section
variable {α:Type} {d:Kd α} {e e':Nat} {w w1 W:World} {base:Nat} {ok:Nat→Prop} {u v:Value} {xs:List α}
theorem sO (h:d.R e w base ok v xs):∀ k,v.ownBlock = some k→∃ cells,w.heap[k]? = some (.cells cells e (0,0)):=by
 obtain ⟨inner,ho⟩:=qL h;exact fun k hk=>kZ ho k hk
theorem wR (h:d.R e W base ok u xs) (hty:∀ k,v.ownBlock = some k→∃ cells,W.heap[k]? = some (.cells cells e' (0,0))) (ht:∀ q,q∈e :: d.E→q≠e') (hg:W.grownBy w1 v.ownBlock):d.R e w1 base ok u xs:=by
 refine aQ (mK (ia h) (fun k hk=>hg.block k hk.2.2.1 (fun he=>?_))) (fun _ hk=>hk.1);obtain ⟨_,_,_,q,hq,cells,hc⟩:=hk;obtain ⟨cells',hc'⟩:=hty k he.symm;rw [hc] at hc';injection hc' with hc'
 injection hc' with _ hc'
 exact ht q hq hc'
theorem jX (h:d.R e W base ok u xs) (hty:∀ k,v.ownBlock = some k→∃ cells,W.heap[k]? = some (.cells cells e' (0,0))) (ht:∀ q,q∈e :: d.E→q≠e'):d.R e W base (fun k=>ok k∧some k≠v.ownBlock) u xs:=by
 refine aQ (ia h) (fun k hk=>⟨hk.1,fun he=>?_⟩);obtain ⟨_,_,_,q,hq,cells,hc⟩:=hk;obtain ⟨cells',hc'⟩:=hty k he.symm;rw [hc] at hc';injection hc' with hc'
 injection hc' with _ hc'
 exact ht q hq hc'
theorem cz (hu:d.R e W base ok u xs) (hbase:∀ k,v.ownBlock = some k→W.heap.size≤k) (hb:Below W.heap.size W w1):d.R e w1 base (fun k=>ok k∧some k≠v.ownBlock) u xs :=
 aQ (mK (ia hu) (fun k hk=>hb.block k hk.2.2.1)) (fun k hk=>⟨hk.1,fun he=>by have:=hbase k he.symm;have:=hk.2.2.1;omega⟩)
theorem dy (h:d.R e w1 W.heap.size ok v xs) (hlt:∀ k,u.ownBlock = some k→k < W.heap.size):d.R e w1 W.heap.size (fun k=>ok k∧some k≠u.ownBlock) v xs :=
 aQ (ia h) (fun k hk=>⟨hk.1,fun he=>by have:=hlt k he.symm;have:=hk.2.1;omega⟩)
theorem fresh' (hlt:∀ k,u.ownBlock = some k→k < W.heap.size):∀ k,W.heap.size≤k→some k≠u.ownBlock:=fun k hk he=>by have:=hlt k he.symm;omega
end
end Kd
theorem l7 {n c g:Nat} {A:Option Addr} (hne:some g≠(Value.slice A n c).ownBlock):∀ ad,A = some ad→0 < n→ad.block≠g:=by
 rintro ad rfl _ rfl
 exact hne (by simp [Value.ownBlock])
namespace Kd
section
variable {α:Type} {d:Kd α} {e base g n cap:Nat} {ok okp:Nat→Prop} {W:World} {xs:List α}
theorem yh (h:d.R e W base ok (.slice (some ⟨g,0,none⟩) n cap) xs) (z:α) (i:Int) (h0:0≤i) (h1:i < n) :
  ∃ c,c.length = d.sz∧d.M W base (fun k=>ok k∧k≠g) (xs.getD i.toNat z) c∧(∀ j u,c[j]? = some u→W.cell? ⟨g,i.toNat * d.sz+j,none⟩ = some u)∧∀ j,W.frozen? ⟨g,i.toNat * d.sz+j,none⟩ = false:=by
 obtain ⟨hn,hnc,hC⟩:=az h;obtain ⟨_,inner,ho,hr⟩:=h;have hil:i.toNat < xs.length:=by omega
 have hseg:i.toNat * d.sz+d.sz≤inner.length:=by rw [hr.1,← Nat.succ_mul];exact Nat.mul_le_mul_right _ hil
 have hM:=hr.2 i.toNat _ (List.getElem?_eq_getElem hil);refine ⟨(inner.drop (i.toNat * d.sz)).take d.sz,by rw [List.length_take,List.length_drop];omega,?_,fun j u hu=>?_,fun j=>?_⟩
 ·rw [List.getD_eq_getElem?_getD,List.getElem?_eq_getElem hil]
  exact d.M_mono (fun k hk=>⟨hk.1,fun he=>hk.2 (by rw [he];simp [Value.ownBlock])⟩) hM
 ·rw [List.getElem?_take] at hu
  split at hu
  ·rw [List.getElem?_drop] at hu
   have:=ho.cells (g:=g) (by simp [Value.ownBlock]) _ u hu;rwa [add_plain] at this
  ·cases hu
 ·obtain ⟨cells,hc⟩:=kZ ho g (by simp [Value.ownBlock])
  exact aj hc _
end
end Kd
namespace Kd
def fixed {α:Type} (d:Kd α) (w0:World):Kd α where
 sz:=d.sz
 E:=[]
 K:=fun _ x cs=>d.K w0 x cs
 M:=fun _ _ _ x cs=>d.K w0 x cs
 K_len:=d.K_len
 K_one:=d.K_one
 K_below:=fun _ h=>h
 K_of_M:=fun h=>h
 M_mono:=fun _ h=>h
 M_bound:=fun h=>h
 M_move:=fun _ h=>h
 M_lower:=fun _ h=>h
def An {α:Type} (a b:Kd α) (h:b.sz = a.sz):Kd α where
 sz:=a.sz
 E:=a.E ++ b.E
 K:=fun w x cs=>a.K w x cs∨b.K w x cs
 M:=fun w base ok x cs=>a.M w base ok x cs∨b.M w base ok x cs
 K_len:=fun hk=>hk.elim a.K_len (fun hk=>(b.K_len hk).trans h)
 K_one:=fun hk=>hk.elim a.K_one b.K_one
 K_below:=fun hb hk=>hk.imp (a.K_below hb) (b.K_below hb)
 K_of_M:=fun hk=>hk.imp a.K_of_M b.K_of_M
 M_mono:=fun hok hk=>hk.imp (a.M_mono hok) (b.M_mono hok)
 M_bound:=fun hk=>hk.imp
  (fun hk=>a.M_mono (fun _ ⟨h1,h2,h3,q,hq,hc⟩=>⟨h1,h2,h3,q,List.mem_append_left _ hq,hc⟩) (a.M_bound hk))
  (fun hk=>b.M_mono (fun _ ⟨h1,h2,h3,q,hq,hc⟩=>⟨h1,h2,h3,q,List.mem_append_right _ hq,hc⟩) (b.M_bound hk))
 M_move:=fun hm hk=>hk.imp (a.M_move hm) (b.M_move hm)
 M_lower:=fun hb hk=>hk.imp (a.M_lower hb) (b.M_lower hb)
theorem lS {α β:Type} {E:List Nat} {G H:Kd α→Kd β} (h:∀ d,(H d).sz = (G d).sz) (hG:Sub G E) (hH:Sub H E):Sub (fun d=>An (G d) (H d) (h d)) E:=fun d hd q hq=>by
 rcases List.mem_append.1 hq with hq | hq
 ·exact hG d hd q hq
 ·exact hH d hd q hq
end Kd
namespace Kd
theorem nj {α:Type} {R:α→List Value→Prop} {size:Nat} {ps qs:List α} {cs ds:List Value} (h:cY R size ps cs) (h':cY R size qs ds):cY R size (ps ++ qs) (cs ++ ds):=by
 refine ⟨by rw [List.length_append,List.length_append,h.1,h'.1,Nat.add_mul],fun j p hj=>?_⟩;rcases Nat.lt_or_ge j ps.length with hlt | hge
 ·rw [List.getElem?_append_left hlt] at hj
  have hle:j * size+size≤cs.length:=by rw [h.1,← Nat.succ_mul];exact Nat.mul_le_mul_right _ hlt
  rw [List.drop_append_of_le_length (by omega),List.take_append_of_le_length (by rw [List.length_drop];omega)];exact h.2 j p hj
 ·rw [List.getElem?_append_right hge] at hj
  have h2:=h'.2 (j - ps.length) p hj;have hle:ps.length * size≤j * size:=Nat.mul_le_mul_right _ hge;rw [List.drop_append,List.drop_eq_nil_of_le (by rw [h.1];exact hle),List.nil_append,h.1,← Nat.sub_mul];exact h2
section
variable {P:Program} {ops:Array Oper} {rest:List Oper} {o:Oper} {a:Act} {Q:Exit→Act→World→Prop} {α:Type}
theorem iY (d:Kd α) {Rr:α→List Value→Prop} {w0 W:World} (base:Nat) (hgd:o.guard = none) (s x:Operand) (t e:TypeId) (z:Value) (bytes:Nat)
  (ho:o.op = .call { callee:=.builtin .append,args:=#[s,x],argTypes:=#[t,t] })
  (ht:P.underlying t = some (.slice e)) (hinfo:(P.info? e).map (fun i=>(i.zero,i.size,i.bytes)) = some (some z,d.sz,bytes)) (hz:z.cells.size = d.sz) (j:0 < d.sz) (X:0 < bytes)
  (v:Value) (xs ys:List α) (A:Option Addr) (m c:Nat) (ok okp:Nat→Prop) (hs:a.eval s = v) (hx:a.eval x = .slice A m c)
  (HO:d.R e W base ok v xs) (HR:fK Rr d.sz W A m ys) (Y:∀ x cs,Rr x cs→d.M W base okp x cs) (y:∀ k,okp k→ok k∧some k≠v.ownBlock) (hfresh:∀ k,W.heap.size≤k→ok k)
  (HB:Below base w0 W) (hbase:base≤W.heap.size) (hl:(xs.length+m) * bytes≤140737488355328)
  (h:∀ v1 w1,d.R e w1 base ok v1 (xs ++ ys)→Below base w0 w1→W.grownBy w1 v.ownBlock→(v1.ownBlock = v.ownBlock∨∃ b,v1.ownBlock = some b∧W.heap.size≤b)→wpList P ops Q rest (a.put o.dst v1) w1) :
  wpList P ops Q (o :: rest) a W:=by
 obtain ⟨i0,hi,hzz⟩:=Option.map_eq_some_iff.1 hinfo;simp only [Prod.mk.injEq] at hzz;obtain ⟨a0,a1,a2⟩:=hzz;have hm:ys.length = m:=HR.1;have hlen:xs.length+m≤140737488355328:=Nat.le_trans (Nat.le_mul_of_pos_right _ X) hl;obtain ⟨hok,inner,hown,hr⟩:=HO;have hrun:∃ v1 w1,(Builtin.append_ #[t,t] o.type #[v,.slice A m c]).run P W = .ok v1 w1∧d.R e w1 base ok v1 (xs ++ ys)∧W.grownBy w1 v.ownBlock∧(v1.ownBlock = v.ownBlock∨∃ b,v1.ownBlock = some b∧W.heap.size≤b):=by
  rcases A with _ | ad
  ·have h0:m = 0:=by
    rcases Nat.eq_zero_or_pos m with h0 | h0
    ·exact h0
    ·obtain ⟨ad,h,_⟩:=HR.2.2 h0
     cases h
   subst h0;obtain rfl:ys = []:=List.eq_nil_of_length_eq_zero hm;refine ⟨v,W,?_,by rw [List.append_nil];exact ⟨hok,inner,hown,hr⟩,World.grownBy.refl W _,.inl rfl⟩;rcases hown.2 with ⟨rfl,hn⟩ | ⟨g,cap,cur,rfl,_,_,hnc,_⟩
   ·simp [Builtin.append_,run_underlying ht,sizeOf,typeInfo,hi,Builtin.lenOf,Builtin.firstCells]
   ·simp [Builtin.append_,run_underlying ht,sizeOf,typeInfo,hi,Builtin.lenOf,Builtin.firstCells,hnc,storeCells]
  ·obtain ⟨news,hnr,hnc⟩:=fK.uA HR
   have hnM:cY (d.M W base okp) d.sz ys news:=hnr.ko (fun p c hp=>Y p c hp);have hone:∀ u∈news,u.oneCell' = true:=by
    intro u hu;obtain ⟨q,hq,rfl⟩:=List.mem_iff_getElem.1 hu;have a3:q / d.sz < ys.length:=by
     rw [Nat.div_lt_iff_lt_mul j];rw [← hnM.1];exact hq
    have hc:=hnM.2 (q / d.sz) _ (List.getElem?_eq_getElem a3);refine d.K_one (d.K_of_M hc) _ ?_;rw [List.mem_iff_getElem?];refine ⟨q % d.sz,?_⟩;rw [List.getElem?_take,if_pos (Nat.mod_lt _ j),List.getElem?_drop,Nat.mul_comm,Nat.div_add_mod,List.getElem?_eq_getElem hq]
   obtain ⟨v1,w1,hrun,h2,hg,_,hat⟩:=run_append_own_at (P:=P) W base t o.type e i0 z d.sz bytes ht hi a0 a1 a2 hz j v xs.length inner hown ad m c news (by rw [hnM.1,hm]) hnc hone (by simp only [maxLen];omega) hl hbase;have hat':v1.ownBlock = v.ownBlock∨∃ b,v1.ownBlock = some b∧W.heap.size≤b:=by
    rcases hat with hat | hat
    ·exact .inl hat
    ·exact .inr ⟨_,hat,Nat.le_refl _⟩
   have hne:∀ k,some k≠v.ownBlock→k < W.heap.size→some k≠v1.ownBlock:=by
    intro k hk hlt;rcases hat' with hat | ⟨b,hb,hle⟩
    ·rw [hat];exact hk
    ·rw [hb]
     intro he;injection he with he
     omega
   have step:∀ {q:α} {c:List Value} {o:Nat→Prop},d.M W base o q c→(∀ k,o k→ok k∧some k≠v.ownBlock)→d.M w1 base (fun k=>ok k∧some k≠v1.ownBlock) q c:=by
    intro q c o hq ho;have h1:=d.M_move (w1:=w1) (fun k hk=>hg.block k hk.2.2.1 (ho k hk.1).2) (d.M_bound hq);exact d.M_mono (fun k hk=>⟨(ho k hk.1).1,hne k (ho k hk.1).2 hk.2.2.1⟩) h1
   refine ⟨v1,w1,hrun,⟨fun k hk=>?_,inner ++ news,by rw [List.length_append,hm];exact h2,nj (hr.ko (fun _ _ hq=>step hq (fun _ hk=>hk))) (hnM.ko (fun _ _ hq=>step hq y))⟩,hg,hat'⟩;rcases hat' with hat | ⟨b,hb,hle⟩
   ·exact hok k (hat ▸ hk)
   ·rw [hb] at hk
    injection hk with hk
    exact hfresh k (by omega)
 obtain ⟨v1,w1,a4,h1,hg,hat⟩:=hrun;refine wpList_plain hgd fun K hK=>?_
 unfold Oper.wp execOp;simp only [ho,resolve,invoke,builtin,Sem.run_bind,Sem.run_pure,Result.andThen_ok,List.map_toArray,List.map_cons,List.map_nil,hs,hx,a4];exact hK _ _ (h v1 w1 h1 (HB.grown hg hbase (j6 hown)) hg hat)
end
end Kd
theorem add_add (a:Addr) (i j:Nat):(a.add i).add j = a.add (i+j):=by
 unfold Addr.add;by_cases h1:i = 0 <;> by_cases h2:j = 0 <;> simp [h1,h2,Nat.add_assoc]
namespace Kd
section
variable {α:Type} {k:Kd α} {w:World} {A:Option Addr} {xs:List α} {m c:Nat}
theorem rS (h:k.C w A xs.length xs) (hm:m≤xs.length):k.C w A (xs.take m).length (xs.take m):=by
 have hl:(xs.take m).length = m:=by rw [List.length_take];omega
 refine ⟨rfl,by rw [hl];have:=h.2.1;omega,fun hp=>?_⟩;obtain ⟨ad,e,hc⟩:=h.2.2 (by omega);refine ⟨ad,e,fun j p hj=>hc j p ?_⟩;rw [List.getElem?_take] at hj;split at hj
 ·exact hj
 ·cases hj
theorem lT (h:k.C w A xs.length xs) (hm:m≤xs.length) (hc:xs.length≤c):k.C w (if c = m then A else A.map (·.add (m * k.sz))) (xs.drop m).length (xs.drop m):=by
 have hl:(xs.drop m).length = xs.length - m:=List.length_drop;refine ⟨rfl,by rw [hl];have:=h.2.1;omega,fun hp=>?_⟩;rw [hl] at hp;obtain ⟨ad,rfl,hcell⟩:=h.2.2 (by omega);rw [if_neg (by omega)];refine ⟨ad.add (m * k.sz),rfl,fun j p hj=>?_⟩;rw [List.getElem?_drop] at hj;obtain ⟨cs,h1,h2,h3⟩:=hcell (m+j) p hj;refine ⟨cs,h1,h2,fun i u hu=>?_⟩;rw [add_add,show m * k.sz+(j * k.sz+i) = (m+j) * k.sz+i by rw [Nat.add_mul];omega];exact h3 i u hu
end
end Kd
theorem ak {w W:World} (h:Below w.heap.size w W):w.heap.size≤W.heap.size:=h.size
theorem aq {w W j:World} (h:Below w.heap.size w W) (k:Below W.heap.size W j):Below w.heap.size w j:=nQ h h.size k
theorem fJ.nil (W:World) (k:IntKind):fJ W k none ([]:List Int).length []:=⟨rfl,by simp,fun h=>absurd h (Nat.lt_irrefl 0)⟩
theorem fJ.drewN {W:World} {k:IntKind} {A:Option Addr} {n:Nat} {xs:List Int} (h:fJ W k A n xs) (m:Nat):fJ (W.drewN m) k A n xs:=h
theorem dY {w W:World} {g j:Nat} {v:Value} (h:Below w.heap.size w W) (hg:w.heap.size≤g):Below w.heap.size w (W.setCell ⟨g,j,none⟩ v):=h.setCell hg _
theorem rT {w W:World} {g:Nat} {row:Option Nat} (h:an w W g row) (m:Nat):an w (W.drewN m) g row:=h
theorem rU {w W:World} {g:Nat} (h:an w W g none) (o:Obj):an w (W.alloc o) g none:=h.trans (an.jr (World.grownBy_alloc W o none) g) (.inl rfl)
theorem iT {w W:World} {g:Nat} (h:an w W g none) {a:Addr} {v:Value} (hc:w.cell? a = some v) (hne:a.block≠g):W.cell? a = some v:=by
 have:=h.2 a.block (World.block_lt_of_cell? w a hc) hne (by simp);simpa [World.cell?,this] using hc
theorem fS (a:Addr) (i:Nat):(a.add i).block = a.block:=by unfold Addr.add;split <;> rfl
theorem iG {w0 w w1:World} {B:Nat} (h:Below w0.heap.size w0 w) (hB:w0.heap.size≤B) (k:Below B w w1):Below w0.heap.size w0 w1 :=
 h.trans ⟨k.os,k.tape,k.output,k.size,fun i hi=>k.block i (Nat.lt_of_lt_of_le hi hB)⟩
theorem tM {w:World} {base:Nat} {e:TypeId} {size n:Nat} {v:Value} {xs:List Value} (h:w.ownsRow base e size v n xs):v.ownBlock = none∨∃ b,v.ownBlock = some b∧base≤b:=by
 cases hv:v.ownBlock with
 | none=>exact .inl rfl
 | some b=>exact .inr ⟨b,rfl,j6 h b hv⟩
theorem bn {w W:World} {g:Nat} {row:Option Nat} (h:an w W g row):w.heap.size≤W.heap.size:=h.1
theorem fM.nil {α:Type} (enc:α→Value) (d:α) (W:World):fM enc d W none ([]:List α).length []:=⟨rfl,by simp,fun h=>absurd h (Nat.lt_irrefl 0)⟩
theorem fM.drewN {α:Type} {enc:α→Value} {d:α} {W:World} {A:Option Addr} {n:Nat} {xs:List α} (h:fM enc d W A n xs) (m:Nat):fM enc d (W.drewN m) A n xs:=h
theorem fJ.keep {w W:World} {k:IntKind} {A:Option Addr} {n g:Nat} {xs:List Int} (h:fJ w k A n xs) (hk:an w W g none) (hf:∀ ad,A = some ad→0 < n→ad.block≠g):fJ W k A n xs :=
 ⟨h.1,h.2.1,fun hn=>by
  obtain ⟨ad,e,hc⟩:=h.2.2 hn;exact ⟨ad,e,fun j hj=>iT hk (hc j hj) (by rw [fS];exact hf ad e hn)⟩⟩
theorem fM.keep {α:Type} {enc:α→Value} {d:α} {w W:World} {A:Option Addr} {n g:Nat} {xs:List α} (h:fM enc d w A n xs) (hk:an w W g none) (hf:∀ ad,A = some ad→0 < n→ad.block≠g):fM enc d W A n xs :=
 ⟨h.1,h.2.1,fun hn=>by
  obtain ⟨ad,e,hc⟩:=h.2.2 hn;exact ⟨ad,e,fun j hj=>iT hk (hc j hj) (by rw [fS];exact hf ad e hn)⟩⟩
theorem cell_far {W:World} {p a:Addr} (h:a.block≠p.block) (u:Value):(W.setCell p u).cell? a = W.cell? a:=by
 have:=Below.heap_setCell W p u a.block h;simp [World.cell?,this]
theorem gA {w:World} {g:Nat} {t:TypeId} {cs cs':Array Value} (h:w.heap[g]? = some (.cells cs t (0,0))) (i:Nat) (u:Value) (e:cs.setIfInBounds i u = cs'):(w.setCell ⟨g,i,none⟩ u).heap[g]? = some (.cells cs' t (0,0)):=e ▸ pR h i u
theorem uH {w W:World} {g:Nat} {row:Option Nat} (h:an w W g row) {p:Addr} (hp:w.heap.size≤p.block) (u:Value):an w (W.setCell p u) g row :=
 ⟨by simpa [World.setCell] using h.1,fun i hi hg hr=>(Below.heap_setCell W p u i (by omega)).trans (h.2 i hi hg hr)⟩
theorem iZ {W:World} {base n c:Nat} {e:TypeId} {size g:Nat} {ad:Addr} {xs:List Value} (_:W.ownsRow base e size (.slice (some ad) n c) n xs) (hne:some g≠(Value.slice (some ad) n c).ownBlock):ad.block≠g:=by
 rintro rfl
 exact hne (by simp [Value.ownBlock])
theorem bP {base:Nat} {w W:World} (h:Below base w W):Below base w W.drew:=h.drew
theorem mM {w W:World} {g:Nat} {row:Option Nat} (h:an w W g row):an w W.drew g row:=h
namespace Kd
section
variable {α β:Type} {d:Kd α} {d':Kd β} {e e' base base' n:Nat} {ok ok':Nat→Prop} {w W w1 W1:World} {v u:Value} {xs:List α} {ys:List β} {A:Option Addr} {c:Nat}
theorem iZ {ad:Addr} {g:Nat} (hne:some g≠(Value.slice (some ad) n c).ownBlock):ad.block≠g:=by
 rintro rfl
 exact hne (by simp [Value.ownBlock])
theorem m8 (h:d.R e w base ok v xs):v.ownBlock = none∨∃ k,v.ownBlock = some k∧base≤k:=by
 obtain ⟨inner,ho⟩:=qL h;exact tM ho
end
end Kd
section
variable {P:Program} {ops:Array Oper} {rest:List Oper} {o:Oper} {a:Act} {Q:Exit→Act→World→Prop}
theorem fg {W:World} (hgd:o.guard = none) {N:Tmp} (_hd:o.dst = some N) {cs:Array Value} {t:TypeId}
  (hrun:(execOp a.eval o).run P W = .ok (.value (.pointer (some ⟨W.heap.size,0,none⟩))) (W.alloc (.cells cs t (0,0))))
  (h:∀ g,g = W.heap.size→∀ w1,w1.heap[g]? = some (.cells cs t (0,0))→Below W.heap.size W w1→wpList P ops Q rest (a.put o.dst (.pointer (some ⟨g,0,none⟩))) w1):wpList P ops Q (o :: rest) a W :=
 Kd.oY hgd hrun (h _ rfl _ (wP W _) (e6 (Below.refl _ _) _))
end
namespace Kd
section
variable {α:Type} {enc:α→Value} {h1:∀ x,(enc x).oneCell' = true} {e base g n cap:Nat} {ok:Nat→Prop} {W:World} {xs:List α}
theorem kp (d:α) (h:(scalar enc h1).R e W base ok (.slice (some ⟨g,0,none⟩) n cap) xs) (i:Int) (h0:0≤i) (hi:i < n):W.cell? ⟨g,i.toNat,none⟩ = some (enc (fL d xs i))∧W.frozen? ⟨g,i.toNat,none⟩ = false:=by
 obtain ⟨rfl,_⟩:=az h;exact yf d h i h0 hi
theorem yj (h:(scalar enc h1).R e W base ok (.slice (some ⟨g,0,none⟩) n cap) xs) (i:Int) (x:α):(scalar enc h1).R e (W.setCell ⟨g,i.toNat,none⟩ (enc x)) base ok (.slice (some ⟨g,0,none⟩) n cap) (xs.set i.toNat x):=by
 obtain ⟨rfl,_⟩:=az h;exact (xM h i x).1
end
end Kd
section
variable {P:Program} {ops:Array Oper} {rest:List Oper} {o:Oper} {a:Act} {Q:Exit→Act→World→Prop}
theorem gG {W w1:World} (hgd:o.guard = none) {t:TypeId} {p:Tmp} {v:Operand} (_ho:o.op = .store t (.tmp p) v) (hN:o.dst = none)
  (hrun:(execOp a.eval o).run P W = .ok .skip w1) (h:∀ w',w' = w1→wpList P ops Q rest a w'):wpList P ops Q (o :: rest) a W:=by
 refine wpList_plain hgd fun K hK=>?_
 unfold Oper.wp;rw [hrun];show K (a.put o.dst undef) w1;rw [hN];exact hK _ _ (h _ rfl)
end
namespace Kd
section
variable {α:Type} {enc:α→Value} {h1:∀ x,(enc x).oneCell' = true} {e base g n cap:Nat} {ok:Nat→Prop} {W:World} {xs:List α}
theorem nW (h:(scalar enc h1).R e W base ok (.slice (some ⟨g,0,none⟩) n cap) xs) (i:Int) (x:α):(scalar enc h1).R e (W.setCell ⟨g,i.toNat,none⟩ (enc x)) base ok (.slice (some ⟨g,0,none⟩) n cap) (xs.set i.toNat x)∧W.grownBy (W.setCell ⟨g,i.toNat,none⟩ (enc x)) (some g):=by
 obtain ⟨rfl,_⟩:=az h;exact xM h i x
end
end Kd
section
variable {P:Program} {ops:Array Oper} {rest:List Oper} {o:Oper} {a:Act} {Q:Exit→Act→World→Prop} {W:World}
theorem bu {N:Tmp} (_hN:o.dst = some N) (h:wpList P ops Q (o :: rest) a W):wpList P ops Q (o :: rest) a W:=h
theorem gX {t:TypeId} {p:Tmp} {v:Operand} (_ho:o.op = .store t (.tmp p) v) (h:wpList P ops Q (o :: rest) a W):wpList P ops Q (o :: rest) a W:=h
end
section
variable {P:Program} {ops:Array Oper} {o:Oper} {a:Act} {Q:Exit→Act→World→Prop} {Kc:Act→World→Prop}
theorem rV {W w1:World} {v:Value} (hw:Region.wanted o (yielded ops a.tmps) = true) (hrun:(execOp a.eval o).run P W = .ok (.value v) w1) (h:Kc (a.put o.dst v) w1):if Region.wanted o (yielded ops a.tmps) = true then Oper.wp P o a W Kc Q else Kc (a.put o.dst undef) W:=by
 rw [if_pos hw];unfold Oper.wp;rw [hrun];exact h
namespace Kd
variable {α:Type}
theorem rW (d:Kd α) {w0 W:World} (base e:Nat) (hw:Region.wanted o (yielded ops a.tmps) = true) {N:Tmp} (_hd:o.dst = some N) {xs:List α} {inner:List Value} {ok okp:Nat→Prop}
  (hrun:(execOp a.eval o).run P W = .ok (.value (.slice (some ⟨W.heap.size,0,none⟩) xs.length xs.length)) (W.alloc (.cells inner.toArray e)))
  (hrep:cY (d.M W base okp) d.sz xs inner) (hok:∀ k,okp k→ok k) (hfresh:ok W.heap.size) (HB:Below base w0 W) (hbase:base≤W.heap.size) (hm:xs.length≤9223372036854775807)
  (h:∀ v1 w1,d.R e w1 base ok v1 xs→Below base w0 w1→W.grownBy w1 none→(∃ b,v1.ownBlock = some b∧W.heap.size≤b)→Kc (a.put o.dst v1) w1):if Region.wanted o (yielded ops a.tmps) = true then Oper.wp P o a W Kc Q else Kc (a.put o.dst undef) W:=by
 refine rV hw hrun (h _ _ ⟨fun k hk=>?_,inner,?_,?_⟩ (HB.alloc hbase _) (World.grownBy_alloc W _ none) ⟨W.heap.size,by simp [Value.ownBlock],Nat.le_refl _⟩)
 ·have:W.heap.size = k:=by simpa [Value.ownBlock] using hk
  subst this;exact hfresh
 ·have h2:=World.ownsRow_lit (base:=base) (e:=e) (size:=d.sz) W inner.toArray xs.length hbase (by simpa [maxLen] using hm) (by simpa using hrep.1)
  simpa using h2
 ·refine hrep.ko (fun p c hp=>d.M_mono (fun k hk=>⟨hok k hk.1,fun he=>?_⟩) (sN (d.M_bound hp) (e6 (Below.refl _ _) _)))
  have h3:k = W.heap.size:=by simpa [Value.ownBlock] using he
  have:=hk.2.2.1;omega
theorem gK (d:Kd α) {Rr:α→List Value→Prop} {w0 W:World} (base:Nat) (hw:Region.wanted o (yielded ops a.tmps) = true) (s x:Operand) (t e:TypeId) (z:Value) (bytes:Nat)
  (ho:o.op = .call { callee:=.builtin .append,args:=#[s,x],argTypes:=#[t,t] })
  (ht:P.underlying t = some (.slice e)) (hinfo:(P.info? e).map (fun i=>(i.zero,i.size,i.bytes)) = some (some z,d.sz,bytes)) (hz:z.cells.size = d.sz) (j:0 < d.sz) (X:0 < bytes)
  (v:Value) (xs ys:List α) (A:Option Addr) (m c:Nat) (ok okp:Nat→Prop) (hs:a.eval s = v) (hx:a.eval x = .slice A m c)
  (HO:d.R e W base ok v xs) (HR:fK Rr d.sz W A m ys) (Y:∀ x cs,Rr x cs→d.M W base okp x cs) (y:∀ k,okp k→ok k∧some k≠v.ownBlock) (hfresh:∀ k,W.heap.size≤k→ok k)
  (HB:Below base w0 W) (hbase:base≤W.heap.size) (hl:(xs.length+m) * bytes≤140737488355328)
  (h:∀ v1 w1,d.R e w1 base ok v1 (xs ++ ys)→Below base w0 w1→W.grownBy w1 v.ownBlock→(v1.ownBlock = v.ownBlock∨∃ b,v1.ownBlock = some b∧W.heap.size≤b)→Kc (a.put o.dst v1) w1) :
  if Region.wanted o (yielded ops a.tmps) = true then Oper.wp P o a W Kc Q else Kc (a.put o.dst undef) W:=by
 obtain ⟨i0,hi,hzz⟩:=Option.map_eq_some_iff.1 hinfo;simp only [Prod.mk.injEq] at hzz;obtain ⟨a0,a1,a2⟩:=hzz;have hm:ys.length = m:=HR.1;have hlen:xs.length+m≤140737488355328:=Nat.le_trans (Nat.le_mul_of_pos_right _ X) hl;obtain ⟨hok,inner,hown,hr⟩:=HO;have hrun:∃ v1 w1,(Builtin.append_ #[t,t] o.type #[v,.slice A m c]).run P W = .ok v1 w1∧d.R e w1 base ok v1 (xs ++ ys)∧W.grownBy w1 v.ownBlock∧(v1.ownBlock = v.ownBlock∨∃ b,v1.ownBlock = some b∧W.heap.size≤b):=by
  rcases A with _ | ad
  ·have h0:m = 0:=by
    rcases Nat.eq_zero_or_pos m with h0 | h0
    ·exact h0
    ·obtain ⟨ad,h,_⟩:=HR.2.2 h0
     cases h
   subst h0;obtain rfl:ys = []:=List.eq_nil_of_length_eq_zero hm;refine ⟨v,W,?_,by rw [List.append_nil];exact ⟨hok,inner,hown,hr⟩,World.grownBy.refl W _,.inl rfl⟩;rcases hown.2 with ⟨rfl,hn⟩ | ⟨g,cap,cur,rfl,_,_,hnc,_⟩
   ·simp [Builtin.append_,run_underlying ht,sizeOf,typeInfo,hi,Builtin.lenOf,Builtin.firstCells]
   ·simp [Builtin.append_,run_underlying ht,sizeOf,typeInfo,hi,Builtin.lenOf,Builtin.firstCells,hnc,storeCells]
  ·obtain ⟨news,hnr,hnc⟩:=fK.uA HR
   have hnM:cY (d.M W base okp) d.sz ys news:=hnr.ko (fun p c hp=>Y p c hp);have hone:∀ u∈news,u.oneCell' = true:=by
    intro u hu;obtain ⟨q,hq,rfl⟩:=List.mem_iff_getElem.1 hu;have a3:q / d.sz < ys.length:=by
     rw [Nat.div_lt_iff_lt_mul j];rw [← hnM.1];exact hq
    have hc:=hnM.2 (q / d.sz) _ (List.getElem?_eq_getElem a3);refine d.K_one (d.K_of_M hc) _ ?_;rw [List.mem_iff_getElem?];refine ⟨q % d.sz,?_⟩;rw [List.getElem?_take,if_pos (Nat.mod_lt _ j),List.getElem?_drop,Nat.mul_comm,Nat.div_add_mod,List.getElem?_eq_getElem hq]
   obtain ⟨v1,w1,hrun,h2,hg,_,hat⟩:=run_append_own_at (P:=P) W base t o.type e i0 z d.sz bytes ht hi a0 a1 a2 hz j v xs.length inner hown ad m c news (by rw [hnM.1,hm]) hnc hone (by simp only [maxLen];omega) hl hbase;have hat':v1.ownBlock = v.ownBlock∨∃ b,v1.ownBlock = some b∧W.heap.size≤b:=by
    rcases hat with hat | hat
    ·exact .inl hat
    ·exact .inr ⟨_,hat,Nat.le_refl _⟩
   have hne:∀ k,some k≠v.ownBlock→k < W.heap.size→some k≠v1.ownBlock:=by
    intro k hk hlt;rcases hat' with hat | ⟨b,hb,hle⟩
    ·rw [hat];exact hk
    ·rw [hb]
     intro he;injection he with he
     omega
   have step:∀ {q:α} {c:List Value} {o:Nat→Prop},d.M W base o q c→(∀ k,o k→ok k∧some k≠v.ownBlock)→d.M w1 base (fun k=>ok k∧some k≠v1.ownBlock) q c:=by
    intro q c o hq ho;have h1:=d.M_move (w1:=w1) (fun k hk=>hg.block k hk.2.2.1 (ho k hk.1).2) (d.M_bound hq);exact d.M_mono (fun k hk=>⟨(ho k hk.1).1,hne k (ho k hk.1).2 hk.2.2.1⟩) h1
   refine ⟨v1,w1,hrun,⟨fun k hk=>?_,inner ++ news,by rw [List.length_append,hm];exact h2,nj (hr.ko (fun _ _ hq=>step hq (fun _ hk=>hk))) (hnM.ko (fun _ _ hq=>step hq y))⟩,hg,hat'⟩;rcases hat' with hat | ⟨b,hb,hle⟩
   ·exact hok k (hat ▸ hk)
   ·rw [hb] at hk
    injection hk with hk
    exact hfresh k (by omega)
 obtain ⟨v1,w1,a4,h1,hg,hat⟩:=hrun;rw [if_pos hw];unfold Oper.wp execOp;simp only [ho,resolve,invoke,builtin,Sem.run_bind,Sem.run_pure,Result.andThen_ok,List.map_toArray,List.map_cons,List.map_nil,hs,hx,a4];exact h v1 w1 h1 (HB.grown hg hbase (j6 hown)) hg hat
end Kd
end
end Go.Proofs.ag.aZ
end
section
namespace Go.Proofs.ag.bR
section
variable {P:Program} {ops:Array Oper} {Q:Exit→Act→World→Prop} {md:Region.Mode} {S:World→Prop} {ds:List Nat}
def Region.je (md:Region.Mode) (ops:Array Oper) (i:Nat):Nat→Nat→Bool
  | 0,_=>false
  | fuel+1,d=>match ops[d]? with
    | some o=>o.after.any fun e=>Region.binds md e && (e.on == i || Region.je md ops i fuel e.on)
    | none=>false
def Region.m9 (md:Region.Mode) (ops:Array Oper) (listed:Array Bool):Bool :=
  (List.range ops.size).all fun j=>!listed.getD j false || match ops[j]? with
    | some o=>o.after.all fun e=>!Region.binds md e || listed.getD e.on false
    | none=>true
def Region.sP (md:Region.Mode) (ops:Array Oper) (listed:Array Bool) (ds:List Nat) (i:Nat):Bool :=
 ds.all fun d=>listed.getD d true || Region.je md ops i ops.size d
def gM (md:Region.Mode) (ops:Array Oper) (listed:Array Bool):Prop :=
 ∀ j oj,ops[j]? = some oj→listed.getD j false = true→∀ e∈oj.after,Region.binds md e = true→listed.getD e.on false = true
theorem Region.pU {listed:Array Bool} (h:Region.m9 md ops listed = true):gM md ops listed:=by
 intro j oj hj hl e he hb;have hlt:j < ops.size:=(Array.getElem?_eq_some_iff.1 hj).1;have h1:=List.all_eq_true.1 h j (List.mem_range.2 hlt);simp only [hl,hj,Bool.not_true,Bool.false_or] at h1;have h2:=Array.all_eq_true_iff_forall_mem.1 h1 e he;simpa [hb] using h2
theorem gM.set {listed:Array Bool} {i:Nat} (h:gM md ops listed) (hi:i∈Region.ready md ops listed):gM md ops (listed.setIfInBounds i true):=by
 obtain ⟨_,oi,hoi,hall⟩:=mem_ready.1 hi;intro j oj hj hl e he hb;by_cases hij:i = j
 ·subst hij
  have:oj = oi:=Option.some.inj (hj.symm.trans hoi);subst this;exact getD_set_true (hall e he hb)
 ·rw [getD_set_ne false hij] at hl
  exact getD_set_true (h j oj hj hl e he hb)
theorem Region.mb {listed:Array Bool} {i:Nat} (hc:gM md ops listed):∀ (fuel d:Nat),Region.je md ops i fuel d = true→listed.getD d false = true→listed.getD i false = true
 | 0,_,h,_=>by simp [Region.je] at h
 | fuel+1,d,h,hl=>by
  unfold Region.je at h;cases ho:ops[d]? with
  | none=>rw [ho] at h;simp at h
  | some o =>
   rw [ho] at h;obtain ⟨e,he,h1⟩:=Array.any_eq_true'.1 h;simp only [Bool.and_eq_true,Bool.or_eq_true,beq_iff_eq] at h1;have hle:=hc d o ho hl e he h1.1;rcases h1.2 with h2 | h2
   ·rw [← h2];exact hle
   ·exact Region.mb hc fuel e.on h2 hle
theorem Region.nx {listed:Array Bool} {i d fuel:Nat} (hc:gM md ops listed) (hr:Region.je md ops i fuel d = true) (hun:listed.getD i true = false):d ∉ Region.ready md ops listed:=by
 intro hd;obtain ⟨_,o,ho,hall⟩:=mem_ready.1 hd;have hi:listed.getD i false = true:=by
  cases fuel with
  | zero=>simp [Region.je] at hr
  | succ n =>
   unfold Region.je at hr;rw [ho] at hr;obtain ⟨e,he,h1⟩:=Array.any_eq_true'.1 hr;simp only [Bool.and_eq_true,Bool.or_eq_true,beq_iff_eq] at h1;have hle:=hall e he h1.1;rcases h1.2 with h2 | h2
   ·rw [← h2];exact hle
   ·exact Region.mb hc n e.on h2 hle
 rcases Nat.lt_or_ge i listed.size with h' | h'
 ·simp [h'] at hun hi
  rw [hun] at hi;cases hi
 ·simp [Array.getElem?_eq_none h'] at hun
def cR (P:Program) (md:Region.Mode) (ops:Array Oper) (Q:Exit→Act→World→Prop) (S:World→Prop) (ds:List Nat):Nat→Array Bool→Act→World→Prop
 | 0,listed,a,w=>Region.ready md ops listed = []∧Q .normal a w
 | fuel+1,listed,a,w =>
  (Region.ready md ops listed = []→Q .normal a w) ∧
  ∀ i∈Region.ready md ops listed,wpOp P ops Q i (fun a' w'=>(i ∉ ds→S w→S w')∧cR P md ops Q S ds fuel (listed.setIfInBounds i true) a' w') a w
theorem lG:∀ (fuel:Nat) (listed:Array Bool) (a:Act) (w:World),cR P md ops Q S ds fuel listed a w→wpAny P md ops Q fuel listed a w
 | 0,_,_,_,h=>h
 | fuel+1,_,_,_,h=>⟨h.1,fun i hi=>wpOp_mono (fun a' w' h'=>lG fuel _ a' w' h'.2) (h.2 i hi)⟩
theorem ny {i:Nat} {oi:Oper} {v:Value} (hi:ops[i]? = some oi) (hsel:∀ (j:Nat) (o:Oper) cs b,ops[j]? = some o→o.op ≠ .select cs b)
  (hQ:∀ c a w,Q (.panic c) (a.put oi.dst v) w→Q (.panic c) a w) (n:Nat) :
  ∀ (fuel:Nat) (listed:Array Bool) (a:Act) (w:World),
   (∀ j oj,ops[j]? = some oj→j≠i→listed.getD j true = false→(∀ e∈oj.after,Region.binds md e = true→e.on≠i)→oi.apart ops oj = true) →
   gM md ops listed→(∀ d∈ds,listed.getD d true = false→Region.je md ops i n d = true) →
   i∈Region.ready md ops listed→YieldsIf P ops S oi v a→S w →
   cR P md ops Q S ds fuel (listed.setIfInBounds i true) (a.put oi.dst v) w→cR P md ops Q S ds (fuel+1) listed a w:=by
 intro fuel;induction fuel with
 | zero =>
  intro listed a w _ _ _ hr hy hS H;refine ⟨fun h=>(by rw [h] at hr;cases hr),fun j hj=>?_⟩;by_cases hji:j = i
  ·subst hji;exact hy.wpOp hi hS ⟨fun _ h=>h,H⟩
  ·have:=ready_mono hj hji
   rw [H.1] at this;cases this
 | succ fuel ih =>
  intro listed a w hfree hc hd hr hy hS H;refine ⟨fun h=>(by rw [h] at hr;cases hr),fun j hj=>?_⟩;by_cases hji:j = i
  ·subst hji;exact hy.wpOp hi hS ⟨fun _ h=>h,H⟩
  ·have h1:=H.2 j (ready_mono hj hji)
   obtain ⟨hjun,oj,hoj,hall⟩:=mem_ready.1 hj;have y:=(mem_ready.1 hr).1;have hnot:∀ e∈oj.after,Region.binds md e = true→e.on≠i:=fun e he hb heq=>by
    have h1:=hall e he hb;rw [heq] at h1;rcases Nat.lt_or_ge i listed.size with h' | h'
    ·simp [h'] at y h1;rw [y] at h1;cases h1
    ·simp [Array.getElem?_eq_none h'] at h1
   have hjd:j ∉ ds:=fun hm=>Region.nx hc (hd j hm hjun) y hj
   have h2:=wpOp_putIf hoj (hfree j oj hoj hji hjun hnot) (fun cs b=>hsel i oi cs b hi) (fun cs b=>hsel j oj cs b hoj) hQ hy h1;have hfree':∀ k ok,ops[k]? = some ok→k≠i→(listed.setIfInBounds j true).getD k true = false →
     (∀ e∈ok.after,Region.binds md e = true→e.on≠i)→oi.apart ops ok = true:=fun k ok hk hki hun hno=>by
    refine hfree k ok hk hki ?_ hno;by_cases hjk:j = k
    ·subst hjk;exact hjun
    ·rw [getD_set_ne true hjk] at hun;exact hun
   have hd':∀ d∈ds,(listed.setIfInBounds j true).getD d true = false→Region.je md ops i n d = true:=fun d hm hun=>by
    refine hd d hm ?_;by_cases hjk:j = d
    ·subst hjk;exact hjun
    ·rw [getD_set_ne true hjk] at hun;exact hun
   refine wpOp_mono (fun a' w' h3=>⟨h3.2.1,ih (listed.setIfInBounds j true) a' w' hfree' (hc.set hj) hd' (ready_mono hr (Ne.symm hji)) h3.1 (h3.2.1 hjd hS) ?_⟩) h2;rw [Array.setIfInBounds_comm _ _ hji];exact h3.2.2
theorem oS {i:Nat} {oi:Oper} {v:Value} (hi:ops[i]? = some oi) (hsel:∀ (j:Nat) (o:Oper) cs b,ops[j]? = some o→o.op ≠ .select cs b)
  (hQ:∀ c a w,Q (.panic c) (a.put oi.dst v) w→Q (.panic c) a w) :
  ∀ (fuel:Nat) (listed:Array Bool) (a:Act) (w:World),
   (∀ j oj,ops[j]? = some oj→j≠i→listed.getD j true = false→(∀ e∈oj.after,Region.binds md e = true→e.on≠i)→oi.apart ops oj = true) →
   i∈Region.ready md ops listed→Yields P ops oi v a →
   cR P md ops Q S ds fuel (listed.setIfInBounds i true) (a.put oi.dst v) w→cR P md ops Q S ds (fuel+1) listed a w:=by
 intro fuel;induction fuel with
 | zero =>
  intro listed a w _ hr hy H;refine ⟨fun h=>(by rw [h] at hr;cases hr),fun j hj=>?_⟩;by_cases hji:j = i
  ·subst hji;exact (hy.yieldsIf (S:=fun _=>True)).wpOp hi trivial ⟨fun _ h=>h,H⟩
  ·have:=ready_mono hj hji
   rw [H.1] at this;cases this
 | succ fuel ih =>
  intro listed a w hfree hr hy H;refine ⟨fun h=>(by rw [h] at hr;cases hr),fun j hj=>?_⟩;by_cases hji:j = i
  ·subst hji;exact (hy.yieldsIf (S:=fun _=>True)).wpOp hi trivial ⟨fun _ h=>h,H⟩
  ·have h1:=H.2 j (ready_mono hj hji)
   obtain ⟨hjun,oj,hoj,hall⟩:=mem_ready.1 hj;have y:=(mem_ready.1 hr).1;have hnot:∀ e∈oj.after,Region.binds md e = true→e.on≠i:=fun e he hb heq=>by
    have h1:=hall e he hb;rw [heq] at h1;rcases Nat.lt_or_ge i listed.size with h' | h'
    ·simp [h'] at y h1;rw [y] at h1;cases h1
    ·simp [Array.getElem?_eq_none h'] at h1
   have h2:=wpOp_put hoj (hfree j oj hoj hji hjun hnot) (fun cs b=>hsel i oi cs b hi) (fun cs b=>hsel j oj cs b hoj) hQ hy h1;have hfree':∀ k ok,ops[k]? = some ok→k≠i→(listed.setIfInBounds j true).getD k true = false →
     (∀ e∈ok.after,Region.binds md e = true→e.on≠i)→oi.apart ops ok = true:=fun k ok hk hki hun hno=>by
    refine hfree k ok hk hki ?_ hno;by_cases hjk:j = k
    ·subst hjk;exact hjun
    ·rw [getD_set_ne true hjk] at hun;exact hun
   refine wpOp_mono (fun a' w' h3=>⟨h3.2.1,ih (listed.setIfInBounds j true) a' w' hfree' (ready_mono hr (Ne.symm hji)) h3.1 ?_⟩) h2;rw [Array.setIfInBounds_comm _ _ hji];exact h3.2.2
theorem nX {i:Nat} {oi:Oper} {v:Value} {fuel:Nat} {listed:Array Bool} {a:Act} {w:World} (hi:ops[i]? = some oi)
  (hs:Region.noSelect ops = true) (hf:Region.free md ops listed i = true) (hr:(Region.ready md ops listed).contains i = true)
  (hc:Region.m9 md ops listed = true) (hl:Region.sP md ops listed ds i = true)
  (hQ:∀ c a w,Q (.panic c) (a.put oi.dst v) w→Q (.panic c) a w) (hy:YieldsIf P ops S oi v a) (hS:S w)
  (h:cR P md ops Q S ds fuel (listed.setIfInBounds i true) (a.put oi.dst v) w):cR P md ops Q S ds (fuel+1) listed a w :=
 ny hi (Region.noSelect_spec hs) hQ ops.size fuel listed a w (Region.free_spec hi hf) (Region.pU hc)
  (fun d hm hun=>by have:=List.all_eq_true.1 hl d hm;rw [hun] at this;simpa using this) (by simpa using hr) hy hS h
theorem oT {rs:List Nat} {fuel:Nat} {listed:Array Bool} {a:Act} {w:World} (hr:Region.ready md ops listed = rs) (hne:rs≠[])
  (h:∀ i∈rs,wpOp P ops Q i (fun a' w'=>(i ∉ ds→S w→S w')∧cR P md ops Q S ds fuel (listed.setIfInBounds i true) a' w') a w):cR P md ops Q S ds (fuel+1) listed a w :=
 ⟨fun h0=>absurd (hr ▸ h0) hne,hr ▸ h⟩
theorem nY {listed:Array Bool} {a:Act} {w:World} (hr:Region.ready md ops listed = []) (h:Q .normal a w) :
  ∀ fuel,cR P md ops Q S ds fuel listed a w
 | 0=>⟨hr,h⟩
 | _+1=>⟨fun _=>h,by rw [hr];simp⟩
theorem nZ {id:Nat} {a:Act} {w:World} (hm:P.follows .mixedOrders = true)
  (h:cR P .any ops Q S ds ops.size (Array.replicate ops.size false) a { w with drawn:=w.drawn+1 }):(Code.region id ops true).wp P Q a w :=
 wp_region_any hm (lG _ _ _ _ h)
end
section
variable {P:Program} {ops:Array Oper} {Q:Exit→Act→World→Prop} {md:Region.Mode} {S:World→Prop} {ds:List Nat}
def fT (P:Program) (md:Region.Mode) (ops:Array Oper) (Q:Exit→Act→World→Prop) (S:World→Prop) (ds:List Nat) (fuel:Nat) (listed:Array Bool) (a:Act) (w:World) (rs:List Nat):Prop :=
 ∀ i∈rs,wpOp P ops Q i (fun a' w'=>(i ∉ ds→S w→S w')∧cR P md ops Q S ds fuel (listed.setIfInBounds i true) a' w') a w
theorem fT.nil {fuel:Nat} {listed:Array Bool} {a:Act} {w:World}:fT P md ops Q S ds fuel listed a w []:=fun _ h=>by cases h
theorem fT.cons {fuel:Nat} {listed:Array Bool} {a:Act} {w:World} {i:Nat} {o:Oper} {rs:List Nat} (ho:ops[i]? = some o) (hd:i ∉ ds)
  (h:∀ K':Act→World→Prop,Shut (∀ a w,S w→(S w→cR P md ops Q S ds fuel (listed.setIfInBounds i true) a w)→K' a w)→if Region.wanted o (yielded ops a.tmps) = true then Oper.wp P o a w K' Q else K' (a.put o.dst undef) w)
  (hs:fT P md ops Q S ds fuel listed a w rs):fT P md ops Q S ds fuel listed a w (i :: rs):=fun j hj=>by
 rcases List.mem_cons.1 hj with rfl | hj
 ·exact wpOp_step ho (fun K' hK=>h K' (fun a w hS hW=>hK a w ⟨fun _ _=>hS,hW hS⟩))
 ·exact hs j hj
theorem fT.tN {fuel:Nat} {listed:Array Bool} {a:Act} {w:World} {i:Nat} {o:Oper} {rs:List Nat} (ho:ops[i]? = some o) (hd:i∈ds)
  (h:∀ K':Act→World→Prop,Shut (∀ a w,cR P md ops Q S ds fuel (listed.setIfInBounds i true) a w→K' a w)→if Region.wanted o (yielded ops a.tmps) = true then Oper.wp P o a w K' Q else K' (a.put o.dst undef) w)
  (hs:fT P md ops Q S ds fuel listed a w rs):fT P md ops Q S ds fuel listed a w (i :: rs):=fun j hj=>by
 rcases List.mem_cons.1 hj with rfl | hj
 ·exact wpOp_step ho (fun K' hK=>h K' (fun a w hW=>hK a w ⟨fun hn=>absurd hd hn,hW⟩))
 ·exact hs j hj
theorem kE {rs:List Nat} {fuel:Nat} {listed:Array Bool} {a:Act} {w:World} (hr:Region.ready md ops listed = rs) (hne:rs≠[])
  (h:fT P md ops Q S ds fuel listed a w rs):cR P md ops Q S ds (fuel+1) listed a w:=oT hr hne h
theorem eT {id n:Nat} {a:Act} {w:World} (l:Array Bool) (hm:P.follows .mixedOrders = true) (hn:ops.size = n) (hl:Array.replicate n false = l) (hS:S w.drew)
  (h:S w.drew→cR P .any ops Q S ds n l a w.drew):(Code.region id ops true).wp P Q a w:=by
 subst hn;subst hl;exact nZ hm (h hS)
def qN (md:Region.Mode) (ops:Array Oper) (ds:List Nat) (l l':Array Bool) (i:Nat):Bool :=
 Region.noSelect ops && Region.free md ops l i && (Region.ready md ops l).contains i && Region.m9 md ops l && Region.sP md ops l ds i && (l.setIfInBounds i true == l')
theorem m6 {i:Nat} {N:Option Tmp} {oi:Oper} {v:Value} {fuel:Nat} {l:Array Bool} {a:Act} {w:World} (l':Array Bool) (hi:ops[i]? = some oi) (hN:oi.dst = N) (hc:qN md ops ds l l' i = true)
  (hQ:∀ c a w,Q (.panic c) (a.put oi.dst v) w→Q (.panic c) a w) (hy:YieldsIf P ops S oi v a) (hS:S w) {a':Act} (ha:a.put N v = a')
  (h:cR P md ops Q S ds fuel l' a' w):cR P md ops Q S ds (fuel+1) l a w:=by
 subst ha;subst hN;simp only [qN,Bool.and_eq_true,beq_iff_eq] at hc;obtain ⟨⟨⟨⟨⟨h1,h2⟩,h3⟩,h4⟩,h5⟩,j⟩:=hc;subst j;exact nX hi h1 h2 h3 h4 h5 hQ hy hS h
def wS (md:Region.Mode) (ops:Array Oper) (l l':Array Bool) (i:Nat):Bool :=
 Region.noSelect ops && Region.free md ops l i && (Region.ready md ops l).contains i && (l.setIfInBounds i true == l')
theorem dK {i:Nat} {N:Option Tmp} {oi:Oper} {v:Value} {fuel:Nat} {l:Array Bool} {a:Act} {w:World} (l':Array Bool) (hi:ops[i]? = some oi) (hN:oi.dst = N) (hc:wS md ops l l' i = true)
  (hQ:∀ c a w,Q (.panic c) (a.put oi.dst v) w→Q (.panic c) a w) (hy:Yields P ops oi v a) {a':Act} (ha:a.put N v = a')
  (h:cR P md ops Q S ds fuel l' a' w):cR P md ops Q S ds (fuel+1) l a w:=by
 subst ha;subst hN;simp only [wS,Bool.and_eq_true,beq_iff_eq] at hc;obtain ⟨⟨⟨h1,h2⟩,h3⟩,j⟩:=hc;subst j;exact oS hi (Region.noSelect_spec h1) hQ fuel l a w (Region.free_spec hi h2) (by simpa using h3) hy h
def mN (md:Region.Mode) (ops:Array Oper) (l l':Array Bool) (i:Nat):Bool:=(Region.ready md ops l == [i]) && (l.setIfInBounds i true == l')
theorem fe {i:Nat} {N:Option Tmp} {oi:Oper} {fuel:Nat} {l:Array Bool} {a:Act} {w:World} (l':Array Bool) (hi:ops[i]? = some oi) (hN:oi.dst = N) (hc:mN md ops l l' i = true) (hd:i ∉ ds)
  (h:∀ K:Act→World→Prop,Shut (∀ a' w',S w'→(S w'→cR P md ops Q S ds fuel l' a' w')→K a' w')→if Region.wanted oi (yielded ops a.tmps) = true then Oper.wp P oi a w K Q else K (a.put N undef) w) :
  cR P md ops Q S ds (fuel+1) l a w:=by
 subst hN;simp only [mN,Bool.and_eq_true,beq_iff_eq] at hc;obtain ⟨h1,h2⟩:=hc;subst h2;exact kE h1 (by simp) (fT.cons hi hd (fun K hK=>h K hK) fT.nil)
theorem lH {i:Nat} {N:Option Tmp} {oi:Oper} {fuel:Nat} {l:Array Bool} {a:Act} {w:World} (l':Array Bool) (hi:ops[i]? = some oi) (hN:oi.dst = N) (hc:mN md ops l l' i = true) (hd:i∈ds)
  (h:∀ K:Act→World→Prop,Shut (∀ a' w',cR P md ops Q S ds fuel l' a' w'→K a' w')→if Region.wanted oi (yielded ops a.tmps) = true then Oper.wp P oi a w K Q else K (a.put N undef) w) :
  cR P md ops Q S ds (fuel+1) l a w:=by
 subst hN;simp only [mN,Bool.and_eq_true,beq_iff_eq] at hc;obtain ⟨h1,h2⟩:=hc;subst h2;exact kE h1 (by simp) (fT.tN hi hd (fun K hK=>h K hK) fT.nil)
theorem fP {l:Array Bool} {a:Act} {w:World} {n:Nat} (hr:(Region.ready md ops l == []) = true) (h:Q .normal a w):cR P md ops Q S ds n l a w:=nY (by simpa using hr) h n
theorem dN {fuel:Nat} {l:Array Bool} {a a':Act} {w:World} (ha:a = a') (h:cR P md ops Q S ds fuel l a' w):cR P md ops Q S ds fuel l a w:=by
 subst ha;exact h
theorem za {oi:Oper} {N:Option Tmp} {a:Act} {w:World} {K:Act→World→Prop} (f:FuncId) (args:Array Value) (hw:Region.wanted oi (yielded ops a.tmps) = true) (hN:oi.dst = N) (hrun:(execOp a.eval oi).run P w = .ok (.enter f args) w)
  (h:Calls P f args w fun e w'=>∃ v,e = .returned v∧K (a.put N v) w'):if Region.wanted oi (yielded ops a.tmps) = true then Oper.wp P oi a w K Q else K (a.put N undef) w:=by
 rw [if_pos hw];subst hN;unfold Oper.wp;rw [hrun,Oper.upon_enter];refine h.mono fun e w'' hh=>?_
 obtain ⟨v,rfl,hk⟩:=hh;exact hk
theorem pV {f:FuncId} {fn:Func} (hf:P.funcs[f]? = some fn) (hname:(fn.name == "runtime.NumGoroutine") = false) (hb:fn.body.isSome = true) (args:Array Value) (w:World):(callFunc f args).run P w = .ok (.enter f args) w:=by
 have h1:fn.name ≠ "runtime.NumGoroutine" := by simpa using hname
 obtain ⟨c,hc⟩:=Option.isSome_iff_exists.1 hb;simp [callFunc,hf,h1,hc]
theorem eK {oi:Oper} {N:Option Tmp} {a:Act} {w:World} {K:Act→World→Prop} {f:FuncId} {fn:Func} {as_q:Array Operand} {ts:Array TypeId} (hf:P.funcs[f]? = some fn) (hname:(fn.name == "runtime.NumGoroutine") = false) (hb:fn.body.isSome = true) (args:Array Value)
  (hw:Region.wanted oi (yielded ops a.tmps) = true) (hN:oi.dst = N) (hop:oi.op = .call { callee:=.value (.func f),args:=as_q,argTypes:=ts }) (hargs:as_q.map a.eval = args)
  (h:Calls P f args w fun e w'=>∃ v,e = .returned v∧K (a.put N v) w'):if Region.wanted oi (yielded ops a.tmps) = true then Oper.wp P oi a w K Q else K (a.put N undef) w:=by
 refine za f args hw hN ?_ h;have he:=pV hf hname hb args w;unfold execOp;simp [hop,resolve,Deferred.ofValue,invoke,Act.eval,hargs,he]
theorem uI {rest:List Oper} {oi:Oper} {a:Act} {w:World} (N:Option Tmp) (hd:oi.dst = N) (hg:oi.guard = none) {f:FuncId} {fn:Func} {as_q:Array Operand} {ts:Array TypeId} (hf:P.funcs[f]? = some fn) (hname:(fn.name == "runtime.NumGoroutine") = false) (hb:fn.body.isSome = true) (args:Array Value)
  (hop:oi.op = .call { callee:=.value (.func f),args:=as_q,argTypes:=ts }) (hargs:as_q.map a.eval = args)
  (h:Calls P f args w fun e w'=>∃ v,e = .returned v∧wpList P ops Q rest (a.put N v) w'):wpList P ops Q (oi :: rest) a w:=by
 refine wpList_plain hg fun K hK=>?_
 have he:=pV hf hname hb args w;have hrun:(execOp a.eval oi).run P w = .ok (.enter f args) w:=by
  unfold execOp;simp [hop,resolve,Deferred.ofValue,invoke,Act.eval,hargs,he]
 unfold Oper.wp;rw [hrun,Oper.upon_enter];refine h.mono fun e w'' hh=>?_
 obtain ⟨v,rfl,hk⟩:=hh;subst hd;exact hK _ _ hk
theorem mO {oi:Oper} {N:Option Tmp} {a:Act} {w w1:World} {v:Value} {K:Act→World→Prop} (hw:Region.wanted oi (yielded ops a.tmps) = true) (hN:oi.dst = N) (hrun:(execOp a.eval oi).run P w = .ok (.value v) w1)
  (h:K (a.put N v) w1):if Region.wanted oi (yielded ops a.tmps) = true then Oper.wp P oi a w K Q else K (a.put N undef) w:=by
 rw [if_pos hw];subst hN;unfold Oper.wp;rw [hrun];exact h
theorem nk {oi:Oper} {a:Act} {w w1:World} {K:Act→World→Prop} (hw:Region.wanted oi (yielded ops a.tmps) = true) (hN:oi.dst = none) (hrun:(execOp a.eval oi).run P w = .ok .skip w1)
  (h:K a w1):if Region.wanted oi (yielded ops a.tmps) = true then Oper.wp P oi a w K Q else K (a.put none undef) w:=by
 rw [if_pos hw];unfold Oper.wp;rw [hrun];show K (a.put oi.dst undef) w1;rw [hN];exact h
theorem b7 (n:Int):IntKind.i64.wrap n = Go.RowKit.wrap64 n:=by unfold Go.RowKit.wrap64;exact IntKind.wrap_i64 n
theorem bC (n:Int):IntKind.i32.wrap n = Go.RowKit.wrap32 n:=by unfold Go.RowKit.wrap32;exact IntKind.wrap_i32 n
end
end Go.Proofs.ag.bR
end
section
namespace Go.Proofs.ag.aZ
open Go.RowKit
namespace Kd
def tag {α:Type} (f:Nat→Nat) (d:Kd α):Kd (α×Nat) where
 sz:=d.sz
 E:=d.E
 K:=fun w x cs=>d.K w x.1 cs
 M:=fun w base ok x cs=>d.M w base (fun k=>ok k∧f k = x.2) x.1 cs
 K_len:=fun h=>d.K_len h
 K_one:=fun h=>d.K_one h
 K_below:=fun hb h=>d.K_below hb h
 K_of_M:=fun h=>d.K_of_M h
 M_mono:=fun hok h=>d.M_mono (fun k hk=>⟨hok k hk.1,hk.2⟩) h
 M_bound:=fun h=>d.M_mono (fun _ hk=>⟨⟨hk.1.1,hk.2⟩,hk.1.2⟩) (d.M_bound h)
 M_move:=fun hm h=>d.M_move (fun k hk=>hm k hk.1) h
 M_lower:=fun hb h=>d.M_lower hb h
def bare {α:Type} (d:Kd α):Kd α where
 sz:=d.sz
 E:=d.E
 K:=d.K
 M:=fun w base _ x cs=>d.M w base (fun _=>False) x cs
 K_len:=fun h=>d.K_len h
 K_one:=fun h=>d.K_one h
 K_below:=fun hb h=>d.K_below hb h
 K_of_M:=fun h=>d.K_of_M h
 M_mono:=fun _ h=>h
 M_bound:=fun h=>h
 M_move:=fun _ h=>d.M_move (fun _ hk=>hk.elim) h
 M_lower:=fun hb h=>d.M_lower hb h
def raw (sz:Nat):Kd (List Value) where
 sz:=sz
 E:=[]
 K:=fun _ x cs=>cs = x∧cs.length = sz∧∀ u∈cs,u.oneCell' = true
 M:=fun _ _ _ x cs=>cs = x∧cs.length = sz∧∀ u∈cs,u.oneCell' = true
 K_len:=fun h=>h.2.1
 K_one:=fun h=>h.2.2
 K_below:=fun _ h=>h
 K_of_M:=fun h=>h
 M_mono:=fun _ h=>h
 M_bound:=fun h=>h
 M_move:=fun _ h=>h
 M_lower:=fun _ h=>h
def S {α:Type} (d:Kd α) (e:Nat) (w:World) (base:Nat) (ok:Nat→Prop) (v:Value) (xs:List α):Prop:=∃ f,(tag f d).R e w base ok v xs.zipIdx
section
variable {α β:Type} {d:Kd α} {d':Kd β} {e e':Nat} {w w1 W:World} {base b:Nat} {ok ok' okv oku:Nat→Prop} {u v:Value} {xs:List α} {ys:List β}
theorem pW {xs:List α} {j:Nat} {p:α} (h:xs[j]? = some p):xs.zipIdx[j]? = some (p,j):=by rw [List.getElem?_zipIdx,h,Nat.zero_add];rfl
theorem xO (h:S d e w base ok v xs):d.R e w base ok v xs:=by
 obtain ⟨f,h0,inner,ho,hr⟩:=h;rw [List.length_zipIdx] at ho;exact ⟨h0,inner,ho,by have:=hr.1;rw [List.length_zipIdx] at this;exact this,fun j p hj=>d.M_mono (fun _ hk=>hk.1) (hr.2 j (p,j) (pW hj))⟩
theorem uJ {ad:Addr} {n cap:Nat} (h:d.R e w base ok (.slice (some ad) n cap) xs):∃ g,ad = ⟨g,0,none⟩:=by
 obtain ⟨_,inner,ho,hr⟩:=h;rcases ho.2 with ⟨hv,_⟩ | ⟨g,cap',cur,hv,_⟩
 ·cases hv
 ·injection hv with ha _ _
  injection ha with ha
  exact ⟨g,ha⟩
theorem yl {ad:Addr} {n cap:Nat} (h:d.R e W base ok (.slice (some ad) n cap) xs) (z:α) (i:Int) (h0:0≤i) (h1:i < n) :
  ∃ c,c.length = d.sz∧d.M W base (fun k=>ok k∧some k≠(Value.slice (some ad) n cap).ownBlock) (xs.getD i.toNat z) c∧∀ j u,c[j]? = some u→W.cell? (ad.add (i.toNat * d.sz+j)) = some u:=by
 obtain ⟨g,rfl⟩:=uJ h;obtain ⟨c,hcl,hM,hcc,_⟩:=yh h z i h0 h1;refine ⟨c,hcl,d.M_mono (fun k hk=>⟨hk.1,fun he=>hk.2 (by simpa [Value.ownBlock] using he)⟩) hM,fun j u hu=>?_⟩;rw [uF,Nat.zero_add];exact hcc j u hu
theorem nE (hE:d.E = []) (h:d.R e w base ok v xs):d.R e w base (fun k=>some k = v.ownBlock) v xs:=by
 obtain ⟨h0,inner,ho,hr⟩:=h;refine ⟨fun k hk=>hk.symm,inner,ho,hr.ko (fun p c hp=>d.M_mono (fun k hk=>?_) (d.M_bound hp))⟩;obtain ⟨_,_,_,q,hq,_⟩:=hk;rw [hE] at hq;cases hq
theorem xP (d:Kd α) (e:Nat) (w:World) (base:Nat) (ok:Nat→Prop):S d e w base ok (.slice none 0 0) []:=⟨fun _=>0,ni _ _ _ _ _⟩
theorem jf (h:S d e w base ok v xs) (hok:∀ k,ok k→ok' k):S d e w base ok' v xs:=by
 obtain ⟨f,h⟩:=h;exact ⟨f,aQ h hok⟩
theorem wT (h:S d e w base ok v xs):S d e w base (fun k=>ok k∧base≤k∧k < w.heap.size∧∃ q,q∈e :: d.E∧∃ cells,w.heap[k]? = some (.cells cells q (0,0))) v xs:=by
 obtain ⟨f,h⟩:=h;exact ⟨f,ia h⟩
theorem ym (h:S d e w base ok v xs) (hm:∀ k,ok k→w1.heap[k]? = w.heap[k]?):S d e w1 base ok v xs:=by
 obtain ⟨f,h⟩:=h;exact ⟨f,mK h hm⟩
theorem j3 {base':Nat} (h:S d e w base ok v xs) (hb:base'≤base):S d e w base' ok v xs:=by
 obtain ⟨f,h⟩:=h;exact ⟨f,b5 h hb⟩
theorem uK (h:S d e w base ok v xs) (hm:∀ k,ok k→k < w.heap.size→w1.heap[k]? = w.heap[k]?):S d e w1 base ok v xs :=
 jf (ym (wT h) (fun k hk=>hm k hk.1 hk.2.2.1)) (fun _ hk=>hk.1)
theorem eM (h:S d e w base ok v xs) (hb:Below w.heap.size w w1):S d e w1 base ok v xs:=uK h (fun k _ hk=>hb.block k hk)
theorem l8 (h:S d e w base ok v xs) (o:Obj):S d e (w.alloc o) base ok v xs:=eM h (e6 (Below.refl _ _) o)
theorem iH (h:S d e w base ok v xs):S d e w.drew base ok v xs:=eM h (lQ (Below.refl _ _))
theorem l9 (h:S d e w base ok v xs) (m:Nat):S d e (w.drewN m) base ok v xs:=eM h (dX (Below.refl _ _) m)
theorem xQ (h:S d e w base ok v xs) {p:Addr} (hok:∀ k,ok k→k≠p.block) (u:Value):S d e (w.setCell p u) base ok v xs:=uK h (fun k ho _=>Below.heap_setCell w p u k (hok k ho))
theorem wU (h:S d e w base ok v xs) {g t:Nat} {cells:Array Value} (hb:w.heap[g]? = some (.cells cells t (0,0))) (ht:∀ q,q∈e :: d.E→q≠t):S d e w base (fun k=>ok k∧k≠g) v xs:=by
 obtain ⟨f,h⟩:=h;exact ⟨f,cr h hb ht⟩
theorem ld (h:S d e w base ok v xs):∀ k,v.ownBlock = some k→∃ cells,w.heap[k]? = some (.cells cells e (0,0)):=sO (xO h)
theorem zb (h:S d e w base ok v xs):∀ k,v.ownBlock = some k→k < w.heap.size:=ek (xO h)
theorem uL (h:S d e w base ok v xs):∀ k,v.ownBlock = some k→base≤k:=cL (xO h)
theorem fV (h:S d e W base ok u xs) (hbase:∀ k,v.ownBlock = some k→W.heap.size≤k) (hb:Below W.heap.size W w1):S d e w1 base (fun k=>ok k∧some k≠v.ownBlock) u xs:=by
 obtain ⟨f,h⟩:=h;exact ⟨f,cz h hbase hb⟩
theorem ir (h:S d e w1 W.heap.size ok v xs) (hlt:∀ k,u.ownBlock = some k→k < W.heap.size):S d e w1 W.heap.size (fun k=>ok k∧some k≠u.ownBlock) v xs:=by
 obtain ⟨f,h⟩:=h;exact ⟨f,dy h hlt⟩
theorem yn (h:(bare d).R e w base ok v xs):S d e w base ok v xs:=by
 obtain ⟨h0,inner,ho,hr⟩:=h;refine ⟨fun _=>0,h0,inner,by rw [List.length_zipIdx];exact ho,by rw [List.length_zipIdx];exact hr.1,fun j p hj=>?_⟩;rw [List.getElem?_zipIdx,Nat.zero_add] at hj;obtain ⟨x,hx,rfl⟩:=Option.map_eq_some_iff.1 hj;exact d.M_mono (fun _ hk=>hk.elim) (hr.2 j x hx)
theorem zc {f f':Nat→Nat} {zs:List (α×Nat)} (h:(tag f d).R e w base ok v zs) (hf:∀ k,ok k→k < w.heap.size→f' k = f k):(tag f' d).R e w base ok v zs:=by
 obtain ⟨h0,inner,ho,hr⟩:=ia h;exact ⟨fun k hk=>(h0 k hk).1,inner,ho,hr.1,fun j p hj=>d.M_mono (fun k hk=>⟨⟨hk.1.1.1,hk.1.2⟩,(hf k hk.1.1.1 hk.1.1.2.2.1).trans hk.2⟩) (hr.2 j p hj)⟩
end
section
variable {α β:Type} {d:Kd α} {d':Kd β} {e e' g:Nat} {w w1 W:World} {base b:Nat} {ok ok' okv oku:Nat→Prop} {u v:Value} {xs:List α} {ys:List β}
theorem ze (h:S d e w base ok v xs) {t:Nat} {cells:Array Value} (hb:w.heap[g]? = some (.cells cells t (0,0))) (ht:e≠t):some g≠v.ownBlock:=jU (xO h) hb ht
theorem ji (h:S d e w base ok v xs):∃ A c,v = .slice A xs.length c:=bk (xO h)
theorem ez {A:Option Addr} {n c:Nat} (h:S d e w base ok (.slice A n c) xs):n = xs.length∧n≤c∧d.C w A xs.length xs:=az (xO h)
theorem qO {ad:Addr} {n cap:Nat} (h:S d e W base ok (.slice (some ad) n cap) xs) (z:α) (i:Int) (h0:0≤i) (h1:i < n) :
  ∃ c,c.length = d.sz∧d.M W base (fun k=>ok k∧some k≠(Value.slice (some ad) n cap).ownBlock) (xs.getD i.toNat z) c∧∀ j u,c[j]? = some u→W.cell? (ad.add (i.toNat * d.sz+j)) = some u:=yl (xO h) z i h0 h1
theorem uM (xs:List α) (p:α):(xs ++ [p]).zipIdx = xs.zipIdx ++ [(p,xs.length)]:=by rw [List.zipIdx_append];simp
end
section
open Classical in
theorem zf {α:Type} {d:Kd α} {e base:Nat} {okv:Nat→Prop} {w:World} {v:Value} {xs:List α} (h:S d e w base okv v xs) (m:Nat) (okp:Nat→Prop) (hap:∀ k,okp k→¬ okv k):∃ f,(∀ k,okp k→f k = m)∧(tag f d).R e w base okv v xs.zipIdx:=by
 obtain ⟨f,h⟩:=h;exact ⟨fun k=>if okp k then m else f k,fun k hk=>if_pos hk,zc h (fun k hk _=>if_neg (fun h2=>hap k h2 hk))⟩
variable {P:Program} {ops:Array Oper} {rest:List Oper} {o:Oper} {a:Act} {Q:Exit→Act→World→Prop} {Kc:Act→World→Prop} {α:Type}
theorem o3 (d:Kd α) {w0 W:World} (base:Nat) (hgd:o.guard = none) (s x:Operand) (t e:TypeId) (z:Value) (bytes:Nat)
  (ho:o.op = .call { callee:=.builtin .append,args:=#[s,x],argTypes:=#[t,t] })
  (ht:P.underlying t = some (.slice e)) (hinfo:(P.info? e).map (fun i=>(i.zero,i.size,i.bytes)) = some (some z,d.sz,bytes)) (hz:z.cells.size = d.sz) (y:0 < d.sz) (X:0 < bytes)
  (v:Value) (xs:List α) (p:α) (cs:List Value) (ok okp:Nat→Prop) (hs:a.eval s = v) (hx:a.eval x = .slice (some ⟨W.heap.size,0,none⟩) 1 1) (hp:d.M W base okp p cs) (j:∀ k,okp k→ok k∧some k≠v.ownBlock) (hfresh:∀ k,W.heap.size≤k→ok k)
  (HO:S d e W base (fun k=>ok k∧¬ okp k) v xs) (HB:Below base w0 W) (hbase:base≤W.heap.size) (hl:(xs.length+1) * bytes≤140737488355328)
  (h:∀ v1 w1,S d e w1 base ok v1 (xs ++ [p])→Below base w0 w1→W.grownBy w1 v.ownBlock→(v1.ownBlock = v.ownBlock∨∃ b,v1.ownBlock = some b∧W.heap.size≤b)→wpList P ops Q rest (a.put o.dst v1) w1) :
  wpList P ops Q (o :: rest) a (W.alloc (.cells cs.toArray e)):=by
 obtain ⟨f,hf,hR⟩:=zf HO xs.length okp (fun _ hk h2=>h2.2 hk);refine eS (tag f d) base hgd s x t e z bytes ho ht hinfo hz y X v xs.zipIdx (p,xs.length) cs ok okp hs hx (d.M_mono (fun k hk=>⟨hk,hf k hk⟩) hp) j hfresh (aQ hR (fun _ hk=>hk.1)) HB hbase (by rw [List.length_zipIdx];exact hl) ?_;intro v1 w1 hr;rw [← uM] at hr;exact h v1 w1 ⟨f,hr⟩
theorem qP (d:Kd α) {w0 W:World} (base e:Nat) (hgd:o.guard = none) {N:Tmp} (_hd:o.dst = some N) {xs:List α} {inner:List Value} {ok okp:Nat→Prop}
  (hrun:(execOp a.eval o).run P W = .ok (.value (.slice (some ⟨W.heap.size,0,none⟩) xs.length xs.length)) (W.alloc (.cells inner.toArray e)))
  (hrep:cY (d.M W base (fun _=>False)) d.sz xs inner) (_hok:∀ k,okp k→ok k) (hfresh:ok W.heap.size) (HB:Below base w0 W) (hbase:base≤W.heap.size) (hm:xs.length≤9223372036854775807)
  (h:∀ v1 w1,S d e w1 base ok v1 xs→Below base w0 w1→W.grownBy w1 none→(∃ b,v1.ownBlock = some b∧W.heap.size≤b)→wpList P ops Q rest (a.put o.dst v1) w1):wpList P ops Q (o :: rest) a W :=
 jW (bare d) base e hgd _hd (ok:=ok) (okp:=ok) hrun hrep (fun _ hk=>hk) hfresh HB hbase hm (fun v1 w1 hr=>h v1 w1 (yn hr))
end
def Ao {α:Type} (f:Nat→Nat) (d:Kd α) (i:Nat) (c:List Value):Kd (α×Nat) where
 sz:=d.sz
 E:=d.E
 K:=fun w x cs=>(x.2 = i→cs = c∧cs.length = d.sz∧∀ u∈cs,u.oneCell' = true)∧(x.2≠i→d.K w x.1 cs)
 M:=fun w base ok x cs=>(x.2 = i→cs = c∧cs.length = d.sz∧∀ u∈cs,u.oneCell' = true)∧(x.2≠i→d.M w base (fun k=>ok k∧f k = x.2) x.1 cs)
 K_len:=fun {w x cs} h=>by
  by_cases hx:x.2 = i
  ·exact (h.1 hx).2.1
  ·exact d.K_len (h.2 hx)
 K_one:=fun {w x cs} h=>by
  by_cases hx:x.2 = i
  ·exact (h.1 hx).2.2
  ·exact d.K_one (h.2 hx)
 K_below:=fun hb h=>⟨h.1,fun hx=>d.K_below hb (h.2 hx)⟩
 K_of_M:=fun h=>⟨h.1,fun hx=>d.K_of_M (h.2 hx)⟩
 M_mono:=fun hok h=>⟨h.1,fun hx=>d.M_mono (fun k hk=>⟨hok k hk.1,hk.2⟩) (h.2 hx)⟩
 M_bound:=fun h=>⟨h.1,fun hx=>d.M_mono (fun _ hk=>⟨⟨hk.1.1,hk.2⟩,hk.1.2⟩) (d.M_bound (h.2 hx))⟩
 M_move:=fun hm h=>⟨h.1,fun hx=>d.M_move (fun k hk=>hm k hk.1) (h.2 hx)⟩
 M_lower:=fun hb h=>⟨h.1,fun hx=>d.M_lower hb (h.2 hx)⟩
def H {α:Type} (d:Kd α) (e:Nat) (w:World) (base:Nat) (ok:Nat→Prop) (v:Value) (xs:List α) (i:Int) (oki:Nat→Prop) (c:List Value):Prop :=
 (∀ k,oki k→ok k)∧∃ f,(Ao f d i.toNat c).R e w base (fun k=>ok k∧¬ oki k) v xs.zipIdx
section
variable {α β:Type} {d:Kd α} {e e' g n cap:Nat} {w w1 W:World} {base:Nat} {ok ok' oki okp:Nat→Prop} {u v:Value} {xs:List α} {i:Int} {c:List Value}
theorem yo (h:S d e W base ok (.slice (some ⟨g,0,none⟩) n cap) xs) (z:α) (i:Int) (h0:0≤i) (h1:i < n) :
  ∃ (oki:Nat→Prop) (c:List Value),c.length = d.sz∧d.M W base oki (xs.getD i.toNat z) c∧(∀ j u,c[j]? = some u→W.cell? ⟨g,i.toNat * d.sz+j,none⟩ = some u)∧(∀ k,oki k→ok k∧k≠g)∧H d e W base ok (.slice (some ⟨g,0,none⟩) n cap) xs i oki c:=by
 obtain ⟨f,hR⟩:=h;have hn:=(az hR).1;rw [List.length_zipIdx] at hn;have hgo:some g = (Value.slice (some ⟨g,0,none⟩) n cap).ownBlock:=by simp [Value.ownBlock]
 obtain ⟨y,inner,ho,hr⟩:=hR;have hil:i.toNat < xs.length:=by omega
 have hlen:inner.length = xs.length * d.sz:=by have:=hr.1;rw [List.length_zipIdx] at this;exact this
 have hseg:i.toNat * d.sz+d.sz≤inner.length:=by rw [hlen,← Nat.succ_mul];exact Nat.mul_le_mul_right _ hil
 have hM:=hr.2 i.toNat _ (pW (List.getElem?_eq_getElem hil));have hkg:∀ k,some k≠(Value.slice (some ⟨g,0,none⟩) n cap).ownBlock→k≠g:=fun k hk he=>hk (by rw [he];exact hgo)
 refine ⟨fun k=>(ok k∧k≠g)∧f k = i.toNat,(inner.drop (i.toNat * d.sz)).take d.sz,by rw [List.length_take,List.length_drop];omega,?_,fun j u hu=>?_,fun k hk=>hk.1,fun k hk=>hk.1.1,f,fun k hk=>⟨y k hk,fun h2=>h2.1.2 ?_⟩,inner,ho,hr.1,fun m p hm=>?_⟩
 ·rw [List.getD_eq_getElem?_getD,List.getElem?_eq_getElem hil]
  exact d.M_mono (fun k hk=>⟨⟨hk.1.1,hkg k hk.1.2⟩,hk.2⟩) hM
 ·rw [List.getElem?_take] at hu
  split at hu
  ·rw [List.getElem?_drop] at hu
   have:=ho.cells (g:=g) hgo.symm _ u hu;rwa [add_plain] at this
  ·cases hu
 ·rw [← hgo] at hk;injection hk with hk;exact hk.symm
 ·have hold:=hr.2 m p hm
  have Y:p.2 = m:=by
   rw [List.getElem?_zipIdx,Nat.zero_add] at hm;obtain ⟨q,_,rfl⟩:=Option.map_eq_some_iff.1 hm;rfl
  refine ⟨fun hx=>?_,fun hx=>d.M_mono (fun k hk=>⟨⟨⟨hk.1.1,fun h2=>hx ?_⟩,hk.1.2⟩,hk.2⟩) hold⟩
  ·have X:m = i.toNat:=by omega
   subst X;exact ⟨rfl,d.K_len (d.K_of_M hM),d.K_one (d.K_of_M hM)⟩
  ·rw [← hk.2];exact h2.2
open Classical in
theorem yp (h:H d e w base ok v xs i oki c) {x':α} (hM:d.M w base okp x' c) (hok:∀ k,okp k→oki k):S d e w base ok v (xs.set i.toNat x'):=by
 obtain ⟨ho,f,h0,inner,hown,hr⟩:=h;refine ⟨fun k=>if oki k then i.toNat else f k,fun k hk=>(h0 k hk).1,inner,by rw [List.length_zipIdx,List.length_set];rw [List.length_zipIdx] at hown;exact hown,by have:=hr.1;rw [List.length_zipIdx] at this;rw [List.length_zipIdx,List.length_set];exact this,fun m p hm=>?_⟩;rw [List.getElem?_zipIdx,Nat.zero_add] at hm;obtain ⟨q,hq,rfl⟩:=Option.map_eq_some_iff.1 hm;have hml:m < xs.length:=by
  have:=(List.getElem?_eq_some_iff.1 hq).1;rwa [List.length_set] at this
 by_cases j:m = i.toNat
 ·subst j
  rw [List.getElem?_set_self hml] at hq;injection hq with hq
  subst hq;have hc:=((hr.2 i.toNat _ (pW (List.getElem?_eq_getElem hml))).1 rfl).1;show d.M w base _ x' ((inner.drop (i.toNat * d.sz)).take d.sz);rw [show (inner.drop (i.toNat * d.sz)).take d.sz = c from hc];exact d.M_mono (fun k hk=>⟨⟨ho k (hok k hk),fun he=>(h0 k he.symm).2 (hok k hk)⟩,if_pos (hok k hk)⟩) hM
 ·rw [List.getElem?_set_ne (Ne.symm j)] at hq
  exact d.M_mono (fun k hk=>⟨⟨hk.1.1.1,hk.1.2⟩,(if_neg hk.1.1.2).trans hk.2⟩) ((hr.2 m (q,m) (pW hq)).2 j)
theorem yq (h:H d e w base ok v xs i oki c) (hm:∀ k,ok k→¬ oki k→k < w.heap.size→w1.heap[k]? = w.heap[k]?):H d e w1 base ok v xs i oki c:=by
 obtain ⟨ho,f,h⟩:=h;exact ⟨ho,f,nS h (fun k hk hlt=>hm k hk.1 hk.2 hlt)⟩
theorem wV (h:H d e w base ok v xs i oki c) {row:Option Nat} (hg:w.grownBy w1 row) (hrow:∀ k,row = some k→oki k):H d e w1 base ok v xs i oki c :=
 yq h (fun k _ hn hlt=>hg.block k hlt (fun he=>hn (hrow k he.symm)))
theorem o4 {ad:Addr} (h:S d e W base ok (.slice (some ad) n cap) xs) (z:α) (i:Int) (h0:0≤i) (h1:i < n) :
  ∃ (oki:Nat→Prop) (c:List Value),c.length = d.sz∧d.M W base oki (xs.getD i.toNat z) c∧(∀ j u,c[j]? = some u→W.cell? (ad.add (i.toNat * d.sz+j)) = some u)∧(∀ k,oki k→ok k∧some k≠(Value.slice (some ad) n cap).ownBlock) ∧
   ∀ {w1:World} {row:Option Nat} {x':α},W.grownBy w1 row→(∀ k,row = some k→oki k)→d.M w1 base oki x' c→S d e w1 base ok (.slice (some ad) n cap) (xs.set i.toNat x'):=by
 obtain ⟨g,rfl⟩:=uJ (xO h);obtain ⟨oki,c,hcl,hM,hcc,y,hH⟩:=yo h z i h0 h1;refine ⟨oki,c,hcl,hM,fun j u hu=>?_,fun k hk=>⟨(y k hk).1,fun he=>(y k hk).2 ?_⟩,fun hg hrow X=>yp (wV hH hg hrow) X (fun _ hk=>hk)⟩
 ·rw [uF,Nat.zero_add]
  exact hcc j u hu
 ·simpa [Value.ownBlock] using he
end
end Kd
end Go.Proofs.ag.aZ
end
section
namespace Go.Proofs.ag.aZ
open Go.RowKit
namespace Kd
structure Heap {α:Type} (d:Kd α):Prop where
 K:∀ {w w1:World} {x:α} {cs:List Value},(∀ k,k < w.heap.size→w1.heap[k]? = w.heap[k]?)→d.K w x cs→d.K w1 x cs
theorem tO {w w1:World} (hb:∀ k,k < w.heap.size→w1.heap[k]? = w.heap[k]?) {a:Addr} {v:Value} (h:w.cell? a = some v):w1.cell? a = some v:=by
 have:=hb a.block (World.block_lt_of_cell? w a h);simpa [World.cell?,this] using h
theorem Heap.C {α:Type} {d:Kd α} (hd:Heap d) {w w1:World} {A:Option Addr} {n:Nat} {xs:List α} (hb:∀ k,k < w.heap.size→w1.heap[k]? = w.heap[k]?) (h:d.C w A n xs):d.C w1 A n xs :=
 ⟨h.1,h.2.1,fun hn=>by
  obtain ⟨ad,e,hc⟩:=h.2.2 hn;refine ⟨ad,e,fun j p hj=>?_⟩;obtain ⟨c,hs,hr,hcell⟩:=hc j p hj;exact ⟨c,hs,hd.K hb hr,fun i u hu=>tO hb (hcell i u hu)⟩⟩
end Kd
def Kept (w W:World) (S:Nat→Prop):Prop:=w.heap.size≤W.heap.size∧∀ i,i < w.heap.size→¬ S i→W.heap[i]? = w.heap[i]?
section
variable {w W W2:World} {S S2 S':Nat→Prop}
theorem Kept.refl (w:World) (S:Nat→Prop):Kept w w S:=⟨Nat.le_refl _,fun _ _ _=>rfl⟩
theorem Kept.dn (h:Below w.heap.size w W) (S:Nat→Prop):Kept w W S:=⟨h.size,fun i hi _=>h.block i hi⟩
theorem Kept.mono (h:Kept w W S) (hs:∀ k,S k→S' k):Kept w W S':=⟨h.1,fun i hi hn=>h.2 i hi (fun hk=>hn (hs i hk))⟩
theorem Kept.uN (h:Kept w W S) (k:Kept W W2 S2) (hs:∀ k,S2 k→S k∨w.heap.size≤k):Kept w W2 S :=
 ⟨Nat.le_trans h.1 k.1,fun i hi hn=>(k.2 i (Nat.lt_of_lt_of_le hi h.1) (fun h2=>(hs i h2).elim hn (fun h3=>by omega))).trans (h.2 i hi hn)⟩
theorem Kept.jr {row:Option Nat} (hg:W.grownBy W2 row) (h:Kept w W S) (hr:∀ k,row = some k→S k∨w.heap.size≤k):Kept w W2 S :=
 h.uN (S2:=fun k=>row = some k) ⟨hg.size,fun i hi hn=>hg.block i hi (fun he=>hn he.symm)⟩ hr
theorem Kept.below (h:Kept w W S) (hb:Below W.heap.size W W2):Kept w W2 S:=h.uN (Kept.dn hb (fun _=>False)) (fun _ hk=>hk.elim)
theorem Kept.alloc (h:Kept w W S) (o:Obj):Kept w (W.alloc o) S:=h.below (e6 (Below.refl _ _) o)
theorem Kept.drew (h:Kept w W S):Kept w W.drew S:=h
theorem Kept.drewN (h:Kept w W S) (m:Nat):Kept w (W.drewN m) S:=h
theorem Kept.setCell (h:Kept w W S) {p:Addr} (hp:S p.block∨w.heap.size≤p.block) (u:Value):Kept w (W.setCell p u) S :=
 h.uN (S2:=fun k=>k = p.block) ⟨by simp [World.setCell],fun i _ hn=>Below.heap_setCell W p u i hn⟩ (fun k hk=>by rw [hk];exact hp)
theorem Kept.keep {g:Nat} (h:an w W g none) (k:Kept W W2 S2) (hs:∀ k,S2 k→w.heap.size≤k):an w W2 g none :=
 ⟨Nat.le_trans h.1 k.1,fun i hi hg hr=>(k.2 i (Nat.lt_of_lt_of_le hi h.1) (fun h2=>by have:=hs i h2;omega)).trans (h.2 i hi hg hr)⟩
theorem uO {g:Nat} {o:Obj} (hb:W.heap[g]? = some o) (hk:Kept W W2 S) (hne:¬ S g):W2.heap[g]? = some o:=(hk.2 g (kJ hb) hne).trans hb
end
end Go.Proofs.ag.aZ
end
section
namespace Go.Proofs.ag.aZ
open Go.RowKit
def o5 (P:World→Prop) (W:World) (ok:Nat→Prop):Prop:=∀ W':World,(∀ k,ok k→k < W.heap.size→W'.heap[k]? = W.heap[k]?)→P W'
theorem wW {W W1:World} {k:Nat} (h:W1.heap[k]? = W.heap[k]?) (hlt:k < W.heap.size):k < W1.heap.size:=by
 rw [Array.getElem?_eq_getElem hlt] at h;exact (Array.getElem?_eq_some_iff.1 h).1
namespace o5
variable {P Q:World→Prop} {W W1:World} {ok ok':Nat→Prop}
theorem now (h:o5 P W ok):P W:=h W (fun _ _ _=>rfl)
theorem mono (h:o5 P W ok) (hok:∀ k,ok k→ok' k):o5 P W ok':=fun W' hW=>h W' (fun k hk hlt=>hW k (hok k hk) hlt)
theorem step (h:o5 P W ok) (hm:∀ k,ok k→k < W.heap.size→W1.heap[k]? = W.heap[k]?):o5 P W1 ok:=fun W' hW=>h W' (fun k hk hlt=>(hW k hk (wW (hm k hk hlt) hlt)).trans (hm k hk hlt))
theorem imp (h:o5 P W ok) (hi:∀ W',P W'→Q W'):o5 Q W ok:=fun W' hW=>hi W' (h W' hW)
end o5
namespace Kd
def F {α:Type} (d:Kd α) (W:World) (ok:Nat→Prop) (A:Option Addr) (n:Nat) (xs:List α):Prop:=o5 (fun W=>d.C W A n xs) W ok
def FK {α:Type} (d:Kd α) (W:World) (ok:Nat→Prop) (x:α) (c:List Value):Prop:=o5 (fun W=>d.K W x c) W ok
section
variable {α β:Type} {d:Kd α} {e base n n' cc g N:Nat} {ok ok' okp S:Nat→Prop} {w w0 w1 W W1:World} {A A':Option Addr} {u v v1:Value} {xs:List α} {xs':List β} {d':Kd β} {x:α} {c:List Value}
theorem zg (d:Kd α) (W:World) (ok:Nat→Prop):F d W ok none ([]:List α).length []:=fun W' _=>z7 d W'
theorem wX (h:d.M W base ok x c):FK d W ok x c:=fun _ hW=>d.K_of_M (uC h hW)
end
end Kd
end Go.Proofs.ag.aZ
end
section
namespace Go.Proofs.ag.aZ
open Go.RowKit
namespace Kd
def chunks (sz:Nat) (n:Nat) (inner:List Value):List (List Value):=(List.range n).map fun j=>(inner.drop (j * sz)).take sz
theorem iy (sz n:Nat) (inner:List Value):(chunks sz n inner).length = n:=by simp [chunks]
theorem tP {sz n:Nat} {inner:List Value} {j:Nat} (hj:j < n):(chunks sz n inner)[j]? = some ((inner.drop (j * sz)).take sz):=by simp [chunks,hj]
theorem o6 {sz n:Nat} {inner:List Value} {j:Nat} {c:List Value} (h:(chunks sz n inner)[j]? = some c):c = (inner.drop (j * sz)).take sz:=by
 have hj:j < n:=by have:=(List.getElem?_eq_some_iff.1 h).1;rwa [iy] at this
 rw [tP hj] at h;injection h with h
 exact h.symm
theorem uP {α:Type} {Rr:α→List Value→Prop} {sz:Nat} {xs:List α} {inner:List Value} (h:cY Rr sz xs inner) (hR:∀ x c,Rr x c→c.length = sz∧∀ u∈c,u.oneCell' = true):cY (fun x cs=>cs = x∧cs.length = sz∧∀ u∈cs,u.oneCell' = true) sz (chunks sz xs.length inner) inner:=by
 refine ⟨by rw [iy];exact h.1,fun j p hj=>?_⟩;have hjl:j < xs.length:=by have:=(List.getElem?_eq_some_iff.1 hj).1;rwa [iy] at this
 have hp:=o6 hj;exact ⟨hp.symm,hR _ _ (h.2 j _ (List.getElem?_eq_getElem hjl))⟩
section
variable {α:Type} {d:Kd α} {e base n cc g:Nat} {ok ok' okp S:Nat→Prop} {w w1 W W1:World} {A:Option Addr} {u v v1:Value} {xs:List α} {x:α} {c:List Value}
def N {α:Type} (d:Kd α) (e:Nat) (w:World) (base:Nat) (ok:Nat→Prop) (v:Value) (xs:List α):Prop :=
 (∀ k,v.ownBlock = some k→ok k)∧∃ rows:List (List Value),rows.length = xs.length∧(raw d.sz).R e w base (fun k=>some k = v.ownBlock) v rows∧∀ (j:Nat) (x:α) (c:List Value),xs[j]? = some x→rows[j]? = some c→FK d w (fun k=>ok k∧some k≠v.ownBlock) x c
theorem Ap (h:d.R e w base ok v xs):N d e w base ok v xs:=by
 obtain ⟨h0,inner,ho,hr⟩:=h;refine ⟨h0,chunks d.sz xs.length inner,iy _ _ _,⟨fun k hk=>hk.symm,inner,by rw [iy];exact ho,uP hr (fun x c hp=>⟨d.K_len (d.K_of_M hp),d.K_one (d.K_of_M hp)⟩)⟩,fun j x c hx hc=>?_⟩;rw [o6 hc];exact wX (hr.2 j x hx)
theorem xR (d:Kd α) (e:Nat) (w:World) (base:Nat) (ok:Nat→Prop):N d e w base ok (.slice none 0 0) []:=Ap (ni _ _ _ _ _)
end
end Kd
end Go.Proofs.ag.aZ
end
section
namespace Go.Proofs.ag.bT
open Go.RowKit Go.Proofs.ag.aZ
namespace Kd
open Go.Proofs.ag.aZ.Kd
section
variable {α:Type} {d:Kd α} {e base g N:Nat} {ok:Nat→Prop} {W w1:World} {u v:Value} {xs:List α}
theorem rX (hu:d.R e W base (fun k=>ok k∧k≠g) u xs) (hk:an W w1 g none):d.R e w1 base (fun k=>ok k∧k < W.heap.size) u xs :=
 aQ (fB (ia hu) hk (fun _ h=>h.1.2)) (fun _ h=>⟨h.1.1,h.2.2.1⟩)
theorem rY (h:d.R e w1 base (fun k=>ok k∧k < N) u xs) (hbase:∀ k,v.ownBlock = some k→N≤k):d.R e w1 base (fun k=>(ok k∧some k≠v.ownBlock)∧k < N) u xs :=
 aQ h (fun k hk=>⟨⟨hk.1,fun e=>Nat.lt_irrefl _ (Nat.lt_of_lt_of_le hk.2 (hbase k e.symm))⟩,hk.2⟩)
end
end Kd
theorem js (k k':IntKind) (x y:Int):Builtin.max2 (.int k x) (.int k' y) = pure (.int k (if x < y then y else x)):=by simp only [Builtin.max2,gt_iff_lt]
theorem jt (k k':IntKind) (x y:Int):Builtin.min2 (.int k x) (.int k' y) = pure (.int k (if y < x then y else x)):=by simp only [Builtin.min2]
theorem kr (ats:Array TypeId) (ty:TypeId) (a b:Value):Builtin.max_ ats ty #[a,b] = (Builtin.max2 a b >>= fun s=>pure s):=by simp only [Builtin.max_,List.foldlM_cons,List.foldlM_nil]
theorem ku (ats:Array TypeId) (ty:TypeId) (a b:Value):Builtin.min_ ats ty #[a,b] = (Builtin.min2 a b >>= fun s=>pure s):=by simp only [Builtin.min_,List.foldlM_cons,List.foldlM_nil]
theorem iU (ats:Array TypeId) (ty:TypeId) (a b c:Value):Builtin.max_ ats ty #[a,b,c] = (Builtin.max2 a b >>= fun s=>Builtin.max2 s c >>= fun s=>pure s):=by simp only [Builtin.max_,List.foldlM_cons,List.foldlM_nil]
theorem iV (ats:Array TypeId) (ty:TypeId) (a b c:Value):Builtin.min_ ats ty #[a,b,c] = (Builtin.min2 a b >>= fun s=>Builtin.min2 s c >>= fun s=>pure s):=by simp only [Builtin.min_,List.foldlM_cons,List.foldlM_nil]
theorem ju (ats:Array TypeId) (ty:TypeId) (a b c d:Value):Builtin.max_ ats ty #[a,b,c,d] = (Builtin.max2 a b >>= fun s=>Builtin.max2 s c >>= fun s=>Builtin.max2 s d >>= fun s=>pure s):=by simp only [Builtin.max_,List.foldlM_cons,List.foldlM_nil]
theorem jv (ats:Array TypeId) (ty:TypeId) (a b c d:Value):Builtin.min_ ats ty #[a,b,c,d] = (Builtin.min2 a b >>= fun s=>Builtin.min2 s c >>= fun s=>Builtin.min2 s d >>= fun s=>pure s):=by simp only [Builtin.min_,List.foldlM_cons,List.foldlM_nil]
end Go.Proofs.ag.bT
namespace Go.Proofs.ag.aZ
open Go.RowKit
section
variable {P:Program} {ops:Array Oper} {rest:List Oper} {o:Oper} {a:Act} {Q:Exit→Act→World→Prop} {W:World}
theorem aD {f:FuncId} {as_q:Array Operand} {ts:Array TypeId} (_ho:o.op = .call { callee:=.value (.func f),args:=as_q,argTypes:=ts }) (h:wpList P ops Q (o :: rest) a W):wpList P ops Q (o :: rest) a W:=h
theorem cF {b:Builtin} {xs:Array Operand} {ts:Array TypeId} (_ho:o.op = .call { callee:=.builtin b,args:=xs,argTypes:=ts }) (h:wpList P ops Q (o :: rest) a W):wpList P ops Q (o :: rest) a W:=h
end
def shl (k:IntKind) (x y:Int):Int:=k.wrap (x * 2 ^ min y.toNat k.bits)
def shr (k:IntKind) (x y:Int):Int:=x / 2 ^ min y.toNat k.bits
theorem eX {k:IntKind} {x y j:Int} (h:shl k x y = j) (hy:y≤k.bits):k.wrap (x * 2 ^ y.toNat) = j:=by rw [← h];unfold shl;rw [Nat.min_eq_left (by omega)]
theorem oZ {k:IntKind} {x y j:Int} (h:shr k x y = j) (hy:y≤k.bits):x / 2 ^ y.toNat = j:=by rw [← h];unfold shr;rw [Nat.min_eq_left (by omega)]
theorem fu (w:World) (n:Nat):w.drewN n = w.drewN n:=rfl
namespace Kd
section
variable {α:Type} {d:Kd α} {e base:Nat} {ok:Nat→Prop} {W w1:World} {v:Value} {xs:List α}
theorem uQ (h:d.R e W base ok v xs) (hE:d.E = []) {g:Nat} (hne:some g≠v.ownBlock):d.R e W base (fun k=>ok k∧k≠g) v xs :=
 aQ (nE hE h) (fun k hk=>⟨h.1 k hk.symm,fun e_=>hne (by rw [← e_];exact hk)⟩)
end
end Kd
end Go.Proofs.ag.aZ
namespace Go.Proofs.ag.aZ
open Go.RowKit
namespace Kd
def V {α:Type} (d:Kd α) (_e:Nat) (W:World) (_base:Nat) (ok:Nat→Prop) (v:Value) (xs:List α):Prop:=∃ A c,v = .slice A xs.length c∧xs.length≤c∧F d W ok A xs.length xs
section
variable {α β:Type} {d:Kd α} {e base base' n m c g N' lo hi:Nat} {ok ok' S:Nat→Prop} {w W w1:World} {A:Option Addr} {ad:Addr} {u v v1:Value} {xs:List α}
theorem xS (d:Kd α) (e:Nat) (W:World) (base:Nat) (ok:Nat→Prop):V d e W base ok (.slice none 0 0) []:=⟨none,0,rfl,Nat.le_refl _,zg d W ok⟩
end
end Kd
end Go.Proofs.ag.aZ
end
section
namespace Go.Proofs.ag.bR
open Go.Proofs.ag.aZ (ae)
def lf (md:Region.Mode) (o:Oper):List Nat:=(o.after.toList.filter (fun e=>Region.binds md e)).map (fun e=>e.on)
def pX (md:Region.Mode) (ops:Array Oper) (i:Nat) (oi:Oper):List Nat:=(List.range ops.size).filter fun j=>!(j == i) && match ops[j]? with
  | some oj=>!(oj.after.any (fun e=>Region.binds md e && e.on == i) || oi.apart ops oj)
  | none=>false
def gv (md:Region.Mode) (ops:Array Oper):Bool×List (List Nat×List Nat):=(Region.noSelect ops,(List.range ops.size).map fun i=>match ops[i]? with
  | some o=>(lf md o,pX md ops i o)
  | none=>([],[]))
def jJ (T:List (List Nat×List Nat)) (l:List Bool) (i:Nat):Bool:=!l.getD i true && match T[i]? with
  | some r=>r.1.all (fun j=>l.getD j false)
  | none=>false
def o7 (T:List (List Nat×List Nat)) (l:List Bool):List Nat:=(List.range T.length).filter (jJ T l)
def qQ (T:List (List Nat×List Nat)) (l:List Bool) (i:Nat):Bool:=match T[i]? with
  | some r=>r.2.all (fun j=>l.getD j true)
  | none=>false
def nF (T:List (List Nat×List Nat)) (l:List Bool):Bool:=(List.range T.length).all fun j=>!l.getD j false || match T[j]? with
  | some r=>r.1.all (fun k=>l.getD k false)
  | none=>true
def mP (T:List (List Nat×List Nat)) (i:Nat):Nat→Nat→Bool
  | 0,_=>false
  | fuel+1,d=>match T[d]? with
    | some r=>r.1.any fun j=>j == i || mP T i fuel j
    | none=>false
def sQ (T:List (List Nat×List Nat)) (l:List Bool) (ds:List Nat) (i:Nat):Bool:=ds.all fun d=>l.getD d true || mP T i T.length d
section
variable {md:Region.Mode} {ops:Array Oper} {T:Bool×List (List Nat×List Nat)} {l l' li lj lk:Array Bool} {ds:List Nat} {i j k:Nat}
theorem gd (l:Array Bool) (j:Nat) (b:Bool):l.getD j b = l.toList.getD j b:=by simp [Array.getD_eq_getD_getElem?,List.getD_eq_getElem?_getD]
theorem p4 (o:Oper) (p:Nat→Bool):o.after.all (fun e=>!Region.binds md e || p e.on) = (lf md o).all p:=by
 unfold lf;rw [← Array.all_toList];induction o.after.toList with
 | nil=>rfl
 | cons e r ih =>
  rw [List.all_cons,ih,List.filter_cons];cases h:Region.binds md e <;> simp
theorem tQ (o:Oper) (p:Nat→Bool):o.after.any (fun e=>Region.binds md e && p e.on) = (lf md o).any p:=by
 unfold lf;rw [← Array.any_toList];induction o.after.toList with
 | nil=>rfl
 | cons e r ih =>
  rw [List.any_cons,ih,List.filter_cons];cases h:Region.binds md e <;> simp
theorem jK:(gv md ops).2.length = ops.size:=by simp [gv]
theorem lg {o:Oper} (h:ops[i]? = some o):(gv md ops).2[i]? = some (lf md o,pX md ops i o):=by
 have hi:=(Array.getElem?_eq_some_iff.1 h).1;unfold gv;rw [List.getElem?_map,List.getElem?_range hi,Option.map_some,h]
theorem lp (h:ops[i]? = none):(gv md ops).2[i]? = none:=by
 have hi:ops.size≤i:=Array.getElem?_eq_none_iff.1 h;exact List.getElem?_eq_none (by rw [jK];exact hi)
theorem rZ:jJ (gv md ops).2 l.toList i = (!l.getD i true && ((ops[i]?).map (·.after.all fun e=>!Region.binds md e || l.getD e.on false)).getD false):=by
 unfold jJ;rw [gd];cases h:ops[i]? with
 | none=>rw [lp h];rfl
 | some o =>
  rw [lg h];simp only [Option.map_some,Option.getD_some];rw [← p4];simp only [gd]
theorem o8:Region.ready md ops l = o7 (gv md ops).2 l.toList:=by
 unfold Region.ready o7;rw [jK];refine List.filter_congr (fun i _=>?_);rw [rZ]
theorem sR:Region.free md ops l i = qQ (gv md ops).2 l.toList i:=by
 unfold Region.free qQ;cases h:ops[i]? with
 | none=>rw [lp h]
 | some oi =>
  rw [lg h];simp only [pX];rw [List.all_filter];congr 1
  funext j
  rw [gd];cases hj:ops[j]? with
  | none=>cases (j == i) <;> cases (l.toList.getD j true) <;> simp
  | some oj =>
   cases (j == i) <;> cases (l.toList.getD j true) <;> cases (oj.after.any (fun e=>Region.binds md e && e.on == i) || oi.apart ops oj) <;> simp_all
theorem tR:Region.m9 md ops l = nF (gv md ops).2 l.toList:=by
 unfold Region.m9 nF;rw [jK];congr 1
 funext j
 rw [gd];cases h:ops[j]? with
 | none=>rw [lp h]
 | some o =>
  rw [lg h];simp only;rw [← p4];simp only [gd]
theorem qR:∀ (fuel d:Nat),Region.je md ops i fuel d = mP (gv md ops).2 i fuel d
 | 0,_=>rfl
 | fuel+1,d=>by
  unfold Region.je mP;cases h:ops[d]? with
  | none=>rw [lp h]
  | some o =>
   rw [lg h];simp only;rw [← tQ];congr 1
   funext e
   rw [qR fuel]
theorem wY:Region.sP md ops l ds i = sQ (gv md ops).2 l.toList ds i:=by
 unfold Region.sP sQ;rw [jK];congr 1
 funext d
 rw [gd,qR]
theorem nm (h:jJ T.2 l.toList i = true) (hT:gv md ops = T):(Region.ready md ops l).contains i = true:=by
 subst hT;rw [o8];unfold o7;rw [List.contains_iff_mem,List.mem_filter,List.mem_range];refine ⟨?_,h⟩;unfold jJ at h;rw [Bool.and_eq_true] at h;cases hq:(gv md ops).2[i]? with
 | none=>rw [hq] at h;simp at h
 | some r=>exact (List.getElem?_eq_some_iff.1 hq).1
theorem s4 (h:(l.toList.set i true == l'.toList) = true):(l.setIfInBounds i true == l') = true:=by
 rw [beq_iff_eq] at h ⊢;apply Array.ext'
 rw [Array.toList_setIfInBounds];exact h
def yt (T:Bool×List (List Nat×List Nat)) (l l':List Bool) (i:Nat):Bool:=T.1 && qQ T.2 l i && jJ T.2 l i && (l.set i true == l')
theorem cV (hT:gv md ops = T) (h:yt T l.toList l'.toList i = true):wS md ops l l' i = true:=by
 simp only [yt,Bool.and_eq_true] at h;obtain ⟨⟨⟨h1,h2⟩,h3⟩,h4⟩:=h;have h5:=nm h3 hT;have j:=s4 h4;subst hT;simp only [wS,Bool.and_eq_true];exact ⟨⟨⟨h1,by rw [sR];exact h2⟩,h5⟩,j⟩
def uR (T:Bool×List (List Nat×List Nat)) (ds:List Nat) (l l':List Bool) (i:Nat):Bool:=T.1 && qQ T.2 l i && jJ T.2 l i && nF T.2 l && sQ T.2 l ds i && (l.set i true == l')
theorem wZ (hT:gv md ops = T) (h:uR T ds l.toList l'.toList i = true):qN md ops ds l l' i = true:=by
 simp only [uR,Bool.and_eq_true] at h;obtain ⟨⟨⟨⟨⟨h1,h2⟩,h3⟩,h4⟩,h5⟩,j⟩:=h;have y:=nm h3 hT;have z:=s4 j;subst hT;simp only [qN,Bool.and_eq_true];exact ⟨⟨⟨⟨⟨h1,by rw [sR];exact h2⟩,y⟩,by rw [tR];exact h4⟩,by rw [wY];exact h5⟩,z⟩
theorem cH (hT:gv md ops = T) (h:(o7 T.2 l.toList == [i] && l.toList.set i true == l'.toList) = true):mN md ops l l' i = true:=by
 simp only [Bool.and_eq_true] at h;obtain ⟨h1,h2⟩:=h;subst hT;simp only [mN,Bool.and_eq_true];exact ⟨by rw [o8];exact h1,s4 h2⟩
theorem e9 (hT:gv md ops = T) (h:(o7 T.2 l.toList == []) = true):(Region.ready md ops l == []) = true:=by
 subst hT;rw [o8];exact h
def yu (B:List Nat) (d:Nat):List Nat→Nat
 | []=>0
 | n :: r=>(2 ^ n ||| (if n < d then B.getD n 0 else 0)) ||| yu B d r
def eN (T:List (List Nat×List Nat)) (B:List Nat):Bool:=(List.range T.length).all fun d=>match T[d]? with
  | some r=>(B.getD d 0 ||| yu B d r.1) == yu B d r.1
  | none=>false
theorem sS {B:List Nat} {d i:Nat}:∀ {ns:List Nat},(yu B d ns).testBit i = true→∃ n∈ns,n = i∨(n < d∧(B.getD n 0).testBit i = true)
 | [],h=>by simp [yu] at h
 | n :: r,h=>by
  unfold yu at h;rw [Nat.testBit_or,Nat.testBit_or,Bool.or_eq_true,Bool.or_eq_true] at h;rcases h with (h | h) | h
  ·rw [Nat.testBit_two_pow] at h
   exact ⟨n,List.mem_cons_self,.inl (by simpa using h)⟩
  ·by_cases hn:n < d
   ·rw [if_pos hn] at h
    exact ⟨n,List.mem_cons_self,.inr ⟨hn,h⟩⟩
   ·rw [if_neg hn] at h
    simp at h
  ·obtain ⟨m,hm,h2⟩:=sS h
   exact ⟨m,List.mem_cons_of_mem _ hm,h2⟩
theorem p5 {T:List (List Nat×List Nat)} {B:List Nat} (hB:eN T B = true):∀ (fuel d:Nat),d < fuel→d < T.length→(B.getD d 0).testBit i = true→mP T i fuel d = true
 | 0,d,h,_,_=>by omega
 | fuel+1,d,h,hd,hb=>by
  have h1:=List.all_eq_true.1 hB d (List.mem_range.2 hd);cases hr:T[d]? with
  | none=>rw [hr] at h1;simp at h1
  | some r =>
   rw [hr] at h1;simp only [beq_iff_eq] at h1;have h2:(yu B d r.1).testBit i = true:=by rw [← h1,Nat.testBit_or,hb,Bool.true_or]
   obtain ⟨n,hn,h3⟩:=sS h2;unfold mP;rw [hr];simp only;rw [List.any_eq_true];refine ⟨n,hn,?_⟩;rcases h3 with rfl | ⟨h4,h5⟩
   ·simp
   ·rw [p5 hB fuel n (by omega) (by omega) h5,Bool.or_true]
def xT (T:List (List Nat×List Nat)) (B:List Nat) (l:List Bool) (ds:List Nat) (i:Nat):Bool:=ds.all fun d=>l.getD d true || (decide (d < T.length) && (B.getD d 0).testBit i)
def uS (T:Bool×List (List Nat×List Nat)) (B:List Nat) (ds:List Nat) (l l':List Bool) (i:Nat):Bool:=T.1 && qQ T.2 l i && jJ T.2 l i && nF T.2 l && xT T.2 B l ds i && (l.set i true == l')
theorem kK {B:List Nat} (hT:gv md ops = T) (hB:eN T.2 B = true) (h:uS T B ds l.toList l'.toList i = true):qN md ops ds l l' i = true:=by
 refine wZ hT ?_;simp only [uS,uR,Bool.and_eq_true] at h ⊢;obtain ⟨⟨⟨⟨⟨h1,h2⟩,h3⟩,h4⟩,h5⟩,z⟩:=h;refine ⟨⟨⟨⟨⟨h1,h2⟩,h3⟩,h4⟩,?_⟩,z⟩;unfold xT at h5;unfold sQ;rw [List.all_eq_true] at h5 ⊢;intro d hd;have j:=h5 d hd;rw [Bool.or_eq_true,Bool.and_eq_true,decide_eq_true_eq] at j;rcases j with j | ⟨y,X⟩
 ·rw [j,Bool.true_or]
 ·rw [p5 hB _ d y y X,Bool.or_true]
theorem da {P:Program} {Q:Exit→Act→World→Prop} {S:World→Prop} {n:Nat} {a:Act} {w:World} {B:List Nat} (hT:gv md ops = T) (hB:eN T.2 B = true) (h:ae (gv md ops = T)→ae (eN T.2 B = true)→cR P md ops Q S ds n l a w):cR P md ops Q S ds n l a w:=h ⟨hT⟩ ⟨hB⟩
end
def lI:Code→Nat→Option (Array Oper)
  | .region id ops _,k=>if id == k then some ops else none
  | .seq a b,k=>match lI a k with
    | some o=>some o
    | none=>lI b k
  | .cond _ a b,k=>match lI a k with
    | some o=>some o
    | none=>lI b k
  | .block _ c,k=>lI c k
  | .loop c,k=>lI c k
  | .scope c,k=>lI c k
  | .rangeFunc _ _ a b,k=>match lI a k with
    | some o=>some o
    | none=>lI b k
  | _,_=>none
def opsOf (f:Func) (k:Nat):Array Oper:=((f.body.bind fun c=>lI c k)).getD #[]
end Go.Proofs.ag.bR
end
namespace Go.Proofs.YtlfkfdmggpipbaaGreat
section
namespace af
open Go.RowKit ag.aZ ag.bR ag.bT
structure nA (P:Program) (W:World) (fv:Value) (g:Int→Option Bool):Prop where
 mk :: (out:∃ (f:Nat) (caps:Array Value) (fn:Func),fv = .func (.func f) #[] caps∧P.funcs[f]? = some fn∧(fn.name == "runtime.NumGoroutine") = false∧fn.body.isSome = true ∧
  ∀ (s:Int) (b:Bool) (w:World),Below W.heap.size W w→g s = some b→Calls P f (#[.int .i64 s] ++ caps) w fun e w'=>e = .returned (.bool b)∧Below w.heap.size w w')
theorem nA.below {P:Program} {W W1:World} {fv:Value} {g:Int→Option Bool} (h:nA P W fv g) (hb:Below W.heap.size W W1):nA P W1 fv g:=by
 obtain ⟨f,caps,fn,h1,h2,h3,h4,h5⟩:=h.out;exact ⟨⟨f,caps,fn,h1,h2,h3,h4,fun s b w hw hg=>h5 s b w (nQ hb hb.size hw) hg⟩⟩
theorem pY {P:Program} {ops:Array Oper} {Q:Exit→Act→World→Prop} {rest:List Oper} {oi:Oper} {a:Act} {W w:World} {fv:Value} {g:Int→Option Bool} {s:Int} {b:Bool} (N:Option Tmp) (hd:oi.dst = N) (hg:oi.guard = none) (t:Tmp) {ars:Array Operand} {ts:Array TypeId}
  (hop:oi.op = .call { callee:=.value (.tmp t),args:=ars,argTypes:=ts }) (hF:nA P W fv g) (hb:g s = some b) (hB:Below W.heap.size W w) (hv:a.eval (.tmp t) = fv) (hargs:ars.map a.eval = #[.int .i64 s])
  (h:∀ w',Below w.heap.size w w'→wpList P ops Q rest (a.put N (.bool b)) w'):wpList P ops Q (oi :: rest) a w:=by
 obtain ⟨f,caps,fn,rfl,hf,hname,hbody,hc⟩:=hF.out;refine wpList_plain hg fun K hK=>?_
 have he:=pV hf hname hbody (#[.int .i64 s] ++ caps) w;have hrun:(execOp a.eval oi).run P w = .ok (.enter f (#[.int .i64 s] ++ caps)) w:=by
  unfold execOp;simp [hop,resolve,Deferred.ofValue,invoke,hv,hargs];simpa using he
 unfold Oper.wp;rw [hrun,Oper.upon_enter];refine (hc s b w hB hb).mono fun e w'' hh=>?_
 obtain ⟨rfl,hk⟩:=hh;subst hd;exact hK _ _ (h _ hk)
class iO (W W':World):Prop where
 h:Below W.heap.size W W'
instance (W:World):iO W W:=⟨Below.refl _ _⟩
instance (W V:World) (o:Obj) [a:iO W V]:iO W (V.alloc o):=⟨e6 a.h o⟩
instance (W V:World) (n:Nat) [a:iO W V]:iO W (V.drewN n):=⟨dX a.h n⟩
instance (W V:World) [a:iO W V]:iO W V.drew:=⟨bP a.h⟩
theorem Rw {α:Type} {d:Kd α} {e:Nat} {W W':World} {base:Nat} {ok:Nat→Prop} {v:Value} {xs:List α} (h:Kd.R d e W base ok v xs) [a:iO W W']:Kd.R d e W' base ok v xs:=Kd.dG h a.h
theorem Sw {α:Type} {d:Kd α} {e:Nat} {W W':World} {base:Nat} {ok:Nat→Prop} {v:Value} {xs:List α} (h:Kd.S d e W base ok v xs) [a:iO W W']:Kd.S d e W' base ok v xs:=Kd.eM h a.h
theorem Cw {α:Type} {d:Kd α} {W W':World} {A:Option Addr} {n:Nat} {xs:List α} (h:Kd.C d W A n xs) [a:iO W W']:Kd.C d W' A n xs:=Kd.aN h a.h
theorem Bw {W W':World} {g:Nat} {o:Obj} (h:W.heap[g]? = some o) [a:iO W W']:W'.heap[g]? = some o:=b6 h a.h
theorem Lw {w W W':World} (h:Below w.heap.size w W) [a:iO W W']:Below w.heap.size w W':=aq h a.h
theorem O {p:Prop} (h:ae p:=by assumption):p:=h.out
theorem D {p:Prop} [Decidable p] (h:decide p = true:=by first | (with_reducible assumption) | assumption):p:=of_decide_eq_true h
theorem E {p:Prop} (h:p:=by first | rfl | (simp [fD,fE] <;> rfl) | (simp [*,fD,fE] <;> rfl)):p:=h
theorem F {p:Prop} (h:p:=by first | rfl | (simp;done) | (simp [*];done)):p:=h
theorem G {p:Prop} (h:p:=by repeat (first | exact cT.refl _ | apply cT.step)):p:=h
theorem Z {p:Prop} (h:p:=by first | with_reducible exact H | (have H2_:=(Option.bind_some _ _).symm.trans H;with_reducible exact H2_) | exact H):p:=h
theorem ip {c:Prop} [Decidable c] {α:Type} {t:Option α} {r:α} (h:(if c then t else none) = some r):c∧t = some r:=by
 by_cases hc:c
 ·rw [if_pos hc] at h;exact ⟨hc,h⟩
 ·rw [if_neg hc] at h;cases h
theorem be {α β:Type} {x:Option α} {f:α→Option β} {b:β} (h:x.bind f = some b):∃ a,ae (x = some a)∧f a = some b:=by
 obtain ⟨a,h1,h2⟩:=Option.bind_eq_some_iff.mp h;exact ⟨a,⟨h1⟩,h2⟩
theorem W {p:Prop} (h:p:=by first | exact ⟨rfl,_,World.drewN_drewN _ _ _⟩ | exact ⟨rfl,_,Eq.trans (World.drewN_drewN _ _ _) (congrArg (World.drewN _) (Nat.add_assoc _ _ _))⟩):p:=h
theorem N {p:Prop} (h:p:=by first | exact Kd.ni _ _ _ _ _ | exact Kd.xR _ _ _ _ _ | exact Kd.xS _ _ _ _ _ | exact Kd.xN _ _ _ _ _ | exact Kd.xP _ _ _ _ _):p:=h
theorem L {p:Prop} (h:p:=by repeat (first | (with_reducible first | exact af.O | apply e6 | apply dX | apply bP | refine dY ?_ af.O) | exact af.O)):p:=h
theorem fr {W:World} {g:Nat} {o:Obj} {p:Addr} {u:Value} (h:W.heap[g]? = some o) (hp:g≠p.block):(W.setCell p u).heap[g]? = some o:=(Below.heap_setCell W p u g hp).trans h
theorem B {p:Prop} (h:p:=by repeat (first | (with_reducible first | exact af.O | apply iR | apply cM | apply hY | refine af.fr ?_ af.O) | apply gA | rfl)):p:=h
theorem I {p:Prop} (h:p:=by repeat (first | (with_reducible first | exact af.O | apply aG.alloc | apply aG.drewN | apply aG.drew | apply aG.zi | apply aG.zj | refine aG.Ar ?_ af.O _) | exact af.O)):p:=h
theorem J {w W W':World} (_h:ae (Below w.heap.size w W)) (k:Below w.heap.size w W':=by repeat (first | (with_reducible first | exact af.O | apply e6 | apply dX | apply bP | refine dY ?_ af.O | refine dY ?_ (aG.ge af.O)) | exact af.O)):Below w.heap.size w W':=k
theorem K {w W W':World} {g:Nat} {row:Option Nat} (_h:ae (an w W g row)) (k:an w W' g row:=by repeat (first | (with_reducible first | exact af.O | apply an.z1 | apply rT | apply mM | apply rU | refine uH ?_ af.O _) | exact af.O)):an w W' g row:=k
theorem ai {k:IntKind} {w:World} {A:Option Addr} {n:Nat} {xs:List Int} (h:(Kd.int k).C w A n xs) (i:Int) (p:0≤i:=by exact af.D) (q:i < n:=by exact af.D):∃ ad,A = some ad∧w.cell? (ad.add i.toNat) = some (.int k (rd xs i))∧(0≤i) = True∧(i < (n:Int)) = True:=by
 obtain ⟨ad,h1,h2⟩:=Kd.fC h i p q;exact ⟨ad,h1,h2,eq_true p,eq_true q⟩
theorem gw {w W W':World} {g:Nat} (hg:g = W'.heap.size) (h:ae (Below w.heap.size w W)) [iO W W']:ae (w.heap.size≤g):=⟨by rw [hg];exact ak (Lw h.out)⟩
theorem gL {w W':World} {g:Nat} (hg:g = W'.heap.size) (h:Below w.heap.size w W'):ae (w.heap.size≤g):=⟨by rw [hg];exact ak h⟩
theorem nl {W W':World} {g g':Nat} {o:Obj} (hg:g' = W'.heap.size) (h:ae (W.heap[g]? = some o)) [iO W W']:ae (g≠g'):=⟨by rw [hg];exact Nat.ne_of_lt (kJ (Bw h.out))⟩
theorem ng {W W':World} {g g':Nat} {o:Obj} (hg:g' = W'.heap.size) (h:ae (W.heap[g]? = some o)) [iO W W']:ae (g'≠g):=⟨by rw [hg];exact Nat.ne_of_gt (kJ (Bw h.out))⟩
theorem bb {W W' W2:World} {g:Nat} {o:Obj} (h:ae (W.heap[g]? = some o)) (hb:Below W'.heap.size W' W2) [iO W W']:ae (W2.heap[g]? = some o):=⟨b6 (Bw h.out) hb⟩
theorem lb {w W W' W2:World} (h:ae (Below w.heap.size w W)) (hb:Below W'.heap.size W' W2) [iO W W']:ae (Below w.heap.size w W2):=⟨aq (Lw h.out) hb⟩
theorem rb {α:Type} {d:Kd α} {e:Nat} {W W' W2:World} {base:Nat} {ok:Nat→Prop} {v:Value} {xs:List α} (h:ae (Kd.R d e W base ok v xs)) (hb:Below W'.heap.size W' W2) [iO W W']:ae (Kd.R d e W2 base ok v xs):=⟨Kd.dG (Rw h.out) hb⟩
section
variable {P:Program} {ops:Array Oper} {rest:List Oper} {a:Act} {Q:Exit→Act→World→Prop}
theorem gl {o:Oper} {w:World} (N:Option Tmp) {f:FuncId} {fn:Func} {as_q:Array Operand} {ts:Array TypeId} (hf:P.funcs[f]? = some fn) (args:Array Value)
  (h:Calls P f args w fun e w'=>∃ v,e = .returned v∧wpList P ops Q rest (a.put N v) w') (hd:o.dst = N:=by with_reducible rfl) (hop:o.op = .call { callee:=.value (.func f),args:=as_q,argTypes:=ts }:=by with_reducible rfl) (hg:o.guard = none:=by rfl)
  (hname:(fn.name == "runtime.NumGoroutine") = false:=by kernel_rfl) (hb:fn.body.isSome = true:=by rfl) (hargs:as_q.map a.eval = args:=by (try simp only [List.map_toArray,List.map_cons,List.map_nil]);first | done | rfl):wpList P ops Q (o :: rest) a w:=uI N hd hg hf hname hb args hop hargs h
theorem bx {o:Oper} {W:World} (N:Tmp) (cs:Array Value) (t:TypeId)
  (h:∀ g,g = W.heap.size→∀ w1,w1.heap[g]? = some (.cells cs t (0,0))→Below W.heap.size W w1→wpList P ops Q rest (a.put o.dst (.pointer (some ⟨g,0,none⟩))) w1) (hd:o.dst = some N:=by with_reducible rfl) (hgd:o.guard = none:=by rfl)
  (hrun:(execOp a.eval o).run P W = .ok (.value (.pointer (some ⟨W.heap.size,0,none⟩))) (W.alloc (.cells cs t (0,0))):=by first | (go_simp;done) | (go_simp;rfl)):wpList P ops Q (o :: rest) a W:=fg hgd hd hrun h
theorem lt {o:Oper} {α:Type} (d:Kd α) {W:World} (e:Nat) (N:Tmp)
  (h:∀ v1 w1,d.R e w1 W.heap.size (fun _=>True) v1 []→Below W.heap.size W w1→W.grownBy w1 none→(∃ b,v1.ownBlock = some b∧W.heap.size≤b)→wpList P ops Q rest (a.put o.dst v1) w1) (hd:o.dst = some N:=by with_reducible rfl) (hgd:o.guard = none:=by rfl)
  (hrun:(execOp a.eval o).run P W = .ok (.value (.slice (some ⟨W.heap.size,0,none⟩) 0 0)) (W.alloc (.cells #[] e)):=by first | (go_simp;done) | (go_simp;rfl)):wpList P ops Q (o :: rest) a W :=
 Kd.jW d _ e hgd hd (xs:=[]) (inner:=[]) (ok:=fun _=>True) (okp:=fun _=>True) hrun (cY.none _ _) (fun _ hk=>hk) trivial (Below.refl _ _) (Nat.le_refl _) (by simp) h
end
section
variable {P:Program} {md:Region.Mode} {ops:Array Oper} {Q:Exit→Act→World→Prop} {S:World→Prop} {ds:List Nat} {T:Bool×List (List Nat×List Nat)} {B:List Nat} {oi:Oper} {v:Value} {fuel:Nat} {l l':Array Bool} {a a':Act} {w:World}
theorem pu (i:Nat) (N:Tmp) (HT:ae (gv md ops = T)) (h:cR P md ops Q S ds fuel l' a' w) (hi:ops[i]? = some oi:=by rfl) (hN:oi.dst = some N:=by rfl) (_hl:l.setIfInBounds i true = l':=by simp only [List.setIfInBounds_toArray,List.set_cons_zero,List.set_cons_succ];rfl)
  (hc:yt T l.toList l'.toList i = true:=by kernel_rfl) (hQ:∀ c a w,Q (.panic c) (a.put oi.dst v) w→Q (.panic c) a w:=by exact fun _ _ _ h=>h)
  (hy:Yields P ops oi v a:=by exact Or.inl ⟨by rfl,by intro w';go_simp;with_reducible rfl⟩) (ha:a.put (some N) v = a':=by simp only [Act.put,List.setIfInBounds_toArray,List.set_cons_zero,List.set_cons_succ,b7,bC];rfl):cR P md ops Q S ds (fuel+1) l a w :=
 dK l' hi hN (cV HT.out hc) hQ hy ha h
theorem tk (i:Nat) (N:Tmp) (HT:ae (gv md ops = T)) (HW:ae (eN T.2 B = true)) (hS:S w) (h:cR P md ops Q S ds fuel l' a' w) (hi:ops[i]? = some oi:=by rfl) (hN:oi.dst = some N:=by rfl) (_hl:l.setIfInBounds i true = l':=by simp only [List.setIfInBounds_toArray,List.set_cons_zero,List.set_cons_succ];rfl)
  (hc:uS T B ds l.toList l'.toList i = true:=by kernel_rfl) (hQ:∀ c a w,Q (.panic c) (a.put oi.dst v) w→Q (.panic c) a w:=by exact fun _ _ _ h=>h)
  (hy:YieldsIf P ops S oi v a:=by exact Or.inl ⟨by rfl,by intro w' hs;(repeat (obtain ⟨_,hs⟩:=hs));go_simp;with_reducible rfl⟩) (ha:a.put (some N) v = a':=by simp only [Act.put,List.setIfInBounds_toArray,List.set_cons_zero,List.set_cons_succ,b7,bC];rfl):cR P md ops Q S ds (fuel+1) l a w :=
 m6 l' hi hN (kK HT.out HW.out hc) hQ hy hS ha h
end
theorem bS {W:World} {g:Nat} {a b:Value} {t:Nat} (h:W.heap[g]? = some (.cells #[a,b] t (0,0))):W.cell? ⟨g,0,none⟩ = some a∧W.cell? ⟨g,1,none⟩ = some b∧W.frozen? ⟨g,0,none⟩ = false∧W.frozen? ⟨g,1,none⟩ = false:=⟨(ah h 0).trans rfl,(ah h 1).trans rfl,aj h 0,aj h 1⟩
theorem pZ {W:World} {g:Nat} {a b c:Value} {t:Nat} (h:W.heap[g]? = some (.cells #[a,b,c] t (0,0))):W.cell? ⟨g,0,none⟩ = some a∧W.cell? ⟨g,1,none⟩ = some b∧W.cell? ⟨g,2,none⟩ = some c∧W.frozen? ⟨g,0,none⟩ = false∧W.frozen? ⟨g,1,none⟩ = false∧W.frozen? ⟨g,2,none⟩ = false:=⟨(ah h 0).trans rfl,(ah h 1).trans rfl,(ah h 2).trans rfl,aj h 0,aj h 1,aj h 2⟩
class Mo {α:Type} (a b:Option α):Prop where out:gW a b
theorem mz {α:Type} {a b:Option α} (h:a = none):Mo a b:=⟨by rw [h];exact gW.none _⟩
theorem mt {α:Type} {a b:Option α} (h:gW a b:=by with_reducible repeat' first | exact gW.refl _ | refine gW.bind ?_ fun _=>?_ | refine gW.ite ?_ ?_ | exact af.Mo.out | exact gW.none _ | intro _):gW a b:=h
abbrev V1 {α0 β:Type} (F:Nat→α0→Option β):Prop:=∀ y0 k,Mo (F k y0) (F (k+1) y0)
abbrev S2 {α0 α1 β:Type} (F:Nat→α0→α1→Option β) (k:Nat):Prop:=∀ y0 y1,Mo (F k y0 y1) (F (k+1) y0 y1)
abbrev V2 {α0 α1 β:Type} (F:Nat→α0→α1→Option β):Prop:=∀ y0 y1 k,Mo (F k y0 y1) (F (k+1) y0 y1)
abbrev S3 {α0 α1 α2 β:Type} (F:Nat→α0→α1→α2→Option β) (k:Nat):Prop:=∀ y0 y1 y2,Mo (F k y0 y1 y2) (F (k+1) y0 y1 y2)
abbrev V3 {α0 α1 α2 β:Type} (F:Nat→α0→α1→α2→Option β):Prop:=∀ y0 y1 y2 k,Mo (F k y0 y1 y2) (F (k+1) y0 y1 y2)
abbrev S4 {α0 α1 α2 α3 β:Type} (F:Nat→α0→α1→α2→α3→Option β) (k:Nat):Prop:=∀ y0 y1 y2 y3,Mo (F k y0 y1 y2 y3) (F (k+1) y0 y1 y2 y3)
abbrev S5 {α0 α1 α2 α3 α4 β:Type} (F:Nat→α0→α1→α2→α3→α4→Option β) (k:Nat):Prop:=∀ y0 y1 y2 y3 y4,Mo (F k y0 y1 y2 y3 y4) (F (k+1) y0 y1 y2 y3 y4)
abbrev V5 {α0 α1 α2 α3 α4 β:Type} (F:Nat→α0→α1→α2→α3→α4→Option β):Prop:=∀ y0 y1 y2 y3 y4 k,Mo (F k y0 y1 y2 y3 y4) (F (k+1) y0 y1 y2 y3 y4)
abbrev S6 {α0 α1 α2 α3 α4 α5 β:Type} (F:Nat→α0→α1→α2→α3→α4→α5→Option β) (k:Nat):Prop:=∀ y0 y1 y2 y3 y4 y5,Mo (F k y0 y1 y2 y3 y4 y5) (F (k+1) y0 y1 y2 y3 y4 y5)
end af
end
end Go.Proofs.YtlfkfdmggpipbaaGreat
namespace Go.Proofs.YtlfkfdmggpipbaaGreat
abbrev ac:=@af.Rw
abbrev ws:=@af.gl
abbrev wt:=@af.pu
abbrev ww:=@af.F
abbrev wx:=@af.Lw
abbrev wy:=@af.L
abbrev xa:=@af.be
abbrev xc:=@af.bb
abbrev xf:=@af.Bw
abbrev xi:=@af.lb
abbrev xr:=@af.I
abbrev xt:=@af.ip
abbrev xv:=@af.bS
abbrev y6:=@af.K
abbrev yi:=@af.Cw
abbrev yk:=@af.D
abbrev yr:=@af.J
abbrev yv:=@af.gw
abbrev z2:=@af.rb
abbrev zd:=@af.E
abbrev zp:=@af.bx
abbrev zt:=@af.G
abbrev At:=@af.ai
abbrev AC:=@af.Z
abbrev AE:=@af.B
abbrev AF:=@af.tk
abbrev AG:=@af.Sw
abbrev AH:=@af.W
abbrev AI:=@af.mt
abbrev AJ:=@af.nl
abbrev AK:=@af.ng
abbrev AL:=@af.lt
abbrev AM:=@af.gL
abbrev AN:=@af.mz
end Go.Proofs.YtlfkfdmggpipbaaGreat
section
namespace Go.Proofs.ag.aZ
theorem cY.one {α:Type} {R:α→List Value→Prop} {ps:List α} {cs:List Value} {p:α} {v:Value} (hp:R p [v]) (h:cY R 1 ps cs):cY R 1 (p :: ps) (v :: cs):=by
 refine ⟨by simp [h.1],fun j q hq=>?_⟩;cases j with
 | zero =>
  simp only [List.getElem?_cons_zero,Option.some.injEq] at hq;subst hq;simpa using hp
 | succ j =>
  simp only [List.getElem?_cons_succ] at hq;have h1:=h.2 j q hq;simpa [Nat.mul_one] using h1
theorem cY.front {α:Type} {R:α→List Value→Prop} {size:Nat} {ps:List α} {cs c all:List Value} {p:α} (hp:R p c) (hc:c.length = size) (h:cY R size ps cs) (ha:c ++ cs = all):cY R size (p :: ps) all:=by
 subst ha;refine ⟨by rw [List.length_append,hc,h.1,List.length_cons,Nat.succ_mul,Nat.add_comm],fun j q hq=>?_⟩;cases j with
 | zero =>
  simp only [List.getElem?_cons_zero,Option.some.injEq] at hq;subst hq;rw [Nat.zero_mul,List.drop_zero,List.take_append_of_le_length (by omega),List.take_of_length_le (by omega)];exact hp
 | succ j =>
  simp only [List.getElem?_cons_succ] at hq;have h1:=h.2 j q hq;rw [Nat.succ_mul,List.drop_append,List.drop_of_length_le (by rw [hc];exact Nat.le_add_left _ _),List.nil_append,hc,Nat.add_sub_cancel];exact h1
theorem cY.c2 {α:Type} {R:α→List Value→Prop} {ps:List α} {cs:List Value} {p:α} {va vb:Value} (hp:R p [va,vb]) (h:cY R 2 ps cs):cY R 2 (p :: ps) (va :: vb :: cs):=cY.front hp rfl h rfl
theorem cY.c3 {α:Type} {R:α→List Value→Prop} {ps:List α} {cs:List Value} {p:α} {va vb vc:Value} (hp:R p [va,vb,vc]) (h:cY R 3 ps cs):cY R 3 (p :: ps) (va :: vb :: vc :: cs):=cY.front hp rfl h rfl
theorem cY.c4 {α:Type} {R:α→List Value→Prop} {ps:List α} {cs:List Value} {p:α} {va vb vc vd:Value} (hp:R p [va,vb,vc,vd]) (h:cY R 4 ps cs):cY R 4 (p :: ps) (va :: vb :: vc :: vd :: cs):=cY.front hp rfl h rfl
theorem cY.c5 {α:Type} {R:α→List Value→Prop} {ps:List α} {cs:List Value} {p:α} {va vb vc vd j:Value} (hp:R p [va,vb,vc,vd,j]) (h:cY R 5 ps cs):cY R 5 (p :: ps) (va :: vb :: vc :: vd :: j :: cs):=cY.front hp rfl h rfl
theorem cY.c6 {α:Type} {R:α→List Value→Prop} {ps:List α} {cs:List Value} {p:α} {va vb vc vd j vf:Value} (hp:R p [va,vb,vc,vd,j,vf]) (h:cY R 6 ps cs):cY R 6 (p :: ps) (va :: vb :: vc :: vd :: j :: vf :: cs):=cY.front hp rfl h rfl
theorem cY.c7 {α:Type} {R:α→List Value→Prop} {ps:List α} {cs:List Value} {p:α} {va vb vc vd j vf y:Value} (hp:R p [va,vb,vc,vd,j,vf,y]) (h:cY R 7 ps cs):cY R 7 (p :: ps) (va :: vb :: vc :: vd :: j :: vf :: y :: cs):=cY.front hp rfl h rfl
theorem cY.c8 {α:Type} {R:α→List Value→Prop} {ps:List α} {cs:List Value} {p:α} {va vb vc vd j vf y vh:Value} (hp:R p [va,vb,vc,vd,j,vf,y,vh]) (h:cY R 8 ps cs):cY R 8 (p :: ps) (va :: vb :: vc :: vd :: j :: vf :: y :: vh :: cs):=cY.front hp rfl h rfl
theorem cY.c9 {α:Type} {R:α→List Value→Prop} {ps:List α} {cs:List Value} {p:α} {va vb vc vd j vf y vh vi:Value} (hp:R p [va,vb,vc,vd,j,vf,y,vh,vi]) (h:cY R 9 ps cs):cY R 9 (p :: ps) (va :: vb :: vc :: vd :: j :: vf :: y :: vh :: vi :: cs):=cY.front hp rfl h rfl
theorem cY.iN {α:Type} {R:α→List Value→Prop} {ps:List α} {cs:List Value} {p:α} {va vb vc vd j vf y vh vi vj:Value} (hp:R p [va,vb,vc,vd,j,vf,y,vh,vi,vj]) (h:cY R 10 ps cs):cY R 10 (p :: ps) (va :: vb :: vc :: vd :: j :: vf :: y :: vh :: vi :: vj :: cs):=cY.front hp rfl h rfl
end Go.Proofs.ag.aZ
end
section
namespace Go.Proofs.ag.bR
def up (b:Nat→Bool) (i:Nat):Nat→Bool:=fun j=>if j = i then true else b j
end Go.Proofs.ag.bR
end
section
namespace Go.Proofs.ag.aZ
open Go.RowKit
section
variable {P:Program} {ops:Array Oper} {rest:List Oper} {o:Oper} {a:Act} {Q:Exit→Act→World→Prop} {W:World}
theorem eW (hw:Region.wanted o (yielded ops a.tmps) = true) (h:wpList P ops Q ({ o with guard:=none } :: rest) a W):wpList P ops Q (o :: rest) a W:=by
 have h1:Region.wanted { o with guard:=none } (yielded ops a.tmps) = true:=rfl;unfold wpList at h ⊢;rw [if_pos h1] at h;rw [if_pos hw];exact h
end
end Go.Proofs.ag.aZ
end
namespace Go.Proofs.YtlfkfdmggpipbaaGreat
section
namespace Pr
open Go.RowKit ag.aZ ag.bR ag.bT
attribute [local go_sem] js jt kr ku iU iV ju jv
set_option linter.unusedVariables false
set_option linter.unusedSimpArgs false
def zh:Option Int→Value
 | none=>.nilIface
 | some c=>.iface 0 (.int .i64 c)
theorem fD:zh none = .nilIface:=rfl
theorem fE (c:Int):zh (some c) = .iface 0 (.int .i64 c):=rfl
theorem fb:(Tryz.prog.info? 3).map (fun i=>(i.zero,i.size,i.bytes)) = some (some (.int .i64 0),1,8):=by kernel_rfl
theorem uT:(Tryz.prog.info? 5).map (fun i=>(i.zero,i.size,i.bytes)) = some (some (.int .u8 0),1,1):=by kernel_rfl
theorem uU:(Tryz.prog.info? 9).map (fun i=>(i.zero,i.size,i.bytes)) = some (some (.string ⟨#[]⟩),1,16):=by kernel_rfl
theorem s5:(Tryz.prog.info? 22).map (fun i=>(i.zero,i.size,i.bytes)) = some (some (.slice none 0 0),1,24):=by kernel_rfl
def di (xs:List (List Int)) (i:Int):(List Int):=xs.getD i.toNat ([]:List Int)
theorem kF {w:World} {A:Option Addr} {n:Nat} {xs:List (List Int)} (h:Kd.C (Kd.slice 3 (Kd.int .i64)) w A n xs) (i:Int) (h0:0≤i) (h1:i < n):∃ ad y z,A = some ad∧w.cell? (ad.add i.toNat) = some (.slice y (di xs i).length z)∧(di xs i).length≤z∧(Kd.int .i64).C w y (di xs i).length (di xs i):=by
 obtain ⟨ad,c,e,_,hK,X⟩:=Kd.z6 h ([]:List Int) i h0 h1;have hc:∀ j u,c[j]? = some u→w.cell? (ad.add (i.toNat * 1+j)) = some u:=X;obtain ⟨y,z,rfl,l0,g0⟩:=hK;exact ⟨ad,y,z,e,by have hq:=hc 0 _ rfl;rwa [Nat.mul_one,Nat.add_zero] at hq,l0,g0⟩
def jw.f (l0:List Int):Option (Bool):=some (decide ((l0.length:Int) > 1048576))
set_option maxHeartbeats 8000000 in
set_option maxRecDepth 100000 in
theorem jw.calls (z:Option Addr) (X:Nat) (l0:List Int) (r:Bool) (w:World) (j:Kd.C (Kd.int .u8) w z l0.length l0) (y:l0.length≤X) (h:jw.f l0 = some r) :
  Calls Tryz.prog 23 #[.slice z l0.length X] w fun e w'=>e = .returned (.bool r)∧cT w w':=by
 have Y:=ae.mk j;have a0:=ae.mk y;clear j y;unfold jw.f at h;have H:=h;clear h;obtain rfl:=Option.some.inj H;go_enter Tryz.func23,Tryz.ntmps23;go_wp2;go_ret;exact ⟨ww,zt⟩
def bD.f (a0:Int) (j:Int) (a2:Int):Option (Bool):=if a0≥j then (some (decide (a0≤a2))) else (some false)
set_option maxHeartbeats 8000000 in
set_option maxRecDepth 100000 in
theorem bD.calls (a0:Int) (y:Int) (a2:Int) (r:Bool) (w:World) (h:bD.f a0 y a2 = some r) :
  Calls Tryz.prog 46 #[.int .i64 a0,.int .i64 y,.int .i64 a2] w fun e w'=>e = .returned (.bool r)∧cT w w':=by
 unfold bD.f at h;have H:=h;clear h;by_cases c4:a0≥y
 ·rw [if_pos c4] at H
  have j:=decide_eq_true c4;clear c4;obtain rfl:=Option.some.inj H;go_enter Tryz.func46,Tryz.ntmps46;go_wp2;go_ret;exact ⟨ww,zt⟩
 ·rw [if_neg c4] at H
  have j:decide (y≤a0) = false:=decide_eq_false c4;clear c4;obtain rfl:=Option.some.inj H;go_enter Tryz.func46,Tryz.ntmps46;go_wp2;go_ret;exact ⟨ww,zt⟩
def bL.f (a0:Int) (j:Int):Option (Bool):=(bD.f a0 0 8).bind fun t148=>(if t148 = true then (if 0≤(IntKind.u64.wrap (a0)) then ((bD.f j 0 (wrap64 ((shl .i64 1 (IntKind.u64.wrap (a0))) - 1))).bind fun t149=>(some t149)) else (none)) else (some false))
set_option maxHeartbeats 8000000 in
set_option maxRecDepth 100000 in
theorem bL.calls (a0:Int) (a1:Int) (r:Bool) (w:World) (h:bL.f a0 a1 = some r) :
  Calls Tryz.prog 96 #[.int .i64 a0,.int .i64 a1] w fun e w'=>e = .returned (.bool r)∧cT w w':=by
 unfold bL.f at h;have H:=h;clear h;obtain ⟨t148,A3,H⟩:=xa H;(try dsimp only at H);by_cases c4:t148 = true
 ·subst c4
  replace H:(if 0≤(IntKind.u64.wrap (a0)) then ((bD.f a1 0 (wrap64 ((shl .i64 1 (IntKind.u64.wrap (a0))) - 1))).bind fun t149=>(some t149)) else (none)) = some r:=by rw [if_pos rfl] at H;exact H
  obtain ⟨j,X⟩:∃ j_:Int,(IntKind.u64.wrap (a0)) = j_:=⟨_,rfl⟩
  replace H:(if 0≤(j) then ((bD.f a1 0 (wrap64 ((shl .i64 1 (j)) - 1))).bind fun t149=>(some t149)) else (none)) = some r:=by first | (rw [X] at H;exact H) | (simp only [X] at H ⊢;exact H)
  (try rw [X] at A3);obtain ⟨c6,H⟩:=xt H;have a8:=eq_true c6;have a9:decide (0≤(j)) = true:=decide_eq_true c6;clear c6;obtain ⟨z,y⟩:∃ j_:Int,(shl .i64 1 (j)) = j_:=⟨_,rfl⟩
  replace H:((bD.f a1 0 (wrap64 ((z) - 1))).bind fun t149=>(some t149)) = some r:=by first | (rw [y] at H;exact H) | (simp only [y] at H ⊢;exact H)
  (try rw [y] at A3);have Y:(IntKind.i64.wrap (1 * 2 ^ min (j).toNat 64)) = z:=y;have a2:(j)≤64→(IntKind.i64.wrap (1 * 2 ^ (j).toNat)) = z:=eX y;have a4:(IntKind.i64.wrap (2 ^ min (j).toNat 64)) = z:=by have h_:=Y;rw [Int.one_mul] at h_;exact h_
  have a5:(j)≤64→(IntKind.i64.wrap (2 ^ (j).toNat)) = z:=fun a3=>by have h_:=a2 a3;rw [Int.one_mul] at h_;exact h_
  have a6:(wrap64 (1 * 2 ^ min (j).toNat 64)) = z:=(b7 _).symm.trans Y;have a7:(j)≤64→(wrap64 (1 * 2 ^ (j).toNat)) = z:=fun h_=>(b7 _).symm.trans (a2 h_)
  obtain ⟨t149,A8,H⟩:=xa H;(try dsimp only at H);obtain rfl:=Option.some.inj H;go_enter Tryz.func96,Tryz.ntmps96;go_wp2_with (first | ((with_reducible refine aD (f:=46) rfl ?_);refine ws (some 6) Tryz.func46 #[.int .i64 a0,.int .i64 0,.int .i64 8] ?_;(with_reducible refine (bD.calls a0 0 8 true _ A3.out).mono ?_);rintro e w' ⟨rfl,⟨nd,rfl⟩⟩;refine ⟨_,rfl,?_⟩) | (go_at_call 46;(with_reducible refine (bD.calls a1 0 (wrap64 ((z) - 1)) t149 _ A8.out).mono ?_);rintro e w' ⟨rfl,⟨nd,rfl⟩⟩));go_ret;exact ⟨by first | rfl | (simp;done) | (simp only [← X,← y] <;> (first | rfl | simp)) | (simp [*];done),zt⟩
 ·replace c4:=Bool.eq_false_iff.mpr c4
  subst c4;replace H:(some false) = some r:=by rw [if_neg (show ¬ (false = true) by decide)] at H;exact H
  obtain rfl:=Option.some.inj H;go_enter Tryz.func96,Tryz.ntmps96;go_wp2_with (first | ((with_reducible refine aD (f:=46) rfl ?_);refine ws (some 6) Tryz.func46 #[.int .i64 a0,.int .i64 0,.int .i64 8] ?_;(with_reducible refine (bD.calls a0 0 8 false _ A3.out).mono ?_);rintro e w' ⟨rfl,⟨nd,rfl⟩⟩;refine ⟨_,rfl,?_⟩));go_ret;exact ⟨ww,zt⟩
def bp.l0:Nat→Int→List Int→Int→Option (Bool)
 | 0,_,_,_=>none
 | k+1,z,y,j=>if j < (y.length:Int) then (if 0≤j then ((bL.f z (rd y j)).bind fun t197=>(if t197 = true then (if j > 0 then (if 0≤(wrap64 (j - 1)) then (if (wrap64 (j - 1)) < (y.length:Int) then (if (rd y (wrap64 (j - 1)))≥(rd y j) then (some false) else (bp.l0 k z y (wrap64 (j+1)))) else (none)) else (none)) else (bp.l0 k z y (wrap64 (j+1)))) else (some false))) else (none)) else ((bD.f z 0 8).bind fun t200=>(some t200))
def bp.f (k:Nat) (a0:Int) (l1:List Int):Option (Bool):=bp.l0 k a0 l1 0
theorem bp.dj:∀ k,af.S3 bp.l0 k
 | 0=>by and_intros <;> (repeat intro _) <;> exact AN rfl
 | k+1=>by
  have j:=bp.dj k;and_intros <;> (repeat intro _) <;> unfold bp.l0 <;> exact ⟨AI⟩
theorem bp.mono:∀ a0 j k,gW (bp.f k a0 j) (bp.f (k+1) a0 j):=by
 intro a0 j k;have y:=bp.dj k;unfold bp.f;exact AI
instance bp.m:af.V2 bp.f:=fun _ _ _=>⟨bp.mono _ _ _⟩
set_option maxHeartbeats 8000000 in
set_option maxRecDepth 100000 in
theorem bp.calls (k:Nat) (a0:Int) (A1:Option Addr) (c1:Nat) (l1:List Int) (r:Bool) (w:World) (aL:Kd.C (Kd.int .i64) w A1 l1.length l1) (aO:l1.length≤c1) (h:bp.f k a0 l1 = some r) :
  Calls Tryz.prog 92 #[.int .i64 a0,.slice A1 l1.length c1] w fun e w'=>e = .returned (.bool r)∧cT w w':=by
 have a9:=ae.mk aL;have b4:=ae.mk aO;clear aL aO;unfold bp.f at h;have H:=h;clear h;have H':=ae.mk H;clear H;go_enter Tryz.func92,Tryz.ntmps92;go_wp2;repeat (go_quiet (fail);try go_wp2)
 go_loopg [5] k (fun kq v5 w'=>∃ (j:Int),v5 = .int .i64 j∧ae (bp.l0 kq a0 l1 j = some r)∧ae (kq≤k)∧cT w w')
 case atStart=>exact ⟨(0),ww,H',⟨Nat.le_refl _⟩,zt⟩
 case round =>
  clear H';obtain ⟨j,rfl,HA,aw,⟨m1,rfl⟩⟩:=hrel;cases gk with
  | zero=>exact absurd HA.out (by simp [bp.l0])
  | succ k1 =>
   have H:=HA.out;clear HA;simp only [bp.l0] at H;by_cases c3:j < (l1.length:Int)
   ·rw [if_pos c3] at H
    have aP:=decide_eq_true c3;clear c3;obtain ⟨c4,H⟩:=xt H;have b2:=decide_eq_true c4;clear c4;obtain ⟨t197,A5,H⟩:=xa H;(try dsimp only at H);by_cases c6:t197 = true
    ·subst c6
     replace H:(if j > 0 then (if 0≤(wrap64 (j - 1)) then (if (wrap64 (j - 1)) < (l1.length:Int) then (if (rd l1 (wrap64 (j - 1)))≥(rd l1 j) then (some false) else (bp.l0 k1 a0 l1 (wrap64 (j+1)))) else (none)) else (none)) else (bp.l0 k1 a0 l1 (wrap64 (j+1)))) = some r:=by rw [if_pos rfl] at H;exact H
     by_cases c7:j > 0
     ·rw [if_pos c7] at H
      have aR:=decide_eq_true c7;clear c7;obtain ⟨a2,am⟩:∃ j_:Int,(wrap64 (j - 1)) = j_:=⟨_,rfl⟩
      replace H:(if 0≤(a2) then (if (a2) < (l1.length:Int) then (if (rd l1 (a2))≥(rd l1 j) then (some false) else (bp.l0 k1 a0 l1 (wrap64 (j+1)))) else (none)) else (none)) = some r:=by first | (rw [am] at H;exact H) | (simp only [am] at H ⊢;exact H)
      (try rw [am] at A5);have aS:(IntKind.i64.wrap (j - 1)) = a2:=(b7 _).trans am;obtain ⟨c9,H⟩:=xt H;have b3:=decide_eq_true c9;clear c9;obtain ⟨iN,H⟩:=xt H;have b0:=decide_eq_true iN;clear iN;by_cases ao:(rd l1 (a2))≥(rd l1 j)
      ·rw [if_pos ao] at H
       have aB:=decide_eq_true ao;clear ao;obtain rfl:=Option.some.inj H;obtain ⟨a1,aa,ab,ap,ar⟩:=At a9.out j;cases aa
       go_wp2_with (first | (go_at_call 96;(with_reducible refine (bL.calls a0 (rd l1 j) true _ A5.out).mono ?_);rintro e w' ⟨rfl,⟨nd,rfl⟩⟩;(try exact AH);have y:0≤((a2):Int):=yk;have z:(a2) < (l1.length:Int):=yk;obtain ⟨a3,a5,a6⟩:=Kd.fC a9.out (a2) y z;obtain rfl:a1 = a3:=(by injection a5);replace y:=eq_true y;replace z:=eq_true z;have X:0≤(j:Int):=yk;have Y:j < (l1.length:Int):=yk;obtain ⟨a4,a7,a8⟩:=Kd.fC a9.out j X Y;obtain rfl:a1 = a4:=(by injection a7);replace X:=eq_true X;replace Y:=eq_true Y));repeat (go_quiet (first | (go_at_call 96;(with_reducible refine (bL.calls a0 (rd l1 j) true _ A5.out).mono ?_);rintro e w' ⟨rfl,⟨nd,rfl⟩⟩;(try exact AH);have y:0≤((a2):Int):=yk;have z:(a2) < (l1.length:Int):=yk;obtain ⟨a3,a5,a6⟩:=Kd.fC a9.out (a2) y z;obtain rfl:a1 = a3:=(by injection a5);replace y:=eq_true y;replace z:=eq_true z;have X:0≤(j:Int):=yk;have Y:j < (l1.length:Int):=yk;obtain ⟨a4,a7,a8⟩:=Kd.fC a9.out j X Y;obtain rfl:a1 = a4:=(by injection a7);replace X:=eq_true X;replace Y:=eq_true Y));try go_wp2_with (first | (go_at_call 96;(with_reducible refine (bL.calls a0 (rd l1 j) true _ A5.out).mono ?_);rintro e w' ⟨rfl,⟨nd,rfl⟩⟩;(try exact AH);have y:0≤((a2):Int):=yk;have z:(a2) < (l1.length:Int):=yk;obtain ⟨a3,a5,a6⟩:=Kd.fC a9.out (a2) y z;obtain rfl:a1 = a3:=(by injection a5);replace y:=eq_true y;replace z:=eq_true z;have X:0≤(j:Int):=yk;have Y:j < (l1.length:Int):=yk;obtain ⟨a4,a7,a8⟩:=Kd.fC a9.out j X Y;obtain rfl:a1 = a4:=(by injection a7);replace X:=eq_true X;replace Y:=eq_true Y)))
       go_ret;exact ⟨by first | rfl | (simp;done) | (simp only [← am] <;> (first | rfl | simp)) | (simp [*];done),zt⟩
      ·rw [if_neg ao] at H
       have aB:decide ((rd l1 j)≤(rd l1 (a2))) = false:=decide_eq_false ao;clear ao;have H':=ae.mk H;clear H;obtain ⟨a1,aa,ab,ap,ar⟩:=At a9.out j;cases aa
       go_wp2_with (first | (go_at_call 96;(with_reducible refine (bL.calls a0 (rd l1 j) true _ A5.out).mono ?_);rintro e w' ⟨rfl,⟨nd,rfl⟩⟩;(try exact AH);have y:0≤((a2):Int):=yk;have z:(a2) < (l1.length:Int):=yk;obtain ⟨a3,a5,a6⟩:=Kd.fC a9.out (a2) y z;obtain rfl:a1 = a3:=(by injection a5);replace y:=eq_true y;replace z:=eq_true z;have X:0≤(j:Int):=yk;have Y:j < (l1.length:Int):=yk;obtain ⟨a4,a7,a8⟩:=Kd.fC a9.out j X Y;obtain rfl:a1 = a4:=(by injection a7);replace X:=eq_true X;replace Y:=eq_true Y));repeat (go_quiet (first | (go_at_call 96;(with_reducible refine (bL.calls a0 (rd l1 j) true _ A5.out).mono ?_);rintro e w' ⟨rfl,⟨nd,rfl⟩⟩;(try exact AH);have y:0≤((a2):Int):=yk;have z:(a2) < (l1.length:Int):=yk;obtain ⟨a3,a5,a6⟩:=Kd.fC a9.out (a2) y z;obtain rfl:a1 = a3:=(by injection a5);replace y:=eq_true y;replace z:=eq_true z;have X:0≤(j:Int):=yk;have Y:j < (l1.length:Int):=yk;obtain ⟨a4,a7,a8⟩:=Kd.fC a9.out j X Y;obtain rfl:a1 = a4:=(by injection a7);replace X:=eq_true X;replace Y:=eq_true Y));try go_wp2_with (first | (go_at_call 96;(with_reducible refine (bL.calls a0 (rd l1 j) true _ A5.out).mono ?_);rintro e w' ⟨rfl,⟨nd,rfl⟩⟩;(try exact AH);have y:0≤((a2):Int):=yk;have z:(a2) < (l1.length:Int):=yk;obtain ⟨a3,a5,a6⟩:=Kd.fC a9.out (a2) y z;obtain rfl:a1 = a3:=(by injection a5);replace y:=eq_true y;replace z:=eq_true z;have X:0≤(j:Int):=yk;have Y:j < (l1.length:Int):=yk;obtain ⟨a4,a7,a8⟩:=Kd.fC a9.out j X Y;obtain rfl:a1 = a4:=(by injection a7);replace X:=eq_true X;replace Y:=eq_true Y)))
       go_roundg k1;case measure=>have:=aw.out;omega
       case rel=>exact ⟨(wrap64 (j+1)),ww,H',⟨by have:=aw.out;omega⟩,zt⟩
     ·rw [if_neg c7] at H
      have aR:decide (0 < j) = false:=decide_eq_false c7;clear c7;have H':=ae.mk H;clear H;obtain ⟨a1,aa,ab,ap,ar⟩:=At a9.out j;cases aa
      go_wp2_with (first | (go_at_call 96;(with_reducible refine (bL.calls a0 (rd l1 j) true _ A5.out).mono ?_);rintro e w' ⟨rfl,⟨nd,rfl⟩⟩;(try exact AH)));repeat (go_quiet (first | (go_at_call 96;(with_reducible refine (bL.calls a0 (rd l1 j) true _ A5.out).mono ?_);rintro e w' ⟨rfl,⟨nd,rfl⟩⟩;(try exact AH)));try go_wp2_with (first | (go_at_call 96;(with_reducible refine (bL.calls a0 (rd l1 j) true _ A5.out).mono ?_);rintro e w' ⟨rfl,⟨nd,rfl⟩⟩;(try exact AH))))
      go_roundg k1;case measure=>have:=aw.out;omega
      case rel=>exact ⟨(wrap64 (j+1)),ww,H',⟨by have:=aw.out;omega⟩,zt⟩
    ·replace c6:=Bool.eq_false_iff.mpr c6
     subst c6;replace H:(some false) = some r:=by rw [if_neg (show ¬ (false = true) by decide)] at H;exact H
     obtain rfl:=Option.some.inj H;obtain ⟨a1,aa,ab,ap,ar⟩:=At a9.out j;cases aa
     go_wp2_with (first | (go_at_call 96;(with_reducible refine (bL.calls a0 (rd l1 j) false _ A5.out).mono ?_);rintro e w' ⟨rfl,⟨nd,rfl⟩⟩;(try exact AH)));repeat (go_quiet (first | (go_at_call 96;(with_reducible refine (bL.calls a0 (rd l1 j) false _ A5.out).mono ?_);rintro e w' ⟨rfl,⟨nd,rfl⟩⟩;(try exact AH)));try go_wp2_with (first | (go_at_call 96;(with_reducible refine (bL.calls a0 (rd l1 j) false _ A5.out).mono ?_);rintro e w' ⟨rfl,⟨nd,rfl⟩⟩;(try exact AH))))
     go_ret;exact ⟨ww,zt⟩
   ·rw [if_neg c3] at H
    have aP:decide (j < (l1.length:Int)) = false:=decide_eq_false c3;clear c3;obtain ⟨t200,aF,H⟩:=xa H;(try dsimp only at H);obtain rfl:=Option.some.inj H;go_wp2_with (first | (go_at_call 46;(with_reducible refine (bD.calls a0 0 8 t200 _ aF.out).mono ?_);rintro e w' ⟨rfl,⟨nd,rfl⟩⟩;(try exact AH)));repeat (go_quiet (first | (go_at_call 46;(with_reducible refine (bD.calls a0 0 8 t200 _ aF.out).mono ?_);rintro e w' ⟨rfl,⟨nd,rfl⟩⟩;(try exact AH)));try go_wp2_with (first | (go_at_call 46;(with_reducible refine (bD.calls a0 0 8 t200 _ aF.out).mono ?_);rintro e w' ⟨rfl,⟨nd,rfl⟩⟩;(try exact AH))))
    go_ret;exact ⟨ww,zt⟩
def bZ.f (a0:Int) (j:Int):Option (Bool):=if 0≤(IntKind.u64.wrap (j)) then (some ((Go.bits .and .i64 (shr .i64 a0 (IntKind.u64.wrap (j))) 1) == 1)) else (none)
set_option maxHeartbeats 8000000 in
set_option maxRecDepth 100000 in
theorem bZ.calls (a0:Int) (Y:Int) (r:Bool) (w:World) (h:bZ.f a0 Y = some r) :
  Calls Tryz.prog 134 #[.int .i64 a0,.int .i64 Y] w fun e w'=>e = .returned (.bool r)∧cT w w':=by
 unfold bZ.f at h;have H:=h;clear h;obtain ⟨y,z⟩:∃ j_:Int,(IntKind.u64.wrap (Y)) = j_:=⟨_,rfl⟩
 replace H:(if 0≤(y) then (some ((Go.bits .and .i64 (shr .i64 a0 (y)) 1) == 1)) else (none)) = some r:=by first | (rw [z] at H;exact H) | (simp only [z] at H ⊢;exact H)
 obtain ⟨c4,H⟩:=xt H;have a4:=eq_true c4;have a5:decide (0≤(y)) = true:=decide_eq_true c4;clear c4;obtain ⟨X,j⟩:∃ j_:Int,(shr .i64 a0 (y)) = j_:=⟨_,rfl⟩
 replace H:(some ((Go.bits .and .i64 (X) 1) == 1)) = some r:=by first | (rw [j] at H;exact H) | (simp only [j] at H ⊢;exact H)
 have a2:(a0 / 2 ^ min (y).toNat 64) = X:=j;have a3:(y)≤64→(a0 / 2 ^ (y).toNat) = X:=oZ j;obtain rfl:=Option.some.inj H;go_enter Tryz.func134,Tryz.ntmps134;go_wp2;go_ret;exact ⟨by first | rfl | (simp;done) | (simp only [← z,← j] <;> (first | rfl | simp)) | (simp [*];done),zt⟩
def bj.l0:Nat→List Int→Int→Int→Option (Bool)
 | 0,_,_,_=>none
 | k+1,y,z,j=>if j < (y.length:Int) then (if 0≤j then (if (rd y j) = z then (some true) else (bj.l0 k y z (wrap64 (j+1)))) else (none)) else (some false)
def bj.f (k:Nat) (l0:List Int) (j:Int):Option (Bool):=bj.l0 k l0 j 0
theorem bj.dj:∀ k,af.S3 bj.l0 k
 | 0=>by and_intros <;> (repeat intro _) <;> exact AN rfl
 | k+1=>by
  have j:=bj.dj k;and_intros <;> (repeat intro _) <;> unfold bj.l0 <;> exact ⟨AI⟩
theorem bj.mono:∀ a0 j k,gW (bj.f k a0 j) (bj.f (k+1) a0 j):=by
 intro a0 j k;have y:=bj.dj k;unfold bj.f;exact AI
instance bj.m:af.V2 bj.f:=fun _ _ _=>⟨bj.mono _ _ _⟩
set_option maxHeartbeats 8000000 in
set_option maxRecDepth 100000 in
theorem bj.calls (k:Nat) (A0:Option Addr) (c0:Nat) (l0:List Int) (X:Int) (r:Bool) (w:World) (a0:Kd.C (Kd.int .i64) w A0 l0.length l0) (a2:l0.length≤c0) (h:bj.f k l0 X = some r) :
  Calls Tryz.prog 81 #[.slice A0 l0.length c0,.int .i64 X] w fun e w'=>e = .returned (.bool r)∧cT w w':=by
 have a3:=ae.mk a0;have ab:=ae.mk a2;clear a0 a2;unfold bj.f at h;have H:=h;clear h;have H':=ae.mk H;clear H;go_enter Tryz.func81,Tryz.ntmps81;go_wp2;go_loopg [5] k (fun kq v5 w'=>∃ (j:Int),v5 = .int .i64 j∧ae (bj.l0 kq l0 X j = some r)∧ae (kq≤k)∧cT w w')
 case atStart=>exact ⟨(0),ww,H',⟨Nat.le_refl _⟩,zt⟩
 case round =>
  clear H';obtain ⟨j,rfl,HA,a4,⟨m1,rfl⟩⟩:=hrel;cases gk with
  | zero=>exact absurd HA.out (by simp [bj.l0])
  | succ k1 =>
   have H:=HA.out;clear HA;simp only [bj.l0] at H;by_cases c3:j < (l0.length:Int)
   ·rw [if_pos c3] at H
    have a5:=decide_eq_true c3;clear c3;obtain ⟨c4,H⟩:=xt H;have aa:=decide_eq_true c4;clear c4;by_cases c5:(rd l0 j) = X
    ·rw [if_pos c5] at H
     have a6:((rd l0 j) == X) = true:=beq_iff_eq.mpr c5;have a7:((rd l0 j) != X) = false:=bne_eq_false_iff_eq.mpr c5;clear c5;obtain rfl:=Option.some.inj H;obtain ⟨Y,y,z,a8,a9⟩:=At a3.out j;cases y
     go_wp2;go_ret;exact ⟨ww,zt⟩
    ·rw [if_neg c5] at H
     have a6:((rd l0 j) == X) = false:=beq_eq_false_iff_ne.mpr c5;have a7:((rd l0 j) != X) = true:=bne_iff_ne.mpr c5;have H':=ae.mk H;clear H;obtain ⟨Y,y,z,a8,a9⟩:=At a3.out j;cases y
     go_wp2;go_roundg k1;case measure=>have:=a4.out;omega
     case rel=>exact ⟨(wrap64 (j+1)),ww,H',⟨by have:=a4.out;omega⟩,zt⟩
   ·rw [if_neg c3] at H
    have a5:decide (j < (l0.length:Int)) = false:=decide_eq_false c3;clear c3;obtain rfl:=Option.some.inj H;go_wp2;go_ret;exact ⟨ww,zt⟩
def aT.l0:Nat→Int→Int→Int→Int→Int→List Int→Option (Bool)
 | 0,_,_,_,_,_,_=>none
 | k+1,X,x2,Y,z,j,y=>if z < j then ((bZ.f x2 z).bind fun a0=>(if a0 = true then ((bZ.f X z).bind fun a1=>(if a1 = true then (aT.l0 k X x2 Y (wrap64 (z+1)) j y) else (if 0≤(IntKind.u64.wrap (Y)) then (if 0≤(IntKind.u64.wrap (z)) then ((bj.f k y (wrap64 ((wrap64 (X - (shl .i64 1 (IntKind.u64.wrap (Y)))))+(shl .i64 1 (IntKind.u64.wrap (z)))))).bind fun a2=>(if a2 = true then (some true) else (aT.l0 k X x2 Y (wrap64 (z+1)) j y))) else (none)) else (none)))) else (aT.l0 k X x2 Y (wrap64 (z+1)) j y))) else (some false)
def aT.f (k:Nat) (j:Int) (y:List Int) (z:Int) (a2:Int) (a3:Int):Option (Bool):=aT.l0 k z a2 a3 0 j y
theorem aT.dj:∀ k,af.S6 aT.l0 k
 | 0=>by and_intros <;> (repeat intro _) <;> exact AN rfl
 | k+1=>by
  have j:=aT.dj k;and_intros <;> (repeat intro _) <;> unfold aT.l0 <;> exact ⟨AI⟩
theorem aT.mono:∀ a0 j a2 a3 a4 k,gW (aT.f k a0 j a2 a3 a4) (aT.f (k+1) a0 j a2 a3 a4):=by
 intro a0 j a2 a3 a4 k;have y:=aT.dj k;unfold aT.f;exact AI
instance aT.m:af.V5 aT.f:=fun _ _ _ _ _ _=>⟨aT.mono _ _ _ _ _ _⟩
set_option maxHeartbeats 8000000 in
set_option maxRecDepth 100000 in
theorem aT.calls (k:Nat) (z:Int) (ab:Option Addr) (am:Nat) (y:List Int) (a1:Int) (a2:Int) (a3:Int) (r:Bool) (w:World) (aF:Kd.C (Kd.int .i64) w ab y.length y) (aL:y.length≤am) (h:aT.f k z y a1 a2 a3 = some r) :
  Calls Tryz.prog 143 #[.agg #[.int .i64 z,.slice ab y.length am],.int .i64 a1,.int .i64 a2,.int .i64 a3] w fun e w'=>e = .returned (.bool r)∧Below w.heap.size w w':=by
 have du:=Tryz.underlying37;have aO:=ae.mk aF;have aP:=ae.mk aL;clear aF aL;have HB:=ae.mk (Below.refl w.heap.size w);unfold aT.f at h;have H:=h;clear h;have H':=ae.mk H;clear H;go_enter Tryz.func143,Tryz.ntmps143;go_wp2_with (first | ((with_reducible refine bu (N:=4) rfl ?_);refine zp 4 #[.int .i64 z,.slice ab y.length am] 37 ?_;intro b2 hg w5 hbox hb;have X:=ae.mk hbox;have df:=yv hg HB;have dk:=yv hg HB;replace HB:=xi HB hb;clear hb hbox hg));go_loopg [9] k (fun kq v9 w'=>∃ (j:Int),v9 = .int .i64 j∧ae (aT.l0 kq a1 a2 a3 j z y = some r)∧ae (kq≤k)∧ae (w'.heap[b2]? = some (.cells #[.int .i64 z,(.slice ab y.length am)] 37 (0,0)))∧ae (Below w.heap.size w w'))
 case atStart=>exact ⟨(0),ww,H',⟨Nat.le_refl _⟩,⟨xf X.out⟩,⟨wx HB.out⟩⟩
 case round =>
  clear H';obtain ⟨j,rfl,HA,aB,X,HB⟩:=hrel;cases gk with
  | zero=>exact absurd HA.out (by simp [aT.l0])
  | succ k1 =>
   have H:=HA.out;clear HA;simp only [aT.l0] at H;by_cases c6:j < z
   ·rw [if_pos c6] at H
    have ba:=decide_eq_true c6;clear c6;obtain ⟨bc,A7,H⟩:=xa H;(try dsimp only at H);by_cases c8:bc = true
    ·subst c8
     replace H:((bZ.f a1 j).bind fun aR=>(if aR = true then (aT.l0 k1 a1 a2 a3 (wrap64 (j+1)) z y) else (if 0≤(IntKind.u64.wrap (a3)) then (if 0≤(IntKind.u64.wrap (j)) then ((bj.f k1 y (wrap64 ((wrap64 (a1 - (shl .i64 1 (IntKind.u64.wrap (a3)))))+(shl .i64 1 (IntKind.u64.wrap (j)))))).bind fun Y=>(if Y = true then (some true) else (aT.l0 k1 a1 a2 a3 (wrap64 (j+1)) z y))) else (none)) else (none)))) = some r:=by rw [if_pos rfl] at H;exact H
     obtain ⟨aR,A9,H⟩:=xa H;(try dsimp only at H);by_cases iN:aR = true
     ·subst iN
      replace H:(aT.l0 k1 a1 a2 a3 (wrap64 (j+1)) z y) = some r:=by rw [if_pos rfl] at H;exact H
      have H':=ae.mk H;clear H;obtain ⟨bi,bm,bo,bs⟩:=xv X.out;go_wp2_with (first | ((with_reducible refine aD (f:=134) rfl ?_);refine ws (some 18) Tryz.func134 #[.int .i64 a2,.int .i64 j] ?_;(with_reducible refine (bZ.calls a2 j true _ A7.out).mono ?_);rintro e w' ⟨rfl,⟨nd,rfl⟩⟩;refine ⟨_,rfl,?_⟩) | (go_at_call 134;(with_reducible refine (bZ.calls a1 j true _ A9.out).mono ?_);rintro e w' ⟨rfl,⟨nd,rfl⟩⟩));go_roundg k1;case measure=>have:=aB.out;omega
      case rel=>exact ⟨(wrap64 (j+1)),ww,H',⟨by have:=aB.out;omega⟩,⟨xf X.out⟩,⟨wx HB.out⟩⟩
     ·replace iN:=Bool.eq_false_iff.mpr iN
      subst iN;replace H:(if 0≤(IntKind.u64.wrap (a3)) then (if 0≤(IntKind.u64.wrap (j)) then ((bj.f k1 y (wrap64 ((wrap64 (a1 - (shl .i64 1 (IntKind.u64.wrap (a3)))))+(shl .i64 1 (IntKind.u64.wrap (j)))))).bind fun Y=>(if Y = true then (some true) else (aT.l0 k1 a1 a2 a3 (wrap64 (j+1)) z y))) else (none)) else (none)) = some r:=by rw [if_neg (show ¬ (false = true) by decide)] at H;exact H
      obtain ⟨a0,a9⟩:∃ j_:Int,(IntKind.u64.wrap (a3)) = j_:=⟨_,rfl⟩
      replace H:(if 0≤(a0) then (if 0≤(IntKind.u64.wrap (j)) then ((bj.f k1 y (wrap64 ((wrap64 (a1 - (shl .i64 1 (a0))))+(shl .i64 1 (IntKind.u64.wrap (j)))))).bind fun Y=>(if Y = true then (some true) else (aT.l0 k1 a1 a2 a3 (wrap64 (j+1)) z y))) else (none)) else (none)) = some r:=by first | (rw [a9] at H;exact H) | (simp only [a9] at H ⊢;exact H)
      (try rw [a9] at A7);(try rw [a9] at A9);obtain ⟨b3,H⟩:=xt H;have dl:=eq_true b3;have dp:decide (0≤(a0)) = true:=decide_eq_true b3;clear b3;obtain ⟨a5,a6⟩:∃ j_:Int,(shl .i64 1 (a0)) = j_:=⟨_,rfl⟩
      replace H:(if 0≤(IntKind.u64.wrap (j)) then ((bj.f k1 y (wrap64 ((wrap64 (a1 - (a5)))+(shl .i64 1 (IntKind.u64.wrap (j)))))).bind fun Y=>(if Y = true then (some true) else (aT.l0 k1 a1 a2 a3 (wrap64 (j+1)) z y))) else (none)) = some r:=by first | (rw [a6] at H;exact H) | (simp only [a6] at H ⊢;exact H)
      (try rw [a6] at A7);(try rw [a6] at A9);have ao:(IntKind.i64.wrap (1 * 2 ^ min (a0).toNat 64)) = a5:=a6;have ap:(a0)≤64→(IntKind.i64.wrap (1 * 2 ^ (a0).toNat)) = a5:=eX a6;have d4:(IntKind.i64.wrap (2 ^ min (a0).toNat 64)) = a5:=by have h_:=ao;rw [Int.one_mul] at h_;exact h_
      have d5:(a0)≤64→(IntKind.i64.wrap (2 ^ (a0).toNat)) = a5:=fun aS=>by have h_:=ap aS;rw [Int.one_mul] at h_;exact h_
      have d6:(wrap64 (1 * 2 ^ min (a0).toNat 64)) = a5:=(b7 _).symm.trans ao;have d7:(a0)≤64→(wrap64 (1 * 2 ^ (a0).toNat)) = a5:=fun h_=>(b7 _).symm.trans (ap h_)
      obtain ⟨a4,aa⟩:∃ j_:Int,(IntKind.u64.wrap (j)) = j_:=⟨_,rfl⟩
      replace H:(if 0≤(a4) then ((bj.f k1 y (wrap64 ((wrap64 (a1 - (a5)))+(shl .i64 1 (a4))))).bind fun Y=>(if Y = true then (some true) else (aT.l0 k1 a1 a2 a3 (wrap64 (j+1)) z y))) else (none)) = some r:=by first | (rw [aa] at H;exact H) | (simp only [aa] at H ⊢;exact H)
      (try rw [aa] at A7);(try rw [aa] at A9);obtain ⟨b4,H⟩:=xt H;have dq:=eq_true b4;have dt:decide (0≤(a4)) = true:=decide_eq_true b4;clear b4;obtain ⟨a8,a7⟩:∃ j_:Int,(shl .i64 1 (a4)) = j_:=⟨_,rfl⟩
      replace H:((bj.f k1 y (wrap64 ((wrap64 (a1 - (a5)))+(a8)))).bind fun Y=>(if Y = true then (some true) else (aT.l0 k1 a1 a2 a3 (wrap64 (j+1)) z y))) = some r:=by first | (rw [a7] at H;exact H) | (simp only [a7] at H ⊢;exact H)
      (try rw [a7] at A7);(try rw [a7] at A9);have ar:(IntKind.i64.wrap (1 * 2 ^ min (a4).toNat 64)) = a8:=a7;have aw:(a4)≤64→(IntKind.i64.wrap (1 * 2 ^ (a4).toNat)) = a8:=eX a7;have d8:(IntKind.i64.wrap (2 ^ min (a4).toNat 64)) = a8:=by have h_:=ar;rw [Int.one_mul] at h_;exact h_
      have d9:(a4)≤64→(IntKind.i64.wrap (2 ^ (a4).toNat)) = a8:=fun aS=>by have h_:=aw aS;rw [Int.one_mul] at h_;exact h_
      have db:(wrap64 (1 * 2 ^ min (a4).toNat 64)) = a8:=(b7 _).symm.trans ar;have dd:(a4)≤64→(wrap64 (1 * 2 ^ (a4).toNat)) = a8:=fun h_=>(b7 _).symm.trans (aw h_)
      obtain ⟨Y,bv,H⟩:=xa H;(try dsimp only at H);by_cases b0:Y = true
      ·subst b0
       replace H:(some true) = some r:=by rw [if_pos rfl] at H;exact H
       obtain rfl:=Option.some.inj H;obtain ⟨c0,c1,ca,cb⟩:=xv X.out;go_wp2_with (first | ((with_reducible refine aD (f:=134) rfl ?_);refine ws (some 18) Tryz.func134 #[.int .i64 a2,.int .i64 j] ?_;(with_reducible refine (bZ.calls a2 j true _ A7.out).mono ?_);rintro e w' ⟨rfl,⟨nd,rfl⟩⟩;refine ⟨_,rfl,?_⟩) | (go_at_call 134;(with_reducible refine (bZ.calls a1 j false _ A9.out).mono ?_);rintro e w' ⟨rfl,⟨nd,rfl⟩⟩) | (go_at_call 81;(with_reducible refine (bj.calls k1 _ _ y (wrap64 ((wrap64 (a1 - (a5)))+(a8))) true _ ?side1 ?side2 bv.out).mono ?_);(case side1=>exact yi (Kd.aN aO.out HB.out));(case side2=>exact aP.out);rintro e w' ⟨rfl,⟨nd,rfl⟩⟩));go_ret;exact ⟨by first | rfl | (simp [fD,fE] <;> rfl) | (simp only [← a9,← a6,← aa,← a7];first | rfl | (simp [fD,fE] <;> rfl)) | (simp [*,fD,fE] <;> rfl),wy⟩
      ·replace b0:=Bool.eq_false_iff.mpr b0
       subst b0;replace H:(aT.l0 k1 a1 a2 a3 (wrap64 (j+1)) z y) = some r:=by rw [if_neg (show ¬ (false = true) by decide)] at H;exact H
       have H':=ae.mk H;clear H;obtain ⟨cc,ce,cf,ci⟩:=xv X.out;go_wp2_with (first | ((with_reducible refine aD (f:=134) rfl ?_);refine ws (some 18) Tryz.func134 #[.int .i64 a2,.int .i64 j] ?_;(with_reducible refine (bZ.calls a2 j true _ A7.out).mono ?_);rintro e w' ⟨rfl,⟨nd,rfl⟩⟩;refine ⟨_,rfl,?_⟩) | (go_at_call 134;(with_reducible refine (bZ.calls a1 j false _ A9.out).mono ?_);rintro e w' ⟨rfl,⟨nd,rfl⟩⟩) | (go_at_call 81;(with_reducible refine (bj.calls k1 _ _ y (wrap64 ((wrap64 (a1 - (a5)))+(a8))) false _ ?side1 ?side2 bv.out).mono ?_);(case side1=>exact yi (Kd.aN aO.out HB.out));(case side2=>exact aP.out);rintro e w' ⟨rfl,⟨nd,rfl⟩⟩));go_roundg k1;case measure=>have:=aB.out;omega
       case rel=>exact ⟨(wrap64 (j+1)),ww,H',⟨by have:=aB.out;omega⟩,⟨xf X.out⟩,⟨wx HB.out⟩⟩
    ·replace c8:=Bool.eq_false_iff.mpr c8
     subst c8;replace H:(aT.l0 k1 a1 a2 a3 (wrap64 (j+1)) z y) = some r:=by rw [if_neg (show ¬ (false = true) by decide)] at H;exact H
     have H':=ae.mk H;clear H;obtain ⟨cp,cq,cx,cy⟩:=xv X.out;go_wp2_with (first | ((with_reducible refine aD (f:=134) rfl ?_);refine ws (some 18) Tryz.func134 #[.int .i64 a2,.int .i64 j] ?_;(with_reducible refine (bZ.calls a2 j false _ A7.out).mono ?_);rintro e w' ⟨rfl,⟨nd,rfl⟩⟩;refine ⟨_,rfl,?_⟩));go_roundg k1;case measure=>have:=aB.out;omega
     case rel=>exact ⟨(wrap64 (j+1)),ww,H',⟨by have:=aB.out;omega⟩,⟨xf X.out⟩,⟨wx HB.out⟩⟩
   ·rw [if_neg c6] at H
    have ba:decide (j < z) = false:=decide_eq_false c6;clear c6;obtain rfl:=Option.some.inj H;obtain ⟨d0,d1,d2,d3⟩:=xv X.out;go_wp2;go_ret;exact ⟨zd,wy⟩
mutual
def av.l0:Nat→Int→Int→List Int→Option (Int×Int×Int×Bool)
 | 0,_,_,_=>none
 | k+1,z,y,j=>if z < (j.length:Int) then (av.l1 k z 0 y j) else (some (0,0,0,false))
def av.l1:Nat→Int→Int→Int→List Int→Option (Int×Int×Int×Bool)
 | 0,_,_,_,_=>none
 | k+1,z,X,y,j=>if X < (j.length:Int) then (av.l2 k z X 0 y j) else (av.l0 k (wrap64 (z+1)) y j)
def av.l2:Nat→Int→Int→Int→Int→List Int→Option (Int×Int×Int×Bool)
 | 0,_,_,_,_,_=>none
 | k+1,z,X,Y,y,j=>if Y < y then (if 0≤z then (if z < (j.length:Int) then (if 0≤X then (if X < (j.length:Int) then ((bZ.f (rd j z) Y).bind fun a0=>(if a0 = true then ((bZ.f (rd j X) Y).bind fun a1=>(if a1 = true then (av.l2 k z X (wrap64 (Y+1)) y j) else ((aT.f k y j (rd j z) (rd j X) Y).bind fun a2=>(if a2 = true then (av.l2 k z X (wrap64 (Y+1)) y j) else (some (rd j z,rd j X,Y,true)))))) else (av.l2 k z X (wrap64 (Y+1)) y j))) else (none)) else (none)) else (none)) else (none)) else (av.l1 k z (wrap64 (X+1)) y j)
end
def av.f (k:Nat) (j:Int) (y:List Int):Option (Int×Int×Int×Bool):=(bp.f k j y).bind fun z=>(if z = true then (av.l0 k 0 j y) else (some (0,0,0,false)))
theorem av.dj:∀ k,af.S3 av.l0 k∧af.S4 av.l1 k∧af.S5 av.l2 k
 | 0=>by and_intros <;> (repeat intro _) <;> exact AN rfl
 | k+1=>by
  obtain ⟨j,y,z⟩:=av.dj k;and_intros <;> (repeat intro _) <;> (first | unfold av.l0 | unfold av.l1 | unfold av.l2) <;> exact ⟨AI⟩
theorem av.mono:∀ a0 j k,gW (av.f k a0 j) (av.f (k+1) a0 j):=by
 intro a0 j k;obtain ⟨y,z,X⟩:=av.dj k;unfold av.f;exact AI
instance av.m:af.V2 av.f:=fun _ _ _=>⟨av.mono _ _ _⟩
set_option maxHeartbeats 8000000 in
set_option maxRecDepth 100000 in
theorem av.calls (k:Nat) (a2:Int) (aB:Option Addr) (am:Nat) (y:List Int) (r1:Int) (r2:Int) (r3:Int) (r4:Bool) (w:World) (cy:Kd.C (Kd.int .i64) w aB y.length y) (d0:y.length≤am) (h:av.f k a2 y = some (r1,r2,r3,r4)) :
  Calls Tryz.prog 91 #[.agg #[.int .i64 a2,.slice aB y.length am]] w fun e w'=>e = .returned (.tuple #[.agg #[.int .i64 r1,.int .i64 r2,.int .i64 r3],.bool r4])∧Below w.heap.size w w':=by
 have hU:=Tryz.underlying37;have hV:=Tryz.underlying79;have ab:=ae.mk cy;have cb:=ae.mk d0;clear cy d0;have HB:=ae.mk (Below.refl w.heap.size w);unfold av.f at h;have H:=h;clear h;obtain ⟨dt,A2,H⟩:=xa H;(try dsimp only at H);by_cases c3:dt = true
 ·subst c3
  replace H:(av.l0 k 0 a2 y) = some (r1,r2,r3,r4):=by rw [if_pos rfl] at H;exact H
  have H':=ae.mk H;clear H;go_enter Tryz.func91,Tryz.ntmps91;go_wp2_with (first | ((with_reducible refine bu (N:=1) rfl ?_);refine zp 1 #[.int .i64 a2,.slice aB y.length am] 37 ?_;intro aa hg w4 hbox hb;have j:=ae.mk hbox;have db:=yv hg HB;have dd:=yv hg HB;replace HB:=xi HB hb;clear hb hbox hg) | ((with_reducible refine bu (N:=2) rfl ?_);refine zp 2 #[.int .i64 0,.int .i64 0,.int .i64 0] 79 ?_;intro a9 hg w5 hbox hb;have z:=ae.mk hbox;have df:=yv hg HB;have dk:=yv hg HB;replace HB:=xi HB hb;have a0:=AJ hg j;have a1:=AK hg j;replace j:=xc j hb;clear hb hbox hg;have hW:=a0.out;have hX:=a1.out;obtain ⟨h6,h7,h8,h9⟩:=xv j.out) | ((with_reducible refine aD (f:=92) rfl ?_);refine ws (some 13) Tryz.func92 #[.int .i64 a2,.slice aB y.length am] ?_;(with_reducible refine (bp.calls k a2 _ _ y true _ ?side1 ?side2 A2.out).mono ?_);(case side1=>exact yi (Kd.aN ab.out HB.out));(case side2=>exact cb.out);rintro e w' ⟨rfl,⟨nd,rfl⟩⟩;refine ⟨_,rfl,?_⟩));go_loopg [4] k (fun kq v4 w'=>∃ (X:Int) (aF:Int) (aL:Int) (aO:Int),v4 = .int .i64 X∧ae (av.l0 kq X a2 y = some (r1,r2,r3,r4))∧ae (kq≤k)∧ae (w'.heap[aa]? = some (.cells #[.int .i64 a2,(.slice aB y.length am)] 37 (0,0)))∧ae (w'.heap[a9]? = some (.cells #[.int .i64 aF,.int .i64 aL,.int .i64 aO] 79 (0,0)))∧ae (Below w.heap.size w w'))
  case atStart=>exact ⟨(0),(0),(0),(0),ww,H',⟨Nat.le_refl _⟩,⟨xf j.out⟩,⟨xf z.out⟩,⟨wx HB.out⟩⟩
  case round =>
   clear H';obtain ⟨X,aF,aL,aO,rfl,HA,b3,j,z,HB⟩:=hrel;cases gk with
   | zero=>exact absurd HA.out (by simp [av.l0])
   | succ k1 =>
    have H:=HA.out;clear HA;simp only [av.l0] at H;by_cases c8:X < (y.length:Int)
    ·rw [if_pos c8] at H
     have du:=decide_eq_true c8;clear c8;have H':=ae.mk H;clear H;have hZ:=a0.out;have i0:=a1.out;obtain ⟨dv,dC,dE,dT⟩:=xv j.out;go_wp2;go_loopg [5] k1 (fun kq v5 w'=>∃ (a5:Int) (ap:Int) (ar:Int) (aw:Int),v5 = .int .i64 a5∧ae (av.l1 kq X a5 a2 y = some (r1,r2,r3,r4))∧ae (kq≤k1)∧ae (w'.heap[aa]? = some (.cells #[.int .i64 a2,(.slice aB y.length am)] 37 (0,0)))∧ae (w'.heap[a9]? = some (.cells #[.int .i64 ap,.int .i64 ar,.int .i64 aw] 79 (0,0)))∧ae (Below w.heap.size w w'))
     case atStart=>exact ⟨(0),(aF),(aL),(aO),ww,H',⟨Nat.le_refl _⟩,⟨xf j.out⟩,⟨xf z.out⟩,⟨wx HB.out⟩⟩
     case round =>
      clear H';obtain ⟨a5,ap,ar,aw,rfl,HA,b4,j,z,HB⟩:=hrel;cases gk with
      | zero=>exact absurd HA.out (by simp [av.l1])
      | succ k2 =>
       have H:=HA.out;clear HA;simp only [av.l1] at H;by_cases cq:a5 < (y.length:Int)
       ·rw [if_pos cq] at H
        have dl:=decide_eq_true cq;clear cq;have H':=ae.mk H;clear H;have hj:=a0.out;have hl:=a1.out;obtain ⟨e0,e1,e2,e3⟩:=xv j.out;go_wp2;go_loopg [6] k2 (fun kq v6 w'=>∃ (Y:Int) (a6:Int) (a7:Int) (a8:Int),v6 = .int .i64 Y∧ae (av.l2 kq X a5 Y a2 y = some (r1,r2,r3,r4))∧ae (kq≤k2)∧ae (w'.heap[aa]? = some (.cells #[.int .i64 a2,(.slice aB y.length am)] 37 (0,0)))∧ae (w'.heap[a9]? = some (.cells #[.int .i64 a6,.int .i64 a7,.int .i64 a8] 79 (0,0)))∧ae (Below w.heap.size w w'))
        case atStart=>exact ⟨(0),(ap),(ar),(aw),ww,H',⟨Nat.le_refl _⟩,⟨xf j.out⟩,⟨xf z.out⟩,⟨wx HB.out⟩⟩
        case round =>
         clear H';obtain ⟨Y,a6,a7,a8,rfl,HA,cc,j,z,HB⟩:=hrel;cases gk with
         | zero=>exact absurd HA.out (by simp [av.l2])
         | succ k3 =>
          have H:=HA.out;clear HA;simp only [av.l2] at H;by_cases cx:Y < a2
          ·rw [if_pos cx] at H
           have dp:=decide_eq_true cx;clear cx;obtain ⟨e4,H⟩:=xt H;have hm:=decide_eq_true e4;clear e4;obtain ⟨e5,H⟩:=xt H;have hn:=decide_eq_true e5;clear e5;obtain ⟨e8,H⟩:=xt H;have ho:=decide_eq_true e8;clear e8;obtain ⟨ea,H⟩:=xt H;have hq:=decide_eq_true ea;clear ea;obtain ⟨eb,d6,H⟩:=xa H;(try dsimp only at H);by_cases d7:eb = true
           ·subst d7
            replace H:((bZ.f (rd y a5) Y).bind fun d1=>(if d1 = true then (av.l2 k3 X a5 (wrap64 (Y+1)) a2 y) else ((aT.f k3 a2 y (rd y X) (rd y a5) Y).bind fun ce=>(if ce = true then (av.l2 k3 X a5 (wrap64 (Y+1)) a2 y) else (some (rd y X,rd y a5,Y,true)))))) = some (r1,r2,r3,r4):=by rw [if_pos rfl] at H;exact H
            obtain ⟨d1,dq,H⟩:=xa H;(try dsimp only at H);by_cases d8:d1 = true
            ·subst d8
             replace H:(av.l2 k3 X a5 (wrap64 (Y+1)) a2 y) = some (r1,r2,r3,r4):=by rw [if_pos rfl] at H;exact H
             have H':=ae.mk H;clear H;have hr:=a0.out;have ht:=a1.out;obtain ⟨ec,ed,ee,ef⟩:=xv j.out;obtain ⟨ao,aS,a3,d2,d3⟩:=At ab.out X;cases aS
             (try replace a3:=(HB.out.cell (World.block_lt_of_cell? w _ a3)).trans a3);obtain ⟨aP,b0,a4,d4,d5⟩:=At ab.out a5;obtain rfl:ao = aP:=(by injection b0)
             (try replace a4:=(HB.out.cell (World.block_lt_of_cell? w _ a4)).trans a4);go_wp2_with (first | ((with_reducible refine aD (f:=134) rfl ?_);refine ws (some 48) Tryz.func134 #[.int .i64 (rd y X),.int .i64 Y] ?_;(with_reducible refine (bZ.calls (rd y X) Y true _ d6.out).mono ?_);rintro e w' ⟨rfl,⟨nd,rfl⟩⟩;refine ⟨_,rfl,?_⟩) | (go_at_call 134;(with_reducible refine (bZ.calls (rd y a5) Y true _ dq.out).mono ?_);rintro e w' ⟨rfl,⟨nd,rfl⟩⟩));go_roundg k3;case measure=>have:=b3.out;have:=b4.out;have:=cc.out;omega
             case rel=>exact ⟨(wrap64 (Y+1)),(a6),(a7),(a8),ww,H',⟨by have:=b3.out;have:=b4.out;have:=cc.out;omega⟩,⟨xf j.out⟩,⟨xf z.out⟩,⟨wx HB.out⟩⟩
            ·replace d8:=Bool.eq_false_iff.mpr d8
             subst d8;replace H:((aT.f k3 a2 y (rd y X) (rd y a5) Y).bind fun ce=>(if ce = true then (av.l2 k3 X a5 (wrap64 (Y+1)) a2 y) else (some (rd y X,rd y a5,Y,true)))) = some (r1,r2,r3,r4):=by rw [if_neg (show ¬ (false = true) by decide)] at H;exact H
             obtain ⟨ce,eh,H⟩:=xa H;(try dsimp only at H);by_cases d9:ce = true
             ·subst d9
              replace H:(av.l2 k3 X a5 (wrap64 (Y+1)) a2 y) = some (r1,r2,r3,r4):=by rw [if_pos rfl] at H;exact H
              have H':=ae.mk H;clear H;have hu:=a0.out;have hx:=a1.out;obtain ⟨ei,ej,el,em⟩:=xv j.out;obtain ⟨ao,aS,a3,d2,d3⟩:=At ab.out X;cases aS
              (try replace a3:=(HB.out.cell (World.block_lt_of_cell? w _ a3)).trans a3);obtain ⟨aP,b0,a4,d4,d5⟩:=At ab.out a5;obtain rfl:ao = aP:=(by injection b0)
              (try replace a4:=(HB.out.cell (World.block_lt_of_cell? w _ a4)).trans a4);go_wp2_with (first | ((with_reducible refine aD (f:=134) rfl ?_);refine ws (some 48) Tryz.func134 #[.int .i64 (rd y X),.int .i64 Y] ?_;(with_reducible refine (bZ.calls (rd y X) Y true _ d6.out).mono ?_);rintro e w' ⟨rfl,⟨nd,rfl⟩⟩;refine ⟨_,rfl,?_⟩) | (go_at_call 134;(with_reducible refine (bZ.calls (rd y a5) Y false _ dq.out).mono ?_);rintro e w' ⟨rfl,⟨nd,rfl⟩⟩) | (go_at_call 143;(with_reducible refine (aT.calls k3 a2 _ _ y (rd y X) (rd y a5) Y true _ ?side1 ?side2 eh.out).mono ?_);(case side1=>exact yi (Kd.aN ab.out HB.out));(case side2=>exact cb.out);rintro e i1 ⟨rfl,hb⟩;replace j:=xc j hb;replace z:=xc z hb;replace HB:=xi HB hb;(try clear hb);(try clear hz);(try clear hk);(try clear hi)));go_roundg k3;case measure=>have:=b3.out;have:=b4.out;have:=cc.out;omega
              case rel=>exact ⟨(wrap64 (Y+1)),(a6),(a7),(a8),ww,H',⟨by have:=b3.out;have:=b4.out;have:=cc.out;omega⟩,⟨xf j.out⟩,⟨xf z.out⟩,⟨wx HB.out⟩⟩
             ·replace d9:=Bool.eq_false_iff.mpr d9
              subst d9;replace H:(some (rd y X,rd y a5,Y,true)) = some (r1,r2,r3,r4):=by rw [if_neg (show ¬ (false = true) by decide)] at H;exact H
              simp only [Option.some.injEq,Prod.mk.injEq] at H;obtain ⟨rfl,rfl,rfl,rfl⟩:=H;have hA:=a0.out;have hC:=a1.out;obtain ⟨eo,eq,es,et⟩:=xv j.out;obtain ⟨ao,aS,a3,d2,d3⟩:=At ab.out X;cases aS
              (try replace a3:=(HB.out.cell (World.block_lt_of_cell? w _ a3)).trans a3);obtain ⟨aP,b0,a4,d4,d5⟩:=At ab.out a5;obtain rfl:ao = aP:=(by injection b0)
              (try replace a4:=(HB.out.cell (World.block_lt_of_cell? w _ a4)).trans a4);go_wp2_with (first | ((with_reducible refine aD (f:=134) rfl ?_);refine ws (some 48) Tryz.func134 #[.int .i64 (rd y X),.int .i64 Y] ?_;(with_reducible refine (bZ.calls (rd y X) Y true _ d6.out).mono ?_);rintro e w' ⟨rfl,⟨nd,rfl⟩⟩;refine ⟨_,rfl,?_⟩;(try (rw [fu wr];generalize aR:World.drewN wr _ = wr;have cf:ae (wr.heap[aa]? = some (.cells #[.int .i64 a2,.slice (some ao) y.length am] 37 (0,0))):=⟨by rw [← aR];exact (xf j.out)⟩;have ci:ae (wr.heap[a9]? = some (.cells #[.int .i64 a6,.int .i64 a7,.int .i64 a8] 79 (0,0))):=⟨by rw [← aR];exact (xf z.out)⟩;have cp:ae (Below w.heap.size w wr):=⟨by rw [← aR];exact (wx HB.out)⟩;clear j z HB aR;have j:=cf;have z:=ci;have HB:=cp;clear cf ci cp;have ba:wr.cell? ⟨aa,0,none⟩ = some (.int .i64 a2):=(ah j.out 0).trans rfl;have bc:=aj j.out 0;have bi:wr.cell? ⟨aa,1,none⟩ = some (.slice (some ao) y.length am):=(ah j.out 1).trans rfl;have bm:=aj j.out 1;have bo:wr.cell? ⟨a9,0,none⟩ = some (.int .i64 a6):=(ah z.out 0).trans rfl;have bs:=aj z.out 0;have bv:wr.cell? ⟨a9,1,none⟩ = some (.int .i64 a7):=(ah z.out 1).trans rfl;have c0:=aj z.out 1;have c1:wr.cell? ⟨a9,2,none⟩ = some (.int .i64 a8):=(ah z.out 2).trans rfl;have ca:=aj z.out 2))) | (go_at_call 134;(with_reducible refine (bZ.calls (rd y a5) Y false _ dq.out).mono ?_);rintro e w' ⟨rfl,⟨nd,rfl⟩⟩;(try (rw [fu wr];generalize aR:World.drewN wr _ = wr;have cf:ae (wr.heap[aa]? = some (.cells #[.int .i64 a2,.slice (some ao) y.length am] 37 (0,0))):=⟨by rw [← aR];exact (xf j.out)⟩;have ci:ae (wr.heap[a9]? = some (.cells #[.int .i64 a6,.int .i64 a7,.int .i64 a8] 79 (0,0))):=⟨by rw [← aR];exact (xf z.out)⟩;have cp:ae (Below w.heap.size w wr):=⟨by rw [← aR];exact (wx HB.out)⟩;clear j z HB aR;have j:=cf;have z:=ci;have HB:=cp;clear cf ci cp;have ba:wr.cell? ⟨aa,0,none⟩ = some (.int .i64 a2):=(ah j.out 0).trans rfl;have bc:=aj j.out 0;have bi:wr.cell? ⟨aa,1,none⟩ = some (.slice (some ao) y.length am):=(ah j.out 1).trans rfl;have bm:=aj j.out 1;have bo:wr.cell? ⟨a9,0,none⟩ = some (.int .i64 a6):=(ah z.out 0).trans rfl;have bs:=aj z.out 0;have bv:wr.cell? ⟨a9,1,none⟩ = some (.int .i64 a7):=(ah z.out 1).trans rfl;have c0:=aj z.out 1;have c1:wr.cell? ⟨a9,2,none⟩ = some (.int .i64 a8):=(ah z.out 2).trans rfl;have ca:=aj z.out 2))) | (go_at_call 143;(with_reducible refine (aT.calls k3 a2 _ _ y (rd y X) (rd y a5) Y false _ ?side1 ?side2 eh.out).mono ?_);(case side1=>exact yi (Kd.aN ab.out HB.out));(case side2=>exact cb.out);rintro e i2 ⟨rfl,hb⟩;replace j:=xc j hb;replace z:=xc z hb;replace HB:=xi HB hb;(try clear hb);(try clear hz);(try clear hk);(try clear hi);obtain ⟨ev,ew,ex,ey,eQ,f0⟩:=af.pZ z.out));refine bodyPost_ret (eV rfl _ _ a9 79 #[.int .i64 (rd y X),.int .i64 (rd y a5),.int .i64 Y] (0,0) _ rfl AE Tryz.underlying79 rfl (by kernel_rfl)) rfl ?_;exact ⟨zd,wy⟩
           ·replace d7:=Bool.eq_false_iff.mpr d7
            subst d7;replace H:(av.l2 k3 X a5 (wrap64 (Y+1)) a2 y) = some (r1,r2,r3,r4):=by rw [if_neg (show ¬ (false = true) by decide)] at H;exact H
            have H':=ae.mk H;clear H;have hD:=a0.out;have hE:=a1.out;obtain ⟨f1,f2,f3,f4⟩:=xv j.out;obtain ⟨ao,aS,a3,d2,d3⟩:=At ab.out X;cases aS
            (try replace a3:=(HB.out.cell (World.block_lt_of_cell? w _ a3)).trans a3);obtain ⟨aP,b0,a4,d4,d5⟩:=At ab.out a5;obtain rfl:ao = aP:=(by injection b0)
            (try replace a4:=(HB.out.cell (World.block_lt_of_cell? w _ a4)).trans a4);go_wp2_with (first | ((with_reducible refine aD (f:=134) rfl ?_);refine ws (some 48) Tryz.func134 #[.int .i64 (rd y X),.int .i64 Y] ?_;(with_reducible refine (bZ.calls (rd y X) Y false _ d6.out).mono ?_);rintro e w' ⟨rfl,⟨nd,rfl⟩⟩;refine ⟨_,rfl,?_⟩));go_roundg k3;case measure=>have:=b3.out;have:=b4.out;have:=cc.out;omega
            case rel=>exact ⟨(wrap64 (Y+1)),(a6),(a7),(a8),ww,H',⟨by have:=b3.out;have:=b4.out;have:=cc.out;omega⟩,⟨xf j.out⟩,⟨xf z.out⟩,⟨wx HB.out⟩⟩
          ·rw [if_neg cx] at H
           have dp:decide (Y < a2) = false:=decide_eq_false cx;clear cx;have H':=ae.mk H;clear H;have hG:=a0.out;have hH:=a1.out;obtain ⟨f5,f6,f7,f8⟩:=xv j.out;go_wp2;go_roundg k3;case measure=>have:=b3.out;have:=b4.out;have:=cc.out;omega
           case rel=>exact ⟨(wrap64 (a5+1)),(a6),(a7),(a8),ww,H',⟨by have:=b3.out;have:=b4.out;have:=cc.out;omega⟩,⟨xf j.out⟩,⟨xf z.out⟩,⟨wx HB.out⟩⟩
       ·rw [if_neg cq] at H
        have dl:decide (a5 < (y.length:Int)) = false:=decide_eq_false cq;clear cq;have H':=ae.mk H;clear H;have hI:=a0.out;have hL:=a1.out;obtain ⟨f9,fd,fi,fj⟩:=xv j.out;go_wp2;go_roundg k2;case measure=>have:=b3.out;have:=b4.out;omega
        case rel=>exact ⟨(wrap64 (X+1)),(ap),(ar),(aw),ww,H',⟨by have:=b3.out;have:=b4.out;omega⟩,⟨xf j.out⟩,⟨xf z.out⟩,⟨wx HB.out⟩⟩
    ·rw [if_neg c8] at H
     have du:decide (X < (y.length:Int)) = false:=decide_eq_false c8;clear c8;simp only [Option.some.injEq,Prod.mk.injEq] at H;obtain ⟨rfl,rfl,rfl,rfl⟩:=H;have hM:=a0.out;have hP:=a1.out;obtain ⟨fp,fs,ft,fw⟩:=xv j.out;obtain ⟨g0,g1,g2,g3,g4,g5⟩:=af.pZ z.out;go_wp2;refine bodyPost_ret (eV rfl _ _ a9 79 #[.int .i64 0,.int .i64 0,.int .i64 0] (0,0) _ rfl AE Tryz.underlying79 rfl (by kernel_rfl)) rfl ?_;exact ⟨zd,wy⟩
 ·replace c3:=Bool.eq_false_iff.mpr c3
  subst c3;replace H:(some (0,0,0,false)) = some (r1,r2,r3,r4):=by rw [if_neg (show ¬ (false = true) by decide)] at H;exact H
  simp only [Option.some.injEq,Prod.mk.injEq] at H;obtain ⟨rfl,rfl,rfl,rfl⟩:=H;go_enter Tryz.func91,Tryz.ntmps91;go_wp2_with (first | ((with_reducible refine bu (N:=1) rfl ?_);refine zp 1 #[.int .i64 a2,.slice aB y.length am] 37 ?_;intro aa hg i3 hbox hb;have j:=ae.mk hbox;have db:=yv hg HB;have dd:=yv hg HB;replace HB:=xi HB hb;clear hb hbox hg) | ((with_reducible refine bu (N:=2) rfl ?_);refine zp 2 #[.int .i64 0,.int .i64 0,.int .i64 0] 79 ?_;intro a9 hg b2 hbox hb;have z:=ae.mk hbox;have df:=yv hg HB;have dk:=yv hg HB;replace HB:=xi HB hb;have a0:=AJ hg j;have a1:=AK hg j;replace j:=xc j hb;clear hb hbox hg;have hR:=a0.out;have hT:=a1.out;obtain ⟨g6,g7,g8,g9⟩:=xv j.out) | ((with_reducible refine aD (f:=92) rfl ?_);refine ws (some 13) Tryz.func92 #[.int .i64 a2,.slice aB y.length am] ?_;(with_reducible refine (bp.calls k a2 _ _ y false _ ?side1 ?side2 A2.out).mono ?_);(case side1=>exact yi (Kd.aN ab.out HB.out));(case side2=>exact cb.out);rintro e w' ⟨rfl,⟨nd,rfl⟩⟩;refine ⟨_,rfl,?_⟩;(try (rw [fu b2];generalize aR:World.drewN b2 _ = b2;have cf:ae (b2.heap[aa]? = some (.cells #[.int .i64 a2,.slice aB y.length am] 37 (0,0))):=⟨by rw [← aR];exact (xf j.out)⟩;have ci:ae (b2.heap[a9]? = some (.cells #[.int .i64 0,.int .i64 0,.int .i64 0] 79 (0,0))):=⟨by rw [← aR];exact (xf z.out)⟩;have cp:ae (Below w.heap.size w b2):=⟨by rw [← aR];exact (wx HB.out)⟩;clear j z HB aR;have j:=cf;have z:=ci;have HB:=cp;clear cf ci cp;have ba:b2.cell? ⟨aa,0,none⟩ = some (.int .i64 a2):=(ah j.out 0).trans rfl;have bc:=aj j.out 0;have bi:b2.cell? ⟨aa,1,none⟩ = some (.slice aB y.length am):=(ah j.out 1).trans rfl;have bm:=aj j.out 1;have bo:b2.cell? ⟨a9,0,none⟩ = some (.int .i64 0):=(ah z.out 0).trans rfl;have bs:=aj z.out 0;have bv:b2.cell? ⟨a9,1,none⟩ = some (.int .i64 0):=(ah z.out 1).trans rfl;have c0:=aj z.out 1;have c1:b2.cell? ⟨a9,2,none⟩ = some (.int .i64 0):=(ah z.out 2).trans rfl;have ca:=aj z.out 2));obtain ⟨gb,gc,go,gs,gt,h0⟩:=af.pZ z.out));refine bodyPost_ret (eV rfl _ _ a9 79 #[.int .i64 0,.int .i64 0,.int .i64 0] (0,0) _ rfl AE Tryz.underlying79 rfl (by kernel_rfl)) rfl ?_;exact ⟨zd,wy⟩
def aY.f (k:Nat) (y:Int) (j:List Int):Option (Bool):=(av.f k y j).bind fun z=>((bp.f k y j).bind fun X=>(if X = true then (if (j.length:Int) > 0 then (some (!z.2.2.2)) else (some false)) else (some false)))
theorem aY.mono:∀ a0 j k,gW (aY.f k a0 j) (aY.f (k+1) a0 j):=by
 intro a0 j k;unfold aY.f;exact AI
instance aY.m:af.V2 aY.f:=fun _ _ _=>⟨aY.mono _ _ _⟩
set_option maxHeartbeats 8000000 in
set_option maxRecDepth 100000 in
theorem aY.calls (k:Nat) (z:Int) (a0:Option Addr) (a1:Nat) (y:List Int) (r:Bool) (w:World) (a6:Kd.C (Kd.int .i64) w a0 y.length y) (a7:y.length≤a1) (h:aY.f k z y = some r) :
  Calls Tryz.prog 39 #[.agg #[.int .i64 z,.slice a0 y.length a1]] w fun e w'=>e = .returned (.bool r)∧Below w.heap.size w w':=by
 have dT:=Tryz.underlying37;have e0:=Tryz.underlying79;have a2:=ae.mk a6;have a3:=ae.mk a7;clear a6 a7;have HB:=ae.mk (Below.refl w.heap.size w);unfold aY.f at h;have H:=h;clear h;obtain ⟨⟨a8,a9,aa,a5⟩,A2,H⟩:=xa H;(try dsimp only at H);obtain ⟨aB,A3,H⟩:=xa H;(try dsimp only at H);by_cases c4:aB = true
 ·subst c4
  replace H:(if (y.length:Int) > 0 then (some (!a5)) else (some false)) = some r:=by rw [if_pos rfl] at H;exact H
  by_cases c5:(y.length:Int) > 0
  ·rw [if_pos c5] at H
   have aF:=decide_eq_true c5;have aL:decide (0 < y.length) = true:=decide_eq_true (by omega);clear c5;obtain rfl:=Option.some.inj H;go_enter Tryz.func39,Tryz.ntmps39;go_wp2_with (first | ((with_reducible refine bu (N:=1) rfl ?_);(try (refine eW (by rfl) ?_;dsimp only));refine fg ?hg (N:=1) ?hd (cs:=#[.int .i64 z,.slice a0 y.length a1]) (t:=37) ?hr ?_;(case hd=>rfl);(case hg=>rfl);(case hr=>first | (go_simp;done) | (go_simp;rfl));intro ab hg w6 hbox hb;have j:=ae.mk hbox;have am:=yv hg HB;have ao:=yv hg HB;replace HB:=xi HB hb;clear hb hbox hg;obtain ⟨df,dk,dl,dp⟩:=xv j.out) | (refine ws (some 7) Tryz.func91 #[.agg #[.int .i64 z,.slice a0 y.length a1]] ?_;(with_reducible refine (av.calls k z _ _ y a8 a9 aa a5 _ ?side1 ?side2 A2.out).mono ?_);(case side1=>exact yi (Kd.aN a2.out HB.out));(case side2=>exact a3.out);rintro e w8 ⟨rfl,hb⟩;refine ⟨_,rfl,?_⟩;replace j:=xc j hb;replace HB:=ae.mk (aq wy hb);(try clear hb);(try clear aO);(try clear hk);(try clear hi)) | ((with_reducible refine bu (N:=3) rfl ?_);(try (refine eW (by rfl) ?_;dsimp only));refine fg ?hg (N:=3) ?hd (cs:=#[.int .i64 0,.int .i64 0,.int .i64 0]) (t:=79) ?hr ?_;(case hd=>rfl);(case hg=>rfl);(case hr=>first | (go_simp;done) | (go_simp;rfl));intro ap hg w9 hbox hb;have a4:=ae.mk hbox;have ar:=AM (w:=w) hg wy;have aw:=AM (w:=w) hg wy;replace HB:=ae.mk (aq wy hb);have X:=AJ hg j;have Y:=AK hg j;replace j:=xc j hb;clear hb hbox hg;have dq:=Y.out;have dt:=X.out;obtain ⟨aP,aR,aS,b0,b2,b3⟩:=af.pZ a4.out;obtain ⟨b4,ba,bc,bi⟩:=xv j.out) | (refine ws (some 14) Tryz.func92 #[.int .i64 z,.slice a0 y.length a1] ?_;(with_reducible refine (bp.calls k z _ _ y true _ ?side1 ?side2 A3.out).mono ?_);(case side1=>exact Kd.aN a2.out wy);(case side2=>exact a3.out);rintro e w' ⟨rfl,⟨nd,rfl⟩⟩;refine ⟨_,rfl,?_⟩));go_ret;exact ⟨zd,wy⟩
  ·rw [if_neg c5] at H
   have aF:decide (0 < (y.length:Int)) = false:=decide_eq_false c5;have aL:decide (0 < y.length) = false:=decide_eq_false (by omega);clear c5;obtain rfl:=Option.some.inj H;go_enter Tryz.func39,Tryz.ntmps39;go_wp2_with (first | ((with_reducible refine bu (N:=1) rfl ?_);(try (refine eW (by rfl) ?_;dsimp only));refine fg ?hg (N:=1) ?hd (cs:=#[.int .i64 z,.slice a0 y.length a1]) (t:=37) ?hr ?_;(case hd=>rfl);(case hg=>rfl);(case hr=>first | (go_simp;done) | (go_simp;rfl));intro ab hg e1 hbox hb;have j:=ae.mk hbox;have am:=yv hg HB;have ao:=yv hg HB;replace HB:=xi HB hb;clear hb hbox hg;obtain ⟨bm,bo,bs,bv⟩:=xv j.out) | (refine ws (some 7) Tryz.func91 #[.agg #[.int .i64 z,.slice a0 y.length a1]] ?_;(with_reducible refine (av.calls k z _ _ y a8 a9 aa a5 _ ?side1 ?side2 A2.out).mono ?_);(case side1=>exact yi (Kd.aN a2.out HB.out));(case side2=>exact a3.out);rintro e e2 ⟨rfl,hb⟩;refine ⟨_,rfl,?_⟩;replace j:=xc j hb;replace HB:=ae.mk (aq wy hb);(try clear hb);(try clear aO);(try clear hk);(try clear hi)) | ((with_reducible refine bu (N:=3) rfl ?_);(try (refine eW (by rfl) ?_;dsimp only));refine fg ?hg (N:=3) ?hd (cs:=#[.int .i64 0,.int .i64 0,.int .i64 0]) (t:=79) ?hr ?_;(case hd=>rfl);(case hg=>rfl);(case hr=>first | (go_simp;done) | (go_simp;rfl));intro ap hg e3 hbox hb;have a4:=ae.mk hbox;have ar:=AM (w:=w) hg wy;have aw:=AM (w:=w) hg wy;replace HB:=ae.mk (aq wy hb);have X:=AJ hg j;have Y:=AK hg j;replace j:=xc j hb;clear hb hbox hg;have du:=Y.out;have dv:=X.out;obtain ⟨c0,c1,ca,cb,cc,ce⟩:=af.pZ a4.out;obtain ⟨cf,ci,cp,cq⟩:=xv j.out) | (refine ws (some 14) Tryz.func92 #[.int .i64 z,.slice a0 y.length a1] ?_;(with_reducible refine (bp.calls k z _ _ y true _ ?side1 ?side2 A3.out).mono ?_);(case side1=>exact Kd.aN a2.out wy);(case side2=>exact a3.out);rintro e w' ⟨rfl,⟨nd,rfl⟩⟩;refine ⟨_,rfl,?_⟩));go_ret;exact ⟨zd,wy⟩
 ·replace c4:=Bool.eq_false_iff.mpr c4
  subst c4;replace H:(some false) = some r:=by rw [if_neg (show ¬ (false = true) by decide)] at H;exact H
  obtain rfl:=Option.some.inj H;go_enter Tryz.func39,Tryz.ntmps39;go_wp2_with (first | ((with_reducible refine bu (N:=1) rfl ?_);(try (refine eW (by rfl) ?_;dsimp only));refine fg ?hg (N:=1) ?hd (cs:=#[.int .i64 z,.slice a0 y.length a1]) (t:=37) ?hr ?_;(case hd=>rfl);(case hg=>rfl);(case hr=>first | (go_simp;done) | (go_simp;rfl));intro ab hg e4 hbox hb;have j:=ae.mk hbox;have am:=yv hg HB;have ao:=yv hg HB;replace HB:=xi HB hb;clear hb hbox hg;obtain ⟨cx,cy,d0,d1⟩:=xv j.out) | (refine ws (some 7) Tryz.func91 #[.agg #[.int .i64 z,.slice a0 y.length a1]] ?_;(with_reducible refine (av.calls k z _ _ y a8 a9 aa a5 _ ?side1 ?side2 A2.out).mono ?_);(case side1=>exact yi (Kd.aN a2.out HB.out));(case side2=>exact a3.out);rintro e e5 ⟨rfl,hb⟩;refine ⟨_,rfl,?_⟩;replace j:=xc j hb;replace HB:=ae.mk (aq wy hb);(try clear hb);(try clear aO);(try clear hk);(try clear hi)) | ((with_reducible refine bu (N:=3) rfl ?_);(try (refine eW (by rfl) ?_;dsimp only));refine fg ?hg (N:=3) ?hd (cs:=#[.int .i64 0,.int .i64 0,.int .i64 0]) (t:=79) ?hr ?_;(case hd=>rfl);(case hg=>rfl);(case hr=>first | (go_simp;done) | (go_simp;rfl));intro ap hg e8 hbox hb;have a4:=ae.mk hbox;have ar:=AM (w:=w) hg wy;have aw:=AM (w:=w) hg wy;replace HB:=ae.mk (aq wy hb);have X:=AJ hg j;have Y:=AK hg j;replace j:=xc j hb;clear hb hbox hg;have dC:=Y.out;have dE:=X.out;obtain ⟨d2,d3,d4,d5,d6,d7⟩:=af.pZ a4.out;obtain ⟨d8,d9,db,dd⟩:=xv j.out) | (refine ws (some 14) Tryz.func92 #[.int .i64 z,.slice a0 y.length a1] ?_;(with_reducible refine (bp.calls k z _ _ y false _ ?side1 ?side2 A3.out).mono ?_);(case side1=>exact Kd.aN a2.out wy);(case side2=>exact a3.out);rintro e w' ⟨rfl,⟨nd,rfl⟩⟩;refine ⟨_,rfl,?_⟩));go_ret;exact ⟨zd,wy⟩
def aG (w0 W:World) (g:Nat) (f0:List Int) (f1:Int) (f2:Int):Prop:=∃ j y,W.heap[g]? = some (.cells #[.slice j f0.length y,.int .i64 f1,.int .i64 f2] 99 (0,0))∧w0.heap.size≤g∧Kd.C (Kd.int .u8) w0 j f0.length f0
theorem aG.grown {w0 W:World} {g:Nat} {f0:List Int} {f1:Int} {f2:Int} {W1:World} {row:Option Nat} (h:aG w0 W g f0 f1 f2) (hw:W.grownBy W1 row) (hne:some g≠row):aG w0 W1 g f0 f1 f2:=by
 obtain ⟨y,z,hb,hg,j⟩:=h;exact ⟨y,z,eR hb hw hne,hg,j⟩
theorem aG.kept {w0 W:World} {g:Nat} {f0:List Int} {f1:Int} {f2:Int} {W1:World} {S:Nat→Prop} (h:aG w0 W g f0 f1 f2) (hk:Kept W W1 S) (hne:¬ S g):aG w0 W1 g f0 f1 f2:=by
 obtain ⟨y,z,hb,hg,j⟩:=h;exact ⟨y,z,uO hb hk hne,hg,j⟩
theorem aG.below {w0 W:World} {g:Nat} {f0:List Int} {f1:Int} {f2:Int} {W1:World} (h:aG w0 W g f0 f1 f2) (hw:Below W.heap.size W W1):aG w0 W1 g f0 f1 f2:=h.grown (kI hw none) (by simp)
theorem aG.alloc {w0 W:World} {g:Nat} {f0:List Int} {f1:Int} {f2:Int} (h:aG w0 W g f0 f1 f2) (o:Obj):aG w0 (W.alloc o) g f0 f1 f2:=h.below (e6 (Below.refl _ _) o)
theorem aG.drewN {w0 W:World} {g:Nat} {f0:List Int} {f1:Int} {f2:Int} (h:aG w0 W g f0 f1 f2) (m:Nat):aG w0 (W.drewN m) g f0 f1 f2:=h
theorem aG.drew {w0 W:World} {g:Nat} {f0:List Int} {f1:Int} {f2:Int} (h:aG w0 W g f0 f1 f2):aG w0 W.drew g f0 f1 f2:=h
theorem aG.at_ {w0 W:World} {g:Nat} {f0:List Int} {f1:Int} {f2:Int} {w':World} {m:Nat} (hq:W.drewN m = w') (h:aG w0 W g f0 f1 f2):aG w0 w' g f0 f1 f2:=by subst hq;exact aG.drewN h m
theorem aG.apart {w0 W:World} {g:Nat} {f0:List Int} {f1:Int} {f2:Int} {α:Type} {d:Kd α} {e:Nat} {base:Nat} {ok:Nat→Prop} {v:Value} {xs:List α} (h:aG w0 W g f0 f1 f2) (ho:d.R e W base ok v xs) (ht:∀ q,q∈e :: d.E→q≠99):d.R e W base (fun k=>ok k∧k≠g) v xs:=by
 obtain ⟨y,z,hb,hg,j⟩:=h;exact Kd.cr ho hb ht
theorem aG.fY {w0 W:World} {g:Nat} {f0:List Int} {f1:Int} {f2:Int} {α:Type} {d:Kd α} {e:Nat} {base:Nat} {ok:Nat→Prop} {v:Value} {xs:List α} (h:aG w0 W g f0 f1 f2) (ho:d.R e W base ok v xs) (ht:e≠99):some g≠v.ownBlock:=by
 obtain ⟨y,z,hb,hg,j⟩:=h;exact Kd.jU ho hb ht
theorem aG.lt {w0 W:World} {g:Nat} {f0:List Int} {f1:Int} {f2:Int} (h:aG w0 W g f0 f1 f2):g < W.heap.size:=by
 obtain ⟨y,z,hb,hg,j⟩:=h;exact kJ hb
theorem aG.ge {w0 W:World} {g:Nat} {f0:List Int} {f1:Int} {f2:Int} (h:aG w0 W g f0 f1 f2):w0.heap.size≤g:=by
 obtain ⟨y,z,hb,hg,j⟩:=h;exact hg
theorem aG.jS {w0 W:World} {g:Nat} {f0:List Int} {f1:Int} {f2:Int} {a:Nat} {cs:Array Value} {t:TypeId} {fr:Nat×Nat} (h:aG w0 W g f0 f1 f2) (j:W.heap[a]? = some (.cells cs t fr)) (ht:t≠99):g≠a:=by
 obtain ⟨X,Y,hb,hg,z⟩:=h;rintro rfl
 rw [hb] at j;injection j with j
 injection j with _ y
 exact ht y.symm
theorem aG.Ar {w0 W:World} {g:Nat} {f0:List Int} {f1:Int} {f2:Int} {p:Addr} (h:aG w0 W g f0 f1 f2) (hne:g≠p.block) (u:Value):aG w0 (W.setCell p u) g f0 f1 f2:=by
 obtain ⟨y,z,hb,hg,j⟩:=h;exact ⟨y,z,nD hb hne u,hg,j⟩
theorem p8 {W:World} {g:Nat} {j:Option Addr} {y:Nat} {f0:List Int} {f1:Int} {f2:Int} (h:W.heap[g]? = some (.cells #[.slice j f0.length y,.int .i64 f1,.int .i64 f2] 99 (0,0))):W.cell? ⟨g,0,none⟩ = some (.slice j f0.length y):=(ah h 0).trans rfl
theorem pb {W:World} {g:Nat} {j:Option Addr} {y:Nat} {f0:List Int} {f1:Int} {f2:Int} (h:W.heap[g]? = some (.cells #[.slice j f0.length y,.int .i64 f1,.int .i64 f2] 99 (0,0))):W.cell? ⟨g,1,none⟩ = some (.int .i64 f1):=(ah h 1).trans rfl
theorem aG.zi {w0 W:World} {g:Nat} {f0:List Int} {f1:Int} {f2:Int} (h:aG w0 W g f0 f1 f2) (x:Int):aG w0 (W.setCell ⟨g,1,none⟩ (.int .i64 x)) g f0 x f2:=by
 obtain ⟨y,z,hb,hg,j⟩:=h;exact ⟨y,z,by simpa using pR hb 1 (.int .i64 x),hg,j⟩
theorem pc {W:World} {g:Nat} {j:Option Addr} {y:Nat} {f0:List Int} {f1:Int} {f2:Int} (h:W.heap[g]? = some (.cells #[.slice j f0.length y,.int .i64 f1,.int .i64 f2] 99 (0,0))):W.cell? ⟨g,2,none⟩ = some (.int .i64 f2):=(ah h 2).trans rfl
theorem aG.zj {w0 W:World} {g:Nat} {f0:List Int} {f1:Int} {f2:Int} (h:aG w0 W g f0 f1 f2) (x:Int):aG w0 (W.setCell ⟨g,2,none⟩ (.int .i64 x)) g f0 f1 x:=by
 obtain ⟨y,z,hb,hg,j⟩:=h;exact ⟨y,z,by simpa using pR hb 2 (.int .i64 x),hg,j⟩
theorem aG.new (w0 W:World) (j:Option Addr) (z:Nat) (f0:List Int) (f1:Int) (f2:Int) (hB:Below w0.heap.size w0 W) (y:Kd.C (Kd.int .u8) w0 j f0.length f0):aG w0 (W.alloc (.cells #[.slice j f0.length z,.int .i64 f1,.int .i64 f2] 99)) W.heap.size f0 f1 f2:=⟨j,z,by simpa using heap_alloc_new W _,hB.size,y⟩
def eA.f (z:List Int) (y:Int) (j:Int):Option (Int×Int×Int):=if y < (z.length:Int) then (if 0≤y then (some (Go.bits .and .i64 (wrap64 ((Go.bits .and .i64 (Go.bits .xor .i64 ((wrap64 ((wrap64 (j * 6364136223846793005))+1442695040888963407)) / 8589934592) ((wrap64 ((wrap64 (j * 6364136223846793005))+1442695040888963407)) / 35184372088832)) 255)+(wrap64 (rd z y)))) 255,wrap64 (y+1),wrap64 ((wrap64 (j * 6364136223846793005))+1442695040888963407))) else (none)) else (some (Go.bits .and .i64 (Go.bits .xor .i64 ((wrap64 ((wrap64 (j * 6364136223846793005))+1442695040888963407)) / 8589934592) ((wrap64 ((wrap64 (j * 6364136223846793005))+1442695040888963407)) / 35184372088832)) 255,y,wrap64 ((wrap64 (j * 6364136223846793005))+1442695040888963407)))
set_option maxHeartbeats 8000000 in
set_option maxRecDepth 100000 in
theorem eA.calls (g:Nat) (X:List Int) (z:Int) (a1:Int) (r1:Int) (r2:Int) (r3:Int) (w0 w:World) (hI:aG w0 w g X z a1) (hB:Below w0.heap.size w0 w) (h:eA.f X z a1 = some (r1,r2,r3)) :
  Calls Tryz.prog 178 #[.pointer (some ⟨g,0,none⟩)] w fun e w'=>e = .returned (.int .i64 r1)∧aG w0 w' g X r2 r3∧Below w0.heap.size w0 w'∧an w w' g none:=by
 have a5:=ae.mk hI;have HK:=ae.mk (an.refl w g none);have HL:=ae.mk hB.size;clear hI;have ba:=ae.mk hB.size;have HB:=ae.mk hB;clear hB;unfold eA.f at h;have H:=h;clear h;by_cases c2:z < (X.length:Int)
 ·rw [if_pos c2] at H
  have a7:=decide_eq_true c2;clear c2;obtain ⟨c3,H⟩:=xt H;have b4:=decide_eq_true c3;clear c3;simp only [Option.some.injEq,Prod.mk.injEq] at H;obtain ⟨rfl,rfl,rfl⟩:=H;obtain ⟨am,ao,Y,a8,a4⟩:=a5.out;have ap:=p8 Y;have ar:=pb Y;have aw:=pc Y;have aB:=aj Y 1;have aF:=aj Y 2;clear Y a8;have a2:0≤(z:Int):=yk;have a3:z < (X.length:Int):=yk;obtain ⟨a6,a9,j⟩:=Kd.fC a4 z a2 a3;cases a9
  have y:a6.block≠g:=Nat.ne_of_lt (Nat.lt_of_lt_of_le (by have:=World.block_lt_of_cell? _ _ j;first | rwa [fS] at this | exact this) (aG.ge a5.out));replace j:=gu HB.out j;replace j:=(cell_far (p:=⟨g,2,none⟩) (by first | (rw [fS];exact y) | (show (Addr.add _ _).block≠_;rw [fS];exact y) | exact y) (.int .i64 (wrap64 ((wrap64 (a1 * 6364136223846793005))+1442695040888963407)))).trans j;(try have aa:=fun (n_:Nat)=>(show (((w.drewN n_).setCell ⟨g,2,none⟩ (.int .i64 (wrap64 ((wrap64 (a1 * 6364136223846793005))+1442695040888963407))))).cell? _ = some _ from j));clear y;replace a2:=eq_true a2;replace a3:=eq_true a3;go_enter Tryz.func178,Tryz.ntmps178;go_wp2;repeat (go_quiet (fail);try go_wp2)
  go_ret;exact ⟨zd,xr,yr HB,y6 HK⟩
 ·rw [if_neg c2] at H
  have a7:decide (z < (X.length:Int)) = false:=decide_eq_false c2;clear c2;simp only [Option.some.injEq,Prod.mk.injEq] at H;obtain ⟨rfl,rfl,rfl⟩:=H;obtain ⟨aL,aO,a0,ab,aP⟩:=a5.out;have aR:=p8 a0;have aS:=pb a0;have b0:=pc a0;have b2:=aj a0 1;have b3:=aj a0 2;clear a0 ab;go_enter Tryz.func178,Tryz.ntmps178;go_wp2;repeat (go_quiet (fail);try go_wp2)
  go_ret;exact ⟨zd,xr,yr HB,y6 HK⟩
end Pr
end
end Go.Proofs.YtlfkfdmggpipbaaGreat
