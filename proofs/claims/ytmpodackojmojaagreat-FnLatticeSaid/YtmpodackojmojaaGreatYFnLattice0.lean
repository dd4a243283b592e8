/- The claim FnLattice: every text that its row comes to, laid together by slim.py (the words of the kit's print, the printed walks, the pure law, the row). -/
import Derived.ArgAppend
import Derived.Below
import Derived.BigQuiet
import Derived.ChangeArms
import Derived.ChangeOld
import Derived.DataReads
import Derived.Deep.AppendLies
import Derived.Deep.CutBlock
import Derived.Deep.DeepCutAuto
import Derived.Deep.Draws
import Derived.Deep.LoopGhost
import Derived.Deep.OwnRows
import Derived.Deep.QuietTactic
import Derived.Deep.RegionHeld3
import Derived.Deep.Slices
import Derived.KernelRfl
import Derived.Laws.BitsLemmas
import Derived.Laws.BytesArg
import Derived.Laws.IdiomCopy
import Derived.Laws.MakeOwn
import Derived.Laws.OwnMore
import Derived.Laws.Rows
import Derived.Laws.Slices
import Derived.Laws.StructEq
import Derived.Lib.AppendStr
import Derived.Lib.ConvBytes
import Derived.Lib.OwnBridge
import Derived.Lib.RowBridge
import Derived.Maps.AppendAt
import Derived.OpenShut
import Derived.OrdersHeld
import Derived.OwnWalk
import Derived.ProofKit
import Derived.RowKit
import Derived.RowKit3
import Derived.Shelf.SlGeneric
import Derived.Shelf.SlLaysF
import Derived.Shelf.Slices.CompactI
import Derived.Shelf.Slices.In.SortNone
import Derived.Shelf.Sort.Plain
import Derived.ShutString
import Derived.SizedLaws
import Derived.Sort.Grow
import Derived.Sort.OwnSortedInts
import Derived.Tactics
import Derived.Test.YtmpodackojmojaaGreatProg
import Derived.Test.YtmpodackojmojaaGreatRows
import Derived.WalkKit
import Derived.WideLaws
section
set_option linter.unusedVariables false
set_option linter.unusedSimpArgs false
namespace Go.Proofs.ag.aX
open Go.RowKit
structure ae (p:Prop):Prop where mk :: (out:p)
structure cS (w w':World):Prop where mk :: (out:∃ n,w' = w.drewN n)
theorem cS.refl (w:World):cS w w:=⟨⟨0,rfl⟩⟩
theorem cS.step {w w':World} (h:cS w w') (n:Nat):cS w (w'.drewN n):=by
 obtain ⟨m,rfl⟩:=h
 exact ⟨⟨m+n,World.drewN_drewN ..⟩⟩
theorem cS.grown {w w':World} (h:cS w w'):Grown w w':=by
 obtain ⟨n,rfl⟩:=h
 induction n with
 | zero=>exact Grown.refl _
 | succ n ih=>rw [← World.drew_drewN];exact Grown.drew ih
theorem cS.below {w w':World} (h:cS w w'):Below w.heap.size w w':=by
 obtain ⟨n,rfl⟩:=h
 induction n with
 | zero=>exact Below.refl _ _
 | succ n ih=>rw [← World.drew_drewN];exact ih.drew
def rd (xs:List Int) (i:Int):Int:=xs.getD i.toNat 0
def bt (s:ByteArray) (i:Int):Int:=if h:i.toNat < s.size then ((s[i.toNat]'h).toNat:Int) else 0
theorem iL (s:ByteArray) (i:Int):∀ h:i.toNat < s.size,((s[i.toNat]'h).toNat:Int) = bt s i:=fun h=>by simp [bt,h]
def lg (k:IntKind) (xs:List Int):List Value:=xs.map fun x=>.int k x
theorem oe (k:IntKind) (xs ys:List Int):lg k (xs ++ ys) = lg k xs ++ lg k ys:=by simp [lg]
theorem dX {w W:World} (h:Below w.heap.size w W) (o:Obj):Below w.heap.size w (W.alloc o):=h.alloc h.size o
theorem kB {B:Nat} {w W:World} (h:Below B w W):Below B w W.drew:=⟨h.os,h.tape,h.output,h.size,h.block⟩
theorem dY {B:Nat} {w W:World} (h:Below B w W) (n:Nat):Below B w (W.drewN n):=⟨h.os,h.tape,h.output,h.size,h.block⟩
theorem lX {B:Nat} {w w1 j:World} (h:Below B w w1) (hB:B≤w1.heap.size) (k:Below w1.heap.size w1 j):Below B w j :=
 h.trans ⟨k.os,k.tape,k.output,k.size,fun i hi=>k.block i (Nat.lt_of_lt_of_le hi hB)⟩
theorem jE {w w1:World} (h:Below w.heap.size w w1) (row:Option Nat):w.grownBy w1 row:=⟨h.os,h.tape,h.output,h.size,fun i hi _=>h.block i hi⟩
theorem gE {w w1:World} (h:Below w.heap.size w w1) {a:Addr} {v:Value} (hc:w.cell? a = some v):w1.cell? a = some v:=(h.cell (World.block_lt_of_cell? w a hc)).trans hc
theorem add_plain (g j:Nat):(⟨g,0,none⟩:Addr).add j = ⟨g,j,none⟩:=by unfold Addr.add;split <;> simp_all
def fk (w:World) (k:IntKind) (A:Option Addr) (n:Nat) (xs:List Int):Prop :=
 xs.length = n∧n≤9223372036854775807∧(0 < n→∃ ad,A = some ad∧∀ j,j < n→w.cell? (ad.add j) = some (.int k (xs.getD j 0)))
theorem fk.at_ {w:World} {k:IntKind} {A:Option Addr} {n:Nat} {xs:List Int} (h:fk w k A n xs) (i:Int) (h0:0≤i) (h1:i < n):∃ ad,A = some ad∧w.cell? (ad.add i.toNat) = some (.int k (rd xs i)):=by
 obtain ⟨ad,e,hc⟩:=h.2.2 (by omega)
 exact ⟨ad,e,hc _ (by omega)⟩
theorem fk.below {w w1:World} {k:IntKind} {A:Option Addr} {n:Nat} {xs:List Int} (h:fk w k A n xs) (hb:Below w.heap.size w w1):fk w1 k A n xs :=
 ⟨h.1,h.2.1,fun hn=>by
  obtain ⟨ad,e,hc⟩:=h.2.2 hn
  exact ⟨ad,e,fun j hj=>gE hb (hc j hj)⟩⟩
theorem td (W:World) (base:Nat) (e:TypeId) (size:Nat):W.ownsRow base e size (.slice none 0 0) 0 []:=⟨by simp,.inl ⟨rfl,rfl⟩⟩
theorem ir {w:World} {base:Nat} {e:TypeId} {size n:Nat} {v:Value} {xs:List Value} (h:w.ownsRow base e size v n xs) (k:Nat) (hk:v.ownBlock = some k):base≤k:=by
 rcases h.2 with ⟨rfl,_⟩ | ⟨g,cap,cur,rfl,hb,_⟩
 ·simp [Value.ownBlock] at hk
 ·have:g = k:=by simpa [Value.ownBlock] using hk
  omega
theorem ri {w:World} {base:Nat} {e:TypeId} {size n:Nat} {v:Value} {xs:List Value} (h:w.ownsRow base e size v n xs) (k:Nat) (hk:v.ownBlock = some k):k < w.heap.size:=by
 rcases h.2 with ⟨rfl,_⟩ | ⟨g,cap,cur,rfl,hb,hh,_⟩
 ·simp [Value.ownBlock] at hk
 ·have:g = k:=by simpa [Value.ownBlock] using hk
  subst this
  exact (Array.getElem?_eq_some_iff.1 hh).1
theorem ny {w w1:World} {base:Nat} {e:TypeId} {size n:Nat} {v:Value} {xs:List Value} (h:w.ownsRow base e size v n xs) (hb:Below w.heap.size w w1):w1.ownsRow base e size v n xs :=
 h.kept (jE hb none) (by cases v.ownBlock <;> simp)
theorem qB {w:World} {base n:Nat} {e:TypeId} {size:Nat} {v:Value} {xs:List Value} (h:w.ownsRow base e size v n xs):∃ A c,v = .slice A n c:=by
 rcases h.2 with ⟨rfl,rfl⟩ | ⟨g,cap,cur,rfl,_⟩
 ·exact ⟨none,0,rfl⟩
 ·exact ⟨_,cap,rfl⟩
theorem kC {P:Program} {w:World} {base n:Nat} {e' src dst e:TypeId} {v:Value} {xs:List Int} (hs:P.underlying src = some (.slice e)) (he:P.underlying e = some (.int .u8)) (hd:P.underlying dst = some .string)
  (h:w.ownsRow base e' 1 v n (lg .u8 xs)):(convert src dst v).run P w = .ok (.string (strOfNums xs)) w:=by
 have hl:xs.length = n:=by have:=h.1;simp [lg] at this;exact this
 rcases h.2 with ⟨rfl,rfl⟩ | ⟨g,cap,cur,rfl,_⟩
 ·obtain rfl:xs = []:=List.eq_nil_of_length_eq_zero hl
  exact run_convert_bytes_nil w src e hs he 0 0 dst hd
 ·refine run_convert_bytes_arg w src e hs he g 0 n cap xs hl (fun i hi=>?_) dst hd
  have hc:=h.cells (g:=g) rfl i (.int .u8 (xs.getD i 0)) (by simp [lg,List.getElem?_eq_getElem (show i < xs.length by omega),List.getD_eq_getElem?_getD])
  have ha:(⟨g,0,none⟩:Addr).add i = ⟨g,0+i,none⟩:=by unfold Addr.add;split <;> simp_all
  rwa [ha] at hc
def bytesOf (s:ByteArray):List Int:=s.data.toList.map fun b=>(b.toNat:Int)
theorem og (s:ByteArray):s.data.toList.length = s.size:=by rw [Array.length_toList];rfl
theorem lY (s:ByteArray):(bytesOf s).length = s.size:=by rw [bytesOf,List.length_map,og]
theorem fk.lG {w:World} {k:IntKind} {A:Option Addr} {n:Nat} {xs:List Int} (h:fk w k A n xs) (i:Nat) (hi:i≤n):fk w k A i (xs.take i):=by
 refine ⟨by rw [List.length_take,h.1];omega,by have:=h.2.1;omega,fun hp=>?_⟩
 obtain ⟨ad,e,hc⟩:=h.2.2 (by omega)
 refine ⟨ad,e,fun j hj=>?_⟩
 rw [hc j (by omega)]
 simp [List.getD_eq_getElem?_getD,hj]
def ic {α:Type} (a b:Option α):Prop:=∀ r,a = some r→b = some r
theorem ic.refl {α:Type} (a:Option α):ic a a:=fun _ h=>h
theorem ic.none {α:Type} (b:Option α):ic Option.none b:=fun _ h=>by cases h
theorem ic.trans {α:Type} {a b c:Option α} (h:ic a b) (k:ic b c):ic a c:=fun r hr=>k r (h r hr)
theorem ic.ite {α:Type} {c:Prop} [Decidable c] {a a' b b':Option α} (h:ic a a') (k:ic b b'):ic (if c then a else b) (if c then a' else b'):=by
 split
 ·exact h
 ·exact k
theorem ic.bind {α β:Type} {a a':Option α} {f f':α→Option β} (h:ic a a') (k:∀ x,ic (f x) (f' x)):ic (a.bind f) (a'.bind f'):=by
 intro r hr
 obtain ⟨x,hx,hf⟩:=Option.bind_eq_some_iff.1 hr
 exact Option.bind_eq_some_iff.2 ⟨x,h x hx,k x r hf⟩
theorem ic.map {α β:Type} {a a':Option α} (f:α→β) (h:ic a a'):ic (a.map f) (a'.map f):=by
 intro r hr
 obtain ⟨x,hx,hf⟩:=Option.map_eq_some_iff.1 hr
 exact Option.map_eq_some_iff.2 ⟨x,h x hx,hf⟩
def cV {α:Type} (R:α→List Value→Prop) (size:Nat) (ps:List α) (cs:List Value):Prop :=
 cs.length = ps.length * size∧∀ j p,ps[j]? = some p→R p ((cs.drop (j * size)).take size)
theorem cV.none {α:Type} (R:α→List Value→Prop) (size:Nat):cV R size [] []:=⟨by simp,fun j p h=>by simp at h⟩
theorem cV.snoc {α:Type} {R:α→List Value→Prop} {size:Nat} {ps:List α} {cs c:List Value} {p:α} (h:cV R size ps cs) (hp:R p c) (hc:c.length = size):cV R size (ps ++ [p]) (cs ++ c):=by
 refine ⟨by rw [List.length_append,h.1,hc,List.length_append,List.length_singleton,Nat.add_mul,Nat.one_mul],fun j q hq=>?_⟩
 rcases Nat.lt_or_ge j ps.length with hj | hj
 ·rw [List.getElem?_append_left hj] at hq
  have h1:j * size+size≤cs.length:=by rw [h.1,← Nat.succ_mul];exact Nat.mul_le_mul_right _ hj
  have h2:=h.2 j q hq
  rw [List.drop_append_of_le_length (by omega),List.take_append_of_le_length (by rw [List.length_drop];omega)]
  exact h2
 ·have hj':j = ps.length:=by
   have:=(List.getElem?_eq_some_iff.1 hq).1
   rw [List.length_append,List.length_singleton] at this
   omega
  subst hj'
  have hq':p = q:=by simpa using hq
  subst hq'
  rw [← h.1,List.drop_left,← hc,List.take_length]
  exact hp
theorem cV.jq {α:Type} {R R':α→List Value→Prop} {size:Nat} {ps:List α} {cs:List Value} (h:cV R size ps cs) (hR:∀ p c,R p c→R' p c):cV R' size ps cs:=⟨h.1,fun j p hj=>hR _ _ (h.2 j p hj)⟩
def fl {α:Type} (R:α→List Value→Prop) (size:Nat) (w:World) (A:Option Addr) (n:Nat) (ps:List α):Prop :=
 ps.length = n∧n≤9223372036854775807∧(0 < n→∃ ad,A = some ad∧∀ j p,ps[j]? = some p→∃ c,c.length = size∧R p c∧∀ i u,c[i]? = some u→w.cell? (ad.add (j * size+i)) = some u)
theorem fl.wu {α:Type} {R:α→List Value→Prop} {size:Nat} {w:World} {A:Option Addr} {n:Nat} {ps:List α} (h:fl R size w A n ps) (d:α) (i:Int) (h0:0≤i) (h1:i < n) :
  ∃ ad c,A = some ad∧c.length = size∧R (ps.getD i.toNat d) c∧∀ j u,c[j]? = some u→w.cell? (ad.add (i.toNat * size+j)) = some u:=by
 obtain ⟨ad,e,hc⟩:=h.2.2 (by omega)
 have hl:i.toNat < ps.length:=by have:=h.1;omega
 obtain ⟨c,hs,hr,hcell⟩:=hc i.toNat _ (List.getElem?_eq_getElem hl)
 refine ⟨ad,c,e,hs,?_,hcell⟩
 rw [List.getD_eq_getElem?_getD,List.getElem?_eq_getElem hl]
 exact hr
theorem fl.jq {α:Type} {R R':α→List Value→Prop} {size:Nat} {w w1:World} {A:Option Addr} {n:Nat} {ps:List α} (h:fl R size w A n ps) (hb:Below w.heap.size w w1) (hR:∀ p c,R p c→R' p c):fl R' size w1 A n ps :=
 ⟨h.1,h.2.1,fun hn=>by
  obtain ⟨ad,e,hc⟩:=h.2.2 hn
  refine ⟨ad,e,fun j p hj=>?_⟩
  obtain ⟨c,hs,hr,hcell⟩:=hc j p hj
  exact ⟨c,hs,hR _ _ hr,fun i u hu=>gE hb (hcell i u hu)⟩⟩
theorem mU {α:Type} {R:α→List Value→Prop} {w:World} {base n size:Nat} {e:TypeId} {v:Value} {ps:List α} {cs:List Value} (h:w.ownsRow base e size v n cs) (hR:cV R size ps cs) (hn:ps.length = n) :
  ∃ A c,v = .slice A n c∧fl R size w A n ps:=by
 rcases Nat.eq_zero_or_pos n with h0 | h0
 ·rcases h.2 with ⟨rfl,rfl⟩ | ⟨g,cap,cur,rfl,_⟩
  ·exact ⟨none,0,rfl,hn,by omega,fun hp=>absurd hp (by omega)⟩
  ·exact ⟨_,cap,rfl,hn,by omega,fun hp=>absurd hp (by omega)⟩
 ·obtain ⟨g,cap,rfl,_,_⟩:=h.form h0
  have hm:n≤9223372036854775807:=by
   rcases h.2 with ⟨_,h1⟩ | ⟨g',cap',cur,he,_,_,h1,h2,_⟩
   ·omega
   ·simp only [maxLen] at h2
    omega
  refine ⟨_,cap,rfl,hn,hm,fun _=>⟨_,rfl,fun j p hj=>⟨(cs.drop (j * size)).take size,?_,hR.2 j p hj,fun i u hu=>?_⟩⟩⟩
  ·have hjl:=(List.getElem?_eq_some_iff.1 hj).1
   have h1:j * size+size≤cs.length:=by rw [hR.1,← Nat.succ_mul];exact Nat.mul_le_mul_right _ hjl
   rw [List.length_take,List.length_drop]
   omega
  ·refine h.cells (g:=g) rfl _ u ?_
   rw [List.getElem?_take] at hu
   split at hu
   ·rw [List.getElem?_drop] at hu
    exact hu
   ·cases hu
section
variable {P:Program} {ops:Array Oper} {rest:List Oper} {o:Oper} {a:Act} {Q:Exit→Act→World→Prop}
theorem iM {w0 W:World} (base:Nat) (hgd:o.guard = none) (s x:Operand) (t e:TypeId) (z:Value) (size bytes:Nat)
  (ho:o.op = .call { callee:=.builtin .append,args:=#[s,x],argTypes:=#[t,t] })
  (ht:P.underlying t = some (.slice e)) (hinfo:(P.info? e).map (fun i=>(i.zero,i.size,i.bytes)) = some (some z,size,bytes)) (hz:z.cells.size = size) (j:0 < size) (y:0 < bytes)
  (v:Value) (n:Nat) (xs ys:List Value) (hs:a.eval s = v) (hx:a.eval x = .slice (some ⟨W.heap.size,0,none⟩) 1 1) (hys:ys.length = size) (h1:∀ u∈ys,u.oneCell' = true)
  (HO:W.ownsRow base e size v n xs) (HB:Below base w0 W) (hbase:base≤W.heap.size) (hl:(n+1) * bytes≤140737488355328)
  (h:∀ v1 w1,w1.ownsRow base e size v1 (n+1) (xs ++ ys)→Below base w0 w1→W.grownBy w1 v.ownBlock→(v1.ownBlock = v.ownBlock∨∃ b,v1.ownBlock = some b∧W.heap.size≤b)→wpList P ops Q rest (a.put o.dst v1) w1) :
  wpList P ops Q (o :: rest) a (W.alloc (.cells ys.toArray e)):=by
 obtain ⟨i0,hi,hzz⟩:=Option.map_eq_some_iff.1 hinfo
 simp only [Prod.mk.injEq] at hzz
 obtain ⟨X,Y,a0⟩:=hzz
 have hlen:n+1≤140737488355328:=Nat.le_trans (Nat.le_mul_of_pos_right _ y) hl
 refine wpList_append_own_at (W.alloc (.cells ys.toArray e)) hgd s x t ho base e i0 z size bytes ht hi X Y a0 hz j v n xs hs (HO.alloc _) ⟨W.heap.size,0,none⟩ 1 1 ys hx (by rw [hys];simp)
  (by simpa using World.news_of_block (cs:=ys.toArray) (t:=e) (fr:=(0,0)) (heap_alloc_new W (.cells ys.toArray e))) h1 (by simp only [maxLen];omega) hl (by simp;omega) ?_
 intro v1 w1 hown hg _ hat
 refine h v1 w1 hown ((HB.alloc hbase _).grown hg (by simp;omega) (ir HO)) (World.grownBy.trans (World.grownBy_alloc W _ _) hg) ?_
 rcases hat with hat | hat
 ·exact .inl hat
 ·exact .inr ⟨_,hat,by simp⟩
end
theorem fU {w:World} {base:Nat} {e t:TypeId} {size n g:Nat} {v:Value} {xs:List Value} {cs:Array Value} (h:w.ownsRow base e size v n xs) (hg:w.heap[g]? = some (.cells cs t (0,0))) (hne:e≠t):some g≠v.ownBlock:=by
 rcases h.2 with ⟨rfl,_⟩ | ⟨g',cap,cur,rfl,_,hh,_⟩
 ·simp [Value.ownBlock]
 ·intro he
  have:g = g':=by simpa [Value.ownBlock] using he
  subst this
  rw [hg] at hh
  injection hh with hh
  injection hh with _ ht
  exact hne ht.symm
theorem oh {w:World} {base:Nat} {e:TypeId} {size n:Nat} {v:Value} {xs:List Value} (h:w.ownsRow base e size v n xs) {p:Addr} (hne:some p.block≠v.ownBlock) (u:Value):(w.setCell p u).ownsRow base e size v n xs:=by
 obtain ⟨h1,h2⟩:=h
 refine ⟨h1,?_⟩
 rcases h2 with h2 | ⟨g,cap,cur,rfl,hg,hh,r⟩
 ·exact .inl h2
 ·exact .inr ⟨g,cap,cur,rfl,hg,by rw [Below.heap_setCell _ _ _ _ (fun e=>hne (by rw [e];rfl))];exact hh,r⟩
theorem nA {w:World} {g:Nat} {t:TypeId} {cs:Array Value} (h:w.heap[g]? = some (.cells cs t (0,0))) (i:Nat) (u:Value):(w.setCell ⟨g,i,none⟩ u).heap[g]? = some (.cells (cs.setIfInBounds i u) t (0,0)):=by
 simp [World.setCell,Array.getElem?_modify,h]
theorem lU {w:World} {g:Nat} {t:TypeId} {cs:Array Value} (h:w.heap[g]? = some (.cells cs t (0,0))) {p:Addr} (hp:g≠p.block) (u:Value):(w.setCell p u).heap[g]? = some (.cells cs t (0,0)):=(Below.heap_setCell w p u g hp).trans h
theorem jF {w:World} {g:Nat} {o:Obj} (h:w.heap[g]? = some o):g < w.heap.size:=(Array.getElem?_eq_some_iff.1 h).1
theorem ak {w:World} {g:Nat} {t:TypeId} {cs:Array Value} (h:w.heap[g]? = some (.cells cs t (0,0))) (i:Nat):w.cell? ⟨g,i,none⟩ = cs[i]?:=cell_of_row w g i cs t (0,0) h
theorem au {w:World} {g:Nat} {t:TypeId} {cs:Array Value} (h:w.heap[g]? = some (.cells cs t (0,0))) (i:Nat):w.frozen? ⟨g,i,none⟩ = false:=by simp [World.frozen?,h]
theorem dJ {w w1:World} {g:Nat} {o:Obj} {row:Option Nat} (h:w.heap[g]? = some o) (hg:w.grownBy w1 row) (hne:some g≠row):w1.heap[g]? = some o:=(hg.block g (jF h) hne).trans h
def an (w w':World) (g:Nat) (row:Option Nat):Prop:=w.heap.size≤w'.heap.size∧∀ i,i < w.heap.size→i≠g→some i≠row→w'.heap[i]? = w.heap[i]?
theorem an.refl (w:World) (g:Nat) (row:Option Nat):an w w g row:=⟨Nat.le_refl _,fun _ _ _ _=>rfl⟩
theorem an.iu {w w1:World} {row:Option Nat} (h:w.grownBy w1 row) (g:Nat):an w w1 g row:=⟨h.size,fun i hi _ hr=>h.block i hi hr⟩
theorem an.cW {w w1:World} (h:Below w.heap.size w w1) (g:Nat) (row:Option Nat):an w w1 g row:=⟨h.size,fun i hi _ _=>h.block i hi⟩
theorem an.vy {w w1:World} {g:Nat} {row:Option Nat} (h:an w w1 g row) (j:Nat) (u:Value):an w (w1.setCell ⟨g,j,none⟩ u) g row :=
 ⟨by simpa [World.setCell] using h.1,fun i hi hg hr=>(Below.heap_setCell w1 ⟨g,j,none⟩ u i hg).trans (h.2 i hi hg hr)⟩
theorem an.trans {w w1 y:World} {g:Nat} {row j:Option Nat} (h:an w w1 g row) (k:an w1 y g j) (hr:j = row∨∃ b,j = some b∧w.heap.size≤b):an w y g row :=
 ⟨Nat.le_trans h.1 k.1,fun i hi hg hn=>by
  refine (k.2 i (Nat.lt_of_lt_of_le hi h.1) hg ?_).trans (h.2 i hi hg hn)
  rcases hr with rfl | ⟨b,rfl,hb⟩
  ·exact hn
  ·intro e
   injection e with e
   omega⟩
theorem an.blk {w w1:World} {g g':Nat} {row:Option Nat} {o:Obj} (h:an w w1 g row) (hb:w.heap[g']? = some o) (hg:g'≠g) (hr:some g'≠row):w1.heap[g']? = some o:=(h.2 g' (jF hb) hg hr).trans hb
theorem an.own {w w1:World} {g:Nat} {row:Option Nat} {base:Nat} {e:TypeId} {size n:Nat} {v:Value} {xs:List Value} (h:an w w1 g row) (ho:w.ownsRow base e size v n xs) (hg:v.ownBlock≠some g) (hr:v.ownBlock = none∨v.ownBlock≠row):w1.ownsRow base e size v n xs:=by
 obtain ⟨h1,h2⟩:=ho
 refine ⟨h1,?_⟩
 rcases h2 with h2 | ⟨b,cap,cur,rfl,hb,hh,r⟩
 ·exact .inl h2
 ·refine .inr ⟨b,cap,cur,rfl,hb,h.blk hh ?_ ?_,r⟩
  ·intro e
   exact hg (by rw [← e];rfl)
  ·rcases hr with hr | hr
   ·simp [Value.ownBlock] at hr
   ·exact hr
def Ev {α:Type} (g:Nat→Option α) (r:α):Prop:=∃ K,∀ k,K≤k→g k = some r
theorem Ev.now {α:Type} (r:α):Ev (fun _=>some r) r:=⟨0,fun _ _=>rfl⟩
theorem Ev.rounds {α:Type} {g:Nat→Option α} {r:α} (h:Ev g r):∃ k,g k = some r:=by
 obtain ⟨K,h⟩:=h
 exact ⟨K,h K (Nat.le_refl _)⟩
theorem Ev.bind {α β:Type} {g:Nat→Option α} {f:Nat→α→Option β} {a:α} {r:β} (h:Ev g a) (k:Ev (fun n=>f n a) r):Ev (fun n=>(g n).bind (f n)) r:=by
 obtain ⟨K,h⟩:=h
 obtain ⟨K',k⟩:=k
 refine ⟨max K K',fun n hn=>?_⟩
 have h1:=h n (by omega)
 have h2:=k n (by omega)
 simp only [h1,Option.bind_some]
 exact h2
theorem Ev.step {α:Type} {g f:Nat→Option α} {r:α} (h:∀ k,g (k+1) = f k) (k:Ev f r):Ev g r:=by
 obtain ⟨K,k⟩:=k
 refine ⟨K+1,fun n hn=>?_⟩
 obtain ⟨m,rfl⟩:∃ m,n = m+1:=⟨n - 1,by omega⟩
 rw [h]
 exact k m (by omega)
theorem Ev.congr {α:Type} {g f:Nat→Option α} {r:α} (h:∀ k,g k = f k) (k:Ev f r):Ev g r:=by
 obtain ⟨K,k⟩:=k
 exact ⟨K,fun n hn=>(h n).trans (k n hn)⟩
section
variable {P:Program} {ops:Array Oper} {o:Oper} {a:Act} {Q:Exit→Act→World→Prop} {K:Act→World→Prop}
theorem kQ {w0 W:World} (base:Nat) (hw:Region.wanted o (yielded ops a.tmps) = true) (s x:Operand) (t e:TypeId) (z:Value) (size bytes:Nat)
  (ho:o.op = .call { callee:=.builtin .append,args:=#[s,x],argTypes:=#[t,t] })
  (ht:P.underlying t = some (.slice e)) (hinfo:(P.info? e).map (fun i=>(i.zero,i.size,i.bytes)) = some (some z,size,bytes)) (hz:z.cells.size = size) (j:0 < size) (y:0 < bytes)
  (v:Value) (n:Nat) (xs ys:List Value) (hs:a.eval s = v) (hx:a.eval x = .slice (some ⟨W.heap.size,0,none⟩) 1 1) (hys:ys.length = size) (h1:∀ u∈ys,u.oneCell' = true)
  (HO:W.ownsRow base e size v n xs) (HB:Below base w0 W) (hbase:base≤W.heap.size) (hl:(n+1) * bytes≤140737488355328)
  (h:∀ v1 w1,w1.ownsRow base e size v1 (n+1) (xs ++ ys)→Below base w0 w1→W.grownBy w1 v.ownBlock→(v1.ownBlock = v.ownBlock∨∃ b,v1.ownBlock = some b∧W.heap.size≤b)→K (a.put o.dst v1) w1) :
  if Region.wanted o (yielded ops a.tmps) = true then Oper.wp P o a (W.alloc (.cells ys.toArray e)) K Q else K (a.put o.dst undef) (W.alloc (.cells ys.toArray e)):=by
 obtain ⟨i0,hi,hzz⟩:=Option.map_eq_some_iff.1 hinfo
 simp only [Prod.mk.injEq] at hzz
 obtain ⟨X,Y,a0⟩:=hzz
 have hlen:n+1≤140737488355328:=Nat.le_trans (Nat.le_mul_of_pos_right _ y) hl
 rw [if_pos hw]
 obtain ⟨v1,w1,hr,hown,hg,_,hat⟩:=run_append_own_at (P:=P) (W.alloc (.cells ys.toArray e)) base t o.type e i0 z size bytes ht hi X Y a0 hz j v n xs (HO.alloc _) ⟨W.heap.size,0,none⟩ 1 1 ys (by rw [hys];simp)
  (by simpa using World.news_of_block (cs:=ys.toArray) (t:=e) (fr:=(0,0)) (heap_alloc_new W (.cells ys.toArray e))) h1 (by simp only [maxLen];omega) hl (by simp;omega)
 unfold Oper.wp execOp
 simp only [ho,resolve,invoke,builtin,Sem.run_bind,Sem.run_pure,Result.andThen_ok,List.map_toArray,List.map_cons,List.map_nil,hs,hx,hr]
 refine h v1 w1 hown ((HB.alloc hbase _).grown hg (by simp;omega) (ir HO)) (World.grownBy.trans (World.grownBy_alloc W _ _) hg) ?_
 rcases hat with hat | hat
 ·exact .inl hat
 ·exact .inr ⟨_,hat,by simp⟩
end
theorem p4 {w:World} {base base':Nat} {e:TypeId} {size n:Nat} {v:Value} {xs:List Value} (h:w.ownsRow base e size v n xs) (hb:base'≤base):w.ownsRow base' e size v n xs:=by
 obtain ⟨h1,h2⟩:=h
 refine ⟨h1,?_⟩
 rcases h2 with h2 | ⟨g,cap,cur,rfl,hg,r⟩
 ·exact .inl h2
 ·exact .inr ⟨g,cap,cur,rfl,Nat.le_trans hb hg,r⟩
section
variable {α:Type} {enc:α→Value} {d:α}
def jd (enc:α→Value) (xs:List α):List Value:=xs.map enc
def fm (d:α) (xs:List α) (i:Int):α:=xs.getD i.toNat d
theorem lH (xs:List α):(jd enc xs).length = xs.length:=by simp [jd]
theorem rj (xs:List α) (j:Nat) (h:j < xs.length):(jd enc xs)[j]? = some (enc (xs.getD j d)):=by
 simp [jd,List.getElem?_eq_getElem h,List.getD_eq_getElem?_getD]
def fo (enc:α→Value) (d:α) (w:World) (A:Option Addr) (n:Nat) (xs:List α):Prop :=
 xs.length = n∧n≤9223372036854775807∧(0 < n→∃ ad,A = some ad∧∀ j,j < n→w.cell? (ad.add j) = some (enc (xs.getD j d)))
theorem fo.at_ {w:World} {A:Option Addr} {n:Nat} {xs:List α} (h:fo enc d w A n xs) (i:Int) (h0:0≤i) (h1:i < n):∃ ad,A = some ad∧w.cell? (ad.add i.toNat) = some (enc (fm d xs i)):=by
 obtain ⟨ad,e,hc⟩:=h.2.2 (by omega)
 exact ⟨ad,e,hc _ (by omega)⟩
theorem fo.below {w w1:World} {A:Option Addr} {n:Nat} {xs:List α} (h:fo enc d w A n xs) (hb:Below w.heap.size w w1):fo enc d w1 A n xs :=
 ⟨h.1,h.2.1,fun hn=>by
  obtain ⟨ad,e,hc⟩:=h.2.2 hn
  exact ⟨ad,e,fun j hj=>gE hb (hc j hj)⟩⟩
theorem fo.lG {w:World} {A:Option Addr} {n:Nat} {xs:List α} (h:fo enc d w A n xs) (i:Nat) (hi:i≤n):fo enc d w A i (xs.take i):=by
 refine ⟨by rw [List.length_take,h.1];omega,by have:=h.2.1;omega,fun hp=>?_⟩
 obtain ⟨ad,e,hc⟩:=h.2.2 (by omega)
 refine ⟨ad,e,fun j hj=>?_⟩
 rw [hc j (by omega)]
 simp [List.getD_eq_getElem?_getD,hj]
theorem qC {W:World} {base g n cap:Nat} {e:TypeId} {xs:List α} (h:W.ownsRow base e 1 (.slice (some ⟨g,0,none⟩) n cap) n (jd enc xs)) (i:Int) (h0:0≤i) (h1:i < n) :
  W.cell? ⟨g,i.toNat,none⟩ = some (enc (fm d xs i))∧W.frozen? ⟨g,i.toNat,none⟩ = false:=by
 have hl:xs.length = n:=by have:=h.1;simp [jd] at this;exact this
 constructor
 ·have hc:=h.cells (g:=g) rfl i.toNat _ (rj (d:=d) xs i.toNat (by omega))
  rwa [add_plain] at hc
 ·rcases h.2 with ⟨h',_⟩ | ⟨g',cap',cur,h',_,hh,_⟩
  ·cases h'
  ·have:g = g':=by injection h' with h';injection h' with h';injection h' with h'
   subst this
   simp [World.frozen?,hh]
theorem nB {W:World} {base g n cap:Nat} {e:TypeId} {xs:List α} (h:W.ownsRow base e 1 (.slice (some ⟨g,0,none⟩) n cap) n (jd enc xs)) (i:Int) (x:α) :
  (W.setCell ⟨g,i.toNat,none⟩ (enc x)).ownsRow base e 1 (.slice (some ⟨g,0,none⟩) n cap) n (jd enc (xs.set i.toNat x))∧W.grownBy (W.setCell ⟨g,i.toNat,none⟩ (enc x)) (some g):=by
 have hs:=h.stored i.toNat (enc x)
 have he:(jd enc xs).set i.toNat (enc x) = jd enc (xs.set i.toNat x):=by simp [jd,List.map_set]
 rwa [he] at hs
end
theorem gx {w:World} {g:Nat} {o:Obj} (h:w.heap[g]? = some o) (o':Obj):(w.alloc o').heap[g]? = some o:=(Below.heap_alloc w o' g (jF h)).trans h
theorem cO {w:World} {g:Nat} {o:Obj} (h:w.heap[g]? = some o):w.drew.heap[g]? = some o:=h
theorem hJ {w:World} {g:Nat} {o:Obj} (h:w.heap[g]? = some o) (n:Nat):(w.drewN n).heap[g]? = some o:=h
theorem b7 {w w1:World} {g:Nat} {o:Obj} (h:w.heap[g]? = some o) (hb:Below w.heap.size w w1):w1.heap[g]? = some o:=(hb.block g (jF h)).trans h
theorem tf (w:World) (o:Obj):(w.alloc o).heap[w.heap.size]? = some o:=heap_alloc_new w o
section
variable {P:Program}
theorem eJ {fn:Func} {p u:Tmp} {ty:TypeId} (h:fn.results = #[.cell p ty,.tmp u]) (tmps:Array Value) (w:World) (g:Nat) (t:TypeId) (cs:Array Value) (fr:Nat×Nat) (d:TypeDesc)
  (hp:tmps.getD p undef = .pointer (some ⟨g,0,none⟩)) (hg:w.heap[g]? = some (.cells cs t fr))
  (hu:P.underlying ty = some d) (hd:(match d with | .struct _ | .array _ _=>true | _=>false) = true) (hi:(P.info? ty).map (·.size) = some cs.size) :
  (results fn tmps).run P w = .ok (.tuple #[.agg cs,tmps.getD u undef]) w:=by
 have hp':tmps[p]?.getD undef = .pointer (some ⟨g,0,none⟩):=by simpa using hp
 simp [results,h,hp',asAddr,run_loadVar_row w g t ty cs fr d hg hu hd hi]
theorem jG {fn:Func} {p u v:Tmp} {ty:TypeId} (h:fn.results = #[.cell p ty,.tmp u,.tmp v]) (tmps:Array Value) (w:World) (g:Nat) (t:TypeId) (cs:Array Value) (fr:Nat×Nat) (d:TypeDesc)
  (hp:tmps.getD p undef = .pointer (some ⟨g,0,none⟩)) (hg:w.heap[g]? = some (.cells cs t fr))
  (hu:P.underlying ty = some d) (hd:(match d with | .struct _ | .array _ _=>true | _=>false) = true) (hi:(P.info? ty).map (·.size) = some cs.size) :
  (results fn tmps).run P w = .ok (.tuple #[.agg cs,tmps.getD u undef,tmps.getD v undef]) w:=by
 have hp':tmps[p]?.getD undef = .pointer (some ⟨g,0,none⟩):=by simpa using hp
 simp [results,h,hp',asAddr,run_loadVar_row w g t ty cs fr d hg hu hd hi]
end
theorem ux {w:World} {base n m c size:Nat} {e:TypeId} {A:Option Addr} {xs:List Value} (h:w.ownsRow base e size (.slice A m c) n xs):m≤c:=by
 rcases h.2 with ⟨he,_⟩ | ⟨g,cap,cur,he,_,_,hnc,_⟩
 ·injection he with _ h2 h3
  omega
 ·injection he with _ h2 h3
  omega
def fe {α:Type} (R:α→List Value→Prop) (e:TypeId) (size:Nat) (w:World) (base:Nat) (v:Value) (ps:List α):Prop :=
 ∃ inner,w.ownsRow base e size v ps.length inner∧cV R size ps inner
section
variable {α:Type} {R R':α→List Value→Prop} {e:TypeId} {size:Nat} {w w1:World} {base:Nat} {v:Value} {ps:List α}
theorem fe.none_ (R:α→List Value→Prop) (e:TypeId) (size:Nat) (w:World) (base:Nat):fe R e size w base (.slice none 0 0) []:=⟨[],td _ _ _ _,cV.none _ _⟩
theorem fe.jq (h:fe R e size w base v ps) (hR:∀ p c,R p c→R' p c):fe R' e size w base v ps:=by
 obtain ⟨inner,ho,hr⟩:=h
 exact ⟨inner,ho,hr.jq hR⟩
theorem fe.below (h:fe R e size w base v ps) (hb:Below w.heap.size w w1):fe R e size w1 base v ps:=by
 obtain ⟨inner,ho,hr⟩:=h
 exact ⟨inner,ny ho hb,hr⟩
theorem fe.vy (h:fe R e size w base v ps) {g:Nat} {t:TypeId} {cells:Array Value} (hb:w.heap[g]? = some (.cells cells t (0,0))) (ht:e≠t) (j:Nat) (u:Value):fe R e size (w.setCell ⟨g,j,none⟩ u) base v ps:=by
 obtain ⟨inner,ho,hr⟩:=h
 exact ⟨inner,oh ho (fU ho hb ht) u,hr⟩
theorem fe.keep (h:fe R e size w base v ps) {g:Nat} {t:TypeId} {cells:Array Value} (hb:w.heap[g]? = some (.cells cells t (0,0))) (ht:e≠t) (hk:an w w1 g none):fe R e size w1 base v ps:=by
 obtain ⟨inner,ho,hr⟩:=h
 exact ⟨inner,hk.own ho (Ne.symm (fU ho hb ht)) (by cases v.ownBlock <;> simp),hr⟩
theorem fe.reads (h:fe R e size w base v ps):∃ A c,v = .slice A ps.length c∧ps.length≤c∧fl R size w A ps.length ps:=by
 obtain ⟨inner,ho,hr⟩:=h
 obtain ⟨A,c,rfl,hrow⟩:=mU ho hr rfl
 exact ⟨A,c,rfl,ux ho,hrow⟩
theorem fe.rq (h:fe R e size w base v ps) {g:Nat} {t:TypeId} {cells:Array Value} (hb:w.heap[g]? = some (.cells cells t (0,0))) (ht:e≠t):some g≠v.ownBlock:=by
 obtain ⟨inner,ho,hr⟩:=h
 exact fU ho hb ht
end
section
variable {P:Program} {ops:Array Oper} {rest:List Oper} {o:Oper} {a:Act} {Q:Exit→Act→World→Prop} {α:Type} {R:α→List Value→Prop}
theorem fe.append {w0 W:World} (base:Nat) (hgd:o.guard = none) (s x:Operand) (t e:TypeId) (z:Value) (size bytes:Nat)
  (ho:o.op = .call { callee:=.builtin .append,args:=#[s,x],argTypes:=#[t,t] })
  (ht:P.underlying t = some (.slice e)) (hinfo:(P.info? e).map (fun i=>(i.zero,i.size,i.bytes)) = some (some z,size,bytes)) (hz:z.cells.size = size) (X:0 < size) (Y:0 < bytes)
  (v:Value) (ps:List α) (p:α) (cs:List Value) (hs:a.eval s = v) (hx:a.eval x = .slice (some ⟨W.heap.size,0,none⟩) 1 1) (hp:R p cs) (hcs:cs.length = size) (h1:∀ u∈cs,u.oneCell' = true)
  (HO:fe R e size W base v ps) (HB:Below base w0 W) (hbase:base≤W.heap.size) (hl:(ps.length+1) * bytes≤140737488355328)
  (h:∀ v1 w1,fe R e size w1 base v1 (ps ++ [p])→Below base w0 w1→W.grownBy w1 v.ownBlock→(v1.ownBlock = v.ownBlock∨∃ b,v1.ownBlock = some b∧W.heap.size≤b)→wpList P ops Q rest (a.put o.dst v1) w1) :
  wpList P ops Q (o :: rest) a (W.alloc (.cells cs.toArray e)):=by
 obtain ⟨inner,hown,hr⟩:=HO
 refine iM base hgd s x t e z size bytes ho ht hinfo hz X Y v ps.length inner cs hs hx hcs h1 hown HB hbase hl ?_
 intro v1 w1 j a0 a1 y
 exact h v1 w1 ⟨inner ++ cs,by rw [List.length_append,List.length_singleton];exact j,hr.snoc hp hcs⟩ a0 a1 y
end
theorem fl.ru {α:Type} {R:α→List Value→Prop} {size:Nat} {w:World} {ad:Addr} {n:Nat} {ps:List α} (h:fl R size w (some ad) n ps) :
  ∃ inner,cV R size ps inner∧∀ j u,inner[j]? = some u→w.cell? (ad.add j) = some u:=by
 have key:∀ m,m≤ps.length→∃ inner,cV R size (ps.take m) inner∧∀ j u,inner[j]? = some u→w.cell? (ad.add j) = some u:=by
  intro m
  induction m with
  | zero=>exact fun _=>⟨[],cV.none _ _,fun j u hu=>by simp at hu⟩
  | succ m ih =>
   intro hm
   obtain ⟨inner,hr,hc⟩:=ih (by omega)
   obtain ⟨ad',he,hcell⟩:=h.2.2 (by have:=h.1;omega)
   injection he with he
   subst he
   obtain ⟨c,hcl,hp,hcc⟩:=hcell m _ (List.getElem?_eq_getElem (show m < ps.length by omega))
   refine ⟨inner ++ c,?_,fun j u hu=>?_⟩
   ·rw [List.take_succ_eq_append_getElem (show m < ps.length by omega)]
    exact hr.snoc hp hcl
   ·have hil:inner.length = m * size:=by rw [hr.1,List.length_take,Nat.min_eq_left (by omega)]
    rcases Nat.lt_or_ge j inner.length with hj | hj
    ·rw [List.getElem?_append_left hj] at hu
     exact hc j u hu
    ·rw [List.getElem?_append_right hj] at hu
     have:=hcc (j - inner.length) u hu
     rwa [hil,Nat.add_sub_cancel' (by omega)] at this
 obtain ⟨inner,hr,hc⟩:=key ps.length (Nat.le_refl _)
 rw [List.take_length] at hr
 exact ⟨inner,hr,hc⟩
section
variable {P:Program} {ops:Array Oper} {rest:List Oper} {o:Oper} {a:Act} {Q:Exit→Act→World→Prop}
theorem hO {w0 W:World} (base:Nat) (hgd:o.guard = none) (s x:Operand) (t u e:TypeId)
  (ho:o.op = .call { callee:=.builtin .append,args:=#[s,x],argTypes:=#[t,u] })
  (ht:P.underlying t = some (.slice e)) (hu:P.underlying u = some .string) (hinfo:(P.info? e).map (fun i=>(i.zero,i.size,i.bytes)) = some (some (.int .u8 0),1,1))
  (v:Value) (xs:List Int) (y:ByteArray) (hs:a.eval s = v) (hx:a.eval x = .string y)
  (HO:W.ownsRow base e 1 v xs.length (lg .u8 xs)) (HB:Below base w0 W) (hbase:base≤W.heap.size) (hl:xs.length+y.size≤140737488355328)
  (h:∀ v1 w1,w1.ownsRow base e 1 v1 (xs ++ bytesOf y).length (lg .u8 (xs ++ bytesOf y))→Below base w0 w1→W.grownBy w1 v.ownBlock→wpList P ops Q rest (a.put o.dst v1) w1) :
  wpList P ops Q (o :: rest) a W:=by
 obtain ⟨i0,hi,hzz⟩:=Option.map_eq_some_iff.1 hinfo
 simp only [Prod.mk.injEq] at hzz
 obtain ⟨j,z,X⟩:=hzz
 refine Lib.wpList_append_own_string W hgd s x t u ho base e i0 ht hu hi j z X v xs.length (lg .u8 xs) hs HO y hx (by simp only [maxLen];omega) hl hbase ?_
 intro v1 w1 hown hg _
 have Y:(xs ++ bytesOf y).length = xs.length+y.size:=by rw [List.length_append,lY]
 have hc:lg .u8 (xs ++ bytesOf y) = lg .u8 xs ++ Lib.strCells y:=by
  rw [oe]
  congr 1
  simp [lg,bytesOf,Lib.strCells]
 exact h v1 w1 (by rw [Y,hc];exact hown) (HB.grown hg hbase (ir HO)) hg
end
structure Kd (α:Type) where
 sz:Nat
 E:List Nat
 K:World→α→List Value→Prop
 M:World→Nat→(Nat→Prop)→α→List Value→Prop
 K_len:∀ {w x cs},K w x cs→cs.length = sz
 K_one:∀ {w x cs},K w x cs→∀ u∈cs,u.oneCell' = true
 K_below:∀ {w w1:World} {x cs},Below w.heap.size w w1→K w x cs→K w1 x cs
 K_of_M:∀ {w base ok x cs},M w base ok x cs→K w x cs
 M_mono:∀ {w base ok ok' x cs},(∀ k,ok k→ok' k)→M w base ok x cs→M w base ok' x cs
 M_bound:∀ {w:World} {base ok x cs},M w base ok x cs→M w base (fun k=>ok k∧base≤k∧k < w.heap.size∧∃ q,q∈E∧∃ cells,w.heap[k]? = some (.cells cells q (0,0))) x cs
 M_move:∀ {w w1:World} {base ok x cs},(∀ k,ok k→w1.heap[k]? = w.heap[k]?)→M w base ok x cs→M w1 base ok x cs
 M_lower:∀ {w base base' ok x cs},base'≤base→M w base ok x cs→M w base' ok x cs
theorem ry {w w1:World} {base:Nat} {e:TypeId} {size n:Nat} {v:Value} {xs:List Value} (h:w.ownsRow base e size v n xs) (hm:∀ k,v.ownBlock = some k→w1.heap[k]? = w.heap[k]?):w1.ownsRow base e size v n xs:=by
 obtain ⟨h1,h2⟩:=h
 refine ⟨h1,?_⟩
 rcases h2 with h2 | ⟨g,cap,cur,rfl,hg,hh,r⟩
 ·exact .inl h2
 ·exact .inr ⟨g,cap,cur,rfl,hg,(hm g (by simp [Value.ownBlock])).trans hh,r⟩
theorem jT {w:World} {base:Nat} {e:TypeId} {size n:Nat} {v:Value} {xs:List Value} (h:w.ownsRow base e size v n xs) (k:Nat) (hk:v.ownBlock = some k):∃ cells,w.heap[k]? = some (.cells cells e (0,0)):=by
 rcases h.2 with ⟨rfl,_⟩ | ⟨g,cap,cur,rfl,hg,hh,r⟩
 ·simp [Value.ownBlock] at hk
 ·have:g = k:=by simpa [Value.ownBlock] using hk
  subst this
  exact ⟨cur,hh⟩
namespace Kd
def C {α:Type} (d:Kd α) (w:World) (A:Option Addr) (n:Nat) (xs:List α):Prop:=fl (d.K w) d.sz w A n xs
def R {α:Type} (d:Kd α) (e:Nat) (w:World) (base:Nat) (ok:Nat→Prop) (v:Value) (xs:List α):Prop :=
 (∀ k,v.ownBlock = some k→ok k)∧fe (d.M w base (fun k=>ok k∧some k≠v.ownBlock)) e d.sz w base v xs
section
variable {α:Type} {d:Kd α} {e:Nat} {w w1:World} {base:Nat} {ok ok':Nat→Prop} {v:Value} {xs:List α}
theorem aT {A:Option Addr} {n:Nat} (h:d.C w A n xs) (hb:Below w.heap.size w w1):d.C w1 A n xs:=fl.jq h hb (fun _ _ hp=>d.K_below hb hp)
theorem pU (d:Kd α) (e:Nat) (w:World) (base:Nat) (ok:Nat→Prop):d.R e w base ok (.slice none 0 0) []:=⟨fun k hk=>by simp [Value.ownBlock] at hk,fe.none_ _ _ _ _ _⟩
theorem aC (h:d.R e w base ok v xs) (hok:∀ k,ok k→ok' k):d.R e w base ok' v xs:=⟨fun k hk=>hok k (h.1 k hk),h.2.jq (fun _ _ hp=>d.M_mono (fun k hk=>⟨hok k hk.1,hk.2⟩) hp)⟩
theorem gH (h:d.R e w base ok v xs):d.R e w base (fun k=>ok k∧base≤k∧k < w.heap.size∧∃ q,q∈e :: d.E∧∃ cells,w.heap[k]? = some (.cells cells q (0,0))) v xs:=by
 obtain ⟨h0,inner,ho,hr⟩:=h
 refine ⟨fun k hk=>?_,inner,ho,hr.jq (fun _ _ hp=>d.M_mono (fun k hk=>?_) (d.M_bound hp))⟩
 ·obtain ⟨cells,hc⟩:=jT ho k hk
  exact ⟨h0 k hk,ir ho k hk,ri ho k hk,e,List.mem_cons_self,cells,hc⟩
 ·obtain ⟨⟨h1,h2⟩,h3,h4,q,hq,hc⟩:=hk
  exact ⟨⟨h1,h3,h4,q,List.mem_cons_of_mem _ hq,hc⟩,h2⟩
theorem lp (h:d.R e w base ok v xs) (hm:∀ k,ok k→w1.heap[k]? = w.heap[k]?):d.R e w1 base ok v xs:=by
 obtain ⟨h0,inner,ho,hr⟩:=h
 exact ⟨h0,inner,ry ho (fun k hk=>hm k (h0 k hk)),hr.jq (fun _ _ hp=>d.M_move (fun k hk=>hm k hk.1) hp)⟩
theorem aV {base':Nat} (h:d.R e w base ok v xs) (hb:base'≤base):d.R e w base' ok v xs:=by
 obtain ⟨h0,inner,ho,hr⟩:=h
 exact ⟨h0,inner,p4 ho hb,hr.jq (fun _ _ hp=>d.M_lower hb hp)⟩
theorem nC (h:d.R e w base ok v xs) (hm:∀ k,ok k→k < w.heap.size→w1.heap[k]? = w.heap[k]?):d.R e w1 base ok v xs :=
 aC (lp (gH h) (fun k hk=>hm k hk.1 hk.2.2.1)) (fun _ hk=>hk.1)
theorem rz {x:α} {cs:List Value} (h:d.M w base ok x cs) (hm:∀ k,ok k→k < w.heap.size→w1.heap[k]? = w.heap[k]?):d.M w1 base ok x cs :=
 d.M_mono (fun _ hk=>hk.1) (d.M_move (fun k hk=>hm k hk.1 hk.2.2.1) (d.M_bound h))
theorem dW (h:d.R e w base ok v xs) (hb:Below w.heap.size w w1):d.R e w1 base ok v xs:=nC h (fun k _ hk=>hb.block k hk)
theorem pV {x:α} {cs:List Value} (h:d.M w base ok x cs) (hb:Below w.heap.size w w1):d.M w1 base ok x cs:=rz h (fun k _ hk=>hb.block k hk)
theorem bD (h:d.R e w base ok v xs) {p:Addr} (hok:∀ k,ok k→k≠p.block) (u:Value):d.R e (w.setCell p u) base ok v xs:=nC h (fun k ho _=>Below.heap_setCell w p u k (hok k ho))
theorem dA (h:d.R e w base ok v xs) {g:Nat} (hk:an w w1 g none) (hok:∀ k,ok k→k≠g):d.R e w1 base ok v xs:=nC h (fun k ho hlt=>hk.2 k hlt (hok k ho) (by simp))
theorem bS (h:d.R e w base ok v xs) {g t:Nat} {cells:Array Value} (hb:w.heap[g]? = some (.cells cells t (0,0))) (ht:∀ q,q∈e :: d.E→q≠t):d.R e w base (fun k=>ok k∧k≠g) v xs :=
 aC (gH h) (fun k hk=>⟨hk.1,by
  obtain ⟨_,_,_,q,hq,cells',hc⟩:=hk
  rintro rfl
  rw [hc] at hb
  injection hb with hb
  injection hb with _ hb
  exact ht q hq hb⟩)
theorem nD (h:d.R e w base ok v xs):∃ A c,v = .slice A xs.length c∧xs.length≤c∧d.C w A xs.length xs:=by
 obtain ⟨A,c,he,hl,hr⟩:=fe.reads h.2
 exact ⟨A,c,he,hl,hr.jq (Below.refl _ _) (fun _ _ hp=>d.K_of_M hp)⟩
theorem aK (h:d.R e w base ok v xs):∃ A c,v = .slice A xs.length c:=by
 obtain ⟨A,c,he,_⟩:=nD h
 exact ⟨A,c,he⟩
theorem om (h:d.R e w base ok v xs):∃ inner,w.ownsRow base e d.sz v xs.length inner:=by
 obtain ⟨_,inner,ho,_⟩:=h
 exact ⟨inner,ho⟩
theorem fS (h:d.R e w base ok v xs) {g t:Nat} {cells:Array Value} (hb:w.heap[g]? = some (.cells cells t (0,0))) (ht:e≠t):some g≠v.ownBlock:=fe.rq h.2 hb ht
end
def scalar {α:Type} (enc:α→Value) (h1:∀ x,(enc x).oneCell' = true):Kd α where
 sz:=1
 E:=[]
 K:=fun _ x cs=>cs = [enc x]
 M:=fun _ _ _ x cs=>cs = [enc x]
 K_len:=fun h=>by rw [h];rfl
 K_one:=fun h u hu=>by
  rw [h] at hu
  rw [List.mem_singleton.1 hu]
  exact h1 _
 K_below:=fun _ h=>h
 K_of_M:=fun h=>h
 M_mono:=fun _ h=>h
 M_bound:=fun h=>h
 M_move:=fun _ h=>h
 M_lower:=fun _ h=>h
def int (k:IntKind):Kd Int:=scalar (Value.int k) (fun _=>rfl)
def bool:Kd Bool:=scalar Value.bool (fun _=>rfl)
def string:Kd ByteArray:=scalar Value.string (fun _=>rfl)
def slice {α:Type} (e:Nat) (d:Kd α):Kd (List α) where
 sz:=1
 E:=e :: d.E
 K:=fun w xs cs=>∃ A c,cs = [.slice A xs.length c]∧xs.length≤c∧d.C w A xs.length xs
 M:=fun w base ok xs cs=>∃ v,cs = [v]∧d.R e w base ok v xs
 K_len:=by
  rintro w x cs ⟨A,c,rfl,_⟩
  rfl
 K_one:=by
  rintro w x cs ⟨A,c,rfl,_⟩ u hu
  rw [List.mem_singleton.1 hu]
  rfl
 K_below:=by
  rintro w w1 x cs hb ⟨A,c,rfl,hl,hr⟩
  exact ⟨A,c,rfl,hl,aT hr hb⟩
 K_of_M:=by
  rintro w base ok x cs ⟨v,rfl,h⟩
  obtain ⟨A,c,rfl,hl,hr⟩:=nD h
  exact ⟨A,c,rfl,hl,hr⟩
 M_mono:=by
  rintro w base ok ok' x cs hok ⟨v,rfl,h⟩
  exact ⟨v,rfl,aC h hok⟩
 M_bound:=by
  rintro w base ok x cs ⟨v,rfl,h⟩
  exact ⟨v,rfl,gH h⟩
 M_move:=by
  rintro w w1 base ok x cs hm ⟨v,rfl,h⟩
  exact ⟨v,rfl,lp h hm⟩
 M_lower:=by
  rintro w base base' ok x cs hb ⟨v,rfl,h⟩
  exact ⟨v,rfl,aV h hb⟩
def pair {α β:Type} (a:Kd α) (b:Kd β):Kd (α×β) where
 sz:=a.sz+b.sz
 E:=a.E ++ b.E
 K:=fun w x cs=>∃ j y,cs = j ++ y∧a.K w x.1 j∧b.K w x.2 y
 M:=fun w base ok x cs=>∃ j y,cs = j ++ y∧a.M w base ok x.1 j∧b.M w base ok x.2 y
 K_len:=by
  rintro w x cs ⟨j,y,rfl,h0,h1⟩
  rw [List.length_append,a.K_len h0,b.K_len h1]
 K_one:=by
  rintro w x cs ⟨j,y,rfl,h0,h1⟩ u hu
  rcases List.mem_append.1 hu with hu | hu
  ·exact a.K_one h0 u hu
  ·exact b.K_one h1 u hu
 K_below:=by
  rintro w w1 x cs hb ⟨j,y,rfl,h0,h1⟩
  exact ⟨j,y,rfl,a.K_below hb h0,b.K_below hb h1⟩
 K_of_M:=by
  rintro w base ok x cs ⟨j,y,rfl,h0,h1⟩
  exact ⟨j,y,rfl,a.K_of_M h0,b.K_of_M h1⟩
 M_mono:=by
  rintro w base ok ok' x cs hok ⟨j,y,rfl,h0,h1⟩
  exact ⟨j,y,rfl,a.M_mono hok h0,b.M_mono hok h1⟩
 M_bound:=by
  rintro w base ok x cs ⟨j,y,rfl,h0,h1⟩
  refine ⟨j,y,rfl,a.M_mono ?_ (a.M_bound h0),b.M_mono ?_ (b.M_bound h1)⟩
  ·rintro k ⟨h2,h3,h4,q,hq,hc⟩
   exact ⟨h2,h3,h4,q,List.mem_append_left _ hq,hc⟩
  ·rintro k ⟨h2,h3,h4,q,hq,hc⟩
   exact ⟨h2,h3,h4,q,List.mem_append_right _ hq,hc⟩
 M_move:=by
  rintro w w1 base ok x cs hm ⟨j,y,rfl,h0,h1⟩
  exact ⟨j,y,rfl,a.M_move hm h0,b.M_move hm h1⟩
 M_lower:=by
  rintro w base base' ok x cs hb ⟨j,y,rfl,h0,h1⟩
  exact ⟨j,y,rfl,a.M_lower hb h0,b.M_lower hb h1⟩
def bot {α:Type} (sz:Nat) (E:List Nat):Kd α where
 sz:=sz
 E:=E
 K:=fun _ _ _=>False
 M:=fun _ _ _ _ _=>False
 K_len:=fun h=>h.elim
 K_one:=fun h=>h.elim
 K_below:=fun _ h=>h
 K_of_M:=fun h=>h
 M_mono:=fun _ h=>h
 M_bound:=fun h=>h
 M_move:=fun _ h=>h
 M_lower:=fun _ h=>h
def upto {α:Type} (F:Kd α→Kd α) (sz:Nat) (E:List Nat):Nat→Kd α
 | 0=>bot sz E
 | n+1=>F (upto F sz E n)
theorem vz {α:Type} {d:Kd α} {w:World} {A:Option Addr} {n:Nat} {xs:List α} (h:d.C w A n xs) (z:α) (i:Int) (h0:0≤i) (h1:i < n) :
  ∃ ad c,A = some ad∧c.length = d.sz∧d.K w (xs.getD i.toNat z) c∧∀ j u,c[j]? = some u→w.cell? (ad.add (i.toNat * d.sz+j)) = some u:=fl.wu h z i h0 h1
theorem lZ {α:Type} {d:Kd α} {e base:Nat} {ok okp:Nat→Prop} {W w1:World} {v v1:Value} {xs:List α} {p:α} {inner cs:List Value} (h0:∀ k,v.ownBlock = some k→ok k) (hr:cV (d.M W base (fun k=>ok k∧some k≠v.ownBlock)) d.sz xs inner) (hp:d.M W base okp p cs) (j:∀ k,okp k→ok k∧some k≠v.ownBlock) (hfresh:∀ k,W.heap.size≤k→ok k)
  (hown:w1.ownsRow base e d.sz v1 (xs.length+1) (inner ++ cs)) (hg:W.grownBy w1 v.ownBlock) (hat:v1.ownBlock = v.ownBlock∨∃ b,v1.ownBlock = some b∧W.heap.size≤b):d.R e w1 base ok v1 (xs ++ [p]):=by
 have hne:∀ k,some k≠v.ownBlock→k < W.heap.size→some k≠v1.ownBlock:=by
  intro k hk hlt
  rcases hat with hat | ⟨b,hb,hle⟩
  ·rw [hat];exact hk
  ·rw [hb]
   intro he
   injection he with he
   omega
 have step:∀ {q:α} {c:List Value} {o:Nat→Prop},d.M W base o q c→(∀ k,o k→ok k∧some k≠v.ownBlock)→d.M w1 base (fun k=>ok k∧some k≠v1.ownBlock) q c:=by
  intro q c o hq ho
  have h1:=d.M_move (w1:=w1) (fun k hk=>hg.block k hk.2.2.1 (ho k hk.1).2) (d.M_bound hq)
  exact d.M_mono (fun k hk=>⟨(ho k hk.1).1,hne k (ho k hk.1).2 hk.2.2.1⟩) h1
 refine ⟨fun k hk=>?_,inner ++ cs,by rw [List.length_append,List.length_singleton];exact hown,?_⟩
 ·rcases hat with hat | ⟨b,hb,hle⟩
  ·exact h0 k (hat ▸ hk)
  ·rw [hb] at hk
   injection hk with hk
   exact hfresh k (by omega)
 ·exact (hr.jq (fun _ _ hq=>step hq (fun _ hk=>hk))).snoc (step hp j) (d.K_len (d.K_of_M hp))
section
variable {P:Program} {ops:Array Oper} {rest:List Oper} {o:Oper} {a:Act} {Q:Exit→Act→World→Prop} {α:Type}
theorem eE (d:Kd α) {w0 W:World} (base:Nat) (hgd:o.guard = none) (s x:Operand) (t e:TypeId) (z:Value) (bytes:Nat)
  (ho:o.op = .call { callee:=.builtin .append,args:=#[s,x],argTypes:=#[t,t] })
  (ht:P.underlying t = some (.slice e)) (hinfo:(P.info? e).map (fun i=>(i.zero,i.size,i.bytes)) = some (some z,d.sz,bytes)) (hz:z.cells.size = d.sz) (a0:0 < d.sz) (a1:0 < bytes)
  (v:Value) (xs:List α) (p:α) (cs:List Value) (ok okp:Nat→Prop) (hs:a.eval s = v) (hx:a.eval x = .slice (some ⟨W.heap.size,0,none⟩) 1 1) (hp:d.M W base okp p cs) (X:∀ k,okp k→ok k∧some k≠v.ownBlock) (hfresh:∀ k,W.heap.size≤k→ok k)
  (HO:d.R e W base ok v xs) (HB:Below base w0 W) (hbase:base≤W.heap.size) (hl:(xs.length+1) * bytes≤140737488355328)
  (h:∀ v1 w1,d.R e w1 base ok v1 (xs ++ [p])→Below base w0 w1→W.grownBy w1 v.ownBlock→(v1.ownBlock = v.ownBlock∨∃ b,v1.ownBlock = some b∧W.heap.size≤b)→wpList P ops Q rest (a.put o.dst v1) w1) :
  wpList P ops Q (o :: rest) a (W.alloc (.cells cs.toArray e)):=by
 obtain ⟨h0,inner,hown,hr⟩:=HO
 refine iM base hgd s x t e z d.sz bytes ho ht hinfo hz a0 a1 v xs.length inner cs hs hx (d.K_len (d.K_of_M hp)) (d.K_one (d.K_of_M hp)) hown HB hbase hl ?_
 intro v1 w1 y a2 Y j
 exact h v1 w1 (lZ h0 hr hp X hfresh y Y j) a2 Y j
end
section
variable {P:Program} {ops:Array Oper} {o:Oper} {a:Act} {Q:Exit→Act→World→Prop} {Kc:Act→World→Prop} {α:Type}
theorem ie (d:Kd α) {w0 W:World} (base:Nat) (hw:Region.wanted o (yielded ops a.tmps) = true) (s x:Operand) (t e:TypeId) (z:Value) (bytes:Nat)
  (ho:o.op = .call { callee:=.builtin .append,args:=#[s,x],argTypes:=#[t,t] })
  (ht:P.underlying t = some (.slice e)) (hinfo:(P.info? e).map (fun i=>(i.zero,i.size,i.bytes)) = some (some z,d.sz,bytes)) (hz:z.cells.size = d.sz) (a0:0 < d.sz) (a1:0 < bytes)
  (v:Value) (xs:List α) (p:α) (cs:List Value) (ok okp:Nat→Prop) (hs:a.eval s = v) (hx:a.eval x = .slice (some ⟨W.heap.size,0,none⟩) 1 1) (hp:d.M W base okp p cs) (X:∀ k,okp k→ok k∧some k≠v.ownBlock) (hfresh:∀ k,W.heap.size≤k→ok k)
  (HO:d.R e W base ok v xs) (HB:Below base w0 W) (hbase:base≤W.heap.size) (hl:(xs.length+1) * bytes≤140737488355328)
  (h:∀ v1 w1,d.R e w1 base ok v1 (xs ++ [p])→Below base w0 w1→W.grownBy w1 v.ownBlock→(v1.ownBlock = v.ownBlock∨∃ b,v1.ownBlock = some b∧W.heap.size≤b)→Kc (a.put o.dst v1) w1) :
  if Region.wanted o (yielded ops a.tmps) = true then Oper.wp P o a (W.alloc (.cells cs.toArray e)) Kc Q else Kc (a.put o.dst undef) (W.alloc (.cells cs.toArray e)):=by
 obtain ⟨h0,inner,hown,hr⟩:=HO
 refine kQ base hw s x t e z d.sz bytes ho ht hinfo hz a0 a1 v xs.length inner cs hs hx (d.K_len (d.K_of_M hp)) (d.K_one (d.K_of_M hp)) hown HB hbase hl ?_
 intro v1 w1 y a2 Y j
 exact h v1 w1 (lZ h0 hr hp X hfresh y Y j) a2 Y j
end
theorem oo {α:Type} {enc:α→Value} (xs:List α):cV (fun (x:α) (cs:List Value)=>cs = [enc x]) 1 xs (jd enc xs):=by
 refine ⟨by simp [jd],fun j p hj=>?_⟩
 obtain ⟨hl,hp⟩:=List.getElem?_eq_some_iff.1 hj
 have hl':j < (jd enc xs).length:=by rw [lH];exact hl
 rw [Nat.mul_one,List.drop_eq_getElem_cons hl']
 simp [jd,hp]
theorem kR {α:Type} {enc:α→Value} {h1:∀ x,(enc x).oneCell' = true} {e:Nat} {w:World} {base:Nat} {ok:Nat→Prop} {v:Value} {xs:List α} (ho:w.ownsRow base e 1 v xs.length (jd enc xs)) (hok:∀ k,v.ownBlock = some k→ok k):(scalar enc h1).R e w base ok v xs:=⟨hok,jd enc xs,ho,oo xs⟩
theorem iv {α:Type} {enc:α→Value} {h1:∀ x,(enc x).oneCell' = true} {e:Nat} {w:World} {base:Nat} {ok:Nat→Prop} {v:Value} {xs:List α} (h:(scalar enc h1).R e w base ok v xs):w.ownsRow base e 1 v xs.length (jd enc xs):=by
 obtain ⟨_,inner,ho,hr⟩:=h
 have:inner = jd enc xs:=by
  apply List.ext_getElem?
  intro j
  rcases Nat.lt_or_ge j xs.length with hj | hj
  ·have h2:=hr.2 j _ (List.getElem?_eq_getElem hj)
   have hl:j < inner.length:=by have:=hr.1;simp [scalar] at this;omega
   have h3:(inner.drop (j * 1)).take 1 = [enc xs[j]]:=h2
   rw [Nat.mul_one,List.drop_eq_getElem_cons hl] at h3
   have h4:inner[j] = enc xs[j]:=by
    have h5:=congrArg List.head? h3
    rw [List.take_succ_cons] at h5
    exact Option.some.inj h5
   rw [List.getElem?_eq_getElem hl,h4]
   simp [jd,List.getElem?_eq_getElem hj]
  ·have h3:inner.length = xs.length:=by have:=hr.1;simp [scalar] at this;omega
   rw [List.getElem?_eq_none (by omega),List.getElem?_eq_none (by rw [lH];omega)]
 rw [← this]
 exact ho
theorem m0 {α:Type} {enc:α→Value} {d:α} {h1:∀ x,(enc x).oneCell' = true} {w:World} {A:Option Addr} {n:Nat} {xs:List α} (h:(scalar enc h1).C w A n xs):fo enc d w A n xs:=by
 refine ⟨h.1,h.2.1,fun hn=>?_⟩
 obtain ⟨ad,e,hc⟩:=h.2.2 hn
 refine ⟨ad,e,fun j hj=>?_⟩
 have hl:j < xs.length:=by have:=h.1;omega
 obtain ⟨c,_,hK,hcell⟩:=hc j _ (List.getElem?_eq_getElem hl)
 have hK':c = [enc xs[j]]:=hK
 subst hK'
 have:=hcell 0 _ rfl
 simpa [scalar,List.getD_eq_getElem?_getD,List.getElem?_eq_getElem hl] using this
end Kd
namespace Kd
def Sub {α β:Type} (F:Kd α→Kd β) (E:List Nat):Prop:=∀ d:Kd α,(∀ q,q∈d.E→q∈E)→∀ q,q∈(F d).E→q∈E
end Kd
namespace Kd
theorem dO {α:Type} {d:Kd α} {e base:Nat} {ok:Nat→Prop} {W w1:World} {u v v1:Value} {xs:List α} (h:d.R e W base (fun k=>ok k∧some k≠v.ownBlock) u xs) (hg:W.grownBy w1 v.ownBlock) (hat:v1.ownBlock = v.ownBlock∨∃ b,v1.ownBlock = some b∧W.heap.size≤b):d.R e w1 base (fun k=>ok k∧some k≠v1.ownBlock) u xs:=by
 refine aC (lp (gH h) (fun k hk=>hg.block k hk.2.2.1 hk.1.2)) (fun k hk=>⟨hk.1.1,?_⟩)
 rcases hat with hat | ⟨b,hb,hle⟩
 ·rw [hat];exact hk.1.2
 ·rw [hb]
  intro he
  injection he with he
  have:=hk.2.2.1
  omega
theorem tZ {α:Type} {d:Kd α} {e base:Nat} {ok:Nat→Prop} {w:World} {v:Value} {xs:List α} (h:d.R e w base ok v xs):(slice e d).M w base ok xs [v]:=⟨v,rfl,h⟩
end Kd
namespace Kd
section
variable {α β:Type} {d:Kd α} {d':Kd β} {e e':Nat} {w w1 W:World} {base b b':Nat} {ok ok' okv oku:Nat→Prop} {v u:Value} {xs:List α} {ys:List β}
theorem cH (h:d.R e w base ok v xs) (o:Obj):d.R e (w.alloc o) base ok v xs:=dW h (dX (Below.refl _ _) o)
theorem bl (h:d.R e w base ok v xs):d.R e w.drew base ok v xs:=dW h (kB (Below.refl _ _))
theorem cI (h:d.R e w base ok v xs) (m:Nat):d.R e (w.drewN m) base ok v xs:=dW h (dY (Below.refl _ _) m)
theorem fE {A:Option Addr} {n:Nat} (h:d.C w A n xs) (o:Obj):d.C (w.alloc o) A n xs:=aT h (dX (Below.refl _ _) o)
theorem fV {A:Option Addr} {n:Nat} (h:d.C w A n xs):d.C w.drew A n xs:=aT h (kB (Below.refl _ _))
theorem fF {A:Option Addr} {n:Nat} (h:d.C w A n xs) (m:Nat):d.C (w.drewN m) A n xs:=aT h (dY (Below.refl _ _) m)
theorem vA (d:Kd α) (w:World):d.C w none ([]:List α).length []:=⟨rfl,by simp,fun h=>absurd h (Nat.lt_irrefl 0)⟩
theorem ah {A:Option Addr} {n c:Nat} (h:d.R e w base ok (.slice A n c) xs):n = xs.length∧n≤c∧d.C w A xs.length xs:=by
 obtain ⟨A',c',he,hl,hr⟩:=nD h
 injection he with h1 h2 h3
 subst h1
 exact ⟨h2,by omega,hr⟩
theorem cK (h:d.R e w base ok v xs):∀ k,v.ownBlock = some k→k < w.heap.size:=by
 obtain ⟨inner,ho⟩:=om h
 exact ri ho
theorem bn (h:d.R e w base ok v xs):∀ k,v.ownBlock = some k→base≤k:=by
 obtain ⟨inner,ho⟩:=om h
 exact ir ho
theorem jr (h:d.R e w base ok v xs) (hp:0 < xs.length):∃ g cap,v = .slice (some ⟨g,0,none⟩) xs.length cap∧base≤g∧g < w.heap.size∧∃ cells,w.heap[g]? = some (.cells cells e (0,0)):=by
 obtain ⟨inner,ho⟩:=om h
 obtain ⟨g,cap,he,hb,hl⟩:=ho.form hp
 obtain ⟨cells,hc⟩:=jT ho g (by rw [he];simp [Value.ownBlock])
 exact ⟨g,cap,he,hb,hl,cells,hc⟩
end
section
variable {w W:World} {A:Option Addr} {n:Nat}
theorem ey {k:IntKind} {xs:List Int} (h:(Kd.int k).C w A n xs) (i:Int) (h0:0≤i) (h1:i < n):∃ ad,A = some ad∧w.cell? (ad.add i.toNat) = some (.int k (rd xs i)) :=
 fo.at_ (m0 (enc:=Value.int k) (d:=(0:Int)) (h1:=fun _=>rfl) h) i h0 h1
theorem fx {xs:List ByteArray} (h:Kd.string.C w A n xs) (i:Int) (h0:0≤i) (h1:i < n):∃ ad,A = some ad∧w.cell? (ad.add i.toNat) = some (.string (fm ByteArray.empty xs i)) :=
 fo.at_ (m0 (enc:=Value.string) (d:=ByteArray.empty) (h1:=fun _=>rfl) h) i h0 h1
variable {α:Type} {enc:α→Value} {h1:∀ x,(enc x).oneCell' = true} {e base g cap:Nat} {ok:Nat→Prop} {xs:List α}
theorem uy (d:α) (h:(scalar enc h1).R e W base ok (.slice (some ⟨g,0,none⟩) xs.length cap) xs) (i:Int) (h0:0≤i) (hi:i < xs.length):W.cell? ⟨g,i.toNat,none⟩ = some (enc (fm d xs i))∧W.frozen? ⟨g,i.toNat,none⟩ = false:=qC (iv h) i h0 hi
theorem u0 (h:(scalar enc h1).R e W base ok (.slice (some ⟨g,0,none⟩) xs.length cap) xs) (i:Int) (x:α):(scalar enc h1).R e (W.setCell ⟨g,i.toNat,none⟩ (enc x)) base ok (.slice (some ⟨g,0,none⟩) xs.length cap) (xs.set i.toNat x)∧W.grownBy (W.setCell ⟨g,i.toNat,none⟩ (enc x)) (some g):=by
 obtain ⟨ho,hg⟩:=nB (iv h) i x
 exact ⟨kR (by rw [List.length_set];exact ho) h.1,hg⟩
end
section
variable {P:Program} {ops:Array Oper} {rest:List Oper} {o:Oper} {a:Act} {Q:Exit→Act→World→Prop}
theorem n2 {W w1:World} {v:Value} (hgd:o.guard = none) (hrun:(execOp a.eval o).run P W = .ok (.value v) w1) (h:wpList P ops Q rest (a.put o.dst v) w1):wpList P ops Q (o :: rest) a W:=by
 refine wpList_plain hgd fun K hK=>?_
 unfold Oper.wp
 rw [hrun]
 exact hK _ _ h
variable {α:Type}
theorem jH (d:Kd α) {w0 W:World} (base e:Nat) (hgd:o.guard = none) {N:Tmp} (_hd:o.dst = some N) {xs:List α} {inner:List Value} {ok okp:Nat→Prop}
  (hrun:(execOp a.eval o).run P W = .ok (.value (.slice (some ⟨W.heap.size,0,none⟩) xs.length xs.length)) (W.alloc (.cells inner.toArray e)))
  (hrep:cV (d.M W base okp) d.sz xs inner) (hok:∀ k,okp k→ok k) (hfresh:ok W.heap.size) (HB:Below base w0 W) (hbase:base≤W.heap.size) (hm:xs.length≤9223372036854775807)
  (h:∀ v1 w1,d.R e w1 base ok v1 xs→Below base w0 w1→W.grownBy w1 none→(∃ b,v1.ownBlock = some b∧W.heap.size≤b)→wpList P ops Q rest (a.put o.dst v1) w1):wpList P ops Q (o :: rest) a W:=by
 refine n2 hgd hrun (h _ _ ⟨fun k hk=>?_,inner,?_,?_⟩ (HB.alloc hbase _) (World.grownBy_alloc W _ none) ⟨W.heap.size,by simp [Value.ownBlock],Nat.le_refl _⟩)
 ·have:W.heap.size = k:=by simpa [Value.ownBlock] using hk
  subst this
  exact hfresh
 ·have h2:=World.ownsRow_lit (base:=base) (e:=e) (size:=d.sz) W inner.toArray xs.length hbase (by simpa [maxLen] using hm) (by simpa using hrep.1)
  simpa using h2
 ·refine hrep.jq (fun p c hp=>d.M_mono (fun k hk=>⟨hok k hk.1,fun he=>?_⟩) (pV (d.M_bound hp) (dX (Below.refl _ _) _)))
  have h3:k = W.heap.size:=by simpa [Value.ownBlock] using he
  have:=hk.2.2.1
  omega
theorem qD {α:Type} {R:α→List Value→Prop} {z:Value} {size:Nat} {z0:α} (hz:z.cells.size = size) (hs:0 < size) (h0:R z0 z.cells.toList) (m:Nat):cV R size (List.replicate m z0) (madeCells z.cells (m * size)).toList:=by
 refine ⟨by simp [size_madeCells],fun j p hj=>?_⟩
 obtain ⟨hjl,hp⟩:=List.getElem?_eq_some_iff.1 hj
 have hjm:j < m:=by simpa using hjl
 have hp':z0 = p:=by simpa using hp
 subst hp'
 have hle:j * size+size≤m * size:=by rw [← Nat.succ_mul];exact Nat.mul_le_mul_right _ hjm
 have:((madeCells z.cells (m * size)).toList.drop (j * size)).take size = z.cells.toList:=by
  apply List.ext_getElem
  ·simp [size_madeCells,hz]
   omega
  ·intro i h1 h2
   have hi:i < size:=by rw [Array.length_toList,hz] at h2;exact h2
   have hmod:(j * size+i) % size = i:=by
    rw [Nat.mul_comm,Nat.mul_add_mod]
    exact Nat.mod_eq_of_lt hi
   simp [madeCells,hz,hmod]
   rw [getElem!_pos z.cells i (by omega)]
 rw [this]
 exact h0
theorem lq (d:Kd α) {w0 W:World} (base e:Nat) (hgd:o.guard = none) {N:Tmp} (hd:o.dst = some N) (t:TypeId) (x y:Operand) (ho:o.op = .makeSlice t x y) (n:Int) (hx:a.eval x = .int .i64 n) (hy:a.eval y = .int .i64 n)
  (ht:P.underlying t = some (.slice e)) (z:Value) (bytes:Nat) (hinfo:(P.info? e).map (fun i=>(i.zero,i.size,i.bytes)) = some (some z,d.sz,bytes)) (hz:z.cells.size = d.sz) (j:0 < d.sz) (X:0 < bytes)
  (z0:α) {ok okp:Nat→Prop} (hzero:d.M W base okp z0 z.cells.toList) (hok:∀ k,okp k→ok k) (hfresh:ok W.heap.size) (h0:0≤n) (hl:n.toNat * bytes≤281474976710656) (HB:Below base w0 W) (hbase:base≤W.heap.size)
  (h:∀ v1 w1,d.R e w1 base ok v1 (List.replicate n.toNat z0)→Below base w0 w1→W.grownBy w1 none→(∃ b,v1.ownBlock = some b∧W.heap.size≤b)→wpList P ops Q rest (a.put o.dst v1) w1):wpList P ops Q (o :: rest) a W:=by
 obtain ⟨m,rfl⟩:=Int.eq_ofNat_of_zero_le h0
 simp only [Int.toNat_natCast] at hl h
 obtain ⟨i0,hi,hzz⟩:=Option.map_eq_some_iff.1 hinfo
 simp only [Prod.mk.injEq] at hzz
 obtain ⟨Y,a0,a1⟩:=hzz
 have hm:m≤281474976710656:=Nat.le_trans (Nat.le_mul_of_pos_right _ X) hl
 have hr:=run_make (P:=P) W t e i0 z ht hi Y .i64 .i64 (m:Int) (m:Int) (by omega) (by omega)
  (by
   have h3:((i0.bytes * m:Nat):Int)≤281474976710656:=by rw [a1,Nat.mul_comm];omega
   rwa [Int.natCast_mul] at h3) (by omega)
 simp only [Int.toNat_natCast] at hr
 rw [a0] at hr
 refine jH d base e hgd hd (xs:=List.replicate m z0) (inner:=(madeCells z.cells (m * d.sz)).toList) (okp:=okp) (ok:=ok) ?_ (qD hz j hzero m) hok hfresh HB hbase (by simp;omega) h
 simp [execOp,ho,hx,hy,hr]
end
end Kd
theorem rA {w:World} {base n m c size:Nat} {e:TypeId} {A:Option Addr} {xs:List Value} (h:w.ownsRow base e size (.slice A n c) n xs) (hm:m≤n):w.ownsRow base e size (.slice A m c) m (xs.take (m * size)):=by
 obtain ⟨h1,h2⟩:=h
 refine ⟨by rw [List.length_take,h1];exact Nat.min_eq_left (Nat.mul_le_mul_right _ hm),?_⟩
 rcases h2 with ⟨he,h0⟩ | ⟨g,cap,cur,he,hb,hh,hnc,hcm,hcs,ht⟩
 ·injection he with ha _ hc
  subst ha;subst hc
  exact .inl ⟨by rw [show m = 0 by omega],by omega⟩
 ·injection he with ha _ hc
  subst ha;subst hc
  refine .inr ⟨g,c,cur,rfl,hb,hh,by omega,hcm,hcs,?_⟩
  rw [← ht,List.take_take,Nat.min_eq_left (Nat.mul_le_mul_right _ hm)]
section
variable {P:Program}
theorem nE (t e:TypeId) (kh:IntKind) {i:TypeInfo} (ht:P.underlying t = some (.slice e)) (hi:P.info? e = some i) (A:Option Addr) (n c:Nat) (j:Int) (h0:0≤j) (hm:j≤n) (hc:n≤c) :
  ∀ W:World,(Instr.slice t (.slice A n c) none (some (.int kh j)) none).run P W = .ok (.slice A j.toNat c) W:=by
 intro W
 have hel:P.elem t = e:=by simp [Program.elem,ht]
 have hu:P.underlying t = some (.slice (P.elem t)):=by rw [hel];exact ht
 have ha:(A.map fun x=>x.add 0) = A:=by cases A <;> simp [Addr.add]
 rw [run_slice_h W t A n c hu kh j h0 (by omega),hel]
 simp [sizeOf,typeInfo,hi,sliced,Result.andThen,ha]
theorem m3 (t e:TypeId) (kl:IntKind) {i:TypeInfo} (ht:P.underlying t = some (.slice e)) (hi:P.info? e = some i) (size:Nat) (hsz:i.size = size) (A:Option Addr) (n c:Nat) (j:Int) (h0:0≤j) (hm:j≤n) :
  ∀ W:World,(Instr.slice t (.slice A n c) (some (.int kl j)) none none).run P W = .ok (.slice (if c = j.toNat then A else A.map (·.add (j.toNat * size))) (n - j.toNat) (c - j.toNat)) W:=by
 intro W
 have hel:P.elem t = e:=by simp [Program.elem,ht]
 have hu:P.underlying t = some (.slice (P.elem t)):=by rw [hel];exact ht
 rw [run_slice_l W t A n c hu kl j h0 hm,hel]
 simp [sizeOf,typeInfo,hi,hsz,sliced,Result.andThen]
end
def vB (w:World) (base:Nat) (e:TypeId) (size:Nat) (v:Value) (n:Nat) (xs:List Value):Prop :=
  xs.length = n * size ∧
  ((n = 0∧∃ A,v = .slice A 0 0∧∀ a,A = some a→base≤a.block∧∃ cur,w.heap[a.block]? = some (.cells cur e (0,0))) ∨
   ∃ g off cap cur,v = .slice (some ⟨g,off * size,none⟩) n cap∧base≤g∧w.heap[g]? = some (.cells cur e (0,0))∧n≤cap∧off+cap≤maxLen∧cur.size = (off+cap) * size∧(cur.toList.drop (off * size)).take (n * size) = xs)
section
variable {w w1:World} {base n size:Nat} {e:TypeId} {v:Value} {xs:List Value}
theorem rB (h:w.ownsRow base e size v n xs):vB w base e size v n xs:=by
 obtain ⟨h1,h2⟩:=h
 refine ⟨h1,?_⟩
 rcases h2 with ⟨rfl,h0⟩ | ⟨g,cap,cur,rfl,hb,hh,hnc,hcm,hcs,ht⟩
 ·exact .inl ⟨h0,none,rfl,fun a ha=>by cases ha⟩
 ·exact .inr ⟨g,0,cap,cur,by rw [Nat.zero_mul],hb,hh,hnc,by rw [Nat.zero_add];exact hcm,by rw [Nat.zero_add];exact hcs,by rw [Nat.zero_mul,List.drop_zero];exact ht⟩
theorem rC (g o j:Nat):(⟨g,o,none⟩:Addr).add j = ⟨g,o+j,none⟩:=by unfold Addr.add;split <;> simp_all
end
namespace Kd
theorem qE {α:Type} {R:α→List Value→Prop} {size m:Nat} {ps:List α} {cs:List Value} (h:cV R size ps cs) (hm:m≤ps.length):cV R size (ps.take m) (cs.take (m * size)):=by
 refine ⟨by rw [List.length_take,List.length_take,h.1,Nat.min_eq_left hm,Nat.min_eq_left (Nat.mul_le_mul_right _ hm)],fun j p hj=>?_⟩
 rw [List.getElem?_take] at hj
 split at hj
 ·rename_i hjm
  have:=h.2 j p hj
  have hle:j * size+size≤m * size:=by rw [← Nat.succ_mul];exact Nat.mul_le_mul_right _ hjm
  rw [List.drop_take,List.take_take,Nat.min_eq_left (by omega)]
  exact this
 ·cases hj
theorem rD {α:Type} {d:Kd α} {e m n c:Nat} {w:World} {base:Nat} {ok:Nat→Prop} {A:Option Addr} {xs:List α} (h:d.R e w base ok (.slice A n c) xs) (hm:m≤xs.length):d.R e w base ok (.slice A m c) (xs.take m):=by
 obtain ⟨h0,inner,ho,hr⟩:=h
 have hn:n = xs.length:=by
  obtain ⟨A',c',he⟩:=qB ho
  injection he
 subst hn
 have hb:∀ x y:Nat,(Value.slice A x c).ownBlock = (Value.slice A y c).ownBlock:=by
  intro x y
  cases A <;> rfl
 refine ⟨fun k hk=>h0 k (by rw [hb _ m];exact hk),inner.take (m * d.sz),?_,?_⟩
 ·rw [List.length_take,Nat.min_eq_left hm]
  exact rA ho hm
 ·rw [hb m xs.length]
  exact qE hr hm
def Q {α:Type} (d:Kd α) (e:Nat) (w:World) (base:Nat) (ok:Nat→Prop) (v:Value) (xs:List α):Prop :=
 (∀ k,v.ownBlock = some k→ok k)∧∃ inner,vB w base e d.sz v xs.length inner∧cV (d.M w base (fun k=>ok k∧some k≠v.ownBlock)) d.sz xs inner
section
variable {α:Type} {d:Kd α} {e:Nat} {w w1 W:World} {base:Nat} {ok ok':Nat→Prop} {v:Value} {xs:List α}
theorem uz (h:d.R e w base ok v xs):d.Q e w base ok v xs:=by
 obtain ⟨h0,inner,ho,hr⟩:=h
 exact ⟨h0,inner,rB ho,hr⟩
theorem vC (d:Kd α) (e:Nat) (w:World) (base:Nat) (ok:Nat→Prop):d.Q e w base ok (.slice none 0 0) []:=uz (pU d e w base ok)
end
end Kd
namespace Kd
section
variable {α:Type} {d:Kd α} {e e':Nat} {w w1 W:World} {base:Nat} {ok:Nat→Prop} {u v:Value} {xs:List α}
theorem pW (h:d.R e w base ok v xs):∀ k,v.ownBlock = some k→∃ cells,w.heap[k]? = some (.cells cells e (0,0)):=by
 obtain ⟨inner,ho⟩:=om h
 exact fun k hk=>jT ho k hk
theorem tg (h:d.R e W base ok u xs) (hty:∀ k,v.ownBlock = some k→∃ cells,W.heap[k]? = some (.cells cells e' (0,0))) (ht:∀ q,q∈e :: d.E→q≠e') (hg:W.grownBy w1 v.ownBlock):d.R e w1 base ok u xs:=by
 refine aC (lp (gH h) (fun k hk=>hg.block k hk.2.2.1 (fun he=>?_))) (fun _ hk=>hk.1)
 obtain ⟨_,_,_,q,hq,cells,hc⟩:=hk
 obtain ⟨cells',hc'⟩:=hty k he.symm
 rw [hc] at hc'
 injection hc' with hc'
 injection hc' with _ hc'
 exact ht q hq hc'
theorem oq (h:d.R e W base ok u xs) (hty:∀ k,v.ownBlock = some k→∃ cells,W.heap[k]? = some (.cells cells e' (0,0))) (ht:∀ q,q∈e :: d.E→q≠e'):d.R e W base (fun k=>ok k∧some k≠v.ownBlock) u xs:=by
 refine aC (gH h) (fun k hk=>⟨hk.1,fun he=>?_⟩)
 obtain ⟨_,_,_,q,hq,cells,hc⟩:=hk
 obtain ⟨cells',hc'⟩:=hty k he.symm
 rw [hc] at hc'
 injection hc' with hc'
 injection hc' with _ hc'
 exact ht q hq hc'
theorem aQ (hu:d.R e W base ok u xs) (hbase:∀ k,v.ownBlock = some k→W.heap.size≤k) (hb:Below W.heap.size W w1):d.R e w1 base (fun k=>ok k∧some k≠v.ownBlock) u xs :=
 aC (lp (gH hu) (fun k hk=>hb.block k hk.2.2.1)) (fun k hk=>⟨hk.1,fun he=>by have:=hbase k he.symm;have:=hk.2.2.1;omega⟩)
theorem br (h:d.R e w1 W.heap.size ok v xs) (hlt:∀ k,u.ownBlock = some k→k < W.heap.size):d.R e w1 W.heap.size (fun k=>ok k∧some k≠u.ownBlock) v xs :=
 aC (gH h) (fun k hk=>⟨hk.1,fun he=>by have:=hlt k he.symm;have:=hk.2.1;omega⟩)
theorem fresh' (hlt:∀ k,u.ownBlock = some k→k < W.heap.size):∀ k,W.heap.size≤k→some k≠u.ownBlock:=fun k hk he=>by have:=hlt k he.symm;omega
end
end Kd
theorem jU {n c g:Nat} {A:Option Addr} (hne:some g≠(Value.slice A n c).ownBlock):∀ ad,A = some ad→0 < n→ad.block≠g:=by
 rintro ad rfl _ rfl
 exact hne (by simp [Value.ownBlock])
namespace Kd
section
variable {α:Type} {d:Kd α} {e base g n cap:Nat} {ok okp:Nat→Prop} {W:World} {xs:List α}
theorem uA (h:d.R e W base ok (.slice (some ⟨g,0,none⟩) n cap) xs) (z:α) (i:Int) (h0:0≤i) (h1:i < n) :
  ∃ c,c.length = d.sz∧d.M W base (fun k=>ok k∧k≠g) (xs.getD i.toNat z) c∧(∀ j u,c[j]? = some u→W.cell? ⟨g,i.toNat * d.sz+j,none⟩ = some u)∧∀ j,W.frozen? ⟨g,i.toNat * d.sz+j,none⟩ = false:=by
 obtain ⟨hn,hnc,hC⟩:=ah h
 obtain ⟨_,inner,ho,hr⟩:=h
 have hil:i.toNat < xs.length:=by omega
 have hseg:i.toNat * d.sz+d.sz≤inner.length:=by rw [hr.1,← Nat.succ_mul];exact Nat.mul_le_mul_right _ hil
 have hM:=hr.2 i.toNat _ (List.getElem?_eq_getElem hil)
 refine ⟨(inner.drop (i.toNat * d.sz)).take d.sz,by rw [List.length_take,List.length_drop];omega,?_,fun j u hu=>?_,fun j=>?_⟩
 ·rw [List.getD_eq_getElem?_getD,List.getElem?_eq_getElem hil]
  exact d.M_mono (fun k hk=>⟨hk.1,fun he=>hk.2 (by rw [he];simp [Value.ownBlock])⟩) hM
 ·rw [List.getElem?_take] at hu
  split at hu
  ·rw [List.getElem?_drop] at hu
   have:=ho.cells (g:=g) (by simp [Value.ownBlock]) _ u hu
   rwa [add_plain] at this
  ·cases hu
 ·obtain ⟨cells,hc⟩:=jT ho g (by simp [Value.ownBlock])
  exact au hc _
end
end Kd
namespace Kd
def fixed {α:Type} (d:Kd α) (w0:World):Kd α where
 sz:=d.sz
 E:=[]
 K:=fun _ x cs=>d.K w0 x cs
 M:=fun _ _ _ x cs=>d.K w0 x cs
 K_len:=d.K_len
 K_one:=d.K_one
 K_below:=fun _ h=>h
 K_of_M:=fun h=>h
 M_mono:=fun _ h=>h
 M_bound:=fun h=>h
 M_move:=fun _ h=>h
 M_lower:=fun _ h=>h
def wS {α:Type} (a b:Kd α) (h:b.sz = a.sz):Kd α where
 sz:=a.sz
 E:=a.E ++ b.E
 K:=fun w x cs=>a.K w x cs∨b.K w x cs
 M:=fun w base ok x cs=>a.M w base ok x cs∨b.M w base ok x cs
 K_len:=fun hk=>hk.elim a.K_len (fun hk=>(b.K_len hk).trans h)
 K_one:=fun hk=>hk.elim a.K_one b.K_one
 K_below:=fun hb hk=>hk.imp (a.K_below hb) (b.K_below hb)
 K_of_M:=fun hk=>hk.imp a.K_of_M b.K_of_M
 M_mono:=fun hok hk=>hk.imp (a.M_mono hok) (b.M_mono hok)
 M_bound:=fun hk=>hk.imp
  (fun hk=>a.M_mono (fun _ ⟨h1,h2,h3,q,hq,hc⟩=>⟨h1,h2,h3,q,List.mem_append_left _ hq,hc⟩) (a.M_bound hk))
  (fun hk=>b.M_mono (fun _ ⟨h1,h2,h3,q,hq,hc⟩=>⟨h1,h2,h3,q,List.mem_append_right _ hq,hc⟩) (b.M_bound hk))
 M_move:=fun hm hk=>hk.imp (a.M_move hm) (b.M_move hm)
 M_lower:=fun hb hk=>hk.imp (a.M_lower hb) (b.M_lower hb)
theorem j8 {α β:Type} {E:List Nat} {G H:Kd α→Kd β} (h:∀ d,(H d).sz = (G d).sz) (hG:Sub G E) (hH:Sub H E):Sub (fun d=>wS (G d) (H d) (h d)) E:=fun d hd q hq=>by
 rcases List.mem_append.1 hq with hq | hq
 ·exact hG d hd q hq
 ·exact hH d hd q hq
end Kd
namespace Kd
theorem lI {α:Type} {R:α→List Value→Prop} {size:Nat} {ps qs:List α} {cs ds:List Value} (h:cV R size ps cs) (h':cV R size qs ds):cV R size (ps ++ qs) (cs ++ ds):=by
 refine ⟨by rw [List.length_append,List.length_append,h.1,h'.1,Nat.add_mul],fun j p hj=>?_⟩
 rcases Nat.lt_or_ge j ps.length with hlt | hge
 ·rw [List.getElem?_append_left hlt] at hj
  have hle:j * size+size≤cs.length:=by rw [h.1,← Nat.succ_mul];exact Nat.mul_le_mul_right _ hlt
  rw [List.drop_append_of_le_length (by omega),List.take_append_of_le_length (by rw [List.length_drop];omega)]
  exact h.2 j p hj
 ·rw [List.getElem?_append_right hge] at hj
  have h2:=h'.2 (j - ps.length) p hj
  have hle:ps.length * size≤j * size:=Nat.mul_le_mul_right _ hge
  rw [List.drop_append,List.drop_eq_nil_of_le (by rw [h.1];exact hle),List.nil_append,h.1,← Nat.sub_mul]
  exact h2
section
variable {P:Program} {ops:Array Oper} {rest:List Oper} {o:Oper} {a:Act} {Q:Exit→Act→World→Prop} {α:Type}
theorem j9 (d:Kd α) {Rr:α→List Value→Prop} {w0 W:World} (base:Nat) (hgd:o.guard = none) (s x:Operand) (t e:TypeId) (z:Value) (bytes:Nat)
  (ho:o.op = .call { callee:=.builtin .append,args:=#[s,x],argTypes:=#[t,t] })
  (ht:P.underlying t = some (.slice e)) (hinfo:(P.info? e).map (fun i=>(i.zero,i.size,i.bytes)) = some (some z,d.sz,bytes)) (hz:z.cells.size = d.sz) (j:0 < d.sz) (X:0 < bytes)
  (v:Value) (xs ys:List α) (A:Option Addr) (m c:Nat) (ok okp:Nat→Prop) (hs:a.eval s = v) (hx:a.eval x = .slice A m c)
  (HO:d.R e W base ok v xs) (HR:fl Rr d.sz W A m ys) (Y:∀ x cs,Rr x cs→d.M W base okp x cs) (y:∀ k,okp k→ok k∧some k≠v.ownBlock) (hfresh:∀ k,W.heap.size≤k→ok k)
  (HB:Below base w0 W) (hbase:base≤W.heap.size) (hl:(xs.length+m) * bytes≤140737488355328)
  (h:∀ v1 w1,d.R e w1 base ok v1 (xs ++ ys)→Below base w0 w1→W.grownBy w1 v.ownBlock→(v1.ownBlock = v.ownBlock∨∃ b,v1.ownBlock = some b∧W.heap.size≤b)→wpList P ops Q rest (a.put o.dst v1) w1) :
  wpList P ops Q (o :: rest) a W:=by
 obtain ⟨i0,hi,hzz⟩:=Option.map_eq_some_iff.1 hinfo
 simp only [Prod.mk.injEq] at hzz
 obtain ⟨a0,a1,a2⟩:=hzz
 have hm:ys.length = m:=HR.1
 have hlen:xs.length+m≤140737488355328:=Nat.le_trans (Nat.le_mul_of_pos_right _ X) hl
 obtain ⟨hok,inner,hown,hr⟩:=HO
 have hrun:∃ v1 w1,(Builtin.append_ #[t,t] o.type #[v,.slice A m c]).run P W = .ok v1 w1∧d.R e w1 base ok v1 (xs ++ ys)∧W.grownBy w1 v.ownBlock∧(v1.ownBlock = v.ownBlock∨∃ b,v1.ownBlock = some b∧W.heap.size≤b):=by
  rcases A with _ | ad
  ·have h0:m = 0:=by
    rcases Nat.eq_zero_or_pos m with h0 | h0
    ·exact h0
    ·obtain ⟨ad,h,_⟩:=HR.2.2 h0
     cases h
   subst h0
   obtain rfl:ys = []:=List.eq_nil_of_length_eq_zero hm
   refine ⟨v,W,?_,by rw [List.append_nil];exact ⟨hok,inner,hown,hr⟩,World.grownBy.refl W _,.inl rfl⟩
   rcases hown.2 with ⟨rfl,hn⟩ | ⟨g,cap,cur,rfl,_,_,hnc,_⟩
   ·simp [Builtin.append_,run_underlying ht,sizeOf,typeInfo,hi,Builtin.lenOf,Builtin.firstCells]
   ·simp [Builtin.append_,run_underlying ht,sizeOf,typeInfo,hi,Builtin.lenOf,Builtin.firstCells,hnc,storeCells]
  ·obtain ⟨news,hnr,hnc⟩:=fl.ru HR
   have hnM:cV (d.M W base okp) d.sz ys news:=hnr.jq (fun p c hp=>Y p c hp)
   have hone:∀ u∈news,u.oneCell' = true:=by
    intro u hu
    obtain ⟨q,hq,rfl⟩:=List.mem_iff_getElem.1 hu
    have a3:q / d.sz < ys.length:=by
     rw [Nat.div_lt_iff_lt_mul j]
     rw [← hnM.1]
     exact hq
    have hc:=hnM.2 (q / d.sz) _ (List.getElem?_eq_getElem a3)
    refine d.K_one (d.K_of_M hc) _ ?_
    rw [List.mem_iff_getElem?]
    refine ⟨q % d.sz,?_⟩
    rw [List.getElem?_take,if_pos (Nat.mod_lt _ j),List.getElem?_drop,Nat.mul_comm,Nat.div_add_mod,List.getElem?_eq_getElem hq]
   obtain ⟨v1,w1,hrun,h2,hg,_,hat⟩:=run_append_own_at (P:=P) W base t o.type e i0 z d.sz bytes ht hi a0 a1 a2 hz j v xs.length inner hown ad m c news (by rw [hnM.1,hm]) hnc hone (by simp only [maxLen];omega) hl hbase
   have hat':v1.ownBlock = v.ownBlock∨∃ b,v1.ownBlock = some b∧W.heap.size≤b:=by
    rcases hat with hat | hat
    ·exact .inl hat
    ·exact .inr ⟨_,hat,Nat.le_refl _⟩
   have hne:∀ k,some k≠v.ownBlock→k < W.heap.size→some k≠v1.ownBlock:=by
    intro k hk hlt
    rcases hat' with hat | ⟨b,hb,hle⟩
    ·rw [hat];exact hk
    ·rw [hb]
     intro he
     injection he with he
     omega
   have step:∀ {q:α} {c:List Value} {o:Nat→Prop},d.M W base o q c→(∀ k,o k→ok k∧some k≠v.ownBlock)→d.M w1 base (fun k=>ok k∧some k≠v1.ownBlock) q c:=by
    intro q c o hq ho
    have h1:=d.M_move (w1:=w1) (fun k hk=>hg.block k hk.2.2.1 (ho k hk.1).2) (d.M_bound hq)
    exact d.M_mono (fun k hk=>⟨(ho k hk.1).1,hne k (ho k hk.1).2 hk.2.2.1⟩) h1
   refine ⟨v1,w1,hrun,⟨fun k hk=>?_,inner ++ news,by rw [List.length_append,hm];exact h2,lI (hr.jq (fun _ _ hq=>step hq (fun _ hk=>hk))) (hnM.jq (fun _ _ hq=>step hq y))⟩,hg,hat'⟩
   rcases hat' with hat | ⟨b,hb,hle⟩
   ·exact hok k (hat ▸ hk)
   ·rw [hb] at hk
    injection hk with hk
    exact hfresh k (by omega)
 obtain ⟨v1,w1,a4,h1,hg,hat⟩:=hrun
 refine wpList_plain hgd fun K hK=>?_
 unfold Oper.wp execOp
 simp only [ho,resolve,invoke,builtin,Sem.run_bind,Sem.run_pure,Result.andThen_ok,List.map_toArray,List.map_cons,List.map_nil,hs,hx,a4]
 exact hK _ _ (h v1 w1 h1 (HB.grown hg hbase (ir hown)) hg hat)
end
end Kd
theorem add_add (a:Addr) (i j:Nat):(a.add i).add j = a.add (i+j):=by
 unfold Addr.add
 by_cases h1:i = 0 <;> by_cases h2:j = 0 <;> simp [h1,h2,Nat.add_assoc]
namespace Kd
section
variable {α:Type} {k:Kd α} {w:World} {A:Option Addr} {xs:List α} {m c:Nat}
theorem kD (h:k.C w A xs.length xs) (hm:m≤xs.length):k.C w A (xs.take m).length (xs.take m):=by
 have hl:(xs.take m).length = m:=by rw [List.length_take];omega
 refine ⟨rfl,by rw [hl];have:=h.2.1;omega,fun hp=>?_⟩
 obtain ⟨ad,e,hc⟩:=h.2.2 (by omega)
 refine ⟨ad,e,fun j p hj=>hc j p ?_⟩
 rw [List.getElem?_take] at hj
 split at hj
 ·exact hj
 ·cases hj
theorem kE (h:k.C w A xs.length xs) (hm:m≤xs.length) (hc:xs.length≤c):k.C w (if c = m then A else A.map (·.add (m * k.sz))) (xs.drop m).length (xs.drop m):=by
 have hl:(xs.drop m).length = xs.length - m:=List.length_drop
 refine ⟨rfl,by rw [hl];have:=h.2.1;omega,fun hp=>?_⟩
 rw [hl] at hp
 obtain ⟨ad,rfl,hcell⟩:=h.2.2 (by omega)
 rw [if_neg (by omega)]
 refine ⟨ad.add (m * k.sz),rfl,fun j p hj=>?_⟩
 rw [List.getElem?_drop] at hj
 obtain ⟨cs,h1,h2,h3⟩:=hcell (m+j) p hj
 refine ⟨cs,h1,h2,fun i u hu=>?_⟩
 rw [add_add,show m * k.sz+(j * k.sz+i) = (m+j) * k.sz+i by rw [Nat.add_mul];omega]
 exact h3 i u hu
end
end Kd
theorem av {w W:World} (h:Below w.heap.size w W):w.heap.size≤W.heap.size:=h.size
theorem ax {w W j:World} (h:Below w.heap.size w W) (k:Below W.heap.size W j):Below w.heap.size w j:=lX h h.size k
theorem fk.nil (W:World) (k:IntKind):fk W k none ([]:List Int).length []:=⟨rfl,by simp,fun h=>absurd h (Nat.lt_irrefl 0)⟩
theorem fk.drewN {W:World} {k:IntKind} {A:Option Addr} {n:Nat} {xs:List Int} (h:fk W k A n xs) (m:Nat):fk (W.drewN m) k A n xs:=h
theorem dP {w W:World} {g j:Nat} {v:Value} (h:Below w.heap.size w W) (hg:w.heap.size≤g):Below w.heap.size w (W.setCell ⟨g,j,none⟩ v):=h.setCell hg _
theorem p5 {w W:World} {g:Nat} {row:Option Nat} (h:an w W g row) (m:Nat):an w (W.drewN m) g row:=h
theorem p8 {w W:World} {g:Nat} (h:an w W g none) (o:Obj):an w (W.alloc o) g none:=h.trans (an.iu (World.grownBy_alloc W o none) g) (.inl rfl)
theorem iE {w W:World} {g:Nat} (h:an w W g none) {a:Addr} {v:Value} (hc:w.cell? a = some v) (hne:a.block≠g):W.cell? a = some v:=by
 have:=h.2 a.block (World.block_lt_of_cell? w a hc) hne (by simp)
 simpa [World.cell?,this] using hc
theorem ep (a:Addr) (i:Nat):(a.add i).block = a.block:=by unfold Addr.add;split <;> rfl
theorem gy {w0 w w1:World} {B:Nat} (h:Below w0.heap.size w0 w) (hB:w0.heap.size≤B) (k:Below B w w1):Below w0.heap.size w0 w1 :=
 h.trans ⟨k.os,k.tape,k.output,k.size,fun i hi=>k.block i (Nat.lt_of_lt_of_le hi hB)⟩
theorem qF {w:World} {base:Nat} {e:TypeId} {size n:Nat} {v:Value} {xs:List Value} (h:w.ownsRow base e size v n xs):v.ownBlock = none∨∃ b,v.ownBlock = some b∧base≤b:=by
 cases hv:v.ownBlock with
 | none=>exact .inl rfl
 | some b=>exact .inr ⟨b,rfl,ir h b hv⟩
theorem b9 {w W:World} {g:Nat} {row:Option Nat} (h:an w W g row):w.heap.size≤W.heap.size:=h.1
theorem fo.nil {α:Type} (enc:α→Value) (d:α) (W:World):fo enc d W none ([]:List α).length []:=⟨rfl,by simp,fun h=>absurd h (Nat.lt_irrefl 0)⟩
theorem fo.drewN {α:Type} {enc:α→Value} {d:α} {W:World} {A:Option Addr} {n:Nat} {xs:List α} (h:fo enc d W A n xs) (m:Nat):fo enc d (W.drewN m) A n xs:=h
theorem fk.keep {w W:World} {k:IntKind} {A:Option Addr} {n g:Nat} {xs:List Int} (h:fk w k A n xs) (hk:an w W g none) (hf:∀ ad,A = some ad→0 < n→ad.block≠g):fk W k A n xs :=
 ⟨h.1,h.2.1,fun hn=>by
  obtain ⟨ad,e,hc⟩:=h.2.2 hn
  exact ⟨ad,e,fun j hj=>iE hk (hc j hj) (by rw [ep];exact hf ad e hn)⟩⟩
theorem fo.keep {α:Type} {enc:α→Value} {d:α} {w W:World} {A:Option Addr} {n g:Nat} {xs:List α} (h:fo enc d w A n xs) (hk:an w W g none) (hf:∀ ad,A = some ad→0 < n→ad.block≠g):fo enc d W A n xs :=
 ⟨h.1,h.2.1,fun hn=>by
  obtain ⟨ad,e,hc⟩:=h.2.2 hn
  exact ⟨ad,e,fun j hj=>iE hk (hc j hj) (by rw [ep];exact hf ad e hn)⟩⟩
theorem cell_far {W:World} {p a:Addr} (h:a.block≠p.block) (u:Value):(W.setCell p u).cell? a = W.cell? a:=by
 have:=Below.heap_setCell W p u a.block h
 simp [World.cell?,this]
theorem gz {w:World} {g:Nat} {t:TypeId} {cs cs':Array Value} (h:w.heap[g]? = some (.cells cs t (0,0))) (i:Nat) (u:Value) (e:cs.setIfInBounds i u = cs'):(w.setCell ⟨g,i,none⟩ u).heap[g]? = some (.cells cs' t (0,0)):=e ▸ nA h i u
theorem rE {w W:World} {g:Nat} {row:Option Nat} (h:an w W g row) {p:Addr} (hp:w.heap.size≤p.block) (u:Value):an w (W.setCell p u) g row :=
 ⟨by simpa [World.setCell] using h.1,fun i hi hg hr=>(Below.heap_setCell W p u i (by omega)).trans (h.2 i hi hg hr)⟩
theorem eK {W:World} {base n c:Nat} {e:TypeId} {size g:Nat} {ad:Addr} {xs:List Value} (_:W.ownsRow base e size (.slice (some ad) n c) n xs) (hne:some g≠(Value.slice (some ad) n c).ownBlock):ad.block≠g:=by
 rintro rfl
 exact hne (by simp [Value.ownBlock])
theorem cn {base:Nat} {w W:World} (h:Below base w W):Below base w W.drew:=h.drew
theorem lu {w W:World} {g:Nat} {row:Option Nat} (h:an w W g row):an w W.drew g row:=h
namespace Kd
section
variable {α β:Type} {d:Kd α} {d':Kd β} {e e' base base' n:Nat} {ok ok':Nat→Prop} {w W w1 W1:World} {v u:Value} {xs:List α} {ys:List β} {A:Option Addr} {c:Nat}
theorem eK {ad:Addr} {g:Nat} (hne:some g≠(Value.slice (some ad) n c).ownBlock):ad.block≠g:=by
 rintro rfl
 exact hne (by simp [Value.ownBlock])
theorem jV (h:d.R e w base ok v xs):v.ownBlock = none∨∃ k,v.ownBlock = some k∧base≤k:=by
 obtain ⟨inner,ho⟩:=om h
 exact qF ho
end
end Kd
section
variable {P:Program} {ops:Array Oper} {rest:List Oper} {o:Oper} {a:Act} {Q:Exit→Act→World→Prop}
theorem fy {W:World} (hgd:o.guard = none) {N:Tmp} (_hd:o.dst = some N) {cs:Array Value} {t:TypeId}
  (hrun:(execOp a.eval o).run P W = .ok (.value (.pointer (some ⟨W.heap.size,0,none⟩))) (W.alloc (.cells cs t (0,0))))
  (h:∀ g,g = W.heap.size→∀ w1,w1.heap[g]? = some (.cells cs t (0,0))→Below W.heap.size W w1→wpList P ops Q rest (a.put o.dst (.pointer (some ⟨g,0,none⟩))) w1):wpList P ops Q (o :: rest) a W :=
 Kd.n2 hgd hrun (h _ rfl _ (tf W _) (dX (Below.refl _ _) _))
end
namespace Kd
section
variable {α:Type} {enc:α→Value} {h1:∀ x,(enc x).oneCell' = true} {e base g n cap:Nat} {ok:Nat→Prop} {W:World} {xs:List α}
theorem gA (d:α) (h:(scalar enc h1).R e W base ok (.slice (some ⟨g,0,none⟩) n cap) xs) (i:Int) (h0:0≤i) (hi:i < n):W.cell? ⟨g,i.toNat,none⟩ = some (enc (fm d xs i))∧W.frozen? ⟨g,i.toNat,none⟩ = false:=by
 obtain ⟨rfl,_⟩:=ah h
 exact uy d h i h0 hi
theorem pb (h:(scalar enc h1).R e W base ok (.slice (some ⟨g,0,none⟩) n cap) xs) (i:Int) (x:α):(scalar enc h1).R e (W.setCell ⟨g,i.toNat,none⟩ (enc x)) base ok (.slice (some ⟨g,0,none⟩) n cap) (xs.set i.toNat x):=by
 obtain ⟨rfl,_⟩:=ah h
 exact (u0 h i x).1
end
end Kd
section
variable {P:Program} {ops:Array Oper} {rest:List Oper} {o:Oper} {a:Act} {Q:Exit→Act→World→Prop}
theorem fM {W w1:World} (hgd:o.guard = none) {t:TypeId} {p:Tmp} {v:Operand} (_ho:o.op = .store t (.tmp p) v) (hN:o.dst = none)
  (hrun:(execOp a.eval o).run P W = .ok .skip w1) (h:∀ w',w' = w1→wpList P ops Q rest a w'):wpList P ops Q (o :: rest) a W:=by
 refine wpList_plain hgd fun K hK=>?_
 unfold Oper.wp
 rw [hrun]
 show K (a.put o.dst undef) w1
 rw [hN]
 exact hK _ _ (h _ rfl)
end
namespace Kd
section
variable {α:Type} {enc:α→Value} {h1:∀ x,(enc x).oneCell' = true} {e base g n cap:Nat} {ok:Nat→Prop} {W:World} {xs:List α}
theorem kF (h:(scalar enc h1).R e W base ok (.slice (some ⟨g,0,none⟩) n cap) xs) (i:Int) (x:α):(scalar enc h1).R e (W.setCell ⟨g,i.toNat,none⟩ (enc x)) base ok (.slice (some ⟨g,0,none⟩) n cap) (xs.set i.toNat x)∧W.grownBy (W.setCell ⟨g,i.toNat,none⟩ (enc x)) (some g):=by
 obtain ⟨rfl,_⟩:=ah h
 exact u0 h i x
end
end Kd
section
variable {P:Program} {ops:Array Oper} {rest:List Oper} {o:Oper} {a:Act} {Q:Exit→Act→World→Prop} {W:World}
theorem bh {N:Tmp} (_hN:o.dst = some N) (h:wpList P ops Q (o :: rest) a W):wpList P ops Q (o :: rest) a W:=h
theorem gf {t:TypeId} {p:Tmp} {v:Operand} (_ho:o.op = .store t (.tmp p) v) (h:wpList P ops Q (o :: rest) a W):wpList P ops Q (o :: rest) a W:=h
end
section
variable {P:Program} {ops:Array Oper} {o:Oper} {a:Act} {Q:Exit→Act→World→Prop} {Kc:Act→World→Prop}
theorem pc {W w1:World} {v:Value} (hw:Region.wanted o (yielded ops a.tmps) = true) (hrun:(execOp a.eval o).run P W = .ok (.value v) w1) (h:Kc (a.put o.dst v) w1):if Region.wanted o (yielded ops a.tmps) = true then Oper.wp P o a W Kc Q else Kc (a.put o.dst undef) W:=by
 rw [if_pos hw]
 unfold Oper.wp
 rw [hrun]
 exact h
namespace Kd
variable {α:Type}
theorem pe (d:Kd α) {w0 W:World} (base e:Nat) (hw:Region.wanted o (yielded ops a.tmps) = true) {N:Tmp} (_hd:o.dst = some N) {xs:List α} {inner:List Value} {ok okp:Nat→Prop}
  (hrun:(execOp a.eval o).run P W = .ok (.value (.slice (some ⟨W.heap.size,0,none⟩) xs.length xs.length)) (W.alloc (.cells inner.toArray e)))
  (hrep:cV (d.M W base okp) d.sz xs inner) (hok:∀ k,okp k→ok k) (hfresh:ok W.heap.size) (HB:Below base w0 W) (hbase:base≤W.heap.size) (hm:xs.length≤9223372036854775807)
  (h:∀ v1 w1,d.R e w1 base ok v1 xs→Below base w0 w1→W.grownBy w1 none→(∃ b,v1.ownBlock = some b∧W.heap.size≤b)→Kc (a.put o.dst v1) w1):if Region.wanted o (yielded ops a.tmps) = true then Oper.wp P o a W Kc Q else Kc (a.put o.dst undef) W:=by
 refine pc hw hrun (h _ _ ⟨fun k hk=>?_,inner,?_,?_⟩ (HB.alloc hbase _) (World.grownBy_alloc W _ none) ⟨W.heap.size,by simp [Value.ownBlock],Nat.le_refl _⟩)
 ·have:W.heap.size = k:=by simpa [Value.ownBlock] using hk
  subst this
  exact hfresh
 ·have h2:=World.ownsRow_lit (base:=base) (e:=e) (size:=d.sz) W inner.toArray xs.length hbase (by simpa [maxLen] using hm) (by simpa using hrep.1)
  simpa using h2
 ·refine hrep.jq (fun p c hp=>d.M_mono (fun k hk=>⟨hok k hk.1,fun he=>?_⟩) (pV (d.M_bound hp) (dX (Below.refl _ _) _)))
  have h3:k = W.heap.size:=by simpa [Value.ownBlock] using he
  have:=hk.2.2.1
  omega
theorem gg (d:Kd α) {Rr:α→List Value→Prop} {w0 W:World} (base:Nat) (hw:Region.wanted o (yielded ops a.tmps) = true) (s x:Operand) (t e:TypeId) (z:Value) (bytes:Nat)
  (ho:o.op = .call { callee:=.builtin .append,args:=#[s,x],argTypes:=#[t,t] })
  (ht:P.underlying t = some (.slice e)) (hinfo:(P.info? e).map (fun i=>(i.zero,i.size,i.bytes)) = some (some z,d.sz,bytes)) (hz:z.cells.size = d.sz) (j:0 < d.sz) (X:0 < bytes)
  (v:Value) (xs ys:List α) (A:Option Addr) (m c:Nat) (ok okp:Nat→Prop) (hs:a.eval s = v) (hx:a.eval x = .slice A m c)
  (HO:d.R e W base ok v xs) (HR:fl Rr d.sz W A m ys) (Y:∀ x cs,Rr x cs→d.M W base okp x cs) (y:∀ k,okp k→ok k∧some k≠v.ownBlock) (hfresh:∀ k,W.heap.size≤k→ok k)
  (HB:Below base w0 W) (hbase:base≤W.heap.size) (hl:(xs.length+m) * bytes≤140737488355328)
  (h:∀ v1 w1,d.R e w1 base ok v1 (xs ++ ys)→Below base w0 w1→W.grownBy w1 v.ownBlock→(v1.ownBlock = v.ownBlock∨∃ b,v1.ownBlock = some b∧W.heap.size≤b)→Kc (a.put o.dst v1) w1) :
  if Region.wanted o (yielded ops a.tmps) = true then Oper.wp P o a W Kc Q else Kc (a.put o.dst undef) W:=by
 obtain ⟨i0,hi,hzz⟩:=Option.map_eq_some_iff.1 hinfo
 simp only [Prod.mk.injEq] at hzz
 obtain ⟨a0,a1,a2⟩:=hzz
 have hm:ys.length = m:=HR.1
 have hlen:xs.length+m≤140737488355328:=Nat.le_trans (Nat.le_mul_of_pos_right _ X) hl
 obtain ⟨hok,inner,hown,hr⟩:=HO
 have hrun:∃ v1 w1,(Builtin.append_ #[t,t] o.type #[v,.slice A m c]).run P W = .ok v1 w1∧d.R e w1 base ok v1 (xs ++ ys)∧W.grownBy w1 v.ownBlock∧(v1.ownBlock = v.ownBlock∨∃ b,v1.ownBlock = some b∧W.heap.size≤b):=by
  rcases A with _ | ad
  ·have h0:m = 0:=by
    rcases Nat.eq_zero_or_pos m with h0 | h0
    ·exact h0
    ·obtain ⟨ad,h,_⟩:=HR.2.2 h0
     cases h
   subst h0
   obtain rfl:ys = []:=List.eq_nil_of_length_eq_zero hm
   refine ⟨v,W,?_,by rw [List.append_nil];exact ⟨hok,inner,hown,hr⟩,World.grownBy.refl W _,.inl rfl⟩
   rcases hown.2 with ⟨rfl,hn⟩ | ⟨g,cap,cur,rfl,_,_,hnc,_⟩
   ·simp [Builtin.append_,run_underlying ht,sizeOf,typeInfo,hi,Builtin.lenOf,Builtin.firstCells]
   ·simp [Builtin.append_,run_underlying ht,sizeOf,typeInfo,hi,Builtin.lenOf,Builtin.firstCells,hnc,storeCells]
  ·obtain ⟨news,hnr,hnc⟩:=fl.ru HR
   have hnM:cV (d.M W base okp) d.sz ys news:=hnr.jq (fun p c hp=>Y p c hp)
   have hone:∀ u∈news,u.oneCell' = true:=by
    intro u hu
    obtain ⟨q,hq,rfl⟩:=List.mem_iff_getElem.1 hu
    have a3:q / d.sz < ys.length:=by
     rw [Nat.div_lt_iff_lt_mul j]
     rw [← hnM.1]
     exact hq
    have hc:=hnM.2 (q / d.sz) _ (List.getElem?_eq_getElem a3)
    refine d.K_one (d.K_of_M hc) _ ?_
    rw [List.mem_iff_getElem?]
    refine ⟨q % d.sz,?_⟩
    rw [List.getElem?_take,if_pos (Nat.mod_lt _ j),List.getElem?_drop,Nat.mul_comm,Nat.div_add_mod,List.getElem?_eq_getElem hq]
   obtain ⟨v1,w1,hrun,h2,hg,_,hat⟩:=run_append_own_at (P:=P) W base t o.type e i0 z d.sz bytes ht hi a0 a1 a2 hz j v xs.length inner hown ad m c news (by rw [hnM.1,hm]) hnc hone (by simp only [maxLen];omega) hl hbase
   have hat':v1.ownBlock = v.ownBlock∨∃ b,v1.ownBlock = some b∧W.heap.size≤b:=by
    rcases hat with hat | hat
    ·exact .inl hat
    ·exact .inr ⟨_,hat,Nat.le_refl _⟩
   have hne:∀ k,some k≠v.ownBlock→k < W.heap.size→some k≠v1.ownBlock:=by
    intro k hk hlt
    rcases hat' with hat | ⟨b,hb,hle⟩
    ·rw [hat];exact hk
    ·rw [hb]
     intro he
     injection he with he
     omega
   have step:∀ {q:α} {c:List Value} {o:Nat→Prop},d.M W base o q c→(∀ k,o k→ok k∧some k≠v.ownBlock)→d.M w1 base (fun k=>ok k∧some k≠v1.ownBlock) q c:=by
    intro q c o hq ho
    have h1:=d.M_move (w1:=w1) (fun k hk=>hg.block k hk.2.2.1 (ho k hk.1).2) (d.M_bound hq)
    exact d.M_mono (fun k hk=>⟨(ho k hk.1).1,hne k (ho k hk.1).2 hk.2.2.1⟩) h1
   refine ⟨v1,w1,hrun,⟨fun k hk=>?_,inner ++ news,by rw [List.length_append,hm];exact h2,lI (hr.jq (fun _ _ hq=>step hq (fun _ hk=>hk))) (hnM.jq (fun _ _ hq=>step hq y))⟩,hg,hat'⟩
   rcases hat' with hat | ⟨b,hb,hle⟩
   ·exact hok k (hat ▸ hk)
   ·rw [hb] at hk
    injection hk with hk
    exact hfresh k (by omega)
 obtain ⟨v1,w1,a4,h1,hg,hat⟩:=hrun
 rw [if_pos hw]
 unfold Oper.wp execOp
 simp only [ho,resolve,invoke,builtin,Sem.run_bind,Sem.run_pure,Result.andThen_ok,List.map_toArray,List.map_cons,List.map_nil,hs,hx,a4]
 exact h v1 w1 h1 (HB.grown hg hbase (ir hown)) hg hat
end Kd
end
end Go.Proofs.ag.aX
end
section
namespace Go.Proofs.ag.bU
section
variable {P:Program} {ops:Array Oper} {Q:Exit→Act→World→Prop} {md:Region.Mode} {S:World→Prop} {ds:List Nat}
def Region.iy (md:Region.Mode) (ops:Array Oper) (i:Nat):Nat→Nat→Bool
  | 0,_=>false
  | fuel+1,d=>match ops[d]? with
    | some o=>o.after.any fun e=>Region.binds md e && (e.on == i || Region.iy md ops i fuel e.on)
    | none=>false
def Region.kS (md:Region.Mode) (ops:Array Oper) (listed:Array Bool):Bool :=
  (List.range ops.size).all fun j=>!listed.getD j false || match ops[j]? with
    | some o=>o.after.all fun e=>!Region.binds md e || listed.getD e.on false
    | none=>true
def Region.pX (md:Region.Mode) (ops:Array Oper) (listed:Array Bool) (ds:List Nat) (i:Nat):Bool :=
 ds.all fun d=>listed.getD d true || Region.iy md ops i ops.size d
def gh (md:Region.Mode) (ops:Array Oper) (listed:Array Bool):Prop :=
 ∀ j oj,ops[j]? = some oj→listed.getD j false = true→∀ e∈oj.after,Region.binds md e = true→listed.getD e.on false = true
theorem Region.nF {listed:Array Bool} (h:Region.kS md ops listed = true):gh md ops listed:=by
 intro j oj hj hl e he hb
 have hlt:j < ops.size:=(Array.getElem?_eq_some_iff.1 hj).1
 have h1:=List.all_eq_true.1 h j (List.mem_range.2 hlt)
 simp only [hl,hj,Bool.not_true,Bool.false_or] at h1
 have h2:=Array.all_eq_true_iff_forall_mem.1 h1 e he
 simpa [hb] using h2
theorem gh.set {listed:Array Bool} {i:Nat} (h:gh md ops listed) (hi:i∈Region.ready md ops listed):gh md ops (listed.setIfInBounds i true):=by
 obtain ⟨_,oi,hoi,hall⟩:=mem_ready.1 hi
 intro j oj hj hl e he hb
 by_cases hij:i = j
 ·subst hij
  have:oj = oi:=Option.some.inj (hj.symm.trans hoi)
  subst this
  exact getD_set_true (hall e he hb)
 ·rw [getD_set_ne false hij] at hl
  exact getD_set_true (h j oj hj hl e he hb)
theorem Region.kT {listed:Array Bool} {i:Nat} (hc:gh md ops listed):∀ (fuel d:Nat),Region.iy md ops i fuel d = true→listed.getD d false = true→listed.getD i false = true
 | 0,_,h,_=>by simp [Region.iy] at h
 | fuel+1,d,h,hl=>by
  unfold Region.iy at h
  cases ho:ops[d]? with
  | none=>rw [ho] at h;simp at h
  | some o =>
   rw [ho] at h
   obtain ⟨e,he,h1⟩:=Array.any_eq_true'.1 h
   simp only [Bool.and_eq_true,Bool.or_eq_true,beq_iff_eq] at h1
   have hle:=hc d o ho hl e he h1.1
   rcases h1.2 with h2 | h2
   ·rw [← h2];exact hle
   ·exact Region.kT hc fuel e.on h2 hle
theorem Region.lQ {listed:Array Bool} {i d fuel:Nat} (hc:gh md ops listed) (hr:Region.iy md ops i fuel d = true) (hun:listed.getD i true = false):d ∉ Region.ready md ops listed:=by
 intro hd
 obtain ⟨_,o,ho,hall⟩:=mem_ready.1 hd
 have hi:listed.getD i false = true:=by
  cases fuel with
  | zero=>simp [Region.iy] at hr
  | succ n =>
   unfold Region.iy at hr
   rw [ho] at hr
   obtain ⟨e,he,h1⟩:=Array.any_eq_true'.1 hr
   simp only [Bool.and_eq_true,Bool.or_eq_true,beq_iff_eq] at h1
   have hle:=hall e he h1.1
   rcases h1.2 with h2 | h2
   ·rw [← h2];exact hle
   ·exact Region.kT hc n e.on h2 hle
 rcases Nat.lt_or_ge i listed.size with h' | h'
 ·simp [h'] at hun hi
  rw [hun] at hi
  cases hi
 ·simp [Array.getElem?_eq_none h'] at hun
def cM (P:Program) (md:Region.Mode) (ops:Array Oper) (Q:Exit→Act→World→Prop) (S:World→Prop) (ds:List Nat):Nat→Array Bool→Act→World→Prop
 | 0,listed,a,w=>Region.ready md ops listed = []∧Q .normal a w
 | fuel+1,listed,a,w =>
  (Region.ready md ops listed = []→Q .normal a w) ∧
  ∀ i∈Region.ready md ops listed,wpOp P ops Q i (fun a' w'=>(i ∉ ds→S w→S w')∧cM P md ops Q S ds fuel (listed.setIfInBounds i true) a' w') a w
theorem kr:∀ (fuel:Nat) (listed:Array Bool) (a:Act) (w:World),cM P md ops Q S ds fuel listed a w→wpAny P md ops Q fuel listed a w
 | 0,_,_,_,h=>h
 | fuel+1,_,_,_,h=>⟨h.1,fun i hi=>wpOp_mono (fun a' w' h'=>kr fuel _ a' w' h'.2) (h.2 i hi)⟩
theorem lR {i:Nat} {oi:Oper} {v:Value} (hi:ops[i]? = some oi) (hsel:∀ (j:Nat) (o:Oper) cs b,ops[j]? = some o→o.op ≠ .select cs b)
  (hQ:∀ c a w,Q (.panic c) (a.put oi.dst v) w→Q (.panic c) a w) (n:Nat) :
  ∀ (fuel:Nat) (listed:Array Bool) (a:Act) (w:World),
   (∀ j oj,ops[j]? = some oj→j≠i→listed.getD j true = false→(∀ e∈oj.after,Region.binds md e = true→e.on≠i)→oi.apart ops oj = true) →
   gh md ops listed→(∀ d∈ds,listed.getD d true = false→Region.iy md ops i n d = true) →
   i∈Region.ready md ops listed→YieldsIf P ops S oi v a→S w →
   cM P md ops Q S ds fuel (listed.setIfInBounds i true) (a.put oi.dst v) w→cM P md ops Q S ds (fuel+1) listed a w:=by
 intro fuel
 induction fuel with
 | zero =>
  intro listed a w _ _ _ hr hy hS H
  refine ⟨fun h=>(by rw [h] at hr;cases hr),fun j hj=>?_⟩
  by_cases hji:j = i
  ·subst hji;exact hy.wpOp hi hS ⟨fun _ h=>h,H⟩
  ·have:=ready_mono hj hji
   rw [H.1] at this
   cases this
 | succ fuel ih =>
  intro listed a w hfree hc hd hr hy hS H
  refine ⟨fun h=>(by rw [h] at hr;cases hr),fun j hj=>?_⟩
  by_cases hji:j = i
  ·subst hji;exact hy.wpOp hi hS ⟨fun _ h=>h,H⟩
  ·have h1:=H.2 j (ready_mono hj hji)
   obtain ⟨hjun,oj,hoj,hall⟩:=mem_ready.1 hj
   have y:=(mem_ready.1 hr).1
   have hnot:∀ e∈oj.after,Region.binds md e = true→e.on≠i:=fun e he hb heq=>by
    have h1:=hall e he hb
    rw [heq] at h1
    rcases Nat.lt_or_ge i listed.size with h' | h'
    ·simp [h'] at y h1;rw [y] at h1;cases h1
    ·simp [Array.getElem?_eq_none h'] at h1
   have hjd:j ∉ ds:=fun hm=>Region.lQ hc (hd j hm hjun) y hj
   have h2:=wpOp_putIf hoj (hfree j oj hoj hji hjun hnot) (fun cs b=>hsel i oi cs b hi) (fun cs b=>hsel j oj cs b hoj) hQ hy h1
   have hfree':∀ k ok,ops[k]? = some ok→k≠i→(listed.setIfInBounds j true).getD k true = false →
     (∀ e∈ok.after,Region.binds md e = true→e.on≠i)→oi.apart ops ok = true:=fun k ok hk hki hun hno=>by
    refine hfree k ok hk hki ?_ hno
    by_cases hjk:j = k
    ·subst hjk;exact hjun
    ·rw [getD_set_ne true hjk] at hun;exact hun
   have hd':∀ d∈ds,(listed.setIfInBounds j true).getD d true = false→Region.iy md ops i n d = true:=fun d hm hun=>by
    refine hd d hm ?_
    by_cases hjk:j = d
    ·subst hjk;exact hjun
    ·rw [getD_set_ne true hjk] at hun;exact hun
   refine wpOp_mono (fun a' w' h3=>⟨h3.2.1,ih (listed.setIfInBounds j true) a' w' hfree' (hc.set hj) hd' (ready_mono hr (Ne.symm hji)) h3.1 (h3.2.1 hjd hS) ?_⟩) h2
   rw [Array.setIfInBounds_comm _ _ hji]
   exact h3.2.2
theorem mV {i:Nat} {oi:Oper} {v:Value} (hi:ops[i]? = some oi) (hsel:∀ (j:Nat) (o:Oper) cs b,ops[j]? = some o→o.op ≠ .select cs b)
  (hQ:∀ c a w,Q (.panic c) (a.put oi.dst v) w→Q (.panic c) a w) :
  ∀ (fuel:Nat) (listed:Array Bool) (a:Act) (w:World),
   (∀ j oj,ops[j]? = some oj→j≠i→listed.getD j true = false→(∀ e∈oj.after,Region.binds md e = true→e.on≠i)→oi.apart ops oj = true) →
   i∈Region.ready md ops listed→Yields P ops oi v a →
   cM P md ops Q S ds fuel (listed.setIfInBounds i true) (a.put oi.dst v) w→cM P md ops Q S ds (fuel+1) listed a w:=by
 intro fuel
 induction fuel with
 | zero =>
  intro listed a w _ hr hy H
  refine ⟨fun h=>(by rw [h] at hr;cases hr),fun j hj=>?_⟩
  by_cases hji:j = i
  ·subst hji;exact (hy.yieldsIf (S:=fun _=>True)).wpOp hi trivial ⟨fun _ h=>h,H⟩
  ·have:=ready_mono hj hji
   rw [H.1] at this
   cases this
 | succ fuel ih =>
  intro listed a w hfree hr hy H
  refine ⟨fun h=>(by rw [h] at hr;cases hr),fun j hj=>?_⟩
  by_cases hji:j = i
  ·subst hji;exact (hy.yieldsIf (S:=fun _=>True)).wpOp hi trivial ⟨fun _ h=>h,H⟩
  ·have h1:=H.2 j (ready_mono hj hji)
   obtain ⟨hjun,oj,hoj,hall⟩:=mem_ready.1 hj
   have y:=(mem_ready.1 hr).1
   have hnot:∀ e∈oj.after,Region.binds md e = true→e.on≠i:=fun e he hb heq=>by
    have h1:=hall e he hb
    rw [heq] at h1
    rcases Nat.lt_or_ge i listed.size with h' | h'
    ·simp [h'] at y h1;rw [y] at h1;cases h1
    ·simp [Array.getElem?_eq_none h'] at h1
   have h2:=wpOp_put hoj (hfree j oj hoj hji hjun hnot) (fun cs b=>hsel i oi cs b hi) (fun cs b=>hsel j oj cs b hoj) hQ hy h1
   have hfree':∀ k ok,ops[k]? = some ok→k≠i→(listed.setIfInBounds j true).getD k true = false →
     (∀ e∈ok.after,Region.binds md e = true→e.on≠i)→oi.apart ops ok = true:=fun k ok hk hki hun hno=>by
    refine hfree k ok hk hki ?_ hno
    by_cases hjk:j = k
    ·subst hjk;exact hjun
    ·rw [getD_set_ne true hjk] at hun;exact hun
   refine wpOp_mono (fun a' w' h3=>⟨h3.2.1,ih (listed.setIfInBounds j true) a' w' hfree' (ready_mono hr (Ne.symm hji)) h3.1 ?_⟩) h2
   rw [Array.setIfInBounds_comm _ _ hji]
   exact h3.2.2
theorem m4 {i:Nat} {oi:Oper} {v:Value} {fuel:Nat} {listed:Array Bool} {a:Act} {w:World} (hi:ops[i]? = some oi)
  (hs:Region.noSelect ops = true) (hf:Region.free md ops listed i = true) (hr:(Region.ready md ops listed).contains i = true)
  (hc:Region.kS md ops listed = true) (hl:Region.pX md ops listed ds i = true)
  (hQ:∀ c a w,Q (.panic c) (a.put oi.dst v) w→Q (.panic c) a w) (hy:YieldsIf P ops S oi v a) (hS:S w)
  (h:cM P md ops Q S ds fuel (listed.setIfInBounds i true) (a.put oi.dst v) w):cM P md ops Q S ds (fuel+1) listed a w :=
 lR hi (Region.noSelect_spec hs) hQ ops.size fuel listed a w (Region.free_spec hi hf) (Region.nF hc)
  (fun d hm hun=>by have:=List.all_eq_true.1 hl d hm;rw [hun] at this;simpa using this) (by simpa using hr) hy hS h
theorem mW {rs:List Nat} {fuel:Nat} {listed:Array Bool} {a:Act} {w:World} (hr:Region.ready md ops listed = rs) (hne:rs≠[])
  (h:∀ i∈rs,wpOp P ops Q i (fun a' w'=>(i ∉ ds→S w→S w')∧cM P md ops Q S ds fuel (listed.setIfInBounds i true) a' w') a w):cM P md ops Q S ds (fuel+1) listed a w :=
 ⟨fun h0=>absurd (hr ▸ h0) hne,hr ▸ h⟩
theorem m6 {listed:Array Bool} {a:Act} {w:World} (hr:Region.ready md ops listed = []) (h:Q .normal a w) :
  ∀ fuel,cM P md ops Q S ds fuel listed a w
 | 0=>⟨hr,h⟩
 | _+1=>⟨fun _=>h,by rw [hr];simp⟩
theorem m7 {id:Nat} {a:Act} {w:World} (hm:P.follows .mixedOrders = true)
  (h:cM P .any ops Q S ds ops.size (Array.replicate ops.size false) a { w with drawn:=w.drawn+1 }):(Code.region id ops true).wp P Q a w :=
 wp_region_any hm (kr _ _ _ _ h)
end
section
variable {P:Program} {ops:Array Oper} {Q:Exit→Act→World→Prop} {md:Region.Mode} {S:World→Prop} {ds:List Nat}
def fz (P:Program) (md:Region.Mode) (ops:Array Oper) (Q:Exit→Act→World→Prop) (S:World→Prop) (ds:List Nat) (fuel:Nat) (listed:Array Bool) (a:Act) (w:World) (rs:List Nat):Prop :=
 ∀ i∈rs,wpOp P ops Q i (fun a' w'=>(i ∉ ds→S w→S w')∧cM P md ops Q S ds fuel (listed.setIfInBounds i true) a' w') a w
theorem fz.nil {fuel:Nat} {listed:Array Bool} {a:Act} {w:World}:fz P md ops Q S ds fuel listed a w []:=fun _ h=>by cases h
theorem fz.cons {fuel:Nat} {listed:Array Bool} {a:Act} {w:World} {i:Nat} {o:Oper} {rs:List Nat} (ho:ops[i]? = some o) (hd:i ∉ ds)
  (h:∀ K':Act→World→Prop,Shut (∀ a w,S w→(S w→cM P md ops Q S ds fuel (listed.setIfInBounds i true) a w)→K' a w)→if Region.wanted o (yielded ops a.tmps) = true then Oper.wp P o a w K' Q else K' (a.put o.dst undef) w)
  (hs:fz P md ops Q S ds fuel listed a w rs):fz P md ops Q S ds fuel listed a w (i :: rs):=fun j hj=>by
 rcases List.mem_cons.1 hj with rfl | hj
 ·exact wpOp_step ho (fun K' hK=>h K' (fun a w hS hW=>hK a w ⟨fun _ _=>hS,hW hS⟩))
 ·exact hs j hj
theorem fz.qG {fuel:Nat} {listed:Array Bool} {a:Act} {w:World} {i:Nat} {o:Oper} {rs:List Nat} (ho:ops[i]? = some o) (hd:i∈ds)
  (h:∀ K':Act→World→Prop,Shut (∀ a w,cM P md ops Q S ds fuel (listed.setIfInBounds i true) a w→K' a w)→if Region.wanted o (yielded ops a.tmps) = true then Oper.wp P o a w K' Q else K' (a.put o.dst undef) w)
  (hs:fz P md ops Q S ds fuel listed a w rs):fz P md ops Q S ds fuel listed a w (i :: rs):=fun j hj=>by
 rcases List.mem_cons.1 hj with rfl | hj
 ·exact wpOp_step ho (fun K' hK=>h K' (fun a w hW=>hK a w ⟨fun hn=>absurd hd hn,hW⟩))
 ·exact hs j hj
theorem jz {rs:List Nat} {fuel:Nat} {listed:Array Bool} {a:Act} {w:World} (hr:Region.ready md ops listed = rs) (hne:rs≠[])
  (h:fz P md ops Q S ds fuel listed a w rs):cM P md ops Q S ds (fuel+1) listed a w:=mW hr hne h
theorem eM {id n:Nat} {a:Act} {w:World} (l:Array Bool) (hm:P.follows .mixedOrders = true) (hn:ops.size = n) (hl:Array.replicate n false = l) (hS:S w.drew)
  (h:S w.drew→cM P .any ops Q S ds n l a w.drew):(Code.region id ops true).wp P Q a w:=by
 subst hn
 subst hl
 exact m7 hm (h hS)
def ot (md:Region.Mode) (ops:Array Oper) (ds:List Nat) (l l':Array Bool) (i:Nat):Bool :=
 Region.noSelect ops && Region.free md ops l i && (Region.ready md ops l).contains i && Region.kS md ops l && Region.pX md ops l ds i && (l.setIfInBounds i true == l')
theorem lG {i:Nat} {N:Option Tmp} {oi:Oper} {v:Value} {fuel:Nat} {l:Array Bool} {a:Act} {w:World} (l':Array Bool) (hi:ops[i]? = some oi) (hN:oi.dst = N) (hc:ot md ops ds l l' i = true)
  (hQ:∀ c a w,Q (.panic c) (a.put oi.dst v) w→Q (.panic c) a w) (hy:YieldsIf P ops S oi v a) (hS:S w) {a':Act} (ha:a.put N v = a')
  (h:cM P md ops Q S ds fuel l' a' w):cM P md ops Q S ds (fuel+1) l a w:=by
 subst ha
 subst hN
 simp only [ot,Bool.and_eq_true,beq_iff_eq] at hc
 obtain ⟨⟨⟨⟨⟨h1,h2⟩,h3⟩,h4⟩,h5⟩,j⟩:=hc
 subst j
 exact m4 hi h1 h2 h3 h4 h5 hQ hy hS h
def th (md:Region.Mode) (ops:Array Oper) (l l':Array Bool) (i:Nat):Bool :=
 Region.noSelect ops && Region.free md ops l i && (Region.ready md ops l).contains i && (l.setIfInBounds i true == l')
theorem cq {i:Nat} {N:Option Tmp} {oi:Oper} {v:Value} {fuel:Nat} {l:Array Bool} {a:Act} {w:World} (l':Array Bool) (hi:ops[i]? = some oi) (hN:oi.dst = N) (hc:th md ops l l' i = true)
  (hQ:∀ c a w,Q (.panic c) (a.put oi.dst v) w→Q (.panic c) a w) (hy:Yields P ops oi v a) {a':Act} (ha:a.put N v = a')
  (h:cM P md ops Q S ds fuel l' a' w):cM P md ops Q S ds (fuel+1) l a w:=by
 subst ha
 subst hN
 simp only [th,Bool.and_eq_true,beq_iff_eq] at hc
 obtain ⟨⟨⟨h1,h2⟩,h3⟩,j⟩:=hc
 subst j
 exact mV hi (Region.noSelect_spec h1) hQ fuel l a w (Region.free_spec hi h2) (by simpa using h3) hy h
def lz (md:Region.Mode) (ops:Array Oper) (l l':Array Bool) (i:Nat):Bool:=(Region.ready md ops l == [i]) && (l.setIfInBounds i true == l')
theorem fN {i:Nat} {N:Option Tmp} {oi:Oper} {fuel:Nat} {l:Array Bool} {a:Act} {w:World} (l':Array Bool) (hi:ops[i]? = some oi) (hN:oi.dst = N) (hc:lz md ops l l' i = true) (hd:i ∉ ds)
  (h:∀ K:Act→World→Prop,Shut (∀ a' w',S w'→(S w'→cM P md ops Q S ds fuel l' a' w')→K a' w')→if Region.wanted oi (yielded ops a.tmps) = true then Oper.wp P oi a w K Q else K (a.put N undef) w) :
  cM P md ops Q S ds (fuel+1) l a w:=by
 subst hN
 simp only [lz,Bool.and_eq_true,beq_iff_eq] at hc
 obtain ⟨h1,h2⟩:=hc
 subst h2
 exact jz h1 (by simp) (fz.cons hi hd (fun K hK=>h K hK) fz.nil)
theorem lJ {i:Nat} {N:Option Tmp} {oi:Oper} {fuel:Nat} {l:Array Bool} {a:Act} {w:World} (l':Array Bool) (hi:ops[i]? = some oi) (hN:oi.dst = N) (hc:lz md ops l l' i = true) (hd:i∈ds)
  (h:∀ K:Act→World→Prop,Shut (∀ a' w',cM P md ops Q S ds fuel l' a' w'→K a' w')→if Region.wanted oi (yielded ops a.tmps) = true then Oper.wp P oi a w K Q else K (a.put N undef) w) :
  cM P md ops Q S ds (fuel+1) l a w:=by
 subst hN
 simp only [lz,Bool.and_eq_true,beq_iff_eq] at hc
 obtain ⟨h1,h2⟩:=hc
 subst h2
 exact jz h1 (by simp) (fz.qG hi hd (fun K hK=>h K hK) fz.nil)
theorem fO {l:Array Bool} {a:Act} {w:World} {n:Nat} (hr:(Region.ready md ops l == []) = true) (h:Q .normal a w):cM P md ops Q S ds n l a w:=m6 (by simpa using hr) h n
theorem er {fuel:Nat} {l:Array Bool} {a a':Act} {w:World} (ha:a = a') (h:cM P md ops Q S ds fuel l a' w):cM P md ops Q S ds fuel l a w:=by
 subst ha
 exact h
theorem vD {oi:Oper} {N:Option Tmp} {a:Act} {w:World} {K:Act→World→Prop} (f:FuncId) (args:Array Value) (hw:Region.wanted oi (yielded ops a.tmps) = true) (hN:oi.dst = N) (hrun:(execOp a.eval oi).run P w = .ok (.enter f args) w)
  (h:Calls P f args w fun e w'=>∃ v,e = .returned v∧K (a.put N v) w'):if Region.wanted oi (yielded ops a.tmps) = true then Oper.wp P oi a w K Q else K (a.put N undef) w:=by
 rw [if_pos hw]
 subst hN
 unfold Oper.wp
 rw [hrun,Oper.upon_enter]
 refine h.mono fun e w'' hh=>?_
 obtain ⟨v,rfl,hk⟩:=hh
 exact hk
theorem nG {f:FuncId} {fn:Func} (hf:P.funcs[f]? = some fn) (hname:(fn.name == "runtime.NumGoroutine") = false) (hb:fn.body.isSome = true) (args:Array Value) (w:World):(callFunc f args).run P w = .ok (.enter f args) w:=by
 have h1:fn.name ≠ "runtime.NumGoroutine" := by simpa using hname
 obtain ⟨c,hc⟩:=Option.isSome_iff_exists.1 hb
 simp [callFunc,hf,h1,hc]
theorem fC {oi:Oper} {N:Option Tmp} {a:Act} {w:World} {K:Act→World→Prop} {f:FuncId} {fn:Func} {as_q:Array Operand} {ts:Array TypeId} (hf:P.funcs[f]? = some fn) (hname:(fn.name == "runtime.NumGoroutine") = false) (hb:fn.body.isSome = true) (args:Array Value)
  (hw:Region.wanted oi (yielded ops a.tmps) = true) (hN:oi.dst = N) (hop:oi.op = .call { callee:=.value (.func f),args:=as_q,argTypes:=ts }) (hargs:as_q.map a.eval = args)
  (h:Calls P f args w fun e w'=>∃ v,e = .returned v∧K (a.put N v) w'):if Region.wanted oi (yielded ops a.tmps) = true then Oper.wp P oi a w K Q else K (a.put N undef) w:=by
 refine vD f args hw hN ?_ h
 have he:=nG hf hname hb args w
 unfold execOp
 simp [hop,resolve,Deferred.ofValue,invoke,Act.eval,hargs,he]
theorem nH {rest:List Oper} {oi:Oper} {a:Act} {w:World} (N:Option Tmp) (hd:oi.dst = N) (hg:oi.guard = none) {f:FuncId} {fn:Func} {as_q:Array Operand} {ts:Array TypeId} (hf:P.funcs[f]? = some fn) (hname:(fn.name == "runtime.NumGoroutine") = false) (hb:fn.body.isSome = true) (args:Array Value)
  (hop:oi.op = .call { callee:=.value (.func f),args:=as_q,argTypes:=ts }) (hargs:as_q.map a.eval = args)
  (h:Calls P f args w fun e w'=>∃ v,e = .returned v∧wpList P ops Q rest (a.put N v) w'):wpList P ops Q (oi :: rest) a w:=by
 refine wpList_plain hg fun K hK=>?_
 have he:=nG hf hname hb args w
 have hrun:(execOp a.eval oi).run P w = .ok (.enter f args) w:=by
  unfold execOp
  simp [hop,resolve,Deferred.ofValue,invoke,Act.eval,hargs,he]
 unfold Oper.wp
 rw [hrun,Oper.upon_enter]
 refine h.mono fun e w'' hh=>?_
 obtain ⟨v,rfl,hk⟩:=hh
 subst hd
 exact hK _ _ hk
theorem nI {oi:Oper} {N:Option Tmp} {a:Act} {w w1:World} {v:Value} {K:Act→World→Prop} (hw:Region.wanted oi (yielded ops a.tmps) = true) (hN:oi.dst = N) (hrun:(execOp a.eval oi).run P w = .ok (.value v) w1)
  (h:K (a.put N v) w1):if Region.wanted oi (yielded ops a.tmps) = true then Oper.wp P oi a w K Q else K (a.put N undef) w:=by
 rw [if_pos hw]
 subst hN
 unfold Oper.wp
 rw [hrun]
 exact h
theorem lK {oi:Oper} {a:Act} {w w1:World} {K:Act→World→Prop} (hw:Region.wanted oi (yielded ops a.tmps) = true) (hN:oi.dst = none) (hrun:(execOp a.eval oi).run P w = .ok .skip w1)
  (h:K a w1):if Region.wanted oi (yielded ops a.tmps) = true then Oper.wp P oi a w K Q else K (a.put none undef) w:=by
 rw [if_pos hw]
 unfold Oper.wp
 rw [hrun]
 show K (a.put oi.dst undef) w1
 rw [hN]
 exact h
theorem aM (n:Int):IntKind.i64.wrap n = Go.RowKit.wrap64 n:=by unfold Go.RowKit.wrap64;exact IntKind.wrap_i64 n
theorem b8 (n:Int):IntKind.i32.wrap n = Go.RowKit.wrap32 n:=by unfold Go.RowKit.wrap32;exact IntKind.wrap_i32 n
end
end Go.Proofs.ag.bU
end
section
namespace Go.Proofs.ag.aX
open Go.RowKit
namespace Kd
def tag {α:Type} (f:Nat→Nat) (d:Kd α):Kd (α×Nat) where
 sz:=d.sz
 E:=d.E
 K:=fun w x cs=>d.K w x.1 cs
 M:=fun w base ok x cs=>d.M w base (fun k=>ok k∧f k = x.2) x.1 cs
 K_len:=fun h=>d.K_len h
 K_one:=fun h=>d.K_one h
 K_below:=fun hb h=>d.K_below hb h
 K_of_M:=fun h=>d.K_of_M h
 M_mono:=fun hok h=>d.M_mono (fun k hk=>⟨hok k hk.1,hk.2⟩) h
 M_bound:=fun h=>d.M_mono (fun _ hk=>⟨⟨hk.1.1,hk.2⟩,hk.1.2⟩) (d.M_bound h)
 M_move:=fun hm h=>d.M_move (fun k hk=>hm k hk.1) h
 M_lower:=fun hb h=>d.M_lower hb h
def bare {α:Type} (d:Kd α):Kd α where
 sz:=d.sz
 E:=d.E
 K:=d.K
 M:=fun w base _ x cs=>d.M w base (fun _=>False) x cs
 K_len:=fun h=>d.K_len h
 K_one:=fun h=>d.K_one h
 K_below:=fun hb h=>d.K_below hb h
 K_of_M:=fun h=>d.K_of_M h
 M_mono:=fun _ h=>h
 M_bound:=fun h=>h
 M_move:=fun _ h=>d.M_move (fun _ hk=>hk.elim) h
 M_lower:=fun hb h=>d.M_lower hb h
def raw (sz:Nat):Kd (List Value) where
 sz:=sz
 E:=[]
 K:=fun _ x cs=>cs = x∧cs.length = sz∧∀ u∈cs,u.oneCell' = true
 M:=fun _ _ _ x cs=>cs = x∧cs.length = sz∧∀ u∈cs,u.oneCell' = true
 K_len:=fun h=>h.2.1
 K_one:=fun h=>h.2.2
 K_below:=fun _ h=>h
 K_of_M:=fun h=>h
 M_mono:=fun _ h=>h
 M_bound:=fun h=>h
 M_move:=fun _ h=>h
 M_lower:=fun _ h=>h
def S {α:Type} (d:Kd α) (e:Nat) (w:World) (base:Nat) (ok:Nat→Prop) (v:Value) (xs:List α):Prop:=∃ f,(tag f d).R e w base ok v xs.zipIdx
section
variable {α β:Type} {d:Kd α} {d':Kd β} {e e':Nat} {w w1 W:World} {base b:Nat} {ok ok' okv oku:Nat→Prop} {u v:Value} {xs:List α} {ys:List β}
theorem nJ {xs:List α} {j:Nat} {p:α} (h:xs[j]? = some p):xs.zipIdx[j]? = some (p,j):=by rw [List.getElem?_zipIdx,h,Nat.zero_add];rfl
theorem vx (h:S d e w base ok v xs):d.R e w base ok v xs:=by
 obtain ⟨f,h0,inner,ho,hr⟩:=h
 rw [List.length_zipIdx] at ho
 exact ⟨h0,inner,ho,by have:=hr.1;rw [List.length_zipIdx] at this;exact this,fun j p hj=>d.M_mono (fun _ hk=>hk.1) (hr.2 j (p,j) (nJ hj))⟩
theorem rF {ad:Addr} {n cap:Nat} (h:d.R e w base ok (.slice (some ad) n cap) xs):∃ g,ad = ⟨g,0,none⟩:=by
 obtain ⟨_,inner,ho,hr⟩:=h
 rcases ho.2 with ⟨hv,_⟩ | ⟨g,cap',cur,hv,_⟩
 ·cases hv
 ·injection hv with ha _ _
  injection ha with ha
  exact ⟨g,ha⟩
theorem uB {ad:Addr} {n cap:Nat} (h:d.R e W base ok (.slice (some ad) n cap) xs) (z:α) (i:Int) (h0:0≤i) (h1:i < n) :
  ∃ c,c.length = d.sz∧d.M W base (fun k=>ok k∧some k≠(Value.slice (some ad) n cap).ownBlock) (xs.getD i.toNat z) c∧∀ j u,c[j]? = some u→W.cell? (ad.add (i.toNat * d.sz+j)) = some u:=by
 obtain ⟨g,rfl⟩:=rF h
 obtain ⟨c,hcl,hM,hcc,_⟩:=uA h z i h0 h1
 refine ⟨c,hcl,d.M_mono (fun k hk=>⟨hk.1,fun he=>hk.2 (by simpa [Value.ownBlock] using he)⟩) hM,fun j u hu=>?_⟩
 rw [rC,Nat.zero_add]
 exact hcc j u hu
theorem pY (hE:d.E = []) (h:d.R e w base ok v xs):d.R e w base (fun k=>some k = v.ownBlock) v xs:=by
 obtain ⟨h0,inner,ho,hr⟩:=h
 refine ⟨fun k hk=>hk.symm,inner,ho,hr.jq (fun p c hp=>d.M_mono (fun k hk=>?_) (d.M_bound hp))⟩
 obtain ⟨_,_,_,q,hq,_⟩:=hk
 rw [hE] at hq
 cases hq
theorem vE (d:Kd α) (e:Nat) (w:World) (base:Nat) (ok:Nat→Prop):S d e w base ok (.slice none 0 0) []:=⟨fun _=>0,pU _ _ _ _ _⟩
theorem jI (h:S d e w base ok v xs) (hok:∀ k,ok k→ok' k):S d e w base ok' v xs:=by
 obtain ⟨f,h⟩:=h
 exact ⟨f,aC h hok⟩
theorem tj (h:S d e w base ok v xs):S d e w base (fun k=>ok k∧base≤k∧k < w.heap.size∧∃ q,q∈e :: d.E∧∃ cells,w.heap[k]? = some (.cells cells q (0,0))) v xs:=by
 obtain ⟨f,h⟩:=h
 exact ⟨f,gH h⟩
theorem uC (h:S d e w base ok v xs) (hm:∀ k,ok k→w1.heap[k]? = w.heap[k]?):S d e w1 base ok v xs:=by
 obtain ⟨f,h⟩:=h
 exact ⟨f,lp h hm⟩
theorem nK {base':Nat} (h:S d e w base ok v xs) (hb:base'≤base):S d e w base' ok v xs:=by
 obtain ⟨f,h⟩:=h
 exact ⟨f,aV h hb⟩
theorem uD (h:S d e w base ok v xs) (hm:∀ k,ok k→k < w.heap.size→w1.heap[k]? = w.heap[k]?):S d e w1 base ok v xs :=
 jI (uC (tj h) (fun k hk=>hm k hk.1 hk.2.2.1)) (fun _ hk=>hk.1)
theorem js (h:S d e w base ok v xs) (hb:Below w.heap.size w w1):S d e w1 base ok v xs:=uD h (fun k _ hk=>hb.block k hk)
theorem pZ (h:S d e w base ok v xs) (o:Obj):S d e (w.alloc o) base ok v xs:=js h (dX (Below.refl _ _) o)
theorem pg (h:S d e w base ok v xs):S d e w.drew base ok v xs:=js h (kB (Below.refl _ _))
theorem q5 (h:S d e w base ok v xs) (m:Nat):S d e (w.drewN m) base ok v xs:=js h (dY (Below.refl _ _) m)
theorem q8 (h:S d e w base ok v xs):∀ k,v.ownBlock = some k→∃ cells,w.heap[k]? = some (.cells cells e (0,0)):=pW (vx h)
theorem m8 (h:S d e W base ok u xs) (hbase:∀ k,v.ownBlock = some k→W.heap.size≤k) (hb:Below W.heap.size W w1):S d e w1 base (fun k=>ok k∧some k≠v.ownBlock) u xs:=by
 obtain ⟨f,h⟩:=h
 exact ⟨f,aQ h hbase hb⟩
theorem nL (h:S d e w1 W.heap.size ok v xs) (hlt:∀ k,u.ownBlock = some k→k < W.heap.size):S d e w1 W.heap.size (fun k=>ok k∧some k≠u.ownBlock) v xs:=by
 obtain ⟨f,h⟩:=h
 exact ⟨f,br h hlt⟩
theorem uE (h:(bare d).R e w base ok v xs):S d e w base ok v xs:=by
 obtain ⟨h0,inner,ho,hr⟩:=h
 refine ⟨fun _=>0,h0,inner,by rw [List.length_zipIdx];exact ho,by rw [List.length_zipIdx];exact hr.1,fun j p hj=>?_⟩
 rw [List.getElem?_zipIdx,Nat.zero_add] at hj
 obtain ⟨x,hx,rfl⟩:=Option.map_eq_some_iff.1 hj
 exact d.M_mono (fun _ hk=>hk.elim) (hr.2 j x hx)
theorem vF {f f':Nat→Nat} {zs:List (α×Nat)} (h:(tag f d).R e w base ok v zs) (hf:∀ k,ok k→k < w.heap.size→f' k = f k):(tag f' d).R e w base ok v zs:=by
 obtain ⟨h0,inner,ho,hr⟩:=gH h
 exact ⟨fun k hk=>(h0 k hk).1,inner,ho,hr.1,fun j p hj=>d.M_mono (fun k hk=>⟨⟨hk.1.1.1,hk.1.2⟩,(hf k hk.1.1.1 hk.1.1.2.2.1).trans hk.2⟩) (hr.2 j p hj)⟩
end
section
variable {α β:Type} {d:Kd α} {d':Kd β} {e e' g:Nat} {w w1 W:World} {base b:Nat} {ok ok' okv oku:Nat→Prop} {u v:Value} {xs:List α} {ys:List β}
theorem wv (h:S d e w base ok v xs) {t:Nat} {cells:Array Value} (hb:w.heap[g]? = some (.cells cells t (0,0))) (ht:e≠t):some g≠v.ownBlock:=fS (vx h) hb ht
theorem qa (h:S d e w base ok v xs):∃ A c,v = .slice A xs.length c:=aK (vx h)
theorem iN {A:Option Addr} {n c:Nat} (h:S d e w base ok (.slice A n c) xs):n = xs.length∧n≤c∧d.C w A xs.length xs:=ah (vx h)
theorem u4 {ad:Addr} {n cap:Nat} (h:S d e W base ok (.slice (some ad) n cap) xs) (z:α) (i:Int) (h0:0≤i) (h1:i < n) :
  ∃ c,c.length = d.sz∧d.M W base (fun k=>ok k∧some k≠(Value.slice (some ad) n cap).ownBlock) (xs.getD i.toNat z) c∧∀ j u,c[j]? = some u→W.cell? (ad.add (i.toNat * d.sz+j)) = some u:=uB (vx h) z i h0 h1
theorem rG (xs:List α) (p:α):(xs ++ [p]).zipIdx = xs.zipIdx ++ [(p,xs.length)]:=by rw [List.zipIdx_append];simp
end
section
open Classical in
theorem vG {α:Type} {d:Kd α} {e base:Nat} {okv:Nat→Prop} {w:World} {v:Value} {xs:List α} (h:S d e w base okv v xs) (m:Nat) (okp:Nat→Prop) (hap:∀ k,okp k→¬ okv k):∃ f,(∀ k,okp k→f k = m)∧(tag f d).R e w base okv v xs.zipIdx:=by
 obtain ⟨f,h⟩:=h
 exact ⟨fun k=>if okp k then m else f k,fun k hk=>if_pos hk,vF h (fun k hk _=>if_neg (fun h2=>hap k h2 hk))⟩
variable {P:Program} {ops:Array Oper} {rest:List Oper} {o:Oper} {a:Act} {Q:Exit→Act→World→Prop} {Kc:Act→World→Prop} {α:Type}
theorem rH (d:Kd α) {w0 W:World} (base:Nat) (hgd:o.guard = none) (s x:Operand) (t e:TypeId) (z:Value) (bytes:Nat)
  (ho:o.op = .call { callee:=.builtin .append,args:=#[s,x],argTypes:=#[t,t] })
  (ht:P.underlying t = some (.slice e)) (hinfo:(P.info? e).map (fun i=>(i.zero,i.size,i.bytes)) = some (some z,d.sz,bytes)) (hz:z.cells.size = d.sz) (y:0 < d.sz) (X:0 < bytes)
  (v:Value) (xs:List α) (p:α) (cs:List Value) (ok okp:Nat→Prop) (hs:a.eval s = v) (hx:a.eval x = .slice (some ⟨W.heap.size,0,none⟩) 1 1) (hp:d.M W base okp p cs) (j:∀ k,okp k→ok k∧some k≠v.ownBlock) (hfresh:∀ k,W.heap.size≤k→ok k)
  (HO:S d e W base (fun k=>ok k∧¬ okp k) v xs) (HB:Below base w0 W) (hbase:base≤W.heap.size) (hl:(xs.length+1) * bytes≤140737488355328)
  (h:∀ v1 w1,S d e w1 base ok v1 (xs ++ [p])→Below base w0 w1→W.grownBy w1 v.ownBlock→(v1.ownBlock = v.ownBlock∨∃ b,v1.ownBlock = some b∧W.heap.size≤b)→wpList P ops Q rest (a.put o.dst v1) w1) :
  wpList P ops Q (o :: rest) a (W.alloc (.cells cs.toArray e)):=by
 obtain ⟨f,hf,hR⟩:=vG HO xs.length okp (fun _ hk h2=>h2.2 hk)
 refine eE (tag f d) base hgd s x t e z bytes ho ht hinfo hz y X v xs.zipIdx (p,xs.length) cs ok okp hs hx (d.M_mono (fun k hk=>⟨hk,hf k hk⟩) hp) j hfresh (aC hR (fun _ hk=>hk.1)) HB hbase (by rw [List.length_zipIdx];exact hl) ?_
 intro v1 w1 hr
 rw [← rG] at hr
 exact h v1 w1 ⟨f,hr⟩
theorem u9 (d:Kd α) {w0 W:World} (base e:Nat) (hgd:o.guard = none) {N:Tmp} (_hd:o.dst = some N) {xs:List α} {inner:List Value} {ok okp:Nat→Prop}
  (hrun:(execOp a.eval o).run P W = .ok (.value (.slice (some ⟨W.heap.size,0,none⟩) xs.length xs.length)) (W.alloc (.cells inner.toArray e)))
  (hrep:cV (d.M W base (fun _=>False)) d.sz xs inner) (_hok:∀ k,okp k→ok k) (hfresh:ok W.heap.size) (HB:Below base w0 W) (hbase:base≤W.heap.size) (hm:xs.length≤9223372036854775807)
  (h:∀ v1 w1,S d e w1 base ok v1 xs→Below base w0 w1→W.grownBy w1 none→(∃ b,v1.ownBlock = some b∧W.heap.size≤b)→wpList P ops Q rest (a.put o.dst v1) w1):wpList P ops Q (o :: rest) a W :=
 jH (bare d) base e hgd _hd (ok:=ok) (okp:=ok) hrun hrep (fun _ hk=>hk) hfresh HB hbase hm (fun v1 w1 hr=>h v1 w1 (uE hr))
end
def wT {α:Type} (f:Nat→Nat) (d:Kd α) (i:Nat) (c:List Value):Kd (α×Nat) where
 sz:=d.sz
 E:=d.E
 K:=fun w x cs=>(x.2 = i→cs = c∧cs.length = d.sz∧∀ u∈cs,u.oneCell' = true)∧(x.2≠i→d.K w x.1 cs)
 M:=fun w base ok x cs=>(x.2 = i→cs = c∧cs.length = d.sz∧∀ u∈cs,u.oneCell' = true)∧(x.2≠i→d.M w base (fun k=>ok k∧f k = x.2) x.1 cs)
 K_len:=fun {w x cs} h=>by
  by_cases hx:x.2 = i
  ·exact (h.1 hx).2.1
  ·exact d.K_len (h.2 hx)
 K_one:=fun {w x cs} h=>by
  by_cases hx:x.2 = i
  ·exact (h.1 hx).2.2
  ·exact d.K_one (h.2 hx)
 K_below:=fun hb h=>⟨h.1,fun hx=>d.K_below hb (h.2 hx)⟩
 K_of_M:=fun h=>⟨h.1,fun hx=>d.K_of_M (h.2 hx)⟩
 M_mono:=fun hok h=>⟨h.1,fun hx=>d.M_mono (fun k hk=>⟨hok k hk.1,hk.2⟩) (h.2 hx)⟩
 M_bound:=fun h=>⟨h.1,fun hx=>d.M_mono (fun _ hk=>⟨⟨hk.1.1,hk.2⟩,hk.1.2⟩) (d.M_bound (h.2 hx))⟩
 M_move:=fun hm h=>⟨h.1,fun hx=>d.M_move (fun k hk=>hm k hk.1) (h.2 hx)⟩
 M_lower:=fun hb h=>⟨h.1,fun hx=>d.M_lower hb (h.2 hx)⟩
def H {α:Type} (d:Kd α) (e:Nat) (w:World) (base:Nat) (ok:Nat→Prop) (v:Value) (xs:List α) (i:Int) (oki:Nat→Prop) (c:List Value):Prop :=
 (∀ k,oki k→ok k)∧∃ f,(wT f d i.toNat c).R e w base (fun k=>ok k∧¬ oki k) v xs.zipIdx
section
variable {α β:Type} {d:Kd α} {e e' g n cap:Nat} {w w1 W:World} {base:Nat} {ok ok' oki okp:Nat→Prop} {u v:Value} {xs:List α} {i:Int} {c:List Value}
theorem uF (h:S d e W base ok (.slice (some ⟨g,0,none⟩) n cap) xs) (z:α) (i:Int) (h0:0≤i) (h1:i < n) :
  ∃ (oki:Nat→Prop) (c:List Value),c.length = d.sz∧d.M W base oki (xs.getD i.toNat z) c∧(∀ j u,c[j]? = some u→W.cell? ⟨g,i.toNat * d.sz+j,none⟩ = some u)∧(∀ k,oki k→ok k∧k≠g)∧H d e W base ok (.slice (some ⟨g,0,none⟩) n cap) xs i oki c:=by
 obtain ⟨f,hR⟩:=h
 have hn:=(ah hR).1
 rw [List.length_zipIdx] at hn
 have hgo:some g = (Value.slice (some ⟨g,0,none⟩) n cap).ownBlock:=by simp [Value.ownBlock]
 obtain ⟨y,inner,ho,hr⟩:=hR
 have hil:i.toNat < xs.length:=by omega
 have hlen:inner.length = xs.length * d.sz:=by have:=hr.1;rw [List.length_zipIdx] at this;exact this
 have hseg:i.toNat * d.sz+d.sz≤inner.length:=by rw [hlen,← Nat.succ_mul];exact Nat.mul_le_mul_right _ hil
 have hM:=hr.2 i.toNat _ (nJ (List.getElem?_eq_getElem hil))
 have hkg:∀ k,some k≠(Value.slice (some ⟨g,0,none⟩) n cap).ownBlock→k≠g:=fun k hk he=>hk (by rw [he];exact hgo)
 refine ⟨fun k=>(ok k∧k≠g)∧f k = i.toNat,(inner.drop (i.toNat * d.sz)).take d.sz,by rw [List.length_take,List.length_drop];omega,?_,fun j u hu=>?_,fun k hk=>hk.1,fun k hk=>hk.1.1,f,fun k hk=>⟨y k hk,fun h2=>h2.1.2 ?_⟩,inner,ho,hr.1,fun m p hm=>?_⟩
 ·rw [List.getD_eq_getElem?_getD,List.getElem?_eq_getElem hil]
  exact d.M_mono (fun k hk=>⟨⟨hk.1.1,hkg k hk.1.2⟩,hk.2⟩) hM
 ·rw [List.getElem?_take] at hu
  split at hu
  ·rw [List.getElem?_drop] at hu
   have:=ho.cells (g:=g) hgo.symm _ u hu
   rwa [add_plain] at this
  ·cases hu
 ·rw [← hgo] at hk;injection hk with hk;exact hk.symm
 ·have hold:=hr.2 m p hm
  have Y:p.2 = m:=by
   rw [List.getElem?_zipIdx,Nat.zero_add] at hm
   obtain ⟨q,_,rfl⟩:=Option.map_eq_some_iff.1 hm
   rfl
  refine ⟨fun hx=>?_,fun hx=>d.M_mono (fun k hk=>⟨⟨⟨hk.1.1,fun h2=>hx ?_⟩,hk.1.2⟩,hk.2⟩) hold⟩
  ·have X:m = i.toNat:=by omega
   subst X
   exact ⟨rfl,d.K_len (d.K_of_M hM),d.K_one (d.K_of_M hM)⟩
  ·rw [← hk.2];exact h2.2
open Classical in
theorem uG (h:H d e w base ok v xs i oki c) {x':α} (hM:d.M w base okp x' c) (hok:∀ k,okp k→oki k):S d e w base ok v (xs.set i.toNat x'):=by
 obtain ⟨ho,f,h0,inner,hown,hr⟩:=h
 refine ⟨fun k=>if oki k then i.toNat else f k,fun k hk=>(h0 k hk).1,inner,by rw [List.length_zipIdx,List.length_set];rw [List.length_zipIdx] at hown;exact hown,by have:=hr.1;rw [List.length_zipIdx] at this;rw [List.length_zipIdx,List.length_set];exact this,fun m p hm=>?_⟩
 rw [List.getElem?_zipIdx,Nat.zero_add] at hm
 obtain ⟨q,hq,rfl⟩:=Option.map_eq_some_iff.1 hm
 have hml:m < xs.length:=by
  have:=(List.getElem?_eq_some_iff.1 hq).1
  rwa [List.length_set] at this
 by_cases j:m = i.toNat
 ·subst j
  rw [List.getElem?_set_self hml] at hq
  injection hq with hq
  subst hq
  have hc:=((hr.2 i.toNat _ (nJ (List.getElem?_eq_getElem hml))).1 rfl).1
  show d.M w base _ x' ((inner.drop (i.toNat * d.sz)).take d.sz)
  rw [show (inner.drop (i.toNat * d.sz)).take d.sz = c from hc]
  exact d.M_mono (fun k hk=>⟨⟨ho k (hok k hk),fun he=>(h0 k he.symm).2 (hok k hk)⟩,if_pos (hok k hk)⟩) hM
 ·rw [List.getElem?_set_ne (Ne.symm j)] at hq
  exact d.M_mono (fun k hk=>⟨⟨hk.1.1.1,hk.1.2⟩,(if_neg hk.1.1.2).trans hk.2⟩) ((hr.2 m (q,m) (nJ hq)).2 j)
theorem uH (h:H d e w base ok v xs i oki c) (hm:∀ k,ok k→¬ oki k→k < w.heap.size→w1.heap[k]? = w.heap[k]?):H d e w1 base ok v xs i oki c:=by
 obtain ⟨ho,f,h⟩:=h
 exact ⟨ho,f,nC h (fun k hk hlt=>hm k hk.1 hk.2 hlt)⟩
theorem tn (h:H d e w base ok v xs i oki c) {row:Option Nat} (hg:w.grownBy w1 row) (hrow:∀ k,row = some k→oki k):H d e w1 base ok v xs i oki c :=
 uH h (fun k _ hn hlt=>hg.block k hlt (fun he=>hn (hrow k he.symm)))
theorem rI {ad:Addr} (h:S d e W base ok (.slice (some ad) n cap) xs) (z:α) (i:Int) (h0:0≤i) (h1:i < n) :
  ∃ (oki:Nat→Prop) (c:List Value),c.length = d.sz∧d.M W base oki (xs.getD i.toNat z) c∧(∀ j u,c[j]? = some u→W.cell? (ad.add (i.toNat * d.sz+j)) = some u)∧(∀ k,oki k→ok k∧some k≠(Value.slice (some ad) n cap).ownBlock) ∧
   ∀ {w1:World} {row:Option Nat} {x':α},W.grownBy w1 row→(∀ k,row = some k→oki k)→d.M w1 base oki x' c→S d e w1 base ok (.slice (some ad) n cap) (xs.set i.toNat x'):=by
 obtain ⟨g,rfl⟩:=rF (vx h)
 obtain ⟨oki,c,hcl,hM,hcc,y,hH⟩:=uF h z i h0 h1
 refine ⟨oki,c,hcl,hM,fun j u hu=>?_,fun k hk=>⟨(y k hk).1,fun he=>(y k hk).2 ?_⟩,fun hg hrow X=>uG (tn hH hg hrow) X (fun _ hk=>hk)⟩
 ·rw [rC,Nat.zero_add]
  exact hcc j u hu
 ·simpa [Value.ownBlock] using he
end
end Kd
end Go.Proofs.ag.aX
end
section
namespace Go.Proofs.ag.aX
open Go.RowKit
namespace Kd
structure Heap {α:Type} (d:Kd α):Prop where
 K:∀ {w w1:World} {x:α} {cs:List Value},(∀ k,k < w.heap.size→w1.heap[k]? = w.heap[k]?)→d.K w x cs→d.K w1 x cs
theorem qH {w w1:World} (hb:∀ k,k < w.heap.size→w1.heap[k]? = w.heap[k]?) {a:Addr} {v:Value} (h:w.cell? a = some v):w1.cell? a = some v:=by
 have:=hb a.block (World.block_lt_of_cell? w a h)
 simpa [World.cell?,this] using h
theorem Heap.C {α:Type} {d:Kd α} (hd:Heap d) {w w1:World} {A:Option Addr} {n:Nat} {xs:List α} (hb:∀ k,k < w.heap.size→w1.heap[k]? = w.heap[k]?) (h:d.C w A n xs):d.C w1 A n xs :=
 ⟨h.1,h.2.1,fun hn=>by
  obtain ⟨ad,e,hc⟩:=h.2.2 hn
  refine ⟨ad,e,fun j p hj=>?_⟩
  obtain ⟨c,hs,hr,hcell⟩:=hc j p hj
  exact ⟨c,hs,hd.K hb hr,fun i u hu=>qH hb (hcell i u hu)⟩⟩
end Kd
def Kept (w W:World) (S:Nat→Prop):Prop:=w.heap.size≤W.heap.size∧∀ i,i < w.heap.size→¬ S i→W.heap[i]? = w.heap[i]?
section
variable {w W W2:World} {S S2 S':Nat→Prop}
theorem Kept.refl (w:World) (S:Nat→Prop):Kept w w S:=⟨Nat.le_refl _,fun _ _ _=>rfl⟩
theorem Kept.cW (h:Below w.heap.size w W) (S:Nat→Prop):Kept w W S:=⟨h.size,fun i hi _=>h.block i hi⟩
theorem Kept.mono (h:Kept w W S) (hs:∀ k,S k→S' k):Kept w W S':=⟨h.1,fun i hi hn=>h.2 i hi (fun hk=>hn (hs i hk))⟩
theorem Kept.rJ (h:Kept w W S) (k:Kept W W2 S2) (hs:∀ k,S2 k→S k∨w.heap.size≤k):Kept w W2 S :=
 ⟨Nat.le_trans h.1 k.1,fun i hi hn=>(k.2 i (Nat.lt_of_lt_of_le hi h.1) (fun h2=>(hs i h2).elim hn (fun h3=>by omega))).trans (h.2 i hi hn)⟩
theorem Kept.iu {row:Option Nat} (hg:W.grownBy W2 row) (h:Kept w W S) (hr:∀ k,row = some k→S k∨w.heap.size≤k):Kept w W2 S :=
 h.rJ (S2:=fun k=>row = some k) ⟨hg.size,fun i hi hn=>hg.block i hi (fun he=>hn he.symm)⟩ hr
theorem Kept.below (h:Kept w W S) (hb:Below W.heap.size W W2):Kept w W2 S:=h.rJ (Kept.cW hb (fun _=>False)) (fun _ hk=>hk.elim)
theorem Kept.alloc (h:Kept w W S) (o:Obj):Kept w (W.alloc o) S:=h.below (dX (Below.refl _ _) o)
theorem Kept.drew (h:Kept w W S):Kept w W.drew S:=h
theorem Kept.drewN (h:Kept w W S) (m:Nat):Kept w (W.drewN m) S:=h
theorem Kept.setCell (h:Kept w W S) {p:Addr} (hp:S p.block∨w.heap.size≤p.block) (u:Value):Kept w (W.setCell p u) S :=
 h.rJ (S2:=fun k=>k = p.block) ⟨by simp [World.setCell],fun i _ hn=>Below.heap_setCell W p u i hn⟩ (fun k hk=>by rw [hk];exact hp)
theorem Kept.keep {g:Nat} (h:an w W g none) (k:Kept W W2 S2) (hs:∀ k,S2 k→w.heap.size≤k):an w W2 g none :=
 ⟨Nat.le_trans h.1 k.1,fun i hi hg hr=>(k.2 i (Nat.lt_of_lt_of_le hi h.1) (fun h2=>by have:=hs i h2;omega)).trans (h.2 i hi hg hr)⟩
theorem rK {g:Nat} {o:Obj} (hb:W.heap[g]? = some o) (hk:Kept W W2 S) (hne:¬ S g):W2.heap[g]? = some o:=(hk.2 g (jF hb) hne).trans hb
end
end Go.Proofs.ag.aX
end
section
namespace Go.Proofs.ag.aX
open Go.RowKit
def m9 (P:World→Prop) (W:World) (ok:Nat→Prop):Prop:=∀ W':World,(∀ k,ok k→k < W.heap.size→W'.heap[k]? = W.heap[k]?)→P W'
theorem tp {W W1:World} {k:Nat} (h:W1.heap[k]? = W.heap[k]?) (hlt:k < W.heap.size):k < W1.heap.size:=by
 rw [Array.getElem?_eq_getElem hlt] at h
 exact (Array.getElem?_eq_some_iff.1 h).1
namespace m9
variable {P Q:World→Prop} {W W1:World} {ok ok':Nat→Prop}
theorem now (h:m9 P W ok):P W:=h W (fun _ _ _=>rfl)
theorem mono (h:m9 P W ok) (hok:∀ k,ok k→ok' k):m9 P W ok':=fun W' hW=>h W' (fun k hk hlt=>hW k (hok k hk) hlt)
theorem step (h:m9 P W ok) (hm:∀ k,ok k→k < W.heap.size→W1.heap[k]? = W.heap[k]?):m9 P W1 ok:=fun W' hW=>h W' (fun k hk hlt=>(hW k hk (tp (hm k hk hlt) hlt)).trans (hm k hk hlt))
theorem imp (h:m9 P W ok) (hi:∀ W',P W'→Q W'):m9 Q W ok:=fun W' hW=>hi W' (h W' hW)
end m9
namespace Kd
def F {α:Type} (d:Kd α) (W:World) (ok:Nat→Prop) (A:Option Addr) (n:Nat) (xs:List α):Prop:=m9 (fun W=>d.C W A n xs) W ok
def FK {α:Type} (d:Kd α) (W:World) (ok:Nat→Prop) (x:α) (c:List Value):Prop:=m9 (fun W=>d.K W x c) W ok
section
variable {α β:Type} {d:Kd α} {e base n n' cc g N:Nat} {ok ok' okp S:Nat→Prop} {w w0 w1 W W1:World} {A A':Option Addr} {u v v1:Value} {xs:List α} {xs':List β} {d':Kd β} {x:α} {c:List Value}
theorem vH (d:Kd α) (W:World) (ok:Nat→Prop):F d W ok none ([]:List α).length []:=fun W' _=>vA d W'
theorem tq (h:d.M W base ok x c):FK d W ok x c:=fun _ hW=>d.K_of_M (rz h hW)
end
end Kd
end Go.Proofs.ag.aX
end
section
namespace Go.Proofs.ag.aX
open Go.RowKit
namespace Kd
def chunks (sz:Nat) (n:Nat) (inner:List Value):List (List Value):=(List.range n).map fun j=>(inner.drop (j * sz)).take sz
theorem gF (sz n:Nat) (inner:List Value):(chunks sz n inner).length = n:=by simp [chunks]
theorem qI {sz n:Nat} {inner:List Value} {j:Nat} (hj:j < n):(chunks sz n inner)[j]? = some ((inner.drop (j * sz)).take sz):=by simp [chunks,hj]
theorem mb {sz n:Nat} {inner:List Value} {j:Nat} {c:List Value} (h:(chunks sz n inner)[j]? = some c):c = (inner.drop (j * sz)).take sz:=by
 have hj:j < n:=by have:=(List.getElem?_eq_some_iff.1 h).1;rwa [gF] at this
 rw [qI hj] at h
 injection h with h
 exact h.symm
theorem rL {α:Type} {Rr:α→List Value→Prop} {sz:Nat} {xs:List α} {inner:List Value} (h:cV Rr sz xs inner) (hR:∀ x c,Rr x c→c.length = sz∧∀ u∈c,u.oneCell' = true):cV (fun x cs=>cs = x∧cs.length = sz∧∀ u∈cs,u.oneCell' = true) sz (chunks sz xs.length inner) inner:=by
 refine ⟨by rw [gF];exact h.1,fun j p hj=>?_⟩
 have hjl:j < xs.length:=by have:=(List.getElem?_eq_some_iff.1 hj).1;rwa [gF] at this
 have hp:=mb hj
 exact ⟨hp.symm,hR _ _ (h.2 j _ (List.getElem?_eq_getElem hjl))⟩
section
variable {α:Type} {d:Kd α} {e base n cc g:Nat} {ok ok' okp S:Nat→Prop} {w w1 W W1:World} {A:Option Addr} {u v v1:Value} {xs:List α} {x:α} {c:List Value}
def N {α:Type} (d:Kd α) (e:Nat) (w:World) (base:Nat) (ok:Nat→Prop) (v:Value) (xs:List α):Prop :=
 (∀ k,v.ownBlock = some k→ok k)∧∃ rows:List (List Value),rows.length = xs.length∧(raw d.sz).R e w base (fun k=>some k = v.ownBlock) v rows∧∀ (j:Nat) (x:α) (c:List Value),xs[j]? = some x→rows[j]? = some c→FK d w (fun k=>ok k∧some k≠v.ownBlock) x c
theorem wU (h:d.R e w base ok v xs):N d e w base ok v xs:=by
 obtain ⟨h0,inner,ho,hr⟩:=h
 refine ⟨h0,chunks d.sz xs.length inner,gF _ _ _,⟨fun k hk=>hk.symm,inner,by rw [gF];exact ho,rL hr (fun x c hp=>⟨d.K_len (d.K_of_M hp),d.K_one (d.K_of_M hp)⟩)⟩,fun j x c hx hc=>?_⟩
 rw [mb hc]
 exact tq (hr.2 j x hx)
theorem vI (d:Kd α) (e:Nat) (w:World) (base:Nat) (ok:Nat→Prop):N d e w base ok (.slice none 0 0) []:=wU (pU _ _ _ _ _)
end
end Kd
end Go.Proofs.ag.aX
end
section
namespace Go.Proofs.ag.bQ
open Go.RowKit Go.Proofs.ag.aX
namespace Kd
open Go.Proofs.ag.aX.Kd
section
variable {α:Type} {d:Kd α} {e base g N:Nat} {ok:Nat→Prop} {W w1:World} {u v:Value} {xs:List α}
theorem vJ (hu:d.R e W base ok u xs) (hb:Below W.heap.size W w1):d.R e w1 base (fun k=>ok k∧k < W.heap.size) u xs :=
 aC (dW (gH hu) hb) (fun _ h=>⟨h.1,h.2.2.1⟩)
theorem rM (hu:d.R e W base (fun k=>ok k∧k≠g) u xs) (hk:an W w1 g none):d.R e w1 base (fun k=>ok k∧k < W.heap.size) u xs :=
 aC (dA (gH hu) hk (fun _ h=>h.1.2)) (fun _ h=>⟨h.1.1,h.2.2.1⟩)
theorem nM (h:d.R e w1 base (fun k=>ok k∧k < N) u xs) (hbase:∀ k,v.ownBlock = some k→N≤k):d.R e w1 base (fun k=>(ok k∧some k≠v.ownBlock)∧k < N) u xs :=
 aC h (fun k hk=>⟨⟨hk.1,fun e=>Nat.lt_irrefl _ (Nat.lt_of_lt_of_le hk.2 (hbase k e.symm))⟩,hk.2⟩)
end
end Kd
theorem je (k k':IntKind) (x y:Int):Builtin.max2 (.int k x) (.int k' y) = pure (.int k (if x < y then y else x)):=by simp only [Builtin.max2,gt_iff_lt]
theorem jf (k k':IntKind) (x y:Int):Builtin.min2 (.int k x) (.int k' y) = pure (.int k (if y < x then y else x)):=by simp only [Builtin.min2]
theorem jW (ats:Array TypeId) (ty:TypeId) (a b:Value):Builtin.max_ ats ty #[a,b] = (Builtin.max2 a b >>= fun s=>pure s):=by simp only [Builtin.max_,List.foldlM_cons,List.foldlM_nil]
theorem jX (ats:Array TypeId) (ty:TypeId) (a b:Value):Builtin.min_ ats ty #[a,b] = (Builtin.min2 a b >>= fun s=>pure s):=by simp only [Builtin.min_,List.foldlM_cons,List.foldlM_nil]
theorem iF (ats:Array TypeId) (ty:TypeId) (a b c:Value):Builtin.max_ ats ty #[a,b,c] = (Builtin.max2 a b >>= fun s=>Builtin.max2 s c >>= fun s=>pure s):=by simp only [Builtin.max_,List.foldlM_cons,List.foldlM_nil]
theorem iG (ats:Array TypeId) (ty:TypeId) (a b c:Value):Builtin.min_ ats ty #[a,b,c] = (Builtin.min2 a b >>= fun s=>Builtin.min2 s c >>= fun s=>pure s):=by simp only [Builtin.min_,List.foldlM_cons,List.foldlM_nil]
theorem jg (ats:Array TypeId) (ty:TypeId) (a b c d:Value):Builtin.max_ ats ty #[a,b,c,d] = (Builtin.max2 a b >>= fun s=>Builtin.max2 s c >>= fun s=>Builtin.max2 s d >>= fun s=>pure s):=by simp only [Builtin.max_,List.foldlM_cons,List.foldlM_nil]
theorem jh (ats:Array TypeId) (ty:TypeId) (a b c d:Value):Builtin.min_ ats ty #[a,b,c,d] = (Builtin.min2 a b >>= fun s=>Builtin.min2 s c >>= fun s=>Builtin.min2 s d >>= fun s=>pure s):=by simp only [Builtin.min_,List.foldlM_cons,List.foldlM_nil]
end Go.Proofs.ag.bQ
namespace Go.Proofs.ag.aX
open Go.RowKit
section
variable {P:Program} {ops:Array Oper} {rest:List Oper} {o:Oper} {a:Act} {Q:Exit→Act→World→Prop} {W:World}
theorem aA {f:FuncId} {as_q:Array Operand} {ts:Array TypeId} (_ho:o.op = .call { callee:=.value (.func f),args:=as_q,argTypes:=ts }) (h:wpList P ops Q (o :: rest) a W):wpList P ops Q (o :: rest) a W:=h
theorem cP {b:Builtin} {xs:Array Operand} {ts:Array TypeId} (_ho:o.op = .call { callee:=.builtin b,args:=xs,argTypes:=ts }) (h:wpList P ops Q (o :: rest) a W):wpList P ops Q (o :: rest) a W:=h
end
def mx (a b:Int):Int:=if a < b then b else a
def shl (k:IntKind) (x y:Int):Int:=k.wrap (x * 2 ^ min y.toNat k.bits)
def shr (k:IntKind) (x y:Int):Int:=x / 2 ^ min y.toNat k.bits
theorem fI {k:IntKind} {x y j:Int} (h:shl k x y = j) (hy:y≤k.bits):k.wrap (x * 2 ^ y.toNat) = j:=by rw [← h];unfold shl;rw [Nat.min_eq_left (by omega)]
theorem n4 {k:IntKind} {x y j:Int} (h:shr k x y = j) (hy:y≤k.bits):x / 2 ^ y.toNat = j:=by rw [← h];unfold shr;rw [Nat.min_eq_left (by omega)]
theorem fD (w:World) (n:Nat):w.drewN n = w.drewN n:=rfl
namespace Kd
section
variable {α:Type} {d:Kd α} {e base:Nat} {ok:Nat→Prop} {W w1:World} {v:Value} {xs:List α}
theorem rN (h:d.R e W base ok v xs) (hE:d.E = []) {g:Nat} (hne:some g≠v.ownBlock):d.R e W base (fun k=>ok k∧k≠g) v xs :=
 aC (pY hE h) (fun k hk=>⟨h.1 k hk.symm,fun e_=>hne (by rw [← e_];exact hk)⟩)
end
end Kd
end Go.Proofs.ag.aX
namespace Go.Proofs.ag.aX
open Go.RowKit
namespace Kd
def V {α:Type} (d:Kd α) (_e:Nat) (W:World) (_base:Nat) (ok:Nat→Prop) (v:Value) (xs:List α):Prop:=∃ A c,v = .slice A xs.length c∧xs.length≤c∧F d W ok A xs.length xs
section
variable {α β:Type} {d:Kd α} {e base base' n m c g N' lo hi:Nat} {ok ok' S:Nat→Prop} {w W w1:World} {A:Option Addr} {ad:Addr} {u v v1:Value} {xs:List α}
theorem vK (d:Kd α) (e:Nat) (W:World) (base:Nat) (ok:Nat→Prop):V d e W base ok (.slice none 0 0) []:=⟨none,0,rfl,Nat.le_refl _,vH d W ok⟩
end
end Kd
end Go.Proofs.ag.aX
end
section
namespace Go.Proofs.ag.bU
open Go.Proofs.ag.aX (ae)
def jY (md:Region.Mode) (o:Oper):List Nat:=(o.after.toList.filter (fun e=>Region.binds md e)).map (fun e=>e.on)
def nN (md:Region.Mode) (ops:Array Oper) (i:Nat) (oi:Oper):List Nat:=(List.range ops.size).filter fun j=>!(j == i) && match ops[j]? with
  | some oj=>!(oj.after.any (fun e=>Region.binds md e && e.on == i) || oi.apart ops oj)
  | none=>false
def gm (md:Region.Mode) (ops:Array Oper):Bool×List (List Nat×List Nat):=(Region.noSelect ops,(List.range ops.size).map fun i=>match ops[i]? with
  | some o=>(jY md o,nN md ops i o)
  | none=>([],[]))
def iV (T:List (List Nat×List Nat)) (l:List Bool) (i:Nat):Bool:=!l.getD i true && match T[i]? with
  | some r=>r.1.all (fun j=>l.getD j false)
  | none=>false
def mc (T:List (List Nat×List Nat)) (l:List Bool):List Nat:=(List.range T.length).filter (iV T l)
def ou (T:List (List Nat×List Nat)) (l:List Bool) (i:Nat):Bool:=match T[i]? with
  | some r=>r.2.all (fun j=>l.getD j true)
  | none=>false
def lV (T:List (List Nat×List Nat)) (l:List Bool):Bool:=(List.range T.length).all fun j=>!l.getD j false || match T[j]? with
  | some r=>r.1.all (fun k=>l.getD k false)
  | none=>true
def lA (T:List (List Nat×List Nat)) (i:Nat):Nat→Nat→Bool
  | 0,_=>false
  | fuel+1,d=>match T[d]? with
    | some r=>r.1.any fun j=>j == i || lA T i fuel j
    | none=>false
def qb (T:List (List Nat×List Nat)) (l:List Bool) (ds:List Nat) (i:Nat):Bool:=ds.all fun d=>l.getD d true || lA T i T.length d
section
variable {md:Region.Mode} {ops:Array Oper} {T:Bool×List (List Nat×List Nat)} {l l' li lj lk:Array Bool} {ds:List Nat} {i j k:Nat}
theorem gd (l:Array Bool) (j:Nat) (b:Bool):l.getD j b = l.toList.getD j b:=by simp [Array.getD_eq_getD_getElem?,List.getD_eq_getElem?_getD]
theorem n5 (o:Oper) (p:Nat→Bool):o.after.all (fun e=>!Region.binds md e || p e.on) = (jY md o).all p:=by
 unfold jY
 rw [← Array.all_toList]
 induction o.after.toList with
 | nil=>rfl
 | cons e r ih =>
  rw [List.all_cons,ih,List.filter_cons]
  cases h:Region.binds md e <;> simp
theorem qJ (o:Oper) (p:Nat→Bool):o.after.any (fun e=>Region.binds md e && p e.on) = (jY md o).any p:=by
 unfold jY
 rw [← Array.any_toList]
 induction o.after.toList with
 | nil=>rfl
 | cons e r ih =>
  rw [List.any_cons,ih,List.filter_cons]
  cases h:Region.binds md e <;> simp
theorem iW:(gm md ops).2.length = ops.size:=by simp [gm]
theorem jZ {o:Oper} (h:ops[i]? = some o):(gm md ops).2[i]? = some (jY md o,nN md ops i o):=by
 have hi:=(Array.getElem?_eq_some_iff.1 h).1
 unfold gm
 rw [List.getElem?_map,List.getElem?_range hi,Option.map_some,h]
theorem k6 (h:ops[i]? = none):(gm md ops).2[i]? = none:=by
 have hi:ops.size≤i:=Array.getElem?_eq_none_iff.1 h
 exact List.getElem?_eq_none (by rw [iW];exact hi)
theorem pn:iV (gm md ops).2 l.toList i = (!l.getD i true && ((ops[i]?).map (·.after.all fun e=>!Region.binds md e || l.getD e.on false)).getD false):=by
 unfold iV
 rw [gd]
 cases h:ops[i]? with
 | none=>rw [k6 h];rfl
 | some o =>
  rw [jZ h]
  simp only [Option.map_some,Option.getD_some]
  rw [← n5]
  simp only [gd]
theorem me:Region.ready md ops l = mc (gm md ops).2 l.toList:=by
 unfold Region.ready mc
 rw [iW]
 refine List.filter_congr (fun i _=>?_)
 rw [pn]
theorem qc:Region.free md ops l i = ou (gm md ops).2 l.toList i:=by
 unfold Region.free ou
 cases h:ops[i]? with
 | none=>rw [k6 h]
 | some oi =>
  rw [jZ h]
  simp only [nN]
  rw [List.all_filter]
  congr 1
  funext j
  rw [gd]
  cases hj:ops[j]? with
  | none=>cases (j == i) <;> cases (l.toList.getD j true) <;> simp
  | some oj =>
   cases (j == i) <;> cases (l.toList.getD j true) <;> cases (oj.after.any (fun e=>Region.binds md e && e.on == i) || oi.apart ops oj) <;> simp_all
theorem qK:Region.kS md ops l = lV (gm md ops).2 l.toList:=by
 unfold Region.kS lV
 rw [iW]
 congr 1
 funext j
 rw [gd]
 cases h:ops[j]? with
 | none=>rw [k6 h]
 | some o =>
  rw [jZ h]
  simp only
  rw [← n5]
  simp only [gd]
theorem ov:∀ (fuel d:Nat),Region.iy md ops i fuel d = lA (gm md ops).2 i fuel d
 | 0,_=>rfl
 | fuel+1,d=>by
  unfold Region.iy lA
  cases h:ops[d]? with
  | none=>rw [k6 h]
  | some o =>
   rw [jZ h]
   simp only
   rw [← qJ]
   congr 1
   funext e
   rw [ov fuel]
theorem tr:Region.pX md ops l ds i = qb (gm md ops).2 l.toList ds i:=by
 unfold Region.pX qb
 rw [iW]
 congr 1
 funext d
 rw [gd,ov]
theorem lM (h:iV T.2 l.toList i = true) (hT:gm md ops = T):(Region.ready md ops l).contains i = true:=by
 subst hT
 rw [me]
 unfold mc
 rw [List.contains_iff_mem,List.mem_filter,List.mem_range]
 refine ⟨?_,h⟩
 unfold iV at h
 rw [Bool.and_eq_true] at h
 cases hq:(gm md ops).2[i]? with
 | none=>rw [hq] at h;simp at h
 | some r=>exact (List.getElem?_eq_some_iff.1 hq).1
theorem po (h:(l.toList.set i true == l'.toList) = true):(l.setIfInBounds i true == l') = true:=by
 rw [beq_iff_eq] at h ⊢
 apply Array.ext'
 rw [Array.toList_setIfInBounds]
 exact h
def uI (T:Bool×List (List Nat×List Nat)) (l l':List Bool) (i:Nat):Bool:=T.1 && ou T.2 l i && iV T.2 l i && (l.set i true == l')
theorem bp (hT:gm md ops = T) (h:uI T l.toList l'.toList i = true):th md ops l l' i = true:=by
 simp only [uI,Bool.and_eq_true] at h
 obtain ⟨⟨⟨h1,h2⟩,h3⟩,h4⟩:=h
 have h5:=lM h3 hT
 have j:=po h4
 subst hT
 simp only [th,Bool.and_eq_true]
 exact ⟨⟨⟨h1,by rw [qc];exact h2⟩,h5⟩,j⟩
def rO (T:Bool×List (List Nat×List Nat)) (ds:List Nat) (l l':List Bool) (i:Nat):Bool:=T.1 && ou T.2 l i && iV T.2 l i && lV T.2 l && qb T.2 l ds i && (l.set i true == l')
theorem tu (hT:gm md ops = T) (h:rO T ds l.toList l'.toList i = true):ot md ops ds l l' i = true:=by
 simp only [rO,Bool.and_eq_true] at h
 obtain ⟨⟨⟨⟨⟨h1,h2⟩,h3⟩,h4⟩,h5⟩,j⟩:=h
 have y:=lM h3 hT
 have z:=po j
 subst hT
 simp only [ot,Bool.and_eq_true]
 exact ⟨⟨⟨⟨⟨h1,by rw [qc];exact h2⟩,y⟩,by rw [qK];exact h4⟩,by rw [tr];exact h5⟩,z⟩
theorem da (hT:gm md ops = T) (h:(mc T.2 l.toList == [i] && l.toList.set i true == l'.toList) = true):lz md ops l l' i = true:=by
 simp only [Bool.and_eq_true] at h
 obtain ⟨h1,h2⟩:=h
 subst hT
 simp only [lz,Bool.and_eq_true]
 exact ⟨by rw [me];exact h1,po h2⟩
theorem dU (hT:gm md ops = T) (h:(mc T.2 l.toList == []) = true):(Region.ready md ops l == []) = true:=by
 subst hT
 rw [me]
 exact h
def uJ (B:List Nat) (d:Nat):List Nat→Nat
 | []=>0
 | n :: r=>(2 ^ n ||| (if n < d then B.getD n 0 else 0)) ||| uJ B d r
def eT (T:List (List Nat×List Nat)) (B:List Nat):Bool:=(List.range T.length).all fun d=>match T[d]? with
  | some r=>(B.getD d 0 ||| uJ B d r.1) == uJ B d r.1
  | none=>false
theorem qd {B:List Nat} {d i:Nat}:∀ {ns:List Nat},(uJ B d ns).testBit i = true→∃ n∈ns,n = i∨(n < d∧(B.getD n 0).testBit i = true)
 | [],h=>by simp [uJ] at h
 | n :: r,h=>by
  unfold uJ at h
  rw [Nat.testBit_or,Nat.testBit_or,Bool.or_eq_true,Bool.or_eq_true] at h
  rcases h with (h | h) | h
  ·rw [Nat.testBit_two_pow] at h
   exact ⟨n,List.mem_cons_self,.inl (by simpa using h)⟩
  ·by_cases hn:n < d
   ·rw [if_pos hn] at h
    exact ⟨n,List.mem_cons_self,.inr ⟨hn,h⟩⟩
   ·rw [if_neg hn] at h
    simp at h
  ·obtain ⟨m,hm,h2⟩:=qd h
   exact ⟨m,List.mem_cons_of_mem _ hm,h2⟩
theorem n7 {T:List (List Nat×List Nat)} {B:List Nat} (hB:eT T B = true):∀ (fuel d:Nat),d < fuel→d < T.length→(B.getD d 0).testBit i = true→lA T i fuel d = true
 | 0,d,h,_,_=>by omega
 | fuel+1,d,h,hd,hb=>by
  have h1:=List.all_eq_true.1 hB d (List.mem_range.2 hd)
  cases hr:T[d]? with
  | none=>rw [hr] at h1;simp at h1
  | some r =>
   rw [hr] at h1
   simp only [beq_iff_eq] at h1
   have h2:(uJ B d r.1).testBit i = true:=by rw [← h1,Nat.testBit_or,hb,Bool.true_or]
   obtain ⟨n,hn,h3⟩:=qd h2
   unfold lA
   rw [hr]
   simp only
   rw [List.any_eq_true]
   refine ⟨n,hn,?_⟩
   rcases h3 with rfl | ⟨h4,h5⟩
   ·simp
   ·rw [n7 hB fuel n (by omega) (by omega) h5,Bool.or_true]
def ua (T:List (List Nat×List Nat)) (B:List Nat) (l:List Bool) (ds:List Nat) (i:Nat):Bool:=ds.all fun d=>l.getD d true || (decide (d < T.length) && (B.getD d 0).testBit i)
def rP (T:Bool×List (List Nat×List Nat)) (B:List Nat) (ds:List Nat) (l l':List Bool) (i:Nat):Bool:=T.1 && ou T.2 l i && iV T.2 l i && lV T.2 l && ua T.2 B l ds i && (l.set i true == l')
theorem ji {B:List Nat} (hT:gm md ops = T) (hB:eT T.2 B = true) (h:rP T B ds l.toList l'.toList i = true):ot md ops ds l l' i = true:=by
 refine tu hT ?_
 simp only [rP,rO,Bool.and_eq_true] at h ⊢
 obtain ⟨⟨⟨⟨⟨h1,h2⟩,h3⟩,h4⟩,h5⟩,z⟩:=h
 refine ⟨⟨⟨⟨⟨h1,h2⟩,h3⟩,h4⟩,?_⟩,z⟩
 unfold ua at h5
 unfold qb
 rw [List.all_eq_true] at h5 ⊢
 intro d hd
 have j:=h5 d hd
 rw [Bool.or_eq_true,Bool.and_eq_true,decide_eq_true_eq] at j
 rcases j with j | ⟨y,X⟩
 ·rw [j,Bool.true_or]
 ·rw [n7 hB _ d y y X,Bool.or_true]
theorem dc {P:Program} {Q:Exit→Act→World→Prop} {S:World→Prop} {n:Nat} {a:Act} {w:World} {B:List Nat} (hT:gm md ops = T) (hB:eT T.2 B = true) (h:ae (gm md ops = T)→ae (eT T.2 B = true)→cM P md ops Q S ds n l a w):cM P md ops Q S ds n l a w:=h ⟨hT⟩ ⟨hB⟩
end
def ku:Code→Nat→Option (Array Oper)
  | .region id ops _,k=>if id == k then some ops else none
  | .seq a b,k=>match ku a k with
    | some o=>some o
    | none=>ku b k
  | .cond _ a b,k=>match ku a k with
    | some o=>some o
    | none=>ku b k
  | .block _ c,k=>ku c k
  | .loop c,k=>ku c k
  | .scope c,k=>ku c k
  | .rangeFunc _ _ a b,k=>match ku a k with
    | some o=>some o
    | none=>ku b k
  | _,_=>none
def opsOf (f:Func) (k:Nat):Array Oper:=((f.body.bind fun c=>ku c k)).getD #[]
end Go.Proofs.ag.bU
end
section
namespace Go.Proofs.YtmpodackojmojaaGreat.af
open Go.RowKit Go.Proofs.ag.aX Go.Proofs.ag.bU Go.Proofs.ag.bQ
structure nO (P:Program) (W:World) (fv:Value) (g:Int→Option Bool):Prop where
 mk :: (out:∃ (f:Nat) (caps:Array Value) (fn:Func),fv = .func (.func f) #[] caps∧P.funcs[f]? = some fn∧(fn.name == "runtime.NumGoroutine") = false∧fn.body.isSome = true ∧
  ∀ (s:Int) (b:Bool) (w:World),Below W.heap.size W w→g s = some b→Calls P f (#[.int .i64 s] ++ caps) w fun e w'=>e = .returned (.bool b)∧Below w.heap.size w w')
theorem nO.below {P:Program} {W W1:World} {fv:Value} {g:Int→Option Bool} (h:nO P W fv g) (hb:Below W.heap.size W W1):nO P W1 fv g:=by
 obtain ⟨f,caps,fn,h1,h2,h3,h4,h5⟩:=h.out
 exact ⟨⟨f,caps,fn,h1,h2,h3,h4,fun s b w hw hg=>h5 s b w (lX hb hb.size hw) hg⟩⟩
theorem nP {P:Program} {ops:Array Oper} {Q:Exit→Act→World→Prop} {rest:List Oper} {oi:Oper} {a:Act} {W w:World} {fv:Value} {g:Int→Option Bool} {s:Int} {b:Bool} (N:Option Tmp) (hd:oi.dst = N) (hg:oi.guard = none) (t:Tmp) {ars:Array Operand} {ts:Array TypeId}
  (hop:oi.op = .call { callee:=.value (.tmp t),args:=ars,argTypes:=ts }) (hF:nO P W fv g) (hb:g s = some b) (hB:Below W.heap.size W w) (hv:a.eval (.tmp t) = fv) (hargs:ars.map a.eval = #[.int .i64 s])
  (h:∀ w',Below w.heap.size w w'→wpList P ops Q rest (a.put N (.bool b)) w'):wpList P ops Q (oi :: rest) a w:=by
 obtain ⟨f,caps,fn,rfl,hf,hname,hbody,hc⟩:=hF.out
 refine wpList_plain hg fun K hK=>?_
 have he:=nG hf hname hbody (#[.int .i64 s] ++ caps) w
 have hrun:(execOp a.eval oi).run P w = .ok (.enter f (#[.int .i64 s] ++ caps)) w:=by
  unfold execOp
  simp [hop,resolve,Deferred.ofValue,invoke,hv,hargs]
  simpa using he
 unfold Oper.wp
 rw [hrun,Oper.upon_enter]
 refine (hc s b w hB hb).mono fun e w'' hh=>?_
 obtain ⟨rfl,hk⟩:=hh
 subst hd
 exact hK _ _ (h _ hk)
class gW (W W':World):Prop where
 h:Below W.heap.size W W'
instance (W:World):gW W W:=⟨Below.refl _ _⟩
instance (W V:World) (o:Obj) [a:gW W V]:gW W (V.alloc o):=⟨dX a.h o⟩
instance (W V:World) (n:Nat) [a:gW W V]:gW W (V.drewN n):=⟨dY a.h n⟩
instance (W V:World) [a:gW W V]:gW W V.drew:=⟨cn a.h⟩
theorem Rw {α:Type} {d:Kd α} {e:Nat} {W W':World} {base:Nat} {ok:Nat→Prop} {v:Value} {xs:List α} (h:Kd.R d e W base ok v xs) [a:gW W W']:Kd.R d e W' base ok v xs:=Kd.dW h a.h
theorem Sw {α:Type} {d:Kd α} {e:Nat} {W W':World} {base:Nat} {ok:Nat→Prop} {v:Value} {xs:List α} (h:Kd.S d e W base ok v xs) [a:gW W W']:Kd.S d e W' base ok v xs:=Kd.js h a.h
theorem Cw {α:Type} {d:Kd α} {W W':World} {A:Option Addr} {n:Nat} {xs:List α} (h:Kd.C d W A n xs) [a:gW W W']:Kd.C d W' A n xs:=Kd.aT h a.h
theorem Bw {W W':World} {g:Nat} {o:Obj} (h:W.heap[g]? = some o) [a:gW W W']:W'.heap[g]? = some o:=b7 h a.h
theorem Lw {w W W':World} (h:Below w.heap.size w W) [a:gW W W']:Below w.heap.size w W':=ax h a.h
theorem O {p:Prop} (h:ae p:=by assumption):p:=h.out
theorem D {p:Prop} [Decidable p] (h:decide p = true:=by first | (with_reducible assumption) | assumption):p:=of_decide_eq_true h
theorem E {p:Prop} (h:p:=by first | rfl | (simp [dK,dL] <;> rfl) | (simp [*,dK,dL] <;> rfl)):p:=h
theorem F {p:Prop} (h:p:=by first | rfl | (simp;done) | (simp [*];done)):p:=h
theorem G {p:Prop} (h:p:=by repeat (first | exact cS.refl _ | apply cS.step)):p:=h
theorem Z {p:Prop} (h:p:=by first | with_reducible exact H | (have H2_:=(Option.bind_some _ _).symm.trans H;with_reducible exact H2_) | exact H):p:=h
theorem ip {c:Prop} [Decidable c] {α:Type} {t:Option α} {r:α} (h:(if c then t else none) = some r):c∧t = some r:=by
 by_cases hc:c
 ·rw [if_pos hc] at h;exact ⟨hc,h⟩
 ·rw [if_neg hc] at h;cases h
theorem be {α β:Type} {x:Option α} {f:α→Option β} {b:β} (h:x.bind f = some b):∃ a,ae (x = some a)∧f a = some b:=by
 obtain ⟨a,h1,h2⟩:=Option.bind_eq_some_iff.mp h
 exact ⟨a,⟨h1⟩,h2⟩
theorem W {p:Prop} (h:p:=by first | exact ⟨rfl,_,World.drewN_drewN _ _ _⟩ | exact ⟨rfl,_,Eq.trans (World.drewN_drewN _ _ _) (congrArg (World.drewN _) (Nat.add_assoc _ _ _))⟩):p:=h
theorem N {p:Prop} (h:p:=by first | exact Kd.pU _ _ _ _ _ | exact Kd.vI _ _ _ _ _ | exact Kd.vK _ _ _ _ _ | exact Kd.vC _ _ _ _ _ | exact Kd.vE _ _ _ _ _):p:=h
theorem L {p:Prop} (h:p:=by repeat (first | (with_reducible first | exact af.O | apply dX | apply dY | apply cn | refine dP ?_ af.O) | exact af.O)):p:=h
theorem fr {W:World} {g:Nat} {o:Obj} {p:Addr} {u:Value} (h:W.heap[g]? = some o) (hp:g≠p.block):(W.setCell p u).heap[g]? = some o:=(Below.heap_setCell W p u g hp).trans h
theorem B {p:Prop} (h:p:=by repeat (first | (with_reducible first | exact af.O | apply hJ | apply cO | apply gx | refine af.fr ?_ af.O) | apply gz | rfl)):p:=h
theorem I {p:Prop} (h:p:=by repeat (first | (with_reducible first | exact af.O | apply aj.alloc | apply aj.drewN | apply aj.drew | apply aj.vM | apply aj.vN | refine aj.wV ?_ af.O _) | exact af.O)):p:=h
theorem J {w W W':World} (_h:ae (Below w.heap.size w W)) (k:Below w.heap.size w W':=by repeat (first | (with_reducible first | exact af.O | apply dX | apply dY | apply cn | refine dP ?_ af.O | refine dP ?_ (aj.ge af.O)) | exact af.O)):Below w.heap.size w W':=k
theorem K {w W W':World} {g:Nat} {row:Option Nat} (_h:ae (an w W g row)) (k:an w W' g row:=by repeat (first | (with_reducible first | exact af.O | apply an.vy | apply p5 | apply lu | apply p8 | refine rE ?_ af.O _) | exact af.O)):an w W' g row:=k
theorem ai {k:IntKind} {w:World} {A:Option Addr} {n:Nat} {xs:List Int} (h:(Kd.int k).C w A n xs) (i:Int) (p:0≤i:=by exact af.D) (q:i < n:=by exact af.D):∃ ad,A = some ad∧w.cell? (ad.add i.toNat) = some (.int k (rd xs i))∧(0≤i) = True∧(i < (n:Int)) = True:=by
 obtain ⟨ad,h1,h2⟩:=Kd.ey h i p q
 exact ⟨ad,h1,h2,eq_true p,eq_true q⟩
theorem gw {w W W':World} {g:Nat} (hg:g = W'.heap.size) (h:ae (Below w.heap.size w W)) [gW W W']:ae (w.heap.size≤g):=⟨by rw [hg];exact av (Lw h.out)⟩
theorem gL {w W':World} {g:Nat} (hg:g = W'.heap.size) (h:Below w.heap.size w W'):ae (w.heap.size≤g):=⟨by rw [hg];exact av h⟩
theorem nl {W W':World} {g g':Nat} {o:Obj} (hg:g' = W'.heap.size) (h:ae (W.heap[g]? = some o)) [gW W W']:ae (g≠g'):=⟨by rw [hg];exact Nat.ne_of_lt (jF (Bw h.out))⟩
theorem ng {W W':World} {g g':Nat} {o:Obj} (hg:g' = W'.heap.size) (h:ae (W.heap[g]? = some o)) [gW W W']:ae (g'≠g):=⟨by rw [hg];exact Nat.ne_of_gt (jF (Bw h.out))⟩
theorem bb {W W' W2:World} {g:Nat} {o:Obj} (h:ae (W.heap[g]? = some o)) (hb:Below W'.heap.size W' W2) [gW W W']:ae (W2.heap[g]? = some o):=⟨b7 (Bw h.out) hb⟩
theorem lb {w W W' W2:World} (h:ae (Below w.heap.size w W)) (hb:Below W'.heap.size W' W2) [gW W W']:ae (Below w.heap.size w W2):=⟨ax (Lw h.out) hb⟩
theorem rb {α:Type} {d:Kd α} {e:Nat} {W W' W2:World} {base:Nat} {ok:Nat→Prop} {v:Value} {xs:List α} (h:ae (Kd.R d e W base ok v xs)) (hb:Below W'.heap.size W' W2) [gW W W']:ae (Kd.R d e W2 base ok v xs):=⟨Kd.dW (Rw h.out) hb⟩
section
variable {P:Program} {ops:Array Oper} {rest:List Oper} {a:Act} {Q:Exit→Act→World→Prop}
theorem gl {o:Oper} {w:World} (N:Option Tmp) {f:FuncId} {fn:Func} {as_q:Array Operand} {ts:Array TypeId} (hf:P.funcs[f]? = some fn) (args:Array Value)
  (h:Calls P f args w fun e w'=>∃ v,e = .returned v∧wpList P ops Q rest (a.put N v) w') (hd:o.dst = N:=by with_reducible rfl) (hop:o.op = .call { callee:=.value (.func f),args:=as_q,argTypes:=ts }:=by with_reducible rfl) (hg:o.guard = none:=by rfl)
  (hname:(fn.name == "runtime.NumGoroutine") = false:=by kernel_rfl) (hb:fn.body.isSome = true:=by rfl) (hargs:as_q.map a.eval = args:=by (try simp only [List.map_toArray,List.map_cons,List.map_nil]);first | done | rfl):wpList P ops Q (o :: rest) a w:=nH N hd hg hf hname hb args hop hargs h
theorem bx {o:Oper} {W:World} (N:Tmp) (cs:Array Value) (t:TypeId)
  (h:∀ g,g = W.heap.size→∀ w1,w1.heap[g]? = some (.cells cs t (0,0))→Below W.heap.size W w1→wpList P ops Q rest (a.put o.dst (.pointer (some ⟨g,0,none⟩))) w1) (hd:o.dst = some N:=by with_reducible rfl) (hgd:o.guard = none:=by rfl)
  (hrun:(execOp a.eval o).run P W = .ok (.value (.pointer (some ⟨W.heap.size,0,none⟩))) (W.alloc (.cells cs t (0,0))):=by first | (go_simp;done) | (go_simp;rfl)):wpList P ops Q (o :: rest) a W:=fy hgd hd hrun h
theorem lt {o:Oper} {α:Type} (d:Kd α) {W:World} (e:Nat) (N:Tmp)
  (h:∀ v1 w1,d.R e w1 W.heap.size (fun _=>True) v1 []→Below W.heap.size W w1→W.grownBy w1 none→(∃ b,v1.ownBlock = some b∧W.heap.size≤b)→wpList P ops Q rest (a.put o.dst v1) w1) (hd:o.dst = some N:=by with_reducible rfl) (hgd:o.guard = none:=by rfl)
  (hrun:(execOp a.eval o).run P W = .ok (.value (.slice (some ⟨W.heap.size,0,none⟩) 0 0)) (W.alloc (.cells #[] e)):=by first | (go_simp;done) | (go_simp;rfl)):wpList P ops Q (o :: rest) a W :=
 Kd.jH d _ e hgd hd (xs:=[]) (inner:=[]) (ok:=fun _=>True) (okp:=fun _=>True) hrun (cV.none _ _) (fun _ hk=>hk) trivial (Below.refl _ _) (Nat.le_refl _) (by simp) h
end
section
variable {P:Program} {md:Region.Mode} {ops:Array Oper} {Q:Exit→Act→World→Prop} {S:World→Prop} {ds:List Nat} {T:Bool×List (List Nat×List Nat)} {B:List Nat} {oi:Oper} {v:Value} {fuel:Nat} {l l':Array Bool} {a a':Act} {w:World}
theorem pu (i:Nat) (N:Tmp) (HT:ae (gm md ops = T)) (h:cM P md ops Q S ds fuel l' a' w) (hi:ops[i]? = some oi:=by rfl) (hN:oi.dst = some N:=by rfl) (_hl:l.setIfInBounds i true = l':=by simp only [List.setIfInBounds_toArray,List.set_cons_zero,List.set_cons_succ];rfl)
  (hc:uI T l.toList l'.toList i = true:=by kernel_rfl) (hQ:∀ c a w,Q (.panic c) (a.put oi.dst v) w→Q (.panic c) a w:=by exact fun _ _ _ h=>h)
  (hy:Yields P ops oi v a:=by exact Or.inl ⟨by rfl,by intro w';go_simp;with_reducible rfl⟩) (ha:a.put (some N) v = a':=by simp only [Act.put,List.setIfInBounds_toArray,List.set_cons_zero,List.set_cons_succ,aM,b8];rfl):cM P md ops Q S ds (fuel+1) l a w :=
 cq l' hi hN (bp HT.out hc) hQ hy ha h
theorem tk (i:Nat) (N:Tmp) (HT:ae (gm md ops = T)) (HW:ae (eT T.2 B = true)) (hS:S w) (h:cM P md ops Q S ds fuel l' a' w) (hi:ops[i]? = some oi:=by rfl) (hN:oi.dst = some N:=by rfl) (_hl:l.setIfInBounds i true = l':=by simp only [List.setIfInBounds_toArray,List.set_cons_zero,List.set_cons_succ];rfl)
  (hc:rP T B ds l.toList l'.toList i = true:=by kernel_rfl) (hQ:∀ c a w,Q (.panic c) (a.put oi.dst v) w→Q (.panic c) a w:=by exact fun _ _ _ h=>h)
  (hy:YieldsIf P ops S oi v a:=by exact Or.inl ⟨by rfl,by intro w' hs;(repeat (obtain ⟨_,hs⟩:=hs));go_simp;with_reducible rfl⟩) (ha:a.put (some N) v = a':=by simp only [Act.put,List.setIfInBounds_toArray,List.set_cons_zero,List.set_cons_succ,aM,b8];rfl):cM P md ops Q S ds (fuel+1) l a w :=
 lG l' hi hN (ji HT.out HW.out hc) hQ hy hS ha h
end
theorem bw {W:World} {g:Nat} {a b:Value} {t:Nat} (h:W.heap[g]? = some (.cells #[a,b] t (0,0))):W.cell? ⟨g,0,none⟩ = some a∧W.cell? ⟨g,1,none⟩ = some b∧W.frozen? ⟨g,0,none⟩ = false∧W.frozen? ⟨g,1,none⟩ = false:=⟨(ak h 0).trans rfl,(ak h 1).trans rfl,au h 0,au h 1⟩
theorem nQ {W:World} {g:Nat} {a b c:Value} {t:Nat} (h:W.heap[g]? = some (.cells #[a,b,c] t (0,0))):W.cell? ⟨g,0,none⟩ = some a∧W.cell? ⟨g,1,none⟩ = some b∧W.cell? ⟨g,2,none⟩ = some c∧W.frozen? ⟨g,0,none⟩ = false∧W.frozen? ⟨g,1,none⟩ = false∧W.frozen? ⟨g,2,none⟩ = false:=⟨(ak h 0).trans rfl,(ak h 1).trans rfl,(ak h 2).trans rfl,au h 0,au h 1,au h 2⟩
class Mo {α:Type} (a b:Option α):Prop where out:ic a b
theorem mz {α:Type} {a b:Option α} (h:a = none):Mo a b:=⟨by rw [h];exact ic.none _⟩
theorem mt {α:Type} {a b:Option α} (h:ic a b:=by with_reducible repeat' first | exact ic.refl _ | refine ic.bind ?_ fun _=>?_ | refine ic.ite ?_ ?_ | exact af.Mo.out | exact ic.none _ | intro _):ic a b:=h
abbrev V1 {α0 β:Type} (F:Nat→α0→Option β):Prop:=∀ y0 k,Mo (F k y0) (F (k+1) y0)
abbrev S2 {α0 α1 β:Type} (F:Nat→α0→α1→Option β) (k:Nat):Prop:=∀ y0 y1,Mo (F k y0 y1) (F (k+1) y0 y1)
abbrev V2 {α0 α1 β:Type} (F:Nat→α0→α1→Option β):Prop:=∀ y0 y1 k,Mo (F k y0 y1) (F (k+1) y0 y1)
abbrev S3 {α0 α1 α2 β:Type} (F:Nat→α0→α1→α2→Option β) (k:Nat):Prop:=∀ y0 y1 y2,Mo (F k y0 y1 y2) (F (k+1) y0 y1 y2)
abbrev V3 {α0 α1 α2 β:Type} (F:Nat→α0→α1→α2→Option β):Prop:=∀ y0 y1 y2 k,Mo (F k y0 y1 y2) (F (k+1) y0 y1 y2)
abbrev S4 {α0 α1 α2 α3 β:Type} (F:Nat→α0→α1→α2→α3→Option β) (k:Nat):Prop:=∀ y0 y1 y2 y3,Mo (F k y0 y1 y2 y3) (F (k+1) y0 y1 y2 y3)
abbrev S5 {α0 α1 α2 α3 α4 β:Type} (F:Nat→α0→α1→α2→α3→α4→Option β) (k:Nat):Prop:=∀ y0 y1 y2 y3 y4,Mo (F k y0 y1 y2 y3 y4) (F (k+1) y0 y1 y2 y3 y4)
abbrev V5 {α0 α1 α2 α3 α4 β:Type} (F:Nat→α0→α1→α2→α3→α4→Option β):Prop:=∀ y0 y1 y2 y3 y4 k,Mo (F k y0 y1 y2 y3 y4) (F (k+1) y0 y1 y2 y3 y4)
abbrev S6 {α0 α1 α2 α3 α4 α5 β:Type} (F:Nat→α0→α1→α2→α3→α4→α5→Option β) (k:Nat):Prop:=∀ y0 y1 y2 y3 y4 y5,Mo (F k y0 y1 y2 y3 y4 y5) (F (k+1) y0 y1 y2 y3 y4 y5)
end Go.Proofs.YtmpodackojmojaaGreat.af
end
section
namespace Go.Proofs.ag.aX
theorem cV.one {α:Type} {R:α→List Value→Prop} {ps:List α} {cs:List Value} {p:α} {v:Value} (hp:R p [v]) (h:cV R 1 ps cs):cV R 1 (p :: ps) (v :: cs):=by
 refine ⟨by simp [h.1],fun j q hq=>?_⟩
 cases j with
 | zero =>
  simp only [List.getElem?_cons_zero,Option.some.injEq] at hq
  subst hq
  simpa using hp
 | succ j =>
  simp only [List.getElem?_cons_succ] at hq
  have h1:=h.2 j q hq
  simpa [Nat.mul_one] using h1
theorem cV.front {α:Type} {R:α→List Value→Prop} {size:Nat} {ps:List α} {cs c all:List Value} {p:α} (hp:R p c) (hc:c.length = size) (h:cV R size ps cs) (ha:c ++ cs = all):cV R size (p :: ps) all:=by
 subst ha
 refine ⟨by rw [List.length_append,hc,h.1,List.length_cons,Nat.succ_mul,Nat.add_comm],fun j q hq=>?_⟩
 cases j with
 | zero =>
  simp only [List.getElem?_cons_zero,Option.some.injEq] at hq
  subst hq
  rw [Nat.zero_mul,List.drop_zero,List.take_append_of_le_length (by omega),List.take_of_length_le (by omega)]
  exact hp
 | succ j =>
  simp only [List.getElem?_cons_succ] at hq
  have h1:=h.2 j q hq
  rw [Nat.succ_mul,List.drop_append,List.drop_of_length_le (by rw [hc];exact Nat.le_add_left _ _),List.nil_append,hc,Nat.add_sub_cancel]
  exact h1
theorem cV.c2 {α:Type} {R:α→List Value→Prop} {ps:List α} {cs:List Value} {p:α} {va vb:Value} (hp:R p [va,vb]) (h:cV R 2 ps cs):cV R 2 (p :: ps) (va :: vb :: cs):=cV.front hp rfl h rfl
theorem cV.c3 {α:Type} {R:α→List Value→Prop} {ps:List α} {cs:List Value} {p:α} {va vb vc:Value} (hp:R p [va,vb,vc]) (h:cV R 3 ps cs):cV R 3 (p :: ps) (va :: vb :: vc :: cs):=cV.front hp rfl h rfl
theorem cV.c4 {α:Type} {R:α→List Value→Prop} {ps:List α} {cs:List Value} {p:α} {va vb vc vd:Value} (hp:R p [va,vb,vc,vd]) (h:cV R 4 ps cs):cV R 4 (p :: ps) (va :: vb :: vc :: vd :: cs):=cV.front hp rfl h rfl
theorem cV.c5 {α:Type} {R:α→List Value→Prop} {ps:List α} {cs:List Value} {p:α} {va vb vc vd j:Value} (hp:R p [va,vb,vc,vd,j]) (h:cV R 5 ps cs):cV R 5 (p :: ps) (va :: vb :: vc :: vd :: j :: cs):=cV.front hp rfl h rfl
theorem cV.c6 {α:Type} {R:α→List Value→Prop} {ps:List α} {cs:List Value} {p:α} {va vb vc vd j vf:Value} (hp:R p [va,vb,vc,vd,j,vf]) (h:cV R 6 ps cs):cV R 6 (p :: ps) (va :: vb :: vc :: vd :: j :: vf :: cs):=cV.front hp rfl h rfl
theorem cV.c7 {α:Type} {R:α→List Value→Prop} {ps:List α} {cs:List Value} {p:α} {va vb vc vd j vf y:Value} (hp:R p [va,vb,vc,vd,j,vf,y]) (h:cV R 7 ps cs):cV R 7 (p :: ps) (va :: vb :: vc :: vd :: j :: vf :: y :: cs):=cV.front hp rfl h rfl
theorem cV.c8 {α:Type} {R:α→List Value→Prop} {ps:List α} {cs:List Value} {p:α} {va vb vc vd j vf y vh:Value} (hp:R p [va,vb,vc,vd,j,vf,y,vh]) (h:cV R 8 ps cs):cV R 8 (p :: ps) (va :: vb :: vc :: vd :: j :: vf :: y :: vh :: cs):=cV.front hp rfl h rfl
theorem cV.c9 {α:Type} {R:α→List Value→Prop} {ps:List α} {cs:List Value} {p:α} {va vb vc vd j vf y vh vi:Value} (hp:R p [va,vb,vc,vd,j,vf,y,vh,vi]) (h:cV R 9 ps cs):cV R 9 (p :: ps) (va :: vb :: vc :: vd :: j :: vf :: y :: vh :: vi :: cs):=cV.front hp rfl h rfl
theorem cV.gX {α:Type} {R:α→List Value→Prop} {ps:List α} {cs:List Value} {p:α} {va vb vc vd j vf y vh vi vj:Value} (hp:R p [va,vb,vc,vd,j,vf,y,vh,vi,vj]) (h:cV R 10 ps cs):cV R 10 (p :: ps) (va :: vb :: vc :: vd :: j :: vf :: y :: vh :: vi :: vj :: cs):=cV.front hp rfl h rfl
open Go.RowKit
section
variable {P:Program} {ops:Array Oper} {rest:List Oper} {o:Oper} {a:Act} {Q:Exit→Act→World→Prop} {W:World}
theorem ff (hw:Region.wanted o (yielded ops a.tmps) = true) (h:wpList P ops Q ({ o with guard:=none } :: rest) a W):wpList P ops Q (o :: rest) a W:=by
 have h1:Region.wanted { o with guard:=none } (yielded ops a.tmps) = true:=rfl
 unfold wpList at h ⊢
 rw [if_pos h1] at h
 rw [if_pos hw]
 exact h
end
end Go.Proofs.ag.aX
end
section
namespace Go.Proofs.YtmpodackojmojaaGreat.Pr
open Go.RowKit Go.Proofs.ag.aX Go.Proofs.ag.bU Go.Proofs.ag.bQ
attribute [local go_sem] je jf jW jX iF iG jg jh
set_option linter.unusedVariables false
set_option linter.unusedSimpArgs false
def vL:Option Int→Value
 | none=>.nilIface
 | some c=>.iface 0 (.int .i64 c)
theorem dK:vL none = .nilIface:=rfl
theorem dL (c:Int):vL (some c) = .iface 0 (.int .i64 c):=rfl
theorem eI:(Tryz.prog.info? 3).map (fun i=>(i.zero,i.size,i.bytes)) = some (some (.int .i64 0),1,8):=by kernel_rfl
theorem rQ:(Tryz.prog.info? 5).map (fun i=>(i.zero,i.size,i.bytes)) = some (some (.int .u8 0),1,1):=by kernel_rfl
theorem rR:(Tryz.prog.info? 9).map (fun i=>(i.zero,i.size,i.bytes)) = some (some (.string ⟨#[]⟩),1,16):=by kernel_rfl
theorem uK:(Tryz.prog.info? 28).map (fun i=>(i.zero,i.size,i.bytes)) = some (some (.slice none 0 0),1,24):=by kernel_rfl
def gn (xs:List (List Int)) (i:Int):(List Int):=xs.getD i.toNat ([]:List Int)
theorem ow {w:World} {A:Option Addr} {n:Nat} {xs:List (List Int)} (h:Kd.C (Kd.slice 3 (Kd.int .i64)) w A n xs) (i:Int) (h0:0≤i) (h1:i < n):∃ ad y z,A = some ad∧w.cell? (ad.add i.toNat) = some (.slice y (gn xs i).length z)∧(gn xs i).length≤z∧(Kd.int .i64).C w y (gn xs i).length (gn xs i):=by
 obtain ⟨ad,c,e,_,hK,X⟩:=Kd.vz h ([]:List Int) i h0 h1
 have hc:∀ j u,c[j]? = some u→w.cell? (ad.add (i.toNat * 1+j)) = some u:=X
 obtain ⟨y,z,rfl,l0,g0⟩:=hK
 exact ⟨ad,y,z,e,by have hq:=hc 0 _ rfl;rwa [Nat.mul_one,Nat.add_zero] at hq,l0,g0⟩
def iO.f (l0:List Int):Option (Bool):=some (decide ((l0.length:Int) > 1048576))
set_option maxHeartbeats 8000000 in
set_option maxRecDepth 100000 in
theorem iO.calls (z:Option Addr) (X:Nat) (l0:List Int) (r:Bool) (w:World) (j:Kd.C (Kd.int .u8) w z l0.length l0) (y:l0.length≤X) (h:iO.f l0 = some r) :
  Calls Tryz.prog 6 #[.slice z l0.length X] w fun e w'=>e = .returned (.bool r)∧cS w w':=by
 have Y:=ae.mk j
 have a0:=ae.mk y
 clear j y
 unfold iO.f at h
 have H:=h
 clear h
 obtain rfl:=Option.some.inj H
 go_enter Tryz.func6,Tryz.ntmps6
 go_wp2
 go_ret
 exact ⟨af.F,af.G⟩
def ct.l0:Nat→List Int→List Int→Int→Option (Bool)
 | 0,_,_,_=>none
 | k+1,y,z,j=>if j < (y.length:Int) then (if 0≤j then (if j < (z.length:Int) then (if (rd y j) = (rd z j) then (ct.l0 k y z (wrap64 (j+1))) else (some false)) else (none)) else (none)) else (some true)
def ct.f (k:Nat) (l0:List Int) (l1:List Int):Option (Bool):=if (l0.length:Int) = (l1.length:Int) then (ct.l0 k l0 l1 0) else (some false)
set_option maxHeartbeats 8000000 in
set_option maxRecDepth 100000 in
theorem ct.calls (k:Nat) (A0:Option Addr) (c0:Nat) (l0:List Int) (A1:Option Addr) (c1:Nat) (l1:List Int) (r:Bool) (w:World) (a2:Kd.C (Kd.int .i64) w A0 l0.length l0) (a3:l0.length≤c0) (a4:Kd.C (Kd.int .i64) w A1 l1.length l1) (a5:l1.length≤c1) (h:ct.f k l0 l1 = some r) :
  Calls Tryz.prog 17 #[.slice A0 l0.length c0,.slice A1 l1.length c1] w fun e w'=>e = .returned (.bool r)∧cS w w':=by
 have a6:=ae.mk a2
 have aP:=ae.mk a3
 clear a2 a3
 have a7:=ae.mk a4
 have aR:=ae.mk a5
 clear a4 a5
 unfold ct.f at h
 have H:=h
 clear h
 by_cases c3:(l0.length:Int) = (l1.length:Int)
 ·rw [if_pos c3] at H
  have a8:((l0.length:Int) == (l1.length:Int)) = true:=beq_iff_eq.mpr c3
  have a9:((l0.length:Int) != (l1.length:Int)) = false:=bne_eq_false_iff_eq.mpr c3
  have aa:(l0.length == l1.length) = true:=by first | simpa using c3 | (simp at c3 ⊢;omega)
  clear c3
  have H':=ae.mk H
  clear H
  go_enter Tryz.func17,Tryz.ntmps17
  go_wp2
  repeat (go_quiet (fail);try go_wp2)
  go_loopg [5] k (fun kq v5 w'=>∃ (j:Int),v5 = .int .i64 j∧ae (ct.l0 kq l0 l1 j = some r)∧ae (kq≤k)∧cS w w')
  case atStart=>exact ⟨(0),af.F,H',⟨Nat.le_refl _⟩,af.G⟩
  case round =>
   clear H'
   obtain ⟨j,rfl,HA,ab,⟨m1,rfl⟩⟩:=hrel
   cases gk with
   | zero=>exact absurd HA.out (by simp [ct.l0])
   | succ k1 =>
    have H:=HA.out
    clear HA
    simp only [ct.l0] at H
    by_cases c4:j < (l0.length:Int)
    ·rw [if_pos c4] at H
     have am:=decide_eq_true c4
     clear c4
     obtain ⟨c5,H⟩:=af.ip H
     have aL:=decide_eq_true c5
     clear c5
     obtain ⟨c6,H⟩:=af.ip H
     have aO:=decide_eq_true c6
     clear c6
     by_cases c7:(rd l0 j) = (rd l1 j)
     ·rw [if_pos c7] at H
      have ao:((rd l0 j) == (rd l1 j)) = true:=beq_iff_eq.mpr c7
      have ap:((rd l0 j) != (rd l1 j)) = false:=bne_eq_false_iff_eq.mpr c7
      clear c7
      have H':=ae.mk H
      clear H
      obtain ⟨a0,y,z,ar,aw⟩:=af.ai a6.out j
      cases y
      obtain ⟨a1,X,Y,aB,aF⟩:=af.ai a7.out j
      cases X
      go_wp2
      repeat (go_quiet (fail);try go_wp2)
      go_roundg k1
      case measure=>have:=ab.out;omega
      case rel=>exact ⟨(wrap64 (j+1)),af.F,H',⟨by have:=ab.out;omega⟩,af.G⟩
     ·rw [if_neg c7] at H
      have ao:((rd l0 j) == (rd l1 j)) = false:=beq_eq_false_iff_ne.mpr c7
      have ap:((rd l0 j) != (rd l1 j)) = true:=bne_iff_ne.mpr c7
      obtain rfl:=Option.some.inj H
      obtain ⟨a0,y,z,ar,aw⟩:=af.ai a6.out j
      cases y
      obtain ⟨a1,X,Y,aB,aF⟩:=af.ai a7.out j
      cases X
      go_wp2
      repeat (go_quiet (fail);try go_wp2)
      go_ret
      exact ⟨af.F,af.G⟩
    ·rw [if_neg c4] at H
     have am:decide (j < (l0.length:Int)) = false:=decide_eq_false c4
     clear c4
     obtain rfl:=Option.some.inj H
     go_wp2
     repeat (go_quiet (fail);try go_wp2)
     go_ret
     exact ⟨af.F,af.G⟩
 ·rw [if_neg c3] at H
  have a8:((l0.length:Int) == (l1.length:Int)) = false:=beq_eq_false_iff_ne.mpr c3
  have a9:((l0.length:Int) != (l1.length:Int)) = true:=bne_iff_ne.mpr c3
  have aa:(l0.length == l1.length) = false:=by first | simpa using c3 | (simp at c3 ⊢;omega)
  obtain rfl:=Option.some.inj H
  go_enter Tryz.func17,Tryz.ntmps17
  go_wp2
  repeat (go_quiet (fail);try go_wp2)
  go_ret
  exact ⟨af.F,af.G⟩
def aI.l0:Nat→List Int→Int→Int→Option (Bool)
 | 0,_,_,_=>none
 | k+1,y,z,j=>if j < (y.length:Int) then (if 0≤j then (if (rd y j) = z then (some true) else (aI.l0 k y z (wrap64 (j+1)))) else (none)) else (some false)
def aI.f (k:Nat) (l0:List Int) (j:Int):Option (Bool):=aI.l0 k l0 j 0
theorem aI.cX:∀ k,af.S3 aI.l0 k
 | 0=>by and_intros <;> (repeat intro _) <;> exact af.mz rfl
 | k+1=>by
  have j:=aI.cX k
  and_intros <;> (repeat intro _) <;> unfold aI.l0 <;> exact ⟨af.mt⟩
theorem aI.mono:∀ a0 j k,ic (aI.f k a0 j) (aI.f (k+1) a0 j):=by
 intro a0 j k
 have y:=aI.cX k
 unfold aI.f
 exact af.mt
instance aI.m:af.V2 aI.f:=fun _ _ _=>⟨aI.mono _ _ _⟩
set_option maxHeartbeats 8000000 in
set_option maxRecDepth 100000 in
theorem aI.calls (k:Nat) (A0:Option Addr) (c0:Nat) (l0:List Int) (X:Int) (r:Bool) (w:World) (a0:Kd.C (Kd.int .i64) w A0 l0.length l0) (a2:l0.length≤c0) (h:aI.f k l0 X = some r) :
  Calls Tryz.prog 44 #[.slice A0 l0.length c0,.int .i64 X] w fun e w'=>e = .returned (.bool r)∧cS w w':=by
 have a3:=ae.mk a0
 have ab:=ae.mk a2
 clear a0 a2
 unfold aI.f at h
 have H:=h
 clear h
 have H':=ae.mk H
 clear H
 go_enter Tryz.func44,Tryz.ntmps44
 go_wp2
 go_loopg [5] k (fun kq v5 w'=>∃ (j:Int),v5 = .int .i64 j∧ae (aI.l0 kq l0 X j = some r)∧ae (kq≤k)∧cS w w')
 case atStart=>exact ⟨(0),af.F,H',⟨Nat.le_refl _⟩,af.G⟩
 case round =>
  clear H'
  obtain ⟨j,rfl,HA,a4,⟨m1,rfl⟩⟩:=hrel
  cases gk with
  | zero=>exact absurd HA.out (by simp [aI.l0])
  | succ k1 =>
   have H:=HA.out
   clear HA
   simp only [aI.l0] at H
   by_cases c3:j < (l0.length:Int)
   ·rw [if_pos c3] at H
    have a5:=decide_eq_true c3
    clear c3
    obtain ⟨c4,H⟩:=af.ip H
    have aa:=decide_eq_true c4
    clear c4
    by_cases c5:(rd l0 j) = X
    ·rw [if_pos c5] at H
     have a6:((rd l0 j) == X) = true:=beq_iff_eq.mpr c5
     have a7:((rd l0 j) != X) = false:=bne_eq_false_iff_eq.mpr c5
     clear c5
     obtain rfl:=Option.some.inj H
     obtain ⟨Y,y,z,a8,a9⟩:=af.ai a3.out j
     cases y
     go_wp2
     go_ret
     exact ⟨af.F,af.G⟩
    ·rw [if_neg c5] at H
     have a6:((rd l0 j) == X) = false:=beq_eq_false_iff_ne.mpr c5
     have a7:((rd l0 j) != X) = true:=bne_iff_ne.mpr c5
     have H':=ae.mk H
     clear H
     obtain ⟨Y,y,z,a8,a9⟩:=af.ai a3.out j
     cases y
     go_wp2
     go_roundg k1
     case measure=>have:=a4.out;omega
     case rel=>exact ⟨(wrap64 (j+1)),af.F,H',⟨by have:=a4.out;omega⟩,af.G⟩
   ·rw [if_neg c3] at H
    have a5:decide (j < (l0.length:Int)) = false:=decide_eq_false c3
    clear c3
    obtain rfl:=Option.some.inj H
    go_wp2
    go_ret
    exact ⟨af.F,af.G⟩
def cC.f (a0:Int) (j:Int) (a2:Int):Option (Bool):=if a0≥j then (some (decide (a0≤a2))) else (some false)
set_option maxHeartbeats 8000000 in
set_option maxRecDepth 100000 in
theorem cC.calls (a0:Int) (y:Int) (a2:Int) (r:Bool) (w:World) (h:cC.f a0 y a2 = some r) :
  Calls Tryz.prog 94 #[.int .i64 a0,.int .i64 y,.int .i64 a2] w fun e w'=>e = .returned (.bool r)∧cS w w':=by
 unfold cC.f at h
 have H:=h
 clear h
 by_cases c4:a0≥y
 ·rw [if_pos c4] at H
  have j:=decide_eq_true c4
  clear c4
  obtain rfl:=Option.some.inj H
  go_enter Tryz.func94,Tryz.ntmps94
  go_wp2
  go_ret
  exact ⟨af.F,af.G⟩
 ·rw [if_neg c4] at H
  have j:decide (y≤a0) = false:=decide_eq_false c4
  clear c4
  obtain rfl:=Option.some.inj H
  go_enter Tryz.func94,Tryz.ntmps94
  go_wp2
  go_ret
  exact ⟨af.F,af.G⟩
def bN.f (a0:Int) (j:Int):Option (Bool):=(cC.f a0 0 8).bind fun t103=>(if t103 = true then (if 0≤(IntKind.u64.wrap (a0)) then ((cC.f j 0 (wrap64 ((shl .i64 1 (IntKind.u64.wrap (a0))) - 1))).bind fun t104=>(some t104)) else (none)) else (some false))
set_option maxHeartbeats 8000000 in
set_option maxRecDepth 100000 in
theorem bN.calls (a0:Int) (a1:Int) (r:Bool) (w:World) (h:bN.f a0 a1 = some r) :
  Calls Tryz.prog 87 #[.int .i64 a0,.int .i64 a1] w fun e w'=>e = .returned (.bool r)∧cS w w':=by
 unfold bN.f at h
 have H:=h
 clear h
 obtain ⟨t103,A3,H⟩:=af.be H
 (try dsimp only at H)
 by_cases c4:t103 = true
 ·subst c4
  replace H:(if 0≤(IntKind.u64.wrap (a0)) then ((cC.f a1 0 (wrap64 ((shl .i64 1 (IntKind.u64.wrap (a0))) - 1))).bind fun t104=>(some t104)) else (none)) = some r:=by rw [if_pos rfl] at H;exact H
  obtain ⟨j,X⟩:∃ j_:Int,(IntKind.u64.wrap (a0)) = j_:=⟨_,rfl⟩
  replace H:(if 0≤(j) then ((cC.f a1 0 (wrap64 ((shl .i64 1 (j)) - 1))).bind fun t104=>(some t104)) else (none)) = some r:=by first | (rw [X] at H;exact H) | (simp only [X] at H ⊢;exact H)
  (try rw [X] at A3)
  obtain ⟨c6,H⟩:=af.ip H
  have a8:=eq_true c6
  have a9:decide (0≤(j)) = true:=decide_eq_true c6
  clear c6
  obtain ⟨z,y⟩:∃ j_:Int,(shl .i64 1 (j)) = j_:=⟨_,rfl⟩
  replace H:((cC.f a1 0 (wrap64 ((z) - 1))).bind fun t104=>(some t104)) = some r:=by first | (rw [y] at H;exact H) | (simp only [y] at H ⊢;exact H)
  (try rw [y] at A3)
  have Y:(IntKind.i64.wrap (1 * 2 ^ min (j).toNat 64)) = z:=y
  have a2:(j)≤64→(IntKind.i64.wrap (1 * 2 ^ (j).toNat)) = z:=fI y
  have a4:(IntKind.i64.wrap (2 ^ min (j).toNat 64)) = z:=by have h_:=Y;rw [Int.one_mul] at h_;exact h_
  have a5:(j)≤64→(IntKind.i64.wrap (2 ^ (j).toNat)) = z:=fun a3=>by have h_:=a2 a3;rw [Int.one_mul] at h_;exact h_
  have a6:(wrap64 (1 * 2 ^ min (j).toNat 64)) = z:=(aM _).symm.trans Y
  have a7:(j)≤64→(wrap64 (1 * 2 ^ (j).toNat)) = z:=fun h_=>(aM _).symm.trans (a2 h_)
  obtain ⟨t104,A8,H⟩:=af.be H
  (try dsimp only at H)
  obtain rfl:=Option.some.inj H
  go_enter Tryz.func87,Tryz.ntmps87
  go_wp2_with (first | ((with_reducible refine aA (f:=94) rfl ?_);refine af.gl (some 6) Tryz.func94 #[.int .i64 a0,.int .i64 0,.int .i64 8] ?_;(with_reducible refine (cC.calls a0 0 8 true _ A3.out).mono ?_);rintro e w' ⟨rfl,⟨nd,rfl⟩⟩;refine ⟨_,rfl,?_⟩) | (go_at_call 94;(with_reducible refine (cC.calls a1 0 (wrap64 ((z) - 1)) t104 _ A8.out).mono ?_);rintro e w' ⟨rfl,⟨nd,rfl⟩⟩))
  go_ret
  exact ⟨by first | rfl | (simp;done) | (simp only [← X,← y] <;> (first | rfl | simp)) | (simp [*];done),af.G⟩
 ·replace c4:=Bool.eq_false_iff.mpr c4
  subst c4
  replace H:(some false) = some r:=by rw [if_neg (show ¬ (false = true) by decide)] at H;exact H
  obtain rfl:=Option.some.inj H
  go_enter Tryz.func87,Tryz.ntmps87
  go_wp2_with (first | ((with_reducible refine aA (f:=94) rfl ?_);refine af.gl (some 6) Tryz.func94 #[.int .i64 a0,.int .i64 0,.int .i64 8] ?_;(with_reducible refine (cC.calls a0 0 8 false _ A3.out).mono ?_);rintro e w' ⟨rfl,⟨nd,rfl⟩⟩;refine ⟨_,rfl,?_⟩))
  go_ret
  exact ⟨af.F,af.G⟩
def bf.l0:Nat→Int→List Int→Int→Option (Bool)
 | 0,_,_,_=>none
 | k+1,z,y,j=>if j < (y.length:Int) then (if 0≤j then ((bN.f z (rd y j)).bind fun t106=>(if t106 = true then (if j > 0 then (if 0≤(wrap64 (j - 1)) then (if (wrap64 (j - 1)) < (y.length:Int) then (if (rd y (wrap64 (j - 1)))≥(rd y j) then (some false) else (bf.l0 k z y (wrap64 (j+1)))) else (none)) else (none)) else (bf.l0 k z y (wrap64 (j+1)))) else (some false))) else (none)) else ((cC.f z 0 8).bind fun t109=>(some t109))
def bf.f (k:Nat) (a0:Int) (l1:List Int):Option (Bool):=bf.l0 k a0 l1 0
theorem bf.cX:∀ k,af.S3 bf.l0 k
 | 0=>by and_intros <;> (repeat intro _) <;> exact af.mz rfl
 | k+1=>by
  have j:=bf.cX k
  and_intros <;> (repeat intro _) <;> unfold bf.l0 <;> exact ⟨af.mt⟩
theorem bf.mono:∀ a0 j k,ic (bf.f k a0 j) (bf.f (k+1) a0 j):=by
 intro a0 j k
 have y:=bf.cX k
 unfold bf.f
 exact af.mt
instance bf.m:af.V2 bf.f:=fun _ _ _=>⟨bf.mono _ _ _⟩
set_option maxHeartbeats 8000000 in
set_option maxRecDepth 100000 in
theorem bf.calls (k:Nat) (a0:Int) (A1:Option Addr) (c1:Nat) (l1:List Int) (r:Bool) (w:World) (aL:Kd.C (Kd.int .i64) w A1 l1.length l1) (aO:l1.length≤c1) (h:bf.f k a0 l1 = some r) :
  Calls Tryz.prog 96 #[.int .i64 a0,.slice A1 l1.length c1] w fun e w'=>e = .returned (.bool r)∧cS w w':=by
 have a9:=ae.mk aL
 have b4:=ae.mk aO
 clear aL aO
 unfold bf.f at h
 have H:=h
 clear h
 have H':=ae.mk H
 clear H
 go_enter Tryz.func96,Tryz.ntmps96
 go_wp2
 repeat (go_quiet (fail);try go_wp2)
 go_loopg [5] k (fun kq v5 w'=>∃ (j:Int),v5 = .int .i64 j∧ae (bf.l0 kq a0 l1 j = some r)∧ae (kq≤k)∧cS w w')
 case atStart=>exact ⟨(0),af.F,H',⟨Nat.le_refl _⟩,af.G⟩
 case round =>
  clear H'
  obtain ⟨j,rfl,HA,aw,⟨m1,rfl⟩⟩:=hrel
  cases gk with
  | zero=>exact absurd HA.out (by simp [bf.l0])
  | succ k1 =>
   have H:=HA.out
   clear HA
   simp only [bf.l0] at H
   by_cases c3:j < (l1.length:Int)
   ·rw [if_pos c3] at H
    have aP:=decide_eq_true c3
    clear c3
    obtain ⟨c4,H⟩:=af.ip H
    have b2:=decide_eq_true c4
    clear c4
    obtain ⟨t106,A5,H⟩:=af.be H
    (try dsimp only at H)
    by_cases c6:t106 = true
    ·subst c6
     replace H:(if j > 0 then (if 0≤(wrap64 (j - 1)) then (if (wrap64 (j - 1)) < (l1.length:Int) then (if (rd l1 (wrap64 (j - 1)))≥(rd l1 j) then (some false) else (bf.l0 k1 a0 l1 (wrap64 (j+1)))) else (none)) else (none)) else (bf.l0 k1 a0 l1 (wrap64 (j+1)))) = some r:=by rw [if_pos rfl] at H;exact H
     by_cases c7:j > 0
     ·rw [if_pos c7] at H
      have aR:=decide_eq_true c7
      clear c7
      obtain ⟨a2,am⟩:∃ j_:Int,(wrap64 (j - 1)) = j_:=⟨_,rfl⟩
      replace H:(if 0≤(a2) then (if (a2) < (l1.length:Int) then (if (rd l1 (a2))≥(rd l1 j) then (some false) else (bf.l0 k1 a0 l1 (wrap64 (j+1)))) else (none)) else (none)) = some r:=by first | (rw [am] at H;exact H) | (simp only [am] at H ⊢;exact H)
      (try rw [am] at A5)
      have aS:(IntKind.i64.wrap (j - 1)) = a2:=(aM _).trans am
      obtain ⟨c9,H⟩:=af.ip H
      have b3:=decide_eq_true c9
      clear c9
      obtain ⟨gX,H⟩:=af.ip H
      have b0:=decide_eq_true gX
      clear gX
      by_cases ao:(rd l1 (a2))≥(rd l1 j)
      ·rw [if_pos ao] at H
       have aB:=decide_eq_true ao
       clear ao
       obtain rfl:=Option.some.inj H
       obtain ⟨a1,aa,ab,ap,ar⟩:=af.ai a9.out j
       cases aa
       go_wp2_with (first | (go_at_call 87;(with_reducible refine (bN.calls a0 (rd l1 j) true _ A5.out).mono ?_);rintro e w' ⟨rfl,⟨nd,rfl⟩⟩;(try exact af.W);have y:0≤((a2):Int):=af.D;have z:(a2) < (l1.length:Int):=af.D;obtain ⟨a3,a5,a6⟩:=Kd.ey a9.out (a2) y z;obtain rfl:a1 = a3:=(by injection a5);replace y:=eq_true y;replace z:=eq_true z;have X:0≤(j:Int):=af.D;have Y:j < (l1.length:Int):=af.D;obtain ⟨a4,a7,a8⟩:=Kd.ey a9.out j X Y;obtain rfl:a1 = a4:=(by injection a7);replace X:=eq_true X;replace Y:=eq_true Y))
       repeat (go_quiet (first | (go_at_call 87;(with_reducible refine (bN.calls a0 (rd l1 j) true _ A5.out).mono ?_);rintro e w' ⟨rfl,⟨nd,rfl⟩⟩;(try exact af.W);have y:0≤((a2):Int):=af.D;have z:(a2) < (l1.length:Int):=af.D;obtain ⟨a3,a5,a6⟩:=Kd.ey a9.out (a2) y z;obtain rfl:a1 = a3:=(by injection a5);replace y:=eq_true y;replace z:=eq_true z;have X:0≤(j:Int):=af.D;have Y:j < (l1.length:Int):=af.D;obtain ⟨a4,a7,a8⟩:=Kd.ey a9.out j X Y;obtain rfl:a1 = a4:=(by injection a7);replace X:=eq_true X;replace Y:=eq_true Y));try go_wp2_with (first | (go_at_call 87;(with_reducible refine (bN.calls a0 (rd l1 j) true _ A5.out).mono ?_);rintro e w' ⟨rfl,⟨nd,rfl⟩⟩;(try exact af.W);have y:0≤((a2):Int):=af.D;have z:(a2) < (l1.length:Int):=af.D;obtain ⟨a3,a5,a6⟩:=Kd.ey a9.out (a2) y z;obtain rfl:a1 = a3:=(by injection a5);replace y:=eq_true y;replace z:=eq_true z;have X:0≤(j:Int):=af.D;have Y:j < (l1.length:Int):=af.D;obtain ⟨a4,a7,a8⟩:=Kd.ey a9.out j X Y;obtain rfl:a1 = a4:=(by injection a7);replace X:=eq_true X;replace Y:=eq_true Y)))
       go_ret
       exact ⟨by first | rfl | (simp;done) | (simp only [← am] <;> (first | rfl | simp)) | (simp [*];done),af.G⟩
      ·rw [if_neg ao] at H
       have aB:decide ((rd l1 j)≤(rd l1 (a2))) = false:=decide_eq_false ao
       clear ao
       have H':=ae.mk H
       clear H
       obtain ⟨a1,aa,ab,ap,ar⟩:=af.ai a9.out j
       cases aa
       go_wp2_with (first | (go_at_call 87;(with_reducible refine (bN.calls a0 (rd l1 j) true _ A5.out).mono ?_);rintro e w' ⟨rfl,⟨nd,rfl⟩⟩;(try exact af.W);have y:0≤((a2):Int):=af.D;have z:(a2) < (l1.length:Int):=af.D;obtain ⟨a3,a5,a6⟩:=Kd.ey a9.out (a2) y z;obtain rfl:a1 = a3:=(by injection a5);replace y:=eq_true y;replace z:=eq_true z;have X:0≤(j:Int):=af.D;have Y:j < (l1.length:Int):=af.D;obtain ⟨a4,a7,a8⟩:=Kd.ey a9.out j X Y;obtain rfl:a1 = a4:=(by injection a7);replace X:=eq_true X;replace Y:=eq_true Y))
       repeat (go_quiet (first | (go_at_call 87;(with_reducible refine (bN.calls a0 (rd l1 j) true _ A5.out).mono ?_);rintro e w' ⟨rfl,⟨nd,rfl⟩⟩;(try exact af.W);have y:0≤((a2):Int):=af.D;have z:(a2) < (l1.length:Int):=af.D;obtain ⟨a3,a5,a6⟩:=Kd.ey a9.out (a2) y z;obtain rfl:a1 = a3:=(by injection a5);replace y:=eq_true y;replace z:=eq_true z;have X:0≤(j:Int):=af.D;have Y:j < (l1.length:Int):=af.D;obtain ⟨a4,a7,a8⟩:=Kd.ey a9.out j X Y;obtain rfl:a1 = a4:=(by injection a7);replace X:=eq_true X;replace Y:=eq_true Y));try go_wp2_with (first | (go_at_call 87;(with_reducible refine (bN.calls a0 (rd l1 j) true _ A5.out).mono ?_);rintro e w' ⟨rfl,⟨nd,rfl⟩⟩;(try exact af.W);have y:0≤((a2):Int):=af.D;have z:(a2) < (l1.length:Int):=af.D;obtain ⟨a3,a5,a6⟩:=Kd.ey a9.out (a2) y z;obtain rfl:a1 = a3:=(by injection a5);replace y:=eq_true y;replace z:=eq_true z;have X:0≤(j:Int):=af.D;have Y:j < (l1.length:Int):=af.D;obtain ⟨a4,a7,a8⟩:=Kd.ey a9.out j X Y;obtain rfl:a1 = a4:=(by injection a7);replace X:=eq_true X;replace Y:=eq_true Y)))
       go_roundg k1
       case measure=>have:=aw.out;omega
       case rel=>exact ⟨(wrap64 (j+1)),af.F,H',⟨by have:=aw.out;omega⟩,af.G⟩
     ·rw [if_neg c7] at H
      have aR:decide (0 < j) = false:=decide_eq_false c7
      clear c7
      have H':=ae.mk H
      clear H
      obtain ⟨a1,aa,ab,ap,ar⟩:=af.ai a9.out j
      cases aa
      go_wp2_with (first | (go_at_call 87;(with_reducible refine (bN.calls a0 (rd l1 j) true _ A5.out).mono ?_);rintro e w' ⟨rfl,⟨nd,rfl⟩⟩;(try exact af.W)))
      repeat (go_quiet (first | (go_at_call 87;(with_reducible refine (bN.calls a0 (rd l1 j) true _ A5.out).mono ?_);rintro e w' ⟨rfl,⟨nd,rfl⟩⟩;(try exact af.W)));try go_wp2_with (first | (go_at_call 87;(with_reducible refine (bN.calls a0 (rd l1 j) true _ A5.out).mono ?_);rintro e w' ⟨rfl,⟨nd,rfl⟩⟩;(try exact af.W))))
      go_roundg k1
      case measure=>have:=aw.out;omega
      case rel=>exact ⟨(wrap64 (j+1)),af.F,H',⟨by have:=aw.out;omega⟩,af.G⟩
    ·replace c6:=Bool.eq_false_iff.mpr c6
     subst c6
     replace H:(some false) = some r:=by rw [if_neg (show ¬ (false = true) by decide)] at H;exact H
     obtain rfl:=Option.some.inj H
     obtain ⟨a1,aa,ab,ap,ar⟩:=af.ai a9.out j
     cases aa
     go_wp2_with (first | (go_at_call 87;(with_reducible refine (bN.calls a0 (rd l1 j) false _ A5.out).mono ?_);rintro e w' ⟨rfl,⟨nd,rfl⟩⟩;(try exact af.W)))
     repeat (go_quiet (first | (go_at_call 87;(with_reducible refine (bN.calls a0 (rd l1 j) false _ A5.out).mono ?_);rintro e w' ⟨rfl,⟨nd,rfl⟩⟩;(try exact af.W)));try go_wp2_with (first | (go_at_call 87;(with_reducible refine (bN.calls a0 (rd l1 j) false _ A5.out).mono ?_);rintro e w' ⟨rfl,⟨nd,rfl⟩⟩;(try exact af.W))))
     go_ret
     exact ⟨af.F,af.G⟩
   ·rw [if_neg c3] at H
    have aP:decide (j < (l1.length:Int)) = false:=decide_eq_false c3
    clear c3
    obtain ⟨t109,aF,H⟩:=af.be H
    (try dsimp only at H)
    obtain rfl:=Option.some.inj H
    go_wp2_with (first | (go_at_call 94;(with_reducible refine (cC.calls a0 0 8 t109 _ aF.out).mono ?_);rintro e w' ⟨rfl,⟨nd,rfl⟩⟩;(try exact af.W)))
    repeat (go_quiet (first | (go_at_call 94;(with_reducible refine (cC.calls a0 0 8 t109 _ aF.out).mono ?_);rintro e w' ⟨rfl,⟨nd,rfl⟩⟩;(try exact af.W)));try go_wp2_with (first | (go_at_call 94;(with_reducible refine (cC.calls a0 0 8 t109 _ aF.out).mono ?_);rintro e w' ⟨rfl,⟨nd,rfl⟩⟩;(try exact af.W))))
    go_ret
    exact ⟨af.F,af.G⟩
def cz.f (a0:Int) (j:Int):Option (Bool):=if 0≤(IntKind.u64.wrap (j)) then (some ((Go.bits .and .i64 (shr .i64 a0 (IntKind.u64.wrap (j))) 1) == 1)) else (none)
set_option maxHeartbeats 8000000 in
set_option maxRecDepth 100000 in
theorem cz.calls (a0:Int) (Y:Int) (r:Bool) (w:World) (h:cz.f a0 Y = some r) :
  Calls Tryz.prog 89 #[.int .i64 a0,.int .i64 Y] w fun e w'=>e = .returned (.bool r)∧cS w w':=by
 unfold cz.f at h
 have H:=h
 clear h
 obtain ⟨y,z⟩:∃ j_:Int,(IntKind.u64.wrap (Y)) = j_:=⟨_,rfl⟩
 replace H:(if 0≤(y) then (some ((Go.bits .and .i64 (shr .i64 a0 (y)) 1) == 1)) else (none)) = some r:=by first | (rw [z] at H;exact H) | (simp only [z] at H ⊢;exact H)
 obtain ⟨c4,H⟩:=af.ip H
 have a4:=eq_true c4
 have a5:decide (0≤(y)) = true:=decide_eq_true c4
 clear c4
 obtain ⟨X,j⟩:∃ j_:Int,(shr .i64 a0 (y)) = j_:=⟨_,rfl⟩
 replace H:(some ((Go.bits .and .i64 (X) 1) == 1)) = some r:=by first | (rw [j] at H;exact H) | (simp only [j] at H ⊢;exact H)
 have a2:(a0 / 2 ^ min (y).toNat 64) = X:=j
 have a3:(y)≤64→(a0 / 2 ^ (y).toNat) = X:=n4 j
 obtain rfl:=Option.some.inj H
 go_enter Tryz.func89,Tryz.ntmps89
 go_wp2
 go_ret
 exact ⟨by first | rfl | (simp;done) | (simp only [← z,← j] <;> (first | rfl | simp)) | (simp [*];done),af.G⟩
def aN.l0:Nat→Int→Int→Int→Int→Int→List Int→Option (Bool)
 | 0,_,_,_,_,_,_=>none
 | k+1,X,x2,Y,z,j,y=>if z < j then ((cz.f x2 z).bind fun t112=>(if t112 = true then ((cz.f X z).bind fun t113=>(if t113 = true then (aN.l0 k X x2 Y (wrap64 (z+1)) j y) else (if 0≤(IntKind.u64.wrap (Y)) then (if 0≤(IntKind.u64.wrap (z)) then ((aI.f k y (wrap64 ((wrap64 (X - (shl .i64 1 (IntKind.u64.wrap (Y)))))+(shl .i64 1 (IntKind.u64.wrap (z)))))).bind fun t114=>(if t114 = true then (some true) else (aN.l0 k X x2 Y (wrap64 (z+1)) j y))) else (none)) else (none)))) else (aN.l0 k X x2 Y (wrap64 (z+1)) j y))) else (some false)
def aN.f (k:Nat) (j:Int) (y:List Int) (z:Int) (a2:Int) (a3:Int):Option (Bool):=aN.l0 k z a2 a3 0 j y
theorem aN.cX:∀ k,af.S6 aN.l0 k
 | 0=>by and_intros <;> (repeat intro _) <;> exact af.mz rfl
 | k+1=>by
  have j:=aN.cX k
  and_intros <;> (repeat intro _) <;> unfold aN.l0 <;> exact ⟨af.mt⟩
theorem aN.mono:∀ a0 j a2 a3 a4 k,ic (aN.f k a0 j a2 a3 a4) (aN.f (k+1) a0 j a2 a3 a4):=by
 intro a0 j a2 a3 a4 k
 have y:=aN.cX k
 unfold aN.f
 exact af.mt
instance aN.m:af.V5 aN.f:=fun _ _ _ _ _ _=>⟨aN.mono _ _ _ _ _ _⟩
set_option maxHeartbeats 8000000 in
set_option maxRecDepth 100000 in
theorem aN.calls (k:Nat) (z:Int) (aa:Option Addr) (ab:Nat) (y:List Int) (a1:Int) (a2:Int) (a3:Int) (r:Bool) (w:World) (aB:Kd.C (Kd.int .i64) w aa y.length y) (aF:y.length≤ab) (h:aN.f k z y a1 a2 a3 = some r) :
  Calls Tryz.prog 138 #[.agg #[.int .i64 z,.slice aa y.length ab],.int .i64 a1,.int .i64 a2,.int .i64 a3] w fun e w'=>e = .returned (.bool r)∧Below w.heap.size w w':=by
 have dt:=Tryz.underlying30
 have aL:=ae.mk aB
 have aO:=ae.mk aF
 clear aB aF
 have HB:=ae.mk (Below.refl w.heap.size w)
 unfold aN.f at h
 have H:=h
 clear h
 have H':=ae.mk H
 clear H
 go_enter Tryz.func138,Tryz.ntmps138
 go_wp2_with (first | ((with_reducible refine bh (N:=4) rfl ?_);refine af.bx 4 #[.int .i64 z,.slice aa y.length ab] 30 ?_;intro aS hg w5 hbox hb;have X:=ae.mk hbox;have dd:=af.gw hg HB;have df:=af.gw hg HB;replace HB:=af.lb HB hb;clear hb hbox hg))
 go_loopg [9] k (fun kq v9 w'=>∃ (j:Int),v9 = .int .i64 j∧ae (aN.l0 kq a1 a2 a3 j z y = some r)∧ae (kq≤k)∧ae (w'.heap[aS]? = some (.cells #[.int .i64 z,(.slice aa y.length ab)] 30 (0,0)))∧ae (Below w.heap.size w w'))
 case atStart=>exact ⟨(0),af.F,H',⟨Nat.le_refl _⟩,⟨af.Bw X.out⟩,⟨af.Lw HB.out⟩⟩
 case round =>
  clear H'
  obtain ⟨j,rfl,HA,aw,X,HB⟩:=hrel
  cases gk with
  | zero=>exact absurd HA.out (by simp [aN.l0])
  | succ k1 =>
   have H:=HA.out
   clear HA
   simp only [aN.l0] at H
   by_cases c6:j < z
   ·rw [if_pos c6] at H
    have b3:=decide_eq_true c6
    clear c6
    obtain ⟨t112,A7,H⟩:=af.be H
    (try dsimp only at H)
    by_cases c8:t112 = true
    ·subst c8
     replace H:((cz.f a1 j).bind fun t113=>(if t113 = true then (aN.l0 k1 a1 a2 a3 (wrap64 (j+1)) z y) else (if 0≤(IntKind.u64.wrap (a3)) then (if 0≤(IntKind.u64.wrap (j)) then ((aI.f k1 y (wrap64 ((wrap64 (a1 - (shl .i64 1 (IntKind.u64.wrap (a3)))))+(shl .i64 1 (IntKind.u64.wrap (j)))))).bind fun t114=>(if t114 = true then (some true) else (aN.l0 k1 a1 a2 a3 (wrap64 (j+1)) z y))) else (none)) else (none)))) = some r:=by rw [if_pos rfl] at H;exact H
     obtain ⟨t113,A9,H⟩:=af.be H
     (try dsimp only at H)
     by_cases gX:t113 = true
     ·subst gX
      replace H:(aN.l0 k1 a1 a2 a3 (wrap64 (j+1)) z y) = some r:=by rw [if_pos rfl] at H;exact H
      have H':=ae.mk H
      clear H
      obtain ⟨b4,b5,ba,bc⟩:=af.bw X.out
      go_wp2_with (first | ((with_reducible refine aA (f:=89) rfl ?_);refine af.gl (some 18) Tryz.func89 #[.int .i64 a2,.int .i64 j] ?_;(with_reducible refine (cz.calls a2 j true _ A7.out).mono ?_);rintro e w' ⟨rfl,⟨nd,rfl⟩⟩;refine ⟨_,rfl,?_⟩) | (go_at_call 89;(with_reducible refine (cz.calls a1 j true _ A9.out).mono ?_);rintro e w' ⟨rfl,⟨nd,rfl⟩⟩))
      go_roundg k1
      case measure=>have:=aw.out;omega
      case rel=>exact ⟨(wrap64 (j+1)),af.F,H',⟨by have:=aw.out;omega⟩,⟨af.Bw X.out⟩,⟨af.Lw HB.out⟩⟩
     ·replace gX:=Bool.eq_false_iff.mpr gX
      subst gX
      replace H:(if 0≤(IntKind.u64.wrap (a3)) then (if 0≤(IntKind.u64.wrap (j)) then ((aI.f k1 y (wrap64 ((wrap64 (a1 - (shl .i64 1 (IntKind.u64.wrap (a3)))))+(shl .i64 1 (IntKind.u64.wrap (j)))))).bind fun t114=>(if t114 = true then (some true) else (aN.l0 k1 a1 a2 a3 (wrap64 (j+1)) z y))) else (none)) else (none)) = some r:=by rw [if_neg (show ¬ (false = true) by decide)] at H;exact H
      obtain ⟨Y,a8⟩:∃ j_:Int,(IntKind.u64.wrap (a3)) = j_:=⟨_,rfl⟩
      replace H:(if 0≤(Y) then (if 0≤(IntKind.u64.wrap (j)) then ((aI.f k1 y (wrap64 ((wrap64 (a1 - (shl .i64 1 (Y))))+(shl .i64 1 (IntKind.u64.wrap (j)))))).bind fun t114=>(if t114 = true then (some true) else (aN.l0 k1 a1 a2 a3 (wrap64 (j+1)) z y))) else (none)) else (none)) = some r:=by first | (rw [a8] at H;exact H) | (simp only [a8] at H ⊢;exact H)
      (try rw [a8] at A7)
      (try rw [a8] at A9)
      obtain ⟨b0,H⟩:=af.ip H
      have dk:=eq_true b0
      have dl:decide (0≤(Y)) = true:=decide_eq_true b0
      clear b0
      obtain ⟨a4,a5⟩:∃ j_:Int,(shl .i64 1 (Y)) = j_:=⟨_,rfl⟩
      replace H:(if 0≤(IntKind.u64.wrap (j)) then ((aI.f k1 y (wrap64 ((wrap64 (a1 - (a4)))+(shl .i64 1 (IntKind.u64.wrap (j)))))).bind fun t114=>(if t114 = true then (some true) else (aN.l0 k1 a1 a2 a3 (wrap64 (j+1)) z y))) else (none)) = some r:=by first | (rw [a5] at H;exact H) | (simp only [a5] at H ⊢;exact H)
      (try rw [a5] at A7)
      (try rw [a5] at A9)
      have am:(IntKind.i64.wrap (1 * 2 ^ min (Y).toNat 64)) = a4:=a5
      have ao:(Y)≤64→(IntKind.i64.wrap (1 * 2 ^ (Y).toNat)) = a4:=fI a5
      have d3:(IntKind.i64.wrap (2 ^ min (Y).toNat 64)) = a4:=by have h_:=am;rw [Int.one_mul] at h_;exact h_
      have d4:(Y)≤64→(IntKind.i64.wrap (2 ^ (Y).toNat)) = a4:=fun aP=>by have h_:=ao aP;rw [Int.one_mul] at h_;exact h_
      have d5:(wrap64 (1 * 2 ^ min (Y).toNat 64)) = a4:=(aM _).symm.trans am
      have d6:(Y)≤64→(wrap64 (1 * 2 ^ (Y).toNat)) = a4:=fun h_=>(aM _).symm.trans (ao h_)
      obtain ⟨a0,a9⟩:∃ j_:Int,(IntKind.u64.wrap (j)) = j_:=⟨_,rfl⟩
      replace H:(if 0≤(a0) then ((aI.f k1 y (wrap64 ((wrap64 (a1 - (a4)))+(shl .i64 1 (a0))))).bind fun t114=>(if t114 = true then (some true) else (aN.l0 k1 a1 a2 a3 (wrap64 (j+1)) z y))) else (none)) = some r:=by first | (rw [a9] at H;exact H) | (simp only [a9] at H ⊢;exact H)
      (try rw [a9] at A7)
      (try rw [a9] at A9)
      obtain ⟨b2,H⟩:=af.ip H
      have dp:=eq_true b2
      have dq:decide (0≤(a0)) = true:=decide_eq_true b2
      clear b2
      obtain ⟨a7,a6⟩:∃ j_:Int,(shl .i64 1 (a0)) = j_:=⟨_,rfl⟩
      replace H:((aI.f k1 y (wrap64 ((wrap64 (a1 - (a4)))+(a7)))).bind fun t114=>(if t114 = true then (some true) else (aN.l0 k1 a1 a2 a3 (wrap64 (j+1)) z y))) = some r:=by first | (rw [a6] at H;exact H) | (simp only [a6] at H ⊢;exact H)
      (try rw [a6] at A7)
      (try rw [a6] at A9)
      have ap:(IntKind.i64.wrap (1 * 2 ^ min (a0).toNat 64)) = a7:=a6
      have ar:(a0)≤64→(IntKind.i64.wrap (1 * 2 ^ (a0).toNat)) = a7:=fI a6
      have d7:(IntKind.i64.wrap (2 ^ min (a0).toNat 64)) = a7:=by have h_:=ap;rw [Int.one_mul] at h_;exact h_
      have d8:(a0)≤64→(IntKind.i64.wrap (2 ^ (a0).toNat)) = a7:=fun aP=>by have h_:=ar aP;rw [Int.one_mul] at h_;exact h_
      have d9:(wrap64 (1 * 2 ^ min (a0).toNat 64)) = a7:=(aM _).symm.trans ap
      have db:(a0)≤64→(wrap64 (1 * 2 ^ (a0).toNat)) = a7:=fun h_=>(aM _).symm.trans (ar h_)
      obtain ⟨t114,bi,H⟩:=af.be H
      (try dsimp only at H)
      by_cases aR:t114 = true
      ·subst aR
       replace H:(some true) = some r:=by rw [if_pos rfl] at H;exact H
       obtain rfl:=Option.some.inj H
       obtain ⟨bm,bo,bs,bv⟩:=af.bw X.out
       go_wp2_with (first | ((with_reducible refine aA (f:=89) rfl ?_);refine af.gl (some 18) Tryz.func89 #[.int .i64 a2,.int .i64 j] ?_;(with_reducible refine (cz.calls a2 j true _ A7.out).mono ?_);rintro e w' ⟨rfl,⟨nd,rfl⟩⟩;refine ⟨_,rfl,?_⟩) | (go_at_call 89;(with_reducible refine (cz.calls a1 j false _ A9.out).mono ?_);rintro e w' ⟨rfl,⟨nd,rfl⟩⟩) | (go_at_call 44;(with_reducible refine (aI.calls k1 _ _ y (wrap64 ((wrap64 (a1 - (a4)))+(a7))) true _ ?side1 ?side2 bi.out).mono ?_);(case side1=>exact af.Cw (Kd.aT aL.out HB.out));(case side2=>exact aO.out);rintro e w' ⟨rfl,⟨nd,rfl⟩⟩))
       go_ret
       exact ⟨by first | rfl | (simp [dK,dL] <;> rfl) | (simp only [← a8,← a5,← a9,← a6];first | rfl | (simp [dK,dL] <;> rfl)) | (simp [*,dK,dL] <;> rfl),af.L⟩
      ·replace aR:=Bool.eq_false_iff.mpr aR
       subst aR
       replace H:(aN.l0 k1 a1 a2 a3 (wrap64 (j+1)) z y) = some r:=by rw [if_neg (show ¬ (false = true) by decide)] at H;exact H
       have H':=ae.mk H
       clear H
       obtain ⟨c0,c1,ca,cb⟩:=af.bw X.out
       go_wp2_with (first | ((with_reducible refine aA (f:=89) rfl ?_);refine af.gl (some 18) Tryz.func89 #[.int .i64 a2,.int .i64 j] ?_;(with_reducible refine (cz.calls a2 j true _ A7.out).mono ?_);rintro e w' ⟨rfl,⟨nd,rfl⟩⟩;refine ⟨_,rfl,?_⟩) | (go_at_call 89;(with_reducible refine (cz.calls a1 j false _ A9.out).mono ?_);rintro e w' ⟨rfl,⟨nd,rfl⟩⟩) | (go_at_call 44;(with_reducible refine (aI.calls k1 _ _ y (wrap64 ((wrap64 (a1 - (a4)))+(a7))) false _ ?side1 ?side2 bi.out).mono ?_);(case side1=>exact af.Cw (Kd.aT aL.out HB.out));(case side2=>exact aO.out);rintro e w' ⟨rfl,⟨nd,rfl⟩⟩))
       go_roundg k1
       case measure=>have:=aw.out;omega
       case rel=>exact ⟨(wrap64 (j+1)),af.F,H',⟨by have:=aw.out;omega⟩,⟨af.Bw X.out⟩,⟨af.Lw HB.out⟩⟩
    ·replace c8:=Bool.eq_false_iff.mpr c8
     subst c8
     replace H:(aN.l0 k1 a1 a2 a3 (wrap64 (j+1)) z y) = some r:=by rw [if_neg (show ¬ (false = true) by decide)] at H;exact H
     have H':=ae.mk H
     clear H
     obtain ⟨cc,ce,cf,ci⟩:=af.bw X.out
     go_wp2_with (first | ((with_reducible refine aA (f:=89) rfl ?_);refine af.gl (some 18) Tryz.func89 #[.int .i64 a2,.int .i64 j] ?_;(with_reducible refine (cz.calls a2 j false _ A7.out).mono ?_);rintro e w' ⟨rfl,⟨nd,rfl⟩⟩;refine ⟨_,rfl,?_⟩))
     go_roundg k1
     case measure=>have:=aw.out;omega
     case rel=>exact ⟨(wrap64 (j+1)),af.F,H',⟨by have:=aw.out;omega⟩,⟨af.Bw X.out⟩,⟨af.Lw HB.out⟩⟩
   ·rw [if_neg c6] at H
    have b3:decide (j < z) = false:=decide_eq_false c6
    clear c6
    obtain rfl:=Option.some.inj H
    obtain ⟨cp,d0,d1,d2⟩:=af.bw X.out
    go_wp2
    go_ret
    exact ⟨af.E,af.L⟩
mutual
def ay.l0:Nat→Int→Int→List Int→Option (Int×Int×Int×Bool)
 | 0,_,_,_=>none
 | k+1,z,y,j=>if z < (j.length:Int) then (ay.l1 k z 0 y j) else (some (0,0,0,false))
def ay.l1:Nat→Int→Int→Int→List Int→Option (Int×Int×Int×Bool)
 | 0,_,_,_,_=>none
 | k+1,z,X,y,j=>if X < (j.length:Int) then (ay.l2 k z X 0 y j) else (ay.l0 k (wrap64 (z+1)) y j)
def ay.l2:Nat→Int→Int→Int→Int→List Int→Option (Int×Int×Int×Bool)
 | 0,_,_,_,_,_=>none
 | k+1,z,X,Y,y,j=>if Y < y then (if 0≤z then (if z < (j.length:Int) then (if 0≤X then (if X < (j.length:Int) then ((cz.f (rd j z) Y).bind fun t120=>(if t120 = true then ((cz.f (rd j X) Y).bind fun t121=>(if t121 = true then (ay.l2 k z X (wrap64 (Y+1)) y j) else ((aN.f k y j (rd j z) (rd j X) Y).bind fun t122=>(if t122 = true then (ay.l2 k z X (wrap64 (Y+1)) y j) else (some (rd j z,rd j X,Y,true)))))) else (ay.l2 k z X (wrap64 (Y+1)) y j))) else (none)) else (none)) else (none)) else (none)) else (ay.l1 k z (wrap64 (X+1)) y j)
end
def ay.f (k:Nat) (j:Int) (y:List Int):Option (Int×Int×Int×Bool):=(bf.f k j y).bind fun t117=>(if t117 = true then (ay.l0 k 0 j y) else (some (0,0,0,false)))
theorem ay.cX:∀ k,af.S3 ay.l0 k∧af.S4 ay.l1 k∧af.S5 ay.l2 k
 | 0=>by and_intros <;> (repeat intro _) <;> exact af.mz rfl
 | k+1=>by
  obtain ⟨j,y,z⟩:=ay.cX k
  and_intros <;> (repeat intro _) <;> (first | unfold ay.l0 | unfold ay.l1 | unfold ay.l2) <;> exact ⟨af.mt⟩
theorem ay.mono:∀ a0 j k,ic (ay.f k a0 j) (ay.f (k+1) a0 j):=by
 intro a0 j k
 obtain ⟨y,z,X⟩:=ay.cX k
 unfold ay.f
 exact af.mt
instance ay.m:af.V2 ay.f:=fun _ _ _=>⟨ay.mono _ _ _⟩
set_option maxHeartbeats 8000000 in
set_option maxRecDepth 100000 in
theorem ay.calls (k:Nat) (a2:Int) (aB:Option Addr) (am:Nat) (y:List Int) (r1:Int) (r2:Int) (r3:Int) (r4:Bool) (w:World) (d0:Kd.C (Kd.int .i64) w aB y.length y) (d1:y.length≤am) (h:ay.f k a2 y = some (r1,r2,r3,r4)) :
  Calls Tryz.prog 95 #[.agg #[.int .i64 a2,.slice aB y.length am]] w fun e w'=>e = .returned (.tuple #[.agg #[.int .i64 r1,.int .i64 r2,.int .i64 r3],.bool r4])∧Below w.heap.size w w':=by
 have hP:=Tryz.underlying30
 have hR:=Tryz.underlying89
 have ab:=ae.mk d0
 have ca:=ae.mk d1
 clear d0 d1
 have HB:=ae.mk (Below.refl w.heap.size w)
 unfold ay.f at h
 have H:=h
 clear h
 obtain ⟨t117,A2,H⟩:=af.be H
 (try dsimp only at H)
 by_cases c3:t117 = true
 ·subst c3
  replace H:(ay.l0 k 0 a2 y) = some (r1,r2,r3,r4):=by rw [if_pos rfl] at H;exact H
  have H':=ae.mk H
  clear H
  go_enter Tryz.func95,Tryz.ntmps95
  go_wp2_with (first | ((with_reducible refine bh (N:=1) rfl ?_);refine af.bx 1 #[.int .i64 a2,.slice aB y.length am] 30 ?_;intro aa hg w4 hbox hb;have j:=ae.mk hbox;have db:=af.gw hg HB;have dd:=af.gw hg HB;replace HB:=af.lb HB hb;clear hb hbox hg) | ((with_reducible refine bh (N:=2) rfl ?_);refine af.bx 2 #[.int .i64 0,.int .i64 0,.int .i64 0] 89 ?_;intro a9 hg w5 hbox hb;have z:=ae.mk hbox;have df:=af.gw hg HB;have dk:=af.gw hg HB;replace HB:=af.lb HB hb;have a0:=af.nl hg j;have a1:=af.ng hg j;replace j:=af.bb j hb;clear hb hbox hg;have hT:=a0.out;have hU:=a1.out;obtain ⟨gs,gt,h0,h6⟩:=af.bw j.out) | ((with_reducible refine aA (f:=96) rfl ?_);refine af.gl (some 13) Tryz.func96 #[.int .i64 a2,.slice aB y.length am] ?_;(with_reducible refine (bf.calls k a2 _ _ y true _ ?side1 ?side2 A2.out).mono ?_);(case side1=>exact af.Cw (Kd.aT ab.out HB.out));(case side2=>exact ca.out);rintro e w' ⟨rfl,⟨nd,rfl⟩⟩;refine ⟨_,rfl,?_⟩))
  go_loopg [4] k (fun kq v4 w'=>∃ (X:Int) (aF:Int) (aL:Int) (aO:Int),v4 = .int .i64 X∧ae (ay.l0 kq X a2 y = some (r1,r2,r3,r4))∧ae (kq≤k)∧ae (w'.heap[aa]? = some (.cells #[.int .i64 a2,(.slice aB y.length am)] 30 (0,0)))∧ae (w'.heap[a9]? = some (.cells #[.int .i64 aF,.int .i64 aL,.int .i64 aO] 89 (0,0)))∧ae (Below w.heap.size w w'))
  case atStart=>exact ⟨(0),(0),(0),(0),af.F,H',⟨Nat.le_refl _⟩,⟨af.Bw j.out⟩,⟨af.Bw z.out⟩,⟨af.Lw HB.out⟩⟩
  case round =>
   clear H'
   obtain ⟨X,aF,aL,aO,rfl,HA,b3,j,z,HB⟩:=hrel
   cases gk with
   | zero=>exact absurd HA.out (by simp [ay.l0])
   | succ k1 =>
    have H:=HA.out
    clear HA
    simp only [ay.l0] at H
    by_cases c8:X < (y.length:Int)
    ·rw [if_pos c8] at H
     have dt:=decide_eq_true c8
     clear c8
     have H':=ae.mk H
     clear H
     have hV:=a0.out
     have hW:=a1.out
     obtain ⟨du,dv,dC,dE⟩:=af.bw j.out
     go_wp2
     go_loopg [5] k1 (fun kq v5 w'=>∃ (a5:Int) (ap:Int) (ar:Int) (aw:Int),v5 = .int .i64 a5∧ae (ay.l1 kq X a5 a2 y = some (r1,r2,r3,r4))∧ae (kq≤k1)∧ae (w'.heap[aa]? = some (.cells #[.int .i64 a2,(.slice aB y.length am)] 30 (0,0)))∧ae (w'.heap[a9]? = some (.cells #[.int .i64 ap,.int .i64 ar,.int .i64 aw] 89 (0,0)))∧ae (Below w.heap.size w w'))
     case atStart=>exact ⟨(0),(aF),(aL),(aO),af.F,H',⟨Nat.le_refl _⟩,⟨af.Bw j.out⟩,⟨af.Bw z.out⟩,⟨af.Lw HB.out⟩⟩
     case round =>
      clear H'
      obtain ⟨a5,ap,ar,aw,rfl,HA,b4,j,z,HB⟩:=hrel
      cases gk with
      | zero=>exact absurd HA.out (by simp [ay.l1])
      | succ k2 =>
       have H:=HA.out
       clear HA
       simp only [ay.l1] at H
       by_cases ci:a5 < (y.length:Int)
       ·rw [if_pos ci] at H
        have dl:=decide_eq_true ci
        clear ci
        have H':=ae.mk H
        clear H
        have h7:=a0.out
        have h8:=a1.out
        obtain ⟨dT,e0,e1,e2⟩:=af.bw j.out
        go_wp2
        go_loopg [6] k2 (fun kq v6 w'=>∃ (Y:Int) (a6:Int) (a7:Int) (a8:Int),v6 = .int .i64 Y∧ae (ay.l2 kq X a5 Y a2 y = some (r1,r2,r3,r4))∧ae (kq≤k2)∧ae (w'.heap[aa]? = some (.cells #[.int .i64 a2,(.slice aB y.length am)] 30 (0,0)))∧ae (w'.heap[a9]? = some (.cells #[.int .i64 a6,.int .i64 a7,.int .i64 a8] 89 (0,0)))∧ae (Below w.heap.size w w'))
        case atStart=>exact ⟨(0),(ap),(ar),(aw),af.F,H',⟨Nat.le_refl _⟩,⟨af.Bw j.out⟩,⟨af.Bw z.out⟩,⟨af.Lw HB.out⟩⟩
        case round =>
         clear H'
         obtain ⟨Y,a6,a7,a8,rfl,HA,cb,j,z,HB⟩:=hrel
         cases gk with
         | zero=>exact absurd HA.out (by simp [ay.l2])
         | succ k3 =>
          have H:=HA.out
          clear HA
          simp only [ay.l2] at H
          by_cases cp:Y < a2
          ·rw [if_pos cp] at H
           have dp:=decide_eq_true cp
           clear cp
           obtain ⟨e3,H⟩:=af.ip H
           have h9:=decide_eq_true e3
           clear e3
           obtain ⟨e4,H⟩:=af.ip H
           have hj:=decide_eq_true e4
           clear e4
           obtain ⟨e5,H⟩:=af.ip H
           have hl:=decide_eq_true e5
           clear e5
           obtain ⟨e6,H⟩:=af.ip H
           have hm:=decide_eq_true e6
           clear e6
           obtain ⟨t120,d6,H⟩:=af.be H
           (try dsimp only at H)
           by_cases d7:t120 = true
           ·subst d7
            replace H:((cz.f (rd y a5) Y).bind fun t121=>(if t121 = true then (ay.l2 k3 X a5 (wrap64 (Y+1)) a2 y) else ((aN.f k3 a2 y (rd y X) (rd y a5) Y).bind fun t122=>(if t122 = true then (ay.l2 k3 X a5 (wrap64 (Y+1)) a2 y) else (some (rd y X,rd y a5,Y,true)))))) = some (r1,r2,r3,r4):=by rw [if_pos rfl] at H;exact H
            obtain ⟨t121,dq,H⟩:=af.be H
            (try dsimp only at H)
            by_cases d8:t121 = true
            ·subst d8
             replace H:(ay.l2 k3 X a5 (wrap64 (Y+1)) a2 y) = some (r1,r2,r3,r4):=by rw [if_pos rfl] at H;exact H
             have H':=ae.mk H
             clear H
             have hn:=a0.out
             have ho:=a1.out
             obtain ⟨e7,e8,ea,eb⟩:=af.bw j.out
             obtain ⟨ao,aS,a3,d2,d3⟩:=af.ai ab.out X
             cases aS
             try replace a3:=(HB.out.cell (World.block_lt_of_cell? w _ a3)).trans a3
             obtain ⟨aP,b0,a4,d4,d5⟩:=af.ai ab.out a5
             obtain rfl:ao = aP:=(by injection b0)
             try replace a4:=(HB.out.cell (World.block_lt_of_cell? w _ a4)).trans a4
             go_wp2_with (first | ((with_reducible refine aA (f:=89) rfl ?_);refine af.gl (some 48) Tryz.func89 #[.int .i64 (rd y X),.int .i64 Y] ?_;(with_reducible refine (cz.calls (rd y X) Y true _ d6.out).mono ?_);rintro e w' ⟨rfl,⟨nd,rfl⟩⟩;refine ⟨_,rfl,?_⟩) | (go_at_call 89;(with_reducible refine (cz.calls (rd y a5) Y true _ dq.out).mono ?_);rintro e w' ⟨rfl,⟨nd,rfl⟩⟩))
             go_roundg k3
             case measure=>have:=b3.out;have:=b4.out;have:=cb.out;omega
             case rel=>exact ⟨(wrap64 (Y+1)),(a6),(a7),(a8),af.F,H',⟨by have:=b3.out;have:=b4.out;have:=cb.out;omega⟩,⟨af.Bw j.out⟩,⟨af.Bw z.out⟩,⟨af.Lw HB.out⟩⟩
            ·replace d8:=Bool.eq_false_iff.mpr d8
             subst d8
             replace H:((aN.f k3 a2 y (rd y X) (rd y a5) Y).bind fun t122=>(if t122 = true then (ay.l2 k3 X a5 (wrap64 (Y+1)) a2 y) else (some (rd y X,rd y a5,Y,true)))) = some (r1,r2,r3,r4):=by rw [if_neg (show ¬ (false = true) by decide)] at H;exact H
             obtain ⟨t122,ec,H⟩:=af.be H
             (try dsimp only at H)
             by_cases d9:t122 = true
             ·subst d9
              replace H:(ay.l2 k3 X a5 (wrap64 (Y+1)) a2 y) = some (r1,r2,r3,r4):=by rw [if_pos rfl] at H;exact H
              have H':=ae.mk H
              clear H
              have hq:=a0.out
              have hr:=a1.out
              obtain ⟨ed,ee,ef,eh⟩:=af.bw j.out
              obtain ⟨ao,aS,a3,d2,d3⟩:=af.ai ab.out X
              cases aS
              try replace a3:=(HB.out.cell (World.block_lt_of_cell? w _ a3)).trans a3
              obtain ⟨aP,b0,a4,d4,d5⟩:=af.ai ab.out a5
              obtain rfl:ao = aP:=(by injection b0)
              try replace a4:=(HB.out.cell (World.block_lt_of_cell? w _ a4)).trans a4
              go_wp2_with (first | ((with_reducible refine aA (f:=89) rfl ?_);refine af.gl (some 48) Tryz.func89 #[.int .i64 (rd y X),.int .i64 Y] ?_;(with_reducible refine (cz.calls (rd y X) Y true _ d6.out).mono ?_);rintro e w' ⟨rfl,⟨nd,rfl⟩⟩;refine ⟨_,rfl,?_⟩) | (go_at_call 89;(with_reducible refine (cz.calls (rd y a5) Y false _ dq.out).mono ?_);rintro e w' ⟨rfl,⟨nd,rfl⟩⟩) | (go_at_call 138;(with_reducible refine (aN.calls k3 a2 _ _ y (rd y X) (rd y a5) Y true _ ?side1 ?side2 ec.out).mono ?_);(case side1=>exact af.Cw (Kd.aT ab.out HB.out));(case side2=>exact ca.out);rintro e hX ⟨rfl,hb⟩;replace j:=af.bb j hb;replace z:=af.bb z hb;replace HB:=af.lb HB hb;(try clear hb);(try clear ht);(try clear hk);(try clear hi)))
              go_roundg k3
              case measure=>have:=b3.out;have:=b4.out;have:=cb.out;omega
              case rel=>exact ⟨(wrap64 (Y+1)),(a6),(a7),(a8),af.F,H',⟨by have:=b3.out;have:=b4.out;have:=cb.out;omega⟩,⟨af.Bw j.out⟩,⟨af.Bw z.out⟩,⟨af.Lw HB.out⟩⟩
             ·replace d9:=Bool.eq_false_iff.mpr d9
              subst d9
              replace H:(some (rd y X,rd y a5,Y,true)) = some (r1,r2,r3,r4):=by rw [if_neg (show ¬ (false = true) by decide)] at H;exact H
              simp only [Option.some.injEq,Prod.mk.injEq] at H
              obtain ⟨rfl,rfl,rfl,rfl⟩:=H
              have hu:=a0.out
              have hx:=a1.out
              obtain ⟨ei,ej,el,em⟩:=af.bw j.out
              obtain ⟨ao,aS,a3,d2,d3⟩:=af.ai ab.out X
              cases aS
              try replace a3:=(HB.out.cell (World.block_lt_of_cell? w _ a3)).trans a3
              obtain ⟨aP,b0,a4,d4,d5⟩:=af.ai ab.out a5
              obtain rfl:ao = aP:=(by injection b0)
              try replace a4:=(HB.out.cell (World.block_lt_of_cell? w _ a4)).trans a4
              go_wp2_with (first | ((with_reducible refine aA (f:=89) rfl ?_);refine af.gl (some 48) Tryz.func89 #[.int .i64 (rd y X),.int .i64 Y] ?_;(with_reducible refine (cz.calls (rd y X) Y true _ d6.out).mono ?_);rintro e w' ⟨rfl,⟨nd,rfl⟩⟩;refine ⟨_,rfl,?_⟩;(try (rw [fD wr];generalize aR:World.drewN wr _ = wr;have cc:ae (wr.heap[aa]? = some (.cells #[.int .i64 a2,.slice (some ao) y.length am] 30 (0,0))):=⟨by rw [← aR];exact (af.Bw j.out)⟩;have ce:ae (wr.heap[a9]? = some (.cells #[.int .i64 a6,.int .i64 a7,.int .i64 a8] 89 (0,0))):=⟨by rw [← aR];exact (af.Bw z.out)⟩;have cf:ae (Below w.heap.size w wr):=⟨by rw [← aR];exact (af.Lw HB.out)⟩;clear j z HB aR;have j:=cc;have z:=ce;have HB:=cf;clear cc ce cf;have b5:wr.cell? ⟨aa,0,none⟩ = some (.int .i64 a2):=(ak j.out 0).trans rfl;have ba:=au j.out 0;have bc:wr.cell? ⟨aa,1,none⟩ = some (.slice (some ao) y.length am):=(ak j.out 1).trans rfl;have bi:=au j.out 1;have bm:wr.cell? ⟨a9,0,none⟩ = some (.int .i64 a6):=(ak z.out 0).trans rfl;have bo:=au z.out 0;have bs:wr.cell? ⟨a9,1,none⟩ = some (.int .i64 a7):=(ak z.out 1).trans rfl;have bv:=au z.out 1;have c0:wr.cell? ⟨a9,2,none⟩ = some (.int .i64 a8):=(ak z.out 2).trans rfl;have c1:=au z.out 2))) | (go_at_call 89;(with_reducible refine (cz.calls (rd y a5) Y false _ dq.out).mono ?_);rintro e w' ⟨rfl,⟨nd,rfl⟩⟩;(try (rw [fD wr];generalize aR:World.drewN wr _ = wr;have cc:ae (wr.heap[aa]? = some (.cells #[.int .i64 a2,.slice (some ao) y.length am] 30 (0,0))):=⟨by rw [← aR];exact (af.Bw j.out)⟩;have ce:ae (wr.heap[a9]? = some (.cells #[.int .i64 a6,.int .i64 a7,.int .i64 a8] 89 (0,0))):=⟨by rw [← aR];exact (af.Bw z.out)⟩;have cf:ae (Below w.heap.size w wr):=⟨by rw [← aR];exact (af.Lw HB.out)⟩;clear j z HB aR;have j:=cc;have z:=ce;have HB:=cf;clear cc ce cf;have b5:wr.cell? ⟨aa,0,none⟩ = some (.int .i64 a2):=(ak j.out 0).trans rfl;have ba:=au j.out 0;have bc:wr.cell? ⟨aa,1,none⟩ = some (.slice (some ao) y.length am):=(ak j.out 1).trans rfl;have bi:=au j.out 1;have bm:wr.cell? ⟨a9,0,none⟩ = some (.int .i64 a6):=(ak z.out 0).trans rfl;have bo:=au z.out 0;have bs:wr.cell? ⟨a9,1,none⟩ = some (.int .i64 a7):=(ak z.out 1).trans rfl;have bv:=au z.out 1;have c0:wr.cell? ⟨a9,2,none⟩ = some (.int .i64 a8):=(ak z.out 2).trans rfl;have c1:=au z.out 2))) | (go_at_call 138;(with_reducible refine (aN.calls k3 a2 _ _ y (rd y X) (rd y a5) Y false _ ?side1 ?side2 ec.out).mono ?_);(case side1=>exact af.Cw (Kd.aT ab.out HB.out));(case side2=>exact ca.out);rintro e hZ ⟨rfl,hb⟩;replace j:=af.bb j hb;replace z:=af.bb z hb;replace HB:=af.lb HB hb;(try clear hb);(try clear ht);(try clear hk);(try clear hi);obtain ⟨eo,eq,es,et,ev,ew⟩:=af.nQ z.out))
              refine bodyPost_ret (eJ rfl _ _ a9 89 #[.int .i64 (rd y X),.int .i64 (rd y a5),.int .i64 Y] (0,0) _ rfl af.B Tryz.underlying89 rfl (by kernel_rfl)) rfl ?_
              exact ⟨af.E,af.L⟩
           ·replace d7:=Bool.eq_false_iff.mpr d7
            subst d7
            replace H:(ay.l2 k3 X a5 (wrap64 (Y+1)) a2 y) = some (r1,r2,r3,r4):=by rw [if_neg (show ¬ (false = true) by decide)] at H;exact H
            have H':=ae.mk H
            clear H
            have hz:=a0.out
            have hA:=a1.out
            obtain ⟨ex,eQ,f0,f1⟩:=af.bw j.out
            obtain ⟨ao,aS,a3,d2,d3⟩:=af.ai ab.out X
            cases aS
            try replace a3:=(HB.out.cell (World.block_lt_of_cell? w _ a3)).trans a3
            obtain ⟨aP,b0,a4,d4,d5⟩:=af.ai ab.out a5
            obtain rfl:ao = aP:=(by injection b0)
            try replace a4:=(HB.out.cell (World.block_lt_of_cell? w _ a4)).trans a4
            go_wp2_with (first | ((with_reducible refine aA (f:=89) rfl ?_);refine af.gl (some 48) Tryz.func89 #[.int .i64 (rd y X),.int .i64 Y] ?_;(with_reducible refine (cz.calls (rd y X) Y false _ d6.out).mono ?_);rintro e w' ⟨rfl,⟨nd,rfl⟩⟩;refine ⟨_,rfl,?_⟩))
            go_roundg k3
            case measure=>have:=b3.out;have:=b4.out;have:=cb.out;omega
            case rel=>exact ⟨(wrap64 (Y+1)),(a6),(a7),(a8),af.F,H',⟨by have:=b3.out;have:=b4.out;have:=cb.out;omega⟩,⟨af.Bw j.out⟩,⟨af.Bw z.out⟩,⟨af.Lw HB.out⟩⟩
          ·rw [if_neg cp] at H
           have dp:decide (Y < a2) = false:=decide_eq_false cp
           clear cp
           have H':=ae.mk H
           clear H
           have hC:=a0.out
           have hD:=a1.out
           obtain ⟨f2,f3,f4,f5⟩:=af.bw j.out
           go_wp2
           go_roundg k3
           case measure=>have:=b3.out;have:=b4.out;have:=cb.out;omega
           case rel=>exact ⟨(wrap64 (a5+1)),(a6),(a7),(a8),af.F,H',⟨by have:=b3.out;have:=b4.out;have:=cb.out;omega⟩,⟨af.Bw j.out⟩,⟨af.Bw z.out⟩,⟨af.Lw HB.out⟩⟩
       ·rw [if_neg ci] at H
        have dl:decide (a5 < (y.length:Int)) = false:=decide_eq_false ci
        clear ci
        have H':=ae.mk H
        clear H
        have hE:=a0.out
        have hG:=a1.out
        obtain ⟨f6,f7,f8,f9⟩:=af.bw j.out
        go_wp2
        go_roundg k2
        case measure=>have:=b3.out;have:=b4.out;omega
        case rel=>exact ⟨(wrap64 (X+1)),(ap),(ar),(aw),af.F,H',⟨by have:=b3.out;have:=b4.out;omega⟩,⟨af.Bw j.out⟩,⟨af.Bw z.out⟩,⟨af.Lw HB.out⟩⟩
    ·rw [if_neg c8] at H
     have dt:decide (X < (y.length:Int)) = false:=decide_eq_false c8
     clear c8
     simp only [Option.some.injEq,Prod.mk.injEq] at H
     obtain ⟨rfl,rfl,rfl,rfl⟩:=H
     have hH:=a0.out
     have hI:=a1.out
     obtain ⟨fd,fi,fj,fp⟩:=af.bw j.out
     obtain ⟨fs,ft,fw,g0,g1,g2⟩:=af.nQ z.out
     go_wp2
     refine bodyPost_ret (eJ rfl _ _ a9 89 #[.int .i64 0,.int .i64 0,.int .i64 0] (0,0) _ rfl af.B Tryz.underlying89 rfl (by kernel_rfl)) rfl ?_
     exact ⟨af.E,af.L⟩
 ·replace c3:=Bool.eq_false_iff.mpr c3
  subst c3
  replace H:(some (0,0,0,false)) = some (r1,r2,r3,r4):=by rw [if_neg (show ¬ (false = true) by decide)] at H;exact H
  simp only [Option.some.injEq,Prod.mk.injEq] at H
  obtain ⟨rfl,rfl,rfl,rfl⟩:=H
  go_enter Tryz.func95,Tryz.ntmps95
  go_wp2_with (first | ((with_reducible refine bh (N:=1) rfl ?_);refine af.bx 1 #[.int .i64 a2,.slice aB y.length am] 30 ?_;intro aa hg i0 hbox hb;have j:=ae.mk hbox;have db:=af.gw hg HB;have dd:=af.gw hg HB;replace HB:=af.lb HB hb;clear hb hbox hg) | ((with_reducible refine bh (N:=2) rfl ?_);refine af.bx 2 #[.int .i64 0,.int .i64 0,.int .i64 0] 89 ?_;intro a9 hg b2 hbox hb;have z:=ae.mk hbox;have df:=af.gw hg HB;have dk:=af.gw hg HB;replace HB:=af.lb HB hb;have a0:=af.nl hg j;have a1:=af.ng hg j;replace j:=af.bb j hb;clear hb hbox hg;have hL:=a0.out;have hM:=a1.out;obtain ⟨g3,g4,g5,g6⟩:=af.bw j.out) | ((with_reducible refine aA (f:=96) rfl ?_);refine af.gl (some 13) Tryz.func96 #[.int .i64 a2,.slice aB y.length am] ?_;(with_reducible refine (bf.calls k a2 _ _ y false _ ?side1 ?side2 A2.out).mono ?_);(case side1=>exact af.Cw (Kd.aT ab.out HB.out));(case side2=>exact ca.out);rintro e w' ⟨rfl,⟨nd,rfl⟩⟩;refine ⟨_,rfl,?_⟩;(try (rw [fD b2];generalize aR:World.drewN b2 _ = b2;have cc:ae (b2.heap[aa]? = some (.cells #[.int .i64 a2,.slice aB y.length am] 30 (0,0))):=⟨by rw [← aR];exact (af.Bw j.out)⟩;have ce:ae (b2.heap[a9]? = some (.cells #[.int .i64 0,.int .i64 0,.int .i64 0] 89 (0,0))):=⟨by rw [← aR];exact (af.Bw z.out)⟩;have cf:ae (Below w.heap.size w b2):=⟨by rw [← aR];exact (af.Lw HB.out)⟩;clear j z HB aR;have j:=cc;have z:=ce;have HB:=cf;clear cc ce cf;have b5:b2.cell? ⟨aa,0,none⟩ = some (.int .i64 a2):=(ak j.out 0).trans rfl;have ba:=au j.out 0;have bc:b2.cell? ⟨aa,1,none⟩ = some (.slice aB y.length am):=(ak j.out 1).trans rfl;have bi:=au j.out 1;have bm:b2.cell? ⟨a9,0,none⟩ = some (.int .i64 0):=(ak z.out 0).trans rfl;have bo:=au z.out 0;have bs:b2.cell? ⟨a9,1,none⟩ = some (.int .i64 0):=(ak z.out 1).trans rfl;have bv:=au z.out 1;have c0:b2.cell? ⟨a9,2,none⟩ = some (.int .i64 0):=(ak z.out 2).trans rfl;have c1:=au z.out 2));obtain ⟨g7,g8,g9,gb,gc,go⟩:=af.nQ z.out))
  refine bodyPost_ret (eJ rfl _ _ a9 89 #[.int .i64 0,.int .i64 0,.int .i64 0] (0,0) _ rfl af.B Tryz.underlying89 rfl (by kernel_rfl)) rfl ?_
  exact ⟨af.E,af.L⟩
def bI.f (k:Nat) (y:Int) (j:List Int):Option (Bool):=(ay.f k y j).bind fun z=>((bf.f k y j).bind fun t129=>(if t129 = true then (if (j.length:Int) > 0 then (some (!z.2.2.2)) else (some false)) else (some false)))
theorem bI.mono:∀ a0 j k,ic (bI.f k a0 j) (bI.f (k+1) a0 j):=by
 intro a0 j k
 unfold bI.f
 exact af.mt
instance bI.m:af.V2 bI.f:=fun _ _ _=>⟨bI.mono _ _ _⟩
set_option maxHeartbeats 8000000 in
set_option maxRecDepth 100000 in
theorem bI.calls (k:Nat) (z:Int) (a0:Option Addr) (a1:Nat) (y:List Int) (r:Bool) (w:World) (a5:Kd.C (Kd.int .i64) w a0 y.length y) (a6:y.length≤a1) (h:bI.f k z y = some r) :
  Calls Tryz.prog 26 #[.agg #[.int .i64 z,.slice a0 y.length a1]] w fun e w'=>e = .returned (.bool r)∧Below w.heap.size w w':=by
 have dv:=Tryz.underlying30
 have dC:=Tryz.underlying89
 have a2:=ae.mk a5
 have a3:=ae.mk a6
 clear a5 a6
 have HB:=ae.mk (Below.refl w.heap.size w)
 unfold bI.f at h
 have H:=h
 clear h
 obtain ⟨⟨t124,t125,t126,t127⟩,A2,H⟩:=af.be H
 (try dsimp only at H)
 obtain ⟨t129,A3,H⟩:=af.be H
 (try dsimp only at H)
 by_cases c4:t129 = true
 ·subst c4
  replace H:(if (y.length:Int) > 0 then (some (!t127)) else (some false)) = some r:=by rw [if_pos rfl] at H;exact H
  by_cases c5:(y.length:Int) > 0
  ·rw [if_pos c5] at H
   have ao:=decide_eq_true c5
   have ap:decide (0 < y.length) = true:=decide_eq_true (by omega)
   clear c5
   obtain rfl:=Option.some.inj H
   go_enter Tryz.func26,Tryz.ntmps26
   go_wp2_with (first | ((with_reducible refine bh (N:=1) rfl ?_);(try (refine ff (by rfl) ?_;dsimp only));refine fy ?hg (N:=1) ?hd (cs:=#[.int .i64 z,.slice a0 y.length a1]) (t:=30) ?hr ?_;(case hd=>rfl);(case hg=>rfl);(case hr=>first | (go_simp;done) | (go_simp;rfl));intro a7 hg w6 hbox hb;have j:=ae.mk hbox;have a8:=af.gw hg HB;have a9:=af.gw hg HB;replace HB:=af.lb HB hb;clear hb hbox hg;obtain ⟨d9,db,dd,df⟩:=af.bw j.out) | (refine af.gl (some 7) Tryz.func95 #[.agg #[.int .i64 z,.slice a0 y.length a1]] ?_;(with_reducible refine (ay.calls k z _ _ y t124 t125 t126 t127 _ ?side1 ?side2 A2.out).mono ?_);(case side1=>exact af.Cw (Kd.aT a2.out HB.out));(case side2=>exact a3.out);rintro e w8 ⟨rfl,hb⟩;refine ⟨_,rfl,?_⟩;replace j:=af.bb j hb;replace HB:=ae.mk (ax af.L hb);(try clear hb);(try clear ar);(try clear hk);(try clear hi)) | ((with_reducible refine bh (N:=3) rfl ?_);(try (refine ff (by rfl) ?_;dsimp only));refine fy ?hg (N:=3) ?hd (cs:=#[.int .i64 0,.int .i64 0,.int .i64 0]) (t:=89) ?hr ?_;(case hd=>rfl);(case hg=>rfl);(case hr=>first | (go_simp;done) | (go_simp;rfl));intro aa hg w9 hbox hb;have a4:=ae.mk hbox;have ab:=af.gL (w:=w) hg af.L;have am:=af.gL (w:=w) hg af.L;replace HB:=ae.mk (ax af.L hb);have X:=af.nl hg j;have Y:=af.ng hg j;replace j:=af.bb j hb;clear hb hbox hg;have dk:=Y.out;have dl:=X.out;obtain ⟨aw,aB,aF,aL,aO,aP⟩:=af.nQ a4.out;obtain ⟨aR,aS,b0,b2⟩:=af.bw j.out) | (refine af.gl (some 14) Tryz.func96 #[.int .i64 z,.slice a0 y.length a1] ?_;(with_reducible refine (bf.calls k z _ _ y true _ ?side1 ?side2 A3.out).mono ?_);(case side1=>exact Kd.aT a2.out af.L);(case side2=>exact a3.out);rintro e w' ⟨rfl,⟨nd,rfl⟩⟩;refine ⟨_,rfl,?_⟩))
   go_ret
   exact ⟨af.E,af.L⟩
  ·rw [if_neg c5] at H
   have ao:decide (0 < (y.length:Int)) = false:=decide_eq_false c5
   have ap:decide (0 < y.length) = false:=decide_eq_false (by omega)
   clear c5
   obtain rfl:=Option.some.inj H
   go_enter Tryz.func26,Tryz.ntmps26
   go_wp2_with (first | ((with_reducible refine bh (N:=1) rfl ?_);(try (refine ff (by rfl) ?_;dsimp only));refine fy ?hg (N:=1) ?hd (cs:=#[.int .i64 z,.slice a0 y.length a1]) (t:=30) ?hr ?_;(case hd=>rfl);(case hg=>rfl);(case hr=>first | (go_simp;done) | (go_simp;rfl));intro a7 hg dE hbox hb;have j:=ae.mk hbox;have a8:=af.gw hg HB;have a9:=af.gw hg HB;replace HB:=af.lb HB hb;clear hb hbox hg;obtain ⟨b3,b4,b5,ba⟩:=af.bw j.out) | (refine af.gl (some 7) Tryz.func95 #[.agg #[.int .i64 z,.slice a0 y.length a1]] ?_;(with_reducible refine (ay.calls k z _ _ y t124 t125 t126 t127 _ ?side1 ?side2 A2.out).mono ?_);(case side1=>exact af.Cw (Kd.aT a2.out HB.out));(case side2=>exact a3.out);rintro e dT ⟨rfl,hb⟩;refine ⟨_,rfl,?_⟩;replace j:=af.bb j hb;replace HB:=ae.mk (ax af.L hb);(try clear hb);(try clear ar);(try clear hk);(try clear hi)) | ((with_reducible refine bh (N:=3) rfl ?_);(try (refine ff (by rfl) ?_;dsimp only));refine fy ?hg (N:=3) ?hd (cs:=#[.int .i64 0,.int .i64 0,.int .i64 0]) (t:=89) ?hr ?_;(case hd=>rfl);(case hg=>rfl);(case hr=>first | (go_simp;done) | (go_simp;rfl));intro aa hg e0 hbox hb;have a4:=ae.mk hbox;have ab:=af.gL (w:=w) hg af.L;have am:=af.gL (w:=w) hg af.L;replace HB:=ae.mk (ax af.L hb);have X:=af.nl hg j;have Y:=af.ng hg j;replace j:=af.bb j hb;clear hb hbox hg;have dp:=Y.out;have dq:=X.out;obtain ⟨bc,bi,bm,bo,bs,bv⟩:=af.nQ a4.out;obtain ⟨c0,c1,ca,cb⟩:=af.bw j.out) | (refine af.gl (some 14) Tryz.func96 #[.int .i64 z,.slice a0 y.length a1] ?_;(with_reducible refine (bf.calls k z _ _ y true _ ?side1 ?side2 A3.out).mono ?_);(case side1=>exact Kd.aT a2.out af.L);(case side2=>exact a3.out);rintro e w' ⟨rfl,⟨nd,rfl⟩⟩;refine ⟨_,rfl,?_⟩))
   go_ret
   exact ⟨af.E,af.L⟩
 ·replace c4:=Bool.eq_false_iff.mpr c4
  subst c4
  replace H:(some false) = some r:=by rw [if_neg (show ¬ (false = true) by decide)] at H;exact H
  obtain rfl:=Option.some.inj H
  go_enter Tryz.func26,Tryz.ntmps26
  go_wp2_with (first | ((with_reducible refine bh (N:=1) rfl ?_);(try (refine ff (by rfl) ?_;dsimp only));refine fy ?hg (N:=1) ?hd (cs:=#[.int .i64 z,.slice a0 y.length a1]) (t:=30) ?hr ?_;(case hd=>rfl);(case hg=>rfl);(case hr=>first | (go_simp;done) | (go_simp;rfl));intro a7 hg e1 hbox hb;have j:=ae.mk hbox;have a8:=af.gw hg HB;have a9:=af.gw hg HB;replace HB:=af.lb HB hb;clear hb hbox hg;obtain ⟨cc,ce,cf,ci⟩:=af.bw j.out) | (refine af.gl (some 7) Tryz.func95 #[.agg #[.int .i64 z,.slice a0 y.length a1]] ?_;(with_reducible refine (ay.calls k z _ _ y t124 t125 t126 t127 _ ?side1 ?side2 A2.out).mono ?_);(case side1=>exact af.Cw (Kd.aT a2.out HB.out));(case side2=>exact a3.out);rintro e e2 ⟨rfl,hb⟩;refine ⟨_,rfl,?_⟩;replace j:=af.bb j hb;replace HB:=ae.mk (ax af.L hb);(try clear hb);(try clear ar);(try clear hk);(try clear hi)) | ((with_reducible refine bh (N:=3) rfl ?_);(try (refine ff (by rfl) ?_;dsimp only));refine fy ?hg (N:=3) ?hd (cs:=#[.int .i64 0,.int .i64 0,.int .i64 0]) (t:=89) ?hr ?_;(case hd=>rfl);(case hg=>rfl);(case hr=>first | (go_simp;done) | (go_simp;rfl));intro aa hg e3 hbox hb;have a4:=ae.mk hbox;have ab:=af.gL (w:=w) hg af.L;have am:=af.gL (w:=w) hg af.L;replace HB:=ae.mk (ax af.L hb);have X:=af.nl hg j;have Y:=af.ng hg j;replace j:=af.bb j hb;clear hb hbox hg;have dt:=Y.out;have du:=X.out;obtain ⟨cp,d0,d1,d2,d3,d4⟩:=af.nQ a4.out;obtain ⟨d5,d6,d7,d8⟩:=af.bw j.out) | (refine af.gl (some 14) Tryz.func96 #[.int .i64 z,.slice a0 y.length a1] ?_;(with_reducible refine (bf.calls k z _ _ y false _ ?side1 ?side2 A3.out).mono ?_);(case side1=>exact Kd.aT a2.out af.L);(case side2=>exact a3.out);rintro e w' ⟨rfl,⟨nd,rfl⟩⟩;refine ⟨_,rfl,?_⟩))
  go_ret
  exact ⟨af.E,af.L⟩
def cF.f (a0:Int):Option (Int):=(cC.f a0 0 8).bind fun t130=>(if t130 = true then (if 0≤(IntKind.u64.wrap (a0)) then (some (wrap64 ((shl .i64 1 (IntKind.u64.wrap (a0))) - 1))) else (none)) else (some 0))
set_option maxHeartbeats 8000000 in
set_option maxRecDepth 100000 in
theorem cF.calls (a0:Int) (r:Int) (w:World) (h:cF.f a0 = some r) :
  Calls Tryz.prog 24 #[.int .i64 a0] w fun e w'=>e = .returned (.int .i64 r)∧cS w w':=by
 unfold cF.f at h
 have H:=h
 clear h
 obtain ⟨t130,A2,H⟩:=af.be H
 (try dsimp only at H)
 by_cases c3:t130 = true
 ·subst c3
  replace H:(if 0≤(IntKind.u64.wrap (a0)) then (some (wrap64 ((shl .i64 1 (IntKind.u64.wrap (a0))) - 1))) else (none)) = some r:=by rw [if_pos rfl] at H;exact H
  obtain ⟨j,X⟩:∃ j_:Int,(IntKind.u64.wrap (a0)) = j_:=⟨_,rfl⟩
  replace H:(if 0≤(j) then (some (wrap64 ((shl .i64 1 (j)) - 1))) else (none)) = some r:=by first | (rw [X] at H;exact H) | (simp only [X] at H ⊢;exact H)
  (try rw [X] at A2)
  obtain ⟨c5,H⟩:=af.ip H
  have a7:=eq_true c5
  have a8:decide (0≤(j)) = true:=decide_eq_true c5
  clear c5
  obtain ⟨z,y⟩:∃ j_:Int,(shl .i64 1 (j)) = j_:=⟨_,rfl⟩
  replace H:(some (wrap64 ((z) - 1))) = some r:=by first | (rw [y] at H;exact H) | (simp only [y] at H ⊢;exact H)
  (try rw [y] at A2)
  have Y:(IntKind.i64.wrap (1 * 2 ^ min (j).toNat 64)) = z:=y
  have a1:(j)≤64→(IntKind.i64.wrap (1 * 2 ^ (j).toNat)) = z:=fI y
  have a3:(IntKind.i64.wrap (2 ^ min (j).toNat 64)) = z:=by have h_:=Y;rw [Int.one_mul] at h_;exact h_
  have a4:(j)≤64→(IntKind.i64.wrap (2 ^ (j).toNat)) = z:=fun a2=>by have h_:=a1 a2;rw [Int.one_mul] at h_;exact h_
  have a5:(wrap64 (1 * 2 ^ min (j).toNat 64)) = z:=(aM _).symm.trans Y
  have a6:(j)≤64→(wrap64 (1 * 2 ^ (j).toNat)) = z:=fun h_=>(aM _).symm.trans (a1 h_)
  obtain rfl:=Option.some.inj H
  go_enter Tryz.func24,Tryz.ntmps24
  go_wp2_with (first | (refine af.gl (some 4) Tryz.func94 #[.int .i64 a0,.int .i64 0,.int .i64 8] ?_;(with_reducible refine (cC.calls a0 0 8 true _ A2.out).mono ?_);rintro e w' ⟨rfl,⟨nd,rfl⟩⟩;refine ⟨_,rfl,?_⟩))
  go_ret
  exact ⟨by first | rfl | (simp;done) | (simp only [← X,← y] <;> (first | rfl | simp)) | (simp [*];done),af.G⟩
 ·replace c3:=Bool.eq_false_iff.mpr c3
  subst c3
  replace H:(some 0) = some r:=by rw [if_neg (show ¬ (false = true) by decide)] at H;exact H
  obtain rfl:=Option.some.inj H
  go_enter Tryz.func24,Tryz.ntmps24
  go_wp2_with (first | (refine af.gl (some 4) Tryz.func94 #[.int .i64 a0,.int .i64 0,.int .i64 8] ?_;(with_reducible refine (cC.calls a0 0 8 false _ A2.out).mono ?_);rintro e w' ⟨rfl,⟨nd,rfl⟩⟩;refine ⟨_,rfl,?_⟩))
  go_ret
  exact ⟨af.F,af.G⟩
def bC.l0:Nat→Int→Int→Option (Int)
 | 0,_,_=>none
 | k+1,j,y=>if j > 0 then (bC.l0 k (j / 2) (wrap64 (y+(Go.bits .and .i64 j 1)))) else (some y)
def bC.f (k:Nat) (a0:Int):Option (Int):=(bN.f 8 a0).bind fun t131=>(if t131 = true then (bC.l0 k a0 0) else (some 0))
theorem bC.cX:∀ k,af.S2 bC.l0 k
 | 0=>by and_intros <;> (repeat intro _) <;> exact af.mz rfl
 | k+1=>by
  have j:=bC.cX k
  and_intros <;> (repeat intro _) <;> unfold bC.l0 <;> exact ⟨af.mt⟩
theorem bC.mono:∀ a0 k,ic (bC.f k a0) (bC.f (k+1) a0):=by
 intro a0 k
 have j:=bC.cX k
 unfold bC.f
 exact af.mt
set_option maxHeartbeats 8000000 in
set_option maxRecDepth 100000 in
theorem bC.calls (k:Nat) (a0:Int) (r:Int) (w:World) (h:bC.f k a0 = some r) :
  Calls Tryz.prog 25 #[.int .i64 a0] w fun e w'=>e = .returned (.int .i64 r)∧cS w w':=by
 unfold bC.f at h
 have H:=h
 clear h
 obtain ⟨t131,Y,H⟩:=af.be H
 (try dsimp only at H)
 by_cases c3:t131 = true
 ·subst c3
  replace H:(bC.l0 k a0 0) = some r:=by rw [if_pos rfl] at H;exact H
  have H':=ae.mk H
  clear H
  go_enter Tryz.func25,Tryz.ntmps25
  go_wp2_with (first | (refine af.gl (some 5) Tryz.func87 #[.int .i64 8,.int .i64 a0] ?_;(with_reducible refine (bN.calls 8 a0 true _ Y.out).mono ?_);rintro e w' ⟨rfl,⟨nd,rfl⟩⟩;refine ⟨_,rfl,?_⟩))
  go_loopg [0,3] k (fun kq v0 v3 w'=>∃ (j:Int) (y:Int),v0 = .int .i64 j∧v3 = .int .i64 y∧ae (bC.l0 kq j y = some r)∧ae (kq≤k)∧cS w w')
  case atStart=>exact ⟨(a0),(0),af.F,af.F,H',⟨Nat.le_refl _⟩,af.G⟩
  case round =>
   clear H'
   obtain ⟨j,y,rfl,rfl,HA,z,⟨m1,rfl⟩⟩:=hrel
   cases gk with
   | zero=>exact absurd HA.out (by simp [bC.l0])
   | succ k1 =>
    have H:=HA.out
    clear HA
    simp only [bC.l0] at H
    by_cases c4:j > 0
    ·rw [if_pos c4] at H
     have X:=decide_eq_true c4
     clear c4
     have H':=ae.mk H
     clear H
     go_wp2
     go_roundg k1
     case measure=>have:=z.out;omega
     case rel=>exact ⟨(j / 2),(wrap64 (y+(Go.bits .and .i64 j 1))),af.F,af.F,H',⟨by have:=z.out;omega⟩,af.G⟩
    ·rw [if_neg c4] at H
     have X:decide (0 < j) = false:=decide_eq_false c4
     clear c4
     obtain rfl:=Option.some.inj H
     go_wp2
     go_ret
     exact ⟨af.F,af.G⟩
 ·replace c3:=Bool.eq_false_iff.mpr c3
  subst c3
  replace H:(some 0) = some r:=by rw [if_neg (show ¬ (false = true) by decide)] at H;exact H
  obtain rfl:=Option.some.inj H
  go_enter Tryz.func25,Tryz.ntmps25
  go_wp2_with (first | (refine af.gl (some 5) Tryz.func87 #[.int .i64 8,.int .i64 a0] ?_;(with_reducible refine (bN.calls 8 a0 false _ Y.out).mono ?_);rintro e w' ⟨rfl,⟨nd,rfl⟩⟩;refine ⟨_,rfl,?_⟩))
  go_ret
  exact ⟨af.F,af.G⟩
def fg.f (a0:Int) (j:Int):Option (Int):=if a0 > j then (some a0) else (some j)
set_option maxHeartbeats 8000000 in
set_option maxRecDepth 100000 in
theorem fg.calls (a0:Int) (y:Int) (r:Int) (w:World) (h:fg.f a0 y = some r) :
  Calls Tryz.prog 121 #[.int .i64 a0,.int .i64 y] w fun e w'=>e = .returned (.int .i64 r)∧cS w w':=by
 unfold fg.f at h
 have H:=h
 clear h
 by_cases c3:a0 > y
 ·rw [if_pos c3] at H
  have j:=decide_eq_true c3
  clear c3
  obtain rfl:=Option.some.inj H
  go_enter Tryz.func121,Tryz.ntmps121
  go_wp2
  go_ret
  exact ⟨af.F,af.G⟩
 ·rw [if_neg c3] at H
  have j:decide (y < a0) = false:=decide_eq_false c3
  clear c3
  obtain rfl:=Option.some.inj H
  go_enter Tryz.func121,Tryz.ntmps121
  go_wp2
  go_ret
  exact ⟨af.F,af.G⟩
end Go.Proofs.YtmpodackojmojaaGreat.Pr
end
